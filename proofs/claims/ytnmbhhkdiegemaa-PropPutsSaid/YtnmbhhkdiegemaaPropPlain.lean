/- The plain law of PropPuts: the document's answers are the program's. Conditions: those that each theorem names. -/
import Derived.Test.YtnmbhhkdiegemaaPropPuts
import Derived.Test.YtnmbhhkdiegemaaPropFind
import Derived.Test.YtnmbhhkdiegemaaKUtfRef
namespace Go.Proofs.Ytnmbhhkdiegemaa.KPlain
open Go.RowKit Go.Proofs.Ytnmbhhkdiegemaa.K Go.Proofs.YtnmbhhkdiegemaaW.PrintWords Go.Proofs.YtnmbhhkdiegemaaW.PrintLast Go.Proofs.YtnmbhhkdiegemaaW.PrintMore
set_option linter.unusedVariables false
set_option linter.unusedSimpArgs false

/-! ### texts -/
theorem text_both (s : ByteArray) : ∃ b : Bool, s.size ≤ 32 → Ev (fun k => utf_Is.f k (bytesOf s)) b ∧ Ev (fun k => cardexref02_Is.f k (bytesOf s)) b := by
  by_cases h : s.size ≤ 32
  · have hl : (bytesOf s).length ≤ 4611686018427387904 := by rw [bytesOf_length]; omega
    obtain ⟨b, hb, h1⟩ := utf_is (bytesOf s) (byt_bytesOf s) hl
    obtain ⟨b', hb', h2⟩ := ref_is (bytesOf s) (byt_bytesOf s) hl
    obtain rfl : b = b' := Bool.eq_iff_iff.2 (hb.trans hb'.symm)
    exact ⟨b, fun _ => ⟨h1, h2⟩⟩
  · exact ⟨false, fun hh => absurd hh h⟩
theorem text_all (s : Nat → ByteArray) (b : Nat → Bool) (hb : ∀ i, (s i).size ≤ 32 → Ev (fun k => utf_Is.f k (bytesOf (s i))) (b i) ∧ Ev (fun k => cardexref02_Is.f k (bytesOf (s i))) (b i)) :
    ∀ n : Nat, ∃ K, ∀ k, K ≤ k → ∀ i, i < n → (s i).size ≤ 32 → utf_Is.f k (bytesOf (s i)) = some (b i) ∧ cardexref02_Is.f k (bytesOf (s i)) = some (b i)
  | 0 => ⟨0, fun _ _ i hi => absurd hi (by omega)⟩
  | n + 1 => by
    obtain ⟨K, hK⟩ := text_all s b hb n
    by_cases h : (s n).size ≤ 32
    · obtain ⟨⟨K1, h1⟩, ⟨K2, h2⟩⟩ := hb n h
      refine ⟨max K (max K1 K2), fun k hk i hi hs => ?_⟩
      by_cases c : i = n
      · subst c
        exact ⟨h1 k (by omega), h2 k (by omega)⟩
      · exact hK k (by omega) i (by omega) hs
    · refine ⟨K, fun k hk i hi hs => ?_⟩
      by_cases c : i = n
      · subst c
        exact absurd hs h
      · exact hK k hk i (by omega) hs
/-! ### the tags -/
theorem tag_in (i : Nat) (hi : i < 8) (k : Nat) (hk : 51 ≤ k) : cardexref14_Tag.f k (i : Int) = some (1, tagNo i, true) := by
  refine at_rounds (fun k => cardexref14_Tag.mono (i : Int) k) hk ?_
  have e : cardexref14_Tag.f 51 (i : Int) = (cardexref14_names.f).bind fun t127 => (if 0 ≤ (i : Int) then (if (i : Int) < (t127.length : Int) then ((cardexref10_Find.f 50 (⟨#[67, 111, 110, 116, 97, 99, 116, 115]⟩ : ByteArray) (rdOf ByteArray.empty t127 (i : Int))).bind fun bt131 => (some (bt131.1, bt131.2.1, bt131.2.2))) else (none)) else (none)) := by
    unfold cardexref14_Tag.f
    rw [if_neg (by omega), decide_eq_false (by omega)]
    rfl
  rw [e]
  simp only [KFind.find_f]
  match i, hi with
  | 0, _ => exact congrArg (fun o => some (o.elim 0 Prod.fst, o.elim 0 Prod.snd, o.isSome)) (show Go.Proofs.Ytnmbhhkdiegemaa.H.findR ⟨#[67, 111, 110, 116, 97, 99, 116, 115]⟩ ⟨#[70, 105, 108, 101, 65, 115]⟩ = some (1, 30) by decide)
  | 1, _ => exact congrArg (fun o => some (o.elim 0 Prod.fst, o.elim 0 Prod.snd, o.isSome)) (show Go.Proofs.Ytnmbhhkdiegemaa.H.findR ⟨#[67, 111, 110, 116, 97, 99, 116, 115]⟩ ⟨#[70, 105, 114, 115, 116, 78, 97, 109, 101]⟩ = some (1, 31) by decide)
  | 2, _ => exact congrArg (fun o => some (o.elim 0 Prod.fst, o.elim 0 Prod.snd, o.isSome)) (show Go.Proofs.Ytnmbhhkdiegemaa.H.findR ⟨#[67, 111, 110, 116, 97, 99, 116, 115]⟩ ⟨#[76, 97, 115, 116, 78, 97, 109, 101]⟩ = some (1, 41) by decide)
  | 3, _ => exact congrArg (fun o => some (o.elim 0 Prod.fst, o.elim 0 Prod.snd, o.isSome)) (show Go.Proofs.Ytnmbhhkdiegemaa.H.findR ⟨#[67, 111, 110, 116, 97, 99, 116, 115]⟩ ⟨#[67, 111, 109, 112, 97, 110, 121, 78, 97, 109, 101]⟩ = some (1, 25) by decide)
  | 4, _ => exact congrArg (fun o => some (o.elim 0 Prod.fst, o.elim 0 Prod.snd, o.isSome)) (show Go.Proofs.Ytnmbhhkdiegemaa.H.findR ⟨#[67, 111, 110, 116, 97, 99, 116, 115]⟩ ⟨#[69, 109, 97, 105, 108]⟩ = some (1, 27) by decide)
  | 5, _ => exact congrArg (fun o => some (o.elim 0 Prod.fst, o.elim 0 Prod.snd, o.isSome)) (show Go.Proofs.Ytnmbhhkdiegemaa.H.findR ⟨#[67, 111, 110, 116, 97, 99, 116, 115]⟩ ⟨#[72, 111, 109, 101, 80, 104, 111, 110, 101]⟩ = some (1, 39) by decide)
  | 6, _ => exact congrArg (fun o => some (o.elim 0 Prod.fst, o.elim 0 Prod.snd, o.isSome)) (show Go.Proofs.Ytnmbhhkdiegemaa.H.findR ⟨#[67, 111, 110, 116, 97, 99, 116, 115]⟩ ⟨#[77, 111, 98, 105, 108, 101, 80, 104, 111, 110, 101]⟩ = some (1, 43) by decide)
  | 7, _ => exact congrArg (fun o => some (o.elim 0 Prod.fst, o.elim 0 Prod.snd, o.isSome)) (show Go.Proofs.Ytnmbhhkdiegemaa.H.findR ⟨#[67, 111, 110, 116, 97, 99, 116, 115]⟩ ⟨#[80, 105, 99, 116, 117, 114, 101]⟩ = some (1, 60) by decide)
theorem tag_f (p : Int) (k : Nat) (hk : 51 ≤ k) : cardexref14_Tag.f k p = some (tagA p, tagB p, tagO p) := by
  obtain ⟨k, rfl⟩ : ∃ j, k = j + 1 := ⟨k - 1, by omega⟩
  by_cases c : 0 ≤ p ∧ p < 8
  · obtain ⟨i, rfl⟩ : ∃ i : Nat, p = (i : Int) := ⟨p.toNat, by omega⟩
    rw [tag_in i (by omega) _ hk, show tagA (i : Int) = 1 from if_pos c, show tagO (i : Int) = true from decide_eq_true c]
    rfl
  · have e2 : tagB p = 0 := by unfold tagB; repeat (first | rw [if_neg (by omega)] | rfl)
    rw [show tagA p = 0 from if_neg c, e2, show tagO p = false from decide_eq_false c]
    unfold cardexref14_Tag.f
    by_cases c1 : p < 0
    · rw [if_pos c1]; rfl
    · rw [if_neg c1, decide_eq_true (by omega)]; rfl
/-! ### the bits of a mask -/
def bitOf (g : Int) (i : Nat) : Bool := Go.bits .and .u8 g ((2 ^ i : Nat) : Int) != 0
theorem bit_div : ∀ n : Fin 256, ∀ i : Fin 8, (Go.bits .and .u8 ((n.val : Int) / ((2 ^ i.val : Nat) : Int)) 1 == 1) = bitOf (n.val : Int) i.val := by decide +kernel
theorem bit_shr : ∀ n : Fin 256, ∀ i : Fin 8, decide (Go.bits .and .u8 (shr .u8 (n.val : Int) (IntKind.u64.wrap (i.val : Int))) 1 = 1) = bitOf (n.val : Int) i.val := by decide +kernel
theorem wrap_pos : ∀ i : Fin 8, 0 ≤ IntKind.u64.wrap (i.val : Int) := by decide +kernel
/-! ### what holds nothing -/
theorem node0 (i : Nat) : nodeOf (fun _ => ⟨#[]⟩) i = (⟨⟨1, tagNo i⟩, 0, [], []⟩ : S83) := by
  unfold nodeOf holdP
  rw [if_pos rfl]
  rfl
theorem marks_loop (n : Fin 256) : ∀ (m i : Nat), i + m = 8 → Ev (fun k => cardexref14_Marks.l0 k (n.val : Int) (putL (fun _ => ⟨#[]⟩) (bitOf (n.val : Int)) i) (i : Int)) (putL (fun _ => ⟨#[]⟩) (bitOf (n.val : Int)) 8)
  | 0, i, hi => by
    obtain rfl : i = 8 := by omega
    refine Ev.step (fun k => ?_) (Ev.now _)
    rw [cardexref14_Marks.l0, if_neg (by decide)]
  | m + 1, i, hi => by
    have ih := marks_loop n m (i + 1) (by omega)
    have hi8 : i < 8 := by omega
    have hb := bit_shr n ⟨i, hi8⟩
    have hw := wrap_pos ⟨i, hi8⟩
    have hn : wrap64 ((i : Int) + 1) = ((i + 1 : Nat) : Int) := by unfold wrap64; omega
    have hlen := putL_length (fun _ => (⟨#[]⟩ : ByteArray)) (bitOf (n.val : Int)) i
    dsimp only at hb hw
    rcases hbt : bitOf (n.val : Int) i with _ | _
    · rw [hbt] at hb
      rw [putL_miss hbt] at ih
      refine Ev.step (f := fun k => cardexref14_Marks.l0 k (n.val : Int) (putL (fun _ => ⟨#[]⟩) (bitOf (n.val : Int)) i) ((i + 1 : Nat) : Int)) (fun k => ?_) ih
      show cardexref14_Marks.l0 (k + 1) _ _ _ = _
      rw [cardexref14_Marks.l0, if_pos (by omega), if_pos hw, if_neg (of_decide_eq_false hb), hn]
    · rw [hbt] at hb
      rw [putL_hit hbt, node0] at ih
      refine Ev.step (f := fun k => (cardexref14_Tag.f k (i : Int)).bind fun bt225 => cardexref14_Marks.l0 k (n.val : Int) (putL (fun _ => ⟨#[]⟩) (bitOf (n.val : Int)) i ++ [(⟨(⟨bt225.1, bt225.2.1⟩ : S23), 0, ([] : List Int), ([] : List (S83))⟩ : S83)]) ((i + 1 : Nat) : Int)) (fun k => ?_) (Ev.bind (a := (1, tagNo i, true)) ⟨51, fun k hk => tag_in i hi8 k hk⟩ ih)
      show cardexref14_Marks.l0 (k + 1) _ _ _ = _
      rw [cardexref14_Marks.l0, if_pos (by omega), if_pos hw, if_pos (of_decide_eq_true hb), hn]
      congr 1
      funext bt
      rw [if_pos (by omega)]
theorem marks_f (n : Fin 256) : Ev (fun k => cardexref14_Marks.f k (n.val : Int)) (putL (fun _ => ⟨#[]⟩) (bitOf (n.val : Int)) 8) := marks_loop n 8 0 rfl
/-! ### the same elements -/
theorem byteSame (l : List Int) : cardexref00_Same.f l l = some true := by
  rw [cardexref00_Same.f]
  simp
theorem rd83 (l : List S83) (i : Nat) (hi : i < l.length) : rd_T83 l (i : Int) = l[i] := by
  simp [rd_T83, List.getD_eq_getElem?_getD, List.getElem?_eq_getElem hi]
theorem same0 (a b h : Int) (t : List Int) : Ev (fun k => cardexref12_Same.f k a b h t [] a b h t []) true := by
  refine Ev.step (g := fun k => cardexref12_Same.f k a b h t [] a b h t []) (f := fun k => cardexref12_Same.j0 k ((([] : List S83).length : Int) != (([] : List S83).length : Int)) a b h t [] a b h t []) (fun k => ?_) ?_
  · rw [cardexref12_Same.f, if_neg (by simp), if_pos rfl, byteSame, Option.bind_some, if_pos rfl]
  · refine Ev.step (f := fun k => cardexref12_Same.l0 k 0 a b h t [] a b h t []) (fun k => ?_) (Ev.step (fun k => ?_) (Ev.now _))
    · rw [cardexref12_Same.j0, if_neg (by simp)]
    · rw [cardexref12_Same.l0, if_neg (by simp)]
theorem same_l (l : List S83) (hl : l.length ≤ 1000) (hk : ∀ x ∈ l, x.f3 = []) (a b h : Int) (t : List Int) : Ev (fun k => cardexref12_Same.f k a b h t l a b h t l) true := by
  have loop : ∀ (m i : Nat), i + m = l.length → Ev (fun k => cardexref12_Same.l0 k (i : Int) a b h t l a b h t l) true := by
    intro m
    induction m with
    | zero =>
      intro i hi
      refine Ev.step (fun k => ?_) (Ev.now _)
      rw [cardexref12_Same.l0, if_neg (by omega)]
    | succ m ihm =>
      intro i hi
      have hil : i < l.length := by omega
      have h1 := same0 l[i].f0.f0 l[i].f0.f1 l[i].f1 l[i].f2
      have hf := hk _ (List.getElem_mem hil)
      have hn : wrap64 ((i : Int) + 1) = ((i + 1 : Nat) : Int) := by unfold wrap64; omega
      refine Ev.step (g := fun k => cardexref12_Same.l0 k (i : Int) a b h t l a b h t l) (f := fun k => (cardexref12_Same.f k l[i].f0.f0 l[i].f0.f1 l[i].f1 l[i].f2 [] l[i].f0.f0 l[i].f0.f1 l[i].f1 l[i].f2 []).bind fun t163 => if t163 = true then cardexref12_Same.l0 k ((i + 1 : Nat) : Int) a b h t l a b h t l else some false) (fun k => ?_) (Ev.bind h1 (Ev.congr (fun k => if_pos rfl) (ihm (i + 1) (by omega))))
      rw [cardexref12_Same.l0, if_pos (by omega), if_pos (by omega), if_pos (by omega), rd83 l i hil, hn, hf]
  refine Ev.step (g := fun k => cardexref12_Same.f k a b h t l a b h t l) (f := fun k => cardexref12_Same.j0 k ((l.length : Int) != (l.length : Int)) a b h t l a b h t l) (fun k => ?_) ?_
  · rw [cardexref12_Same.f, if_neg (by simp), if_pos rfl, byteSame, Option.bind_some, if_pos rfl]
  · refine Ev.step (fun k => ?_) (loop l.length 0 (by omega))
    rw [cardexref12_Same.j0, if_neg (by simp)]
    rfl
theorem same_f (l : List S83) (hl : l.length ≤ 1000) (hk : ∀ x ∈ l, x.f3 = []) : Ev (fun k => cardexlaw14_same.f k l l) true := by
  unfold cardexlaw14_same.f
  exact Ev.bind (same_l l hl hk 0 0 0 []) (Ev.now _)
theorem putL_flat (s : Nat → ByteArray) (bt : Nat → Bool) (n : Nat) : ∀ x ∈ putL s bt n, x.f3 = [] := by
  intro x hx
  unfold putL at hx
  obtain ⟨i, _, rfl⟩ := List.mem_map.1 hx
  rfl
/-! ### lives -/
theorem is0 : Ev (fun k => utf_Is.f k []) true := Ev.of (fun k => utf_Is.mono [] k) (k := 20) (by kernel_rfl)
theorem is1 : Ev (fun k => utf_Is.f k [65]) true := Ev.of (fun k => utf_Is.mono [65] k) (k := 20) (by kernel_rfl)
theorem row0 : Ev (fun k => num_Row.f k []) [0, 0, 0, 0] := Ev.of (fun k => num_Row.mono [] k) (k := 20) (by kernel_rfl)
end Go.Proofs.Ytnmbhhkdiegemaa.KPlain
