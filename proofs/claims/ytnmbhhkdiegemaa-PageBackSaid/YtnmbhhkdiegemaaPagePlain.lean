/- The plain laws of PageTells, PageTags, PageBack: what the program's functions and the document's compute is one. No conditions. -/
import Derived.Test.YtnmbhhkdiegemaaG4
namespace Go.Proofs.Ytnmbhhkdiegemaa.GPlain
open Go.RowKit Go.Proofs.Ytnmbhhkdiegemaa.G Go.Proofs.Ytnmbhhkdiegemaa.H Go.Proofs.YtnmbhhkdiegemaaW.PrintWords Go.Proofs.YtnmbhhkdiegemaaW.PrintLast
set_option linter.unusedVariables false
set_option linter.unusedSimpArgs false

theorem w64 {n : Int} (h0 : -9223372036854775808 ≤ n) (h1 : n < 9223372036854775808) : wrap64 n = n := by unfold wrap64; omega
/-- A page's rows, in the document's list. -/
def flat1 (k : Int) (s : ByteArray) (T : TagL) : List S68 := T.map fun p => ⟨⟨k, p.1⟩, s, p.2⟩
def flat : List (Int × ByteArray × TagL) → List S68
  | [] => []
  | (k, s, T) :: L => flat1 k s T ++ flat L
theorem rows_eq : cardexref10_Rows.f = some (flat PG) := by unfold cardexref10_Rows.f; rfl
theorem rd68 {xs : List S68} {i : Nat} (h : i < xs.length) : rd_T68 xs (i : Int) = xs[i] := by
  unfold rd_T68
  rw [Int.toNat_natCast, List.getD_eq_getElem?_getD, List.getElem?_eq_getElem h]
  rfl
theorem flat_length : (flat PG).length = 48 := by decide

/-! ### the page of a number -/
def scanP (x : Int) : List S68 → ByteArray × Bool
  | [] => (⟨#[]⟩, false)
  | r :: l => if r.f0.f0 = x then (r.f1, true) else scanP x l
theorem page_l0 (x : Int) (xs : List S68) (hx : xs.length ≤ 1000) : ∀ (k i : Nat), xs.length < k + i → i ≤ xs.length → cardexref10_Page.l0 k x xs (i : Int) = some (scanP x (xs.drop i))
  | 0, i, h1, h2 => by omega
  | k + 1, i, h1, h2 => by
    unfold cardexref10_Page.l0
    by_cases h : i < xs.length
    · rw [if_pos (by omega), if_pos (by omega), rd68 h, List.drop_eq_getElem_cons h, scanP]
      by_cases c : xs[i].f0.f0 = x
      · rw [if_pos c, if_pos c]
      · rw [if_neg c, if_neg c, w64 (by omega) (by omega)]
        have := page_l0 x xs hx k (i + 1) (by omega) (by omega)
        rw [← this]
        rfl
    · rw [if_neg (by omega), List.drop_eq_nil_of_le (by omega)]
      rfl
theorem scanP_flat (x : Int) : ∀ L : List (Int × ByteArray × TagL), (∀ p ∈ L, p.2.2 ≠ []) → scanP x (flat L) = ((pgAt x L).elim ⟨#[]⟩ (·.2.1), (pgAt x L).isSome)
  | [], _ => rfl
  | (k, s, T) :: L, h => by
    have hT : T ≠ [] := h _ (List.mem_cons_self)
    have ih := scanP_flat x L (fun p hp => h p (List.mem_cons_of_mem _ hp))
    unfold flat pgAt
    by_cases c : x = k
    · rw [if_pos c]
      obtain ⟨p, T', rfl⟩ := List.exists_cons_of_ne_nil hT
      simp [flat1, scanP, c]
    · rw [if_neg c]
      have : ∀ T : TagL, scanP x (flat1 k s T ++ flat L) = scanP x (flat L) := by
        intro T
        induction T with
        | nil => rfl
        | cons p T ih => simp only [flat1, List.map_cons, List.cons_append, scanP]; rw [if_neg (fun e => c e.symm)]; exact ih
      rw [this, ih]
      rcases pgAt x L with _ | ⟨i, s, T⟩ <;> rfl
theorem PG_full : ∀ p ∈ PG, p.2.2 ≠ [] := by decide
theorem page_f (x : Int) : cardexref10_Page.f 50 x = some (nmOf x, okOf x) := by
  unfold cardexref10_Page.f
  rw [rows_eq, Option.bind_some]
  have h := page_l0 x (flat PG) (by rw [flat_length]; omega) 50 0 (by rw [flat_length]; omega) (by omega)
  rw [List.drop_zero, scanP_flat x PG PG_full] at h
  refine Eq.trans h ?_
  unfold nmOf okOf
  rcases pgAt x PG with _ | ⟨i, s, T⟩ <;> rfl

/-! ### the name of a tag -/
def scanN (p j : Int) : List S68 → ByteArray × Bool
  | [] => (⟨#[]⟩, false)
  | r :: l => if r.f0.f0 = p ∧ r.f0.f1 = j then (r.f2, true) else scanN p j l
theorem name_l0 (p j : Int) (xs : List S68) (hx : xs.length ≤ 1000) : ∀ (k i : Nat), xs.length < k + i → i ≤ xs.length → cardexref10_Name.l0 k xs (i : Int) p j = some (scanN p j (xs.drop i))
  | 0, i, h1, h2 => by omega
  | k + 1, i, h1, h2 => by
    unfold cardexref10_Name.l0
    by_cases h : i < xs.length
    · rw [if_pos (by omega), if_pos (by omega), rd68 h, List.drop_eq_getElem_cons h, scanN]
      by_cases c : xs[i].f0.f0 = p ∧ xs[i].f0.f1 = j
      · rw [if_pos (by simp [c.1, c.2]), if_pos c]
      · rw [if_neg (by simpa using c), if_neg c, w64 (by omega) (by omega)]
        have := name_l0 p j xs hx k (i + 1) (by omega) (by omega)
        rw [← this]
        rfl
    · rw [if_neg (by omega), List.drop_eq_nil_of_le (by omega)]
      rfl
theorem scanN_other (p j : Int) : ∀ L : List (Int × ByteArray × TagL), (∀ q ∈ L, q.1 ≠ p) → scanN p j (flat L) = (⟨#[]⟩, false)
  | [], _ => rfl
  | (k, s, T) :: L, h => by
    have ih := scanN_other p j L (fun q hq => h q (List.mem_cons_of_mem _ hq))
    have hk : k ≠ p := h _ (List.mem_cons_self)
    unfold flat
    have : ∀ T : TagL, scanN p j (flat1 k s T ++ flat L) = scanN p j (flat L) := by
      intro T
      induction T with
      | nil => rfl
      | cons q T ih => simp only [flat1, List.map_cons, List.cons_append, scanN]; rw [if_neg (fun e => hk e.1)]; exact ih
    rw [this, ih]
theorem scanN_page (p j : Int) (s : ByteArray) (rest : List S68) : ∀ T : TagL, scanN p j (flat1 p s T ++ rest) = (match tgAt j T with | some u => (u, true) | none => scanN p j rest)
  | [] => rfl
  | (k, u) :: T => by
    simp only [flat1, List.map_cons, List.cons_append, scanN, tgAt]
    by_cases c : j = k
    · rw [if_pos ⟨trivial, c.symm⟩, if_pos c]
    · rw [if_neg (fun e => c e.2.symm), if_neg c]
      exact scanN_page p j s rest T
theorem scanN_flat (p j : Int) : ∀ L : List (Int × ByteArray × TagL), (L.map (·.1)).Nodup → scanN p j (flat L) = (match pgAt p L with | some (_, _, T) => (tgNm j T, tgOk j T) | none => (⟨#[]⟩, false))
  | [], _ => rfl
  | (k, s, T) :: L, h => by
    simp only [List.map_cons, List.nodup_cons] at h
    have ih := scanN_flat p j L h.2
    unfold pgAt
    by_cases c : p = k
    · subst c
      rw [if_pos rfl]
      show scanN p j (flat1 p s T ++ flat L) = _
      rw [scanN_page, scanN_other p j L (fun q hq e => h.1 (List.mem_map.2 ⟨q, hq, e⟩))]
      show _ = ((tgAt j T).getD ⟨#[]⟩, (tgAt j T).isSome)
      cases tgAt j T <;> rfl
    · rw [if_neg c]
      show scanN p j (flat1 k s T ++ flat L) = _
      have : ∀ T : TagL, scanN p j (flat1 k s T ++ flat L) = scanN p j (flat L) := by
        intro T
        induction T with
        | nil => rfl
        | cons q T ih => simp only [flat1, List.map_cons, List.cons_append, scanN]; rw [if_neg (fun e => c e.1.symm)]; exact ih
      rw [this, ih]
      rcases pgAt p L with _ | ⟨i, s, T⟩ <;> rfl
theorem PG_nodup : (PG.map (·.1)).Nodup := by decide
theorem name_f (p j : Int) : cardexref10_Name.f 50 p j = some (tgNm j (tgOf p), tgOk j (tgOf p)) := by
  unfold cardexref10_Name.f
  rw [rows_eq, Option.bind_some]
  have h := name_l0 p j (flat PG) (by rw [flat_length]; omega) 50 0 (by rw [flat_length]; omega) (by omega)
  rw [List.drop_zero, scanN_flat p j PG PG_nodup] at h
  refine Eq.trans h ?_
  unfold tgOf
  rcases pgAt p PG with _ | ⟨i, s, T⟩ <;> rfl

/-! ### the tag of two names -/
def scanF (s t : ByteArray) : List S68 → Option (Int × Int)
  | [] => none
  | r :: l => if r.f1 = s ∧ r.f2 = t then some (r.f0.f0, r.f0.f1) else scanF s t l
theorem find_l0 (s t : ByteArray) (xs : List S68) (hx : xs.length ≤ 1000) : ∀ (k i : Nat), xs.length < k + i → i ≤ xs.length → cardexref10_Find.l0 k s t xs (i : Int) = some ((scanF s t (xs.drop i)).elim (0, 0, false) fun x => (x.1, x.2, true))
  | 0, i, h1, h2 => by omega
  | k + 1, i, h1, h2 => by
    unfold cardexref10_Find.l0
    by_cases h : i < xs.length
    · rw [if_pos (by omega), if_pos (by omega), rd68 h, List.drop_eq_getElem_cons h, scanF]
      have ih := find_l0 s t xs hx k (i + 1) (by omega) (by omega)
      have hw : wrap64 ((i : Int) + 1) = ((i + 1 : Nat) : Int) := by rw [w64 (by omega) (by omega)]; rfl
      by_cases c1 : xs[i].f1 = s
      · rw [if_pos (by rw [c1])]
        by_cases c2 : xs[i].f2 = t
        · rw [if_pos (by rw [c2]), if_pos ⟨c1, c2⟩]
          rfl
        · rw [if_neg (fun e => c2 (bytes_inj e)), if_neg (fun e => c2 e.2), hw, ih]
      · rw [if_neg (fun e => c1 (bytes_inj e)), if_neg (fun e => c1 e.1), hw, ih]
    · rw [if_neg (by omega), List.drop_eq_nil_of_le (by omega)]
      rfl
theorem scanF_page (s t : ByteArray) (k : Int) (s' : ByteArray) (rest : List S68) : ∀ T : TagL, scanF s t (flat1 k s' T ++ rest) = if s' = s then (T.find? (fun x => x.2 = t)).elim (scanF s t rest) (fun x => some (k, x.1)) else scanF s t rest
  | [] => by simp [flat1]
  | (j, u) :: T => by
    have ih := scanF_page s t k s' rest T
    simp only [flat1, List.map_cons, List.cons_append, scanF]
    simp only [flat1] at ih
    by_cases c : s' = s
    · rw [if_pos c] at ih ⊢
      by_cases c2 : u = t
      · rw [if_pos ⟨c, c2⟩, List.find?_cons]
        simp [c2]
      · rw [if_neg (fun e => c2 e.2), ih, List.find?_cons]
        simp [c2]
    · rw [if_neg c] at ih ⊢
      rw [if_neg (fun e => c e.1), ih]
theorem findSome_cons {α β : Type} (f : α → Option β) (a : α) (l : List α) : (a :: l).findSome? f = (f a).elim (l.findSome? f) some := by
  rw [List.findSome?_cons]
  cases f a <;> rfl
theorem scanF_flat (s t : ByteArray) : ∀ L : List (Int × ByteArray × TagL), scanF s t (flat L) = L.findSome? fun p => if p.2.1 = s then (p.2.2.find? fun x => x.2 = t).map fun x => (p.1, x.1) else none
  | [] => rfl
  | (k, s', T) :: L => by
    have ih := scanF_flat s t L
    show scanF s t (flat1 k s' T ++ flat L) = _
    rw [scanF_page, findSome_cons, ← ih]
    show _ = (if s' = s then (T.find? fun x => x.2 = t).map fun x => (k, x.1) else none).elim (scanF s t (flat L)) some
    by_cases c : s' = s
    · rw [if_pos c, if_pos c]
      cases T.find? (fun x => x.2 = t) <;> rfl
    · rw [if_neg c, if_neg c]
      rfl
theorem find_f (s t : ByteArray) : cardexref10_Find.f 50 s t = some (findA s t, findB s t, findO s t) := by
  unfold cardexref10_Find.f
  rw [rows_eq, Option.bind_some]
  have h := find_l0 s t (flat PG) (by rw [flat_length]; omega) 50 0 (by rw [flat_length]; omega) (by omega)
  rw [List.drop_zero, scanF_flat s t PG] at h
  refine Eq.trans h ?_
  unfold findA findB findO findR
  have e : ∀ q : Option (Int × Int), some (q.elim (0, 0, false) fun x => (x.1, x.2, true)) = some (q.elim 0 (·.1), q.elim 0 (·.2), q.isSome) := by
    intro q
    cases q <;> rfl
  exact e _

/-! ### a page's tags -/
theorem tags_l0 (x : Int) (xs : List S68) (hx : xs.length ≤ 1000) : ∀ (k i : Nat) (acc : List S23), acc.length ≤ i → xs.length < k + i → i ≤ xs.length → cardexref10_Tags.l0 k x acc xs (i : Int) = some (acc ++ ((xs.drop i).filter fun r => r.f0.f0 = x).map (·.f0))
  | 0, i, acc, h0, h1, h2 => by omega
  | k + 1, i, acc, h0, h1, h2 => by
    unfold cardexref10_Tags.l0
    by_cases h : i < xs.length
    · rw [if_pos (by omega), if_pos (by omega), rd68 h, List.drop_eq_getElem_cons h, List.filter_cons]
      have hw : wrap64 ((i : Int) + 1) = ((i + 1 : Nat) : Int) := by rw [w64 (by omega) (by omega)]; rfl
      by_cases c : xs[i].f0.f0 = x
      · rw [if_pos c, if_pos (by omega), hw, tags_l0 x xs hx k (i + 1) _ (by simp; omega) (by omega) (by omega)]
        have e : (⟨xs[i].f0.f0, xs[i].f0.f1⟩ : S23) = xs[i].f0 := rfl
        rw [e]
        simp [c]
      · rw [if_neg c, hw, tags_l0 x xs hx k (i + 1) acc (by omega) (by omega) (by omega)]
        simp [c]
    · rw [if_neg (by omega), List.drop_eq_nil_of_le (by omega)]
      simp
theorem filter_other (x : Int) : ∀ L : List (Int × ByteArray × TagL), (∀ q ∈ L, q.1 ≠ x) → (flat L).filter (fun r => r.f0.f0 = x) = []
  | [], _ => rfl
  | (k, s, T) :: L, h => by
    have hk : k ≠ x := h _ (List.mem_cons_self)
    show (flat1 k s T ++ flat L).filter _ = _
    rw [List.filter_append, filter_other x L (fun q hq => h q (List.mem_cons_of_mem _ hq)), List.append_nil, List.filter_eq_nil_iff]
    intro r hr
    obtain ⟨p, _, rfl⟩ := List.mem_map.1 hr
    simpa using hk
theorem filter_flat (x : Int) : ∀ L : List (Int × ByteArray × TagL), (L.map (·.1)).Nodup → ((flat L).filter fun r => r.f0.f0 = x).map (·.f0) = List.map (fun p : Int × ByteArray => (⟨x, p.1⟩ : S23)) (match pgAt x L with | some (_, _, T) => T | none => [])
  | [], _ => rfl
  | (k, s, T) :: L, h => by
    simp only [List.map_cons, List.nodup_cons] at h
    have ih := filter_flat x L h.2
    show ((flat1 k s T ++ flat L).filter _).map _ = _
    unfold pgAt
    rw [List.filter_append]
    by_cases c : x = k
    · subst c
      rw [if_pos rfl, filter_other x L (fun q hq e => h.1 (List.mem_map.2 ⟨q, hq, e⟩)), List.append_nil]
      have : (flat1 x s T).filter (fun r => r.f0.f0 = x) = flat1 x s T := List.filter_eq_self.2 (fun r hr => by
        obtain ⟨p, _, rfl⟩ := List.mem_map.1 hr
        simp)
      rw [this]
      simp [flat1]
    · rw [if_neg c]
      have : (flat1 k s T).filter (fun r => r.f0.f0 = x) = [] := List.filter_eq_nil_iff.2 (fun r hr => by
        obtain ⟨p, _, rfl⟩ := List.mem_map.1 hr
        simpa using fun e => c e.symm)
      rw [this, List.nil_append, ih]
      rcases pgAt x L with _ | ⟨i, s, T⟩ <;> rfl
theorem tags_f (x : Int) : cardexref10_Tags.f 50 x = some (tagsOf x) := by
  unfold cardexref10_Tags.f
  rw [rows_eq, Option.bind_some]
  have h := tags_l0 x (flat PG) (by rw [flat_length]; omega) 50 0 [] (by simp) (by rw [flat_length]; omega) (by omega)
  rw [List.drop_zero, filter_flat x PG PG_nodup, List.nil_append] at h
  refine Eq.trans h ?_
  unfold tagsOf tgOf
  rfl

/-! ### what the document tells -/
theorem lives_f : cardexlaw10_lives.f = some true := by
  unfold cardexlaw10_lives.f page_Page.f page_Name.f page_Find.f page_Tags.f
  have e1 : nmOf 7 = ⟨#[70, 111, 108, 100, 101, 114, 72, 105, 101, 114, 97, 114, 99, 104, 121]⟩ := rfl
  have e2 : okOf 7 = true := rfl
  have e3 : tgNm 11 (tgOf 0) = ⟨#[83, 121, 110, 99, 75, 101, 121]⟩ := rfl
  have e4 : tgOk 11 (tgOf 0) = true := rfl
  have e5 : findR ⟨#[67, 111, 110, 116, 97, 99, 116, 115]⟩ ⟨#[69, 109, 97, 105, 108]⟩ = some (1, 27) := by decide
  have e6 : (tagsOf 13).length = 4 := rfl
  simp only [Option.bind_some, e1, e2, e3, e4, findA, findB, findO, e5, e6]
  simp [Lib.toList_data]

theorem PageTells (n p j : Int) (s t : ByteArray) : cardexlaw10_PageTells.f 50 n p j s t = some true := by
  unfold cardexlaw10_PageTells.f
  rw [page_f, name_f, find_f, lives_f]
  simp [page_Page.f, page_Name.f, page_Find.f]

/-! ### PageTags -/
theorem rd23 {xs : List S23} {i : Nat} (h : i < xs.length) : rd_T23 xs (i : Int) = xs[i] := by
  unfold rd_T23
  rw [Int.toNat_natCast, List.getD_eq_getElem?_getD, List.getElem?_eq_getElem h]
  rfl
theorem same_l0 (xs : List S23) (hx : xs.length ≤ 1000) : ∀ (k i : Nat), xs.length < k + i → i ≤ xs.length → cardexlaw10_same.l0 k xs xs (i : Int) = some true
  | 0, i, h1, h2 => by omega
  | k + 1, i, h1, h2 => by
    unfold cardexlaw10_same.l0
    by_cases h : i < xs.length
    · rw [if_pos (by omega), if_pos (by omega), if_pos (by omega), if_neg (by simp), w64 (by omega) (by omega)]
      exact same_l0 xs hx k (i + 1) (by omega) (by omega)
    · rw [if_neg (by omega)]
theorem same_f (xs : List S23) (hx : xs.length < 50) : cardexlaw10_same.f 50 xs xs = some true := by
  unfold cardexlaw10_same.f
  rw [if_pos rfl]
  exact same_l0 xs (by omega) 50 0 (by omega) (by omega)
theorem tagsOf_length (x : Int) : (tagsOf x).length ≤ 19 := by
  unfold tagsOf
  rw [List.length_map]
  exact tgOf_length x
theorem tagsOf_lt (x : Int) {i : Nat} (h : i + 1 < (tagsOf x).length) : (tagsOf x)[i].f1 < (tagsOf x)[i + 1].f1 := by
  have h1 := tgOf_rising x
  rw [List.pairwise_iff_getElem] at h1
  have hl : i + 1 < (tgOf x).length := by simpa [tagsOf] using h
  have := h1 i (i + 1) (by simp; omega) (by simp; omega) (by omega)
  simpa [tagsOf] using this
theorem tags_loop (x : Int) : ∀ (k i : Nat) (ys : List S23), ys.length = (tagsOf x).length → i ≤ (tagsOf x).length → (tagsOf x).length + 50 < k + i → cardexlaw10_PageTags.l0 k x ys (tagsOf x) (i : Int) = some true
  | 0, i, ys, h1, h2, h3 => by have := tagsOf_length x; omega
  | k + 1, i, ys, h1, h2, h3 => by
    have hl := tagsOf_length x
    unfold cardexlaw10_PageTags.l0
    have hw : i < (tagsOf x).length → wrap64 ((i : Int) + 1) = ((i + 1 : Nat) : Int) := fun h => by rw [w64 (by omega) (by omega)]; rfl
    by_cases h : i < (tagsOf x).length
    · rw [if_pos (by omega)]
      by_cases h0 : 0 < i
      · obtain ⟨j, rfl⟩ : ∃ j, i = j + 1 := ⟨i - 1, by omega⟩
        have e : wrap64 (((j + 1 : Nat) : Int) - 1) = (j : Int) := by rw [w64 (by omega) (by omega)]; omega
        rw [if_pos (by omega), if_pos (by omega), if_pos (by omega), e, if_pos (by omega), if_pos (by omega), rd23 h, rd23 (by omega : j < (tagsOf x).length), if_neg (by have := tagsOf_lt x h; omega), hw h]
        exact tags_loop x k (j + 1 + 1) _ (by simp [h1]) (by omega) (by omega)
      · obtain rfl : i = 0 := by omega
        rw [if_neg (by omega), if_pos (by omega), hw h]
        exact tags_loop x k 1 _ (by simp [h1]) (by omega) (by omega)
    · rw [if_neg (by omega)]
      have hs : cardexlaw10_same.f k (tagsOf x) (tagsOf x) = some true := by
        unfold cardexlaw10_same.f
        rw [if_pos rfl]
        exact same_l0 _ (by omega) k 0 (by omega) (by omega)
      simp [page_Tags.f, hs, lives_f]
theorem tags_f' (x : Int) : ∀ n, cardexref10_Tags.f (50 + n) x = some (tagsOf x)
  | 0 => tags_f x
  | n + 1 => cardexref10_Tags.mono _ _ _ (tags_f' x n)
theorem PageTags (x : Int) : cardexlaw10_PageTags.f 150 x = some true := by
  have hl := tagsOf_length x
  unfold cardexlaw10_PageTags.f
  have hs : cardexlaw10_same.f 150 (tagsOf x) (tagsOf x) = some true := by
    unfold cardexlaw10_same.f
    rw [if_pos rfl]
    exact same_l0 _ (by omega) 150 0 (by omega) (by omega)
  have ht : cardexref10_Tags.f 150 x = some (tagsOf x) := tags_f' x 100
  simp only [page_Tags.f, ht, hs, Option.bind_some, if_true]
  exact tags_loop x 150 0 _ rfl (by omega) (by omega)
end Go.Proofs.Ytnmbhhkdiegemaa.GPlain
