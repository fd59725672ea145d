/- The plain law of ShapeDigits: a text is a number's just if it is the number's digits. Conditions: none beyond a string's own bounds. -/
import Derived.Test.YtnmbhhkdiegemaaDoorShapeDigits
namespace Go.Proofs.YtnmbhhkdiegemaaDoor.DPlain
open Go.RowKit Go.Proofs.YtnmbhhkdiegemaaDoor.D Go.Proofs.YtnmbhhkdiegemaaDoorW.PrintWords Go.Proofs.YtnmbhhkdiegemaaDoorW.PrintLast
set_option linter.unusedVariables false
set_option linter.unusedSimpArgs false

def Byt (l : List Int) : Prop := ∀ x ∈ l, 0 ≤ x ∧ x < 256
theorem byt_bytesOf (s : ByteArray) : Byt (bytesOf s) := by
  intro x hx
  unfold bytesOf at hx
  obtain ⟨b, _, rfl⟩ := List.mem_map.1 hx
  have := b.toNat_lt
  omega
theorem bytesOf_inj {a b : ByteArray} (h : bytesOf a = bytesOf b) : a = b := by
  unfold bytesOf at h
  have h2 : a.data.toList = b.data.toList := by
    exact (List.map_inj_right (fun x y hxy => UInt8.toNat.inj (Int.ofNat.inj hxy))).1 h
  have h3 : a.data = b.data := Array.toList_inj.1 h2
  cases a; cases b; simp at h3; rw [h3]
theorem bytesOf_str {l : List Int} (h : Byt l) : bytesOf (strOfNums l) = l := by
  unfold bytesOf strOfNums
  simp only [List.map_map]
  conv => rhs; rw [← List.map_id l]
  refine List.map_congr_left fun x hx => ?_
  have := h x hx
  simp only [Function.comp, id, UInt8.toNat_ofNat']
  omega
theorem str_bytes (s : ByteArray) : strOfNums (bytesOf s) = s := bytesOf_inj (bytesOf_str (byt_bytesOf s))
theorem w64' {n : Int} (h0 : -9223372036854775808 ≤ n) (h1 : n < 9223372036854775808) : wrap64 n = n := by
  unfold wrap64
  omega
theorem byt_get {l : List Int} (h : Byt l) (i : Nat) (hi : i < l.length) : 0 ≤ l[i] ∧ l[i] < 256 := h _ (List.getElem_mem hi)
theorem rd_get (l : List Int) (i : Nat) (hi : i < l.length) : rd l (i : Int) = l[i] := by
  simp [rd, List.getD_eq_getElem?_getD, List.getElem?_eq_getElem hi]

theorem digs_step (x d : Nat) (hx : 0 < x) (hd : d < 10) : digs (10 * x + d) = digs x ++ [((48 + d : Nat) : Int)] := by
  unfold digs
  conv => lhs; rw [Lib.decDigits]
  rw [dif_neg (by omega), show (10 * x + d) / 10 = x by omega, show (10 * x + d) % 10 = d by omega]
  rw [List.map_append, List.map_cons, List.map_nil]
  congr 2
  rw [UInt8.toNat_ofNat']
  omega
theorem digs_one (d : Nat) (hd : d < 10) : digs d = [((48 + d : Nat) : Int)] := by
  unfold digs
  rw [Lib.decDigits_one hd, List.map_cons, List.map_nil, UInt8.toNat_ofNat']
  congr 1
  omega
def Told (l : List Int) (n : Int) (ok : Bool) : Prop := (ok = false ∧ n = 0) ∨ (ok = true ∧ ∃ u : Nat, n = u ∧ u < 4294967296 ∧ digs u = l)
/-- One digit more, or refused. -/
theorem one_more (l : List Int) (hb : Byt l) (hl : l.length ≤ 9223372036854775807) (x i : Nat) (hi : i < l.length) (r : Int × Bool) (hr : Told l r.1 r.2)
    (h : ∀ d : Nat, d < 10 → l[i] = ((48 + d : Nat) : Int) → 10 * x + d < 4294967296 → Ev (fun k => shape_GetNumber.l0 k ((10 * x + d : Nat) : Int) l (l.length : Int) ((i + 1 : Nat) : Int)) r)
    (hn : ¬ (∃ d : Nat, d < 10 ∧ l[i] = ((48 + d : Nat) : Int) ∧ 10 * x + d < 4294967296) → r = (0, false)) :
    Ev (fun k => shape_GetNumber.l0 k (x : Int) l (l.length : Int) (i : Int)) r := by
  have hc := byt_get hb i hi
  have hstep : ∀ k, shape_GetNumber.l0 (k + 1) (x : Int) l (l.length : Int) (i : Int) = if l[i] < 48 then (shape_GetNumber.j2 k x l[i] l l.length i true) else (shape_GetNumber.j2 k x l[i] l l.length i (decide (l[i] > 57))) := fun k => by
    rw [shape_GetNumber.l0, if_pos (by omega), if_pos (by omega), if_pos (by omega), rd_get l i hi]
  have no : ∀ k, shape_GetNumber.j2 (k + 1) x l[i] l l.length i true = some (0, false) := fun k => by rw [shape_GetNumber.j2, if_pos rfl]
  by_cases c1 : l[i] < 48
  · rw [hn (by rintro ⟨d, h1, h2, h3⟩; omega)]
    exact Ev.step (fun k => (hstep k).trans (if_pos c1)) (Ev.step no (Ev.now _))
  by_cases c2 : l[i] > 57
  · rw [hn (by rintro ⟨d, h1, h2, h3⟩; omega)]
    refine Ev.step (fun k => (hstep k).trans (if_neg c1)) ?_
    rw [decide_eq_true c2]
    exact Ev.step no (Ev.now _)
  obtain ⟨d, hd, hd2⟩ : ∃ d : Nat, d < 10 ∧ l[i] = ((48 + d : Nat) : Int) := ⟨(l[i] - 48).toNat, by omega, by omega⟩
  refine Ev.step (fun k => (hstep k).trans (if_neg c1)) ?_
  rw [decide_eq_false c2]
  have e1 : (l[i] - 48) % 256 = (d : Int) := by omega
  by_cases c3 : (x : Int) > (4294967295 - (d : Int)) / 10
  · rw [hn (by rintro ⟨d', h1, h2, h3⟩; omega)]
    refine Ev.step (fun k => ?_) (Ev.now _)
    rw [shape_GetNumber.j2, if_neg (by decide), e1, if_pos c3]
  · have hlt : 10 * x + d < 4294967296 := by omega
    refine Ev.step (fun k => ?_) (h d hd hd2 hlt)
    rw [shape_GetNumber.j2, if_neg (by decide), e1, if_neg c3, w64' (n := (i : Int) + 1) (by omega) (by omega)]
    congr 1
    · omega
theorem told_ok (l : List Int) (u : Nat) (hu : u < 4294967296) (h : digs u = l) : Told l (u : Int) true := .inr ⟨rfl, u, rfl, hu, h⟩
theorem told_no (l : List Int) : Told l 0 false := .inl ⟨rfl, rfl⟩
theorem loop_end (l : List Int) (x : Int) (i : Nat) (hi : i = l.length) : Ev (fun k => shape_GetNumber.l0 k x l (l.length : Int) (i : Int)) (x, true) := by
  refine Ev.step (fun k => ?_) (Ev.now _)
  rw [shape_GetNumber.l0, if_neg (by omega)]
theorem loop (l : List Int) (hb : Byt l) (hl : l.length ≤ 9223372036854775807) : ∀ (m i x : Nat), i + m = l.length → 0 < x → x < 4294967296 → digs x = l.take i →
    ∃ r : Int × Bool, Ev (fun k => shape_GetNumber.l0 k (x : Int) l (l.length : Int) (i : Int)) r ∧ Told l r.1 r.2 := by
  intro m
  induction m with
  | zero =>
    intro i x hi hx hx2 hd
    exact ⟨(x, true), loop_end l x i (by omega), told_ok l x hx2 (by rw [hd, List.take_of_length_le (by omega)])⟩
  | succ m ih =>
    intro i x hi hx hx2 hd
    have hil : i < l.length := by omega
    by_cases c : ∃ d : Nat, d < 10 ∧ l[i] = ((48 + d : Nat) : Int) ∧ 10 * x + d < 4294967296
    · obtain ⟨d, hd1, hd2, hd3⟩ := c
      obtain ⟨r, hr, ht⟩ := ih (i + 1) (10 * x + d) (by omega) (by omega) hd3 (by rw [digs_step x d hx hd1, hd, ← hd2, List.take_succ_eq_append_getElem hil])
      refine ⟨r, one_more l hb hl x i hil r ht (fun d' h1 h2 h3 => ?_) (fun hn => absurd ⟨d, hd1, hd2, hd3⟩ hn), ht⟩
      have : d' = d := by omega
      subst this
      exact hr
    · exact ⟨(0, false), one_more l hb hl x i hil (0, false) (told_no l) (fun d h1 h2 h3 => absurd ⟨d, h1, h2, h3⟩ c) (fun _ => rfl), told_no l⟩
theorem loop0 (l : List Int) (hb : Byt l) (hl : l.length ≤ 9223372036854775807) (h0 : 0 < l.length) (hz : l.length = 1 ∨ l[0] ≠ 48) :
    ∃ r : Int × Bool, Ev (fun k => shape_GetNumber.l0 k 0 l (l.length : Int) 0) r ∧ Told l r.1 r.2 := by
  by_cases c : ∃ d : Nat, d < 10 ∧ l[0] = ((48 + d : Nat) : Int) ∧ 10 * 0 + d < 4294967296
  · obtain ⟨d, hd1, hd2, hd3⟩ := c
    have ht1 : digs d = l.take 1 := by
      rw [digs_one d hd1, ← hd2, List.take_succ_eq_append_getElem h0]
      simp
    obtain ⟨r, hr, ht⟩ : ∃ r : Int × Bool, Ev (fun k => shape_GetNumber.l0 k ((10 * 0 + d : Nat) : Int) l (l.length : Int) ((0 + 1 : Nat) : Int)) r ∧ Told l r.1 r.2 := by
      rw [show 10 * 0 + d = d by omega]
      rcases hz with h1 | h1
      · exact ⟨(d, true), loop_end l d 1 h1.symm, told_ok l d (by omega) (by rw [ht1, List.take_of_length_le (by omega)])⟩
      · exact loop l hb hl (l.length - 1) 1 d (by omega) (by omega) (by omega) ht1
    have h := one_more l hb hl 0 0 h0 r ht (fun d' h1 h2 h3 => (by have : d' = d := by omega
                                                                   subst this
                                                                   exact hr)) (fun hn => absurd ⟨d, hd1, hd2, hd3⟩ hn)
    exact ⟨r, h, ht⟩
  · exact ⟨(0, false), one_more l hb hl 0 0 h0 (0, false) (told_no l) (fun d h1 h2 h3 => absurd ⟨d, h1, h2, h3⟩ c) (fun _ => rfl), told_no l⟩
theorem number (a b : Int) (s : ByteArray) (hs : s.size ≤ 9223372036854775807) : ∃ r : Int × Bool, Ev (fun k => shape_GetNumber.f k a b (hold s) (bytesOf s) []) r ∧ Told (bytesOf s) r.1 r.2 := by
  have hb := byt_bytesOf s
  have hlen : (bytesOf s).length = s.size := bytesOf_length s
  by_cases c : s = ⟨#[]⟩
  · have e0 : hold s = 0 := if_pos c
    refine ⟨(0, false), Ev.step (g := fun k => shape_GetNumber.f k a b (hold s) (bytesOf s) []) (f := fun k => some (0, false)) (fun k => ?_) (Ev.now _), told_no _⟩
    rw [shape_GetNumber.f, e0, shape_text.f, if_neg (by decide), Option.bind_some, if_neg (by decide), shape_GetNumber.j0, if_pos rfl]
  · have e0 : hold s = 1 := if_neg c
    have hpos : 0 < (bytesOf s).length := by
      refine Nat.pos_of_ne_zero fun h => c (bytesOf_inj ?_)
      rw [List.eq_nil_of_length_eq_zero h]
      rfl
    generalize hl : bytesOf s = l at hb hlen hpos
    have ht : shape_text.f a b 1 l [] = some true := by
      rw [shape_text.f, if_pos rfl, if_pos (by simp), decide_eq_true (by omega)]
    have hf : ∀ k, shape_GetNumber.f k a b 1 l [] = if (l.length : Int) > 1 then (shape_GetNumber.j0 k (l[0] == 48) a b 1 l []) else (shape_GetNumber.j0 k false a b 1 l []) := fun k => by
      rw [shape_GetNumber.f, ht, Option.bind_some, if_pos rfl]
      by_cases c1 : (l.length : Int) > 1
      · rw [if_pos c1, if_pos c1, if_pos (by omega)]
        have := rd_get l 0 hpos
        rw [show ((0 : Nat) : Int) = 0 from rfl] at this
        rw [this]
      · rw [if_neg c1, if_neg c1]
    have hj : ∀ k, shape_GetNumber.j0 (k + 1) false a b 1 l [] = shape_GetNumber.l0 k 0 l (l.length : Int) 0 := fun k => by rw [shape_GetNumber.j0, if_neg (by decide)]
    rw [e0]
    by_cases c1 : (l.length : Int) > 1
    · by_cases c2 : l[0] = 48
      · refine ⟨(0, false), Ev.congr (fun k => (hf k).trans (if_pos c1)) ?_, told_no _⟩
        rw [show (l[0] == 48) = true from by simp [c2]]
        exact Ev.step (fun k => by rw [shape_GetNumber.j0, if_pos rfl]) (Ev.now _)
      · obtain ⟨r, hr, hT⟩ := loop0 l hb (by omega) hpos (.inr c2)
        refine ⟨r, Ev.congr (fun k => (hf k).trans (if_pos c1)) ?_, hT⟩
        rw [show (l[0] == 48) = false from by simp [c2]]
        exact Ev.step hj hr
    · obtain ⟨r, hr, hT⟩ := loop0 l hb (by omega) hpos (.inl (by omega))
      exact ⟨r, Ev.congr (fun k => (hf k).trans (if_neg c1)) (Ev.step hj hr), hT⟩
theorem ShapeDigits (a b : Int) (s : ByteArray) (hs : s.size ≤ 9223372036854775807) : ∃ k, cardexlaw13_ShapeDigits.f k a b s = some true := by
  obtain ⟨r, hr, hT⟩ := number a b s hs
  refine Ev.rounds (g := fun k => cardexlaw13_ShapeDigits.f k a b s) ?_
  unfold cardexlaw13_ShapeDigits.f
  refine Ev.bind hr (Ev.congr (fun k => ?_) (Ev.now true))
  rcases hT with ⟨h1, h2⟩ | ⟨h1, u, h2, h3, h4⟩
  · rw [h1, if_neg (by decide), if_pos h2]
  · rw [h1, if_pos rfl, h2, if_pos (by omega), if_pos (by omega), if_pos]
    rw [Int.toNat_natCast, h4, str_bytes]
end Go.Proofs.YtnmbhhkdiegemaaDoor.DPlain
