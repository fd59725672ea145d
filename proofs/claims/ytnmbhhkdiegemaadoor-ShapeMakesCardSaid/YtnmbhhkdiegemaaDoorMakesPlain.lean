/- The plain law of ShapeMakes: counting, comparing and copying elements, a number's digits. Conditions: elements are less than so deep, and of no more places than memory has. -/
import Derived.Test.YtnmbhhkdiegemaaDoorMakesLaw
namespace Go.Proofs.YtnmbhhkdiegemaaDoor.MPlain
open Go.RowKit Go.Proofs.YtnmbhhkdiegemaaDoor.M Go.Proofs.YtnmbhhkdiegemaaDoorW.PrintWords Go.Proofs.YtnmbhhkdiegemaaDoorW.PrintLast
set_option linter.unusedVariables false
set_option linter.unusedSimpArgs false

theorem w64' {n : Int} (h0 : -9223372036854775808 ≤ n) (h1 : n < 9223372036854775808) : wrap64 n = n := by
  unfold wrap64
  omega
theorem rd30 (l : List S30) (i : Nat) (hi : i < l.length) : rd_T30 l (i : Int) = l[i] := by
  simp [rd_T30, List.getD_eq_getElem?_getD, List.getElem?_eq_getElem hi]
theorem Ev.both {α β : Type} {g : Nat → Option α} {f : Nat → Option β} {a : α} {b : β} (h : Ev g a) (h' : Ev f b) : Ev (fun k => (g k).bind fun x => (f k).map fun y => (x, y)) (a, b) := by
  obtain ⟨K, h⟩ := h
  obtain ⟨K', h'⟩ := h'
  refine ⟨max K K', fun k hk => ?_⟩
  show (g k).bind (fun x => (f k).map fun y => (x, y)) = _
  rw [h k (by omega), h' k (by omega)]
  rfl
theorem byteSame (l : List Int) : cardexref00_Same.f l l = some true := by
  rw [cardexref00_Same.f]
  simp

theorem count_f : ∀ (d : Nat) (l : List S30), dep d l = true → ∀ (a b h : Int) (t : List Int), ∃ n, Ev (fun k => cardexref12_Count.f k a b h t l) n := by
  intro d
  induction d with
  | zero => intro l hd; exact absurd hd (by simp [dep])
  | succ d ih =>
    intro l hd a b h t
    obtain ⟨hl, hx⟩ := dep_get hd
    have loop : ∀ (m i : Nat) (x : Int), i + m = l.length → ∃ n, Ev (fun k => cardexref12_Count.l0 k x (i : Int) a b h t l) n := by
      intro m
      induction m with
      | zero =>
        intro i x hi
        refine ⟨x, Ev.step (fun k => ?_) (Ev.now _)⟩
        rw [cardexref12_Count.l0, if_neg (by omega)]
      | succ m ihm =>
        intro i x hi
        have hil : i < l.length := by omega
        obtain ⟨n1, h1⟩ := ih l[i].f3 (hx _ (List.getElem_mem hil)).2 l[i].f0.f0 l[i].f0.f1 l[i].f1 l[i].f2
        obtain ⟨n, h2⟩ := ihm (i + 1) (wrap64 (x + n1)) (by omega)
        refine ⟨n, Ev.step (g := fun k => cardexref12_Count.l0 k x (i : Int) a b h t l) (f := fun k => (cardexref12_Count.f k l[i].f0.f0 l[i].f0.f1 l[i].f1 l[i].f2 l[i].f3).bind fun t155 => cardexref12_Count.l0 k (wrap64 (x + t155)) ((i + 1 : Nat) : Int) a b h t l) (fun k => ?_) (Ev.bind h1 h2)⟩
        rw [cardexref12_Count.l0, if_pos (by omega), if_pos (by omega), rd30 l i hil, w64' (n := (i : Int) + 1) (by omega) (by omega)]
        rfl
    obtain ⟨n, hn⟩ := loop l.length 0 1 (by omega)
    refine ⟨n, Ev.step (fun k => ?_) hn⟩
    rw [cardexref12_Count.f]
    rfl
theorem same_f : ∀ (d : Nat) (l : List S30), dep d l = true → ∀ (a b h : Int) (t : List Int), Ev (fun k => cardexref12_Same.f k a b h t l a b h t l) true := by
  intro d
  induction d with
  | zero => intro l hd; exact absurd hd (by simp [dep])
  | succ d ih =>
    intro l hd a b h t
    obtain ⟨hl, hx⟩ := dep_get hd
    have loop : ∀ (m i : Nat), i + m = l.length → Ev (fun k => cardexref12_Same.l0 k (i : Int) a b h t l a b h t l) true := by
      intro m
      induction m with
      | zero =>
        intro i hi
        refine Ev.step (fun k => ?_) (Ev.now _)
        rw [cardexref12_Same.l0, if_neg (by omega)]
      | succ m ihm =>
        intro i hi
        have hil : i < l.length := by omega
        have h1 := ih l[i].f3 (hx _ (List.getElem_mem hil)).2 l[i].f0.f0 l[i].f0.f1 l[i].f1 l[i].f2
        refine Ev.step (g := fun k => cardexref12_Same.l0 k (i : Int) a b h t l a b h t l) (f := fun k => (cardexref12_Same.f k l[i].f0.f0 l[i].f0.f1 l[i].f1 l[i].f2 l[i].f3 l[i].f0.f0 l[i].f0.f1 l[i].f1 l[i].f2 l[i].f3).bind fun t163 => if t163 = true then cardexref12_Same.l0 k ((i + 1 : Nat) : Int) a b h t l a b h t l else some false) (fun k => ?_) (Ev.bind h1 (Ev.congr (fun k => if_pos rfl) (ihm (i + 1) (by omega))))
        rw [cardexref12_Same.l0, if_pos (by omega), if_pos (by omega), if_pos (by omega), rd30 l i hil, w64' (n := (i : Int) + 1) (by omega) (by omega)]
        rfl
    refine Ev.step (g := fun k => cardexref12_Same.f k a b h t l a b h t l) (f := fun k => cardexref12_Same.j0 k ((l.length : Int) != (l.length : Int)) a b h t l a b h t l) (fun k => ?_) ?_
    · rw [cardexref12_Same.f, if_neg (by simp), if_pos rfl, byteSame, Option.bind_some, if_pos rfl]
    · refine Ev.step (fun k => ?_) (loop l.length 0 (by omega))
      rw [cardexref12_Same.j0, if_neg (by simp)]
      rfl
theorem copied_f : ∀ (d : Nat) (l : List S30), dep d l = true → ∀ (a b h : Int) (t : List Int), t.length < 140737488355328 → Ev (fun k => cardexref13_copied.f k a b h t l) (a, b, h, t, l) := by
  intro d
  induction d with
  | zero => intro l hd; exact absurd hd (by simp [dep])
  | succ d ih =>
    intro l hd a b h t ht
    obtain ⟨hl, hx⟩ := dep_get hd
    have loop : ∀ (m i : Nat), i + m = l.length → Ev (fun k => cardexref13_copied.l0 k (i : Int) a b h t l a b h t (l.take i)) (a, b, h, t, l) := by
      intro m
      induction m with
      | zero =>
        intro i hi
        rw [List.take_of_length_le (by omega)]
        refine Ev.step (fun k => ?_) (Ev.now _)
        rw [cardexref13_copied.l0, if_neg (by omega)]
      | succ m ihm =>
        intro i hi
        have hil : i < l.length := by omega
        have hxi := hx _ (List.getElem_mem hil)
        have h1 := ih l[i].f3 hxi.2 l[i].f0.f0 l[i].f0.f1 l[i].f1 l[i].f2 hxi.1
        refine Ev.step (g := fun k => cardexref13_copied.l0 k (i : Int) a b h t l a b h t (l.take i)) (f := fun k => (cardexref13_copied.f k l[i].f0.f0 l[i].f0.f1 l[i].f1 l[i].f2 l[i].f3).bind fun bt => if (l.take i).length < 2513169434916 then cardexref13_copied.l0 k ((i + 1 : Nat) : Int) a b h t l a b h t (l.take i ++ [(⟨(⟨bt.1, bt.2.1⟩ : S23), bt.2.2.1, bt.2.2.2.1, bt.2.2.2.2⟩ : S30)]) else none) (fun k => ?_) (Ev.bind h1 (Ev.congr (fun k => if_pos (by rw [List.length_take]; omega)) (Ev.congr (fun k => ?_) (ihm (i + 1) (by omega)))))
        · rw [cardexref13_copied.l0, if_pos (by omega), if_pos (by omega), rd30 l i hil, w64' (n := (i : Int) + 1) (by omega) (by omega)]
          rfl
        · rw [List.take_succ_eq_append_getElem hil]
          exact congrArg (fun y => cardexref13_copied.l0 k ((i + 1 : Nat) : Int) a b h t l a b h t (l.take i ++ [y])) (eta30 l[i])
    refine Ev.step (g := fun k => cardexref13_copied.f k a b h t l) (f := fun k => cardexref13_copied.l0 k 0 a b h t l a b h t []) (fun k => ?_) (loop l.length 0 (by omega))
    rw [cardexref13_copied.f, cardexref00_Copy.f, if_pos (by simpa using ht), Option.bind_some, List.nil_append]
theorem digs_eq (n : Nat) : digs n = if n < 10 then [((48 + n : Nat) : Int)] else digs (n / 10) ++ [((48 + n % 10 : Nat) : Int)] := by
  unfold digs
  by_cases h : n < 10
  · rw [if_pos h, Lib.decDigits_one h, List.map_cons, List.map_nil, UInt8.toNat_ofNat']
    congr 1
    omega
  · rw [if_neg h]
    conv => lhs; rw [Lib.decDigits]
    rw [dif_neg h, List.map_append, List.map_cons, List.map_nil, UInt8.toNat_ofNat']
    congr 2
    omega
theorem digs_short (n : Nat) : n < 4294967296 → (digs n).length ≤ 10 := by
  intro h
  have : ∀ (k n : Nat), n < 10 ^ (k + 1) → (digs n).length ≤ k + 1 := by
    intro k
    induction k with
    | zero => intro n h; rw [digs_eq, if_pos (by simpa using h)]; simp
    | succ k ih =>
      intro n h
      rw [digs_eq]
      split
      · simp
      · have := ih (n / 10) (by rw [Nat.pow_succ] at h; omega)
        simp
        omega
  exact this 9 n (by omega)
theorem tens_f : ∀ n : Nat, n < 4294967296 → Ev (fun k => cardexref13_tens.f k (n : Int)) (digs n) := by
  intro n
  induction n using Nat.strongRecOn with
  | _ n ih =>
    intro hn
    rw [digs_eq]
    by_cases h : n < 10
    · rw [if_pos h]
      refine Ev.step (fun k => ?_) (Ev.now _)
      rw [cardexref13_tens.f, if_neg (by omega), if_pos (by simp)]
      congr 1
      have e1 : (Int.tmod (n : Int) 10) = n := by rw [Int.tmod_eq_emod_of_nonneg (by omega)]; omega
      rw [e1, List.nil_append]
      congr 1
      omega
    · rw [if_neg h]
      have h1 := ih (n / 10) (by omega) (by omega)
      have e1 : (Int.tdiv (n : Int) 10) % 4294967296 = ((n / 10 : Nat) : Int) := by rw [Int.tdiv_eq_ediv_of_nonneg (by omega)]; omega
      have e2 : (48 + (Int.tmod (n : Int) 10)) % 256 = ((48 + n % 10 : Nat) : Int) := by rw [Int.tmod_eq_emod_of_nonneg (by omega)]; omega
      have hs := digs_short (n / 10) (by omega)
      refine Ev.step (g := fun k => cardexref13_tens.f k (n : Int)) (f := fun k => (cardexref13_tens.f k ((n / 10 : Nat) : Int)).bind fun t164 => if t164.length < 140737488355328 then some (t164 ++ [((48 + n % 10 : Nat) : Int)]) else none) (fun k => ?_) (Ev.bind h1 (Ev.congr (fun k => if_pos (by omega)) (Ev.now _)))
      rw [cardexref13_tens.f, if_pos (by omega), e1, e2]
theorem dep_nil (d : Nat) : dep (d + 1) [] = true := by simp [dep]
/-- All that ShapeMakes asks of its callees, at one number of rounds. -/
theorem makes [T : TwinOk] (a b : Int) (u : Nat) (s : ByteArray) (l : List S30) (hu : u < 4294967296) (hd : dep (T.d + 1) l = true) :
    ∃ (k : Nat) (big : Bool), cardexlaw13_great.f k 0 0 0 [] l = some big ∧ cardexref13_Number.f k a b u = some (a, b, 1, digs u, []) ∧ cardexref12_Same.f k a b 1 (digs u) [] a b 1 (digs u) [] = some true ∧
      cardexref12_Same.f k a b (hold s) (bytesOf s) [] a b (hold s) (bytesOf s) [] = some true ∧ cardexref12_Same.f k a b 0 [] [] a b 0 [] [] = some true ∧ shape_List.f k a b l = some (a, b, hk l, [], l) ∧ cardexref13_List.f k a b l = some (a, b, hk l, [], l) ∧
      cardexref12_Same.f k a b (hk l) [] l a b (hk l) [] l = some true := by
  obtain ⟨n, hn⟩ := count_f (T.d + 1) l hd 0 0 0 []
  have E0 : Ev (fun k => cardexlaw13_great.f k 0 0 0 [] l) (decide (n > 2000)) := by
    unfold cardexlaw13_great.f
    exact Ev.bind hn (Ev.now _)
  have E1 : Ev (fun k => cardexref13_Number.f k a b (u : Int)) (a, b, 1, digs u, []) := by
    unfold cardexref13_Number.f
    exact Ev.bind (tens_f u hu) (Ev.now _)
  have E2 := same_f 1 [] (dep_nil 0) a b 1 (digs u)
  have E3 := same_f 1 [] (dep_nil 0) a b (hold s) (bytesOf s)
  have E4 := same_f 1 [] (dep_nil 0) a b 0 []
  have E7 := same_f (T.d + 1) l hd a b (hk l) []
  have E5 : Ev (fun k => shape_List.f k a b l) (a, b, hk l, [], l) := by
    by_cases h0 : l.length = 0
    · obtain rfl := List.eq_nil_of_length_eq_zero h0
      exact Ev.congr (fun k => by rw [shape_List.f, if_pos (by simp)]; rfl) (Ev.now _)
    · have e : hk l = 3 := if_neg h0
      rw [e]
      obtain ⟨h1, h2⟩ := dep_get hd
      refine Ev.congr (g := fun k => shape_List.f k a b l) (f := fun k => (shape_twins.f k l).bind fun t211 => some (a, b, 3, ([] : List Int), t211)) (fun k => by rw [shape_List.f, if_neg (by omega)]) (Ev.bind (twins_l0 l h1 (fun i hi => h2 _ (getD_mem l i hi)) l.length 0 (by omega)) (Ev.now _))
  have E6 : Ev (fun k => cardexref13_List.f k a b l) (a, b, hk l, [], l) := by
    by_cases h0 : l.length = 0
    · obtain rfl := List.eq_nil_of_length_eq_zero h0
      exact Ev.congr (fun k => by rw [cardexref13_List.f, if_pos (by simp)]; rfl) (Ev.now _)
    · have e : hk l = 3 := if_neg h0
      rw [e]
      refine Ev.congr (g := fun k => cardexref13_List.f k a b l) (f := fun k => (cardexref13_copied.f k 0 0 0 ([] : List Int) l).bind fun bt239 => some (a, b, 3, ([] : List Int), bt239.2.2.2.2)) (fun k => by rw [cardexref13_List.f, if_neg (by omega)]) (Ev.bind (copied_f (T.d + 1) l hd 0 0 0 [] (by simp)) (Ev.now _))
  obtain ⟨K0, E0⟩ := E0
  obtain ⟨K1, E1⟩ := E1
  obtain ⟨K2, E2⟩ := E2
  obtain ⟨K3, E3⟩ := E3
  obtain ⟨K4, E4⟩ := E4
  obtain ⟨K5, E5⟩ := E5
  obtain ⟨K6, E6⟩ := E6
  obtain ⟨K7, E7⟩ := E7
  exact ⟨K0 + K1 + K2 + K3 + K4 + K5 + K6 + K7, _, E0 _ (by omega), E1 _ (by omega), E2 _ (by omega), E3 _ (by omega), E4 _ (by omega), E5 _ (by omega), E6 _ (by omega), E7 _ (by omega)⟩
/-- The law of ShapeMakes. -/
theorem ShapeMakes (D : Nat) (a b : Int) (u : Nat) (s : ByteArray) (A : Option Addr) (c : Nat) (l : List S30) (w : World) (hs : s.size ≤ 9223372036854775807) (hu : u < 4294967296) (hP : Pow w) (hr : Kd.C k30 w A l.length l) (hc : l.length ≤ c) (hd : dep (D + 1) l = true) :
    Calls Tryd.prog 4 #[.agg #[.int .u8 a, .int .u8 b], .int .u32 u, .string s, .slice A l.length c] w fun e w' => e = .returned (.bool true) ∧ Below w.heap.size w w' := by
  obtain ⟨T, rfl⟩ := twinAll D
  obtain ⟨k, big, hg, h1, h2, h3, h4, h5, h6, h7⟩ := makes (T := T) a b u s l hu hd
  rcases big with _ | _
  · exact makes_not k a b u s A c l w hs hu hP hr hc ⟨hg⟩ ⟨h1⟩ ⟨h2⟩ ⟨h3⟩ ⟨h4⟩ ⟨h5⟩ ⟨h6⟩ ⟨h7⟩
  · exact makes_great k a b u s A c l w hs hu hP hr hc ⟨hg⟩
end Go.Proofs.YtnmbhhkdiegemaaDoor.MPlain
