/- A parameter []Node, opened: its cells, deep, and the bounds of what it holds. Conditions: the argument is read as data, its weights are what a machine reaches. -/
import Derived.Test.YtnmbhhkdiegemaaDoorMakesPlain
import Derived.Deep.Slices
import Derived.Deep.Fields
import Derived.ChangeSame
import Derived.SizedLaws
import Derived.Test.YtnmbhhkdiegemaaDoorWSized
namespace Go.Proofs.YtnmbhhkdiegemaaDoor.MArg
open Go.ChangeShapes Go.WideShapes Go.Deep Go.RowKit Go.Proofs.YtnmbhhkdiegemaaDoor.M Go.Proofs.YtnmbhhkdiegemaaDoorW.PrintWords Go.Proofs.YtnmbhhkdiegemaaDoorW.PrintLast
set_option linter.unusedVariables false

/-- A list out of its places. -/
theorem list_of {α : Type} {Q : Nat → α → Prop} : ∀ (n : Nat), (∀ i, i < n → ∃ t, Q i t) → ∃ xs : List α, xs.length = n ∧ ∀ j p, xs[j]? = some p → Q j p
  | 0, _ => ⟨[], rfl, fun j p h => by simp at h⟩
  | n + 1, h => by
    obtain ⟨xs, hl, hx⟩ := list_of n (fun i hi => h i (by omega))
    obtain ⟨t, ht⟩ := h n (by omega)
    refine ⟨xs ++ [t], by simp [hl], fun j p hj => ?_⟩
    rw [List.getElem?_append] at hj
    split at hj
    · exact hx j p hj
    · rename_i hjl
      have hj2 := (List.getElem?_eq_some_iff.1 hj).1
      simp at hj2
      have : j = n := by omega
      subst this
      rw [hl, Nat.sub_self] at hj
      simp at hj
      exact hj ▸ ht
theorem weights_all {H : Type} {P : Program} {e : TypeId} {d : DataW H} {n : Nat} (hn : n ∈ d.weights P e) : ∀ {ds : List (DataW H)}, d ∈ ds → n ∈ DataW.weightsAll P e ds
  | d0 :: ds, h => by
    simp only [DataW.weightsAll, List.mem_append]
    rcases List.mem_cons.1 h with rfl | h
    · exact .inl hn
    · exact .inr (weights_all hn h)
theorem dep_mono : ∀ (d : Nat) (l : List S30), dep d l = true → dep (d + 1) l = true
  | 0, l, h => absurd h (by simp [dep])
  | d + 1, l, h => by
    obtain ⟨h1, h2⟩ := dep_get h
    rw [dep]
    simp only [Bool.and_eq_true, decide_eq_true_eq, List.all_eq_true]
    exact ⟨h1, fun x hx => ⟨(h2 x hx).1, dep_mono d _ (h2 x hx).2⟩⟩
theorem dep_more (d : Nat) (l : List S30) (h : dep d l = true) : ∀ m, dep (d + m) l = true
  | 0 => h
  | m + 1 => dep_mono (d + m) l (dep_more d l h m)
theorem dep_all : ∀ l : List S30, (∀ x ∈ l, ∃ d, dep d x.f3 = true) → ∃ d, ∀ x ∈ l, dep d x.f3 = true
  | [], _ => ⟨0, fun x hx => by cases hx⟩
  | x :: l, h => by
    obtain ⟨d1, h1⟩ := h x (List.mem_cons_self ..)
    obtain ⟨d2, h2⟩ := dep_all l (fun y hy => h y (List.mem_cons_of_mem _ hy))
    refine ⟨d1 + d2, fun y hy => ?_⟩
    rcases List.mem_cons.1 hy with rfl | hy
    · exact dep_more d1 _ h1 d2
    · rw [Nat.add_comm]
      exact dep_more d2 _ (h2 y hy) d1
theorem two_of {α : Type} {l : List α} (h : l.length = 2) : ∃ a b, l = [a, b] := by
  match l, h with
  | [a, b], _ => exact ⟨a, b, rfl⟩
theorem four_of {α : Type} {l : List α} (h : l.length = 4) : ∃ a b c d, l = [a, b, c, d] := by
  match l, h with
  | [a, b, c, d], _ => exact ⟨a, b, c, d, rfl⟩
theorem five_of {α : Type} {l : List α} (h : l.length = 5) : ∃ a b c d e, l = [a, b, c, d, e] := by
  match l, h with
  | [a, b, c, d, e], _ => exact ⟨a, b, c, d, e, rfl⟩
theorem open_nodes {H : Type} {enc : TypeId × Value → H} {W : World} : ∀ (N : Nat) (d : DataW H) (ps : List MemPlace) (fuel : Nat) (cs : List Value), SizeOf.sizeOf d ≤ N → DataW.trod enc Tryd.prog W 0 (fun _ => true) true fuel 28 cs = some (d, ps) →
    (∀ n ∈ d.weights Tryd.prog 28, n ≤ reachBytes) → ∃ (A : Option Addr) (cap : Nat) (xs : List S30) (D : Nat), cs = [.slice A xs.length cap] ∧ xs.length ≤ cap ∧ Kd.C k30 W A xs.length xs ∧ dep (D + 1) xs = true := by
  intro N
  induction N with
  | zero =>
    intro d ps fuel cs hN
    exfalso
    cases d <;> simp at hN
  | succ N ih =>
    intro d ps fuel cs hN h hwt
    rcases open_slice Tryd.underlying28 h with ⟨rfl, hx⟩ | ⟨a, len, cap, m, n, Df, Pl, rfl, _, hl, hm, hmm, hx, hi⟩
    · exact ⟨none, 0, [], 0, rfl, Nat.le_refl _, ⟨rfl, by decide, fun h => absurd h (by decide)⟩, MPlain.dep_nil 0⟩
    simp only [if_true] at hmm
    subst hmm
    have hd : d = .slice ((List.range len).map Df) ((List.range (m - len)).map fun j => Df (len + j)) := congrArg Prod.fst hx
    subst hd
    have hC30 : Tryd.prog.cellsOf 30 = 5 := by kernel_rfl
    have hb30 : Tryd.prog.bytesOf 30 = 56 := by kernel_rfl
    have hr : reachBytes = 140737488351232 := rfl
    have hw0 := hwt ((((List.range len).map Df).length + ((List.range (m - len)).map fun j => Df (len + j)).length) * Tryd.prog.bytesOf 30) (by simp [DataW.weights, Tryd.underlying28])
    simp only [List.length_map, List.length_range, hb30, hr] at hw0
    have hlen : len ≤ 2513169434900 := by omega
    obtain ⟨xs, hxl, hxs⟩ := list_of (Q := fun i (t : S30) => (∃ D, dep D t.f3 = true) ∧ t.f2.length < 140737488355328 ∧ ∃ c : List Value, c.length = 5 ∧ k30.K W t c ∧ ∀ j u, c[j]? = some u → W.cell? (a.add (i * 5 + j)) = some u) len (fun i hil => by
      obtain ⟨cs', hc, ht'⟩ := hi i (by omega)
      rw [hC30] at hc
      obtain ⟨ys, n', hn', hy, hlen', hyl, hf⟩ := DataW.trod_struct Tryd.underlying30 ht'
      obtain ⟨_, hcl, hat⟩ := World.cells?_some hc
      simp only [Prod.mk.injEq] at hy
      have hWD : ∀ n ∈ DataW.weightsEach Tryd.prog [23, 5, 27, 28] (ys.map (·.1)), n ≤ reachBytes := by
        intro n hn
        refine hwt n ?_
        simp only [DataW.weights, Tryd.underlying28, List.mem_cons, List.mem_append]
        refine .inr (.inl (weights_all (d := Df i) ?_ (List.mem_map.2 ⟨i, List.mem_range.2 hil, rfl⟩)))
        rw [hy.1]
        simp only [DataW.weights, Tryd.underlying30]
        exact hn
      have hsz : SizeOf.sizeOf (Df i) < SizeOf.sizeOf ((List.range len).map Df) := List.sizeOf_lt_of_mem (List.mem_map.2 ⟨i, List.mem_range.2 hil, rfl⟩)
      obtain ⟨c0, c1, c2, c3, c4, rfl⟩ := five_of hcl
      obtain ⟨y0, y1, y2, y3, rfl⟩ := four_of hyl
      have hf0 : DataW.trod enc Tryd.prog W 0 (fun _ => true) true n' 23 [c0, c1] = some y0 := by simpa [show Tryd.prog.cellsOf 23 = 2 by kernel_rfl] using hf 0 _ rfl
      have hf1 : DataW.trod enc Tryd.prog W 0 (fun _ => true) true n' 5 [c2] = some y1 := by simpa [show Tryd.prog.cellsOf 5 = 1 by kernel_rfl] using hf 1 _ rfl
      have hf2 : DataW.trod enc Tryd.prog W 0 (fun _ => true) true n' 27 [c3] = some y2 := by simpa [show Tryd.prog.cellsOf 27 = 1 by kernel_rfl] using hf 2 _ rfl
      have hf3 : DataW.trod enc Tryd.prog W 0 (fun _ => true) true n' 28 [c4] = some y3 := by simpa [show Tryd.prog.cellsOf 28 = 1 by kernel_rfl] using hf 3 _ rfl
      obtain ⟨zs, n2, _, _, _, hzl, hg⟩ := DataW.trod_struct Tryd.underlying23 hf0
      obtain ⟨z0, z1, rfl⟩ := two_of hzl
      have hg0 : DataW.trod enc Tryd.prog W 0 (fun _ => true) true n2 5 [c0] = some z0 := by simpa [show Tryd.prog.cellsOf 5 = 1 by kernel_rfl] using hg 0 _ rfl
      have hg1 : DataW.trod enc Tryd.prog W 0 (fun _ => true) true n2 5 [c1] = some z1 := by simpa [show Tryd.prog.cellsOf 5 = 1 by kernel_rfl] using hg 1 _ rfl
      obtain ⟨p0, e0, _, _⟩ := DataW.trod_int Tryd.underlying5 hg0
      obtain ⟨p1, e1, _, _⟩ := DataW.trod_int Tryd.underlying5 hg1
      obtain ⟨p2, e2, _, _⟩ := DataW.trod_int Tryd.underlying5 hf1
      obtain rfl : c0 = .int .u8 p0 := by simpa using e0
      obtain rfl : c1 = .int .u8 p1 := by simpa using e1
      obtain rfl : c2 = .int .u8 p2 := by simpa using e2
      have h22 : ∃ A l c, c3 = .slice A l c ∧ l ≤ c ∧ ∃ zs : List Int, ((A = none ∧ l = 0 ∧ c = 0 ∧ zs = []) ∨ ∃ x, A = some x ∧ l ≤ c ∧ c ≤ maxLen ∧ zs.length = c ∧ (∀ i, i < zs.length → W.cell? (x.add i) = some (.int .u8 (zs.getD i 0))) ∧ ∀ n ∈ zs, (Lit.int .u8 n).wf = true) := by
        rcases open_ints Tryd.underlying27 Tryd.underlying5 (by kernel_rfl) hf2 with ⟨hcs, _⟩ | ⟨x2, l2, c2, zs, hcs, _, hl2, hm2, hz, _, hcell, hwz⟩
        · exact ⟨none, 0, 0, by simpa using hcs, Nat.le_refl _, [], .inl ⟨rfl, rfl, rfl, rfl⟩⟩
        · exact ⟨some x2, l2, c2, by simpa using hcs, hl2, zs, .inr ⟨x2, rfl, hl2, hm2, by simpa using hz, hcell, hwz⟩⟩
      obtain ⟨A3, l3, k3, rfl, hlc, zs3, hzs⟩ := h22
      have hsi := sized_ints (H := H) (P := Tryd.prog) (ts := [23, 5, 27, 28]) (List.all_eq_true.2 (fun n hn => decide_eq_true (hWD n hn))) (j := 2) rfl rfl Tryd.underlying27 Tryd.underlying5 (by kernel_rfl) (B := 1) (by kernel_rfl) (a := A3) (len := l3) (cap := k3) (ps := y2.2) ⟨n', hf2⟩
      obtain ⟨b3, rfl, hr3, hbm, hbw, hbc⟩ := ReadsInt.ofRowC hzs
      have hs3 : SizeOf.sizeOf y3.1 ≤ N := by
        have h1 : SizeOf.sizeOf y3.1 < SizeOf.sizeOf (List.map (·.1) [y0, y1, y2, y3]) := List.sizeOf_lt_of_mem (by simp)
        have h2 : SizeOf.sizeOf (Df i) = 1 + SizeOf.sizeOf (List.map (·.1) [y0, y1, y2, y3]) := by rw [hy.1]; simp
        have h3 := hN
        simp only [DataW.slice.sizeOf_spec] at h3
        omega
      obtain ⟨A4, k4, l4, D4, e4, hl4, hC4, hd4⟩ := ih y3.1 y3.2 n' [c4] hs3 hf3 (fun n hn => hWD n (DataW.weights_mem_each (j := 3) rfl rfl n hn))
      obtain rfl : c4 = .slice A4 l4.length k4 := by simpa using e4
      refine ⟨⟨⟨p0, p1⟩, p2, b3, l4⟩, ⟨D4 + 1, hd4⟩, by show b3.length < _; omega, _, rfl, k30_mk W ⟨⟨p0, p1⟩, p2, b3, l4⟩ hbc (Kd.C_of_reads (d := (0 : Int)) (h1 := fun _ => rfl) hr3) hl4 hC4, fun j u hu => ?_⟩
      have hjl : j < 5 := by
        have := (List.getElem?_eq_some_iff.1 hu).1
        simpa using this
      have := hat j hjl
      rw [← Go.Deep.add_add, this]
      exact hu)
    have hdx : ∀ x ∈ xs, ∃ D, dep D x.f3 = true := fun x hx => by
      obtain ⟨j, hj⟩ := List.getElem?_of_mem hx
      exact (hxs j x hj).1
    obtain ⟨D, hD⟩ := dep_all xs hdx
    refine ⟨some a, m, xs, D, by rw [hxl], by omega, ⟨rfl, by omega, fun _ => ⟨a, rfl, fun j t hj => ?_⟩⟩, ?_⟩
    · obtain ⟨_, _, c, hc5, hK, hcell⟩ := hxs j t hj
      exact ⟨c, hc5, hK, hcell⟩
    · rw [dep]
      simp only [Bool.and_eq_true, decide_eq_true_eq, List.all_eq_true]
      refine ⟨by omega, fun x hx => ⟨?_, hD x hx⟩⟩
      obtain ⟨j, hj⟩ := List.getElem?_of_mem hx
      exact (hxs j x hj).2.1
end Go.Proofs.YtnmbhhkdiegemaaDoor.MArg
