/- The walk of page.Find: the tag of two names. No conditions. -/
import Derived.Test.YtnmbhhkdiegemaaPageRng
namespace Go.Proofs.Ytnmbhhkdiegemaa.H
open Go.RowKit Go.Proofs.YtnmbhhkdiegemaaW.PrintWords Go.Proofs.YtnmbhhkdiegemaaW.PrintLast Go.Proofs.YtnmbhhkdiegemaaW.PrintMore
open Go.ChangeMaps (setBlock)
set_option linter.unusedVariables false
set_option linter.unusedSimpArgs false

theorem bytes_inj {a b : ByteArray} (h : a.toList = b.toList) : a = b := by
  rw [Lib.toList_data, Lib.toList_data] at h
  exact ByteArray.ext (Array.toList_inj.1 h)
theorem bytes_ne {a b : ByteArray} (c : ¬ a = b) : (a.toList == b.toList) = false := by
  rw [beq_eq_false_iff_ne]
  exact fun h => c (bytes_inj h)
def findA (s t : ByteArray) : Int := (findR s t).elim 0 (·.1)
def findB (s t : ByteArray) : Int := (findR s t).elim 0 (·.2)
def findO (s t : ByteArray) : Bool := (findR s t).isSome
/-- Between two rounds over the pages. -/
def OutR (w wr : World) (s t : ByteArray) (g n r : Nat) : Prop := ∃ seen, Rng wr r n (pv (n + 1) PG) seen ∧ PagesAt wr n ∧ wr.heap[g]? = some (.cells #[.int .u8 0, .int .u8 0] 23 (0, 0)) ∧ Below w.heap.size w wr ∧
  ∀ (j : Nat) (k : Int) (T : TagL), PG[j]? = some (k, s, T) → seen.contains j = true → ∀ x ∈ T, x.2 ≠ t
/-- Between two rounds over a page's tags. -/
def InR (w wr : World) (s t : ByteArray) (g n r r2 b q : Nat) (T : TagL) (seen : Array Nat) : Prop := ∃ seen2, wr.rangeLeft n r = q ∧ Rng wr r2 b (tv T) seen2 ∧ Rng wr r n (pv (n + 1) PG) seen ∧ PagesAt wr n ∧ wr.heap[g]? = some (.cells #[.int .u8 0, .int .u8 0] 23 (0, 0)) ∧ Below w.heap.size w wr ∧
  ∀ (i : Nat) (m : Int) (u : ByteArray), T[i]? = some (m, u) → seen2.contains i = true → u ≠ t
set_option maxHeartbeats 8000000 in
set_option maxRecDepth 100000 in
theorem page_Find.calls (s t : ByteArray) (w : World) : Calls Try.prog 13 #[.string s, .string t] w fun e w' => e = .returned (.tuple #[.agg #[.int .u8 (findA s t), .int .u8 (findB s t)], .bool (findO s t)]) ∧ Below w.heap.size w w' := by
  have hu23 := Try.underlying23
  go_enter Try.func13, Try.ntmps13
  go_wp2_with (first
    | (go_at_call 35; refine (pages.got _).mono ?_; rintro _ w2 ⟨n, rfl, hP, hb, hn, hs⟩)
    | (at_range; refine wpList_range_kv _ rfl _ 63 rfl u63 n (pv (n + 1) PG) rfl (hP 0 _ rfl) ?_; intro w3 r hr hR hg hs3; go_frame))
  have hg0 : w3.heap[w.heap.size]? = some (.cells #[.int .u8 0, .int .u8 0] 23 (0, 0)) := blk_grown (blk_below (heap_alloc_new w _) hb) hg (by simp)
  have hB : Below w.heap.size w w3 := ((below_step (below_alloc (Below.refl _ _) _) hb).grown hg (by have := below_size hb; simp at this; omega) (by simp))
  have hn' : w.heap.size < n := by simp at hn; omega
  have hr' : n + 7 ≤ r := by omega
  have H0 := Aside0.mk (show OutR w w3 s t w.heap.size n r from ⟨#[], hR, hP.grown hg (by simp), hg0, hB, by simp⟩)
  clear hg0 hB hR hg hb hP hn hs3 hr hs
  go_loopw [6] (fun _ wr => OutR w wr s t w.heap.size n r) (fun _ wr => wr.rangeLeft n r)
  case atStart => exact H0.out
  case round =>
    obtain ⟨seen, hR, hP, hc, hB, hall⟩ := hrel
    go_wp2_with (at_next; refine wpList_next_kv _ rfl _ rfl (fun x : ByteArray × Nat => .agg #[.string x.1, .map (some x.2)]) (fun j k x => x.2 = n + 1 + j ∧ ∃ T, PG[j]? = some (k, x.1, T)) r n (pv (n + 1) PG) seen (fun j k v h => pv_inv n j k v PG (n + 1) j h) rfl hR ?_ ?_)
    · intro hdone
      have hc0 : wr.cell? ⟨w.heap.size, 0, none⟩ = some (.int .u8 0) := (blk_cell hc 0).trans rfl
      have hc1 : wr.cell? ⟨w.heap.size, 1, none⟩ = some (.int .u8 0) := (blk_cell hc 1).trans rfl
      have hf0 := blk_frozen hc 0
      have hf1 := blk_frozen hc 1
      have e : findR s t = none := findR_none fun j k T hj x hx => hall j k T hj (by
        have hlt := (List.getElem?_eq_some_iff.1 hj).1
        have := hdone j (by rw [pv_length]; exact hlt)
        simpa using this) x hx
      have HC := Aside0.mk hc
      have HB := Aside0.mk hB
      have E := Aside0.mk e
      clear hc hB e hall hdone hR hP
      go_wp2
      refine bodyPost_ret (v := .tuple #[.agg #[.int .u8 0, .int .u8 0], .bool false]) (by simp [results, Try.results13, go_sem, hc0, hc1]) rfl ?_
      unfold findA findB findO
      rw [E.out]
      exact ⟨rfl, (HB.out.setCell (Nat.le_refl _) _).setCell (Nat.le_refl _) _⟩
    · intro j k u m w4 h1 h2 T h3 hcn hR4 hg4 hs4 hm4 hen
      subst h2
      have hc4 := blk_grown hc hg4 (by simp; omega)
      have hP4 : PagesAt w4 n := hP.grown hg4 (fun j hj => by obtain rfl := Option.some.inj hj; exact .inr hr')
      have hB4 : Below w.heap.size w w4 := hB.grown hg4 (below_size hB) (by intro k hk; obtain rfl := Option.some.inj hk; omega)
      have hpg := hP4.page h3
      have hj : n + 1 + j < n + 7 := by
        have := (List.getElem?_eq_some_iff.1 h3).1
        have e : PG.length = 6 := rfl
        omega
      have hcg0 : w4.cell? ⟨w.heap.size, 0, none⟩ = some (.int .u8 0) := (blk_cell hc4 0).trans rfl
      have hcg1 : w4.cell? ⟨w.heap.size, 1, none⟩ = some (.int .u8 0) := (blk_cell hc4 1).trans rfl
      have hfg0 := blk_frozen hc4 0
      have hfg1 := blk_frozen hc4 1
      have hz4 : w.heap.size < w4.heap.size := blk_lt hc4
      have hz5 := hR4.lt
      by_cases c : u = s
      case neg =>
        have cb := bytes_ne c
        have HO := Aside0.mk (show ∀ o, OutR w (w4.alloc o) s t w.heap.size n r from fun o => ⟨_, hR4.alloc o, hP4.alloc o, blk_alloc hc4 o, hB4.alloc (Nat.le_of_lt hz4) o, fun j' k' T' hj' hs' x hx => by
          rw [contains_push] at hs'
          rcases Bool.or_eq_true_iff.1 hs' with hs' | hs'
          · exact hall j' k' T' hj' hs' x hx
          · obtain rfl := beq_iff_eq.1 hs'
            rw [h3] at hj'
            cases hj'
            exact absurd rfl c⟩)
        have HM := Aside0.mk (show ∀ o, (w4.alloc o).rangeLeft n r < wr.rangeLeft n r from fun o => by rw [hR4.left (w' := w4.alloc o) (Below.heap_alloc w4 o n hz5.1) (Below.heap_alloc w4 o r hz5.2)]; exact hm4)
        clear hc hB hP hR hall hc4 hP4 hB4 hpg hR4 hg4 hm4 h1
        go_wp2
        go_roundw
        case rel => exact HO.out _
        case measure => exact HM.out _
      case pos =>
        subst c
        have HC4 := Aside0.mk hc4
        have HP4 := Aside0.mk hP4
        have HB4 := Aside0.mk hB4
        have HR4 := Aside0.mk hR4
        have HM4 := Aside0.mk hm4
        have HALL := Aside0.mk hall
        have HPG := Aside0.mk hpg
        clear hc hB hP hR hall hc4 hP4 hB4 hpg hR4 hg4 hm4 h1 hcg0 hcg1 hfg0 hfg1
        go_wp2_with (at_range; refine wpList_range_kv _ rfl _ 59 rfl u59 (n + 1 + j) (tv T) rfl (blk_alloc HPG.out _) ?_; intro w5 r2 hr2 hR5 hg5 hs5; go_frame)
        have hz6 : w.heap.size < w5.heap.size := by have := hg5.size; simp at this; omega
        have H5 := Aside0.mk (show InR w w5 u t w.heap.size n r r2 (n + 1 + j) (w4.rangeLeft n r) T (seen.push j) from
          ⟨#[], (Rng.left (HR4.out.alloc _) (hg5.block n (by simp; omega) (by simp)) (hg5.block r (by simp; omega) (by simp))).trans (HR4.out.left (Below.heap_alloc w4 _ n hz5.1) (Below.heap_alloc w4 _ r hz5.2)), hR5, (HR4.out.alloc _).grown hg5 (by simp) (by simp), (HP4.out.alloc _).grown hg5 (by simp), blk_grown (blk_alloc HC4.out _) hg5 (by simp),
            (HB4.out.alloc (Nat.le_of_lt hz4) _).grown hg5 (by simp; omega) (by simp), by simp⟩)
        have hr2' : w.heap.size < r2 := by rw [hr2]; simp; omega
        have hr2n : n + 1 + j < r2 ∧ r < r2 ∧ n < r2 := by rw [hr2]; simp; omega
        clear hR5 hg5 hs5 hr2 hz6
        go_loopw [8] (fun _ wr2 => InR w wr2 u t w.heap.size n r r2 (n + 1 + j) (w4.rangeLeft n r) T (seen.push j)) (fun _ wr2 => wr2.rangeLeft (n + 1 + j) r2)
        case atStart => exact H5.out
        case round =>
          obtain ⟨seen2, hq, hR5, hR6, hP6, hc6, hB6, hin⟩ := hrel
          have HALL2 := Aside0.mk hin
          clear hin
          go_wp2_with (at_next; refine wpList_next_kv _ rfl _ rfl (fun x : ByteArray => .agg #[.string x]) (fun j k x => T[j]? = some (k, x)) r2 (n + 1 + j) (tv T) seen2 (fun j k v h => tv_inv T j k v h) rfl hR5 ?_ ?_)
          · intro hdone
            have HO := Aside0.mk (show OutR w wr u t w.heap.size n r from ⟨_, hR6, hP6, hc6, hB6, fun j' k' T' hj' hs' x hx => by
              rw [contains_push] at hs'
              rcases Bool.or_eq_true_iff.1 hs' with hs' | hs'
              · exact HALL.out j' k' T' hj' hs' x hx
              · obtain rfl := beq_iff_eq.1 hs'
                rw [h3] at hj'
                cases hj'
                obtain ⟨i, hi⟩ := List.getElem?_of_mem hx
                have hlt := (List.getElem?_eq_some_iff.1 hi).1
                have := hdone i (by unfold tv; rw [List.length_map]; exact hlt)
                exact HALL2.out i x.1 x.2 hi (by simpa using this)⟩)
            have HM := Aside0.mk (Nat.lt_of_le_of_lt (Nat.le_of_eq hq) HM4.out)
            clear hdone hq hR5 hR6 hP6 hc6 hB6
            go_wp2
            go_roundw
            case rel => exact HO.out
            case measure => exact HM.out
          · intro i m x w7 g1 g2 g3 hR7 hg7 hs7 hm7 hen7
            have hc7 := blk_grown hc6 hg7 (by simp; omega)
            have hP7 : PagesAt w7 n := hP6.grown hg7 (fun j hj => by obtain rfl := Option.some.inj hj; exact .inr (by omega))
            have hB7 : Below w.heap.size w w7 := hB6.grown hg7 (below_size hB6) (by intro k hk; obtain rfl := Option.some.inj hk; omega)
            have hR8 : Rng w7 r n (pv (n + 1) PG) (seen.push j) := hR6.grown hg7 (by simp; omega) (by simp; omega)
            have hq7 := (hR6.left (hg7.block n hR6.lt.1 (by simp; omega)) (hg7.block r hR6.lt.2 (by simp; omega))).trans hq
            have hcg0 : w7.cell? ⟨w.heap.size, 0, none⟩ = some (.int .u8 0) := (blk_cell hc7 0).trans rfl
            have hcg1 : w7.cell? ⟨w.heap.size, 1, none⟩ = some (.int .u8 0) := (blk_cell hc7 1).trans rfl
            have hfg0 := blk_frozen hc7 0
            have hfg1 := blk_frozen hc7 1
            have hz7 : w.heap.size < w7.heap.size := blk_lt hc7
            have hz8 := hR7.lt
            have hz9 := hR8.lt
            have HB7 := Aside0.mk hB7
            by_cases c : x = t
            case pos =>
              subst c
              have E := Aside0.mk (findR_some h3 g2)
              have hca0 : ∀ o, (w7.alloc o).cell? ⟨w.heap.size, 0, none⟩ = some (.int .u8 0) := fun o => (blk_cell (blk_alloc hc7 o) 0).trans rfl
              have hca1 : ∀ o, (w7.alloc o).cell? ⟨w.heap.size, 1, none⟩ = some (.int .u8 0) := fun o => (blk_cell (blk_alloc hc7 o) 1).trans rfl
              have hfa0 := fun o => blk_frozen (blk_alloc hc7 o) 0
              have hfa1 := fun o => blk_frozen (blk_alloc hc7 o) 1
              clear hc6 hP6 hB6 hR5 hR6 hq hc7 hP7 hB7 hR7 hR8 hq7 hg7 hm7 g1
              go_wp2
              refine bodyPost_ret (v := .tuple #[.agg #[.int .u8 k, .int .u8 m], .bool true]) (by simp [results, Try.results13, go_sem, hca0, hca1]) rfl ?_
              unfold findA findB findO
              rw [E.out]
              exact ⟨rfl, (((HB7.out.alloc (Nat.le_of_lt hz7) _).setCell (Nat.le_refl _) _).setCell (Nat.le_refl _) _)⟩
            case neg =>
              have cb := bytes_ne c
              have HO := Aside0.mk (show ∀ o, InR w (w7.alloc o) u t w.heap.size n r r2 (n + 1 + j) (w4.rangeLeft n r) T (seen.push j) from fun o =>
                ⟨_, (hR8.left (Below.heap_alloc w7 o n hz9.1) (Below.heap_alloc w7 o r hz9.2)).trans hq7, hR7.alloc o, hR8.alloc o, hP7.alloc o, blk_alloc hc7 o, hB7.alloc (Nat.le_of_lt hz7) o, fun i' m' u' hi' hs' => by
                  rw [contains_push] at hs'
                  rcases Bool.or_eq_true_iff.1 hs' with hs' | hs'
                  · exact HALL2.out i' m' u' hi' hs'
                  · obtain rfl := beq_iff_eq.1 hs'
                    rw [g2] at hi'
                    cases hi'
                    exact c⟩)
              have HM := Aside0.mk (fun o => Nat.lt_of_le_of_lt (Nat.le_of_eq (hR7.left (Below.heap_alloc w7 o (n + 1 + j) hz8.1) (Below.heap_alloc w7 o r2 hz8.2))) hm7)
              clear hc6 hP6 hB6 hR5 hR6 hq hc7 hP7 hB7 hR7 hR8 hq7 hg7 hm7 g1
              go_wp2
              go_roundw
              case rel => exact HO.out _
              case measure => exact HM.out _
end Go.Proofs.Ytnmbhhkdiegemaa.H
