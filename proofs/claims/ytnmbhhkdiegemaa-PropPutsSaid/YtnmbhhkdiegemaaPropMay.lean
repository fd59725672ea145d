/- The walks of prop.May and the document's May: whether a contact may be. Conditions: those that each theorem names. -/
import Derived.Test.YtnmbhhkdiegemaaPropTags
import Derived.Test.YtnmbhhkdiegemaaK3
import Derived.Test.YtnmbhhkdiegemaaK4
namespace Go.Proofs.Ytnmbhhkdiegemaa.K
open Go.RowKit Go.Proofs.YtnmbhhkdiegemaaW.PrintWords Go.Proofs.YtnmbhhkdiegemaaW.PrintLast Go.Proofs.YtnmbhhkdiegemaaW.PrintMore
attribute [local go_sem] max2_int min2_int max_two min_two max_three min_three max_four min_four
set_option linter.unusedVariables false
set_option linter.unusedSimpArgs false

/-- Whether a property's text may be; b: whether it is a text. -/
def okAt (s : Nat → ByteArray) (b : Nat → Bool) (i : Nat) : Bool := decide ((s i).size ≤ 32) && (decide (i = 7) || b i)
def mayB (s : Nat → ByteArray) (b : Nat → Bool) : Bool := (List.range 8).all (okAt s b)
theorem mayB_true {s : Nat → ByteArray} {b : Nat → Bool} (h : ∀ j, j < 8 → okAt s b j = true) : mayB s b = true := List.all_eq_true.2 fun j hj => h j (List.mem_range.1 hj)
theorem mayB_false {s : Nat → ByteArray} {b : Nat → Bool} {j : Nat} (hj : j < 8) (h : okAt s b j = false) : mayB s b = false := by
  rw [← Bool.not_eq_true]
  intro hh
  have := List.all_eq_true.1 hh j (List.mem_range.2 hj)
  rw [h] at this
  cases this
theorem upto_step {s : Nat → ByteArray} {b : Nat → Bool} {i : Nat} (h : ∀ j, j < i → okAt s b j = true) (hi : okAt s b i = true) : ∀ j, j < i + 1 → okAt s b j = true := fun j hj => by
  rcases Nat.lt_or_ge j i with h1 | h1
  · exact h j h1
  · obtain rfl : j = i := by omega
    exact hi

set_option maxHeartbeats 8000000 in
set_option maxRecDepth 100000 in
theorem prop_May.calls (k : Nat) (s : Nat → ByteArray) (b : Nat → Bool) (w : World) (hs : ∀ i, (s i).size ≤ 9223372036854775807) (hI : ∀ i, i < 7 → (s i).size ≤ 32 → utf_Is.f k (bytesOf (s i)) = some (b i)) :
    Calls Try.prog 23 #[.agg #[.string (s 0), .string (s 1), .string (s 2), .string (s 3), .string (s 4), .string (s 5), .string (s 6), .string (s 7)]] w fun e w' => e = .returned (.bool (mayB s b)) ∧ Below w.heap.size w w' := by
  have hu37 := Try.underlying37
  have HB := Aside0.mk (Below.refl w.heap.size w)
  have HI := Aside0.mk hI
  clear hI
  go_enter Try.func23, Try.ntmps23
  go_wp2_with (first | ((with_reducible refine gate_dst (N := 1) rfl ?_); refine box_event ?hg (N := 1) ?hd (cs := #[.string (s 0), .string (s 1), .string (s 2), .string (s 3), .string (s 4), .string (s 5), .string (s 6), .string (s 7)]) (t := 37) ?hr ?_; (case hd => rfl); (case hg => rfl); (case hr => first | (go_simp; done) | (go_simp; rfl)); intro gA hg w1 hbox hb; have ge_ := Aside0.mk ((by rw [hg]; exact below_size (by repeat (with_reducible first | exact HB.out | apply below_alloc | apply pw_below_drewN | apply below_drew1))) : w.heap.size ≤ gA); have n_ := Aside0.mk (below_step (by repeat (with_reducible first | exact HB.out | apply below_alloc | apply pw_below_drewN | apply below_drew1)) hb); clear HB; have HB := n_; clear n_; have BKgA := Aside0.mk hbox; have GEgA := ge_; clear ge_ hbox hg hb; obtain ⟨hcgA_1_0, hcgA_1_1, hcgA_1_2, hcgA_1_3, hcgA_1_4, hcgA_1_5, hcgA_1_6, hcgA_1_7⟩ := blk8 BKgA.out))
  have H0 := Aside0.mk (show ∃ i : Nat, i ≤ 8 ∧ (Value.int .i64 0) = .int .i64 i ∧ (∀ j, j < i → okAt s b j = true) ∧ w1.heap[gA]? = some (.cells #[.string (s 0), .string (s 1), .string (s 2), .string (s 3), .string (s 4), .string (s 5), .string (s 6), .string (s 7)] 37 (0, 0)) ∧ Below w.heap.size w w1 from ⟨0, by omega, rfl, fun j hj => by omega, BKgA.out, HB.out⟩)
  clear BKgA HB
  clear hcgA_1_0 hcgA_1_1 hcgA_1_2 hcgA_1_3 hcgA_1_4 hcgA_1_5 hcgA_1_6 hcgA_1_7
  go_loopw [6] (fun v wr => ∃ i : Nat, i ≤ 8 ∧ v = .int .i64 i ∧ (∀ j, j < i → okAt s b j = true) ∧ wr.heap[gA]? = some (.cells #[.string (s 0), .string (s 1), .string (s 2), .string (s 3), .string (s 4), .string (s 5), .string (s 6), .string (s 7)] 37 (0, 0)) ∧ Below w.heap.size w wr) (fun v _ => 8 - (intOf v).toNat)
  case atStart => exact H0.out
  case round =>
    obtain ⟨i, hi, rfl, hall, h0, hb0⟩ := hrel
    have BKgA := Aside0.mk h0
    have HB := Aside0.mk hb0
    have HALL := Aside0.mk hall
    clear h0 hb0 H0 hall
    rcases (show i = 0 ∨ i = 1 ∨ i = 2 ∨ i = 3 ∨ i = 4 ∨ i = 5 ∨ i = 6 ∨ i = 7 ∨ i = 8 by omega) with rfl | rfl | rfl | rfl | rfl | rfl | rfl | rfl | rfl
    · obtain ⟨hcgA_11_0, hcgA_11_1, hcgA_11_2, hcgA_11_3, hcgA_11_4, hcgA_11_5, hcgA_11_6, hcgA_11_7⟩ := blk8 BKgA.out
      have hix := idx37_0 (s 0) (s 1) (s 2) (s 3) (s 4) (s 5) (s 6) (s 7)
      have hsi := hs 0
      clear hs
      by_cases c : (s 0).size ≤ 32
      case neg =>
        have E := Aside0.mk (show mayB s b = false from mayB_false (j := 0) (by omega) (by simp [okAt, c]))
        have c1 : (32 : Int) < ((s 0).size : Int) := by omega
        clear c
        go_wp2
        go_ret
        exact ⟨by rw [E.out]; rfl, HB.out⟩
      have c1 : ¬ (32 : Int) < ((s 0).size : Int) := by omega
      have HIi := Aside0.mk (HI.out 0 (by omega) c)
      rcases hbi : b 0 with _ | _
      · rw [hbi] at HIi
        have E := Aside0.mk (show mayB s b = false from mayB_false (j := 0) (by omega) (by simp [okAt, hbi]))
        go_wp2_with (first | ((with_reducible refine gate_dst (N := 18) rfl ?_); (try (refine gate_guard (by rfl) ?_; dsimp only)); refine conv_bytes (N := 18) rfl rfl 9 50 5 rfl (s 0) rfl Try.underlying9 Try.underlying50 Try.underlying5 rfl hsi ?_; intro A_ c_ w3 hn8 hl8 hb; have n_ := Aside0.mk (below_step (by repeat (with_reducible first | exact HB.out | apply below_alloc | apply pw_below_drewN | apply below_drew1)) hb); have mgA_ := Aside0.mk (blk_below (g := gA) (o := CO s) (by (with_reducible repeat (first | refine blk_drewN ?_ _ | refine blk_drew ?_ | refine blk_alloc ?_ _)); exact BKgA.out) hb); clear HB BKgA; have HB := n_; have BKgA := mgA_; clear n_ mgA_; have HN8 := Aside0.mk hn8; have HL8 := Aside0.mk hl8; clear hn8 hl8 hb; obtain ⟨hcgA_21_0, hcgA_21_1, hcgA_21_2, hcgA_21_3, hcgA_21_4, hcgA_21_5, hcgA_21_6, hcgA_21_7⟩ := blk8 BKgA.out) | ((with_reducible refine gate_callee (f := 45) rfl ?_); (with_reducible refine gate_dst (N := 19) rfl ?_); (try (refine gate_guard (by rfl) ?_; dsimp only)); refine goesL_ (some 19) rfl rfl Try.func45 (by kernel_rfl) rfl #[.slice A_ (bytesOf (s 0)).length c_] rfl (by first | rfl | go_simp) ?_; refine (utf_Is.calls k A_ c_ (bytesOf (s 0)) false _ HN8.out HL8.out HIi.out).mono ?_; rintro _ w4 ⟨rfl, hd⟩; have hb := hd.below; clear hd; have n_ := Aside0.mk (below_step (by repeat (with_reducible first | exact HB.out | apply below_alloc | apply pw_below_drewN | apply below_drew1)) hb); have mgA_ := Aside0.mk (blk_below (g := gA) (o := CO s) (by (with_reducible repeat (first | refine blk_drewN ?_ _ | refine blk_drew ?_ | refine blk_alloc ?_ _)); exact BKgA.out) hb); clear HB BKgA; have HB := n_; have BKgA := mgA_; clear n_ mgA_; clear hb; obtain ⟨hcgA_22_0, hcgA_22_1, hcgA_22_2, hcgA_22_3, hcgA_22_4, hcgA_22_5, hcgA_22_6, hcgA_22_7⟩ := blk8 BKgA.out; refine ⟨_, rfl, ?_⟩))
        go_ret
        exact ⟨by rw [E.out]; rfl, HB.out⟩
      · rw [hbi] at HIi
        go_wp2_with (first | ((with_reducible refine gate_dst (N := 18) rfl ?_); (try (refine gate_guard (by rfl) ?_; dsimp only)); refine conv_bytes (N := 18) rfl rfl 9 50 5 rfl (s 0) rfl Try.underlying9 Try.underlying50 Try.underlying5 rfl hsi ?_; intro A_ c_ w3 hn8 hl8 hb; have n_ := Aside0.mk (below_step (by repeat (with_reducible first | exact HB.out | apply below_alloc | apply pw_below_drewN | apply below_drew1)) hb); have mgA_ := Aside0.mk (blk_below (g := gA) (o := CO s) (by (with_reducible repeat (first | refine blk_drewN ?_ _ | refine blk_drew ?_ | refine blk_alloc ?_ _)); exact BKgA.out) hb); clear HB BKgA; have HB := n_; have BKgA := mgA_; clear n_ mgA_; have HN8 := Aside0.mk hn8; have HL8 := Aside0.mk hl8; clear hn8 hl8 hb; obtain ⟨hcgA_21_0, hcgA_21_1, hcgA_21_2, hcgA_21_3, hcgA_21_4, hcgA_21_5, hcgA_21_6, hcgA_21_7⟩ := blk8 BKgA.out) | ((with_reducible refine gate_callee (f := 45) rfl ?_); (with_reducible refine gate_dst (N := 19) rfl ?_); (try (refine gate_guard (by rfl) ?_; dsimp only)); refine goesL_ (some 19) rfl rfl Try.func45 (by kernel_rfl) rfl #[.slice A_ (bytesOf (s 0)).length c_] rfl (by first | rfl | go_simp) ?_; refine (utf_Is.calls k A_ c_ (bytesOf (s 0)) true _ HN8.out HL8.out HIi.out).mono ?_; rintro _ w4 ⟨rfl, hd⟩; have hb := hd.below; clear hd; have n_ := Aside0.mk (below_step (by repeat (with_reducible first | exact HB.out | apply below_alloc | apply pw_below_drewN | apply below_drew1)) hb); have mgA_ := Aside0.mk (blk_below (g := gA) (o := CO s) (by (with_reducible repeat (first | refine blk_drewN ?_ _ | refine blk_drew ?_ | refine blk_alloc ?_ _)); exact BKgA.out) hb); clear HB BKgA; have HB := n_; have BKgA := mgA_; clear n_ mgA_; clear hb; obtain ⟨hcgA_22_0, hcgA_22_1, hcgA_22_2, hcgA_22_3, hcgA_22_4, hcgA_22_5, hcgA_22_6, hcgA_22_7⟩ := blk8 BKgA.out; refine ⟨_, rfl, ?_⟩))
        go_roundw
        case rel => exact ⟨1, by omega, rfl, upto_step HALL.out (by simp [okAt, c, hbi]), BKgA.out, HB.out⟩
        case measure => simp [intOf]
    · obtain ⟨hcgA_11_0, hcgA_11_1, hcgA_11_2, hcgA_11_3, hcgA_11_4, hcgA_11_5, hcgA_11_6, hcgA_11_7⟩ := blk8 BKgA.out
      have hix := idx37_1 (s 0) (s 1) (s 2) (s 3) (s 4) (s 5) (s 6) (s 7)
      have hsi := hs 1
      clear hs
      by_cases c : (s 1).size ≤ 32
      case neg =>
        have E := Aside0.mk (show mayB s b = false from mayB_false (j := 1) (by omega) (by simp [okAt, c]))
        have c1 : (32 : Int) < ((s 1).size : Int) := by omega
        clear c
        go_wp2
        go_ret
        exact ⟨by rw [E.out]; rfl, HB.out⟩
      have c1 : ¬ (32 : Int) < ((s 1).size : Int) := by omega
      have HIi := Aside0.mk (HI.out 1 (by omega) c)
      rcases hbi : b 1 with _ | _
      · rw [hbi] at HIi
        have E := Aside0.mk (show mayB s b = false from mayB_false (j := 1) (by omega) (by simp [okAt, hbi]))
        go_wp2_with (first | ((with_reducible refine gate_dst (N := 18) rfl ?_); (try (refine gate_guard (by rfl) ?_; dsimp only)); refine conv_bytes (N := 18) rfl rfl 9 50 5 rfl (s 1) rfl Try.underlying9 Try.underlying50 Try.underlying5 rfl hsi ?_; intro A_ c_ w3 hn8 hl8 hb; have n_ := Aside0.mk (below_step (by repeat (with_reducible first | exact HB.out | apply below_alloc | apply pw_below_drewN | apply below_drew1)) hb); have mgA_ := Aside0.mk (blk_below (g := gA) (o := CO s) (by (with_reducible repeat (first | refine blk_drewN ?_ _ | refine blk_drew ?_ | refine blk_alloc ?_ _)); exact BKgA.out) hb); clear HB BKgA; have HB := n_; have BKgA := mgA_; clear n_ mgA_; have HN8 := Aside0.mk hn8; have HL8 := Aside0.mk hl8; clear hn8 hl8 hb; obtain ⟨hcgA_21_0, hcgA_21_1, hcgA_21_2, hcgA_21_3, hcgA_21_4, hcgA_21_5, hcgA_21_6, hcgA_21_7⟩ := blk8 BKgA.out) | ((with_reducible refine gate_callee (f := 45) rfl ?_); (with_reducible refine gate_dst (N := 19) rfl ?_); (try (refine gate_guard (by rfl) ?_; dsimp only)); refine goesL_ (some 19) rfl rfl Try.func45 (by kernel_rfl) rfl #[.slice A_ (bytesOf (s 1)).length c_] rfl (by first | rfl | go_simp) ?_; refine (utf_Is.calls k A_ c_ (bytesOf (s 1)) false _ HN8.out HL8.out HIi.out).mono ?_; rintro _ w4 ⟨rfl, hd⟩; have hb := hd.below; clear hd; have n_ := Aside0.mk (below_step (by repeat (with_reducible first | exact HB.out | apply below_alloc | apply pw_below_drewN | apply below_drew1)) hb); have mgA_ := Aside0.mk (blk_below (g := gA) (o := CO s) (by (with_reducible repeat (first | refine blk_drewN ?_ _ | refine blk_drew ?_ | refine blk_alloc ?_ _)); exact BKgA.out) hb); clear HB BKgA; have HB := n_; have BKgA := mgA_; clear n_ mgA_; clear hb; obtain ⟨hcgA_22_0, hcgA_22_1, hcgA_22_2, hcgA_22_3, hcgA_22_4, hcgA_22_5, hcgA_22_6, hcgA_22_7⟩ := blk8 BKgA.out; refine ⟨_, rfl, ?_⟩))
        go_ret
        exact ⟨by rw [E.out]; rfl, HB.out⟩
      · rw [hbi] at HIi
        go_wp2_with (first | ((with_reducible refine gate_dst (N := 18) rfl ?_); (try (refine gate_guard (by rfl) ?_; dsimp only)); refine conv_bytes (N := 18) rfl rfl 9 50 5 rfl (s 1) rfl Try.underlying9 Try.underlying50 Try.underlying5 rfl hsi ?_; intro A_ c_ w3 hn8 hl8 hb; have n_ := Aside0.mk (below_step (by repeat (with_reducible first | exact HB.out | apply below_alloc | apply pw_below_drewN | apply below_drew1)) hb); have mgA_ := Aside0.mk (blk_below (g := gA) (o := CO s) (by (with_reducible repeat (first | refine blk_drewN ?_ _ | refine blk_drew ?_ | refine blk_alloc ?_ _)); exact BKgA.out) hb); clear HB BKgA; have HB := n_; have BKgA := mgA_; clear n_ mgA_; have HN8 := Aside0.mk hn8; have HL8 := Aside0.mk hl8; clear hn8 hl8 hb; obtain ⟨hcgA_21_0, hcgA_21_1, hcgA_21_2, hcgA_21_3, hcgA_21_4, hcgA_21_5, hcgA_21_6, hcgA_21_7⟩ := blk8 BKgA.out) | ((with_reducible refine gate_callee (f := 45) rfl ?_); (with_reducible refine gate_dst (N := 19) rfl ?_); (try (refine gate_guard (by rfl) ?_; dsimp only)); refine goesL_ (some 19) rfl rfl Try.func45 (by kernel_rfl) rfl #[.slice A_ (bytesOf (s 1)).length c_] rfl (by first | rfl | go_simp) ?_; refine (utf_Is.calls k A_ c_ (bytesOf (s 1)) true _ HN8.out HL8.out HIi.out).mono ?_; rintro _ w4 ⟨rfl, hd⟩; have hb := hd.below; clear hd; have n_ := Aside0.mk (below_step (by repeat (with_reducible first | exact HB.out | apply below_alloc | apply pw_below_drewN | apply below_drew1)) hb); have mgA_ := Aside0.mk (blk_below (g := gA) (o := CO s) (by (with_reducible repeat (first | refine blk_drewN ?_ _ | refine blk_drew ?_ | refine blk_alloc ?_ _)); exact BKgA.out) hb); clear HB BKgA; have HB := n_; have BKgA := mgA_; clear n_ mgA_; clear hb; obtain ⟨hcgA_22_0, hcgA_22_1, hcgA_22_2, hcgA_22_3, hcgA_22_4, hcgA_22_5, hcgA_22_6, hcgA_22_7⟩ := blk8 BKgA.out; refine ⟨_, rfl, ?_⟩))
        go_roundw
        case rel => exact ⟨2, by omega, rfl, upto_step HALL.out (by simp [okAt, c, hbi]), BKgA.out, HB.out⟩
        case measure => simp [intOf]
    · obtain ⟨hcgA_11_0, hcgA_11_1, hcgA_11_2, hcgA_11_3, hcgA_11_4, hcgA_11_5, hcgA_11_6, hcgA_11_7⟩ := blk8 BKgA.out
      have hix := idx37_2 (s 0) (s 1) (s 2) (s 3) (s 4) (s 5) (s 6) (s 7)
      have hsi := hs 2
      clear hs
      by_cases c : (s 2).size ≤ 32
      case neg =>
        have E := Aside0.mk (show mayB s b = false from mayB_false (j := 2) (by omega) (by simp [okAt, c]))
        have c1 : (32 : Int) < ((s 2).size : Int) := by omega
        clear c
        go_wp2
        go_ret
        exact ⟨by rw [E.out]; rfl, HB.out⟩
      have c1 : ¬ (32 : Int) < ((s 2).size : Int) := by omega
      have HIi := Aside0.mk (HI.out 2 (by omega) c)
      rcases hbi : b 2 with _ | _
      · rw [hbi] at HIi
        have E := Aside0.mk (show mayB s b = false from mayB_false (j := 2) (by omega) (by simp [okAt, hbi]))
        go_wp2_with (first | ((with_reducible refine gate_dst (N := 18) rfl ?_); (try (refine gate_guard (by rfl) ?_; dsimp only)); refine conv_bytes (N := 18) rfl rfl 9 50 5 rfl (s 2) rfl Try.underlying9 Try.underlying50 Try.underlying5 rfl hsi ?_; intro A_ c_ w3 hn8 hl8 hb; have n_ := Aside0.mk (below_step (by repeat (with_reducible first | exact HB.out | apply below_alloc | apply pw_below_drewN | apply below_drew1)) hb); have mgA_ := Aside0.mk (blk_below (g := gA) (o := CO s) (by (with_reducible repeat (first | refine blk_drewN ?_ _ | refine blk_drew ?_ | refine blk_alloc ?_ _)); exact BKgA.out) hb); clear HB BKgA; have HB := n_; have BKgA := mgA_; clear n_ mgA_; have HN8 := Aside0.mk hn8; have HL8 := Aside0.mk hl8; clear hn8 hl8 hb; obtain ⟨hcgA_21_0, hcgA_21_1, hcgA_21_2, hcgA_21_3, hcgA_21_4, hcgA_21_5, hcgA_21_6, hcgA_21_7⟩ := blk8 BKgA.out) | ((with_reducible refine gate_callee (f := 45) rfl ?_); (with_reducible refine gate_dst (N := 19) rfl ?_); (try (refine gate_guard (by rfl) ?_; dsimp only)); refine goesL_ (some 19) rfl rfl Try.func45 (by kernel_rfl) rfl #[.slice A_ (bytesOf (s 2)).length c_] rfl (by first | rfl | go_simp) ?_; refine (utf_Is.calls k A_ c_ (bytesOf (s 2)) false _ HN8.out HL8.out HIi.out).mono ?_; rintro _ w4 ⟨rfl, hd⟩; have hb := hd.below; clear hd; have n_ := Aside0.mk (below_step (by repeat (with_reducible first | exact HB.out | apply below_alloc | apply pw_below_drewN | apply below_drew1)) hb); have mgA_ := Aside0.mk (blk_below (g := gA) (o := CO s) (by (with_reducible repeat (first | refine blk_drewN ?_ _ | refine blk_drew ?_ | refine blk_alloc ?_ _)); exact BKgA.out) hb); clear HB BKgA; have HB := n_; have BKgA := mgA_; clear n_ mgA_; clear hb; obtain ⟨hcgA_22_0, hcgA_22_1, hcgA_22_2, hcgA_22_3, hcgA_22_4, hcgA_22_5, hcgA_22_6, hcgA_22_7⟩ := blk8 BKgA.out; refine ⟨_, rfl, ?_⟩))
        go_ret
        exact ⟨by rw [E.out]; rfl, HB.out⟩
      · rw [hbi] at HIi
        go_wp2_with (first | ((with_reducible refine gate_dst (N := 18) rfl ?_); (try (refine gate_guard (by rfl) ?_; dsimp only)); refine conv_bytes (N := 18) rfl rfl 9 50 5 rfl (s 2) rfl Try.underlying9 Try.underlying50 Try.underlying5 rfl hsi ?_; intro A_ c_ w3 hn8 hl8 hb; have n_ := Aside0.mk (below_step (by repeat (with_reducible first | exact HB.out | apply below_alloc | apply pw_below_drewN | apply below_drew1)) hb); have mgA_ := Aside0.mk (blk_below (g := gA) (o := CO s) (by (with_reducible repeat (first | refine blk_drewN ?_ _ | refine blk_drew ?_ | refine blk_alloc ?_ _)); exact BKgA.out) hb); clear HB BKgA; have HB := n_; have BKgA := mgA_; clear n_ mgA_; have HN8 := Aside0.mk hn8; have HL8 := Aside0.mk hl8; clear hn8 hl8 hb; obtain ⟨hcgA_21_0, hcgA_21_1, hcgA_21_2, hcgA_21_3, hcgA_21_4, hcgA_21_5, hcgA_21_6, hcgA_21_7⟩ := blk8 BKgA.out) | ((with_reducible refine gate_callee (f := 45) rfl ?_); (with_reducible refine gate_dst (N := 19) rfl ?_); (try (refine gate_guard (by rfl) ?_; dsimp only)); refine goesL_ (some 19) rfl rfl Try.func45 (by kernel_rfl) rfl #[.slice A_ (bytesOf (s 2)).length c_] rfl (by first | rfl | go_simp) ?_; refine (utf_Is.calls k A_ c_ (bytesOf (s 2)) true _ HN8.out HL8.out HIi.out).mono ?_; rintro _ w4 ⟨rfl, hd⟩; have hb := hd.below; clear hd; have n_ := Aside0.mk (below_step (by repeat (with_reducible first | exact HB.out | apply below_alloc | apply pw_below_drewN | apply below_drew1)) hb); have mgA_ := Aside0.mk (blk_below (g := gA) (o := CO s) (by (with_reducible repeat (first | refine blk_drewN ?_ _ | refine blk_drew ?_ | refine blk_alloc ?_ _)); exact BKgA.out) hb); clear HB BKgA; have HB := n_; have BKgA := mgA_; clear n_ mgA_; clear hb; obtain ⟨hcgA_22_0, hcgA_22_1, hcgA_22_2, hcgA_22_3, hcgA_22_4, hcgA_22_5, hcgA_22_6, hcgA_22_7⟩ := blk8 BKgA.out; refine ⟨_, rfl, ?_⟩))
        go_roundw
        case rel => exact ⟨3, by omega, rfl, upto_step HALL.out (by simp [okAt, c, hbi]), BKgA.out, HB.out⟩
        case measure => simp [intOf]
    · obtain ⟨hcgA_11_0, hcgA_11_1, hcgA_11_2, hcgA_11_3, hcgA_11_4, hcgA_11_5, hcgA_11_6, hcgA_11_7⟩ := blk8 BKgA.out
      have hix := idx37_3 (s 0) (s 1) (s 2) (s 3) (s 4) (s 5) (s 6) (s 7)
      have hsi := hs 3
      clear hs
      by_cases c : (s 3).size ≤ 32
      case neg =>
        have E := Aside0.mk (show mayB s b = false from mayB_false (j := 3) (by omega) (by simp [okAt, c]))
        have c1 : (32 : Int) < ((s 3).size : Int) := by omega
        clear c
        go_wp2
        go_ret
        exact ⟨by rw [E.out]; rfl, HB.out⟩
      have c1 : ¬ (32 : Int) < ((s 3).size : Int) := by omega
      have HIi := Aside0.mk (HI.out 3 (by omega) c)
      rcases hbi : b 3 with _ | _
      · rw [hbi] at HIi
        have E := Aside0.mk (show mayB s b = false from mayB_false (j := 3) (by omega) (by simp [okAt, hbi]))
        go_wp2_with (first | ((with_reducible refine gate_dst (N := 18) rfl ?_); (try (refine gate_guard (by rfl) ?_; dsimp only)); refine conv_bytes (N := 18) rfl rfl 9 50 5 rfl (s 3) rfl Try.underlying9 Try.underlying50 Try.underlying5 rfl hsi ?_; intro A_ c_ w3 hn8 hl8 hb; have n_ := Aside0.mk (below_step (by repeat (with_reducible first | exact HB.out | apply below_alloc | apply pw_below_drewN | apply below_drew1)) hb); have mgA_ := Aside0.mk (blk_below (g := gA) (o := CO s) (by (with_reducible repeat (first | refine blk_drewN ?_ _ | refine blk_drew ?_ | refine blk_alloc ?_ _)); exact BKgA.out) hb); clear HB BKgA; have HB := n_; have BKgA := mgA_; clear n_ mgA_; have HN8 := Aside0.mk hn8; have HL8 := Aside0.mk hl8; clear hn8 hl8 hb; obtain ⟨hcgA_21_0, hcgA_21_1, hcgA_21_2, hcgA_21_3, hcgA_21_4, hcgA_21_5, hcgA_21_6, hcgA_21_7⟩ := blk8 BKgA.out) | ((with_reducible refine gate_callee (f := 45) rfl ?_); (with_reducible refine gate_dst (N := 19) rfl ?_); (try (refine gate_guard (by rfl) ?_; dsimp only)); refine goesL_ (some 19) rfl rfl Try.func45 (by kernel_rfl) rfl #[.slice A_ (bytesOf (s 3)).length c_] rfl (by first | rfl | go_simp) ?_; refine (utf_Is.calls k A_ c_ (bytesOf (s 3)) false _ HN8.out HL8.out HIi.out).mono ?_; rintro _ w4 ⟨rfl, hd⟩; have hb := hd.below; clear hd; have n_ := Aside0.mk (below_step (by repeat (with_reducible first | exact HB.out | apply below_alloc | apply pw_below_drewN | apply below_drew1)) hb); have mgA_ := Aside0.mk (blk_below (g := gA) (o := CO s) (by (with_reducible repeat (first | refine blk_drewN ?_ _ | refine blk_drew ?_ | refine blk_alloc ?_ _)); exact BKgA.out) hb); clear HB BKgA; have HB := n_; have BKgA := mgA_; clear n_ mgA_; clear hb; obtain ⟨hcgA_22_0, hcgA_22_1, hcgA_22_2, hcgA_22_3, hcgA_22_4, hcgA_22_5, hcgA_22_6, hcgA_22_7⟩ := blk8 BKgA.out; refine ⟨_, rfl, ?_⟩))
        go_ret
        exact ⟨by rw [E.out]; rfl, HB.out⟩
      · rw [hbi] at HIi
        go_wp2_with (first | ((with_reducible refine gate_dst (N := 18) rfl ?_); (try (refine gate_guard (by rfl) ?_; dsimp only)); refine conv_bytes (N := 18) rfl rfl 9 50 5 rfl (s 3) rfl Try.underlying9 Try.underlying50 Try.underlying5 rfl hsi ?_; intro A_ c_ w3 hn8 hl8 hb; have n_ := Aside0.mk (below_step (by repeat (with_reducible first | exact HB.out | apply below_alloc | apply pw_below_drewN | apply below_drew1)) hb); have mgA_ := Aside0.mk (blk_below (g := gA) (o := CO s) (by (with_reducible repeat (first | refine blk_drewN ?_ _ | refine blk_drew ?_ | refine blk_alloc ?_ _)); exact BKgA.out) hb); clear HB BKgA; have HB := n_; have BKgA := mgA_; clear n_ mgA_; have HN8 := Aside0.mk hn8; have HL8 := Aside0.mk hl8; clear hn8 hl8 hb; obtain ⟨hcgA_21_0, hcgA_21_1, hcgA_21_2, hcgA_21_3, hcgA_21_4, hcgA_21_5, hcgA_21_6, hcgA_21_7⟩ := blk8 BKgA.out) | ((with_reducible refine gate_callee (f := 45) rfl ?_); (with_reducible refine gate_dst (N := 19) rfl ?_); (try (refine gate_guard (by rfl) ?_; dsimp only)); refine goesL_ (some 19) rfl rfl Try.func45 (by kernel_rfl) rfl #[.slice A_ (bytesOf (s 3)).length c_] rfl (by first | rfl | go_simp) ?_; refine (utf_Is.calls k A_ c_ (bytesOf (s 3)) true _ HN8.out HL8.out HIi.out).mono ?_; rintro _ w4 ⟨rfl, hd⟩; have hb := hd.below; clear hd; have n_ := Aside0.mk (below_step (by repeat (with_reducible first | exact HB.out | apply below_alloc | apply pw_below_drewN | apply below_drew1)) hb); have mgA_ := Aside0.mk (blk_below (g := gA) (o := CO s) (by (with_reducible repeat (first | refine blk_drewN ?_ _ | refine blk_drew ?_ | refine blk_alloc ?_ _)); exact BKgA.out) hb); clear HB BKgA; have HB := n_; have BKgA := mgA_; clear n_ mgA_; clear hb; obtain ⟨hcgA_22_0, hcgA_22_1, hcgA_22_2, hcgA_22_3, hcgA_22_4, hcgA_22_5, hcgA_22_6, hcgA_22_7⟩ := blk8 BKgA.out; refine ⟨_, rfl, ?_⟩))
        go_roundw
        case rel => exact ⟨4, by omega, rfl, upto_step HALL.out (by simp [okAt, c, hbi]), BKgA.out, HB.out⟩
        case measure => simp [intOf]
    · obtain ⟨hcgA_11_0, hcgA_11_1, hcgA_11_2, hcgA_11_3, hcgA_11_4, hcgA_11_5, hcgA_11_6, hcgA_11_7⟩ := blk8 BKgA.out
      have hix := idx37_4 (s 0) (s 1) (s 2) (s 3) (s 4) (s 5) (s 6) (s 7)
      have hsi := hs 4
      clear hs
      by_cases c : (s 4).size ≤ 32
      case neg =>
        have E := Aside0.mk (show mayB s b = false from mayB_false (j := 4) (by omega) (by simp [okAt, c]))
        have c1 : (32 : Int) < ((s 4).size : Int) := by omega
        clear c
        go_wp2
        go_ret
        exact ⟨by rw [E.out]; rfl, HB.out⟩
      have c1 : ¬ (32 : Int) < ((s 4).size : Int) := by omega
      have HIi := Aside0.mk (HI.out 4 (by omega) c)
      rcases hbi : b 4 with _ | _
      · rw [hbi] at HIi
        have E := Aside0.mk (show mayB s b = false from mayB_false (j := 4) (by omega) (by simp [okAt, hbi]))
        go_wp2_with (first | ((with_reducible refine gate_dst (N := 18) rfl ?_); (try (refine gate_guard (by rfl) ?_; dsimp only)); refine conv_bytes (N := 18) rfl rfl 9 50 5 rfl (s 4) rfl Try.underlying9 Try.underlying50 Try.underlying5 rfl hsi ?_; intro A_ c_ w3 hn8 hl8 hb; have n_ := Aside0.mk (below_step (by repeat (with_reducible first | exact HB.out | apply below_alloc | apply pw_below_drewN | apply below_drew1)) hb); have mgA_ := Aside0.mk (blk_below (g := gA) (o := CO s) (by (with_reducible repeat (first | refine blk_drewN ?_ _ | refine blk_drew ?_ | refine blk_alloc ?_ _)); exact BKgA.out) hb); clear HB BKgA; have HB := n_; have BKgA := mgA_; clear n_ mgA_; have HN8 := Aside0.mk hn8; have HL8 := Aside0.mk hl8; clear hn8 hl8 hb; obtain ⟨hcgA_21_0, hcgA_21_1, hcgA_21_2, hcgA_21_3, hcgA_21_4, hcgA_21_5, hcgA_21_6, hcgA_21_7⟩ := blk8 BKgA.out) | ((with_reducible refine gate_callee (f := 45) rfl ?_); (with_reducible refine gate_dst (N := 19) rfl ?_); (try (refine gate_guard (by rfl) ?_; dsimp only)); refine goesL_ (some 19) rfl rfl Try.func45 (by kernel_rfl) rfl #[.slice A_ (bytesOf (s 4)).length c_] rfl (by first | rfl | go_simp) ?_; refine (utf_Is.calls k A_ c_ (bytesOf (s 4)) false _ HN8.out HL8.out HIi.out).mono ?_; rintro _ w4 ⟨rfl, hd⟩; have hb := hd.below; clear hd; have n_ := Aside0.mk (below_step (by repeat (with_reducible first | exact HB.out | apply below_alloc | apply pw_below_drewN | apply below_drew1)) hb); have mgA_ := Aside0.mk (blk_below (g := gA) (o := CO s) (by (with_reducible repeat (first | refine blk_drewN ?_ _ | refine blk_drew ?_ | refine blk_alloc ?_ _)); exact BKgA.out) hb); clear HB BKgA; have HB := n_; have BKgA := mgA_; clear n_ mgA_; clear hb; obtain ⟨hcgA_22_0, hcgA_22_1, hcgA_22_2, hcgA_22_3, hcgA_22_4, hcgA_22_5, hcgA_22_6, hcgA_22_7⟩ := blk8 BKgA.out; refine ⟨_, rfl, ?_⟩))
        go_ret
        exact ⟨by rw [E.out]; rfl, HB.out⟩
      · rw [hbi] at HIi
        go_wp2_with (first | ((with_reducible refine gate_dst (N := 18) rfl ?_); (try (refine gate_guard (by rfl) ?_; dsimp only)); refine conv_bytes (N := 18) rfl rfl 9 50 5 rfl (s 4) rfl Try.underlying9 Try.underlying50 Try.underlying5 rfl hsi ?_; intro A_ c_ w3 hn8 hl8 hb; have n_ := Aside0.mk (below_step (by repeat (with_reducible first | exact HB.out | apply below_alloc | apply pw_below_drewN | apply below_drew1)) hb); have mgA_ := Aside0.mk (blk_below (g := gA) (o := CO s) (by (with_reducible repeat (first | refine blk_drewN ?_ _ | refine blk_drew ?_ | refine blk_alloc ?_ _)); exact BKgA.out) hb); clear HB BKgA; have HB := n_; have BKgA := mgA_; clear n_ mgA_; have HN8 := Aside0.mk hn8; have HL8 := Aside0.mk hl8; clear hn8 hl8 hb; obtain ⟨hcgA_21_0, hcgA_21_1, hcgA_21_2, hcgA_21_3, hcgA_21_4, hcgA_21_5, hcgA_21_6, hcgA_21_7⟩ := blk8 BKgA.out) | ((with_reducible refine gate_callee (f := 45) rfl ?_); (with_reducible refine gate_dst (N := 19) rfl ?_); (try (refine gate_guard (by rfl) ?_; dsimp only)); refine goesL_ (some 19) rfl rfl Try.func45 (by kernel_rfl) rfl #[.slice A_ (bytesOf (s 4)).length c_] rfl (by first | rfl | go_simp) ?_; refine (utf_Is.calls k A_ c_ (bytesOf (s 4)) true _ HN8.out HL8.out HIi.out).mono ?_; rintro _ w4 ⟨rfl, hd⟩; have hb := hd.below; clear hd; have n_ := Aside0.mk (below_step (by repeat (with_reducible first | exact HB.out | apply below_alloc | apply pw_below_drewN | apply below_drew1)) hb); have mgA_ := Aside0.mk (blk_below (g := gA) (o := CO s) (by (with_reducible repeat (first | refine blk_drewN ?_ _ | refine blk_drew ?_ | refine blk_alloc ?_ _)); exact BKgA.out) hb); clear HB BKgA; have HB := n_; have BKgA := mgA_; clear n_ mgA_; clear hb; obtain ⟨hcgA_22_0, hcgA_22_1, hcgA_22_2, hcgA_22_3, hcgA_22_4, hcgA_22_5, hcgA_22_6, hcgA_22_7⟩ := blk8 BKgA.out; refine ⟨_, rfl, ?_⟩))
        go_roundw
        case rel => exact ⟨5, by omega, rfl, upto_step HALL.out (by simp [okAt, c, hbi]), BKgA.out, HB.out⟩
        case measure => simp [intOf]
    · obtain ⟨hcgA_11_0, hcgA_11_1, hcgA_11_2, hcgA_11_3, hcgA_11_4, hcgA_11_5, hcgA_11_6, hcgA_11_7⟩ := blk8 BKgA.out
      have hix := idx37_5 (s 0) (s 1) (s 2) (s 3) (s 4) (s 5) (s 6) (s 7)
      have hsi := hs 5
      clear hs
      by_cases c : (s 5).size ≤ 32
      case neg =>
        have E := Aside0.mk (show mayB s b = false from mayB_false (j := 5) (by omega) (by simp [okAt, c]))
        have c1 : (32 : Int) < ((s 5).size : Int) := by omega
        clear c
        go_wp2
        go_ret
        exact ⟨by rw [E.out]; rfl, HB.out⟩
      have c1 : ¬ (32 : Int) < ((s 5).size : Int) := by omega
      have HIi := Aside0.mk (HI.out 5 (by omega) c)
      rcases hbi : b 5 with _ | _
      · rw [hbi] at HIi
        have E := Aside0.mk (show mayB s b = false from mayB_false (j := 5) (by omega) (by simp [okAt, hbi]))
        go_wp2_with (first | ((with_reducible refine gate_dst (N := 18) rfl ?_); (try (refine gate_guard (by rfl) ?_; dsimp only)); refine conv_bytes (N := 18) rfl rfl 9 50 5 rfl (s 5) rfl Try.underlying9 Try.underlying50 Try.underlying5 rfl hsi ?_; intro A_ c_ w3 hn8 hl8 hb; have n_ := Aside0.mk (below_step (by repeat (with_reducible first | exact HB.out | apply below_alloc | apply pw_below_drewN | apply below_drew1)) hb); have mgA_ := Aside0.mk (blk_below (g := gA) (o := CO s) (by (with_reducible repeat (first | refine blk_drewN ?_ _ | refine blk_drew ?_ | refine blk_alloc ?_ _)); exact BKgA.out) hb); clear HB BKgA; have HB := n_; have BKgA := mgA_; clear n_ mgA_; have HN8 := Aside0.mk hn8; have HL8 := Aside0.mk hl8; clear hn8 hl8 hb; obtain ⟨hcgA_21_0, hcgA_21_1, hcgA_21_2, hcgA_21_3, hcgA_21_4, hcgA_21_5, hcgA_21_6, hcgA_21_7⟩ := blk8 BKgA.out) | ((with_reducible refine gate_callee (f := 45) rfl ?_); (with_reducible refine gate_dst (N := 19) rfl ?_); (try (refine gate_guard (by rfl) ?_; dsimp only)); refine goesL_ (some 19) rfl rfl Try.func45 (by kernel_rfl) rfl #[.slice A_ (bytesOf (s 5)).length c_] rfl (by first | rfl | go_simp) ?_; refine (utf_Is.calls k A_ c_ (bytesOf (s 5)) false _ HN8.out HL8.out HIi.out).mono ?_; rintro _ w4 ⟨rfl, hd⟩; have hb := hd.below; clear hd; have n_ := Aside0.mk (below_step (by repeat (with_reducible first | exact HB.out | apply below_alloc | apply pw_below_drewN | apply below_drew1)) hb); have mgA_ := Aside0.mk (blk_below (g := gA) (o := CO s) (by (with_reducible repeat (first | refine blk_drewN ?_ _ | refine blk_drew ?_ | refine blk_alloc ?_ _)); exact BKgA.out) hb); clear HB BKgA; have HB := n_; have BKgA := mgA_; clear n_ mgA_; clear hb; obtain ⟨hcgA_22_0, hcgA_22_1, hcgA_22_2, hcgA_22_3, hcgA_22_4, hcgA_22_5, hcgA_22_6, hcgA_22_7⟩ := blk8 BKgA.out; refine ⟨_, rfl, ?_⟩))
        go_ret
        exact ⟨by rw [E.out]; rfl, HB.out⟩
      · rw [hbi] at HIi
        go_wp2_with (first | ((with_reducible refine gate_dst (N := 18) rfl ?_); (try (refine gate_guard (by rfl) ?_; dsimp only)); refine conv_bytes (N := 18) rfl rfl 9 50 5 rfl (s 5) rfl Try.underlying9 Try.underlying50 Try.underlying5 rfl hsi ?_; intro A_ c_ w3 hn8 hl8 hb; have n_ := Aside0.mk (below_step (by repeat (with_reducible first | exact HB.out | apply below_alloc | apply pw_below_drewN | apply below_drew1)) hb); have mgA_ := Aside0.mk (blk_below (g := gA) (o := CO s) (by (with_reducible repeat (first | refine blk_drewN ?_ _ | refine blk_drew ?_ | refine blk_alloc ?_ _)); exact BKgA.out) hb); clear HB BKgA; have HB := n_; have BKgA := mgA_; clear n_ mgA_; have HN8 := Aside0.mk hn8; have HL8 := Aside0.mk hl8; clear hn8 hl8 hb; obtain ⟨hcgA_21_0, hcgA_21_1, hcgA_21_2, hcgA_21_3, hcgA_21_4, hcgA_21_5, hcgA_21_6, hcgA_21_7⟩ := blk8 BKgA.out) | ((with_reducible refine gate_callee (f := 45) rfl ?_); (with_reducible refine gate_dst (N := 19) rfl ?_); (try (refine gate_guard (by rfl) ?_; dsimp only)); refine goesL_ (some 19) rfl rfl Try.func45 (by kernel_rfl) rfl #[.slice A_ (bytesOf (s 5)).length c_] rfl (by first | rfl | go_simp) ?_; refine (utf_Is.calls k A_ c_ (bytesOf (s 5)) true _ HN8.out HL8.out HIi.out).mono ?_; rintro _ w4 ⟨rfl, hd⟩; have hb := hd.below; clear hd; have n_ := Aside0.mk (below_step (by repeat (with_reducible first | exact HB.out | apply below_alloc | apply pw_below_drewN | apply below_drew1)) hb); have mgA_ := Aside0.mk (blk_below (g := gA) (o := CO s) (by (with_reducible repeat (first | refine blk_drewN ?_ _ | refine blk_drew ?_ | refine blk_alloc ?_ _)); exact BKgA.out) hb); clear HB BKgA; have HB := n_; have BKgA := mgA_; clear n_ mgA_; clear hb; obtain ⟨hcgA_22_0, hcgA_22_1, hcgA_22_2, hcgA_22_3, hcgA_22_4, hcgA_22_5, hcgA_22_6, hcgA_22_7⟩ := blk8 BKgA.out; refine ⟨_, rfl, ?_⟩))
        go_roundw
        case rel => exact ⟨6, by omega, rfl, upto_step HALL.out (by simp [okAt, c, hbi]), BKgA.out, HB.out⟩
        case measure => simp [intOf]
    · obtain ⟨hcgA_11_0, hcgA_11_1, hcgA_11_2, hcgA_11_3, hcgA_11_4, hcgA_11_5, hcgA_11_6, hcgA_11_7⟩ := blk8 BKgA.out
      have hix := idx37_6 (s 0) (s 1) (s 2) (s 3) (s 4) (s 5) (s 6) (s 7)
      have hsi := hs 6
      clear hs
      by_cases c : (s 6).size ≤ 32
      case neg =>
        have E := Aside0.mk (show mayB s b = false from mayB_false (j := 6) (by omega) (by simp [okAt, c]))
        have c1 : (32 : Int) < ((s 6).size : Int) := by omega
        clear c
        go_wp2
        go_ret
        exact ⟨by rw [E.out]; rfl, HB.out⟩
      have c1 : ¬ (32 : Int) < ((s 6).size : Int) := by omega
      have HIi := Aside0.mk (HI.out 6 (by omega) c)
      rcases hbi : b 6 with _ | _
      · rw [hbi] at HIi
        have E := Aside0.mk (show mayB s b = false from mayB_false (j := 6) (by omega) (by simp [okAt, hbi]))
        go_wp2_with (first | ((with_reducible refine gate_dst (N := 18) rfl ?_); (try (refine gate_guard (by rfl) ?_; dsimp only)); refine conv_bytes (N := 18) rfl rfl 9 50 5 rfl (s 6) rfl Try.underlying9 Try.underlying50 Try.underlying5 rfl hsi ?_; intro A_ c_ w3 hn8 hl8 hb; have n_ := Aside0.mk (below_step (by repeat (with_reducible first | exact HB.out | apply below_alloc | apply pw_below_drewN | apply below_drew1)) hb); have mgA_ := Aside0.mk (blk_below (g := gA) (o := CO s) (by (with_reducible repeat (first | refine blk_drewN ?_ _ | refine blk_drew ?_ | refine blk_alloc ?_ _)); exact BKgA.out) hb); clear HB BKgA; have HB := n_; have BKgA := mgA_; clear n_ mgA_; have HN8 := Aside0.mk hn8; have HL8 := Aside0.mk hl8; clear hn8 hl8 hb; obtain ⟨hcgA_21_0, hcgA_21_1, hcgA_21_2, hcgA_21_3, hcgA_21_4, hcgA_21_5, hcgA_21_6, hcgA_21_7⟩ := blk8 BKgA.out) | ((with_reducible refine gate_callee (f := 45) rfl ?_); (with_reducible refine gate_dst (N := 19) rfl ?_); (try (refine gate_guard (by rfl) ?_; dsimp only)); refine goesL_ (some 19) rfl rfl Try.func45 (by kernel_rfl) rfl #[.slice A_ (bytesOf (s 6)).length c_] rfl (by first | rfl | go_simp) ?_; refine (utf_Is.calls k A_ c_ (bytesOf (s 6)) false _ HN8.out HL8.out HIi.out).mono ?_; rintro _ w4 ⟨rfl, hd⟩; have hb := hd.below; clear hd; have n_ := Aside0.mk (below_step (by repeat (with_reducible first | exact HB.out | apply below_alloc | apply pw_below_drewN | apply below_drew1)) hb); have mgA_ := Aside0.mk (blk_below (g := gA) (o := CO s) (by (with_reducible repeat (first | refine blk_drewN ?_ _ | refine blk_drew ?_ | refine blk_alloc ?_ _)); exact BKgA.out) hb); clear HB BKgA; have HB := n_; have BKgA := mgA_; clear n_ mgA_; clear hb; obtain ⟨hcgA_22_0, hcgA_22_1, hcgA_22_2, hcgA_22_3, hcgA_22_4, hcgA_22_5, hcgA_22_6, hcgA_22_7⟩ := blk8 BKgA.out; refine ⟨_, rfl, ?_⟩))
        go_ret
        exact ⟨by rw [E.out]; rfl, HB.out⟩
      · rw [hbi] at HIi
        go_wp2_with (first | ((with_reducible refine gate_dst (N := 18) rfl ?_); (try (refine gate_guard (by rfl) ?_; dsimp only)); refine conv_bytes (N := 18) rfl rfl 9 50 5 rfl (s 6) rfl Try.underlying9 Try.underlying50 Try.underlying5 rfl hsi ?_; intro A_ c_ w3 hn8 hl8 hb; have n_ := Aside0.mk (below_step (by repeat (with_reducible first | exact HB.out | apply below_alloc | apply pw_below_drewN | apply below_drew1)) hb); have mgA_ := Aside0.mk (blk_below (g := gA) (o := CO s) (by (with_reducible repeat (first | refine blk_drewN ?_ _ | refine blk_drew ?_ | refine blk_alloc ?_ _)); exact BKgA.out) hb); clear HB BKgA; have HB := n_; have BKgA := mgA_; clear n_ mgA_; have HN8 := Aside0.mk hn8; have HL8 := Aside0.mk hl8; clear hn8 hl8 hb; obtain ⟨hcgA_21_0, hcgA_21_1, hcgA_21_2, hcgA_21_3, hcgA_21_4, hcgA_21_5, hcgA_21_6, hcgA_21_7⟩ := blk8 BKgA.out) | ((with_reducible refine gate_callee (f := 45) rfl ?_); (with_reducible refine gate_dst (N := 19) rfl ?_); (try (refine gate_guard (by rfl) ?_; dsimp only)); refine goesL_ (some 19) rfl rfl Try.func45 (by kernel_rfl) rfl #[.slice A_ (bytesOf (s 6)).length c_] rfl (by first | rfl | go_simp) ?_; refine (utf_Is.calls k A_ c_ (bytesOf (s 6)) true _ HN8.out HL8.out HIi.out).mono ?_; rintro _ w4 ⟨rfl, hd⟩; have hb := hd.below; clear hd; have n_ := Aside0.mk (below_step (by repeat (with_reducible first | exact HB.out | apply below_alloc | apply pw_below_drewN | apply below_drew1)) hb); have mgA_ := Aside0.mk (blk_below (g := gA) (o := CO s) (by (with_reducible repeat (first | refine blk_drewN ?_ _ | refine blk_drew ?_ | refine blk_alloc ?_ _)); exact BKgA.out) hb); clear HB BKgA; have HB := n_; have BKgA := mgA_; clear n_ mgA_; clear hb; obtain ⟨hcgA_22_0, hcgA_22_1, hcgA_22_2, hcgA_22_3, hcgA_22_4, hcgA_22_5, hcgA_22_6, hcgA_22_7⟩ := blk8 BKgA.out; refine ⟨_, rfl, ?_⟩))
        go_roundw
        case rel => exact ⟨7, by omega, rfl, upto_step HALL.out (by simp [okAt, c, hbi]), BKgA.out, HB.out⟩
        case measure => simp [intOf]
    · obtain ⟨hcgA_11_0, hcgA_11_1, hcgA_11_2, hcgA_11_3, hcgA_11_4, hcgA_11_5, hcgA_11_6, hcgA_11_7⟩ := blk8 BKgA.out
      have hix := idx37_7 (s 0) (s 1) (s 2) (s 3) (s 4) (s 5) (s 6) (s 7)
      have hsi := hs 7
      clear hs
      by_cases c : (s 7).size ≤ 32
      case neg =>
        have E := Aside0.mk (show mayB s b = false from mayB_false (j := 7) (by omega) (by simp [okAt, c]))
        have c1 : (32 : Int) < ((s 7).size : Int) := by omega
        clear c
        go_wp2
        go_ret
        exact ⟨by rw [E.out]; rfl, HB.out⟩
      have c1 : ¬ (32 : Int) < ((s 7).size : Int) := by omega
      clear hsi
      go_wp2
      go_roundw
      case rel => exact ⟨8, by omega, rfl, upto_step HALL.out (by simp [okAt, c]), BKgA.out, HB.out⟩
      case measure => simp [intOf]
    · obtain ⟨hcgA_11_0, hcgA_11_1, hcgA_11_2, hcgA_11_3, hcgA_11_4, hcgA_11_5, hcgA_11_6, hcgA_11_7⟩ := blk8 BKgA.out
      have E := Aside0.mk (mayB_true HALL.out)
      go_wp2
      go_ret
      exact ⟨by rw [E.out]; rfl, HB.out⟩
set_option maxHeartbeats 8000000 in
set_option maxRecDepth 100000 in
theorem cardexref14_May.calls (k : Nat) (s : Nat → ByteArray) (b : Nat → Bool) (w : World) (hs : ∀ i, (s i).size ≤ 9223372036854775807) (hI : ∀ i, i < 7 → (s i).size ≤ 32 → cardexref02_Is.f k (bytesOf (s i)) = some (b i)) :
    Calls Try.prog 24 #[.agg #[.string (s 0), .string (s 1), .string (s 2), .string (s 3), .string (s 4), .string (s 5), .string (s 6), .string (s 7)]] w fun e w' => e = .returned (.bool (mayB s b)) ∧ Below w.heap.size w w' := by
  have hu37 := Try.underlying37
  have HB := Aside0.mk (Below.refl w.heap.size w)
  have HI := Aside0.mk hI
  clear hI
  go_enter Try.func24, Try.ntmps24
  go_wp2_with (first | ((with_reducible refine gate_dst (N := 1) rfl ?_); refine box_event ?hg (N := 1) ?hd (cs := #[.string (s 0), .string (s 1), .string (s 2), .string (s 3), .string (s 4), .string (s 5), .string (s 6), .string (s 7)]) (t := 37) ?hr ?_; (case hd => rfl); (case hg => rfl); (case hr => first | (go_simp; done) | (go_simp; rfl)); intro gA hg w1 hbox hb; have ge_ := Aside0.mk ((by rw [hg]; exact below_size (by repeat (with_reducible first | exact HB.out | apply below_alloc | apply pw_below_drewN | apply below_drew1))) : w.heap.size ≤ gA); have n_ := Aside0.mk (below_step (by repeat (with_reducible first | exact HB.out | apply below_alloc | apply pw_below_drewN | apply below_drew1)) hb); clear HB; have HB := n_; clear n_; have BKgA := Aside0.mk hbox; have GEgA := ge_; clear ge_ hbox hg hb; obtain ⟨hcgA_1_0, hcgA_1_1, hcgA_1_2, hcgA_1_3, hcgA_1_4, hcgA_1_5, hcgA_1_6, hcgA_1_7⟩ := blk8 BKgA.out))
  have H0 := Aside0.mk (show ∃ i : Nat, i ≤ 8 ∧ (Value.int .i64 0) = .int .i64 i ∧ (∀ j, j < i → okAt s b j = true) ∧ w1.heap[gA]? = some (.cells #[.string (s 0), .string (s 1), .string (s 2), .string (s 3), .string (s 4), .string (s 5), .string (s 6), .string (s 7)] 37 (0, 0)) ∧ Below w.heap.size w w1 from ⟨0, by omega, rfl, fun j hj => by omega, BKgA.out, HB.out⟩)
  clear BKgA HB
  clear hcgA_1_0 hcgA_1_1 hcgA_1_2 hcgA_1_3 hcgA_1_4 hcgA_1_5 hcgA_1_6 hcgA_1_7
  go_loopw [3] (fun v wr => ∃ i : Nat, i ≤ 8 ∧ v = .int .i64 i ∧ (∀ j, j < i → okAt s b j = true) ∧ wr.heap[gA]? = some (.cells #[.string (s 0), .string (s 1), .string (s 2), .string (s 3), .string (s 4), .string (s 5), .string (s 6), .string (s 7)] 37 (0, 0)) ∧ Below w.heap.size w wr) (fun v _ => 8 - (intOf v).toNat)
  case atStart => exact H0.out
  case round =>
    obtain ⟨i, hi, rfl, hall, h0, hb0⟩ := hrel
    have BKgA := Aside0.mk h0
    have HB := Aside0.mk hb0
    have HALL := Aside0.mk hall
    clear h0 hb0 H0 hall
    rcases (show i = 0 ∨ i = 1 ∨ i = 2 ∨ i = 3 ∨ i = 4 ∨ i = 5 ∨ i = 6 ∨ i = 7 ∨ i = 8 by omega) with rfl | rfl | rfl | rfl | rfl | rfl | rfl | rfl | rfl
    · obtain ⟨hcgA_11_0, hcgA_11_1, hcgA_11_2, hcgA_11_3, hcgA_11_4, hcgA_11_5, hcgA_11_6, hcgA_11_7⟩ := blk8 BKgA.out
      have hsi := hs 0
      clear hs
      by_cases c : (s 0).size ≤ 32
      case neg =>
        have E := Aside0.mk (show mayB s b = false from mayB_false (j := 0) (by omega) (by simp [okAt, c]))
        have c1 : (32 : Int) < ((s 0).size : Int) := by omega
        clear c
        go_wp2
        go_ret
        exact ⟨by rw [E.out]; rfl, HB.out⟩
      have c1 : ¬ (32 : Int) < ((s 0).size : Int) := by omega
      have HIi := Aside0.mk (HI.out 0 (by omega) c)
      rcases hbi : b 0 with _ | _
      · rw [hbi] at HIi
        have E := Aside0.mk (show mayB s b = false from mayB_false (j := 0) (by omega) (by simp [okAt, hbi]))
        go_wp2_with (first | ((with_reducible refine gate_dst (N := 20) rfl ?_); (try (refine gate_guard (by rfl) ?_; dsimp only)); refine conv_bytes (N := 20) rfl rfl 9 50 5 rfl (s 0) rfl Try.underlying9 Try.underlying50 Try.underlying5 rfl hsi ?_; intro A_ c_ w3 hn8 hl8 hb; have n_ := Aside0.mk (below_step (by repeat (with_reducible first | exact HB.out | apply below_alloc | apply pw_below_drewN | apply below_drew1)) hb); have mgA_ := Aside0.mk (blk_below (g := gA) (o := CO s) (by (with_reducible repeat (first | refine blk_drewN ?_ _ | refine blk_drew ?_ | refine blk_alloc ?_ _)); exact BKgA.out) hb); clear HB BKgA; have HB := n_; have BKgA := mgA_; clear n_ mgA_; have HN8 := Aside0.mk hn8; have HL8 := Aside0.mk hl8; clear hn8 hl8 hb; obtain ⟨hcgA_21_0, hcgA_21_1, hcgA_21_2, hcgA_21_3, hcgA_21_4, hcgA_21_5, hcgA_21_6, hcgA_21_7⟩ := blk8 BKgA.out) | ((with_reducible refine gate_callee (f := 46) rfl ?_); (with_reducible refine gate_dst (N := 21) rfl ?_); (try (refine gate_guard (by rfl) ?_; dsimp only)); refine goesL_ (some 21) rfl rfl Try.func46 (by kernel_rfl) rfl #[.slice A_ (bytesOf (s 0)).length c_] rfl (by first | rfl | go_simp) ?_; refine (cardexref02_Is.calls k A_ c_ (bytesOf (s 0)) false _ HN8.out HL8.out HIi.out).mono ?_; rintro _ w4 ⟨rfl, hb⟩; have n_ := Aside0.mk (below_step (by repeat (with_reducible first | exact HB.out | apply below_alloc | apply pw_below_drewN | apply below_drew1)) hb); have mgA_ := Aside0.mk (blk_below (g := gA) (o := CO s) (by (with_reducible repeat (first | refine blk_drewN ?_ _ | refine blk_drew ?_ | refine blk_alloc ?_ _)); exact BKgA.out) hb); clear HB BKgA; have HB := n_; have BKgA := mgA_; clear n_ mgA_; clear hb; obtain ⟨hcgA_22_0, hcgA_22_1, hcgA_22_2, hcgA_22_3, hcgA_22_4, hcgA_22_5, hcgA_22_6, hcgA_22_7⟩ := blk8 BKgA.out; refine ⟨_, rfl, ?_⟩))
        go_ret
        exact ⟨by rw [E.out]; rfl, HB.out⟩
      · rw [hbi] at HIi
        go_wp2_with (first | ((with_reducible refine gate_dst (N := 20) rfl ?_); (try (refine gate_guard (by rfl) ?_; dsimp only)); refine conv_bytes (N := 20) rfl rfl 9 50 5 rfl (s 0) rfl Try.underlying9 Try.underlying50 Try.underlying5 rfl hsi ?_; intro A_ c_ w3 hn8 hl8 hb; have n_ := Aside0.mk (below_step (by repeat (with_reducible first | exact HB.out | apply below_alloc | apply pw_below_drewN | apply below_drew1)) hb); have mgA_ := Aside0.mk (blk_below (g := gA) (o := CO s) (by (with_reducible repeat (first | refine blk_drewN ?_ _ | refine blk_drew ?_ | refine blk_alloc ?_ _)); exact BKgA.out) hb); clear HB BKgA; have HB := n_; have BKgA := mgA_; clear n_ mgA_; have HN8 := Aside0.mk hn8; have HL8 := Aside0.mk hl8; clear hn8 hl8 hb; obtain ⟨hcgA_21_0, hcgA_21_1, hcgA_21_2, hcgA_21_3, hcgA_21_4, hcgA_21_5, hcgA_21_6, hcgA_21_7⟩ := blk8 BKgA.out) | ((with_reducible refine gate_callee (f := 46) rfl ?_); (with_reducible refine gate_dst (N := 21) rfl ?_); (try (refine gate_guard (by rfl) ?_; dsimp only)); refine goesL_ (some 21) rfl rfl Try.func46 (by kernel_rfl) rfl #[.slice A_ (bytesOf (s 0)).length c_] rfl (by first | rfl | go_simp) ?_; refine (cardexref02_Is.calls k A_ c_ (bytesOf (s 0)) true _ HN8.out HL8.out HIi.out).mono ?_; rintro _ w4 ⟨rfl, hb⟩; have n_ := Aside0.mk (below_step (by repeat (with_reducible first | exact HB.out | apply below_alloc | apply pw_below_drewN | apply below_drew1)) hb); have mgA_ := Aside0.mk (blk_below (g := gA) (o := CO s) (by (with_reducible repeat (first | refine blk_drewN ?_ _ | refine blk_drew ?_ | refine blk_alloc ?_ _)); exact BKgA.out) hb); clear HB BKgA; have HB := n_; have BKgA := mgA_; clear n_ mgA_; clear hb; obtain ⟨hcgA_22_0, hcgA_22_1, hcgA_22_2, hcgA_22_3, hcgA_22_4, hcgA_22_5, hcgA_22_6, hcgA_22_7⟩ := blk8 BKgA.out; refine ⟨_, rfl, ?_⟩))
        go_roundw
        case rel => exact ⟨1, by omega, rfl, upto_step HALL.out (by simp [okAt, c, hbi]), BKgA.out, HB.out⟩
        case measure => simp [intOf]
    · obtain ⟨hcgA_11_0, hcgA_11_1, hcgA_11_2, hcgA_11_3, hcgA_11_4, hcgA_11_5, hcgA_11_6, hcgA_11_7⟩ := blk8 BKgA.out
      have hsi := hs 1
      clear hs
      by_cases c : (s 1).size ≤ 32
      case neg =>
        have E := Aside0.mk (show mayB s b = false from mayB_false (j := 1) (by omega) (by simp [okAt, c]))
        have c1 : (32 : Int) < ((s 1).size : Int) := by omega
        clear c
        go_wp2
        go_ret
        exact ⟨by rw [E.out]; rfl, HB.out⟩
      have c1 : ¬ (32 : Int) < ((s 1).size : Int) := by omega
      have HIi := Aside0.mk (HI.out 1 (by omega) c)
      rcases hbi : b 1 with _ | _
      · rw [hbi] at HIi
        have E := Aside0.mk (show mayB s b = false from mayB_false (j := 1) (by omega) (by simp [okAt, hbi]))
        go_wp2_with (first | ((with_reducible refine gate_dst (N := 20) rfl ?_); (try (refine gate_guard (by rfl) ?_; dsimp only)); refine conv_bytes (N := 20) rfl rfl 9 50 5 rfl (s 1) rfl Try.underlying9 Try.underlying50 Try.underlying5 rfl hsi ?_; intro A_ c_ w3 hn8 hl8 hb; have n_ := Aside0.mk (below_step (by repeat (with_reducible first | exact HB.out | apply below_alloc | apply pw_below_drewN | apply below_drew1)) hb); have mgA_ := Aside0.mk (blk_below (g := gA) (o := CO s) (by (with_reducible repeat (first | refine blk_drewN ?_ _ | refine blk_drew ?_ | refine blk_alloc ?_ _)); exact BKgA.out) hb); clear HB BKgA; have HB := n_; have BKgA := mgA_; clear n_ mgA_; have HN8 := Aside0.mk hn8; have HL8 := Aside0.mk hl8; clear hn8 hl8 hb; obtain ⟨hcgA_21_0, hcgA_21_1, hcgA_21_2, hcgA_21_3, hcgA_21_4, hcgA_21_5, hcgA_21_6, hcgA_21_7⟩ := blk8 BKgA.out) | ((with_reducible refine gate_callee (f := 46) rfl ?_); (with_reducible refine gate_dst (N := 21) rfl ?_); (try (refine gate_guard (by rfl) ?_; dsimp only)); refine goesL_ (some 21) rfl rfl Try.func46 (by kernel_rfl) rfl #[.slice A_ (bytesOf (s 1)).length c_] rfl (by first | rfl | go_simp) ?_; refine (cardexref02_Is.calls k A_ c_ (bytesOf (s 1)) false _ HN8.out HL8.out HIi.out).mono ?_; rintro _ w4 ⟨rfl, hb⟩; have n_ := Aside0.mk (below_step (by repeat (with_reducible first | exact HB.out | apply below_alloc | apply pw_below_drewN | apply below_drew1)) hb); have mgA_ := Aside0.mk (blk_below (g := gA) (o := CO s) (by (with_reducible repeat (first | refine blk_drewN ?_ _ | refine blk_drew ?_ | refine blk_alloc ?_ _)); exact BKgA.out) hb); clear HB BKgA; have HB := n_; have BKgA := mgA_; clear n_ mgA_; clear hb; obtain ⟨hcgA_22_0, hcgA_22_1, hcgA_22_2, hcgA_22_3, hcgA_22_4, hcgA_22_5, hcgA_22_6, hcgA_22_7⟩ := blk8 BKgA.out; refine ⟨_, rfl, ?_⟩))
        go_ret
        exact ⟨by rw [E.out]; rfl, HB.out⟩
      · rw [hbi] at HIi
        go_wp2_with (first | ((with_reducible refine gate_dst (N := 20) rfl ?_); (try (refine gate_guard (by rfl) ?_; dsimp only)); refine conv_bytes (N := 20) rfl rfl 9 50 5 rfl (s 1) rfl Try.underlying9 Try.underlying50 Try.underlying5 rfl hsi ?_; intro A_ c_ w3 hn8 hl8 hb; have n_ := Aside0.mk (below_step (by repeat (with_reducible first | exact HB.out | apply below_alloc | apply pw_below_drewN | apply below_drew1)) hb); have mgA_ := Aside0.mk (blk_below (g := gA) (o := CO s) (by (with_reducible repeat (first | refine blk_drewN ?_ _ | refine blk_drew ?_ | refine blk_alloc ?_ _)); exact BKgA.out) hb); clear HB BKgA; have HB := n_; have BKgA := mgA_; clear n_ mgA_; have HN8 := Aside0.mk hn8; have HL8 := Aside0.mk hl8; clear hn8 hl8 hb; obtain ⟨hcgA_21_0, hcgA_21_1, hcgA_21_2, hcgA_21_3, hcgA_21_4, hcgA_21_5, hcgA_21_6, hcgA_21_7⟩ := blk8 BKgA.out) | ((with_reducible refine gate_callee (f := 46) rfl ?_); (with_reducible refine gate_dst (N := 21) rfl ?_); (try (refine gate_guard (by rfl) ?_; dsimp only)); refine goesL_ (some 21) rfl rfl Try.func46 (by kernel_rfl) rfl #[.slice A_ (bytesOf (s 1)).length c_] rfl (by first | rfl | go_simp) ?_; refine (cardexref02_Is.calls k A_ c_ (bytesOf (s 1)) true _ HN8.out HL8.out HIi.out).mono ?_; rintro _ w4 ⟨rfl, hb⟩; have n_ := Aside0.mk (below_step (by repeat (with_reducible first | exact HB.out | apply below_alloc | apply pw_below_drewN | apply below_drew1)) hb); have mgA_ := Aside0.mk (blk_below (g := gA) (o := CO s) (by (with_reducible repeat (first | refine blk_drewN ?_ _ | refine blk_drew ?_ | refine blk_alloc ?_ _)); exact BKgA.out) hb); clear HB BKgA; have HB := n_; have BKgA := mgA_; clear n_ mgA_; clear hb; obtain ⟨hcgA_22_0, hcgA_22_1, hcgA_22_2, hcgA_22_3, hcgA_22_4, hcgA_22_5, hcgA_22_6, hcgA_22_7⟩ := blk8 BKgA.out; refine ⟨_, rfl, ?_⟩))
        go_roundw
        case rel => exact ⟨2, by omega, rfl, upto_step HALL.out (by simp [okAt, c, hbi]), BKgA.out, HB.out⟩
        case measure => simp [intOf]
    · obtain ⟨hcgA_11_0, hcgA_11_1, hcgA_11_2, hcgA_11_3, hcgA_11_4, hcgA_11_5, hcgA_11_6, hcgA_11_7⟩ := blk8 BKgA.out
      have hsi := hs 2
      clear hs
      by_cases c : (s 2).size ≤ 32
      case neg =>
        have E := Aside0.mk (show mayB s b = false from mayB_false (j := 2) (by omega) (by simp [okAt, c]))
        have c1 : (32 : Int) < ((s 2).size : Int) := by omega
        clear c
        go_wp2
        go_ret
        exact ⟨by rw [E.out]; rfl, HB.out⟩
      have c1 : ¬ (32 : Int) < ((s 2).size : Int) := by omega
      have HIi := Aside0.mk (HI.out 2 (by omega) c)
      rcases hbi : b 2 with _ | _
      · rw [hbi] at HIi
        have E := Aside0.mk (show mayB s b = false from mayB_false (j := 2) (by omega) (by simp [okAt, hbi]))
        go_wp2_with (first | ((with_reducible refine gate_dst (N := 20) rfl ?_); (try (refine gate_guard (by rfl) ?_; dsimp only)); refine conv_bytes (N := 20) rfl rfl 9 50 5 rfl (s 2) rfl Try.underlying9 Try.underlying50 Try.underlying5 rfl hsi ?_; intro A_ c_ w3 hn8 hl8 hb; have n_ := Aside0.mk (below_step (by repeat (with_reducible first | exact HB.out | apply below_alloc | apply pw_below_drewN | apply below_drew1)) hb); have mgA_ := Aside0.mk (blk_below (g := gA) (o := CO s) (by (with_reducible repeat (first | refine blk_drewN ?_ _ | refine blk_drew ?_ | refine blk_alloc ?_ _)); exact BKgA.out) hb); clear HB BKgA; have HB := n_; have BKgA := mgA_; clear n_ mgA_; have HN8 := Aside0.mk hn8; have HL8 := Aside0.mk hl8; clear hn8 hl8 hb; obtain ⟨hcgA_21_0, hcgA_21_1, hcgA_21_2, hcgA_21_3, hcgA_21_4, hcgA_21_5, hcgA_21_6, hcgA_21_7⟩ := blk8 BKgA.out) | ((with_reducible refine gate_callee (f := 46) rfl ?_); (with_reducible refine gate_dst (N := 21) rfl ?_); (try (refine gate_guard (by rfl) ?_; dsimp only)); refine goesL_ (some 21) rfl rfl Try.func46 (by kernel_rfl) rfl #[.slice A_ (bytesOf (s 2)).length c_] rfl (by first | rfl | go_simp) ?_; refine (cardexref02_Is.calls k A_ c_ (bytesOf (s 2)) false _ HN8.out HL8.out HIi.out).mono ?_; rintro _ w4 ⟨rfl, hb⟩; have n_ := Aside0.mk (below_step (by repeat (with_reducible first | exact HB.out | apply below_alloc | apply pw_below_drewN | apply below_drew1)) hb); have mgA_ := Aside0.mk (blk_below (g := gA) (o := CO s) (by (with_reducible repeat (first | refine blk_drewN ?_ _ | refine blk_drew ?_ | refine blk_alloc ?_ _)); exact BKgA.out) hb); clear HB BKgA; have HB := n_; have BKgA := mgA_; clear n_ mgA_; clear hb; obtain ⟨hcgA_22_0, hcgA_22_1, hcgA_22_2, hcgA_22_3, hcgA_22_4, hcgA_22_5, hcgA_22_6, hcgA_22_7⟩ := blk8 BKgA.out; refine ⟨_, rfl, ?_⟩))
        go_ret
        exact ⟨by rw [E.out]; rfl, HB.out⟩
      · rw [hbi] at HIi
        go_wp2_with (first | ((with_reducible refine gate_dst (N := 20) rfl ?_); (try (refine gate_guard (by rfl) ?_; dsimp only)); refine conv_bytes (N := 20) rfl rfl 9 50 5 rfl (s 2) rfl Try.underlying9 Try.underlying50 Try.underlying5 rfl hsi ?_; intro A_ c_ w3 hn8 hl8 hb; have n_ := Aside0.mk (below_step (by repeat (with_reducible first | exact HB.out | apply below_alloc | apply pw_below_drewN | apply below_drew1)) hb); have mgA_ := Aside0.mk (blk_below (g := gA) (o := CO s) (by (with_reducible repeat (first | refine blk_drewN ?_ _ | refine blk_drew ?_ | refine blk_alloc ?_ _)); exact BKgA.out) hb); clear HB BKgA; have HB := n_; have BKgA := mgA_; clear n_ mgA_; have HN8 := Aside0.mk hn8; have HL8 := Aside0.mk hl8; clear hn8 hl8 hb; obtain ⟨hcgA_21_0, hcgA_21_1, hcgA_21_2, hcgA_21_3, hcgA_21_4, hcgA_21_5, hcgA_21_6, hcgA_21_7⟩ := blk8 BKgA.out) | ((with_reducible refine gate_callee (f := 46) rfl ?_); (with_reducible refine gate_dst (N := 21) rfl ?_); (try (refine gate_guard (by rfl) ?_; dsimp only)); refine goesL_ (some 21) rfl rfl Try.func46 (by kernel_rfl) rfl #[.slice A_ (bytesOf (s 2)).length c_] rfl (by first | rfl | go_simp) ?_; refine (cardexref02_Is.calls k A_ c_ (bytesOf (s 2)) true _ HN8.out HL8.out HIi.out).mono ?_; rintro _ w4 ⟨rfl, hb⟩; have n_ := Aside0.mk (below_step (by repeat (with_reducible first | exact HB.out | apply below_alloc | apply pw_below_drewN | apply below_drew1)) hb); have mgA_ := Aside0.mk (blk_below (g := gA) (o := CO s) (by (with_reducible repeat (first | refine blk_drewN ?_ _ | refine blk_drew ?_ | refine blk_alloc ?_ _)); exact BKgA.out) hb); clear HB BKgA; have HB := n_; have BKgA := mgA_; clear n_ mgA_; clear hb; obtain ⟨hcgA_22_0, hcgA_22_1, hcgA_22_2, hcgA_22_3, hcgA_22_4, hcgA_22_5, hcgA_22_6, hcgA_22_7⟩ := blk8 BKgA.out; refine ⟨_, rfl, ?_⟩))
        go_roundw
        case rel => exact ⟨3, by omega, rfl, upto_step HALL.out (by simp [okAt, c, hbi]), BKgA.out, HB.out⟩
        case measure => simp [intOf]
    · obtain ⟨hcgA_11_0, hcgA_11_1, hcgA_11_2, hcgA_11_3, hcgA_11_4, hcgA_11_5, hcgA_11_6, hcgA_11_7⟩ := blk8 BKgA.out
      have hsi := hs 3
      clear hs
      by_cases c : (s 3).size ≤ 32
      case neg =>
        have E := Aside0.mk (show mayB s b = false from mayB_false (j := 3) (by omega) (by simp [okAt, c]))
        have c1 : (32 : Int) < ((s 3).size : Int) := by omega
        clear c
        go_wp2
        go_ret
        exact ⟨by rw [E.out]; rfl, HB.out⟩
      have c1 : ¬ (32 : Int) < ((s 3).size : Int) := by omega
      have HIi := Aside0.mk (HI.out 3 (by omega) c)
      rcases hbi : b 3 with _ | _
      · rw [hbi] at HIi
        have E := Aside0.mk (show mayB s b = false from mayB_false (j := 3) (by omega) (by simp [okAt, hbi]))
        go_wp2_with (first | ((with_reducible refine gate_dst (N := 20) rfl ?_); (try (refine gate_guard (by rfl) ?_; dsimp only)); refine conv_bytes (N := 20) rfl rfl 9 50 5 rfl (s 3) rfl Try.underlying9 Try.underlying50 Try.underlying5 rfl hsi ?_; intro A_ c_ w3 hn8 hl8 hb; have n_ := Aside0.mk (below_step (by repeat (with_reducible first | exact HB.out | apply below_alloc | apply pw_below_drewN | apply below_drew1)) hb); have mgA_ := Aside0.mk (blk_below (g := gA) (o := CO s) (by (with_reducible repeat (first | refine blk_drewN ?_ _ | refine blk_drew ?_ | refine blk_alloc ?_ _)); exact BKgA.out) hb); clear HB BKgA; have HB := n_; have BKgA := mgA_; clear n_ mgA_; have HN8 := Aside0.mk hn8; have HL8 := Aside0.mk hl8; clear hn8 hl8 hb; obtain ⟨hcgA_21_0, hcgA_21_1, hcgA_21_2, hcgA_21_3, hcgA_21_4, hcgA_21_5, hcgA_21_6, hcgA_21_7⟩ := blk8 BKgA.out) | ((with_reducible refine gate_callee (f := 46) rfl ?_); (with_reducible refine gate_dst (N := 21) rfl ?_); (try (refine gate_guard (by rfl) ?_; dsimp only)); refine goesL_ (some 21) rfl rfl Try.func46 (by kernel_rfl) rfl #[.slice A_ (bytesOf (s 3)).length c_] rfl (by first | rfl | go_simp) ?_; refine (cardexref02_Is.calls k A_ c_ (bytesOf (s 3)) false _ HN8.out HL8.out HIi.out).mono ?_; rintro _ w4 ⟨rfl, hb⟩; have n_ := Aside0.mk (below_step (by repeat (with_reducible first | exact HB.out | apply below_alloc | apply pw_below_drewN | apply below_drew1)) hb); have mgA_ := Aside0.mk (blk_below (g := gA) (o := CO s) (by (with_reducible repeat (first | refine blk_drewN ?_ _ | refine blk_drew ?_ | refine blk_alloc ?_ _)); exact BKgA.out) hb); clear HB BKgA; have HB := n_; have BKgA := mgA_; clear n_ mgA_; clear hb; obtain ⟨hcgA_22_0, hcgA_22_1, hcgA_22_2, hcgA_22_3, hcgA_22_4, hcgA_22_5, hcgA_22_6, hcgA_22_7⟩ := blk8 BKgA.out; refine ⟨_, rfl, ?_⟩))
        go_ret
        exact ⟨by rw [E.out]; rfl, HB.out⟩
      · rw [hbi] at HIi
        go_wp2_with (first | ((with_reducible refine gate_dst (N := 20) rfl ?_); (try (refine gate_guard (by rfl) ?_; dsimp only)); refine conv_bytes (N := 20) rfl rfl 9 50 5 rfl (s 3) rfl Try.underlying9 Try.underlying50 Try.underlying5 rfl hsi ?_; intro A_ c_ w3 hn8 hl8 hb; have n_ := Aside0.mk (below_step (by repeat (with_reducible first | exact HB.out | apply below_alloc | apply pw_below_drewN | apply below_drew1)) hb); have mgA_ := Aside0.mk (blk_below (g := gA) (o := CO s) (by (with_reducible repeat (first | refine blk_drewN ?_ _ | refine blk_drew ?_ | refine blk_alloc ?_ _)); exact BKgA.out) hb); clear HB BKgA; have HB := n_; have BKgA := mgA_; clear n_ mgA_; have HN8 := Aside0.mk hn8; have HL8 := Aside0.mk hl8; clear hn8 hl8 hb; obtain ⟨hcgA_21_0, hcgA_21_1, hcgA_21_2, hcgA_21_3, hcgA_21_4, hcgA_21_5, hcgA_21_6, hcgA_21_7⟩ := blk8 BKgA.out) | ((with_reducible refine gate_callee (f := 46) rfl ?_); (with_reducible refine gate_dst (N := 21) rfl ?_); (try (refine gate_guard (by rfl) ?_; dsimp only)); refine goesL_ (some 21) rfl rfl Try.func46 (by kernel_rfl) rfl #[.slice A_ (bytesOf (s 3)).length c_] rfl (by first | rfl | go_simp) ?_; refine (cardexref02_Is.calls k A_ c_ (bytesOf (s 3)) true _ HN8.out HL8.out HIi.out).mono ?_; rintro _ w4 ⟨rfl, hb⟩; have n_ := Aside0.mk (below_step (by repeat (with_reducible first | exact HB.out | apply below_alloc | apply pw_below_drewN | apply below_drew1)) hb); have mgA_ := Aside0.mk (blk_below (g := gA) (o := CO s) (by (with_reducible repeat (first | refine blk_drewN ?_ _ | refine blk_drew ?_ | refine blk_alloc ?_ _)); exact BKgA.out) hb); clear HB BKgA; have HB := n_; have BKgA := mgA_; clear n_ mgA_; clear hb; obtain ⟨hcgA_22_0, hcgA_22_1, hcgA_22_2, hcgA_22_3, hcgA_22_4, hcgA_22_5, hcgA_22_6, hcgA_22_7⟩ := blk8 BKgA.out; refine ⟨_, rfl, ?_⟩))
        go_roundw
        case rel => exact ⟨4, by omega, rfl, upto_step HALL.out (by simp [okAt, c, hbi]), BKgA.out, HB.out⟩
        case measure => simp [intOf]
    · obtain ⟨hcgA_11_0, hcgA_11_1, hcgA_11_2, hcgA_11_3, hcgA_11_4, hcgA_11_5, hcgA_11_6, hcgA_11_7⟩ := blk8 BKgA.out
      have hsi := hs 4
      clear hs
      by_cases c : (s 4).size ≤ 32
      case neg =>
        have E := Aside0.mk (show mayB s b = false from mayB_false (j := 4) (by omega) (by simp [okAt, c]))
        have c1 : (32 : Int) < ((s 4).size : Int) := by omega
        clear c
        go_wp2
        go_ret
        exact ⟨by rw [E.out]; rfl, HB.out⟩
      have c1 : ¬ (32 : Int) < ((s 4).size : Int) := by omega
      have HIi := Aside0.mk (HI.out 4 (by omega) c)
      rcases hbi : b 4 with _ | _
      · rw [hbi] at HIi
        have E := Aside0.mk (show mayB s b = false from mayB_false (j := 4) (by omega) (by simp [okAt, hbi]))
        go_wp2_with (first | ((with_reducible refine gate_dst (N := 20) rfl ?_); (try (refine gate_guard (by rfl) ?_; dsimp only)); refine conv_bytes (N := 20) rfl rfl 9 50 5 rfl (s 4) rfl Try.underlying9 Try.underlying50 Try.underlying5 rfl hsi ?_; intro A_ c_ w3 hn8 hl8 hb; have n_ := Aside0.mk (below_step (by repeat (with_reducible first | exact HB.out | apply below_alloc | apply pw_below_drewN | apply below_drew1)) hb); have mgA_ := Aside0.mk (blk_below (g := gA) (o := CO s) (by (with_reducible repeat (first | refine blk_drewN ?_ _ | refine blk_drew ?_ | refine blk_alloc ?_ _)); exact BKgA.out) hb); clear HB BKgA; have HB := n_; have BKgA := mgA_; clear n_ mgA_; have HN8 := Aside0.mk hn8; have HL8 := Aside0.mk hl8; clear hn8 hl8 hb; obtain ⟨hcgA_21_0, hcgA_21_1, hcgA_21_2, hcgA_21_3, hcgA_21_4, hcgA_21_5, hcgA_21_6, hcgA_21_7⟩ := blk8 BKgA.out) | ((with_reducible refine gate_callee (f := 46) rfl ?_); (with_reducible refine gate_dst (N := 21) rfl ?_); (try (refine gate_guard (by rfl) ?_; dsimp only)); refine goesL_ (some 21) rfl rfl Try.func46 (by kernel_rfl) rfl #[.slice A_ (bytesOf (s 4)).length c_] rfl (by first | rfl | go_simp) ?_; refine (cardexref02_Is.calls k A_ c_ (bytesOf (s 4)) false _ HN8.out HL8.out HIi.out).mono ?_; rintro _ w4 ⟨rfl, hb⟩; have n_ := Aside0.mk (below_step (by repeat (with_reducible first | exact HB.out | apply below_alloc | apply pw_below_drewN | apply below_drew1)) hb); have mgA_ := Aside0.mk (blk_below (g := gA) (o := CO s) (by (with_reducible repeat (first | refine blk_drewN ?_ _ | refine blk_drew ?_ | refine blk_alloc ?_ _)); exact BKgA.out) hb); clear HB BKgA; have HB := n_; have BKgA := mgA_; clear n_ mgA_; clear hb; obtain ⟨hcgA_22_0, hcgA_22_1, hcgA_22_2, hcgA_22_3, hcgA_22_4, hcgA_22_5, hcgA_22_6, hcgA_22_7⟩ := blk8 BKgA.out; refine ⟨_, rfl, ?_⟩))
        go_ret
        exact ⟨by rw [E.out]; rfl, HB.out⟩
      · rw [hbi] at HIi
        go_wp2_with (first | ((with_reducible refine gate_dst (N := 20) rfl ?_); (try (refine gate_guard (by rfl) ?_; dsimp only)); refine conv_bytes (N := 20) rfl rfl 9 50 5 rfl (s 4) rfl Try.underlying9 Try.underlying50 Try.underlying5 rfl hsi ?_; intro A_ c_ w3 hn8 hl8 hb; have n_ := Aside0.mk (below_step (by repeat (with_reducible first | exact HB.out | apply below_alloc | apply pw_below_drewN | apply below_drew1)) hb); have mgA_ := Aside0.mk (blk_below (g := gA) (o := CO s) (by (with_reducible repeat (first | refine blk_drewN ?_ _ | refine blk_drew ?_ | refine blk_alloc ?_ _)); exact BKgA.out) hb); clear HB BKgA; have HB := n_; have BKgA := mgA_; clear n_ mgA_; have HN8 := Aside0.mk hn8; have HL8 := Aside0.mk hl8; clear hn8 hl8 hb; obtain ⟨hcgA_21_0, hcgA_21_1, hcgA_21_2, hcgA_21_3, hcgA_21_4, hcgA_21_5, hcgA_21_6, hcgA_21_7⟩ := blk8 BKgA.out) | ((with_reducible refine gate_callee (f := 46) rfl ?_); (with_reducible refine gate_dst (N := 21) rfl ?_); (try (refine gate_guard (by rfl) ?_; dsimp only)); refine goesL_ (some 21) rfl rfl Try.func46 (by kernel_rfl) rfl #[.slice A_ (bytesOf (s 4)).length c_] rfl (by first | rfl | go_simp) ?_; refine (cardexref02_Is.calls k A_ c_ (bytesOf (s 4)) true _ HN8.out HL8.out HIi.out).mono ?_; rintro _ w4 ⟨rfl, hb⟩; have n_ := Aside0.mk (below_step (by repeat (with_reducible first | exact HB.out | apply below_alloc | apply pw_below_drewN | apply below_drew1)) hb); have mgA_ := Aside0.mk (blk_below (g := gA) (o := CO s) (by (with_reducible repeat (first | refine blk_drewN ?_ _ | refine blk_drew ?_ | refine blk_alloc ?_ _)); exact BKgA.out) hb); clear HB BKgA; have HB := n_; have BKgA := mgA_; clear n_ mgA_; clear hb; obtain ⟨hcgA_22_0, hcgA_22_1, hcgA_22_2, hcgA_22_3, hcgA_22_4, hcgA_22_5, hcgA_22_6, hcgA_22_7⟩ := blk8 BKgA.out; refine ⟨_, rfl, ?_⟩))
        go_roundw
        case rel => exact ⟨5, by omega, rfl, upto_step HALL.out (by simp [okAt, c, hbi]), BKgA.out, HB.out⟩
        case measure => simp [intOf]
    · obtain ⟨hcgA_11_0, hcgA_11_1, hcgA_11_2, hcgA_11_3, hcgA_11_4, hcgA_11_5, hcgA_11_6, hcgA_11_7⟩ := blk8 BKgA.out
      have hsi := hs 5
      clear hs
      by_cases c : (s 5).size ≤ 32
      case neg =>
        have E := Aside0.mk (show mayB s b = false from mayB_false (j := 5) (by omega) (by simp [okAt, c]))
        have c1 : (32 : Int) < ((s 5).size : Int) := by omega
        clear c
        go_wp2
        go_ret
        exact ⟨by rw [E.out]; rfl, HB.out⟩
      have c1 : ¬ (32 : Int) < ((s 5).size : Int) := by omega
      have HIi := Aside0.mk (HI.out 5 (by omega) c)
      rcases hbi : b 5 with _ | _
      · rw [hbi] at HIi
        have E := Aside0.mk (show mayB s b = false from mayB_false (j := 5) (by omega) (by simp [okAt, hbi]))
        go_wp2_with (first | ((with_reducible refine gate_dst (N := 20) rfl ?_); (try (refine gate_guard (by rfl) ?_; dsimp only)); refine conv_bytes (N := 20) rfl rfl 9 50 5 rfl (s 5) rfl Try.underlying9 Try.underlying50 Try.underlying5 rfl hsi ?_; intro A_ c_ w3 hn8 hl8 hb; have n_ := Aside0.mk (below_step (by repeat (with_reducible first | exact HB.out | apply below_alloc | apply pw_below_drewN | apply below_drew1)) hb); have mgA_ := Aside0.mk (blk_below (g := gA) (o := CO s) (by (with_reducible repeat (first | refine blk_drewN ?_ _ | refine blk_drew ?_ | refine blk_alloc ?_ _)); exact BKgA.out) hb); clear HB BKgA; have HB := n_; have BKgA := mgA_; clear n_ mgA_; have HN8 := Aside0.mk hn8; have HL8 := Aside0.mk hl8; clear hn8 hl8 hb; obtain ⟨hcgA_21_0, hcgA_21_1, hcgA_21_2, hcgA_21_3, hcgA_21_4, hcgA_21_5, hcgA_21_6, hcgA_21_7⟩ := blk8 BKgA.out) | ((with_reducible refine gate_callee (f := 46) rfl ?_); (with_reducible refine gate_dst (N := 21) rfl ?_); (try (refine gate_guard (by rfl) ?_; dsimp only)); refine goesL_ (some 21) rfl rfl Try.func46 (by kernel_rfl) rfl #[.slice A_ (bytesOf (s 5)).length c_] rfl (by first | rfl | go_simp) ?_; refine (cardexref02_Is.calls k A_ c_ (bytesOf (s 5)) false _ HN8.out HL8.out HIi.out).mono ?_; rintro _ w4 ⟨rfl, hb⟩; have n_ := Aside0.mk (below_step (by repeat (with_reducible first | exact HB.out | apply below_alloc | apply pw_below_drewN | apply below_drew1)) hb); have mgA_ := Aside0.mk (blk_below (g := gA) (o := CO s) (by (with_reducible repeat (first | refine blk_drewN ?_ _ | refine blk_drew ?_ | refine blk_alloc ?_ _)); exact BKgA.out) hb); clear HB BKgA; have HB := n_; have BKgA := mgA_; clear n_ mgA_; clear hb; obtain ⟨hcgA_22_0, hcgA_22_1, hcgA_22_2, hcgA_22_3, hcgA_22_4, hcgA_22_5, hcgA_22_6, hcgA_22_7⟩ := blk8 BKgA.out; refine ⟨_, rfl, ?_⟩))
        go_ret
        exact ⟨by rw [E.out]; rfl, HB.out⟩
      · rw [hbi] at HIi
        go_wp2_with (first | ((with_reducible refine gate_dst (N := 20) rfl ?_); (try (refine gate_guard (by rfl) ?_; dsimp only)); refine conv_bytes (N := 20) rfl rfl 9 50 5 rfl (s 5) rfl Try.underlying9 Try.underlying50 Try.underlying5 rfl hsi ?_; intro A_ c_ w3 hn8 hl8 hb; have n_ := Aside0.mk (below_step (by repeat (with_reducible first | exact HB.out | apply below_alloc | apply pw_below_drewN | apply below_drew1)) hb); have mgA_ := Aside0.mk (blk_below (g := gA) (o := CO s) (by (with_reducible repeat (first | refine blk_drewN ?_ _ | refine blk_drew ?_ | refine blk_alloc ?_ _)); exact BKgA.out) hb); clear HB BKgA; have HB := n_; have BKgA := mgA_; clear n_ mgA_; have HN8 := Aside0.mk hn8; have HL8 := Aside0.mk hl8; clear hn8 hl8 hb; obtain ⟨hcgA_21_0, hcgA_21_1, hcgA_21_2, hcgA_21_3, hcgA_21_4, hcgA_21_5, hcgA_21_6, hcgA_21_7⟩ := blk8 BKgA.out) | ((with_reducible refine gate_callee (f := 46) rfl ?_); (with_reducible refine gate_dst (N := 21) rfl ?_); (try (refine gate_guard (by rfl) ?_; dsimp only)); refine goesL_ (some 21) rfl rfl Try.func46 (by kernel_rfl) rfl #[.slice A_ (bytesOf (s 5)).length c_] rfl (by first | rfl | go_simp) ?_; refine (cardexref02_Is.calls k A_ c_ (bytesOf (s 5)) true _ HN8.out HL8.out HIi.out).mono ?_; rintro _ w4 ⟨rfl, hb⟩; have n_ := Aside0.mk (below_step (by repeat (with_reducible first | exact HB.out | apply below_alloc | apply pw_below_drewN | apply below_drew1)) hb); have mgA_ := Aside0.mk (blk_below (g := gA) (o := CO s) (by (with_reducible repeat (first | refine blk_drewN ?_ _ | refine blk_drew ?_ | refine blk_alloc ?_ _)); exact BKgA.out) hb); clear HB BKgA; have HB := n_; have BKgA := mgA_; clear n_ mgA_; clear hb; obtain ⟨hcgA_22_0, hcgA_22_1, hcgA_22_2, hcgA_22_3, hcgA_22_4, hcgA_22_5, hcgA_22_6, hcgA_22_7⟩ := blk8 BKgA.out; refine ⟨_, rfl, ?_⟩))
        go_roundw
        case rel => exact ⟨6, by omega, rfl, upto_step HALL.out (by simp [okAt, c, hbi]), BKgA.out, HB.out⟩
        case measure => simp [intOf]
    · obtain ⟨hcgA_11_0, hcgA_11_1, hcgA_11_2, hcgA_11_3, hcgA_11_4, hcgA_11_5, hcgA_11_6, hcgA_11_7⟩ := blk8 BKgA.out
      have hsi := hs 6
      clear hs
      by_cases c : (s 6).size ≤ 32
      case neg =>
        have E := Aside0.mk (show mayB s b = false from mayB_false (j := 6) (by omega) (by simp [okAt, c]))
        have c1 : (32 : Int) < ((s 6).size : Int) := by omega
        clear c
        go_wp2
        go_ret
        exact ⟨by rw [E.out]; rfl, HB.out⟩
      have c1 : ¬ (32 : Int) < ((s 6).size : Int) := by omega
      have HIi := Aside0.mk (HI.out 6 (by omega) c)
      rcases hbi : b 6 with _ | _
      · rw [hbi] at HIi
        have E := Aside0.mk (show mayB s b = false from mayB_false (j := 6) (by omega) (by simp [okAt, hbi]))
        go_wp2_with (first | ((with_reducible refine gate_dst (N := 20) rfl ?_); (try (refine gate_guard (by rfl) ?_; dsimp only)); refine conv_bytes (N := 20) rfl rfl 9 50 5 rfl (s 6) rfl Try.underlying9 Try.underlying50 Try.underlying5 rfl hsi ?_; intro A_ c_ w3 hn8 hl8 hb; have n_ := Aside0.mk (below_step (by repeat (with_reducible first | exact HB.out | apply below_alloc | apply pw_below_drewN | apply below_drew1)) hb); have mgA_ := Aside0.mk (blk_below (g := gA) (o := CO s) (by (with_reducible repeat (first | refine blk_drewN ?_ _ | refine blk_drew ?_ | refine blk_alloc ?_ _)); exact BKgA.out) hb); clear HB BKgA; have HB := n_; have BKgA := mgA_; clear n_ mgA_; have HN8 := Aside0.mk hn8; have HL8 := Aside0.mk hl8; clear hn8 hl8 hb; obtain ⟨hcgA_21_0, hcgA_21_1, hcgA_21_2, hcgA_21_3, hcgA_21_4, hcgA_21_5, hcgA_21_6, hcgA_21_7⟩ := blk8 BKgA.out) | ((with_reducible refine gate_callee (f := 46) rfl ?_); (with_reducible refine gate_dst (N := 21) rfl ?_); (try (refine gate_guard (by rfl) ?_; dsimp only)); refine goesL_ (some 21) rfl rfl Try.func46 (by kernel_rfl) rfl #[.slice A_ (bytesOf (s 6)).length c_] rfl (by first | rfl | go_simp) ?_; refine (cardexref02_Is.calls k A_ c_ (bytesOf (s 6)) false _ HN8.out HL8.out HIi.out).mono ?_; rintro _ w4 ⟨rfl, hb⟩; have n_ := Aside0.mk (below_step (by repeat (with_reducible first | exact HB.out | apply below_alloc | apply pw_below_drewN | apply below_drew1)) hb); have mgA_ := Aside0.mk (blk_below (g := gA) (o := CO s) (by (with_reducible repeat (first | refine blk_drewN ?_ _ | refine blk_drew ?_ | refine blk_alloc ?_ _)); exact BKgA.out) hb); clear HB BKgA; have HB := n_; have BKgA := mgA_; clear n_ mgA_; clear hb; obtain ⟨hcgA_22_0, hcgA_22_1, hcgA_22_2, hcgA_22_3, hcgA_22_4, hcgA_22_5, hcgA_22_6, hcgA_22_7⟩ := blk8 BKgA.out; refine ⟨_, rfl, ?_⟩))
        go_ret
        exact ⟨by rw [E.out]; rfl, HB.out⟩
      · rw [hbi] at HIi
        go_wp2_with (first | ((with_reducible refine gate_dst (N := 20) rfl ?_); (try (refine gate_guard (by rfl) ?_; dsimp only)); refine conv_bytes (N := 20) rfl rfl 9 50 5 rfl (s 6) rfl Try.underlying9 Try.underlying50 Try.underlying5 rfl hsi ?_; intro A_ c_ w3 hn8 hl8 hb; have n_ := Aside0.mk (below_step (by repeat (with_reducible first | exact HB.out | apply below_alloc | apply pw_below_drewN | apply below_drew1)) hb); have mgA_ := Aside0.mk (blk_below (g := gA) (o := CO s) (by (with_reducible repeat (first | refine blk_drewN ?_ _ | refine blk_drew ?_ | refine blk_alloc ?_ _)); exact BKgA.out) hb); clear HB BKgA; have HB := n_; have BKgA := mgA_; clear n_ mgA_; have HN8 := Aside0.mk hn8; have HL8 := Aside0.mk hl8; clear hn8 hl8 hb; obtain ⟨hcgA_21_0, hcgA_21_1, hcgA_21_2, hcgA_21_3, hcgA_21_4, hcgA_21_5, hcgA_21_6, hcgA_21_7⟩ := blk8 BKgA.out) | ((with_reducible refine gate_callee (f := 46) rfl ?_); (with_reducible refine gate_dst (N := 21) rfl ?_); (try (refine gate_guard (by rfl) ?_; dsimp only)); refine goesL_ (some 21) rfl rfl Try.func46 (by kernel_rfl) rfl #[.slice A_ (bytesOf (s 6)).length c_] rfl (by first | rfl | go_simp) ?_; refine (cardexref02_Is.calls k A_ c_ (bytesOf (s 6)) true _ HN8.out HL8.out HIi.out).mono ?_; rintro _ w4 ⟨rfl, hb⟩; have n_ := Aside0.mk (below_step (by repeat (with_reducible first | exact HB.out | apply below_alloc | apply pw_below_drewN | apply below_drew1)) hb); have mgA_ := Aside0.mk (blk_below (g := gA) (o := CO s) (by (with_reducible repeat (first | refine blk_drewN ?_ _ | refine blk_drew ?_ | refine blk_alloc ?_ _)); exact BKgA.out) hb); clear HB BKgA; have HB := n_; have BKgA := mgA_; clear n_ mgA_; clear hb; obtain ⟨hcgA_22_0, hcgA_22_1, hcgA_22_2, hcgA_22_3, hcgA_22_4, hcgA_22_5, hcgA_22_6, hcgA_22_7⟩ := blk8 BKgA.out; refine ⟨_, rfl, ?_⟩))
        go_roundw
        case rel => exact ⟨7, by omega, rfl, upto_step HALL.out (by simp [okAt, c, hbi]), BKgA.out, HB.out⟩
        case measure => simp [intOf]
    · obtain ⟨hcgA_11_0, hcgA_11_1, hcgA_11_2, hcgA_11_3, hcgA_11_4, hcgA_11_5, hcgA_11_6, hcgA_11_7⟩ := blk8 BKgA.out
      have hsi := hs 7
      clear hs
      by_cases c : (s 7).size ≤ 32
      case neg =>
        have E := Aside0.mk (show mayB s b = false from mayB_false (j := 7) (by omega) (by simp [okAt, c]))
        have c1 : (32 : Int) < ((s 7).size : Int) := by omega
        clear c
        go_wp2
        go_ret
        exact ⟨by rw [E.out]; rfl, HB.out⟩
      have c1 : ¬ (32 : Int) < ((s 7).size : Int) := by omega
      clear hsi
      go_wp2
      go_roundw
      case rel => exact ⟨8, by omega, rfl, upto_step HALL.out (by simp [okAt, c]), BKgA.out, HB.out⟩
      case measure => simp [intOf]
    · obtain ⟨hcgA_11_0, hcgA_11_1, hcgA_11_2, hcgA_11_3, hcgA_11_4, hcgA_11_5, hcgA_11_6, hcgA_11_7⟩ := blk8 BKgA.out
      have E := Aside0.mk (mayB_true HALL.out)
      go_wp2
      go_ret
      exact ⟨by rw [E.out]; rfl, HB.out⟩
end Go.Proofs.Ytnmbhhkdiegemaa.K
