/- The walks of prop.Put, prop.Marks and the document's Put: the elements of a mask. Conditions: those that each theorem names. -/
import Derived.Test.YtnmbhhkdiegemaaPropList
namespace Go.Proofs.Ytnmbhhkdiegemaa.K
open Go.RowKit Go.Proofs.YtnmbhhkdiegemaaW.PrintWords Go.Proofs.YtnmbhhkdiegemaaW.PrintLast Go.Proofs.YtnmbhhkdiegemaaW.PrintMore
attribute [local go_sem] max2_int min2_int max_two min_two max_three min_three max_four min_four
set_option linter.unusedVariables false
set_option linter.unusedSimpArgs false

set_option maxHeartbeats 8000000 in
set_option maxRecDepth 100000 in
theorem prop_Put.bad (k : Nat) (g : Int) (s : Nat → ByteArray) (b : Nat → Bool) (bt : Nat → Bool) (w : World) (hs : ∀ i, (s i).size ≤ 9223372036854775807) (hI : ∀ i, i < 7 → (s i).size ≤ 32 → utf_Is.f k (bytesOf (s i)) = some (b i)) (hm : mayB s b = false) :
    Calls Try.prog 21 #[.int .u8 g, .agg #[.string (s 0), .string (s 1), .string (s 2), .string (s 3), .string (s 4), .string (s 5), .string (s 6), .string (s 7)]] w fun e w' => e = .returned (.tuple #[.slice none 0 0, .int .i64 2]) ∧ Below w.heap.size w w' := by
  have hu37 := Try.underlying37
  have HB := Aside0.mk (Below.refl w.heap.size w)
  have HI := Aside0.mk hI
  have HM := Aside0.mk hm
  clear hI hm
  go_enter Try.func21, Try.ntmps21
  go_wp2_with (first | ((with_reducible refine gate_dst (N := 3) rfl ?_); refine box_event ?hg (N := 3) ?hd (cs := #[.string (s 0), .string (s 1), .string (s 2), .string (s 3), .string (s 4), .string (s 5), .string (s 6), .string (s 7)]) (t := 37) ?hr ?_; (case hd => rfl); (case hg => rfl); (case hr => first | (go_simp; done) | (go_simp; rfl)); intro gC hg w1 hbox hb; have ge_ := Aside0.mk ((by rw [hg]; exact below_size (by repeat (with_reducible first | exact HB.out | apply below_alloc | apply pw_below_drewN | apply below_drew1))) : w.heap.size ≤ gC); have n_ := Aside0.mk (below_step (by repeat (with_reducible first | exact HB.out | apply below_alloc | apply pw_below_drewN | apply below_drew1)) hb); clear HB; have HB := n_; clear n_; have BKgC := Aside0.mk hbox; have GEgC := ge_; clear ge_ hbox hg hb; obtain ⟨hcgC_1_0, hcgC_1_1, hcgC_1_2, hcgC_1_3, hcgC_1_4, hcgC_1_5, hcgC_1_6, hcgC_1_7⟩ := blk8 BKgC.out) | ((with_reducible refine gate_callee (f := 23) rfl ?_); (with_reducible refine gate_dst (N := 10) rfl ?_); (try (refine gate_guard (by rfl) ?_; dsimp only)); refine goesL_ (some 10) rfl rfl Try.func23 (by kernel_rfl) rfl #[.agg #[.string (s 0), .string (s 1), .string (s 2), .string (s 3), .string (s 4), .string (s 5), .string (s 6), .string (s 7)]] rfl (by first | rfl | go_simp) ?_; refine (prop_May.calls k s b _ hs HI.out).mono ?_; rintro _ w2 ⟨rfl, hb⟩; have n_ := Aside0.mk (below_step (by repeat (with_reducible first | exact HB.out | apply below_alloc | apply pw_below_drewN | apply below_drew1)) hb); have mgC_ := Aside0.mk (blk_below (g := gC) (o := CO s) (by (with_reducible repeat (first | refine blk_drewN ?_ _ | refine blk_drew ?_ | refine blk_alloc ?_ _)); exact BKgC.out) hb); clear HB BKgC; have HB := n_; have BKgC := mgC_; clear n_ mgC_; clear hb; have hm := HM.out; obtain ⟨hcgC_2_0, hcgC_2_1, hcgC_2_2, hcgC_2_3, hcgC_2_4, hcgC_2_5, hcgC_2_6, hcgC_2_7⟩ := blk8 BKgC.out; refine ⟨_, rfl, ?_⟩))
  go_ret2
  exact ⟨rfl, HB.out⟩
set_option maxHeartbeats 8000000 in
set_option maxRecDepth 100000 in
theorem prop_Put.good (k : Nat) (g : Int) (s : Nat → ByteArray) (b : Nat → Bool) (bt : Nat → Bool) (w : World) (hs : ∀ i, (s i).size ≤ 9223372036854775807) (hI : ∀ i, i < 7 → (s i).size ≤ 32 → utf_Is.f k (bytesOf (s i)) = some (b i)) (hm : mayB s b = true) (h0 : (Go.bits .and .u8 g 1 != 0) = bt 0) (h1 : (Go.bits .and .u8 g 2 != 0) = bt 1) (h2 : (Go.bits .and .u8 g 4 != 0) = bt 2) (h3 : (Go.bits .and .u8 g 8 != 0) = bt 3) (h4 : (Go.bits .and .u8 g 16 != 0) = bt 4) (h5 : (Go.bits .and .u8 g 32 != 0) = bt 5) (h6 : (Go.bits .and .u8 g 64 != 0) = bt 6) (h7 : (Go.bits .and .u8 g 128 != 0) = bt 7) :
    Calls Try.prog 21 #[.int .u8 g, .agg #[.string (s 0), .string (s 1), .string (s 2), .string (s 3), .string (s 4), .string (s 5), .string (s 6), .string (s 7)]] w fun e w' => ∃ v, e = .returned (.tuple #[v, .int .i64 0]) ∧ Lst w' w.heap.size v (putL s bt 8) ∧ Below w.heap.size w w' := by
  have hu37 := Try.underlying37
  have hu23 := Try.underlying23
  have hu83 := Try.underlying83
  have hu78 := Try.underlying78
  have hu39 := Try.underlying39
  have HB := Aside0.mk (Below.refl w.heap.size w)
  have HI := Aside0.mk hI
  have HM := Aside0.mk hm
  have HH := Aside0.mk (show (Go.bits .and .u8 g 1 != 0) = bt 0 ∧ (Go.bits .and .u8 g 2 != 0) = bt 1 ∧ (Go.bits .and .u8 g 4 != 0) = bt 2 ∧ (Go.bits .and .u8 g 8 != 0) = bt 3 ∧ (Go.bits .and .u8 g 16 != 0) = bt 4 ∧ (Go.bits .and .u8 g 32 != 0) = bt 5 ∧ (Go.bits .and .u8 g 64 != 0) = bt 6 ∧ (Go.bits .and .u8 g 128 != 0) = bt 7 from ⟨h0, h1, h2, h3, h4, h5, h6, h7⟩)
  clear hI hm h0 h1 h2 h3 h4 h5 h6 h7
  go_enter Try.func21, Try.ntmps21
  go_wp2_with (first | ((with_reducible refine gate_dst (N := 3) rfl ?_); refine box_event ?hg (N := 3) ?hd (cs := #[.string (s 0), .string (s 1), .string (s 2), .string (s 3), .string (s 4), .string (s 5), .string (s 6), .string (s 7)]) (t := 37) ?hr ?_; (case hd => rfl); (case hg => rfl); (case hr => first | (go_simp; done) | (go_simp; rfl)); intro gC hg w1 hbox hb; have ge_ := Aside0.mk ((by rw [hg]; exact below_size (by repeat (with_reducible first | exact HB.out | apply below_alloc | apply pw_below_drewN | apply below_drew1))) : w.heap.size ≤ gC); have n_ := Aside0.mk (below_step (by repeat (with_reducible first | exact HB.out | apply below_alloc | apply pw_below_drewN | apply below_drew1)) hb); clear HB; have HB := n_; clear n_; have BKgC := Aside0.mk hbox; have GEgC := ge_; clear ge_ hbox hg hb; obtain ⟨hcgC_1_0, hcgC_1_1, hcgC_1_2, hcgC_1_3, hcgC_1_4, hcgC_1_5, hcgC_1_6, hcgC_1_7⟩ := blk8 BKgC.out) | ((with_reducible refine gate_callee (f := 23) rfl ?_); (with_reducible refine gate_dst (N := 10) rfl ?_); (try (refine gate_guard (by rfl) ?_; dsimp only)); refine goesL_ (some 10) rfl rfl Try.func23 (by kernel_rfl) rfl #[.agg #[.string (s 0), .string (s 1), .string (s 2), .string (s 3), .string (s 4), .string (s 5), .string (s 6), .string (s 7)]] rfl (by first | rfl | go_simp) ?_; refine (prop_May.calls k s b _ hs HI.out).mono ?_; rintro _ w2 ⟨rfl, hb⟩; have n_ := Aside0.mk (below_step (by repeat (with_reducible first | exact HB.out | apply below_alloc | apply pw_below_drewN | apply below_drew1)) hb); have mgC_ := Aside0.mk (blk_below (g := gC) (o := CO s) (by (with_reducible repeat (first | refine blk_drewN ?_ _ | refine blk_drew ?_ | refine blk_alloc ?_ _)); exact BKgC.out) hb); clear HB BKgC; have HB := n_; have BKgC := mgC_; clear n_ mgC_; clear hb; have hm := HM.out; obtain ⟨hcgC_2_0, hcgC_2_1, hcgC_2_2, hcgC_2_3, hcgC_2_4, hcgC_2_5, hcgC_2_6, hcgC_2_7⟩ := blk8 BKgC.out; refine ⟨_, rfl, ?_⟩) | ((with_reducible refine gate_callee (f := 41) rfl ?_); (with_reducible refine gate_dst (N := 12) rfl ?_); (try (refine gate_guard (by rfl) ?_; dsimp only)); refine goesL_ (some 12) rfl rfl Try.func41 (by kernel_rfl) rfl #[] rfl (by first | rfl | go_simp) ?_; refine (prop_tags.calls _).mono ?_; rintro _ w3 ⟨rfl, hb⟩; have n_ := Aside0.mk (below_step (by repeat (with_reducible first | exact HB.out | apply below_alloc | apply pw_below_drewN | apply below_drew1)) hb); have mgC_ := Aside0.mk (blk_below (g := gC) (o := CO s) (by (with_reducible repeat (first | refine blk_drewN ?_ _ | refine blk_drew ?_ | refine blk_alloc ?_ _)); exact BKgC.out) hb); clear HB BKgC; have HB := n_; have BKgC := mgC_; clear n_ mgC_; clear hb; obtain ⟨hcgC_3_0, hcgC_3_1, hcgC_3_2, hcgC_3_3, hcgC_3_4, hcgC_3_5, hcgC_3_6, hcgC_3_7⟩ := blk8 BKgC.out; refine ⟨_, rfl, ?_⟩))
  have H0 := Aside0.mk (show ∃ i : Nat, i ≤ 8 ∧ (Value.int .i64 0) = .int .i64 i ∧ Lst w3 w.heap.size (.slice none 0 0) (putL s bt i) ∧ w3.heap[gC]? = some (.cells #[.string (s 0), .string (s 1), .string (s 2), .string (s 3), .string (s 4), .string (s 5), .string (s 6), .string (s 7)] 37 (0, 0)) ∧ Below w.heap.size w w3 from ⟨0, by omega, rfl, Lst.nil _ _, BKgC.out, HB.out⟩)
  clear BKgC HB
  clear hcgC_1_0 hcgC_1_1 hcgC_1_2 hcgC_1_3 hcgC_1_4 hcgC_1_5 hcgC_1_6 hcgC_1_7 hcgC_2_0 hcgC_2_1 hcgC_2_2 hcgC_2_3 hcgC_2_4 hcgC_2_5 hcgC_2_6 hcgC_2_7 hcgC_3_0 hcgC_3_1 hcgC_3_2 hcgC_3_3 hcgC_3_4 hcgC_3_5 hcgC_3_6 hcgC_3_7
  go_loopw [6, 13] (fun u v wr => ∃ i : Nat, i ≤ 8 ∧ v = .int .i64 i ∧ Lst wr w.heap.size u (putL s bt i) ∧ wr.heap[gC]? = some (.cells #[.string (s 0), .string (s 1), .string (s 2), .string (s 3), .string (s 4), .string (s 5), .string (s 6), .string (s 7)] 37 (0, 0)) ∧ Below w.heap.size w wr) (fun _ v _ => 8 - (intOf v).toNat)
  case atStart => exact H0.out
  case round =>
    obtain ⟨i, hi, rfl, hl0, h0, hb0⟩ := hrel
    have BKgC := Aside0.mk h0
    have HB := Aside0.mk hb0
    have HLS := Aside0.mk hl0
    clear h0 hb0 H0 hl0
    rcases (show i = 0 ∨ i = 1 ∨ i = 2 ∨ i = 3 ∨ i = 4 ∨ i = 5 ∨ i = 6 ∨ i = 7 ∨ i = 8 by omega) with rfl | rfl | rfl | rfl | rfl | rfl | rfl | rfl | rfl
    · obtain ⟨hcgC_11_0, hcgC_11_1, hcgC_11_2, hcgC_11_3, hcgC_11_4, hcgC_11_5, hcgC_11_6, hcgC_11_7⟩ := blk8 BKgC.out
      have hix := idx78_0
      have hq := HH.out.1
      have hsi := hs 0
      rcases hbi : bt 0 with _ | _
      · rw [hbi] at hq
        have E := Aside0.mk (putL_miss (s := s) hbi)
        clear hbi
        have hq2 : (Go.bits .and .u8 g 1 == 0) = true := by simpa using hq
        go_wp2
        go_roundw
        case rel => exact ⟨1, by omega, rfl, by rw [E.out]; first | exact HLS.out | exact HLS.out.alloc _, by first | exact BKgC.out | exact blk_alloc BKgC.out _, by first | exact HB.out | exact below_alloc HB.out _⟩
        case measure => simp [intOf]
      · rw [hbi] at hq
        have E := Aside0.mk (putL_hit (s := s) hbi)
        have EN := Aside0.mk (putL_length s bt 0)
        clear hbi
        have hq2 : (Go.bits .and .u8 g 1 == 0) = false := by simpa using hq
        go_upto_region 8 with (fail)
        refine atWorld (fun W8 hW8 => ?_)
        have BK8 := Aside0.mk (show W8.heap[wr.heap.size]? = some (.cells #[.int .u8 1, .int .u8 30] 23 (0, 0)) by rw [hW8]; exact heap_alloc_new wr _)
        have mC := Aside0.mk (show W8.heap[gC]? = some (.cells #[.string (s 0), .string (s 1), .string (s 2), .string (s 3), .string (s 4), .string (s 5), .string (s 6), .string (s 7)] 37 (0, 0)) by rw [hW8]; exact blk_alloc BKgC.out _)
        have mL := Aside0.mk (show Lst W8 w.heap.size u6 (putL s bt 0) by rw [hW8]; exact HLS.out.alloc _)
        have mB := Aside0.mk (show Below w.heap.size w W8 by rw [hW8]; exact below_alloc HB.out _)
        clear hW8 BKgC HLS HB
        have BKgC := mC
        have HLS := mL
        have HB := mB
        clear mC mL mB
        generalize wr.heap.size = g8 at BK8 ⊢
        clear hcgC_11_0 hcgC_11_1 hcgC_11_2 hcgC_11_3 hcgC_11_4 hcgC_11_5 hcgC_11_6 hcgC_11_7
        obtain ⟨hcgC_21_0, hcgC_21_1, hcgC_21_2, hcgC_21_3, hcgC_21_4, hcgC_21_5, hcgC_21_6, hcgC_21_7⟩ := blk8 BKgC.out
        obtain ⟨hcg8_21_0, hcg8_21_1, hfg8_21_0, hfg8_21_1⟩ := blk2 BK8.out
        have BKg8 := BK8
        go_region_held3 (fun w' => w'.cell? ⟨g8, 0, none⟩ = some (.int .u8 1) ∧ w'.cell? ⟨g8, 1, none⟩ = some (.int .u8 30) ∧ w'.cell? ⟨gC, 0, none⟩ = some (.string (s 0))) (go_keep)
          (first | (go_at_call 43; refine (prop_element.calls 0 1 30 (s 0) hsi _).mono ?_; rintro _ w5 ⟨A3, c3, A4, c4, rfl, hl3, hC3, hf3, hb⟩; have L0_ := Aside0.mk HLS.out.drew; have mL_ := Aside0.mk (L0_.out.below hb); have HEL := Aside0.mk (El.mk' L0_.out (i := 0) A4 c4 rfl rfl hl3 hC3 hf3); clear L0_ HLS hl3 hC3 hf3; have HLS := mL_; clear mL_; have n_ := Aside0.mk (below_step (by repeat (with_reducible first | exact HB.out | apply below_alloc | apply pw_below_drewN | apply below_drew1 | refine below_set ?_ GEg8.out)) hb); have mgC_ := Aside0.mk (blk_below (g := gC) (o := CO s) (by (with_reducible repeat (first | refine blk_drewN ?_ _ | refine blk_drew ?_ | refine blk_alloc ?_ _)); exact BKgC.out) hb); have mg8_ := Aside0.mk (blk_below (g := g8) (o := .cells #[.int .u8 1, .int .u8 30] 23 (0, 0)) (by (with_reducible repeat (first | refine blk_drewN ?_ _ | refine blk_drew ?_ | refine blk_alloc ?_ _)); exact BKg8.out) hb); clear HB BKgC BKg8; have HB := n_; have BKgC := mgC_; have BKg8 := mg8_; clear n_ mgC_ mg8_; clear hb; obtain ⟨hcgC_22_0, hcgC_22_1, hcgC_22_2, hcgC_22_3, hcgC_22_4, hcgC_22_5, hcgC_22_6, hcgC_22_7⟩ := blk8 BKgC.out; obtain ⟨hcg8_22_0, hcg8_22_1, hfg8_22_0, hfg8_22_1⟩ := blk2 BKg8.out) | (refine Lst.append_step (w0 := w) rfl _ _ rfl rfl (HLS.out.alloc _) (below_alloc HB.out _) (by have := EN.out; omega) (HEL.out.alloc _) rfl (cells5_new _ _ _ _ _ _ _) (by have := below_size HB.out; simp; omega) ?_; intro v1 w6 hl6 hb6 hg6; have nC_ : some gC ≠ (u6 : Value).ownBlock := HLS.out.ne BKgC.out (by decide); have n8_ : some g8 ≠ (u6 : Value).ownBlock := HLS.out.ne BKg8.out (by decide); have mC_ := Aside0.mk (blk_grown (blk_alloc BKgC.out _) hg6 nC_); have m8_ := Aside0.mk (blk_grown (blk_alloc BKg8.out _) hg6 n8_); clear BKgC BKg8 HLS HB HEL nC_ n8_ hg6; have BKgC := mC_; have BKg8 := m8_; have HLS := Aside0.mk hl6; have HB := Aside0.mk hb6; clear mC_ m8_ hl6 hb6; obtain ⟨hcgC_23_0, hcgC_23_1, hcgC_23_2, hcgC_23_3, hcgC_23_4, hcgC_23_5, hcgC_23_6, hcgC_23_7⟩ := blk8 BKgC.out; obtain ⟨hcg8_23_0, hcg8_23_1, hfg8_23_0, hfg8_23_1⟩ := blk2 BKg8.out) | fail)
        go_wp2
        go_roundw
        case rel => exact ⟨1, by omega, rfl, by rw [E.out]; exact HLS.out, BKgC.out, HB.out⟩
        case measure => simp [intOf]
    · obtain ⟨hcgC_11_0, hcgC_11_1, hcgC_11_2, hcgC_11_3, hcgC_11_4, hcgC_11_5, hcgC_11_6, hcgC_11_7⟩ := blk8 BKgC.out
      have hix := idx78_1
      have hq := HH.out.2.1
      have hsi := hs 1
      rcases hbi : bt 1 with _ | _
      · rw [hbi] at hq
        have E := Aside0.mk (putL_miss (s := s) hbi)
        clear hbi
        have hq2 : (Go.bits .and .u8 g 2 == 0) = true := by simpa using hq
        go_wp2
        go_roundw
        case rel => exact ⟨2, by omega, rfl, by rw [E.out]; first | exact HLS.out | exact HLS.out.alloc _, by first | exact BKgC.out | exact blk_alloc BKgC.out _, by first | exact HB.out | exact below_alloc HB.out _⟩
        case measure => simp [intOf]
      · rw [hbi] at hq
        have E := Aside0.mk (putL_hit (s := s) hbi)
        have EN := Aside0.mk (putL_length s bt 1)
        clear hbi
        have hq2 : (Go.bits .and .u8 g 2 == 0) = false := by simpa using hq
        go_upto_region 8 with (fail)
        refine atWorld (fun W8 hW8 => ?_)
        have BK8 := Aside0.mk (show W8.heap[wr.heap.size]? = some (.cells #[.int .u8 1, .int .u8 31] 23 (0, 0)) by rw [hW8]; exact heap_alloc_new wr _)
        have mC := Aside0.mk (show W8.heap[gC]? = some (.cells #[.string (s 0), .string (s 1), .string (s 2), .string (s 3), .string (s 4), .string (s 5), .string (s 6), .string (s 7)] 37 (0, 0)) by rw [hW8]; exact blk_alloc BKgC.out _)
        have mL := Aside0.mk (show Lst W8 w.heap.size u6 (putL s bt 1) by rw [hW8]; exact HLS.out.alloc _)
        have mB := Aside0.mk (show Below w.heap.size w W8 by rw [hW8]; exact below_alloc HB.out _)
        clear hW8 BKgC HLS HB
        have BKgC := mC
        have HLS := mL
        have HB := mB
        clear mC mL mB
        generalize wr.heap.size = g8 at BK8 ⊢
        clear hcgC_11_0 hcgC_11_1 hcgC_11_2 hcgC_11_3 hcgC_11_4 hcgC_11_5 hcgC_11_6 hcgC_11_7
        obtain ⟨hcgC_21_0, hcgC_21_1, hcgC_21_2, hcgC_21_3, hcgC_21_4, hcgC_21_5, hcgC_21_6, hcgC_21_7⟩ := blk8 BKgC.out
        obtain ⟨hcg8_21_0, hcg8_21_1, hfg8_21_0, hfg8_21_1⟩ := blk2 BK8.out
        have BKg8 := BK8
        go_region_held3 (fun w' => w'.cell? ⟨g8, 0, none⟩ = some (.int .u8 1) ∧ w'.cell? ⟨g8, 1, none⟩ = some (.int .u8 31) ∧ w'.cell? ⟨gC, 1, none⟩ = some (.string (s 1))) (go_keep)
          (first | (go_at_call 43; refine (prop_element.calls 1 1 31 (s 1) hsi _).mono ?_; rintro _ w5 ⟨A3, c3, A4, c4, rfl, hl3, hC3, hf3, hb⟩; have L0_ := Aside0.mk HLS.out.drew; have mL_ := Aside0.mk (L0_.out.below hb); have HEL := Aside0.mk (El.mk' L0_.out (i := 1) A4 c4 rfl rfl hl3 hC3 hf3); clear L0_ HLS hl3 hC3 hf3; have HLS := mL_; clear mL_; have n_ := Aside0.mk (below_step (by repeat (with_reducible first | exact HB.out | apply below_alloc | apply pw_below_drewN | apply below_drew1 | refine below_set ?_ GEg8.out)) hb); have mgC_ := Aside0.mk (blk_below (g := gC) (o := CO s) (by (with_reducible repeat (first | refine blk_drewN ?_ _ | refine blk_drew ?_ | refine blk_alloc ?_ _)); exact BKgC.out) hb); have mg8_ := Aside0.mk (blk_below (g := g8) (o := .cells #[.int .u8 1, .int .u8 31] 23 (0, 0)) (by (with_reducible repeat (first | refine blk_drewN ?_ _ | refine blk_drew ?_ | refine blk_alloc ?_ _)); exact BKg8.out) hb); clear HB BKgC BKg8; have HB := n_; have BKgC := mgC_; have BKg8 := mg8_; clear n_ mgC_ mg8_; clear hb; obtain ⟨hcgC_22_0, hcgC_22_1, hcgC_22_2, hcgC_22_3, hcgC_22_4, hcgC_22_5, hcgC_22_6, hcgC_22_7⟩ := blk8 BKgC.out; obtain ⟨hcg8_22_0, hcg8_22_1, hfg8_22_0, hfg8_22_1⟩ := blk2 BKg8.out) | (refine Lst.append_step (w0 := w) rfl _ _ rfl rfl (HLS.out.alloc _) (below_alloc HB.out _) (by have := EN.out; omega) (HEL.out.alloc _) rfl (cells5_new _ _ _ _ _ _ _) (by have := below_size HB.out; simp; omega) ?_; intro v1 w6 hl6 hb6 hg6; have nC_ : some gC ≠ (u6 : Value).ownBlock := HLS.out.ne BKgC.out (by decide); have n8_ : some g8 ≠ (u6 : Value).ownBlock := HLS.out.ne BKg8.out (by decide); have mC_ := Aside0.mk (blk_grown (blk_alloc BKgC.out _) hg6 nC_); have m8_ := Aside0.mk (blk_grown (blk_alloc BKg8.out _) hg6 n8_); clear BKgC BKg8 HLS HB HEL nC_ n8_ hg6; have BKgC := mC_; have BKg8 := m8_; have HLS := Aside0.mk hl6; have HB := Aside0.mk hb6; clear mC_ m8_ hl6 hb6; obtain ⟨hcgC_23_0, hcgC_23_1, hcgC_23_2, hcgC_23_3, hcgC_23_4, hcgC_23_5, hcgC_23_6, hcgC_23_7⟩ := blk8 BKgC.out; obtain ⟨hcg8_23_0, hcg8_23_1, hfg8_23_0, hfg8_23_1⟩ := blk2 BKg8.out) | fail)
        go_wp2
        go_roundw
        case rel => exact ⟨2, by omega, rfl, by rw [E.out]; exact HLS.out, BKgC.out, HB.out⟩
        case measure => simp [intOf]
    · obtain ⟨hcgC_11_0, hcgC_11_1, hcgC_11_2, hcgC_11_3, hcgC_11_4, hcgC_11_5, hcgC_11_6, hcgC_11_7⟩ := blk8 BKgC.out
      have hix := idx78_2
      have hq := HH.out.2.2.1
      have hsi := hs 2
      rcases hbi : bt 2 with _ | _
      · rw [hbi] at hq
        have E := Aside0.mk (putL_miss (s := s) hbi)
        clear hbi
        have hq2 : (Go.bits .and .u8 g 4 == 0) = true := by simpa using hq
        go_wp2
        go_roundw
        case rel => exact ⟨3, by omega, rfl, by rw [E.out]; first | exact HLS.out | exact HLS.out.alloc _, by first | exact BKgC.out | exact blk_alloc BKgC.out _, by first | exact HB.out | exact below_alloc HB.out _⟩
        case measure => simp [intOf]
      · rw [hbi] at hq
        have E := Aside0.mk (putL_hit (s := s) hbi)
        have EN := Aside0.mk (putL_length s bt 2)
        clear hbi
        have hq2 : (Go.bits .and .u8 g 4 == 0) = false := by simpa using hq
        go_upto_region 8 with (fail)
        refine atWorld (fun W8 hW8 => ?_)
        have BK8 := Aside0.mk (show W8.heap[wr.heap.size]? = some (.cells #[.int .u8 1, .int .u8 41] 23 (0, 0)) by rw [hW8]; exact heap_alloc_new wr _)
        have mC := Aside0.mk (show W8.heap[gC]? = some (.cells #[.string (s 0), .string (s 1), .string (s 2), .string (s 3), .string (s 4), .string (s 5), .string (s 6), .string (s 7)] 37 (0, 0)) by rw [hW8]; exact blk_alloc BKgC.out _)
        have mL := Aside0.mk (show Lst W8 w.heap.size u6 (putL s bt 2) by rw [hW8]; exact HLS.out.alloc _)
        have mB := Aside0.mk (show Below w.heap.size w W8 by rw [hW8]; exact below_alloc HB.out _)
        clear hW8 BKgC HLS HB
        have BKgC := mC
        have HLS := mL
        have HB := mB
        clear mC mL mB
        generalize wr.heap.size = g8 at BK8 ⊢
        clear hcgC_11_0 hcgC_11_1 hcgC_11_2 hcgC_11_3 hcgC_11_4 hcgC_11_5 hcgC_11_6 hcgC_11_7
        obtain ⟨hcgC_21_0, hcgC_21_1, hcgC_21_2, hcgC_21_3, hcgC_21_4, hcgC_21_5, hcgC_21_6, hcgC_21_7⟩ := blk8 BKgC.out
        obtain ⟨hcg8_21_0, hcg8_21_1, hfg8_21_0, hfg8_21_1⟩ := blk2 BK8.out
        have BKg8 := BK8
        go_region_held3 (fun w' => w'.cell? ⟨g8, 0, none⟩ = some (.int .u8 1) ∧ w'.cell? ⟨g8, 1, none⟩ = some (.int .u8 41) ∧ w'.cell? ⟨gC, 2, none⟩ = some (.string (s 2))) (go_keep)
          (first | (go_at_call 43; refine (prop_element.calls 2 1 41 (s 2) hsi _).mono ?_; rintro _ w5 ⟨A3, c3, A4, c4, rfl, hl3, hC3, hf3, hb⟩; have L0_ := Aside0.mk HLS.out.drew; have mL_ := Aside0.mk (L0_.out.below hb); have HEL := Aside0.mk (El.mk' L0_.out (i := 2) A4 c4 rfl rfl hl3 hC3 hf3); clear L0_ HLS hl3 hC3 hf3; have HLS := mL_; clear mL_; have n_ := Aside0.mk (below_step (by repeat (with_reducible first | exact HB.out | apply below_alloc | apply pw_below_drewN | apply below_drew1 | refine below_set ?_ GEg8.out)) hb); have mgC_ := Aside0.mk (blk_below (g := gC) (o := CO s) (by (with_reducible repeat (first | refine blk_drewN ?_ _ | refine blk_drew ?_ | refine blk_alloc ?_ _)); exact BKgC.out) hb); have mg8_ := Aside0.mk (blk_below (g := g8) (o := .cells #[.int .u8 1, .int .u8 41] 23 (0, 0)) (by (with_reducible repeat (first | refine blk_drewN ?_ _ | refine blk_drew ?_ | refine blk_alloc ?_ _)); exact BKg8.out) hb); clear HB BKgC BKg8; have HB := n_; have BKgC := mgC_; have BKg8 := mg8_; clear n_ mgC_ mg8_; clear hb; obtain ⟨hcgC_22_0, hcgC_22_1, hcgC_22_2, hcgC_22_3, hcgC_22_4, hcgC_22_5, hcgC_22_6, hcgC_22_7⟩ := blk8 BKgC.out; obtain ⟨hcg8_22_0, hcg8_22_1, hfg8_22_0, hfg8_22_1⟩ := blk2 BKg8.out) | (refine Lst.append_step (w0 := w) rfl _ _ rfl rfl (HLS.out.alloc _) (below_alloc HB.out _) (by have := EN.out; omega) (HEL.out.alloc _) rfl (cells5_new _ _ _ _ _ _ _) (by have := below_size HB.out; simp; omega) ?_; intro v1 w6 hl6 hb6 hg6; have nC_ : some gC ≠ (u6 : Value).ownBlock := HLS.out.ne BKgC.out (by decide); have n8_ : some g8 ≠ (u6 : Value).ownBlock := HLS.out.ne BKg8.out (by decide); have mC_ := Aside0.mk (blk_grown (blk_alloc BKgC.out _) hg6 nC_); have m8_ := Aside0.mk (blk_grown (blk_alloc BKg8.out _) hg6 n8_); clear BKgC BKg8 HLS HB HEL nC_ n8_ hg6; have BKgC := mC_; have BKg8 := m8_; have HLS := Aside0.mk hl6; have HB := Aside0.mk hb6; clear mC_ m8_ hl6 hb6; obtain ⟨hcgC_23_0, hcgC_23_1, hcgC_23_2, hcgC_23_3, hcgC_23_4, hcgC_23_5, hcgC_23_6, hcgC_23_7⟩ := blk8 BKgC.out; obtain ⟨hcg8_23_0, hcg8_23_1, hfg8_23_0, hfg8_23_1⟩ := blk2 BKg8.out) | fail)
        go_wp2
        go_roundw
        case rel => exact ⟨3, by omega, rfl, by rw [E.out]; exact HLS.out, BKgC.out, HB.out⟩
        case measure => simp [intOf]
    · obtain ⟨hcgC_11_0, hcgC_11_1, hcgC_11_2, hcgC_11_3, hcgC_11_4, hcgC_11_5, hcgC_11_6, hcgC_11_7⟩ := blk8 BKgC.out
      have hix := idx78_3
      have hq := HH.out.2.2.2.1
      have hsi := hs 3
      rcases hbi : bt 3 with _ | _
      · rw [hbi] at hq
        have E := Aside0.mk (putL_miss (s := s) hbi)
        clear hbi
        have hq2 : (Go.bits .and .u8 g 8 == 0) = true := by simpa using hq
        go_wp2
        go_roundw
        case rel => exact ⟨4, by omega, rfl, by rw [E.out]; first | exact HLS.out | exact HLS.out.alloc _, by first | exact BKgC.out | exact blk_alloc BKgC.out _, by first | exact HB.out | exact below_alloc HB.out _⟩
        case measure => simp [intOf]
      · rw [hbi] at hq
        have E := Aside0.mk (putL_hit (s := s) hbi)
        have EN := Aside0.mk (putL_length s bt 3)
        clear hbi
        have hq2 : (Go.bits .and .u8 g 8 == 0) = false := by simpa using hq
        go_upto_region 8 with (fail)
        refine atWorld (fun W8 hW8 => ?_)
        have BK8 := Aside0.mk (show W8.heap[wr.heap.size]? = some (.cells #[.int .u8 1, .int .u8 25] 23 (0, 0)) by rw [hW8]; exact heap_alloc_new wr _)
        have mC := Aside0.mk (show W8.heap[gC]? = some (.cells #[.string (s 0), .string (s 1), .string (s 2), .string (s 3), .string (s 4), .string (s 5), .string (s 6), .string (s 7)] 37 (0, 0)) by rw [hW8]; exact blk_alloc BKgC.out _)
        have mL := Aside0.mk (show Lst W8 w.heap.size u6 (putL s bt 3) by rw [hW8]; exact HLS.out.alloc _)
        have mB := Aside0.mk (show Below w.heap.size w W8 by rw [hW8]; exact below_alloc HB.out _)
        clear hW8 BKgC HLS HB
        have BKgC := mC
        have HLS := mL
        have HB := mB
        clear mC mL mB
        generalize wr.heap.size = g8 at BK8 ⊢
        clear hcgC_11_0 hcgC_11_1 hcgC_11_2 hcgC_11_3 hcgC_11_4 hcgC_11_5 hcgC_11_6 hcgC_11_7
        obtain ⟨hcgC_21_0, hcgC_21_1, hcgC_21_2, hcgC_21_3, hcgC_21_4, hcgC_21_5, hcgC_21_6, hcgC_21_7⟩ := blk8 BKgC.out
        obtain ⟨hcg8_21_0, hcg8_21_1, hfg8_21_0, hfg8_21_1⟩ := blk2 BK8.out
        have BKg8 := BK8
        go_region_held3 (fun w' => w'.cell? ⟨g8, 0, none⟩ = some (.int .u8 1) ∧ w'.cell? ⟨g8, 1, none⟩ = some (.int .u8 25) ∧ w'.cell? ⟨gC, 3, none⟩ = some (.string (s 3))) (go_keep)
          (first | (go_at_call 43; refine (prop_element.calls 3 1 25 (s 3) hsi _).mono ?_; rintro _ w5 ⟨A3, c3, A4, c4, rfl, hl3, hC3, hf3, hb⟩; have L0_ := Aside0.mk HLS.out.drew; have mL_ := Aside0.mk (L0_.out.below hb); have HEL := Aside0.mk (El.mk' L0_.out (i := 3) A4 c4 rfl rfl hl3 hC3 hf3); clear L0_ HLS hl3 hC3 hf3; have HLS := mL_; clear mL_; have n_ := Aside0.mk (below_step (by repeat (with_reducible first | exact HB.out | apply below_alloc | apply pw_below_drewN | apply below_drew1 | refine below_set ?_ GEg8.out)) hb); have mgC_ := Aside0.mk (blk_below (g := gC) (o := CO s) (by (with_reducible repeat (first | refine blk_drewN ?_ _ | refine blk_drew ?_ | refine blk_alloc ?_ _)); exact BKgC.out) hb); have mg8_ := Aside0.mk (blk_below (g := g8) (o := .cells #[.int .u8 1, .int .u8 25] 23 (0, 0)) (by (with_reducible repeat (first | refine blk_drewN ?_ _ | refine blk_drew ?_ | refine blk_alloc ?_ _)); exact BKg8.out) hb); clear HB BKgC BKg8; have HB := n_; have BKgC := mgC_; have BKg8 := mg8_; clear n_ mgC_ mg8_; clear hb; obtain ⟨hcgC_22_0, hcgC_22_1, hcgC_22_2, hcgC_22_3, hcgC_22_4, hcgC_22_5, hcgC_22_6, hcgC_22_7⟩ := blk8 BKgC.out; obtain ⟨hcg8_22_0, hcg8_22_1, hfg8_22_0, hfg8_22_1⟩ := blk2 BKg8.out) | (refine Lst.append_step (w0 := w) rfl _ _ rfl rfl (HLS.out.alloc _) (below_alloc HB.out _) (by have := EN.out; omega) (HEL.out.alloc _) rfl (cells5_new _ _ _ _ _ _ _) (by have := below_size HB.out; simp; omega) ?_; intro v1 w6 hl6 hb6 hg6; have nC_ : some gC ≠ (u6 : Value).ownBlock := HLS.out.ne BKgC.out (by decide); have n8_ : some g8 ≠ (u6 : Value).ownBlock := HLS.out.ne BKg8.out (by decide); have mC_ := Aside0.mk (blk_grown (blk_alloc BKgC.out _) hg6 nC_); have m8_ := Aside0.mk (blk_grown (blk_alloc BKg8.out _) hg6 n8_); clear BKgC BKg8 HLS HB HEL nC_ n8_ hg6; have BKgC := mC_; have BKg8 := m8_; have HLS := Aside0.mk hl6; have HB := Aside0.mk hb6; clear mC_ m8_ hl6 hb6; obtain ⟨hcgC_23_0, hcgC_23_1, hcgC_23_2, hcgC_23_3, hcgC_23_4, hcgC_23_5, hcgC_23_6, hcgC_23_7⟩ := blk8 BKgC.out; obtain ⟨hcg8_23_0, hcg8_23_1, hfg8_23_0, hfg8_23_1⟩ := blk2 BKg8.out) | fail)
        go_wp2
        go_roundw
        case rel => exact ⟨4, by omega, rfl, by rw [E.out]; exact HLS.out, BKgC.out, HB.out⟩
        case measure => simp [intOf]
    · obtain ⟨hcgC_11_0, hcgC_11_1, hcgC_11_2, hcgC_11_3, hcgC_11_4, hcgC_11_5, hcgC_11_6, hcgC_11_7⟩ := blk8 BKgC.out
      have hix := idx78_4
      have hq := HH.out.2.2.2.2.1
      have hsi := hs 4
      rcases hbi : bt 4 with _ | _
      · rw [hbi] at hq
        have E := Aside0.mk (putL_miss (s := s) hbi)
        clear hbi
        have hq2 : (Go.bits .and .u8 g 16 == 0) = true := by simpa using hq
        go_wp2
        go_roundw
        case rel => exact ⟨5, by omega, rfl, by rw [E.out]; first | exact HLS.out | exact HLS.out.alloc _, by first | exact BKgC.out | exact blk_alloc BKgC.out _, by first | exact HB.out | exact below_alloc HB.out _⟩
        case measure => simp [intOf]
      · rw [hbi] at hq
        have E := Aside0.mk (putL_hit (s := s) hbi)
        have EN := Aside0.mk (putL_length s bt 4)
        clear hbi
        have hq2 : (Go.bits .and .u8 g 16 == 0) = false := by simpa using hq
        go_upto_region 8 with (fail)
        refine atWorld (fun W8 hW8 => ?_)
        have BK8 := Aside0.mk (show W8.heap[wr.heap.size]? = some (.cells #[.int .u8 1, .int .u8 27] 23 (0, 0)) by rw [hW8]; exact heap_alloc_new wr _)
        have mC := Aside0.mk (show W8.heap[gC]? = some (.cells #[.string (s 0), .string (s 1), .string (s 2), .string (s 3), .string (s 4), .string (s 5), .string (s 6), .string (s 7)] 37 (0, 0)) by rw [hW8]; exact blk_alloc BKgC.out _)
        have mL := Aside0.mk (show Lst W8 w.heap.size u6 (putL s bt 4) by rw [hW8]; exact HLS.out.alloc _)
        have mB := Aside0.mk (show Below w.heap.size w W8 by rw [hW8]; exact below_alloc HB.out _)
        clear hW8 BKgC HLS HB
        have BKgC := mC
        have HLS := mL
        have HB := mB
        clear mC mL mB
        generalize wr.heap.size = g8 at BK8 ⊢
        clear hcgC_11_0 hcgC_11_1 hcgC_11_2 hcgC_11_3 hcgC_11_4 hcgC_11_5 hcgC_11_6 hcgC_11_7
        obtain ⟨hcgC_21_0, hcgC_21_1, hcgC_21_2, hcgC_21_3, hcgC_21_4, hcgC_21_5, hcgC_21_6, hcgC_21_7⟩ := blk8 BKgC.out
        obtain ⟨hcg8_21_0, hcg8_21_1, hfg8_21_0, hfg8_21_1⟩ := blk2 BK8.out
        have BKg8 := BK8
        go_region_held3 (fun w' => w'.cell? ⟨g8, 0, none⟩ = some (.int .u8 1) ∧ w'.cell? ⟨g8, 1, none⟩ = some (.int .u8 27) ∧ w'.cell? ⟨gC, 4, none⟩ = some (.string (s 4))) (go_keep)
          (first | (go_at_call 43; refine (prop_element.calls 4 1 27 (s 4) hsi _).mono ?_; rintro _ w5 ⟨A3, c3, A4, c4, rfl, hl3, hC3, hf3, hb⟩; have L0_ := Aside0.mk HLS.out.drew; have mL_ := Aside0.mk (L0_.out.below hb); have HEL := Aside0.mk (El.mk' L0_.out (i := 4) A4 c4 rfl rfl hl3 hC3 hf3); clear L0_ HLS hl3 hC3 hf3; have HLS := mL_; clear mL_; have n_ := Aside0.mk (below_step (by repeat (with_reducible first | exact HB.out | apply below_alloc | apply pw_below_drewN | apply below_drew1 | refine below_set ?_ GEg8.out)) hb); have mgC_ := Aside0.mk (blk_below (g := gC) (o := CO s) (by (with_reducible repeat (first | refine blk_drewN ?_ _ | refine blk_drew ?_ | refine blk_alloc ?_ _)); exact BKgC.out) hb); have mg8_ := Aside0.mk (blk_below (g := g8) (o := .cells #[.int .u8 1, .int .u8 27] 23 (0, 0)) (by (with_reducible repeat (first | refine blk_drewN ?_ _ | refine blk_drew ?_ | refine blk_alloc ?_ _)); exact BKg8.out) hb); clear HB BKgC BKg8; have HB := n_; have BKgC := mgC_; have BKg8 := mg8_; clear n_ mgC_ mg8_; clear hb; obtain ⟨hcgC_22_0, hcgC_22_1, hcgC_22_2, hcgC_22_3, hcgC_22_4, hcgC_22_5, hcgC_22_6, hcgC_22_7⟩ := blk8 BKgC.out; obtain ⟨hcg8_22_0, hcg8_22_1, hfg8_22_0, hfg8_22_1⟩ := blk2 BKg8.out) | (refine Lst.append_step (w0 := w) rfl _ _ rfl rfl (HLS.out.alloc _) (below_alloc HB.out _) (by have := EN.out; omega) (HEL.out.alloc _) rfl (cells5_new _ _ _ _ _ _ _) (by have := below_size HB.out; simp; omega) ?_; intro v1 w6 hl6 hb6 hg6; have nC_ : some gC ≠ (u6 : Value).ownBlock := HLS.out.ne BKgC.out (by decide); have n8_ : some g8 ≠ (u6 : Value).ownBlock := HLS.out.ne BKg8.out (by decide); have mC_ := Aside0.mk (blk_grown (blk_alloc BKgC.out _) hg6 nC_); have m8_ := Aside0.mk (blk_grown (blk_alloc BKg8.out _) hg6 n8_); clear BKgC BKg8 HLS HB HEL nC_ n8_ hg6; have BKgC := mC_; have BKg8 := m8_; have HLS := Aside0.mk hl6; have HB := Aside0.mk hb6; clear mC_ m8_ hl6 hb6; obtain ⟨hcgC_23_0, hcgC_23_1, hcgC_23_2, hcgC_23_3, hcgC_23_4, hcgC_23_5, hcgC_23_6, hcgC_23_7⟩ := blk8 BKgC.out; obtain ⟨hcg8_23_0, hcg8_23_1, hfg8_23_0, hfg8_23_1⟩ := blk2 BKg8.out) | fail)
        go_wp2
        go_roundw
        case rel => exact ⟨5, by omega, rfl, by rw [E.out]; exact HLS.out, BKgC.out, HB.out⟩
        case measure => simp [intOf]
    · obtain ⟨hcgC_11_0, hcgC_11_1, hcgC_11_2, hcgC_11_3, hcgC_11_4, hcgC_11_5, hcgC_11_6, hcgC_11_7⟩ := blk8 BKgC.out
      have hix := idx78_5
      have hq := HH.out.2.2.2.2.2.1
      have hsi := hs 5
      rcases hbi : bt 5 with _ | _
      · rw [hbi] at hq
        have E := Aside0.mk (putL_miss (s := s) hbi)
        clear hbi
        have hq2 : (Go.bits .and .u8 g 32 == 0) = true := by simpa using hq
        go_wp2
        go_roundw
        case rel => exact ⟨6, by omega, rfl, by rw [E.out]; first | exact HLS.out | exact HLS.out.alloc _, by first | exact BKgC.out | exact blk_alloc BKgC.out _, by first | exact HB.out | exact below_alloc HB.out _⟩
        case measure => simp [intOf]
      · rw [hbi] at hq
        have E := Aside0.mk (putL_hit (s := s) hbi)
        have EN := Aside0.mk (putL_length s bt 5)
        clear hbi
        have hq2 : (Go.bits .and .u8 g 32 == 0) = false := by simpa using hq
        go_upto_region 8 with (fail)
        refine atWorld (fun W8 hW8 => ?_)
        have BK8 := Aside0.mk (show W8.heap[wr.heap.size]? = some (.cells #[.int .u8 1, .int .u8 39] 23 (0, 0)) by rw [hW8]; exact heap_alloc_new wr _)
        have mC := Aside0.mk (show W8.heap[gC]? = some (.cells #[.string (s 0), .string (s 1), .string (s 2), .string (s 3), .string (s 4), .string (s 5), .string (s 6), .string (s 7)] 37 (0, 0)) by rw [hW8]; exact blk_alloc BKgC.out _)
        have mL := Aside0.mk (show Lst W8 w.heap.size u6 (putL s bt 5) by rw [hW8]; exact HLS.out.alloc _)
        have mB := Aside0.mk (show Below w.heap.size w W8 by rw [hW8]; exact below_alloc HB.out _)
        clear hW8 BKgC HLS HB
        have BKgC := mC
        have HLS := mL
        have HB := mB
        clear mC mL mB
        generalize wr.heap.size = g8 at BK8 ⊢
        clear hcgC_11_0 hcgC_11_1 hcgC_11_2 hcgC_11_3 hcgC_11_4 hcgC_11_5 hcgC_11_6 hcgC_11_7
        obtain ⟨hcgC_21_0, hcgC_21_1, hcgC_21_2, hcgC_21_3, hcgC_21_4, hcgC_21_5, hcgC_21_6, hcgC_21_7⟩ := blk8 BKgC.out
        obtain ⟨hcg8_21_0, hcg8_21_1, hfg8_21_0, hfg8_21_1⟩ := blk2 BK8.out
        have BKg8 := BK8
        go_region_held3 (fun w' => w'.cell? ⟨g8, 0, none⟩ = some (.int .u8 1) ∧ w'.cell? ⟨g8, 1, none⟩ = some (.int .u8 39) ∧ w'.cell? ⟨gC, 5, none⟩ = some (.string (s 5))) (go_keep)
          (first | (go_at_call 43; refine (prop_element.calls 5 1 39 (s 5) hsi _).mono ?_; rintro _ w5 ⟨A3, c3, A4, c4, rfl, hl3, hC3, hf3, hb⟩; have L0_ := Aside0.mk HLS.out.drew; have mL_ := Aside0.mk (L0_.out.below hb); have HEL := Aside0.mk (El.mk' L0_.out (i := 5) A4 c4 rfl rfl hl3 hC3 hf3); clear L0_ HLS hl3 hC3 hf3; have HLS := mL_; clear mL_; have n_ := Aside0.mk (below_step (by repeat (with_reducible first | exact HB.out | apply below_alloc | apply pw_below_drewN | apply below_drew1 | refine below_set ?_ GEg8.out)) hb); have mgC_ := Aside0.mk (blk_below (g := gC) (o := CO s) (by (with_reducible repeat (first | refine blk_drewN ?_ _ | refine blk_drew ?_ | refine blk_alloc ?_ _)); exact BKgC.out) hb); have mg8_ := Aside0.mk (blk_below (g := g8) (o := .cells #[.int .u8 1, .int .u8 39] 23 (0, 0)) (by (with_reducible repeat (first | refine blk_drewN ?_ _ | refine blk_drew ?_ | refine blk_alloc ?_ _)); exact BKg8.out) hb); clear HB BKgC BKg8; have HB := n_; have BKgC := mgC_; have BKg8 := mg8_; clear n_ mgC_ mg8_; clear hb; obtain ⟨hcgC_22_0, hcgC_22_1, hcgC_22_2, hcgC_22_3, hcgC_22_4, hcgC_22_5, hcgC_22_6, hcgC_22_7⟩ := blk8 BKgC.out; obtain ⟨hcg8_22_0, hcg8_22_1, hfg8_22_0, hfg8_22_1⟩ := blk2 BKg8.out) | (refine Lst.append_step (w0 := w) rfl _ _ rfl rfl (HLS.out.alloc _) (below_alloc HB.out _) (by have := EN.out; omega) (HEL.out.alloc _) rfl (cells5_new _ _ _ _ _ _ _) (by have := below_size HB.out; simp; omega) ?_; intro v1 w6 hl6 hb6 hg6; have nC_ : some gC ≠ (u6 : Value).ownBlock := HLS.out.ne BKgC.out (by decide); have n8_ : some g8 ≠ (u6 : Value).ownBlock := HLS.out.ne BKg8.out (by decide); have mC_ := Aside0.mk (blk_grown (blk_alloc BKgC.out _) hg6 nC_); have m8_ := Aside0.mk (blk_grown (blk_alloc BKg8.out _) hg6 n8_); clear BKgC BKg8 HLS HB HEL nC_ n8_ hg6; have BKgC := mC_; have BKg8 := m8_; have HLS := Aside0.mk hl6; have HB := Aside0.mk hb6; clear mC_ m8_ hl6 hb6; obtain ⟨hcgC_23_0, hcgC_23_1, hcgC_23_2, hcgC_23_3, hcgC_23_4, hcgC_23_5, hcgC_23_6, hcgC_23_7⟩ := blk8 BKgC.out; obtain ⟨hcg8_23_0, hcg8_23_1, hfg8_23_0, hfg8_23_1⟩ := blk2 BKg8.out) | fail)
        go_wp2
        go_roundw
        case rel => exact ⟨6, by omega, rfl, by rw [E.out]; exact HLS.out, BKgC.out, HB.out⟩
        case measure => simp [intOf]
    · obtain ⟨hcgC_11_0, hcgC_11_1, hcgC_11_2, hcgC_11_3, hcgC_11_4, hcgC_11_5, hcgC_11_6, hcgC_11_7⟩ := blk8 BKgC.out
      have hix := idx78_6
      have hq := HH.out.2.2.2.2.2.2.1
      have hsi := hs 6
      rcases hbi : bt 6 with _ | _
      · rw [hbi] at hq
        have E := Aside0.mk (putL_miss (s := s) hbi)
        clear hbi
        have hq2 : (Go.bits .and .u8 g 64 == 0) = true := by simpa using hq
        go_wp2
        go_roundw
        case rel => exact ⟨7, by omega, rfl, by rw [E.out]; first | exact HLS.out | exact HLS.out.alloc _, by first | exact BKgC.out | exact blk_alloc BKgC.out _, by first | exact HB.out | exact below_alloc HB.out _⟩
        case measure => simp [intOf]
      · rw [hbi] at hq
        have E := Aside0.mk (putL_hit (s := s) hbi)
        have EN := Aside0.mk (putL_length s bt 6)
        clear hbi
        have hq2 : (Go.bits .and .u8 g 64 == 0) = false := by simpa using hq
        go_upto_region 8 with (fail)
        refine atWorld (fun W8 hW8 => ?_)
        have BK8 := Aside0.mk (show W8.heap[wr.heap.size]? = some (.cells #[.int .u8 1, .int .u8 43] 23 (0, 0)) by rw [hW8]; exact heap_alloc_new wr _)
        have mC := Aside0.mk (show W8.heap[gC]? = some (.cells #[.string (s 0), .string (s 1), .string (s 2), .string (s 3), .string (s 4), .string (s 5), .string (s 6), .string (s 7)] 37 (0, 0)) by rw [hW8]; exact blk_alloc BKgC.out _)
        have mL := Aside0.mk (show Lst W8 w.heap.size u6 (putL s bt 6) by rw [hW8]; exact HLS.out.alloc _)
        have mB := Aside0.mk (show Below w.heap.size w W8 by rw [hW8]; exact below_alloc HB.out _)
        clear hW8 BKgC HLS HB
        have BKgC := mC
        have HLS := mL
        have HB := mB
        clear mC mL mB
        generalize wr.heap.size = g8 at BK8 ⊢
        clear hcgC_11_0 hcgC_11_1 hcgC_11_2 hcgC_11_3 hcgC_11_4 hcgC_11_5 hcgC_11_6 hcgC_11_7
        obtain ⟨hcgC_21_0, hcgC_21_1, hcgC_21_2, hcgC_21_3, hcgC_21_4, hcgC_21_5, hcgC_21_6, hcgC_21_7⟩ := blk8 BKgC.out
        obtain ⟨hcg8_21_0, hcg8_21_1, hfg8_21_0, hfg8_21_1⟩ := blk2 BK8.out
        have BKg8 := BK8
        go_region_held3 (fun w' => w'.cell? ⟨g8, 0, none⟩ = some (.int .u8 1) ∧ w'.cell? ⟨g8, 1, none⟩ = some (.int .u8 43) ∧ w'.cell? ⟨gC, 6, none⟩ = some (.string (s 6))) (go_keep)
          (first | (go_at_call 43; refine (prop_element.calls 6 1 43 (s 6) hsi _).mono ?_; rintro _ w5 ⟨A3, c3, A4, c4, rfl, hl3, hC3, hf3, hb⟩; have L0_ := Aside0.mk HLS.out.drew; have mL_ := Aside0.mk (L0_.out.below hb); have HEL := Aside0.mk (El.mk' L0_.out (i := 6) A4 c4 rfl rfl hl3 hC3 hf3); clear L0_ HLS hl3 hC3 hf3; have HLS := mL_; clear mL_; have n_ := Aside0.mk (below_step (by repeat (with_reducible first | exact HB.out | apply below_alloc | apply pw_below_drewN | apply below_drew1 | refine below_set ?_ GEg8.out)) hb); have mgC_ := Aside0.mk (blk_below (g := gC) (o := CO s) (by (with_reducible repeat (first | refine blk_drewN ?_ _ | refine blk_drew ?_ | refine blk_alloc ?_ _)); exact BKgC.out) hb); have mg8_ := Aside0.mk (blk_below (g := g8) (o := .cells #[.int .u8 1, .int .u8 43] 23 (0, 0)) (by (with_reducible repeat (first | refine blk_drewN ?_ _ | refine blk_drew ?_ | refine blk_alloc ?_ _)); exact BKg8.out) hb); clear HB BKgC BKg8; have HB := n_; have BKgC := mgC_; have BKg8 := mg8_; clear n_ mgC_ mg8_; clear hb; obtain ⟨hcgC_22_0, hcgC_22_1, hcgC_22_2, hcgC_22_3, hcgC_22_4, hcgC_22_5, hcgC_22_6, hcgC_22_7⟩ := blk8 BKgC.out; obtain ⟨hcg8_22_0, hcg8_22_1, hfg8_22_0, hfg8_22_1⟩ := blk2 BKg8.out) | (refine Lst.append_step (w0 := w) rfl _ _ rfl rfl (HLS.out.alloc _) (below_alloc HB.out _) (by have := EN.out; omega) (HEL.out.alloc _) rfl (cells5_new _ _ _ _ _ _ _) (by have := below_size HB.out; simp; omega) ?_; intro v1 w6 hl6 hb6 hg6; have nC_ : some gC ≠ (u6 : Value).ownBlock := HLS.out.ne BKgC.out (by decide); have n8_ : some g8 ≠ (u6 : Value).ownBlock := HLS.out.ne BKg8.out (by decide); have mC_ := Aside0.mk (blk_grown (blk_alloc BKgC.out _) hg6 nC_); have m8_ := Aside0.mk (blk_grown (blk_alloc BKg8.out _) hg6 n8_); clear BKgC BKg8 HLS HB HEL nC_ n8_ hg6; have BKgC := mC_; have BKg8 := m8_; have HLS := Aside0.mk hl6; have HB := Aside0.mk hb6; clear mC_ m8_ hl6 hb6; obtain ⟨hcgC_23_0, hcgC_23_1, hcgC_23_2, hcgC_23_3, hcgC_23_4, hcgC_23_5, hcgC_23_6, hcgC_23_7⟩ := blk8 BKgC.out; obtain ⟨hcg8_23_0, hcg8_23_1, hfg8_23_0, hfg8_23_1⟩ := blk2 BKg8.out) | fail)
        go_wp2
        go_roundw
        case rel => exact ⟨7, by omega, rfl, by rw [E.out]; exact HLS.out, BKgC.out, HB.out⟩
        case measure => simp [intOf]
    · obtain ⟨hcgC_11_0, hcgC_11_1, hcgC_11_2, hcgC_11_3, hcgC_11_4, hcgC_11_5, hcgC_11_6, hcgC_11_7⟩ := blk8 BKgC.out
      have hix := idx78_7
      have hq := HH.out.2.2.2.2.2.2.2
      have hsi := hs 7
      rcases hbi : bt 7 with _ | _
      · rw [hbi] at hq
        have E := Aside0.mk (putL_miss (s := s) hbi)
        clear hbi
        have hq2 : (Go.bits .and .u8 g 128 == 0) = true := by simpa using hq
        go_wp2
        go_roundw
        case rel => exact ⟨8, by omega, rfl, by rw [E.out]; first | exact HLS.out | exact HLS.out.alloc _, by first | exact BKgC.out | exact blk_alloc BKgC.out _, by first | exact HB.out | exact below_alloc HB.out _⟩
        case measure => simp [intOf]
      · rw [hbi] at hq
        have E := Aside0.mk (putL_hit (s := s) hbi)
        have EN := Aside0.mk (putL_length s bt 7)
        clear hbi
        have hq2 : (Go.bits .and .u8 g 128 == 0) = false := by simpa using hq
        go_upto_region 8 with (fail)
        refine atWorld (fun W8 hW8 => ?_)
        have BK8 := Aside0.mk (show W8.heap[wr.heap.size]? = some (.cells #[.int .u8 1, .int .u8 60] 23 (0, 0)) by rw [hW8]; exact heap_alloc_new wr _)
        have mC := Aside0.mk (show W8.heap[gC]? = some (.cells #[.string (s 0), .string (s 1), .string (s 2), .string (s 3), .string (s 4), .string (s 5), .string (s 6), .string (s 7)] 37 (0, 0)) by rw [hW8]; exact blk_alloc BKgC.out _)
        have mL := Aside0.mk (show Lst W8 w.heap.size u6 (putL s bt 7) by rw [hW8]; exact HLS.out.alloc _)
        have mB := Aside0.mk (show Below w.heap.size w W8 by rw [hW8]; exact below_alloc HB.out _)
        clear hW8 BKgC HLS HB
        have BKgC := mC
        have HLS := mL
        have HB := mB
        clear mC mL mB
        generalize wr.heap.size = g8 at BK8 ⊢
        clear hcgC_11_0 hcgC_11_1 hcgC_11_2 hcgC_11_3 hcgC_11_4 hcgC_11_5 hcgC_11_6 hcgC_11_7
        obtain ⟨hcgC_21_0, hcgC_21_1, hcgC_21_2, hcgC_21_3, hcgC_21_4, hcgC_21_5, hcgC_21_6, hcgC_21_7⟩ := blk8 BKgC.out
        obtain ⟨hcg8_21_0, hcg8_21_1, hfg8_21_0, hfg8_21_1⟩ := blk2 BK8.out
        have BKg8 := BK8
        go_region_held3 (fun w' => w'.cell? ⟨g8, 0, none⟩ = some (.int .u8 1) ∧ w'.cell? ⟨g8, 1, none⟩ = some (.int .u8 60) ∧ w'.cell? ⟨gC, 7, none⟩ = some (.string (s 7))) (go_keep)
          (first | (go_at_call 43; refine (prop_element.calls 7 1 60 (s 7) hsi _).mono ?_; rintro _ w5 ⟨A3, c3, A4, c4, rfl, hl3, hC3, hf3, hb⟩; have L0_ := Aside0.mk HLS.out.drew; have mL_ := Aside0.mk (L0_.out.below hb); have HEL := Aside0.mk (El.mk' L0_.out (i := 7) A4 c4 rfl rfl hl3 hC3 hf3); clear L0_ HLS hl3 hC3 hf3; have HLS := mL_; clear mL_; have n_ := Aside0.mk (below_step (by repeat (with_reducible first | exact HB.out | apply below_alloc | apply pw_below_drewN | apply below_drew1 | refine below_set ?_ GEg8.out)) hb); have mgC_ := Aside0.mk (blk_below (g := gC) (o := CO s) (by (with_reducible repeat (first | refine blk_drewN ?_ _ | refine blk_drew ?_ | refine blk_alloc ?_ _)); exact BKgC.out) hb); have mg8_ := Aside0.mk (blk_below (g := g8) (o := .cells #[.int .u8 1, .int .u8 60] 23 (0, 0)) (by (with_reducible repeat (first | refine blk_drewN ?_ _ | refine blk_drew ?_ | refine blk_alloc ?_ _)); exact BKg8.out) hb); clear HB BKgC BKg8; have HB := n_; have BKgC := mgC_; have BKg8 := mg8_; clear n_ mgC_ mg8_; clear hb; obtain ⟨hcgC_22_0, hcgC_22_1, hcgC_22_2, hcgC_22_3, hcgC_22_4, hcgC_22_5, hcgC_22_6, hcgC_22_7⟩ := blk8 BKgC.out; obtain ⟨hcg8_22_0, hcg8_22_1, hfg8_22_0, hfg8_22_1⟩ := blk2 BKg8.out) | (refine Lst.append_step (w0 := w) rfl _ _ rfl rfl (HLS.out.alloc _) (below_alloc HB.out _) (by have := EN.out; omega) (HEL.out.alloc _) rfl (cells5_new _ _ _ _ _ _ _) (by have := below_size HB.out; simp; omega) ?_; intro v1 w6 hl6 hb6 hg6; have nC_ : some gC ≠ (u6 : Value).ownBlock := HLS.out.ne BKgC.out (by decide); have n8_ : some g8 ≠ (u6 : Value).ownBlock := HLS.out.ne BKg8.out (by decide); have mC_ := Aside0.mk (blk_grown (blk_alloc BKgC.out _) hg6 nC_); have m8_ := Aside0.mk (blk_grown (blk_alloc BKg8.out _) hg6 n8_); clear BKgC BKg8 HLS HB HEL nC_ n8_ hg6; have BKgC := mC_; have BKg8 := m8_; have HLS := Aside0.mk hl6; have HB := Aside0.mk hb6; clear mC_ m8_ hl6 hb6; obtain ⟨hcgC_23_0, hcgC_23_1, hcgC_23_2, hcgC_23_3, hcgC_23_4, hcgC_23_5, hcgC_23_6, hcgC_23_7⟩ := blk8 BKgC.out; obtain ⟨hcg8_23_0, hcg8_23_1, hfg8_23_0, hfg8_23_1⟩ := blk2 BKg8.out) | fail)
        go_wp2
        go_roundw
        case rel => exact ⟨8, by omega, rfl, by rw [E.out]; exact HLS.out, BKgC.out, HB.out⟩
        case measure => simp [intOf]
    · obtain ⟨hcgC_11_0, hcgC_11_1, hcgC_11_2, hcgC_11_3, hcgC_11_4, hcgC_11_5, hcgC_11_6, hcgC_11_7⟩ := blk8 BKgC.out
      go_wp2
      go_ret2
      exact ⟨_, rfl, HLS.out, HB.out⟩
set_option maxHeartbeats 8000000 in
set_option maxRecDepth 100000 in
theorem prop_Marks.calls (k : Nat) (g : Int) (bt : Nat → Bool) (w : World) (hI : utf_Is.f k [] = some true) (h0 : (Go.bits .and .u8 g 1 != 0) = bt 0) (h1 : (Go.bits .and .u8 g 2 != 0) = bt 1) (h2 : (Go.bits .and .u8 g 4 != 0) = bt 2) (h3 : (Go.bits .and .u8 g 8 != 0) = bt 3) (h4 : (Go.bits .and .u8 g 16 != 0) = bt 4) (h5 : (Go.bits .and .u8 g 32 != 0) = bt 5) (h6 : (Go.bits .and .u8 g 64 != 0) = bt 6) (h7 : (Go.bits .and .u8 g 128 != 0) = bt 7) :
    Calls Try.prog 26 #[.int .u8 g] w fun e w' => ∃ v, e = .returned v ∧ Lst w' w.heap.size v (putL (fun _ => ⟨#[]⟩) bt 8) ∧ Below w.heap.size w w' := by
  have hu37 := Try.underlying37
  have HB := Aside0.mk (Below.refl w.heap.size w)
  have hm : mayB (fun _ => ⟨#[]⟩) (fun _ => true) = true := by decide
  have hp := fun W => prop_Put.good k g (fun _ => ⟨#[]⟩) (fun _ => true) bt W (fun _ => by decide) (fun _ _ _ => hI) hm h0 h1 h2 h3 h4 h5 h6 h7
  clear hI hm h0 h1 h2 h3 h4 h5 h6 h7
  go_enter Try.func26, Try.ntmps26
  go_wp2_with (go_at_call 21; refine (hp _).mono ?_; rintro _ w2 ⟨v, rfl, hl, hb⟩; have HL := Aside0.mk hl; have HB2 := Aside0.mk hb; clear hl hb)
  go_ret
  exact ⟨v, rfl, HL.out, HB2.out⟩
end Go.Proofs.Ytnmbhhkdiegemaa.K
