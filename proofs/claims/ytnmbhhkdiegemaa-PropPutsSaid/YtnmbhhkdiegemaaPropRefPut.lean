/- The walk of the document's Put: the elements of a mask. Conditions: those that each theorem names. -/
import Derived.Test.YtnmbhhkdiegemaaPropPut
namespace Go.Proofs.Ytnmbhhkdiegemaa.K
open Go.RowKit Go.Proofs.YtnmbhhkdiegemaaW.PrintWords Go.Proofs.YtnmbhhkdiegemaaW.PrintLast Go.Proofs.YtnmbhhkdiegemaaW.PrintMore
attribute [local go_sem] max2_int min2_int max_two min_two max_three min_three max_four min_four
set_option linter.unusedVariables false
set_option linter.unusedSimpArgs false

set_option maxHeartbeats 8000000 in
set_option maxRecDepth 100000 in
theorem cardexref14_Put.bad (k : Nat) (g : Int) (s : Nat → ByteArray) (b : Nat → Bool) (bt : Nat → Bool) (w : World) (hs : ∀ i, (s i).size ≤ 9223372036854775807) (hI : ∀ i, i < 7 → (s i).size ≤ 32 → cardexref02_Is.f k (bytesOf (s i)) = some (b i)) (hm : mayB s b = false) :
    Calls Try.prog 22 #[.int .u8 g, .agg #[.string (s 0), .string (s 1), .string (s 2), .string (s 3), .string (s 4), .string (s 5), .string (s 6), .string (s 7)]] w fun e w' => e = .returned (.tuple #[.slice none 0 0, .int .i64 2]) ∧ Below w.heap.size w w' := by
  have hu37 := Try.underlying37
  have HB := Aside0.mk (Below.refl w.heap.size w)
  have HI := Aside0.mk hI
  have HM := Aside0.mk hm
  clear hI hm
  go_enter Try.func22, Try.ntmps22
  go_wp2_with (first | ((with_reducible refine gate_dst (N := 3) rfl ?_); refine box_event ?hg (N := 3) ?hd (cs := #[.string (s 0), .string (s 1), .string (s 2), .string (s 3), .string (s 4), .string (s 5), .string (s 6), .string (s 7)]) (t := 37) ?hr ?_; (case hd => rfl); (case hg => rfl); (case hr => first | (go_simp; done) | (go_simp; rfl)); intro gC hg w1 hbox hb; have ge_ := Aside0.mk ((by rw [hg]; exact below_size (by repeat (with_reducible first | exact HB.out | apply below_alloc | apply pw_below_drewN | apply below_drew1))) : w.heap.size ≤ gC); have n_ := Aside0.mk (below_step (by repeat (with_reducible first | exact HB.out | apply below_alloc | apply pw_below_drewN | apply below_drew1)) hb); clear HB; have HB := n_; clear n_; have BKgC := Aside0.mk hbox; have GEgC := ge_; clear ge_ hbox hg hb; obtain ⟨hcgC_1_0, hcgC_1_1, hcgC_1_2, hcgC_1_3, hcgC_1_4, hcgC_1_5, hcgC_1_6, hcgC_1_7⟩ := blk8 BKgC.out) | ((with_reducible refine gate_callee (f := 24) rfl ?_); (with_reducible refine gate_dst (N := 10) rfl ?_); (try (refine gate_guard (by rfl) ?_; dsimp only)); refine goesL_ (some 10) rfl rfl Try.func24 (by kernel_rfl) rfl #[.agg #[.string (s 0), .string (s 1), .string (s 2), .string (s 3), .string (s 4), .string (s 5), .string (s 6), .string (s 7)]] rfl (by first | rfl | go_simp) ?_; refine (cardexref14_May.calls k s b _ hs HI.out).mono ?_; rintro _ w2 ⟨rfl, hb⟩; have n_ := Aside0.mk (below_step (by repeat (with_reducible first | exact HB.out | apply below_alloc | apply pw_below_drewN | apply below_drew1)) hb); have mgC_ := Aside0.mk (blk_below (g := gC) (o := CO s) (by (with_reducible repeat (first | refine blk_drewN ?_ _ | refine blk_drew ?_ | refine blk_alloc ?_ _)); exact BKgC.out) hb); clear HB BKgC; have HB := n_; have BKgC := mgC_; clear n_ mgC_; clear hb; have hm := HM.out; obtain ⟨hcgC_2_0, hcgC_2_1, hcgC_2_2, hcgC_2_3, hcgC_2_4, hcgC_2_5, hcgC_2_6, hcgC_2_7⟩ := blk8 BKgC.out; refine ⟨_, rfl, ?_⟩))
  go_ret2
  exact ⟨rfl, HB.out⟩
set_option maxHeartbeats 8000000 in
set_option maxRecDepth 100000 in
theorem cardexref14_Put.good (k : Nat) (g : Int) (s : Nat → ByteArray) (b : Nat → Bool) (bt : Nat → Bool) (w : World) (hs : ∀ i, (s i).size ≤ 9223372036854775807) (hI : ∀ i, i < 7 → (s i).size ≤ 32 → cardexref02_Is.f k (bytesOf (s i)) = some (b i)) (hm : mayB s b = true) (t0 : Aside0 (cardexref14_Tag.f k 0 = some (1, 30, true))) (t1 : Aside0 (cardexref14_Tag.f k 1 = some (1, 31, true))) (t2 : Aside0 (cardexref14_Tag.f k 2 = some (1, 41, true))) (t3 : Aside0 (cardexref14_Tag.f k 3 = some (1, 25, true))) (t4 : Aside0 (cardexref14_Tag.f k 4 = some (1, 27, true))) (t5 : Aside0 (cardexref14_Tag.f k 5 = some (1, 39, true))) (t6 : Aside0 (cardexref14_Tag.f k 6 = some (1, 43, true))) (t7 : Aside0 (cardexref14_Tag.f k 7 = some (1, 60, true))) (h0 : (Go.bits .and .u8 g 1 == 1) = bt 0) (h1 : (Go.bits .and .u8 (g / 2) 1 == 1) = bt 1) (h2 : (Go.bits .and .u8 (g / 4) 1 == 1) = bt 2) (h3 : (Go.bits .and .u8 (g / 8) 1 == 1) = bt 3) (h4 : (Go.bits .and .u8 (g / 16) 1 == 1) = bt 4) (h5 : (Go.bits .and .u8 (g / 32) 1 == 1) = bt 5) (h6 : (Go.bits .and .u8 (g / 64) 1 == 1) = bt 6) (h7 : (Go.bits .and .u8 (g / 128) 1 == 1) = bt 7) :
    Calls Try.prog 22 #[.int .u8 g, .agg #[.string (s 0), .string (s 1), .string (s 2), .string (s 3), .string (s 4), .string (s 5), .string (s 6), .string (s 7)]] w fun e w' => ∃ v, e = .returned (.tuple #[v, .int .i64 0]) ∧ Lst w' w.heap.size v (putL s bt 8) ∧ Below w.heap.size w w' := by
  have hu37 := Try.underlying37
  have hu23 := Try.underlying23
  have hu83 := Try.underlying83
  have hu78 := Try.underlying78
  have hu39 := Try.underlying39
  have HB := Aside0.mk (Below.refl w.heap.size w)
  have HI := Aside0.mk hI
  have HM := Aside0.mk hm
  have HH := Aside0.mk (show (Go.bits .and .u8 g 1 == 1) = bt 0 ∧ (Go.bits .and .u8 (g / 2) 1 == 1) = bt 1 ∧ (Go.bits .and .u8 (g / 4) 1 == 1) = bt 2 ∧ (Go.bits .and .u8 (g / 8) 1 == 1) = bt 3 ∧ (Go.bits .and .u8 (g / 16) 1 == 1) = bt 4 ∧ (Go.bits .and .u8 (g / 32) 1 == 1) = bt 5 ∧ (Go.bits .and .u8 (g / 64) 1 == 1) = bt 6 ∧ (Go.bits .and .u8 (g / 128) 1 == 1) = bt 7 from ⟨h0, h1, h2, h3, h4, h5, h6, h7⟩)
  clear hI hm h0 h1 h2 h3 h4 h5 h6 h7
  go_enter Try.func22, Try.ntmps22
  go_wp2_with (first | ((with_reducible refine gate_dst (N := 3) rfl ?_); refine box_event ?hg (N := 3) ?hd (cs := #[.string (s 0), .string (s 1), .string (s 2), .string (s 3), .string (s 4), .string (s 5), .string (s 6), .string (s 7)]) (t := 37) ?hr ?_; (case hd => rfl); (case hg => rfl); (case hr => first | (go_simp; done) | (go_simp; rfl)); intro gC hg w1 hbox hb; have ge_ := Aside0.mk ((by rw [hg]; exact below_size (by repeat (with_reducible first | exact HB.out | apply below_alloc | apply pw_below_drewN | apply below_drew1))) : w.heap.size ≤ gC); have n_ := Aside0.mk (below_step (by repeat (with_reducible first | exact HB.out | apply below_alloc | apply pw_below_drewN | apply below_drew1)) hb); clear HB; have HB := n_; clear n_; have BKgC := Aside0.mk hbox; have GEgC := ge_; clear ge_ hbox hg hb; obtain ⟨hcgC_1_0, hcgC_1_1, hcgC_1_2, hcgC_1_3, hcgC_1_4, hcgC_1_5, hcgC_1_6, hcgC_1_7⟩ := blk8 BKgC.out) | ((with_reducible refine gate_callee (f := 24) rfl ?_); (with_reducible refine gate_dst (N := 10) rfl ?_); (try (refine gate_guard (by rfl) ?_; dsimp only)); refine goesL_ (some 10) rfl rfl Try.func24 (by kernel_rfl) rfl #[.agg #[.string (s 0), .string (s 1), .string (s 2), .string (s 3), .string (s 4), .string (s 5), .string (s 6), .string (s 7)]] rfl (by first | rfl | go_simp) ?_; refine (cardexref14_May.calls k s b _ hs HI.out).mono ?_; rintro _ w2 ⟨rfl, hb⟩; have n_ := Aside0.mk (below_step (by repeat (with_reducible first | exact HB.out | apply below_alloc | apply pw_below_drewN | apply below_drew1)) hb); have mgC_ := Aside0.mk (blk_below (g := gC) (o := CO s) (by (with_reducible repeat (first | refine blk_drewN ?_ _ | refine blk_drew ?_ | refine blk_alloc ?_ _)); exact BKgC.out) hb); clear HB BKgC; have HB := n_; have BKgC := mgC_; clear n_ mgC_; clear hb; have hm := HM.out; obtain ⟨hcgC_2_0, hcgC_2_1, hcgC_2_2, hcgC_2_3, hcgC_2_4, hcgC_2_5, hcgC_2_6, hcgC_2_7⟩ := blk8 BKgC.out; refine ⟨_, rfl, ?_⟩))
  have H0 := Aside0.mk (show ∃ i : Nat, i ≤ 8 ∧ (Value.int .i64 0) = .int .i64 i ∧ Lst w2 w.heap.size (.slice none 0 0) (putL s bt i) ∧ w2.heap[gC]? = some (.cells #[.string (s 0), .string (s 1), .string (s 2), .string (s 3), .string (s 4), .string (s 5), .string (s 6), .string (s 7)] 37 (0, 0)) ∧ Below w.heap.size w w2 from ⟨0, by omega, rfl, Lst.nil _ _, BKgC.out, HB.out⟩)
  clear BKgC HB
  clear hcgC_1_0 hcgC_1_1 hcgC_1_2 hcgC_1_3 hcgC_1_4 hcgC_1_5 hcgC_1_6 hcgC_1_7 hcgC_2_0 hcgC_2_1 hcgC_2_2 hcgC_2_3 hcgC_2_4 hcgC_2_5 hcgC_2_6 hcgC_2_7
  go_loopw [6, 7] (fun u v wr => ∃ i : Nat, i ≤ 8 ∧ v = .int .i64 i ∧ Lst wr w.heap.size u (putL s bt i) ∧ wr.heap[gC]? = some (.cells #[.string (s 0), .string (s 1), .string (s 2), .string (s 3), .string (s 4), .string (s 5), .string (s 6), .string (s 7)] 37 (0, 0)) ∧ Below w.heap.size w wr) (fun _ v _ => 8 - (intOf v).toNat)
  case atStart => exact H0.out
  case round =>
    obtain ⟨i, hi, rfl, hl0, h0, hb0⟩ := hrel
    have BKgC := Aside0.mk h0
    have HB := Aside0.mk hb0
    have HLS := Aside0.mk hl0
    clear h0 hb0 H0 hl0
    rcases (show i = 0 ∨ i = 1 ∨ i = 2 ∨ i = 3 ∨ i = 4 ∨ i = 5 ∨ i = 6 ∨ i = 7 ∨ i = 8 by omega) with rfl | rfl | rfl | rfl | rfl | rfl | rfl | rfl | rfl
    · obtain ⟨hcgC_11_0, hcgC_11_1, hcgC_11_2, hcgC_11_3, hcgC_11_4, hcgC_11_5, hcgC_11_6, hcgC_11_7⟩ := blk8 BKgC.out
      have hq := HH.out.1
      have hsi := hs 0
      rcases hbi : bt 0 with _ | _
      · rw [hbi] at hq
        have E := Aside0.mk (putL_miss (s := s) hbi)
        clear hbi
        go_wp2
        go_roundw
        case rel => exact ⟨1, by omega, rfl, by rw [E.out]; first | exact HLS.out | exact HLS.out.alloc _, by first | exact BKgC.out | exact blk_alloc BKgC.out _, by first | exact HB.out | exact below_alloc HB.out _⟩
        case measure => simp [intOf]
      · rw [hbi] at hq
        have E := Aside0.mk (putL_hit (s := s) hbi)
        have EN := Aside0.mk (putL_length s bt 0)
        clear hbi
        go_wp2_with (first | ((with_reducible refine gate_callee (f := 44) rfl ?_); (with_reducible refine gate_dst (N := 26) rfl ?_); (try (refine gate_guard (by rfl) ?_; dsimp only)); refine goesL_ (some 26) rfl rfl Try.func44 (by kernel_rfl) rfl #[.int .i64 0, .string (s 0)] rfl (by first | rfl | go_simp) ?_; refine (cardexref14_element.calls k 0 1 30 (s 0) hsi t0 _).mono ?_; rintro _ w5 ⟨A3, c3, A4, c4, rfl, hl3, hC3, hf3, hb⟩; have n_ := Aside0.mk (below_step (by repeat (with_reducible first | exact HB.out | apply below_alloc | apply pw_below_drewN | apply below_drew1)) hb); have mgC_ := Aside0.mk (blk_below (g := gC) (o := CO s) (by (with_reducible repeat (first | refine blk_drewN ?_ _ | refine blk_drew ?_ | refine blk_alloc ?_ _)); exact BKgC.out) hb); clear HB BKgC; have HB := n_; have BKgC := mgC_; clear n_ mgC_; have L0_ := Aside0.mk HLS.out; have mL_ := Aside0.mk (L0_.out.below hb); have HEL := Aside0.mk (El.mk' L0_.out (i := 0) A4 c4 rfl rfl hl3 hC3 hf3); clear L0_ HLS hl3 hC3 hf3 hb; have HLS := mL_; clear mL_; obtain ⟨hcgC_21_0, hcgC_21_1, hcgC_21_2, hcgC_21_3, hcgC_21_4, hcgC_21_5, hcgC_21_6, hcgC_21_7⟩ := blk8 BKgC.out; refine ⟨_, rfl, ?_⟩) | (at_builtin; refine Lst.append_op (w0 := w) rfl _ _ rfl rfl ((HLS.out.alloc _).alloc _) (below_alloc (below_alloc HB.out _) _) (by have := EN.out; omega) ((HEL.out.alloc _).alloc _) rfl (cells5_new2 _ _ _ _ _ _ _ _) (by have := below_size HB.out; simp; omega) ?_; intro v1 w6 hl6 hb6 hg6; have nC_ : some gC ≠ (u6 : Value).ownBlock := HLS.out.ne BKgC.out (by decide); have mC_ := Aside0.mk (blk_grown (blk_alloc (blk_alloc BKgC.out _) _) hg6 nC_); clear BKgC HLS HB HEL nC_ hg6; have BKgC := mC_; have HLS := Aside0.mk hl6; have HB := Aside0.mk hb6; clear mC_ hl6 hb6))
        go_roundw
        case rel => exact ⟨1, by omega, rfl, by rw [E.out]; exact HLS.out, BKgC.out, HB.out⟩
        case measure => simp [intOf]
    · obtain ⟨hcgC_11_0, hcgC_11_1, hcgC_11_2, hcgC_11_3, hcgC_11_4, hcgC_11_5, hcgC_11_6, hcgC_11_7⟩ := blk8 BKgC.out
      have hq := HH.out.2.1
      have hsi := hs 1
      rcases hbi : bt 1 with _ | _
      · rw [hbi] at hq
        have E := Aside0.mk (putL_miss (s := s) hbi)
        clear hbi
        go_wp2
        go_roundw
        case rel => exact ⟨2, by omega, rfl, by rw [E.out]; first | exact HLS.out | exact HLS.out.alloc _, by first | exact BKgC.out | exact blk_alloc BKgC.out _, by first | exact HB.out | exact below_alloc HB.out _⟩
        case measure => simp [intOf]
      · rw [hbi] at hq
        have E := Aside0.mk (putL_hit (s := s) hbi)
        have EN := Aside0.mk (putL_length s bt 1)
        clear hbi
        go_wp2_with (first | ((with_reducible refine gate_callee (f := 44) rfl ?_); (with_reducible refine gate_dst (N := 26) rfl ?_); (try (refine gate_guard (by rfl) ?_; dsimp only)); refine goesL_ (some 26) rfl rfl Try.func44 (by kernel_rfl) rfl #[.int .i64 1, .string (s 1)] rfl (by first | rfl | go_simp) ?_; refine (cardexref14_element.calls k 1 1 31 (s 1) hsi t1 _).mono ?_; rintro _ w5 ⟨A3, c3, A4, c4, rfl, hl3, hC3, hf3, hb⟩; have n_ := Aside0.mk (below_step (by repeat (with_reducible first | exact HB.out | apply below_alloc | apply pw_below_drewN | apply below_drew1)) hb); have mgC_ := Aside0.mk (blk_below (g := gC) (o := CO s) (by (with_reducible repeat (first | refine blk_drewN ?_ _ | refine blk_drew ?_ | refine blk_alloc ?_ _)); exact BKgC.out) hb); clear HB BKgC; have HB := n_; have BKgC := mgC_; clear n_ mgC_; have L0_ := Aside0.mk HLS.out; have mL_ := Aside0.mk (L0_.out.below hb); have HEL := Aside0.mk (El.mk' L0_.out (i := 1) A4 c4 rfl rfl hl3 hC3 hf3); clear L0_ HLS hl3 hC3 hf3 hb; have HLS := mL_; clear mL_; obtain ⟨hcgC_21_0, hcgC_21_1, hcgC_21_2, hcgC_21_3, hcgC_21_4, hcgC_21_5, hcgC_21_6, hcgC_21_7⟩ := blk8 BKgC.out; refine ⟨_, rfl, ?_⟩) | (at_builtin; refine Lst.append_op (w0 := w) rfl _ _ rfl rfl ((HLS.out.alloc _).alloc _) (below_alloc (below_alloc HB.out _) _) (by have := EN.out; omega) ((HEL.out.alloc _).alloc _) rfl (cells5_new2 _ _ _ _ _ _ _ _) (by have := below_size HB.out; simp; omega) ?_; intro v1 w6 hl6 hb6 hg6; have nC_ : some gC ≠ (u6 : Value).ownBlock := HLS.out.ne BKgC.out (by decide); have mC_ := Aside0.mk (blk_grown (blk_alloc (blk_alloc BKgC.out _) _) hg6 nC_); clear BKgC HLS HB HEL nC_ hg6; have BKgC := mC_; have HLS := Aside0.mk hl6; have HB := Aside0.mk hb6; clear mC_ hl6 hb6))
        go_roundw
        case rel => exact ⟨2, by omega, rfl, by rw [E.out]; exact HLS.out, BKgC.out, HB.out⟩
        case measure => simp [intOf]
    · obtain ⟨hcgC_11_0, hcgC_11_1, hcgC_11_2, hcgC_11_3, hcgC_11_4, hcgC_11_5, hcgC_11_6, hcgC_11_7⟩ := blk8 BKgC.out
      have hq := HH.out.2.2.1
      have hsi := hs 2
      rcases hbi : bt 2 with _ | _
      · rw [hbi] at hq
        have E := Aside0.mk (putL_miss (s := s) hbi)
        clear hbi
        go_wp2
        go_roundw
        case rel => exact ⟨3, by omega, rfl, by rw [E.out]; first | exact HLS.out | exact HLS.out.alloc _, by first | exact BKgC.out | exact blk_alloc BKgC.out _, by first | exact HB.out | exact below_alloc HB.out _⟩
        case measure => simp [intOf]
      · rw [hbi] at hq
        have E := Aside0.mk (putL_hit (s := s) hbi)
        have EN := Aside0.mk (putL_length s bt 2)
        clear hbi
        go_wp2_with (first | ((with_reducible refine gate_callee (f := 44) rfl ?_); (with_reducible refine gate_dst (N := 26) rfl ?_); (try (refine gate_guard (by rfl) ?_; dsimp only)); refine goesL_ (some 26) rfl rfl Try.func44 (by kernel_rfl) rfl #[.int .i64 2, .string (s 2)] rfl (by first | rfl | go_simp) ?_; refine (cardexref14_element.calls k 2 1 41 (s 2) hsi t2 _).mono ?_; rintro _ w5 ⟨A3, c3, A4, c4, rfl, hl3, hC3, hf3, hb⟩; have n_ := Aside0.mk (below_step (by repeat (with_reducible first | exact HB.out | apply below_alloc | apply pw_below_drewN | apply below_drew1)) hb); have mgC_ := Aside0.mk (blk_below (g := gC) (o := CO s) (by (with_reducible repeat (first | refine blk_drewN ?_ _ | refine blk_drew ?_ | refine blk_alloc ?_ _)); exact BKgC.out) hb); clear HB BKgC; have HB := n_; have BKgC := mgC_; clear n_ mgC_; have L0_ := Aside0.mk HLS.out; have mL_ := Aside0.mk (L0_.out.below hb); have HEL := Aside0.mk (El.mk' L0_.out (i := 2) A4 c4 rfl rfl hl3 hC3 hf3); clear L0_ HLS hl3 hC3 hf3 hb; have HLS := mL_; clear mL_; obtain ⟨hcgC_21_0, hcgC_21_1, hcgC_21_2, hcgC_21_3, hcgC_21_4, hcgC_21_5, hcgC_21_6, hcgC_21_7⟩ := blk8 BKgC.out; refine ⟨_, rfl, ?_⟩) | (at_builtin; refine Lst.append_op (w0 := w) rfl _ _ rfl rfl ((HLS.out.alloc _).alloc _) (below_alloc (below_alloc HB.out _) _) (by have := EN.out; omega) ((HEL.out.alloc _).alloc _) rfl (cells5_new2 _ _ _ _ _ _ _ _) (by have := below_size HB.out; simp; omega) ?_; intro v1 w6 hl6 hb6 hg6; have nC_ : some gC ≠ (u6 : Value).ownBlock := HLS.out.ne BKgC.out (by decide); have mC_ := Aside0.mk (blk_grown (blk_alloc (blk_alloc BKgC.out _) _) hg6 nC_); clear BKgC HLS HB HEL nC_ hg6; have BKgC := mC_; have HLS := Aside0.mk hl6; have HB := Aside0.mk hb6; clear mC_ hl6 hb6))
        go_roundw
        case rel => exact ⟨3, by omega, rfl, by rw [E.out]; exact HLS.out, BKgC.out, HB.out⟩
        case measure => simp [intOf]
    · obtain ⟨hcgC_11_0, hcgC_11_1, hcgC_11_2, hcgC_11_3, hcgC_11_4, hcgC_11_5, hcgC_11_6, hcgC_11_7⟩ := blk8 BKgC.out
      have hq := HH.out.2.2.2.1
      have hsi := hs 3
      rcases hbi : bt 3 with _ | _
      · rw [hbi] at hq
        have E := Aside0.mk (putL_miss (s := s) hbi)
        clear hbi
        go_wp2
        go_roundw
        case rel => exact ⟨4, by omega, rfl, by rw [E.out]; first | exact HLS.out | exact HLS.out.alloc _, by first | exact BKgC.out | exact blk_alloc BKgC.out _, by first | exact HB.out | exact below_alloc HB.out _⟩
        case measure => simp [intOf]
      · rw [hbi] at hq
        have E := Aside0.mk (putL_hit (s := s) hbi)
        have EN := Aside0.mk (putL_length s bt 3)
        clear hbi
        go_wp2_with (first | ((with_reducible refine gate_callee (f := 44) rfl ?_); (with_reducible refine gate_dst (N := 26) rfl ?_); (try (refine gate_guard (by rfl) ?_; dsimp only)); refine goesL_ (some 26) rfl rfl Try.func44 (by kernel_rfl) rfl #[.int .i64 3, .string (s 3)] rfl (by first | rfl | go_simp) ?_; refine (cardexref14_element.calls k 3 1 25 (s 3) hsi t3 _).mono ?_; rintro _ w5 ⟨A3, c3, A4, c4, rfl, hl3, hC3, hf3, hb⟩; have n_ := Aside0.mk (below_step (by repeat (with_reducible first | exact HB.out | apply below_alloc | apply pw_below_drewN | apply below_drew1)) hb); have mgC_ := Aside0.mk (blk_below (g := gC) (o := CO s) (by (with_reducible repeat (first | refine blk_drewN ?_ _ | refine blk_drew ?_ | refine blk_alloc ?_ _)); exact BKgC.out) hb); clear HB BKgC; have HB := n_; have BKgC := mgC_; clear n_ mgC_; have L0_ := Aside0.mk HLS.out; have mL_ := Aside0.mk (L0_.out.below hb); have HEL := Aside0.mk (El.mk' L0_.out (i := 3) A4 c4 rfl rfl hl3 hC3 hf3); clear L0_ HLS hl3 hC3 hf3 hb; have HLS := mL_; clear mL_; obtain ⟨hcgC_21_0, hcgC_21_1, hcgC_21_2, hcgC_21_3, hcgC_21_4, hcgC_21_5, hcgC_21_6, hcgC_21_7⟩ := blk8 BKgC.out; refine ⟨_, rfl, ?_⟩) | (at_builtin; refine Lst.append_op (w0 := w) rfl _ _ rfl rfl ((HLS.out.alloc _).alloc _) (below_alloc (below_alloc HB.out _) _) (by have := EN.out; omega) ((HEL.out.alloc _).alloc _) rfl (cells5_new2 _ _ _ _ _ _ _ _) (by have := below_size HB.out; simp; omega) ?_; intro v1 w6 hl6 hb6 hg6; have nC_ : some gC ≠ (u6 : Value).ownBlock := HLS.out.ne BKgC.out (by decide); have mC_ := Aside0.mk (blk_grown (blk_alloc (blk_alloc BKgC.out _) _) hg6 nC_); clear BKgC HLS HB HEL nC_ hg6; have BKgC := mC_; have HLS := Aside0.mk hl6; have HB := Aside0.mk hb6; clear mC_ hl6 hb6))
        go_roundw
        case rel => exact ⟨4, by omega, rfl, by rw [E.out]; exact HLS.out, BKgC.out, HB.out⟩
        case measure => simp [intOf]
    · obtain ⟨hcgC_11_0, hcgC_11_1, hcgC_11_2, hcgC_11_3, hcgC_11_4, hcgC_11_5, hcgC_11_6, hcgC_11_7⟩ := blk8 BKgC.out
      have hq := HH.out.2.2.2.2.1
      have hsi := hs 4
      rcases hbi : bt 4 with _ | _
      · rw [hbi] at hq
        have E := Aside0.mk (putL_miss (s := s) hbi)
        clear hbi
        go_wp2
        go_roundw
        case rel => exact ⟨5, by omega, rfl, by rw [E.out]; first | exact HLS.out | exact HLS.out.alloc _, by first | exact BKgC.out | exact blk_alloc BKgC.out _, by first | exact HB.out | exact below_alloc HB.out _⟩
        case measure => simp [intOf]
      · rw [hbi] at hq
        have E := Aside0.mk (putL_hit (s := s) hbi)
        have EN := Aside0.mk (putL_length s bt 4)
        clear hbi
        go_wp2_with (first | ((with_reducible refine gate_callee (f := 44) rfl ?_); (with_reducible refine gate_dst (N := 26) rfl ?_); (try (refine gate_guard (by rfl) ?_; dsimp only)); refine goesL_ (some 26) rfl rfl Try.func44 (by kernel_rfl) rfl #[.int .i64 4, .string (s 4)] rfl (by first | rfl | go_simp) ?_; refine (cardexref14_element.calls k 4 1 27 (s 4) hsi t4 _).mono ?_; rintro _ w5 ⟨A3, c3, A4, c4, rfl, hl3, hC3, hf3, hb⟩; have n_ := Aside0.mk (below_step (by repeat (with_reducible first | exact HB.out | apply below_alloc | apply pw_below_drewN | apply below_drew1)) hb); have mgC_ := Aside0.mk (blk_below (g := gC) (o := CO s) (by (with_reducible repeat (first | refine blk_drewN ?_ _ | refine blk_drew ?_ | refine blk_alloc ?_ _)); exact BKgC.out) hb); clear HB BKgC; have HB := n_; have BKgC := mgC_; clear n_ mgC_; have L0_ := Aside0.mk HLS.out; have mL_ := Aside0.mk (L0_.out.below hb); have HEL := Aside0.mk (El.mk' L0_.out (i := 4) A4 c4 rfl rfl hl3 hC3 hf3); clear L0_ HLS hl3 hC3 hf3 hb; have HLS := mL_; clear mL_; obtain ⟨hcgC_21_0, hcgC_21_1, hcgC_21_2, hcgC_21_3, hcgC_21_4, hcgC_21_5, hcgC_21_6, hcgC_21_7⟩ := blk8 BKgC.out; refine ⟨_, rfl, ?_⟩) | (at_builtin; refine Lst.append_op (w0 := w) rfl _ _ rfl rfl ((HLS.out.alloc _).alloc _) (below_alloc (below_alloc HB.out _) _) (by have := EN.out; omega) ((HEL.out.alloc _).alloc _) rfl (cells5_new2 _ _ _ _ _ _ _ _) (by have := below_size HB.out; simp; omega) ?_; intro v1 w6 hl6 hb6 hg6; have nC_ : some gC ≠ (u6 : Value).ownBlock := HLS.out.ne BKgC.out (by decide); have mC_ := Aside0.mk (blk_grown (blk_alloc (blk_alloc BKgC.out _) _) hg6 nC_); clear BKgC HLS HB HEL nC_ hg6; have BKgC := mC_; have HLS := Aside0.mk hl6; have HB := Aside0.mk hb6; clear mC_ hl6 hb6))
        go_roundw
        case rel => exact ⟨5, by omega, rfl, by rw [E.out]; exact HLS.out, BKgC.out, HB.out⟩
        case measure => simp [intOf]
    · obtain ⟨hcgC_11_0, hcgC_11_1, hcgC_11_2, hcgC_11_3, hcgC_11_4, hcgC_11_5, hcgC_11_6, hcgC_11_7⟩ := blk8 BKgC.out
      have hq := HH.out.2.2.2.2.2.1
      have hsi := hs 5
      rcases hbi : bt 5 with _ | _
      · rw [hbi] at hq
        have E := Aside0.mk (putL_miss (s := s) hbi)
        clear hbi
        go_wp2
        go_roundw
        case rel => exact ⟨6, by omega, rfl, by rw [E.out]; first | exact HLS.out | exact HLS.out.alloc _, by first | exact BKgC.out | exact blk_alloc BKgC.out _, by first | exact HB.out | exact below_alloc HB.out _⟩
        case measure => simp [intOf]
      · rw [hbi] at hq
        have E := Aside0.mk (putL_hit (s := s) hbi)
        have EN := Aside0.mk (putL_length s bt 5)
        clear hbi
        go_wp2_with (first | ((with_reducible refine gate_callee (f := 44) rfl ?_); (with_reducible refine gate_dst (N := 26) rfl ?_); (try (refine gate_guard (by rfl) ?_; dsimp only)); refine goesL_ (some 26) rfl rfl Try.func44 (by kernel_rfl) rfl #[.int .i64 5, .string (s 5)] rfl (by first | rfl | go_simp) ?_; refine (cardexref14_element.calls k 5 1 39 (s 5) hsi t5 _).mono ?_; rintro _ w5 ⟨A3, c3, A4, c4, rfl, hl3, hC3, hf3, hb⟩; have n_ := Aside0.mk (below_step (by repeat (with_reducible first | exact HB.out | apply below_alloc | apply pw_below_drewN | apply below_drew1)) hb); have mgC_ := Aside0.mk (blk_below (g := gC) (o := CO s) (by (with_reducible repeat (first | refine blk_drewN ?_ _ | refine blk_drew ?_ | refine blk_alloc ?_ _)); exact BKgC.out) hb); clear HB BKgC; have HB := n_; have BKgC := mgC_; clear n_ mgC_; have L0_ := Aside0.mk HLS.out; have mL_ := Aside0.mk (L0_.out.below hb); have HEL := Aside0.mk (El.mk' L0_.out (i := 5) A4 c4 rfl rfl hl3 hC3 hf3); clear L0_ HLS hl3 hC3 hf3 hb; have HLS := mL_; clear mL_; obtain ⟨hcgC_21_0, hcgC_21_1, hcgC_21_2, hcgC_21_3, hcgC_21_4, hcgC_21_5, hcgC_21_6, hcgC_21_7⟩ := blk8 BKgC.out; refine ⟨_, rfl, ?_⟩) | (at_builtin; refine Lst.append_op (w0 := w) rfl _ _ rfl rfl ((HLS.out.alloc _).alloc _) (below_alloc (below_alloc HB.out _) _) (by have := EN.out; omega) ((HEL.out.alloc _).alloc _) rfl (cells5_new2 _ _ _ _ _ _ _ _) (by have := below_size HB.out; simp; omega) ?_; intro v1 w6 hl6 hb6 hg6; have nC_ : some gC ≠ (u6 : Value).ownBlock := HLS.out.ne BKgC.out (by decide); have mC_ := Aside0.mk (blk_grown (blk_alloc (blk_alloc BKgC.out _) _) hg6 nC_); clear BKgC HLS HB HEL nC_ hg6; have BKgC := mC_; have HLS := Aside0.mk hl6; have HB := Aside0.mk hb6; clear mC_ hl6 hb6))
        go_roundw
        case rel => exact ⟨6, by omega, rfl, by rw [E.out]; exact HLS.out, BKgC.out, HB.out⟩
        case measure => simp [intOf]
    · obtain ⟨hcgC_11_0, hcgC_11_1, hcgC_11_2, hcgC_11_3, hcgC_11_4, hcgC_11_5, hcgC_11_6, hcgC_11_7⟩ := blk8 BKgC.out
      have hq := HH.out.2.2.2.2.2.2.1
      have hsi := hs 6
      rcases hbi : bt 6 with _ | _
      · rw [hbi] at hq
        have E := Aside0.mk (putL_miss (s := s) hbi)
        clear hbi
        go_wp2
        go_roundw
        case rel => exact ⟨7, by omega, rfl, by rw [E.out]; first | exact HLS.out | exact HLS.out.alloc _, by first | exact BKgC.out | exact blk_alloc BKgC.out _, by first | exact HB.out | exact below_alloc HB.out _⟩
        case measure => simp [intOf]
      · rw [hbi] at hq
        have E := Aside0.mk (putL_hit (s := s) hbi)
        have EN := Aside0.mk (putL_length s bt 6)
        clear hbi
        go_wp2_with (first | ((with_reducible refine gate_callee (f := 44) rfl ?_); (with_reducible refine gate_dst (N := 26) rfl ?_); (try (refine gate_guard (by rfl) ?_; dsimp only)); refine goesL_ (some 26) rfl rfl Try.func44 (by kernel_rfl) rfl #[.int .i64 6, .string (s 6)] rfl (by first | rfl | go_simp) ?_; refine (cardexref14_element.calls k 6 1 43 (s 6) hsi t6 _).mono ?_; rintro _ w5 ⟨A3, c3, A4, c4, rfl, hl3, hC3, hf3, hb⟩; have n_ := Aside0.mk (below_step (by repeat (with_reducible first | exact HB.out | apply below_alloc | apply pw_below_drewN | apply below_drew1)) hb); have mgC_ := Aside0.mk (blk_below (g := gC) (o := CO s) (by (with_reducible repeat (first | refine blk_drewN ?_ _ | refine blk_drew ?_ | refine blk_alloc ?_ _)); exact BKgC.out) hb); clear HB BKgC; have HB := n_; have BKgC := mgC_; clear n_ mgC_; have L0_ := Aside0.mk HLS.out; have mL_ := Aside0.mk (L0_.out.below hb); have HEL := Aside0.mk (El.mk' L0_.out (i := 6) A4 c4 rfl rfl hl3 hC3 hf3); clear L0_ HLS hl3 hC3 hf3 hb; have HLS := mL_; clear mL_; obtain ⟨hcgC_21_0, hcgC_21_1, hcgC_21_2, hcgC_21_3, hcgC_21_4, hcgC_21_5, hcgC_21_6, hcgC_21_7⟩ := blk8 BKgC.out; refine ⟨_, rfl, ?_⟩) | (at_builtin; refine Lst.append_op (w0 := w) rfl _ _ rfl rfl ((HLS.out.alloc _).alloc _) (below_alloc (below_alloc HB.out _) _) (by have := EN.out; omega) ((HEL.out.alloc _).alloc _) rfl (cells5_new2 _ _ _ _ _ _ _ _) (by have := below_size HB.out; simp; omega) ?_; intro v1 w6 hl6 hb6 hg6; have nC_ : some gC ≠ (u6 : Value).ownBlock := HLS.out.ne BKgC.out (by decide); have mC_ := Aside0.mk (blk_grown (blk_alloc (blk_alloc BKgC.out _) _) hg6 nC_); clear BKgC HLS HB HEL nC_ hg6; have BKgC := mC_; have HLS := Aside0.mk hl6; have HB := Aside0.mk hb6; clear mC_ hl6 hb6))
        go_roundw
        case rel => exact ⟨7, by omega, rfl, by rw [E.out]; exact HLS.out, BKgC.out, HB.out⟩
        case measure => simp [intOf]
    · obtain ⟨hcgC_11_0, hcgC_11_1, hcgC_11_2, hcgC_11_3, hcgC_11_4, hcgC_11_5, hcgC_11_6, hcgC_11_7⟩ := blk8 BKgC.out
      have hq := HH.out.2.2.2.2.2.2.2
      have hsi := hs 7
      rcases hbi : bt 7 with _ | _
      · rw [hbi] at hq
        have E := Aside0.mk (putL_miss (s := s) hbi)
        clear hbi
        go_wp2
        go_roundw
        case rel => exact ⟨8, by omega, rfl, by rw [E.out]; first | exact HLS.out | exact HLS.out.alloc _, by first | exact BKgC.out | exact blk_alloc BKgC.out _, by first | exact HB.out | exact below_alloc HB.out _⟩
        case measure => simp [intOf]
      · rw [hbi] at hq
        have E := Aside0.mk (putL_hit (s := s) hbi)
        have EN := Aside0.mk (putL_length s bt 7)
        clear hbi
        go_wp2_with (first | ((with_reducible refine gate_callee (f := 44) rfl ?_); (with_reducible refine gate_dst (N := 26) rfl ?_); (try (refine gate_guard (by rfl) ?_; dsimp only)); refine goesL_ (some 26) rfl rfl Try.func44 (by kernel_rfl) rfl #[.int .i64 7, .string (s 7)] rfl (by first | rfl | go_simp) ?_; refine (cardexref14_element.calls k 7 1 60 (s 7) hsi t7 _).mono ?_; rintro _ w5 ⟨A3, c3, A4, c4, rfl, hl3, hC3, hf3, hb⟩; have n_ := Aside0.mk (below_step (by repeat (with_reducible first | exact HB.out | apply below_alloc | apply pw_below_drewN | apply below_drew1)) hb); have mgC_ := Aside0.mk (blk_below (g := gC) (o := CO s) (by (with_reducible repeat (first | refine blk_drewN ?_ _ | refine blk_drew ?_ | refine blk_alloc ?_ _)); exact BKgC.out) hb); clear HB BKgC; have HB := n_; have BKgC := mgC_; clear n_ mgC_; have L0_ := Aside0.mk HLS.out; have mL_ := Aside0.mk (L0_.out.below hb); have HEL := Aside0.mk (El.mk' L0_.out (i := 7) A4 c4 rfl rfl hl3 hC3 hf3); clear L0_ HLS hl3 hC3 hf3 hb; have HLS := mL_; clear mL_; obtain ⟨hcgC_21_0, hcgC_21_1, hcgC_21_2, hcgC_21_3, hcgC_21_4, hcgC_21_5, hcgC_21_6, hcgC_21_7⟩ := blk8 BKgC.out; refine ⟨_, rfl, ?_⟩) | (at_builtin; refine Lst.append_op (w0 := w) rfl _ _ rfl rfl ((HLS.out.alloc _).alloc _) (below_alloc (below_alloc HB.out _) _) (by have := EN.out; omega) ((HEL.out.alloc _).alloc _) rfl (cells5_new2 _ _ _ _ _ _ _ _) (by have := below_size HB.out; simp; omega) ?_; intro v1 w6 hl6 hb6 hg6; have nC_ : some gC ≠ (u6 : Value).ownBlock := HLS.out.ne BKgC.out (by decide); have mC_ := Aside0.mk (blk_grown (blk_alloc (blk_alloc BKgC.out _) _) hg6 nC_); clear BKgC HLS HB HEL nC_ hg6; have BKgC := mC_; have HLS := Aside0.mk hl6; have HB := Aside0.mk hb6; clear mC_ hl6 hb6))
        go_roundw
        case rel => exact ⟨8, by omega, rfl, by rw [E.out]; exact HLS.out, BKgC.out, HB.out⟩
        case measure => simp [intOf]
    · obtain ⟨hcgC_11_0, hcgC_11_1, hcgC_11_2, hcgC_11_3, hcgC_11_4, hcgC_11_5, hcgC_11_6, hcgC_11_7⟩ := blk8 BKgC.out
      go_wp2
      go_ret2
      exact ⟨_, rfl, HLS.out, HB.out⟩
end Go.Proofs.Ytnmbhhkdiegemaa.K
