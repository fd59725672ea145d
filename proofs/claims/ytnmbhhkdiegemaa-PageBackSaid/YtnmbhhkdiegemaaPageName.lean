/- The walk of page.Name: what it answers. No conditions. -/
import Derived.Test.YtnmbhhkdiegemaaPageWalk
namespace Go.Proofs.Ytnmbhhkdiegemaa.H
open Go.RowKit Go.Proofs.YtnmbhhkdiegemaaW.PrintWords Go.Proofs.YtnmbhhkdiegemaaW.PrintLast Go.Proofs.YtnmbhhkdiegemaaW.PrintMore
open Go.ChangeMaps (setBlock)
set_option linter.unusedVariables false
set_option linter.unusedSimpArgs false

set_option maxHeartbeats 8000000 in
set_option maxRecDepth 100000 in
theorem page_Name.calls (p j : Int) (w : World) : Calls Try.prog 11 #[.agg #[.int .u8 p, .int .u8 j]] w fun e w' => e = .returned (.tuple #[.string (tgNm j (tgOf p)), .bool (tgOk j (tgOf p))]) ∧ Below w.heap.size w w' := by
  have hu23 := Try.underlying23
  have HB := Aside0.mk (Below.refl w.heap.size w)
  have hfd := fun n W => run_field61 (nmOf p) (mpOf n p) W
  go_enter Try.func11, Try.ntmps11
  go_wp2_with (first | ((with_reducible refine gate_dst (N := 1) rfl ?_); refine box_event ?hg (N := 1) ?hd (cs := #[.int .u8 p, .int .u8 j]) (t := 23) ?hr ?_; (case hd => rfl); (case hg => rfl); (case hr => first | (go_simp; done) | (go_simp; rfl)); intro gA hg w1 hbox hb; have ge_ := Aside0.mk ((by rw [hg]; exact below_size (by repeat (first | (with_reducible first | exact HB.out | apply below_alloc | apply pw_below_drewN | apply below_drew1) | exact HB.out))) : w.heap.size ≤ gA); have n_ := Aside0.mk (below_step (by repeat (first | (with_reducible first | exact HB.out | apply below_alloc | apply pw_below_drewN | apply below_drew1) | exact HB.out)) hb); clear HB; have HB := n_; clear n_; have BKgA := Aside0.mk hbox; have GEgA := ge_; clear ge_ hbox hg hb; have hcgA_1_0 : w1.cell? ⟨gA, 0, none⟩ = some (.int .u8 p) := (blk_cell BKgA.out 0).trans rfl; have hfgA_1_0 := blk_frozen BKgA.out 0; have hcgA_1_1 : w1.cell? ⟨gA, 1, none⟩ = some (.int .u8 j) := (blk_cell BKgA.out 1).trans rfl; have hfgA_1_1 := blk_frozen BKgA.out 1))
  have hnv_ : gA ≠ w1.heap.size := Nat.ne_of_lt (blk_lt BKgA.out)
  have hnv2_ : w1.heap.size ≠ gA := hnv_.symm
  have GEv := Aside0.mk (below_size HB.out)
  go_region_held3 (fun w' => w'.cell? ⟨gA, 0, none⟩ = some (.int .u8 p) ∧ w'.cell? ⟨gA, 1, none⟩ = some (.int .u8 j)) (go_keep)
    (first | (go_at_call 35; refine (pages.got _).mono ?_; rintro _ w2 ⟨n, rfl, hP, hb, hs⟩; have n_ := Aside0.mk (below_step (by repeat (first | (with_reducible first | exact HB.out | apply below_alloc | apply pw_below_drewN | apply below_drew1 | refine below_set ?_ GEgA.out) | exact HB.out)) hb); have mgA_ := Aside0.mk (blk_below (g := gA) (o := .cells #[.int .u8 p, .int .u8 j] 23 (0, 0)) (by (with_reducible repeat (first | refine blk_drewN ?_ _ | refine blk_drew ?_ | refine blk_alloc ?_ _)); exact BKgA.out) hb); clear HB BKgA; have HB := n_; have BKgA := mgA_; clear n_ mgA_; have hl := hP.lookup p false; have hl2 := hP.lookup2 p j true; have hl3 := fun o => (hP.alloc o).lookup p false; have hl4 := fun o => (hP.alloc o).lookup2 p j true; obtain ⟨hbc_, hbf_⟩ := bcell hb; have hnw_ : gA ≠ w2.heap.size := Nat.ne_of_lt (blk_lt BKgA.out); have hnw2_ := hnw_.symm; clear hP hs hb; have hcgA_2_0 : w2.cell? ⟨gA, 0, none⟩ = some (.int .u8 p) := (blk_cell BKgA.out 0).trans rfl; have hfgA_2_0 := blk_frozen BKgA.out 0; have hcgA_2_1 : w2.cell? ⟨gA, 1, none⟩ = some (.int .u8 j) := (blk_cell BKgA.out 1).trans rfl; have hfgA_2_1 := blk_frozen BKgA.out 1))
  all_goals go_wp2
  all_goals go_ret2
  all_goals exact ⟨rfl, by repeat (first | (with_reducible first | exact HB.out | apply below_alloc | apply pw_below_drewN | apply below_drew1 | refine below_set ?_ GEv.out | refine below_set ?_ GEgA.out) | exact HB.out)⟩
end Go.Proofs.Ytnmbhhkdiegemaa.H
