/- The walks of Wide and Left: a copy with three sevens in the room behind it, and whether it is still that. Conditions: those that each theorem names. -/
import Derived.Test.YtjcpnfmbdbeinaaRTokGetSpoil
namespace Go.Proofs.Ytjcpnfmbdbeinaa.R
open Go.RowKit Go.Proofs.YtjcpnfmbdbeinaaW.PrintWords Go.Proofs.YtjcpnfmbdbeinaaW.PrintLast Go.Proofs.YtjcpnfmbdbeinaaW.PrintMore
attribute [local go_sem] max2_int min2_int max_two min_two max_three min_three max_four min_four
set_option linter.unusedVariables false
set_option linter.unusedSimpArgs false

/-- What Wide has made behind i rounds. -/
def wpart (l : List Int) (i : Nat) : List Int := (l ++ [7, 7, 7]).take i ++ List.replicate (l.length + 3 - i) 0
theorem wpart_len (l : List Int) (i : Nat) (h : i ≤ l.length + 3) : (wpart l i).length = l.length + 3 := by simp [wpart]; omega
theorem wpart_set (l : List Int) (i : Nat) (h : i < l.length + 3) (x : Int) (hx : (l ++ [7, 7, 7])[i]? = some x) : (wpart l i).set i x = wpart l (i + 1) := by
  have ht : ((l ++ [7, 7, 7]).take i).length = i := by simp; omega
  unfold wpart
  rw [List.set_append_right _ _ (by omega), ht, Nat.sub_self, show l.length + 3 - i = (l.length + 3 - (i + 1)) + 1 from by omega, List.replicate_succ, List.set_cons_zero, List.take_add_one, hx]
  simp
theorem map_set_int (l : List Int) (i : Nat) (x : Int) : ((l.map (Value.int .u8)).toArray.setIfInBounds i (.int .u8 x)) = ((l.set i x).map (Value.int .u8)).toArray := by
  simp [List.map_set]
/-- The block that Wide lays. -/
def WdB (w : World) (g : Nat) (l : List Int) : Prop := w.heap[g]? = some (.cells ((l.map (Value.int .u8)).toArray) 5 (0, 0))
theorem WdB.set {w : World} {g : Nat} {l : List Int} (h : WdB w g l) (i : Nat) (x : Int) : WdB (w.setCell ⟨g, i, none⟩ (.int .u8 x)) g (l.set i x) := by
  unfold WdB
  rw [← map_set_int]
  exact blk_set h i _
theorem WdB.cell {w : World} {g : Nat} {l : List Int} (h : WdB w g l) (i : Nat) (hi : i < l.length) : w.cell? ⟨g, i, none⟩ = some (.int .u8 (l.getD i 0)) := by
  refine (blk_cell h i).trans ?_
  simp [List.getElem?_eq_getElem hi]
theorem WdB.reads {w : World} {g n : Nat} {F l : List Int} (h : WdB w g F) (hF : F.take n = l) (hn : n ≤ F.length) (hl : n ≤ 9223372036854775807) : Kd.C (Kd.int .u8) w (some ⟨g, 0, none⟩) l.length l := by
  have hln : l.length = n := by rw [← hF, List.length_take]; omega
  refine Kd.C_of_reads (enc := Value.int .u8) (d := (0 : Int)) (h1 := fun _ => rfl) ⟨rfl, by omega, fun hp => ⟨_, rfl, fun i hi => ?_⟩⟩
  have h2 := h.cell i (by omega)
  rw [show (⟨g, 0, none⟩ : Addr).add i = ⟨g, i, none⟩ from by simp [Addr.add]; intro h; exact h.symm]
  rw [h2, ← hF]
  simp [List.getD_eq_getElem?_getD, List.getElem?_take, show i < n from by omega]
theorem wide_make (P : Program) (W : World) (ht : P.underlying 22 = some (.slice 5)) {i0 : TypeInfo} (hi : P.info? 5 = some i0) (hz : i0.zero = some (.int .u8 0)) (hs : i0.size = 1) (hb : i0.bytes = 1) (n : Int) (h0 : 0 ≤ n) (h1 : n ≤ 281474976710656) :
    (Instr.makeSlice 22 (.int .i64 n) (.int .i64 n)).run P W = .ok (.slice (some ⟨W.heap.size, 0, none⟩) n.toNat n.toNat) (W.alloc (.cells ((List.replicate n.toNat (0 : Int)).map (Value.int .u8)).toArray 5 (0, 0))) := by
  have hr := run_make (P := P) W 22 5 i0 (.int .u8 0) ht hi hz .i64 .i64 n n h0 (Int.le_refl _) (by rw [hb]; omega) (by omega)
  rw [hr, hs, Nat.mul_one]
  have : madeCells (Value.int .u8 0).cells n.toNat = ((List.replicate n.toNat (0 : Int)).map (Value.int .u8)).toArray := by
    apply Array.ext
    · simp [size_madeCells]
    · intro i h1 h2
      simp [madeCells, Value.cells, Nat.mod_one]
  rw [this]
set_option maxHeartbeats 8000000 in
set_option maxRecDepth 100000 in
theorem Wide_calls (A : Option Addr) (c : Nat) (l : List Int) (w : World) (hr : Kd.C (Kd.int .u8) w A l.length l) (hc : l.length ≤ c) (hl : l.length ≤ 140737488355328) :
    Calls Try.prog 33 #[.slice A l.length c] w fun e w' => e = .returned (.slice (some ⟨w.heap.size, 0, none⟩) l.length (l.length + 3)) ∧ WdB w' w.heap.size (l ++ [7, 7, 7]) ∧ Below w.heap.size w w' := by
  have HCX : Aside0 (∀ i, i < l.length → ∃ ad, A = some ad ∧ ∀ W : World, Below w.heap.size w W → W.cell? (ad.add i) = some (.int .u8 (l.getD i 0))) := Aside0.mk (fun i hi => by
    obtain ⟨_, _, hz1⟩ := Kd.reads_of_C (enc := Value.int .u8) (d := (0 : Int)) (h1 := fun _ => rfl) hr
    obtain ⟨ad, he, _⟩ := hz1 (by omega)
    refine ⟨ad, he, fun W hW => ?_⟩
    obtain ⟨_, _, hz2⟩ := Kd.reads_of_C (enc := Value.int .u8) (d := (0 : Int)) (h1 := fun _ => rfl) (Kd.C_below hr hW)
    obtain ⟨ad2, he2, hcell2⟩ := hz2 (by omega)
    obtain rfl := Option.some.inj (he.symm.trans he2)
    exact hcell2 i hi)
  obtain ⟨i5, hi5, hz5, hsz5, hb5⟩ := info_parts info5
  have hw0 : IntKind.i64.wrap ((l.length : Int) + 3) = (l.length : Int) + 3 := by rw [IntKind.wrap_i64]; omega
  have hmk := fun W => wide_make Try.prog W Try.underlying22 hi5 hz5 hsz5 hb5 ((l.length : Int) + 3) (by omega) (by omega)
  have htn : ((l.length : Int) + 3).toNat = l.length + 3 := by omega
  rw [htn] at hmk
  have HL := Aside0.mk hl
  have HC := Aside0.mk hc
  clear hr hi5 hz5 hsz5 hb5 hl hc htn
  go_enter Try.func33, Try.ntmps33
  go_wp2
  refine atWorld ?_
  intro W1 hW
  have HB1 : Aside0 (Below w.heap.size w W1) := Aside0.mk (by rw [hW]; exact below_alloc (Below.refl _ _) _)
  have HW1 : Aside0 (WdB W1 w.heap.size (wpart l 0)) := Aside0.mk (by rw [hW]; unfold WdB wpart; simpa using blk_new w _)
  clear hW hmk hw0
  go_loopg [4] (l.length + 3) (fun kq v4 w' => ∃ i : Nat, v4 = .int .i64 (i : Int) ∧ Aside0 (kq + i = l.length + 3) ∧ Aside0 (Below w.heap.size w w') ∧ Aside0 (WdB w' w.heap.size (wpart l i)))
  case atStart => exact ⟨0, rfl, ⟨by omega⟩, HB1, HW1⟩
  case round =>
    clear HB1 HW1
    obtain ⟨i, rfl, HK, HB, HW⟩ := hrel
    by_cases ci : i < l.length + 3
    · have c0 : decide ((i : Int) < ((l.length + 3 : Nat) : Int)) = true := decide_eq_true (by omega)
      have c1 : (i : Int) < ((l.length + 3 : Nat) : Int) := by omega
      have c2 : (0 : Int) ≤ (i : Int) := by omega
      have hw : IntKind.i64.wrap ((i : Int) + 1) = (i : Int) + 1 := by have := HL.out; rw [IntKind.wrap_i64]; omega
      have hx := HW.out.cell i (by rw [wpart_len l i (by omega)]; exact ci)
      have hf := blk_frozen HW.out i
      by_cases cj : i < l.length
      · have d0 : decide ((i : Int) < (l.length : Int)) = true := decide_eq_true (by omega)
        have d1 : (i : Int) < (l.length : Int) := by omega
        obtain ⟨ad, rfl, hcell⟩ := HCX.out i cj
        have hld := fun u => hcell (wr.setCell ⟨w.heap.size, i, none⟩ u) (below_set HB.out (Nat.le_refl _))
        have hx2 := (HW.out.set i 7).cell i (by rw [List.length_set, wpart_len l i (by omega)]; exact ci)
        have hf2 := blk_frozen (HW.out.set i 7) i
        go_wp2
        go_roundg (l.length + 3 - (i + 1))
        case measure => have := HK.out; omega
        case rel =>
          refine ⟨i + 1, by simp, ⟨by omega⟩, ⟨below_set (below_set HB.out (Nat.le_refl _)) (Nat.le_refl _)⟩, ⟨?_⟩⟩
          have h2 := (HW.out.set i 7).set i (l.getD i 0)
          rw [List.set_set, wpart_set l i ci (l.getD i 0) (by rw [List.getElem?_append_left cj]; simp [List.getD_eq_getElem?_getD, List.getElem?_eq_getElem cj])] at h2
          rw [show l.getD i 0 = l[i] from by simp [List.getD_eq_getElem?_getD, List.getElem?_eq_getElem cj]] at h2
          exact h2
      · have d0 : decide ((i : Int) < (l.length : Int)) = false := decide_eq_false (by omega)
        have d1 : ¬ ((i : Int) < (l.length : Int)) := by omega
        go_wp2
        go_roundg (l.length + 3 - (i + 1))
        case measure => have := HK.out; omega
        case rel => exact ⟨i + 1, by simp, ⟨by omega⟩, ⟨below_set HB.out (Nat.le_refl _)⟩, ⟨wpart_set l i ci 7 (by rw [List.getElem?_append_right (by omega)]; have : i - l.length < 3 := (by omega); match hq : i - l.length, this with | 0, _ => rfl | 1, _ => rfl | 2, _ => rfl) ▸ HW.out.set i 7⟩⟩
    · have c0 : decide ((i : Int) < ((l.length + 3 : Nat) : Int)) = false := decide_eq_false (by omega)
      have c1 : ¬ ((i : Int) < ((l.length + 3 : Nat) : Int)) := by omega
      have hcut := cut_to (P := Try.prog) 22 5 .i64 Try.underlying22 (info_parts info5).choose_spec.1 (some ⟨w.heap.size, 0, none⟩) (l.length + 3) (l.length + 3) (l.length : Int) (by omega) (by omega) (by omega)
      simp only [Int.toNat_natCast] at hcut
      go_wp2
      go_ret
      refine ⟨rfl, ?_, HB.out⟩
      have hi : i = l.length + 3 := by have := HK.out; omega
      have := HW.out
      rw [hi] at this
      unfold wpart at this
      rwa [Nat.sub_self, List.replicate_zero, List.append_nil, List.take_of_length_le (by simp)] at this

set_option maxHeartbeats 8000000 in
set_option maxRecDepth 100000 in
theorem Left_calls (g : Nat) (A : Option Addr) (c : Nat) (l : List Int) (w : World) (hr : Kd.C (Kd.int .u8) w A l.length l) (hc : l.length ≤ c) (hl : l.length ≤ 140737488355328) (hb : WdB w g (l ++ [7, 7, 7])) (hs : cardexref00_Same.f l l = some true) :
    Calls Try.prog 36 #[.slice (some ⟨g, 0, none⟩) l.length (l.length + 3), .slice A l.length c] w fun e w' => e = .returned (.bool true) ∧ Below w.heap.size w w' := by
  obtain ⟨i5, hi5, hz5, hsz5, hb5⟩ := info_parts info5
  have hw0 : IntKind.i64.wrap ((l.length : Int) + 3) = (l.length : Int) + 3 := by rw [IntKind.wrap_i64]; omega
  have hw1 : IntKind.i64.wrap ((l.length : Int) + 1) = (l.length : Int) + 1 := by rw [IntKind.wrap_i64]; omega
  have hw2 : IntKind.i64.wrap ((l.length : Int) + 2) = (l.length : Int) + 2 := by rw [IntKind.wrap_i64]; omega
  have hcut := full_cut (P := Try.prog) Try.underlying22 hi5 (some ⟨g, 0, none⟩) l.length (l.length + 3)
  rw [show ((l.length + 3 : Nat) : Int) = (l.length : Int) + 3 from by omega] at hcut
  have HWc : Aside0 (Kd.C (Kd.int .u8) w (some ⟨g, 0, none⟩) l.length l) := Aside0.mk (hb.reads (n := l.length) (by simp) (by simp) (by omega))
  have h7 : ∀ j, j < 3 → w.cell? ⟨g, l.length + j, none⟩ = some (.int .u8 7) := fun j hj => by
    refine (WdB.cell hb (l.length + j) (by simp; omega)).trans ?_
    rw [List.getD_eq_getElem?_getD, List.getElem?_append_right (by omega), Nat.add_sub_cancel_left]
    match j, hj with | 0, _ => rfl | 1, _ => rfl | 2, _ => rfl
  have e0 : w.cell? ⟨g, l.length, none⟩ = some (.int .u8 7) := h7 0 (by omega)
  have e1 := h7 1 (by omega)
  have e2 := h7 2 (by omega)
  have t0 : (l.length : Int) < ((l.length + 3 : Nat) : Int) := by omega
  have t1 : (l.length : Int) + 1 < ((l.length + 3 : Nat) : Int) := by omega
  have t2 : (l.length : Int) + 2 < ((l.length + 3 : Nat) : Int) := by omega
  have u1 : ((l.length : Int) + 1).toNat = l.length + 1 := by omega
  have u2 : ((l.length : Int) + 2).toNat = l.length + 2 := by omega
  have v1 : (0 : Int) ≤ (l.length : Int) + 1 := by omega
  have v2 : (0 : Int) ≤ (l.length : Int) + 2 := by omega
  have HR := Aside0.mk hr
  have HC := Aside0.mk hc
  have HS := Aside0.mk hs
  clear hr hc hb hs hi5 hz5 hsz5 hb5 hl h7
  go_enter Try.func36, Try.ntmps36
  go_wp2_with ((with_reducible refine gate_callee (f := 27) rfl ?_); refine goesL_ (some 8) rfl rfl Try.func27 (by kernel_rfl) rfl #[.slice (some ⟨g, 0, none⟩) l.length (l.length + 3), .slice A l.length c] rfl (by first | rfl | go_simp) ?_; refine (cardexref00_Same.calls (some ⟨g, 0, none⟩) (l.length + 3) l A c l true _ HWc.out (by omega) HR.out HC.out HS.out).mono ?_; rintro _ _ ⟨rfl, ⟨⟨m1, rfl⟩⟩⟩; refine ⟨_, rfl, ?_⟩)
  go_ret
  exact ⟨rfl, pw_below_drewN (Below.refl _ _) _⟩
end Go.Proofs.Ytjcpnfmbdbeinaa.R
