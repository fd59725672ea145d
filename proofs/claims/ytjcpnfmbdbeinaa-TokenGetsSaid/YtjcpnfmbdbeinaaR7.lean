/- What functions of the program compute: each call comes to what its plain Lean function answers. No conditions but those that each theorem names. -/
-- PRINTED by print.py (a twelfth state) out of the translation. Not trusted: Lean checks it.
import Derived.Test.YtjcpnfmbdbeinaaR0
import Derived.Test.YtjcpnfmbdbeinaaR3
import Derived.Test.YtjcpnfmbdbeinaaR6
namespace Go.Proofs.Ytjcpnfmbdbeinaa.R
open Go.RowKit Go.Proofs.YtjcpnfmbdbeinaaW.PrintWords Go.Proofs.YtjcpnfmbdbeinaaW.PrintLast Go.Proofs.YtjcpnfmbdbeinaaW.PrintMore
attribute [local go_sem] max2_int min2_int max_two min_two max_three min_three max_four min_four   -- for this text's walks alone
set_option linter.unusedVariables false
set_option linter.unusedSimpArgs false

/-! ### token_Get: function 34 -/
def rtext (k : Nat) (b : List Int) (at_ : Nat) : Option (List Int × Int × Nat) :=
 let n := Lib.indexByte (Lib.bytesOf (b.drop at_)) 0
 if n > 64 then some ([], 3, at_) else
 if n < 0 ∧ ((b.drop at_).length : Int) > 64 then some ([], 3, at_) else
 if n < 0 then some ([], 4, at_) else
 if n = 0 then some ([], 5, at_) else
 (utf_Is.f k ((b.drop at_).take n.toNat)).bind fun t => if t = true then some ((b.drop at_).take n.toNat, 0, at_ + n.toNat + 1) else some ([], 12, at_)
def RdR (w0 w : World) (A : Option Addr) (c : Nat) (b : List Int) (g : Nat) (at_ : Nat) : Prop :=
 Below w0.heap.size w0 w ∧ w0.heap.size ≤ g ∧ w.heap[g]? = some (.cells #[.slice A b.length c, .int .i64 (at_ : Int)] 64 (0, 0))
theorem rk_set {w W : World} {g j : Nat} {v : Value} (h : KeepBut w W g none) : KeepBut w (W.setCell ⟨g, j, none⟩ v) g none :=
 ⟨by have := h.1; simpa [World.setCell] using this, fun i hi hg hr => (Below.heap_setCell W ⟨g, j, none⟩ v i hg).trans (h.2 i hi hg hr)⟩
theorem rk_below {w W W2 : World} {g : Nat} (h : KeepBut w W g none) (k : Below W.heap.size W W2) : KeepBut w W2 g none :=
 ⟨Nat.le_trans h.1 k.size, fun i hi hg hr => (k.block i (Nat.lt_of_lt_of_le hi h.1)).trans (h.2 i hi hg hr)⟩
theorem indexByte_lt (l : List UInt8) (c : UInt8) : Lib.indexByte l c < l.length ∨ l = [] := by
 induction l with
 | nil => exact .inr rfl
 | cons b l ih =>
  left
  unfold Lib.indexByte
  simp only [List.length_cons, Int.natCast_add, Int.natCast_one]
  split
  ·omega
  ·split
   ·omega
   ·rcases ih with ih | rfl
    ·omega
    ·rename_i h1 h2
     simp [Lib.indexByte] at h2
theorem indexByte_le (l : List UInt8) (c : UInt8) : Lib.indexByte l c ≤ l.length := by
 rcases indexByte_lt l c with h | rfl
 ·omega
 ·simp [Lib.indexByte]
set_option maxHeartbeats 8000000 in
set_option maxRecDepth 100000 in
theorem rtext_calls (k : Nat) (A : Option Addr) (c : Nat) (b : List Int) (g at_ : Nat) (r1 : List Int) (r2 : Int) (r3 : Nat) (w0 w : World) (hr0 : Kd.C (Kd.int .u8) w0 A b.length b) (hc0 : b.length ≤ c) (hlen : b.length ≤ 16384) (hI : RdR w0 w A c b g at_) (hat : at_ ≤ b.length) (h : rtext k b at_ = some (r1, r2, r3)) :
  Calls Try.prog 50 #[.pointer (some ⟨g, 0, none⟩)] w fun e w' => ∃ v0_ : Value, e = .returned (.tuple #[v0_, .int .i64 r2]) ∧ Kd.R (Kd.int .u8) 5 w' w.heap.size (fun _ => True) v0_ r1 ∧ RdR w0 w' A c b g r3 ∧ KeepBut w w' g none := by
 obtain ⟨hB, hge, hblk⟩ := hI
 have hc1 : w.cell? ⟨g, 0, none⟩ = some (.slice A b.length c) := (blk_cell hblk 0).trans rfl
 have hc2 : w.cell? ⟨g, 1, none⟩ = some (.int .i64 (at_ : Int)) := (blk_cell hblk 1).trans rfl
 obtain ⟨i5, hi5, hz5⟩ := Option.map_eq_some_iff.1 info5
 have hsz5 : i5.size = 1 := by simpa using congrArg (fun x => x.2.1) hz5
 have hcut := cut_from (P := Try.prog) 22 5 .i64 Try.underlying22 hi5 1 hsz5 A b.length c (at_ : Int) (by omega) (by omega)
 have hCD := Kd.C_drop (c := c) (m := at_) hr0 hat hc0
 have hrc : (b.drop at_).length ≤ c - at_ := by simp; omega
 have hfr : (b.drop at_).length ≤ 16384 := by simp; omega
 simp only [Int.toNat_natCast] at hcut
 rw [← List.length_drop (i := at_) (l := b)] at hcut
 change ∀ W : World, _ = Result.ok (Value.slice (if c = at_ then A else A.map (·.add (at_ * (Kd.int .u8).sz))) _ _) _ at hcut
 unfold rtext at h
 generalize (if c = at_ then A else A.map (·.add (at_ * (Kd.int .u8).sz))) = AA at hcut hCD
 generalize hrest : b.drop at_ = rest at hcut hCD hrc hfr h
 generalize hn : Lib.indexByte (Lib.bytesOf rest) 0 = n at h
 dsimp only at h
 have HB := Aside0.mk hB
 have hfz1 := blk_frozen hblk 1
 have HI := Aside0.mk hblk
 have HC := Aside0.mk hCD
 clear hB hblk hCD
 by_cases c1 : n > 64
 ·rw [if_pos c1] at h
  obtain ⟨rfl, rfl, rfl⟩ : [] = r1 ∧ (3 : Int) = r2 ∧ at_ = r3 := by simpa using h
  go_enter Try.func50, Try.ntmps50
  go_wp2
  go_quiet (fail)
  go_wp2_with ((with_reducible refine gate_callee (f := 54) rfl ?_); refine goesL_ (some 16) rfl rfl Try.func54 (by kernel_rfl) rfl #[.slice AA rest.length (c - at_), .int .u8 0] rfl (by first | rfl | go_simp) ?_; refine (bytes_IndexByte.calls AA (c - at_) rest 0 n _ (Kd.C_below HC.out (pw_below_drewN HB.out _)) hrc (by unfold bytes_IndexByte.f; rw [← hn]; rfl)).mono ?_; rintro _ _ ⟨rfl, ⟨⟨m1, rfl⟩⟩⟩; refine ⟨_, rfl, ?_⟩)
  go_ret2
  exact ⟨_, rfl, Kd.R_nil _ _ _ _ _, ⟨pw_below_drewN HB.out _, hge, HI.out⟩, keep_drewN (KeepBut.refl _ _ _) _⟩
 rw [if_neg c1] at h
 by_cases c2 : n < 0 ∧ (rest.length : Int) > 64
 ·rw [if_pos c2] at h
  obtain ⟨rfl, rfl, rfl⟩ : [] = r1 ∧ (3 : Int) = r2 ∧ at_ = r3 := by simpa using h
  obtain ⟨c2a, c2b⟩ := c2
  go_enter Try.func50, Try.ntmps50
  go_wp2
  go_quiet (fail)
  go_wp2_with ((with_reducible refine gate_callee (f := 54) rfl ?_); refine goesL_ (some 16) rfl rfl Try.func54 (by kernel_rfl) rfl #[.slice AA rest.length (c - at_), .int .u8 0] rfl (by first | rfl | go_simp) ?_; refine (bytes_IndexByte.calls AA (c - at_) rest 0 n _ (Kd.C_below HC.out (pw_below_drewN HB.out _)) hrc (by unfold bytes_IndexByte.f; rw [← hn]; rfl)).mono ?_; rintro _ _ ⟨rfl, ⟨⟨m1, rfl⟩⟩⟩; refine ⟨_, rfl, ?_⟩)
  go_ret2
  exact ⟨_, rfl, Kd.R_nil _ _ _ _ _, ⟨pw_below_drewN HB.out _, hge, HI.out⟩, keep_drewN (KeepBut.refl _ _ _) _⟩
 rw [if_neg c2] at h
 by_cases c3 : n < 0
 ·rw [if_pos c3] at h
  obtain ⟨rfl, rfl, rfl⟩ : [] = r1 ∧ (4 : Int) = r2 ∧ at_ = r3 := by simpa using h
  have c2b : ¬ ((rest.length : Int) > 64) := fun hh => c2 ⟨c3, hh⟩
  clear c2
  go_enter Try.func50, Try.ntmps50
  go_wp2
  go_quiet (fail)
  go_wp2_with ((with_reducible refine gate_callee (f := 54) rfl ?_); refine goesL_ (some 16) rfl rfl Try.func54 (by kernel_rfl) rfl #[.slice AA rest.length (c - at_), .int .u8 0] rfl (by first | rfl | go_simp) ?_; refine (bytes_IndexByte.calls AA (c - at_) rest 0 n _ (Kd.C_below HC.out (pw_below_drewN HB.out _)) hrc (by unfold bytes_IndexByte.f; rw [← hn]; rfl)).mono ?_; rintro _ _ ⟨rfl, ⟨⟨m1, rfl⟩⟩⟩; refine ⟨_, rfl, ?_⟩)
  go_ret2
  exact ⟨_, rfl, Kd.R_nil _ _ _ _ _, ⟨pw_below_drewN HB.out _, hge, HI.out⟩, keep_drewN (KeepBut.refl _ _ _) _⟩
 rw [if_neg c3] at h
 clear c2
 by_cases c4 : n = 0
 ·rw [if_pos c4] at h
  obtain ⟨rfl, rfl, rfl⟩ : [] = r1 ∧ (5 : Int) = r2 ∧ at_ = r3 := by simpa using h
  have c4b : (n == 0) = true := by simp [c4]
  go_enter Try.func50, Try.ntmps50
  go_wp2
  go_quiet (fail)
  go_wp2_with ((with_reducible refine gate_callee (f := 54) rfl ?_); refine goesL_ (some 16) rfl rfl Try.func54 (by kernel_rfl) rfl #[.slice AA rest.length (c - at_), .int .u8 0] rfl (by first | rfl | go_simp) ?_; refine (bytes_IndexByte.calls AA (c - at_) rest 0 n _ (Kd.C_below HC.out (pw_below_drewN HB.out _)) hrc (by unfold bytes_IndexByte.f; rw [← hn]; rfl)).mono ?_; rintro _ _ ⟨rfl, ⟨⟨m1, rfl⟩⟩⟩; refine ⟨_, rfl, ?_⟩)
  go_ret2
  exact ⟨_, rfl, Kd.R_nil _ _ _ _ _, ⟨pw_below_drewN HB.out _, hge, HI.out⟩, keep_drewN (KeepBut.refl _ _ _) _⟩
 rw [if_neg c4] at h
 have hnle : n ≤ rest.length := by
  have := indexByte_le (Lib.bytesOf rest) 0
  rw [hn] at this
  simpa [Lib.bytesOf] using this
 obtain ⟨m, rfl⟩ : ∃ m : Nat, n = (m : Int) := ⟨n.toNat, by omega⟩
 have c4b : ((m : Int) == 0) = false := by simp; omega
 have hm0 : 0 < m := by omega
 have hmle : m ≤ rest.length := by omega
 simp only [Int.toNat_natCast] at h
 have hcut2 := cut_to (P := Try.prog) 22 5 .i64 Try.underlying22 hi5 AA rest.length (c - at_) (m : Int) (by omega) hnle hrc
 simp only [Int.toNat_natCast] at hcut2
 have hT0 := Kd.C_take (m := m) HC.out hmle
 have hyl0 : (rest.take m).length = m := by simp; omega
 generalize rest.take m = y at h hT0 hyl0
 have HT := Aside0.mk hT0
 have HYL := Aside0.mk hyl0
 have HGE := Aside0.mk hge
 have HTC : Aside0 (y.length ≤ c - at_) := Aside0.mk (by omega)
 have hw1 : IntKind.i64.wrap ((m : Int) + 1) = (m : Int) + 1 := by rw [IntKind.wrap_i64]; omega
 have hw2 : IntKind.i64.wrap ((at_ : Int) + ((m : Int) + 1)) = (at_ : Int) + ((m : Int) + 1) := by rw [IntKind.wrap_i64]; omega
 have hcl : Aside0 (slices_Clone_byte_byte.f y = some y) := Aside0.mk (by unfold slices_Clone_byte_byte.f; rw [if_pos (by simp; omega)]; simp)
 clear hT0 hyl0 hge
 obtain ⟨t, ht, h⟩ := Option.bind_eq_some_iff.1 h
 rcases t with _ | _
 ·obtain ⟨rfl, rfl, rfl⟩ : [] = r1 ∧ (12 : Int) = r2 ∧ at_ = r3 := by simpa using h
  go_enter Try.func50, Try.ntmps50
  go_wp2
  go_quiet (fail)
  go_wp2_with (first | ((with_reducible refine gate_callee (f := 54) rfl ?_); refine goesL_ (some 16) rfl rfl Try.func54 (by kernel_rfl) rfl #[.slice AA rest.length (c - at_), .int .u8 0] rfl (by first | rfl | go_simp) ?_; refine (bytes_IndexByte.calls AA (c - at_) rest 0 _ _ (Kd.C_below HC.out (pw_below_drewN HB.out _)) hrc (by unfold bytes_IndexByte.f; exact congrArg some hn)).mono ?_; rintro _ _ ⟨rfl, ⟨⟨m1, rfl⟩⟩⟩; refine ⟨_, rfl, ?_⟩) | ((with_reducible refine gate_callee (f := 15) rfl ?_); refine goesL_ (some 37) rfl rfl Try.func15 (by kernel_rfl) rfl #[.slice AA y.length (c - at_)] rfl (by rw [HYL.out]; first | rfl | go_simp) ?_; refine (utf_Is.calls k AA (c - at_) y _ _ (Kd.C_below HT.out (pw_below_drewN HB.out _)) HTC.out ht).mono ?_; rintro _ _ ⟨rfl, ⟨⟨m2, rfl⟩⟩⟩; refine ⟨_, rfl, ?_⟩))
  go_ret2
  exact ⟨_, rfl, Kd.R_nil _ _ _ _ _, ⟨pw_below_drewN HB.out _, HGE.out, HI.out⟩, keep_drewN (KeepBut.refl _ _ _) _⟩
 ·obtain ⟨rfl, rfl, rfl⟩ : y = r1 ∧ (0 : Int) = r2 ∧ at_ + m + 1 = r3 := by simpa using h
  go_enter Try.func50, Try.ntmps50
  go_wp2
  go_quiet (fail)
  go_wp2_with (first | ((with_reducible refine gate_callee (f := 54) rfl ?_); refine goesL_ (some 16) rfl rfl Try.func54 (by kernel_rfl) rfl #[.slice AA rest.length (c - at_), .int .u8 0] rfl (by first | rfl | go_simp) ?_; refine (bytes_IndexByte.calls AA (c - at_) rest 0 _ _ (Kd.C_below HC.out (pw_below_drewN HB.out _)) hrc (by unfold bytes_IndexByte.f; exact congrArg some hn)).mono ?_; rintro _ _ ⟨rfl, ⟨⟨m1, rfl⟩⟩⟩; refine ⟨_, rfl, ?_⟩) | ((with_reducible refine gate_callee (f := 15) rfl ?_); refine goesL_ (some 37) rfl rfl Try.func15 (by kernel_rfl) rfl #[.slice AA y.length (c - at_)] rfl (by rw [HYL.out]; first | rfl | go_simp) ?_; refine (utf_Is.calls k AA (c - at_) y _ _ (Kd.C_below HT.out (pw_below_drewN HB.out _)) HTC.out ht).mono ?_; rintro _ _ ⟨rfl, ⟨⟨m2, rfl⟩⟩⟩; refine ⟨_, rfl, ?_⟩) | ((with_reducible refine gate_callee (f := 55) rfl ?_); refine goesL_ (some 51) rfl rfl Try.func55 (by kernel_rfl) rfl #[.slice AA y.length (c - at_)] rfl (by rw [HYL.out]; first | rfl | go_simp) ?_; refine (slices_Clone_byte_byte.calls AA (c - at_) y y _ (Kd.C_below HT.out (below_set (pw_below_drewN HB.out _) HGE.out)) HTC.out hcl.out).mono ?_; rintro _ w2 ⟨v0, rfl, hR, hb2⟩; have HR := Aside0.mk hR; have HB2 := Aside0.mk hb2; clear hR hb2; refine ⟨_, rfl, ?_⟩))
  go_ret2
  refine ⟨_, rfl, Kd.R_lower HR.out (by simp [World.setCell]), ⟨below_step (below_set (pw_below_drewN HB.out _) HGE.out) HB2.out, HGE.out, ?_⟩, rk_below (rk_set (keep_drewN (KeepBut.refl _ _ _) _)) HB2.out⟩
  refine blk_below ((blk_set (blk_drewN HI.out _) 1 _).trans ?_) HB2.out
  simp [Int.add_assoc]
def ropq (k : Nat) (b : List Int) (at_ : Nat) : Option (List Int × Int × Int) :=
 (num_GetMark.f k b (at_ : Int)).bind fun t =>
 if t.2.2 ≠ 0 then some ([], t.2.2, (at_ : Int)) else
 if t.1 > 64 then some ([], 3, (at_ : Int)) else
 if t.1 = 0 then some ([], 5, (at_ : Int)) else
 if 0 ≤ t.1 ∧ 0 ≤ t.2.1 ∧ t.2.1 ≤ b.length then
  if t.1 > (b.length : Int) - t.2.1 then some ([], 4, (at_ : Int)) else
  some ((b.drop t.2.1.toNat).take t.1.toNat, 0, t.2.1 + t.1)
 else none
set_option maxHeartbeats 8000000 in
set_option maxRecDepth 100000 in
theorem ropq_calls (k : Nat) (A : Option Addr) (c : Nat) (b : List Int) (g at_ : Nat) (r1 : List Int) (r2 : Int) (r3 : Int) (w0 w : World) (hr0 : Kd.C (Kd.int .u8) w0 A b.length b) (hc0 : b.length ≤ c) (hlen : b.length ≤ 16384) (hI : RdR w0 w A c b g at_) (hat : at_ ≤ b.length) (h : ropq k b at_ = some (r1, r2, r3)) :
  Calls Try.prog 51 #[.pointer (some ⟨g, 0, none⟩)] w fun e w' => ∃ v0_ : Value, e = .returned (.tuple #[v0_, .int .i64 r2]) ∧ Kd.R (Kd.int .u8) 5 w' w.heap.size (fun _ => True) v0_ r1 ∧ (∃ r : Nat, r3 = (r : Int) ∧ RdR w0 w' A c b g r) ∧ KeepBut w w' g none := by
 obtain ⟨hB, hge, hblk⟩ := hI
 have hc1 : w.cell? ⟨g, 0, none⟩ = some (.slice A b.length c) := (blk_cell hblk 0).trans rfl
 have hc2 : w.cell? ⟨g, 1, none⟩ = some (.int .i64 (at_ : Int)) := (blk_cell hblk 1).trans rfl
 obtain ⟨i5, hi5, hz5⟩ := Option.map_eq_some_iff.1 info5
 have hsz5 : i5.size = 1 := by simpa using congrArg (fun x => x.2.1) hz5
 have hfz1 := blk_frozen hblk 1
 have HB := Aside0.mk hB
 have HI := Aside0.mk hblk
 have HR0 := Aside0.mk hr0
 have HGE := Aside0.mk hge
 clear hB hblk hr0 hge
 unfold ropq at h
 obtain ⟨⟨n, nx, er⟩, hm, h⟩ := Option.bind_eq_some_iff.1 h
 have HM := Aside0.mk hm
 clear hm
 have hcall : ∀ nq, Calls Try.prog 56 #[.slice A b.length c, .int .i64 (at_ : Int)] (w.drewN nq) fun e w'' => e = .returned (.tuple #[.int .u32 n, .int .i64 nx, .int .i64 er]) ∧ ∃ m, w'' = w.drewN m := fun nq =>
  Calls.quiet_of ((num_GetMark.calls k A c b at_ n nx er _ (Kd.C_below HR0.out (pw_below_drewN HB.out nq)) hc0 HM.out).mono fun e w'' h2 => ⟨h2.1, h2.2.out⟩)
 have HCALL := Aside0.mk hcall
 clear hcall
 dsimp only at h
 by_cases c1 : er ≠ 0
 ·rw [if_pos c1] at h
  obtain ⟨rfl, rfl, rfl⟩ : [] = r1 ∧ er = r2 ∧ (at_ : Int) = r3 := by simpa using h
  go_enter Try.func51, Try.ntmps51
  go_wp2
  go_quiet ((go_at_call 56; exact HCALL.out _))
  go_wp2
  go_ret2
  exact ⟨_, rfl, Kd.R_nil _ _ _ _ _, ⟨at_, rfl, pw_below_drewN HB.out _, HGE.out, HI.out⟩, keep_drewN (KeepBut.refl _ _ _) _⟩
 rw [if_neg c1] at h
 obtain rfl : er = 0 := by omega
 clear c1
 by_cases c2 : n > 64
 ·rw [if_pos c2] at h
  obtain ⟨rfl, rfl, rfl⟩ : [] = r1 ∧ (3 : Int) = r2 ∧ (at_ : Int) = r3 := by simpa using h
  go_enter Try.func51, Try.ntmps51
  go_wp2
  go_quiet ((go_at_call 56; exact HCALL.out _))
  go_wp2
  go_ret2
  exact ⟨_, rfl, Kd.R_nil _ _ _ _ _, ⟨at_, rfl, pw_below_drewN HB.out _, HGE.out, HI.out⟩, keep_drewN (KeepBut.refl _ _ _) _⟩
 rw [if_neg c2] at h
 by_cases c3 : n = 0
 ·rw [if_pos c3] at h
  obtain ⟨rfl, rfl, rfl⟩ : [] = r1 ∧ (5 : Int) = r2 ∧ (at_ : Int) = r3 := by simpa using h
  have c3b : (n == 0) = true := by simp [c3]
  go_enter Try.func51, Try.ntmps51
  go_wp2
  go_quiet ((go_at_call 56; exact HCALL.out _))
  go_wp2
  go_ret2
  exact ⟨_, rfl, Kd.R_nil _ _ _ _ _, ⟨at_, rfl, pw_below_drewN HB.out _, HGE.out, HI.out⟩, keep_drewN (KeepBut.refl _ _ _) _⟩
 rw [if_neg c3] at h
 have c3b : (n == 0) = false := by simp [c3]
 by_cases c4 : 0 ≤ n ∧ 0 ≤ nx ∧ nx ≤ b.length
 case neg => rw [if_neg c4] at h; cases h
 rw [if_pos c4] at h
 obtain ⟨c4a, c4b, c4c⟩ := c4
 have hw0 : IntKind.i64.wrap n = n := by rw [IntKind.wrap_i64]; omega
 have hw1 : IntKind.i64.wrap ((b.length : Int) - nx) = (b.length : Int) - nx := by rw [IntKind.wrap_i64]; omega
 by_cases c5 : n > (b.length : Int) - nx
 ·rw [if_pos c5] at h
  obtain ⟨rfl, rfl, rfl⟩ : [] = r1 ∧ (4 : Int) = r2 ∧ (at_ : Int) = r3 := by simpa using h
  go_enter Try.func51, Try.ntmps51
  go_wp2
  go_quiet ((go_at_call 56; exact HCALL.out _))
  go_wp2
  go_ret2
  exact ⟨_, rfl, Kd.R_nil _ _ _ _ _, ⟨at_, rfl, pw_below_drewN HB.out _, HGE.out, HI.out⟩, keep_drewN (KeepBut.refl _ _ _) _⟩
 rw [if_neg c5] at h
 obtain ⟨rfl, rfl, rfl⟩ : (b.drop nx.toNat).take n.toNat = r1 ∧ (0 : Int) = r2 ∧ nx + n = r3 := by simpa using h
 have hw2 : IntKind.i64.wrap (nx + n) = nx + n := by rw [IntKind.wrap_i64]; omega
 have hcut := cut_mid (P := Try.prog) 22 5 .i64 .i64 Try.underlying22 hi5 1 hsz5 A b.length c nx (nx + n) (by omega) (by omega) (by omega) hc0
 obtain ⟨m, rfl⟩ : ∃ m : Nat, n = (m : Int) := ⟨n.toNat, by omega⟩
 obtain ⟨x, rfl⟩ : ∃ x : Nat, nx = (x : Int) := ⟨nx.toNat, by omega⟩
 have hCT := Kd.C_take (m := m) (Kd.C_drop (c := c) (m := x) HR0.out (by omega) hc0) (by rw [List.length_drop]; omega)
 have e1 : ((x : Int) + (m : Int)).toNat - (x : Int).toNat = m := by omega
 rw [e1] at hcut
 simp only [Int.toNat_natCast] at hcut ⊢
 change ∀ W : World, _ = Result.ok (Value.slice (if c = x then A else A.map (·.add (x * (Kd.int .u8).sz))) _ _) _ at hcut
 have hyl0 : ((b.drop x).take m).length = m := by simp; omega
 generalize (if c = x then A else A.map (·.add (x * (Kd.int .u8).sz))) = AA at hcut hCT
 generalize (b.drop x).take m = y at hCT hyl0 ⊢
 have HT := Aside0.mk hCT
 have HYL := Aside0.mk hyl0
 have HTC : Aside0 (y.length ≤ c - x) := Aside0.mk (by omega)
 have hcl : Aside0 (slices_Clone_byte_byte.f y = some y) := Aside0.mk (by unfold slices_Clone_byte_byte.f; rw [if_pos (by simp; omega)]; simp)
 clear hCT hyl0 e1 h
 go_enter Try.func51, Try.ntmps51
 go_wp2
 go_quiet ((go_at_call 56; exact HCALL.out _))
 go_wp2
 refine atWorld ?_
 intro W1 hW
 have HB1 : Aside0 (Below w0.heap.size w0 W1) := Aside0.mk (by rw [hW]; exact below_set (pw_below_drewN HB.out _) HGE.out)
 have HK1 : Aside0 (KeepBut w W1 g none) := Aside0.mk (by rw [hW]; exact rk_set (keep_drewN (KeepBut.refl _ _ _) _))
 have HI1 : Aside0 (W1.heap[g]? = some (.cells #[.slice A b.length c, .int .i64 ((x : Int) + (m : Int))] 64 (0, 0))) := Aside0.mk (by rw [hW]; exact blk_set (blk_drewN HI.out _) 1 _)
 clear hW
 clear hc1 hc2
 have hs1 : W1.cell? ⟨g, 0, none⟩ = some (.slice A b.length c) := (blk_cell HI1.out 0).trans rfl
 have hs2 : W1.cell? ⟨g, 1, none⟩ = some (.int .i64 ((x : Int) + (m : Int))) := (blk_cell HI1.out 1).trans rfl
 go_region_held3 (fun w' => w'.cell? ⟨g, 0, none⟩ = some (.slice A b.length c) ∧ w'.cell? ⟨g, 1, none⟩ = some (.int .i64 ((x : Int) + (m : Int)))) (go_keep)
  (first | (go_at_call 55; (rw [show (Value.slice AA m (c - x)) = .slice AA y.length (c - x) from by rw [HYL.out]]); refine (slices_Clone_byte_byte.calls AA (c - x) y y _ (Kd.C_below HT.out (below_drew1 HB1.out)) HTC.out hcl.out).mono ?_; rintro _ w2 ⟨v0, rfl, hR, hb2⟩; have HR := Aside0.mk hR; have HB2 := Aside0.mk hb2; clear hR hb2; have hs3 : w2.cell? ⟨g, 0, none⟩ = some (.slice A b.length c) := (blk_cell (blk_below (blk_drew HI1.out) HB2.out) 0).trans rfl; have hs4 : w2.cell? ⟨g, 1, none⟩ = some (.int .i64 ((x : Int) + (m : Int))) := (blk_cell (blk_below (blk_drew HI1.out) HB2.out) 1).trans rfl))
 go_wp2
 go_ret2
 refine ⟨_, rfl, Kd.R_lower HR.out HK1.out.1, ⟨x + m, by simp, below_step (below_drew1 HB1.out) HB2.out, HGE.out, ?_⟩, rk_below (W := W1.drew) HK1.out HB2.out⟩
 refine (blk_below (blk_drew HI1.out) HB2.out).trans ?_
 simp
def rnext (k : Nat) (b : List Int) (at_ : Nat) : Option (Int × Int × List Int × Int × Int) :=
 let c := b.getD at_ 0
 if c = 0 then
  if (at_ : Int) + 1 = b.length then some (0, 0, [], 4, (at_ : Int) + 1) else some (1, b.getD (at_ + 1) 0, [], 0, (at_ : Int) + 2)
 else if c = 1 then some (4, 0, [], 0, (at_ : Int) + 1)
 else if c = 3 then (rtext k b (at_ + 1)).bind fun t => some (5, 0, t.1, t.2.1, (t.2.2 : Int))
 else if c = 195 then (ropq k b (at_ + 1)).bind fun t => some (6, 0, t.1, t.2.1, t.2.2)
 else if 5 ≤ c ∧ c ≤ 63 then some (3, c, [], 0, (at_ : Int) + 1)
 else if 69 ≤ c ∧ c ≤ 127 then some (2, Go.bits .andNot .u8 c 64, [], 0, (at_ : Int) + 1)
 else some (0, 0, [], 5, (at_ : Int) + 1)
theorem rk_Rfar {W : World} {base : Nat} {v : Value} {xs : List Int} {p : Addr} (h : Kd.R (Kd.int .u8) 5 W base (fun _ => True) v xs) (hp : p.block < base) (u : Value) : Kd.R (Kd.int .u8) 5 (W.setCell p u) base (fun _ => True) v xs :=
 Kd.R_mono (Kd.R_far (Kd.R_bound h) (fun k hk => by have := hk.2.1; omega) u) (fun _ _ => trivial)
theorem rk_drew {w W : World} {g : Nat} (h : KeepBut w W g none) : KeepBut w W.drew g none := h
theorem rk_cell {W : World} {p q : Addr} {v u : Value} (h : W.cell? p = some v) (hne : p.block ≠ q.block) : (W.setCell q u).cell? p = some v := by
 have := Below.heap_setCell W q u p.block hne
 simpa [World.cell?, this] using h
theorem rk_new {w W : World} {g j : Nat} {v : Value} (h : KeepBut w W g none) : KeepBut w (W.setCell ⟨w.heap.size, j, none⟩ v) g none :=
 ⟨by have := h.1; simpa [World.setCell] using this, fun i hi hg hr => (Below.heap_setCell W ⟨w.heap.size, j, none⟩ v i (Nat.ne_of_lt hi)).trans (h.2 i hi hg hr)⟩
set_option maxHeartbeats 8000000 in
set_option maxRecDepth 100000 in
theorem rnext_calls (k : Nat) (A : Option Addr) (c : Nat) (b : List Int) (g at_ : Nat) (r1 r2 : Int) (r3 : List Int) (r4 r5 : Int) (w0 w : World) (hr0 : Kd.C (Kd.int .u8) w0 A b.length b) (hc0 : b.length ≤ c) (hlen : b.length ≤ 16384) (hI : RdR w0 w A c b g at_) (hat : at_ < b.length) (h : rnext k b at_ = some (r1, r2, r3, r4, r5)) :
  Calls Try.prog 46 #[.pointer (some ⟨g, 0, none⟩)] w fun e w' => ∃ v0_ : Value, e = .returned (.tuple #[.agg #[.int .u8 r1, .int .u8 r2, v0_], .int .i64 r4]) ∧ Kd.R (Kd.int .u8) 5 w' w.heap.size (fun _ => True) v0_ r3 ∧ (∃ r : Nat, r5 = (r : Int) ∧ RdR w0 w' A c b g r) ∧ KeepBut w w' g none := by
 obtain ⟨hB, hge, hblk⟩ := hI
 obtain ⟨_, _, hz⟩ := Kd.reads_of_C (enc := Value.int .u8) (d := (0 : Int)) (h1 := fun _ => rfl) hr0
 obtain ⟨ad, he, hcell⟩ := hz (by omega)
 subst he
 have HCX0 : Aside0 (∀ i, i < b.length → ∀ W : World, Below w0.heap.size w0 W → W.cell? (ad.add i) = some (.int .u8 (b.getD i 0))) := Aside0.mk (fun i hi W hW => by
  obtain ⟨_, _, hz2⟩ := Kd.reads_of_C (enc := Value.int .u8) (d := (0 : Int)) (h1 := fun _ => rfl) (Kd.C_below hr0 hW)
  obtain ⟨ad2, he2, hcell2⟩ := hz2 (by omega)
  cases he2
  exact hcell2 i hi)
 clear hz hcell
 have HB := Aside0.mk hB
 have HI := Aside0.mk hblk
 have HR0 := Aside0.mk hr0
 have HGE := Aside0.mk hge
 have HNE : Aside0 (w.heap.size ≠ g) := Aside0.mk (fun h2 => by have := blk_lt hblk; omega)
 have HWS : Aside0 (w0.heap.size ≤ w.heap.size) := Aside0.mk hB.size
 clear hB hblk hr0 hge
 unfold rnext at h
 dsimp only at h
 have HCX := Aside0.mk (HCX0.out at_ hat)
 generalize b.getD at_ 0 = c0 at h HCX
 have hti : (at_ : Int) < (b.length : Int) := by omega
 have hti0 : (0 : Int) ≤ (at_ : Int) := by omega
 have hw1 : IntKind.i64.wrap ((at_ : Int) + 1) = (at_ : Int) + 1 := by rw [IntKind.wrap_i64]; omega
 by_cases c1 : c0 = 0
 ·have c1b : (c0 == 0) = true := by simp [c1]
  rw [if_pos c1] at h
  clear c1
  by_cases c2 : (at_ : Int) + 1 = b.length
  ·rw [if_pos c2] at h
   have c2b : ((at_ : Int) + 1 == (b.length : Int)) = true := by simp [c2]
   clear c2
   obtain ⟨rfl, rfl, rfl, rfl, rfl⟩ : (0 : Int) = r1 ∧ (0 : Int) = r2 ∧ [] = r3 ∧ (4 : Int) = r4 ∧ (at_ : Int) + 1 = r5 := by simpa using h
   clear h
   go_enter Try.func46, Try.ntmps46
   go_wp2
   refine atWorld ?_
   intro W1 hW
   have HB1 : Aside0 (Below w0.heap.size w0 W1) := Aside0.mk (by rw [hW]; exact below_alloc HB.out _)
   have HK1 : Aside0 (KeepBut w W1 g none) := Aside0.mk (by rw [hW]; exact keep_alloc (KeepBut.refl _ _ _) _)
   have HI1 : Aside0 (W1.heap[g]? = some (.cells #[.slice (some ad) b.length c, .int .i64 (at_ : Int)] 64 (0, 0))) := Aside0.mk (by rw [hW]; exact blk_alloc HI.out _)
   have HX1 : Aside0 (W1.heap[w.heap.size]? = some (.cells #[.int .u8 0, .int .u8 0, .slice none 0 0] 38 (0, 0))) := Aside0.mk (by rw [hW]; exact blk_new w _)
   clear hW
   have hs1 : W1.cell? ⟨g, 0, none⟩ = some (.slice (some ad) b.length c) := (blk_cell HI1.out 0).trans rfl
   have hs2 : W1.cell? ⟨g, 1, none⟩ = some (.int .i64 (at_ : Int)) := (blk_cell HI1.out 1).trans rfl
   have hs3 : W1.cell? (ad.add at_) = some (.int .u8 c0) := HCX.out W1 HB1.out
   have hz1 := blk_frozen HI1.out 1
   go_quiet (fail)
   go_wp2
   refine atWorld ?_
   intro W2 hW
   have HB2 : Aside0 (Below w0.heap.size w0 W2) := Aside0.mk (by rw [hW]; exact below_set (pw_below_drewN HB1.out _) HGE.out)
   have HK2 : Aside0 (KeepBut w W2 g none) := Aside0.mk (by rw [hW]; exact rk_set (keep_drewN HK1.out _))
   have HI2 : Aside0 (W2.heap[g]? = some (.cells #[.slice (some ad) b.length c, .int .i64 ((at_ : Int) + 1)] 64 (0, 0))) := Aside0.mk (by rw [hW]; exact blk_set (blk_drewN HI1.out _) 1 _)
   have HX2 : Aside0 (W2.heap[w.heap.size]? = some (.cells #[.int .u8 0, .int .u8 0, .slice none 0 0] 38 (0, 0))) := Aside0.mk (by rw [hW]; exact blk_far (blk_drewN HX1.out _) (by simpa using HNE.out) _)
   clear hW hs1 hs2 hs3 hz1
   have hs1 : W2.cell? ⟨g, 0, none⟩ = some (.slice (some ad) b.length c) := (blk_cell HI2.out 0).trans rfl
   have hs2 : W2.cell? ⟨g, 1, none⟩ = some (.int .i64 ((at_ : Int) + 1)) := (blk_cell HI2.out 1).trans rfl
   have hz1 := blk_frozen HI2.out 1
   have hx0 : W2.cell? ⟨w.heap.size, 0, none⟩ = some (.int .u8 0) := (blk_cell HX2.out 0).trans rfl
   have hx1 : W2.cell? ⟨w.heap.size, 1, none⟩ = some (.int .u8 0) := (blk_cell HX2.out 1).trans rfl
   have hx2 : W2.cell? ⟨w.heap.size, 2, none⟩ = some (.slice none 0 0) := (blk_cell HX2.out 2).trans rfl
   have hzx0 := blk_frozen HX2.out 0
   have hzx1 := blk_frozen HX2.out 1
   have hzx2 := blk_frozen HX2.out 2
   go_quiet (fail)
   go_wp2
   refine atWorldB ?_
   intro W3 hW
   have HB3 : Aside0 (Below w0.heap.size w0 W3) := Aside0.mk (by rw [hW]; exact below_set (below_set (below_set (pw_below_drewN HB2.out _) HWS.out) HWS.out) HWS.out)
   have HK3 : Aside0 (KeepBut w W3 g none) := Aside0.mk (by rw [hW]; exact rk_new (rk_new (rk_new (keep_drewN HK2.out _))))
   have HI3 : Aside0 (W3.heap[g]? = some (.cells #[.slice (some ad) b.length c, .int .i64 ((at_ : Int) + 1)] 64 (0, 0))) := Aside0.mk (by rw [hW]; exact blk_far (blk_far (blk_far (blk_drewN HI2.out _) HNE.out.symm _) HNE.out.symm _) HNE.out.symm _)
   have HX3 : Aside0 (W3.heap[w.heap.size]? = some (.cells #[.int .u8 0, .int .u8 0, .slice none 0 0] 38 (0, 0))) := Aside0.mk (by rw [hW]; exact blk_set (blk_set (blk_set (blk_drewN HX2.out _) 0 _) 1 _) 2 _)
   clear hW hs1 hs2 hx0 hx1 hx2
   have hy0 : W3.cell? ⟨w.heap.size, 0, none⟩ = some (.int .u8 0) := (blk_cell HX3.out 0).trans rfl
   have hy1 : W3.cell? ⟨w.heap.size, 1, none⟩ = some (.int .u8 0) := (blk_cell HX3.out 1).trans rfl
   have hy2 : W3.cell? ⟨w.heap.size, 2, none⟩ = some (.slice none 0 0) := (blk_cell HX3.out 2).trans rfl
   exact bodyPost_ret (v := .tuple #[.agg #[.int .u8 0, .int .u8 0, .slice none 0 0], .int .i64 4]) (by simp [results, Try.results46, hy0, hy1, hy2, go_sem]) rfl ⟨_, rfl, Kd.R_nil _ _ _ _ _, ⟨at_ + 1, by simp, HB3.out, HGE.out, by simpa using HI3.out⟩, HK3.out⟩
  rw [if_neg c2] at h
  have c2b : ((at_ : Int) + 1 == (b.length : Int)) = false := by simp [c2]
  have hl1 : at_ + 1 < b.length := by omega
  have HCY := Aside0.mk (HCX0.out (at_ + 1) hl1)
  generalize b.getD (at_ + 1) 0 = c3 at h HCY
  have hti1 : (at_ : Int) + 1 < (b.length : Int) := by omega
  have hti2 : (0 : Int) ≤ (at_ : Int) + 1 := by omega
  have hti3 : ((at_ : Int) + 1).toNat = at_ + 1 := by omega
  have hw2 : IntKind.i64.wrap ((at_ : Int) + 1 + 1) = (at_ : Int) + 2 := by rw [IntKind.wrap_i64]; omega
  have hw3 : IntKind.i64.wrap ((at_ : Int) + 2 - 1) = (at_ : Int) + 1 := by rw [IntKind.wrap_i64]; omega
  obtain ⟨rfl, rfl, rfl, rfl, rfl⟩ : (1 : Int) = r1 ∧ c3 = r2 ∧ [] = r3 ∧ (0 : Int) = r4 ∧ (at_ : Int) + 2 = r5 := by simpa using h
  clear h c2
  go_enter Try.func46, Try.ntmps46
  go_wp2
  refine atWorld ?_
  intro W1 hW
  have HB1 : Aside0 (Below w0.heap.size w0 W1) := Aside0.mk (by rw [hW]; exact below_alloc HB.out _)
  have HK1 : Aside0 (KeepBut w W1 g none) := Aside0.mk (by rw [hW]; exact keep_alloc (KeepBut.refl _ _ _) _)
  have HI1 : Aside0 (W1.heap[g]? = some (.cells #[.slice (some ad) b.length c, .int .i64 (at_ : Int)] 64 (0, 0))) := Aside0.mk (by rw [hW]; exact blk_alloc HI.out _)
  have HX1 : Aside0 (W1.heap[w.heap.size]? = some (.cells #[.int .u8 0, .int .u8 0, .slice none 0 0] 38 (0, 0))) := Aside0.mk (by rw [hW]; exact blk_new w _)
  clear hW
  have hs1 : W1.cell? ⟨g, 0, none⟩ = some (.slice (some ad) b.length c) := (blk_cell HI1.out 0).trans rfl
  have hs2 : W1.cell? ⟨g, 1, none⟩ = some (.int .i64 (at_ : Int)) := (blk_cell HI1.out 1).trans rfl
  have hs3 : W1.cell? (ad.add at_) = some (.int .u8 c0) := HCX.out W1 HB1.out
  have hz1 := blk_frozen HI1.out 1
  go_quiet (fail)
  go_wp2
  refine atWorld ?_
  intro W2 hW
  have HB2 : Aside0 (Below w0.heap.size w0 W2) := Aside0.mk (by rw [hW]; exact below_set (pw_below_drewN HB1.out _) HGE.out)
  have HK2 : Aside0 (KeepBut w W2 g none) := Aside0.mk (by rw [hW]; exact rk_set (keep_drewN HK1.out _))
  have HI2 : Aside0 (W2.heap[g]? = some (.cells #[.slice (some ad) b.length c, .int .i64 ((at_ : Int) + 1)] 64 (0, 0))) := Aside0.mk (by rw [hW]; exact blk_set (blk_drewN HI1.out _) 1 _)
  have HX2 : Aside0 (W2.heap[w.heap.size]? = some (.cells #[.int .u8 0, .int .u8 0, .slice none 0 0] 38 (0, 0))) := Aside0.mk (by rw [hW]; exact blk_far (blk_drewN HX1.out _) (by simpa using HNE.out) _)
  clear hW hs1 hs2 hs3 hz1
  have hs1 : W2.cell? ⟨g, 0, none⟩ = some (.slice (some ad) b.length c) := (blk_cell HI2.out 0).trans rfl
  have hs2 : W2.cell? ⟨g, 1, none⟩ = some (.int .i64 ((at_ : Int) + 1)) := (blk_cell HI2.out 1).trans rfl
  have hz1 := blk_frozen HI2.out 1
  have hx0 : W2.cell? ⟨w.heap.size, 0, none⟩ = some (.int .u8 0) := (blk_cell HX2.out 0).trans rfl
  have hx1 : W2.cell? ⟨w.heap.size, 1, none⟩ = some (.int .u8 0) := (blk_cell HX2.out 1).trans rfl
  have hx2 : W2.cell? ⟨w.heap.size, 2, none⟩ = some (.slice none 0 0) := (blk_cell HX2.out 2).trans rfl
  have hzx0 := blk_frozen HX2.out 0
  have hzx1 := blk_frozen HX2.out 1
  have hzx2 := blk_frozen HX2.out 2
  go_quiet (fail)
  go_wp2
  refine atWorld ?_
  intro W4 hW
  have HB4 : Aside0 (Below w0.heap.size w0 W4) := Aside0.mk (by rw [hW]; exact below_set (pw_below_drewN HB2.out _) HGE.out)
  have HK4 : Aside0 (KeepBut w W4 g none) := Aside0.mk (by rw [hW]; exact rk_set (keep_drewN HK2.out _))
  have HI4 : Aside0 (W4.heap[g]? = some (.cells #[.slice (some ad) b.length c, .int .i64 ((at_ : Int) + 2)] 64 (0, 0))) := Aside0.mk (by rw [hW]; exact blk_set (blk_drewN HI2.out _) 1 _)
  have HX4 : Aside0 (W4.heap[w.heap.size]? = some (.cells #[.int .u8 0, .int .u8 0, .slice none 0 0] 38 (0, 0))) := Aside0.mk (by rw [hW]; exact blk_far (blk_drewN HX2.out _) (by simpa using HNE.out) _)
  clear hW hs1 hs2 hz1 hx0 hx1 hx2 hzx0 hzx1 hzx2
  have hs1 : W4.cell? ⟨g, 0, none⟩ = some (.slice (some ad) b.length c) := (blk_cell HI4.out 0).trans rfl
  have hs2 : W4.cell? ⟨g, 1, none⟩ = some (.int .i64 ((at_ : Int) + 2)) := (blk_cell HI4.out 1).trans rfl
  have hs3 : W4.cell? (ad.add (at_ + 1)) = some (.int .u8 c3) := HCY.out W4 HB4.out
  have hx0 : W4.cell? ⟨w.heap.size, 0, none⟩ = some (.int .u8 0) := (blk_cell HX4.out 0).trans rfl
  have hx1 : W4.cell? ⟨w.heap.size, 1, none⟩ = some (.int .u8 0) := (blk_cell HX4.out 1).trans rfl
  have hx2 : W4.cell? ⟨w.heap.size, 2, none⟩ = some (.slice none 0 0) := (blk_cell HX4.out 2).trans rfl
  have hzx0 := blk_frozen HX4.out 0
  have hzx1 := blk_frozen HX4.out 1
  have hzx2 := blk_frozen HX4.out 2
  rw [show ad.add (at_ + 1) = ⟨ad.block, ad.off + (at_ + 1), none⟩ from by unfold Addr.add; rw [if_neg (by omega)]] at hs3
  have hadb : ad.block ≠ w.heap.size := by
   have h1_ := World.block_lt_of_cell? _ _ (HCY.out w HB.out)
   rw [show ad.add (at_ + 1) = ⟨ad.block, ad.off + (at_ + 1), none⟩ from by unfold Addr.add; rw [if_neg (by omega)]] at h1_
   exact Nat.ne_of_lt h1_
  have HADB := Aside0.mk hadb
  clear hadb
  go_region_held3 (fun w' => w'.cell? ⟨g, 0, none⟩ = some (.slice (some ad) b.length c) ∧ w'.cell? ⟨g, 1, none⟩ = some (.int .i64 ((at_ : Int) + 2)) ∧ w'.cell? ⟨ad.block, ad.off + (at_ + 1), none⟩ = some (.int .u8 c3)) (first | exact ⟨rk_cell (rk_cell (rk_cell hs1 HNE.out.symm) HNE.out.symm) HNE.out.symm, rk_cell (rk_cell (rk_cell hs2 HNE.out.symm) HNE.out.symm) HNE.out.symm, rk_cell (rk_cell (rk_cell hs3 HADB.out) HADB.out) HADB.out⟩ | go_keep) (first | fail)
  go_wp2
  refine atWorldB ?_
  intro W3 hW
  have HB3 : Aside0 (Below w0.heap.size w0 W3) := Aside0.mk (by rw [hW]; exact below_drew1 (below_set (below_set (below_set HB4.out HWS.out) HWS.out) HWS.out))
  have HK3 : Aside0 (KeepBut w W3 g none) := Aside0.mk (by rw [hW]; exact rk_drew (rk_new (rk_new (rk_new HK4.out))))
  have HI3 : Aside0 (W3.heap[g]? = some (.cells #[.slice (some ad) b.length c, .int .i64 ((at_ : Int) + 2)] 64 (0, 0))) := Aside0.mk (by rw [hW]; exact blk_drew (blk_far (blk_far (blk_far HI4.out HNE.out.symm _) HNE.out.symm _) HNE.out.symm _))
  have HX3 : Aside0 (W3.heap[w.heap.size]? = some (.cells #[.int .u8 1, .int .u8 c3, .slice none 0 0] 38 (0, 0))) := Aside0.mk (by rw [hW]; exact blk_drew (blk_set (blk_set (blk_set HX4.out 0 _) 1 _) 2 _))
  clear hW hs1 hs2 hs3 hx0 hx1 hx2
  have hy0 : W3.cell? ⟨w.heap.size, 0, none⟩ = some (.int .u8 1) := (blk_cell HX3.out 0).trans rfl
  have hy1 : W3.cell? ⟨w.heap.size, 1, none⟩ = some (.int .u8 c3) := (blk_cell HX3.out 1).trans rfl
  have hy2 : W3.cell? ⟨w.heap.size, 2, none⟩ = some (.slice none 0 0) := (blk_cell HX3.out 2).trans rfl
  exact bodyPost_ret (v := .tuple #[.agg #[.int .u8 1, .int .u8 c3, .slice none 0 0], .int .i64 0]) (by simp [results, Try.results46, hy0, hy1, hy2, go_sem]) rfl ⟨_, rfl, Kd.R_nil _ _ _ _ _, ⟨at_ + 2, by simp, HB3.out, HGE.out, by simpa using HI3.out⟩, HK3.out⟩
 rw [if_neg c1] at h
 have c1b : (c0 == 0) = false := by simp [c1]
 by_cases c2 : c0 = 1
 ·rw [if_pos c2] at h
  have c2b : (c0 == 1) = true := by simp [c2]
  clear c1 c2
  obtain ⟨rfl, rfl, rfl, rfl, rfl⟩ : (4 : Int) = r1 ∧ (0 : Int) = r2 ∧ [] = r3 ∧ (0 : Int) = r4 ∧ (at_ : Int) + 1 = r5 := by simpa using h
  clear h
  go_enter Try.func46, Try.ntmps46
  go_wp2
  refine atWorld ?_
  intro W1 hW
  have HB1 : Aside0 (Below w0.heap.size w0 W1) := Aside0.mk (by rw [hW]; exact below_alloc HB.out _)
  have HK1 : Aside0 (KeepBut w W1 g none) := Aside0.mk (by rw [hW]; exact keep_alloc (KeepBut.refl _ _ _) _)
  have HI1 : Aside0 (W1.heap[g]? = some (.cells #[.slice (some ad) b.length c, .int .i64 (at_ : Int)] 64 (0, 0))) := Aside0.mk (by rw [hW]; exact blk_alloc HI.out _)
  have HX1 : Aside0 (W1.heap[w.heap.size]? = some (.cells #[.int .u8 0, .int .u8 0, .slice none 0 0] 38 (0, 0))) := Aside0.mk (by rw [hW]; exact blk_new w _)
  clear hW
  have hs1 : W1.cell? ⟨g, 0, none⟩ = some (.slice (some ad) b.length c) := (blk_cell HI1.out 0).trans rfl
  have hs2 : W1.cell? ⟨g, 1, none⟩ = some (.int .i64 (at_ : Int)) := (blk_cell HI1.out 1).trans rfl
  have hs3 : W1.cell? (ad.add at_) = some (.int .u8 c0) := HCX.out W1 HB1.out
  have hz1 := blk_frozen HI1.out 1
  go_quiet (fail)
  go_wp2
  refine atWorld ?_
  intro W2 hW
  have HB2 : Aside0 (Below w0.heap.size w0 W2) := Aside0.mk (by rw [hW]; exact below_set (pw_below_drewN HB1.out _) HGE.out)
  have HK2 : Aside0 (KeepBut w W2 g none) := Aside0.mk (by rw [hW]; exact rk_set (keep_drewN HK1.out _))
  have HI2 : Aside0 (W2.heap[g]? = some (.cells #[.slice (some ad) b.length c, .int .i64 ((at_ : Int) + 1)] 64 (0, 0))) := Aside0.mk (by rw [hW]; exact blk_set (blk_drewN HI1.out _) 1 _)
  have HX2 : Aside0 (W2.heap[w.heap.size]? = some (.cells #[.int .u8 0, .int .u8 0, .slice none 0 0] 38 (0, 0))) := Aside0.mk (by rw [hW]; exact blk_far (blk_drewN HX1.out _) (by simpa using HNE.out) _)
  clear hW hs1 hs2 hs3 hz1
  have hs1 : W2.cell? ⟨g, 0, none⟩ = some (.slice (some ad) b.length c) := (blk_cell HI2.out 0).trans rfl
  have hs2 : W2.cell? ⟨g, 1, none⟩ = some (.int .i64 ((at_ : Int) + 1)) := (blk_cell HI2.out 1).trans rfl
  have hz1 := blk_frozen HI2.out 1
  have hx0 : W2.cell? ⟨w.heap.size, 0, none⟩ = some (.int .u8 0) := (blk_cell HX2.out 0).trans rfl
  have hx1 : W2.cell? ⟨w.heap.size, 1, none⟩ = some (.int .u8 0) := (blk_cell HX2.out 1).trans rfl
  have hx2 : W2.cell? ⟨w.heap.size, 2, none⟩ = some (.slice none 0 0) := (blk_cell HX2.out 2).trans rfl
  have hzx0 := blk_frozen HX2.out 0
  have hzx1 := blk_frozen HX2.out 1
  have hzx2 := blk_frozen HX2.out 2
  go_quiet (fail)
  go_wp2
  refine atWorldB ?_
  intro W3 hW
  have HB3 : Aside0 (Below w0.heap.size w0 W3) := Aside0.mk (by rw [hW]; exact below_set (below_set (below_set (pw_below_drewN HB2.out _) HWS.out) HWS.out) HWS.out)
  have HK3 : Aside0 (KeepBut w W3 g none) := Aside0.mk (by rw [hW]; exact rk_new (rk_new (rk_new (keep_drewN HK2.out _))))
  have HI3 : Aside0 (W3.heap[g]? = some (.cells #[.slice (some ad) b.length c, .int .i64 ((at_ : Int) + 1)] 64 (0, 0))) := Aside0.mk (by rw [hW]; exact blk_far (blk_far (blk_far (blk_drewN HI2.out _) HNE.out.symm _) HNE.out.symm _) HNE.out.symm _)
  have HX3 : Aside0 (W3.heap[w.heap.size]? = some (.cells #[.int .u8 4, .int .u8 0, .slice none 0 0] 38 (0, 0))) := Aside0.mk (by rw [hW]; exact blk_set (blk_set (blk_set (blk_drewN HX2.out _) 0 _) 1 _) 2 _)
  clear hW hs1 hs2 hx0 hx1 hx2
  have hy0 : W3.cell? ⟨w.heap.size, 0, none⟩ = some (.int .u8 4) := (blk_cell HX3.out 0).trans rfl
  have hy1 : W3.cell? ⟨w.heap.size, 1, none⟩ = some (.int .u8 0) := (blk_cell HX3.out 1).trans rfl
  have hy2 : W3.cell? ⟨w.heap.size, 2, none⟩ = some (.slice none 0 0) := (blk_cell HX3.out 2).trans rfl
  exact bodyPost_ret (v := .tuple #[.agg #[.int .u8 4, .int .u8 0, .slice none 0 0], .int .i64 0]) (by simp [results, Try.results46, hy0, hy1, hy2, go_sem]) rfl ⟨_, rfl, Kd.R_nil _ _ _ _ _, ⟨at_ + 1, by simp, HB3.out, HGE.out, by simpa using HI3.out⟩, HK3.out⟩
 rw [if_neg c2] at h
 have c2b : (c0 == 1) = false := by simp [c2]
 by_cases c3 : c0 = 3
 ·rw [if_pos c3] at h
  have c3b : (c0 == 3) = true := by simp [c3]
  clear c1 c2
  obtain ⟨⟨d1, d2, d3⟩, hd, h⟩ := Option.bind_eq_some_iff.1 h
  obtain ⟨rfl, rfl, rfl, rfl, rfl⟩ : (5 : Int) = r1 ∧ (0 : Int) = r2 ∧ d1 = r3 ∧ d2 = r4 ∧ (d3 : Int) = r5 := by simpa using h
  have HD := Aside0.mk hd
  clear h hd
  have HAT : Aside0 (at_ + 1 ≤ b.length) := Aside0.mk (by omega)
  have HLN := Aside0.mk hlen
  have HC0 := Aside0.mk hc0
  go_enter Try.func46, Try.ntmps46
  go_wp2
  refine atWorld ?_
  intro W1 hW
  have HB1 : Aside0 (Below w0.heap.size w0 W1) := Aside0.mk (by rw [hW]; exact below_alloc HB.out _)
  have HK1 : Aside0 (KeepBut w W1 g none) := Aside0.mk (by rw [hW]; exact keep_alloc (KeepBut.refl _ _ _) _)
  have HI1 : Aside0 (W1.heap[g]? = some (.cells #[.slice (some ad) b.length c, .int .i64 (at_ : Int)] 64 (0, 0))) := Aside0.mk (by rw [hW]; exact blk_alloc HI.out _)
  have HX1 : Aside0 (W1.heap[w.heap.size]? = some (.cells #[.int .u8 0, .int .u8 0, .slice none 0 0] 38 (0, 0))) := Aside0.mk (by rw [hW]; exact blk_new w _)
  clear hW
  have hs1 : W1.cell? ⟨g, 0, none⟩ = some (.slice (some ad) b.length c) := (blk_cell HI1.out 0).trans rfl
  have hs2 : W1.cell? ⟨g, 1, none⟩ = some (.int .i64 (at_ : Int)) := (blk_cell HI1.out 1).trans rfl
  have hs3 : W1.cell? (ad.add at_) = some (.int .u8 c0) := HCX.out W1 HB1.out
  have hz1 := blk_frozen HI1.out 1
  go_quiet (fail)
  go_wp2
  refine atWorld ?_
  intro W2 hW
  have HB2 : Aside0 (Below w0.heap.size w0 W2) := Aside0.mk (by rw [hW]; exact below_set (pw_below_drewN HB1.out _) HGE.out)
  have HK2 : Aside0 (KeepBut w W2 g none) := Aside0.mk (by rw [hW]; exact rk_set (keep_drewN HK1.out _))
  have HI2 : Aside0 (W2.heap[g]? = some (.cells #[.slice (some ad) b.length c, .int .i64 ((at_ : Int) + 1)] 64 (0, 0))) := Aside0.mk (by rw [hW]; exact blk_set (blk_drewN HI1.out _) 1 _)
  have HX2 : Aside0 (W2.heap[w.heap.size]? = some (.cells #[.int .u8 0, .int .u8 0, .slice none 0 0] 38 (0, 0))) := Aside0.mk (by rw [hW]; exact blk_far (blk_drewN HX1.out _) (by simpa using HNE.out) _)
  clear hW hs1 hs2 hs3 hz1
  have hs1 : W2.cell? ⟨g, 0, none⟩ = some (.slice (some ad) b.length c) := (blk_cell HI2.out 0).trans rfl
  have hs2 : W2.cell? ⟨g, 1, none⟩ = some (.int .i64 ((at_ : Int) + 1)) := (blk_cell HI2.out 1).trans rfl
  have hz1 := blk_frozen HI2.out 1
  have hx0 : W2.cell? ⟨w.heap.size, 0, none⟩ = some (.int .u8 0) := (blk_cell HX2.out 0).trans rfl
  have hx1 : W2.cell? ⟨w.heap.size, 1, none⟩ = some (.int .u8 0) := (blk_cell HX2.out 1).trans rfl
  have hx2 : W2.cell? ⟨w.heap.size, 2, none⟩ = some (.slice none 0 0) := (blk_cell HX2.out 2).trans rfl
  have hzx0 := blk_frozen HX2.out 0
  have hzx1 := blk_frozen HX2.out 1
  have hzx2 := blk_frozen HX2.out 2
  go_quiet (fail)
  go_wp2_with (first | ((with_reducible refine gate_callee (f := 50) rfl ?_); refine atWorldL ?_; intro W3 hW; have HB3 : Aside0 (Below w0.heap.size w0 W3) := Aside0.mk (by rw [hW]; exact below_set (pw_below_drewN HB2.out _) HWS.out); have HK3 : Aside0 (KeepBut w W3 g none) := Aside0.mk (by rw [hW]; exact rk_new (keep_drewN HK2.out _)); have HI3 : Aside0 (W3.heap[g]? = some (.cells #[.slice (some ad) b.length c, .int .i64 ((at_ : Int) + 1)] 64 (0, 0))) := Aside0.mk (by rw [hW]; exact blk_far (blk_drewN HI2.out _) HNE.out.symm _); have HX3 : Aside0 (W3.heap[w.heap.size]? = some (.cells #[.int .u8 5, .int .u8 0, .slice none 0 0] 38 (0, 0))) := Aside0.mk (by rw [hW]; exact blk_set (blk_drewN HX2.out _) 0 _); clear hW hs1 hs2 hz1 hx0 hx1 hx2 hzx0 hzx1 hzx2; refine goesL_ (some 70) rfl rfl Try.func50 (by kernel_rfl) rfl #[.pointer (some ⟨g, 0, none⟩)] rfl (by first | rfl | go_simp) ?_; refine (rtext_calls k (some ad) c b g (at_ + 1) d1 d2 d3 w0 W3 HR0.out HC0.out HLN.out ⟨HB3.out, HGE.out, by simpa using HI3.out⟩ HAT.out HD.out).mono ?_; rintro _ W4 ⟨v0, rfl, hR, hI4, hK4⟩; have HX4 := Aside0.mk (hK4.blk HX3.out HNE.out (by simp)); have HR4 := Aside0.mk hR; have HI4 := Aside0.mk hI4; have HK4 := Aside0.mk (HK3.out.trans hK4 (.inl rfl)); have HS4 : Aside0 (w.heap.size < W3.heap.size) := Aside0.mk (blk_lt HX3.out); clear hR hI4 hK4; obtain ⟨A5, c5, e5⟩ := Kd.R_slice HR4.out; subst e5; have hx0 : W4.cell? ⟨w.heap.size, 0, none⟩ = some (.int .u8 5) := (blk_cell HX4.out 0).trans rfl; have hx1 : W4.cell? ⟨w.heap.size, 1, none⟩ = some (.int .u8 0) := (blk_cell HX4.out 1).trans rfl; have hx2 : W4.cell? ⟨w.heap.size, 2, none⟩ = some (.slice none 0 0) := (blk_cell HX4.out 2).trans rfl; have hzx0 := blk_frozen HX4.out 0; have hzx1 := blk_frozen HX4.out 1; have hzx2 := blk_frozen HX4.out 2; refine ⟨_, rfl, ?_⟩))
  refine atWorldB ?_
  intro W5 hW
  have HX5 : Aside0 (W5.heap[w.heap.size]? = some (.cells #[.int .u8 5, .int .u8 0, .slice A5 d1.length c5] 38 (0, 0))) := Aside0.mk (by rw [hW]; exact blk_set (blk_set (blk_set (blk_set HX4.out 2 _) 0 _) 1 _) 2 _)
  have HK5 : Aside0 (KeepBut w W5 g none) := Aside0.mk (by rw [hW]; exact rk_new (rk_new (rk_new (rk_new HK4.out))))
  have HR5 : Aside0 (Kd.R (Kd.int .u8) 5 W5 W3.heap.size (fun _ => True) (.slice A5 d1.length c5) d1) := Aside0.mk (by rw [hW]; exact rk_Rfar (rk_Rfar (rk_Rfar (rk_Rfar HR4.out HS4.out _) HS4.out _) HS4.out _) HS4.out _)
  have hI5 : ∃ r : Nat, (d3 : Int) = (r : Int) ∧ RdR w0 W5 (some ad) c b g r := by
   obtain ⟨q1, q2, q3⟩ := HI4.out
   exact ⟨_, rfl, by rw [hW]; exact below_set (below_set (below_set (below_set q1 HWS.out) HWS.out) HWS.out) HWS.out, q2, by rw [hW]; exact blk_far (blk_far (blk_far (blk_far q3 HNE.out.symm _) HNE.out.symm _) HNE.out.symm _) HNE.out.symm _⟩
  clear hW hx0 hx1 hx2
  have hy0 : W5.cell? ⟨w.heap.size, 0, none⟩ = some (.int .u8 5) := (blk_cell HX5.out 0).trans rfl
  have hy1 : W5.cell? ⟨w.heap.size, 1, none⟩ = some (.int .u8 0) := (blk_cell HX5.out 1).trans rfl
  have hy2 : W5.cell? ⟨w.heap.size, 2, none⟩ = some (.slice A5 d1.length c5) := (blk_cell HX5.out 2).trans rfl
  exact bodyPost_ret (v := .tuple #[.agg #[.int .u8 5, .int .u8 0, .slice A5 d1.length c5], .int .i64 d2]) (by simp [results, Try.results46, hy0, hy1, hy2, go_sem]) rfl ⟨_, rfl, Kd.R_lower HR5.out HK3.out.1, hI5, HK5.out⟩
 rw [if_neg c3] at h
 have c3b : (c0 == 3) = false := by simp [c3]
 by_cases c4 : c0 = 195
 ·rw [if_pos c4] at h
  have c4b : (c0 == 195) = true := by simp [c4]
  clear c1 c2 c3
  obtain ⟨⟨d1, d2, d3⟩, hd, h⟩ := Option.bind_eq_some_iff.1 h
  obtain ⟨rfl, rfl, rfl, rfl, rfl⟩ : (6 : Int) = r1 ∧ (0 : Int) = r2 ∧ d1 = r3 ∧ d2 = r4 ∧ d3 = r5 := by simpa using h
  have HD := Aside0.mk hd
  clear h hd
  have HAT : Aside0 (at_ + 1 ≤ b.length) := Aside0.mk (by omega)
  have HLN := Aside0.mk hlen
  have HC0 := Aside0.mk hc0
  go_enter Try.func46, Try.ntmps46
  go_wp2
  refine atWorld ?_
  intro W1 hW
  have HB1 : Aside0 (Below w0.heap.size w0 W1) := Aside0.mk (by rw [hW]; exact below_alloc HB.out _)
  have HK1 : Aside0 (KeepBut w W1 g none) := Aside0.mk (by rw [hW]; exact keep_alloc (KeepBut.refl _ _ _) _)
  have HI1 : Aside0 (W1.heap[g]? = some (.cells #[.slice (some ad) b.length c, .int .i64 (at_ : Int)] 64 (0, 0))) := Aside0.mk (by rw [hW]; exact blk_alloc HI.out _)
  have HX1 : Aside0 (W1.heap[w.heap.size]? = some (.cells #[.int .u8 0, .int .u8 0, .slice none 0 0] 38 (0, 0))) := Aside0.mk (by rw [hW]; exact blk_new w _)
  clear hW
  have hs1 : W1.cell? ⟨g, 0, none⟩ = some (.slice (some ad) b.length c) := (blk_cell HI1.out 0).trans rfl
  have hs2 : W1.cell? ⟨g, 1, none⟩ = some (.int .i64 (at_ : Int)) := (blk_cell HI1.out 1).trans rfl
  have hs3 : W1.cell? (ad.add at_) = some (.int .u8 c0) := HCX.out W1 HB1.out
  have hz1 := blk_frozen HI1.out 1
  go_quiet (fail)
  go_wp2
  refine atWorld ?_
  intro W2 hW
  have HB2 : Aside0 (Below w0.heap.size w0 W2) := Aside0.mk (by rw [hW]; exact below_set (pw_below_drewN HB1.out _) HGE.out)
  have HK2 : Aside0 (KeepBut w W2 g none) := Aside0.mk (by rw [hW]; exact rk_set (keep_drewN HK1.out _))
  have HI2 : Aside0 (W2.heap[g]? = some (.cells #[.slice (some ad) b.length c, .int .i64 ((at_ : Int) + 1)] 64 (0, 0))) := Aside0.mk (by rw [hW]; exact blk_set (blk_drewN HI1.out _) 1 _)
  have HX2 : Aside0 (W2.heap[w.heap.size]? = some (.cells #[.int .u8 0, .int .u8 0, .slice none 0 0] 38 (0, 0))) := Aside0.mk (by rw [hW]; exact blk_far (blk_drewN HX1.out _) (by simpa using HNE.out) _)
  clear hW hs1 hs2 hs3 hz1
  have hs1 : W2.cell? ⟨g, 0, none⟩ = some (.slice (some ad) b.length c) := (blk_cell HI2.out 0).trans rfl
  have hs2 : W2.cell? ⟨g, 1, none⟩ = some (.int .i64 ((at_ : Int) + 1)) := (blk_cell HI2.out 1).trans rfl
  have hz1 := blk_frozen HI2.out 1
  have hx0 : W2.cell? ⟨w.heap.size, 0, none⟩ = some (.int .u8 0) := (blk_cell HX2.out 0).trans rfl
  have hx1 : W2.cell? ⟨w.heap.size, 1, none⟩ = some (.int .u8 0) := (blk_cell HX2.out 1).trans rfl
  have hx2 : W2.cell? ⟨w.heap.size, 2, none⟩ = some (.slice none 0 0) := (blk_cell HX2.out 2).trans rfl
  have hzx0 := blk_frozen HX2.out 0
  have hzx1 := blk_frozen HX2.out 1
  have hzx2 := blk_frozen HX2.out 2
  go_quiet (fail)
  go_wp2_with (first | ((with_reducible refine gate_callee (f := 51) rfl ?_); refine atWorldL ?_; intro W3 hW; have HB3 : Aside0 (Below w0.heap.size w0 W3) := Aside0.mk (by rw [hW]; exact below_set (pw_below_drewN HB2.out _) HWS.out); have HK3 : Aside0 (KeepBut w W3 g none) := Aside0.mk (by rw [hW]; exact rk_new (keep_drewN HK2.out _)); have HI3 : Aside0 (W3.heap[g]? = some (.cells #[.slice (some ad) b.length c, .int .i64 ((at_ : Int) + 1)] 64 (0, 0))) := Aside0.mk (by rw [hW]; exact blk_far (blk_drewN HI2.out _) HNE.out.symm _); have HX3 : Aside0 (W3.heap[w.heap.size]? = some (.cells #[.int .u8 6, .int .u8 0, .slice none 0 0] 38 (0, 0))) := Aside0.mk (by rw [hW]; exact blk_set (blk_drewN HX2.out _) 0 _); clear hW hs1 hs2 hz1 hx0 hx1 hx2 hzx0 hzx1 hzx2; refine goesL_ (some 82) rfl rfl Try.func51 (by kernel_rfl) rfl #[.pointer (some ⟨g, 0, none⟩)] rfl (by first | rfl | go_simp) ?_; refine (ropq_calls k (some ad) c b g (at_ + 1) d1 d2 d3 w0 W3 HR0.out HC0.out HLN.out ⟨HB3.out, HGE.out, by simpa using HI3.out⟩ HAT.out HD.out).mono ?_; rintro _ W4 ⟨v0, rfl, hR, hI4, hK4⟩; have HX4 := Aside0.mk (hK4.blk HX3.out HNE.out (by simp)); have HR4 := Aside0.mk hR; have HI4 := Aside0.mk hI4; have HK4 := Aside0.mk (HK3.out.trans hK4 (.inl rfl)); have HS4 : Aside0 (w.heap.size < W3.heap.size) := Aside0.mk (blk_lt HX3.out); clear hR hI4 hK4; obtain ⟨A5, c5, e5⟩ := Kd.R_slice HR4.out; subst e5; have hx0 : W4.cell? ⟨w.heap.size, 0, none⟩ = some (.int .u8 6) := (blk_cell HX4.out 0).trans rfl; have hx1 : W4.cell? ⟨w.heap.size, 1, none⟩ = some (.int .u8 0) := (blk_cell HX4.out 1).trans rfl; have hx2 : W4.cell? ⟨w.heap.size, 2, none⟩ = some (.slice none 0 0) := (blk_cell HX4.out 2).trans rfl; have hzx0 := blk_frozen HX4.out 0; have hzx1 := blk_frozen HX4.out 1; have hzx2 := blk_frozen HX4.out 2; refine ⟨_, rfl, ?_⟩))
  refine atWorldB ?_
  intro W5 hW
  have HX5 : Aside0 (W5.heap[w.heap.size]? = some (.cells #[.int .u8 6, .int .u8 0, .slice A5 d1.length c5] 38 (0, 0))) := Aside0.mk (by rw [hW]; exact blk_set (blk_set (blk_set (blk_set HX4.out 2 _) 0 _) 1 _) 2 _)
  have HK5 : Aside0 (KeepBut w W5 g none) := Aside0.mk (by rw [hW]; exact rk_new (rk_new (rk_new (rk_new HK4.out))))
  have HR5 : Aside0 (Kd.R (Kd.int .u8) 5 W5 W3.heap.size (fun _ => True) (.slice A5 d1.length c5) d1) := Aside0.mk (by rw [hW]; exact rk_Rfar (rk_Rfar (rk_Rfar (rk_Rfar HR4.out HS4.out _) HS4.out _) HS4.out _) HS4.out _)
  have hI5 : ∃ r : Nat, d3 = (r : Int) ∧ RdR w0 W5 (some ad) c b g r := by
   obtain ⟨r, q0, q1, q2, q3⟩ := HI4.out
   exact ⟨_, q0, by rw [hW]; exact below_set (below_set (below_set (below_set q1 HWS.out) HWS.out) HWS.out) HWS.out, q2, by rw [hW]; exact blk_far (blk_far (blk_far (blk_far q3 HNE.out.symm _) HNE.out.symm _) HNE.out.symm _) HNE.out.symm _⟩
  clear hW hx0 hx1 hx2
  have hy0 : W5.cell? ⟨w.heap.size, 0, none⟩ = some (.int .u8 6) := (blk_cell HX5.out 0).trans rfl
  have hy1 : W5.cell? ⟨w.heap.size, 1, none⟩ = some (.int .u8 0) := (blk_cell HX5.out 1).trans rfl
  have hy2 : W5.cell? ⟨w.heap.size, 2, none⟩ = some (.slice A5 d1.length c5) := (blk_cell HX5.out 2).trans rfl
  exact bodyPost_ret (v := .tuple #[.agg #[.int .u8 6, .int .u8 0, .slice A5 d1.length c5], .int .i64 d2]) (by simp [results, Try.results46, hy0, hy1, hy2, go_sem]) rfl ⟨_, rfl, Kd.R_lower HR5.out HK3.out.1, hI5, HK5.out⟩
 rw [if_neg c4] at h
 have c4b : (c0 == 195) = false := by simp [c4]
 clear c1 c2 c3 c4
 by_cases c5 : 5 ≤ c0 ∧ c0 ≤ 63
 ·rw [if_pos c5] at h
  obtain ⟨rfl, rfl, rfl, rfl, rfl⟩ : (3 : Int) = r1 ∧ (c0) = r2 ∧ [] = r3 ∧ (0 : Int) = r4 ∧ (at_ : Int) + 1 = r5 := by simpa using h
  clear h
  obtain ⟨c5a, c5b⟩ := c5
  go_enter Try.func46, Try.ntmps46
  go_wp2
  refine atWorld ?_
  intro W1 hW
  have HB1 : Aside0 (Below w0.heap.size w0 W1) := Aside0.mk (by rw [hW]; exact below_alloc HB.out _)
  have HK1 : Aside0 (KeepBut w W1 g none) := Aside0.mk (by rw [hW]; exact keep_alloc (KeepBut.refl _ _ _) _)
  have HI1 : Aside0 (W1.heap[g]? = some (.cells #[.slice (some ad) b.length c, .int .i64 (at_ : Int)] 64 (0, 0))) := Aside0.mk (by rw [hW]; exact blk_alloc HI.out _)
  have HX1 : Aside0 (W1.heap[w.heap.size]? = some (.cells #[.int .u8 0, .int .u8 0, .slice none 0 0] 38 (0, 0))) := Aside0.mk (by rw [hW]; exact blk_new w _)
  clear hW
  have hs1 : W1.cell? ⟨g, 0, none⟩ = some (.slice (some ad) b.length c) := (blk_cell HI1.out 0).trans rfl
  have hs2 : W1.cell? ⟨g, 1, none⟩ = some (.int .i64 (at_ : Int)) := (blk_cell HI1.out 1).trans rfl
  have hs3 : W1.cell? (ad.add at_) = some (.int .u8 c0) := HCX.out W1 HB1.out
  have hz1 := blk_frozen HI1.out 1
  go_quiet (fail)
  go_wp2
  refine atWorld ?_
  intro W2 hW
  have HB2 : Aside0 (Below w0.heap.size w0 W2) := Aside0.mk (by rw [hW]; exact below_set (pw_below_drewN HB1.out _) HGE.out)
  have HK2 : Aside0 (KeepBut w W2 g none) := Aside0.mk (by rw [hW]; exact rk_set (keep_drewN HK1.out _))
  have HI2 : Aside0 (W2.heap[g]? = some (.cells #[.slice (some ad) b.length c, .int .i64 ((at_ : Int) + 1)] 64 (0, 0))) := Aside0.mk (by rw [hW]; exact blk_set (blk_drewN HI1.out _) 1 _)
  have HX2 : Aside0 (W2.heap[w.heap.size]? = some (.cells #[.int .u8 0, .int .u8 0, .slice none 0 0] 38 (0, 0))) := Aside0.mk (by rw [hW]; exact blk_far (blk_drewN HX1.out _) (by simpa using HNE.out) _)
  clear hW hs1 hs2 hs3 hz1
  have hs1 : W2.cell? ⟨g, 0, none⟩ = some (.slice (some ad) b.length c) := (blk_cell HI2.out 0).trans rfl
  have hs2 : W2.cell? ⟨g, 1, none⟩ = some (.int .i64 ((at_ : Int) + 1)) := (blk_cell HI2.out 1).trans rfl
  have hz1 := blk_frozen HI2.out 1
  have hx0 : W2.cell? ⟨w.heap.size, 0, none⟩ = some (.int .u8 0) := (blk_cell HX2.out 0).trans rfl
  have hx1 : W2.cell? ⟨w.heap.size, 1, none⟩ = some (.int .u8 0) := (blk_cell HX2.out 1).trans rfl
  have hx2 : W2.cell? ⟨w.heap.size, 2, none⟩ = some (.slice none 0 0) := (blk_cell HX2.out 2).trans rfl
  have hzx0 := blk_frozen HX2.out 0
  have hzx1 := blk_frozen HX2.out 1
  have hzx2 := blk_frozen HX2.out 2
  go_quiet (fail)
  go_wp2
  refine atWorldB ?_
  intro W3 hW
  have HB3 : Aside0 (Below w0.heap.size w0 W3) := Aside0.mk (by rw [hW]; exact below_set (below_set (below_set (pw_below_drewN HB2.out _) HWS.out) HWS.out) HWS.out)
  have HK3 : Aside0 (KeepBut w W3 g none) := Aside0.mk (by rw [hW]; exact rk_new (rk_new (rk_new (keep_drewN HK2.out _))))
  have HI3 : Aside0 (W3.heap[g]? = some (.cells #[.slice (some ad) b.length c, .int .i64 ((at_ : Int) + 1)] 64 (0, 0))) := Aside0.mk (by rw [hW]; exact blk_far (blk_far (blk_far (blk_drewN HI2.out _) HNE.out.symm _) HNE.out.symm _) HNE.out.symm _)
  have HX3 : Aside0 (W3.heap[w.heap.size]? = some (.cells #[.int .u8 3, .int .u8 c0, .slice none 0 0] 38 (0, 0))) := Aside0.mk (by rw [hW]; exact blk_set (blk_set (blk_set (blk_drewN HX2.out _) 0 _) 1 _) 2 _)
  clear hW hs1 hs2 hx0 hx1 hx2
  have hy0 : W3.cell? ⟨w.heap.size, 0, none⟩ = some (.int .u8 3) := (blk_cell HX3.out 0).trans rfl
  have hy1 : W3.cell? ⟨w.heap.size, 1, none⟩ = some (.int .u8 c0) := (blk_cell HX3.out 1).trans rfl
  have hy2 : W3.cell? ⟨w.heap.size, 2, none⟩ = some (.slice none 0 0) := (blk_cell HX3.out 2).trans rfl
  exact bodyPost_ret (v := .tuple #[.agg #[.int .u8 3, .int .u8 c0, .slice none 0 0], .int .i64 0]) (by simp [results, Try.results46, hy0, hy1, hy2, go_sem]) rfl ⟨_, rfl, Kd.R_nil _ _ _ _ _, ⟨at_ + 1, by simp, HB3.out, HGE.out, by simpa using HI3.out⟩, HK3.out⟩
 rw [if_neg c5] at h
 by_cases c6 : 69 ≤ c0 ∧ c0 ≤ 127
 ·rw [if_pos c6] at h
  obtain ⟨rfl, rfl, rfl, rfl, rfl⟩ : (2 : Int) = r1 ∧ (Go.bits .andNot .u8 c0 64) = r2 ∧ [] = r3 ∧ (0 : Int) = r4 ∧ (at_ : Int) + 1 = r5 := by simpa using h
  clear h
  obtain ⟨c6a, c6b⟩ := c6
  have c5a : 5 ≤ c0 := by omega
  have c5c : ¬ c0 ≤ 63 := by omega
  clear c5
  go_enter Try.func46, Try.ntmps46
  go_wp2
  refine atWorld ?_
  intro W1 hW
  have HB1 : Aside0 (Below w0.heap.size w0 W1) := Aside0.mk (by rw [hW]; exact below_alloc HB.out _)
  have HK1 : Aside0 (KeepBut w W1 g none) := Aside0.mk (by rw [hW]; exact keep_alloc (KeepBut.refl _ _ _) _)
  have HI1 : Aside0 (W1.heap[g]? = some (.cells #[.slice (some ad) b.length c, .int .i64 (at_ : Int)] 64 (0, 0))) := Aside0.mk (by rw [hW]; exact blk_alloc HI.out _)
  have HX1 : Aside0 (W1.heap[w.heap.size]? = some (.cells #[.int .u8 0, .int .u8 0, .slice none 0 0] 38 (0, 0))) := Aside0.mk (by rw [hW]; exact blk_new w _)
  clear hW
  have hs1 : W1.cell? ⟨g, 0, none⟩ = some (.slice (some ad) b.length c) := (blk_cell HI1.out 0).trans rfl
  have hs2 : W1.cell? ⟨g, 1, none⟩ = some (.int .i64 (at_ : Int)) := (blk_cell HI1.out 1).trans rfl
  have hs3 : W1.cell? (ad.add at_) = some (.int .u8 c0) := HCX.out W1 HB1.out
  have hz1 := blk_frozen HI1.out 1
  go_quiet (fail)
  go_wp2
  refine atWorld ?_
  intro W2 hW
  have HB2 : Aside0 (Below w0.heap.size w0 W2) := Aside0.mk (by rw [hW]; exact below_set (pw_below_drewN HB1.out _) HGE.out)
  have HK2 : Aside0 (KeepBut w W2 g none) := Aside0.mk (by rw [hW]; exact rk_set (keep_drewN HK1.out _))
  have HI2 : Aside0 (W2.heap[g]? = some (.cells #[.slice (some ad) b.length c, .int .i64 ((at_ : Int) + 1)] 64 (0, 0))) := Aside0.mk (by rw [hW]; exact blk_set (blk_drewN HI1.out _) 1 _)
  have HX2 : Aside0 (W2.heap[w.heap.size]? = some (.cells #[.int .u8 0, .int .u8 0, .slice none 0 0] 38 (0, 0))) := Aside0.mk (by rw [hW]; exact blk_far (blk_drewN HX1.out _) (by simpa using HNE.out) _)
  clear hW hs1 hs2 hs3 hz1
  have hs1 : W2.cell? ⟨g, 0, none⟩ = some (.slice (some ad) b.length c) := (blk_cell HI2.out 0).trans rfl
  have hs2 : W2.cell? ⟨g, 1, none⟩ = some (.int .i64 ((at_ : Int) + 1)) := (blk_cell HI2.out 1).trans rfl
  have hz1 := blk_frozen HI2.out 1
  have hx0 : W2.cell? ⟨w.heap.size, 0, none⟩ = some (.int .u8 0) := (blk_cell HX2.out 0).trans rfl
  have hx1 : W2.cell? ⟨w.heap.size, 1, none⟩ = some (.int .u8 0) := (blk_cell HX2.out 1).trans rfl
  have hx2 : W2.cell? ⟨w.heap.size, 2, none⟩ = some (.slice none 0 0) := (blk_cell HX2.out 2).trans rfl
  have hzx0 := blk_frozen HX2.out 0
  have hzx1 := blk_frozen HX2.out 1
  have hzx2 := blk_frozen HX2.out 2
  go_quiet (fail)
  go_wp2
  refine atWorldB ?_
  intro W3 hW
  have HB3 : Aside0 (Below w0.heap.size w0 W3) := Aside0.mk (by rw [hW]; exact below_set (below_set (below_set (pw_below_drewN HB2.out _) HWS.out) HWS.out) HWS.out)
  have HK3 : Aside0 (KeepBut w W3 g none) := Aside0.mk (by rw [hW]; exact rk_new (rk_new (rk_new (keep_drewN HK2.out _))))
  have HI3 : Aside0 (W3.heap[g]? = some (.cells #[.slice (some ad) b.length c, .int .i64 ((at_ : Int) + 1)] 64 (0, 0))) := Aside0.mk (by rw [hW]; exact blk_far (blk_far (blk_far (blk_drewN HI2.out _) HNE.out.symm _) HNE.out.symm _) HNE.out.symm _)
  have HX3 : Aside0 (W3.heap[w.heap.size]? = some (.cells #[.int .u8 2, .int .u8 (Go.bits .andNot .u8 c0 64), .slice none 0 0] 38 (0, 0))) := Aside0.mk (by rw [hW]; exact blk_set (blk_set (blk_set (blk_drewN HX2.out _) 0 _) 1 _) 2 _)
  clear hW hs1 hs2 hx0 hx1 hx2
  have hy0 : W3.cell? ⟨w.heap.size, 0, none⟩ = some (.int .u8 2) := (blk_cell HX3.out 0).trans rfl
  have hy1 : W3.cell? ⟨w.heap.size, 1, none⟩ = some (.int .u8 (Go.bits .andNot .u8 c0 64)) := (blk_cell HX3.out 1).trans rfl
  have hy2 : W3.cell? ⟨w.heap.size, 2, none⟩ = some (.slice none 0 0) := (blk_cell HX3.out 2).trans rfl
  exact bodyPost_ret (v := .tuple #[.agg #[.int .u8 2, .int .u8 (Go.bits .andNot .u8 c0 64), .slice none 0 0], .int .i64 0]) (by simp [results, Try.results46, hy0, hy1, hy2, go_sem]) rfl ⟨_, rfl, Kd.R_nil _ _ _ _ _, ⟨at_ + 1, by simp, HB3.out, HGE.out, by simpa using HI3.out⟩, HK3.out⟩
 rw [if_neg c6] at h
 by_cases c7 : 5 ≤ c0
 case neg =>
  have c8 : ¬ 69 ≤ c0 := by omega
  clear c5 c6
  obtain ⟨rfl, rfl, rfl, rfl, rfl⟩ : (0 : Int) = r1 ∧ (0) = r2 ∧ [] = r3 ∧ (5 : Int) = r4 ∧ (at_ : Int) + 1 = r5 := by simpa using h
  clear h
  go_enter Try.func46, Try.ntmps46
  go_wp2
  refine atWorld ?_
  intro W1 hW
  have HB1 : Aside0 (Below w0.heap.size w0 W1) := Aside0.mk (by rw [hW]; exact below_alloc HB.out _)
  have HK1 : Aside0 (KeepBut w W1 g none) := Aside0.mk (by rw [hW]; exact keep_alloc (KeepBut.refl _ _ _) _)
  have HI1 : Aside0 (W1.heap[g]? = some (.cells #[.slice (some ad) b.length c, .int .i64 (at_ : Int)] 64 (0, 0))) := Aside0.mk (by rw [hW]; exact blk_alloc HI.out _)
  have HX1 : Aside0 (W1.heap[w.heap.size]? = some (.cells #[.int .u8 0, .int .u8 0, .slice none 0 0] 38 (0, 0))) := Aside0.mk (by rw [hW]; exact blk_new w _)
  clear hW
  have hs1 : W1.cell? ⟨g, 0, none⟩ = some (.slice (some ad) b.length c) := (blk_cell HI1.out 0).trans rfl
  have hs2 : W1.cell? ⟨g, 1, none⟩ = some (.int .i64 (at_ : Int)) := (blk_cell HI1.out 1).trans rfl
  have hs3 : W1.cell? (ad.add at_) = some (.int .u8 c0) := HCX.out W1 HB1.out
  have hz1 := blk_frozen HI1.out 1
  go_quiet (fail)
  go_wp2
  refine atWorld ?_
  intro W2 hW
  have HB2 : Aside0 (Below w0.heap.size w0 W2) := Aside0.mk (by rw [hW]; exact below_set (pw_below_drewN HB1.out _) HGE.out)
  have HK2 : Aside0 (KeepBut w W2 g none) := Aside0.mk (by rw [hW]; exact rk_set (keep_drewN HK1.out _))
  have HI2 : Aside0 (W2.heap[g]? = some (.cells #[.slice (some ad) b.length c, .int .i64 ((at_ : Int) + 1)] 64 (0, 0))) := Aside0.mk (by rw [hW]; exact blk_set (blk_drewN HI1.out _) 1 _)
  have HX2 : Aside0 (W2.heap[w.heap.size]? = some (.cells #[.int .u8 0, .int .u8 0, .slice none 0 0] 38 (0, 0))) := Aside0.mk (by rw [hW]; exact blk_far (blk_drewN HX1.out _) (by simpa using HNE.out) _)
  clear hW hs1 hs2 hs3 hz1
  have hs1 : W2.cell? ⟨g, 0, none⟩ = some (.slice (some ad) b.length c) := (blk_cell HI2.out 0).trans rfl
  have hs2 : W2.cell? ⟨g, 1, none⟩ = some (.int .i64 ((at_ : Int) + 1)) := (blk_cell HI2.out 1).trans rfl
  have hz1 := blk_frozen HI2.out 1
  have hx0 : W2.cell? ⟨w.heap.size, 0, none⟩ = some (.int .u8 0) := (blk_cell HX2.out 0).trans rfl
  have hx1 : W2.cell? ⟨w.heap.size, 1, none⟩ = some (.int .u8 0) := (blk_cell HX2.out 1).trans rfl
  have hx2 : W2.cell? ⟨w.heap.size, 2, none⟩ = some (.slice none 0 0) := (blk_cell HX2.out 2).trans rfl
  have hzx0 := blk_frozen HX2.out 0
  have hzx1 := blk_frozen HX2.out 1
  have hzx2 := blk_frozen HX2.out 2
  go_quiet (fail)
  go_wp2
  refine atWorldB ?_
  intro W3 hW
  have HB3 : Aside0 (Below w0.heap.size w0 W3) := Aside0.mk (by rw [hW]; exact below_set (below_set (below_set (pw_below_drewN HB2.out _) HWS.out) HWS.out) HWS.out)
  have HK3 : Aside0 (KeepBut w W3 g none) := Aside0.mk (by rw [hW]; exact rk_new (rk_new (rk_new (keep_drewN HK2.out _))))
  have HI3 : Aside0 (W3.heap[g]? = some (.cells #[.slice (some ad) b.length c, .int .i64 ((at_ : Int) + 1)] 64 (0, 0))) := Aside0.mk (by rw [hW]; exact blk_far (blk_far (blk_far (blk_drewN HI2.out _) HNE.out.symm _) HNE.out.symm _) HNE.out.symm _)
  have HX3 : Aside0 (W3.heap[w.heap.size]? = some (.cells #[.int .u8 0, .int .u8 0, .slice none 0 0] 38 (0, 0))) := Aside0.mk (by rw [hW]; exact blk_set (blk_set (blk_set (blk_drewN HX2.out _) 0 _) 1 _) 2 _)
  clear hW hs1 hs2 hx0 hx1 hx2
  have hy0 : W3.cell? ⟨w.heap.size, 0, none⟩ = some (.int .u8 0) := (blk_cell HX3.out 0).trans rfl
  have hy1 : W3.cell? ⟨w.heap.size, 1, none⟩ = some (.int .u8 0) := (blk_cell HX3.out 1).trans rfl
  have hy2 : W3.cell? ⟨w.heap.size, 2, none⟩ = some (.slice none 0 0) := (blk_cell HX3.out 2).trans rfl
  exact bodyPost_ret (v := .tuple #[.agg #[.int .u8 0, .int .u8 0, .slice none 0 0], .int .i64 5]) (by simp [results, Try.results46, hy0, hy1, hy2, go_sem]) rfl ⟨_, rfl, Kd.R_nil _ _ _ _ _, ⟨at_ + 1, by simp, HB3.out, HGE.out, by simpa using HI3.out⟩, HK3.out⟩
 have c8 : ¬ c0 ≤ 63 := by omega
 clear c5
 by_cases c9 : 69 ≤ c0
 ·have c10 : ¬ c0 ≤ 127 := by omega
  clear c6
  obtain ⟨rfl, rfl, rfl, rfl, rfl⟩ : (0 : Int) = r1 ∧ (0) = r2 ∧ [] = r3 ∧ (5 : Int) = r4 ∧ (at_ : Int) + 1 = r5 := by simpa using h
  clear h
  go_enter Try.func46, Try.ntmps46
  go_wp2
  refine atWorld ?_
  intro W1 hW
  have HB1 : Aside0 (Below w0.heap.size w0 W1) := Aside0.mk (by rw [hW]; exact below_alloc HB.out _)
  have HK1 : Aside0 (KeepBut w W1 g none) := Aside0.mk (by rw [hW]; exact keep_alloc (KeepBut.refl _ _ _) _)
  have HI1 : Aside0 (W1.heap[g]? = some (.cells #[.slice (some ad) b.length c, .int .i64 (at_ : Int)] 64 (0, 0))) := Aside0.mk (by rw [hW]; exact blk_alloc HI.out _)
  have HX1 : Aside0 (W1.heap[w.heap.size]? = some (.cells #[.int .u8 0, .int .u8 0, .slice none 0 0] 38 (0, 0))) := Aside0.mk (by rw [hW]; exact blk_new w _)
  clear hW
  have hs1 : W1.cell? ⟨g, 0, none⟩ = some (.slice (some ad) b.length c) := (blk_cell HI1.out 0).trans rfl
  have hs2 : W1.cell? ⟨g, 1, none⟩ = some (.int .i64 (at_ : Int)) := (blk_cell HI1.out 1).trans rfl
  have hs3 : W1.cell? (ad.add at_) = some (.int .u8 c0) := HCX.out W1 HB1.out
  have hz1 := blk_frozen HI1.out 1
  go_quiet (fail)
  go_wp2
  refine atWorld ?_
  intro W2 hW
  have HB2 : Aside0 (Below w0.heap.size w0 W2) := Aside0.mk (by rw [hW]; exact below_set (pw_below_drewN HB1.out _) HGE.out)
  have HK2 : Aside0 (KeepBut w W2 g none) := Aside0.mk (by rw [hW]; exact rk_set (keep_drewN HK1.out _))
  have HI2 : Aside0 (W2.heap[g]? = some (.cells #[.slice (some ad) b.length c, .int .i64 ((at_ : Int) + 1)] 64 (0, 0))) := Aside0.mk (by rw [hW]; exact blk_set (blk_drewN HI1.out _) 1 _)
  have HX2 : Aside0 (W2.heap[w.heap.size]? = some (.cells #[.int .u8 0, .int .u8 0, .slice none 0 0] 38 (0, 0))) := Aside0.mk (by rw [hW]; exact blk_far (blk_drewN HX1.out _) (by simpa using HNE.out) _)
  clear hW hs1 hs2 hs3 hz1
  have hs1 : W2.cell? ⟨g, 0, none⟩ = some (.slice (some ad) b.length c) := (blk_cell HI2.out 0).trans rfl
  have hs2 : W2.cell? ⟨g, 1, none⟩ = some (.int .i64 ((at_ : Int) + 1)) := (blk_cell HI2.out 1).trans rfl
  have hz1 := blk_frozen HI2.out 1
  have hx0 : W2.cell? ⟨w.heap.size, 0, none⟩ = some (.int .u8 0) := (blk_cell HX2.out 0).trans rfl
  have hx1 : W2.cell? ⟨w.heap.size, 1, none⟩ = some (.int .u8 0) := (blk_cell HX2.out 1).trans rfl
  have hx2 : W2.cell? ⟨w.heap.size, 2, none⟩ = some (.slice none 0 0) := (blk_cell HX2.out 2).trans rfl
  have hzx0 := blk_frozen HX2.out 0
  have hzx1 := blk_frozen HX2.out 1
  have hzx2 := blk_frozen HX2.out 2
  go_quiet (fail)
  go_wp2
  refine atWorldB ?_
  intro W3 hW
  have HB3 : Aside0 (Below w0.heap.size w0 W3) := Aside0.mk (by rw [hW]; exact below_set (below_set (below_set (pw_below_drewN HB2.out _) HWS.out) HWS.out) HWS.out)
  have HK3 : Aside0 (KeepBut w W3 g none) := Aside0.mk (by rw [hW]; exact rk_new (rk_new (rk_new (keep_drewN HK2.out _))))
  have HI3 : Aside0 (W3.heap[g]? = some (.cells #[.slice (some ad) b.length c, .int .i64 ((at_ : Int) + 1)] 64 (0, 0))) := Aside0.mk (by rw [hW]; exact blk_far (blk_far (blk_far (blk_drewN HI2.out _) HNE.out.symm _) HNE.out.symm _) HNE.out.symm _)
  have HX3 : Aside0 (W3.heap[w.heap.size]? = some (.cells #[.int .u8 0, .int .u8 0, .slice none 0 0] 38 (0, 0))) := Aside0.mk (by rw [hW]; exact blk_set (blk_set (blk_set (blk_drewN HX2.out _) 0 _) 1 _) 2 _)
  clear hW hs1 hs2 hx0 hx1 hx2
  have hy0 : W3.cell? ⟨w.heap.size, 0, none⟩ = some (.int .u8 0) := (blk_cell HX3.out 0).trans rfl
  have hy1 : W3.cell? ⟨w.heap.size, 1, none⟩ = some (.int .u8 0) := (blk_cell HX3.out 1).trans rfl
  have hy2 : W3.cell? ⟨w.heap.size, 2, none⟩ = some (.slice none 0 0) := (blk_cell HX3.out 2).trans rfl
  exact bodyPost_ret (v := .tuple #[.agg #[.int .u8 0, .int .u8 0, .slice none 0 0], .int .i64 5]) (by simp [results, Try.results46, hy0, hy1, hy2, go_sem]) rfl ⟨_, rfl, Kd.R_nil _ _ _ _ _, ⟨at_ + 1, by simp, HB3.out, HGE.out, by simpa using HI3.out⟩, HK3.out⟩
 ·clear c6
  obtain ⟨rfl, rfl, rfl, rfl, rfl⟩ : (0 : Int) = r1 ∧ (0) = r2 ∧ [] = r3 ∧ (5 : Int) = r4 ∧ (at_ : Int) + 1 = r5 := by simpa using h
  clear h
  go_enter Try.func46, Try.ntmps46
  go_wp2
  refine atWorld ?_
  intro W1 hW
  have HB1 : Aside0 (Below w0.heap.size w0 W1) := Aside0.mk (by rw [hW]; exact below_alloc HB.out _)
  have HK1 : Aside0 (KeepBut w W1 g none) := Aside0.mk (by rw [hW]; exact keep_alloc (KeepBut.refl _ _ _) _)
  have HI1 : Aside0 (W1.heap[g]? = some (.cells #[.slice (some ad) b.length c, .int .i64 (at_ : Int)] 64 (0, 0))) := Aside0.mk (by rw [hW]; exact blk_alloc HI.out _)
  have HX1 : Aside0 (W1.heap[w.heap.size]? = some (.cells #[.int .u8 0, .int .u8 0, .slice none 0 0] 38 (0, 0))) := Aside0.mk (by rw [hW]; exact blk_new w _)
  clear hW
  have hs1 : W1.cell? ⟨g, 0, none⟩ = some (.slice (some ad) b.length c) := (blk_cell HI1.out 0).trans rfl
  have hs2 : W1.cell? ⟨g, 1, none⟩ = some (.int .i64 (at_ : Int)) := (blk_cell HI1.out 1).trans rfl
  have hs3 : W1.cell? (ad.add at_) = some (.int .u8 c0) := HCX.out W1 HB1.out
  have hz1 := blk_frozen HI1.out 1
  go_quiet (fail)
  go_wp2
  refine atWorld ?_
  intro W2 hW
  have HB2 : Aside0 (Below w0.heap.size w0 W2) := Aside0.mk (by rw [hW]; exact below_set (pw_below_drewN HB1.out _) HGE.out)
  have HK2 : Aside0 (KeepBut w W2 g none) := Aside0.mk (by rw [hW]; exact rk_set (keep_drewN HK1.out _))
  have HI2 : Aside0 (W2.heap[g]? = some (.cells #[.slice (some ad) b.length c, .int .i64 ((at_ : Int) + 1)] 64 (0, 0))) := Aside0.mk (by rw [hW]; exact blk_set (blk_drewN HI1.out _) 1 _)
  have HX2 : Aside0 (W2.heap[w.heap.size]? = some (.cells #[.int .u8 0, .int .u8 0, .slice none 0 0] 38 (0, 0))) := Aside0.mk (by rw [hW]; exact blk_far (blk_drewN HX1.out _) (by simpa using HNE.out) _)
  clear hW hs1 hs2 hs3 hz1
  have hs1 : W2.cell? ⟨g, 0, none⟩ = some (.slice (some ad) b.length c) := (blk_cell HI2.out 0).trans rfl
  have hs2 : W2.cell? ⟨g, 1, none⟩ = some (.int .i64 ((at_ : Int) + 1)) := (blk_cell HI2.out 1).trans rfl
  have hz1 := blk_frozen HI2.out 1
  have hx0 : W2.cell? ⟨w.heap.size, 0, none⟩ = some (.int .u8 0) := (blk_cell HX2.out 0).trans rfl
  have hx1 : W2.cell? ⟨w.heap.size, 1, none⟩ = some (.int .u8 0) := (blk_cell HX2.out 1).trans rfl
  have hx2 : W2.cell? ⟨w.heap.size, 2, none⟩ = some (.slice none 0 0) := (blk_cell HX2.out 2).trans rfl
  have hzx0 := blk_frozen HX2.out 0
  have hzx1 := blk_frozen HX2.out 1
  have hzx2 := blk_frozen HX2.out 2
  go_quiet (fail)
  go_wp2
  refine atWorldB ?_
  intro W3 hW
  have HB3 : Aside0 (Below w0.heap.size w0 W3) := Aside0.mk (by rw [hW]; exact below_set (below_set (below_set (pw_below_drewN HB2.out _) HWS.out) HWS.out) HWS.out)
  have HK3 : Aside0 (KeepBut w W3 g none) := Aside0.mk (by rw [hW]; exact rk_new (rk_new (rk_new (keep_drewN HK2.out _))))
  have HI3 : Aside0 (W3.heap[g]? = some (.cells #[.slice (some ad) b.length c, .int .i64 ((at_ : Int) + 1)] 64 (0, 0))) := Aside0.mk (by rw [hW]; exact blk_far (blk_far (blk_far (blk_drewN HI2.out _) HNE.out.symm _) HNE.out.symm _) HNE.out.symm _)
  have HX3 : Aside0 (W3.heap[w.heap.size]? = some (.cells #[.int .u8 0, .int .u8 0, .slice none 0 0] 38 (0, 0))) := Aside0.mk (by rw [hW]; exact blk_set (blk_set (blk_set (blk_drewN HX2.out _) 0 _) 1 _) 2 _)
  clear hW hs1 hs2 hx0 hx1 hx2
  have hy0 : W3.cell? ⟨w.heap.size, 0, none⟩ = some (.int .u8 0) := (blk_cell HX3.out 0).trans rfl
  have hy1 : W3.cell? ⟨w.heap.size, 1, none⟩ = some (.int .u8 0) := (blk_cell HX3.out 1).trans rfl
  have hy2 : W3.cell? ⟨w.heap.size, 2, none⟩ = some (.slice none 0 0) := (blk_cell HX3.out 2).trans rfl
  exact bodyPost_ret (v := .tuple #[.agg #[.int .u8 0, .int .u8 0, .slice none 0 0], .int .i64 5]) (by simp [results, Try.results46, hy0, hy1, hy2, go_sem]) rfl ⟨_, rfl, Kd.R_nil _ _ _ _ _, ⟨at_ + 1, by simp, HB3.out, HGE.out, by simpa using HI3.out⟩, HK3.out⟩
def rget.l0 : Nat → List Int → List (S38) → Nat → Option ((List (S38)) × Int)
 | 0, _, _, _ => none
 | k + 1, b, xs, at_ => if at_ < b.length then ((rnext k b at_).bind fun t => (if t.2.2.2.1 = 0 then (if xs.length < 4398046511104 then (rget.l0 k b (xs ++ [(⟨t.1, t.2.1, t.2.2.1⟩ : S38)]) t.2.2.2.2.toNat) else (none)) else (some (([] : List (S38)), t.2.2.2.1)))) else (some (xs, 0))
def token_Get.f (k : Nat) (l0 : List Int) : Option ((List (S38)) × Int) := if (l0.length : Int) > 16384 then (some (([] : List (S38)), 3)) else (if (l0.length : Int) < 4 then (some (([] : List (S38)), 4)) else (if ((strOfNums (l0.take 4)).toList == [3, 1, 106, 0]) = true then rget.l0 k l0 [] 4 else some ([], 5)))
theorem rk_oldS {W w1 : World} {base g : Nat} {u v : Value} {xs : List S38} {ys : List Int} (h : Kd.S k38 38 W base (fun k => k ≠ g) u xs) (hk : KeepBut W w1 g none) (ho : Kd.R (Kd.int .u8) 5 w1 W.heap.size (fun _ => True) v ys) : Kd.S k38 38 w1 base (fun k => k ≠ g ∧ some k ≠ v.ownBlock) u xs :=
 Kd.S_mono (Kd.S_oldK (Kd.S_mono h (fun k hk => ⟨hk, hk⟩)) hk) (fun k hk => ⟨hk.1, fun e => by have := Kd.R_base ho k e.symm; have := hk.2; omega⟩)
theorem rk_boxS {W w1 : World} {base gb : Nat} {ok : Nat → Prop} {u : Value} {xs : List S38} (h : Kd.S k38 38 W base ok u xs) (hb : Below W.heap.size W w1) (hg : gb = W.heap.size) : Kd.S k38 38 w1 base (fun k => ok k ∧ k ≠ gb) u xs :=
 Kd.S_mono (Kd.S_below (Kd.S_bound h) hb) (fun k hk => ⟨hk.1, by have := hk.2.2.1; omega⟩)
theorem rk_boxR {W w1 : World} {base gb : Nat} {ok : Nat → Prop} {u : Value} {xs : List Int} (h : Kd.R (Kd.int .u8) 5 W base ok u xs) (hb : Below W.heap.size W w1) (hg : gb = W.heap.size) : Kd.R (Kd.int .u8) 5 w1 base (fun k => ok k ∧ k ≠ gb) u xs :=
 Kd.R_mono (Kd.R_below (Kd.R_bound h) hb) (fun k hk => ⟨hk.1, by have := hk.2.2.1; omega⟩)
set_option maxHeartbeats 8000000 in
set_option maxRecDepth 100000 in
theorem token_Get.calls (k : Nat) (A0 : Option Addr) (c0 : Nat) (l0 : List Int) (r1 : List (S38)) (r2 : Int) (w : World) (hr0 : Kd.C (Kd.int .u8) w A0 l0.length l0) (hc0 : l0.length ≤ c0) (h : token_Get.f k l0 = some (r1, r2)) :
  Calls Try.prog 34 #[.slice A0 l0.length c0] w fun e w' => ∃ v0_ : Value, e = .returned (.tuple #[v0_, .int .i64 r2]) ∧ Kd.S k38 38 w' w.heap.size (fun _ => True) v0_ r1 ∧ Below w.heap.size w w' := by
 have hu38 := Try.underlying38
 have HR0 := Aside0.mk hr0
 have HC0 := Aside0.mk hc0
 unfold token_Get.f at h
 by_cases c2 : (l0.length : Int) > 16384
 ·rw [if_pos c2] at h
  obtain ⟨rfl, rfl⟩ : [] = r1 ∧ (3 : Int) = r2 := by simpa using h
  go_enter Try.func34, Try.ntmps34
  go_wp2
  go_ret2
  exact ⟨_, rfl, Kd.S_nil _ _ _ _ _, Below.refl _ _⟩
 rw [if_neg c2] at h
 by_cases c3 : (l0.length : Int) < 4
 ·rw [if_pos c3] at h
  obtain ⟨rfl, rfl⟩ : [] = r1 ∧ (4 : Int) = r2 := by simpa using h
  go_enter Try.func34, Try.ntmps34
  go_wp2
  go_ret2
  exact ⟨_, rfl, Kd.S_nil _ _ _ _ _, Below.refl _ _⟩
 rw [if_neg c3] at h
 have HLN : Aside0 (l0.length ≤ 16384) := Aside0.mk (by omega)
 have HL4 : Aside0 (4 ≤ l0.length) := Aside0.mk (by omega)
 obtain ⟨i07, hi07, _, hsz7, _⟩ := info_parts info5
 have hcut := cut_to (P := Try.prog) 22 5 .i64 Try.underlying22 hi07 A0 l0.length c0 4 (by omega) (by omega) hc0
 have hT := Kd.C_take (m := 4) hr0 (by omega)
 have hl4 : (l0.take 4).length = 4 := by simp; omega
 rw [hl4] at hT
 have hcv : (convert 22 9 (.slice A0 4 c0)).run Try.prog w = .ok (.string (strOfNums (l0.take 4))) w := string_of_reads (e := 5) Try.underlying22 (by kernel_rfl) (by kernel_rfl) (readsInt_of.2 (Kd.reads_of_C (enc := Value.int .u8) (d := (0 : Int)) (h1 := fun _ => rfl) hT))
 change ∀ W : World, _ = Result.ok (Value.slice A0 4 c0) W at hcut
 clear hT hl4 hr0 hc0
 by_cases c4 : ((strOfNums (l0.take 4)).toList == [3, 1, 106, 0]) = true
 case neg =>
  rw [if_neg c4] at h
  have c4b : ((strOfNums (l0.take 4)).toList == [3, 1, 106, 0]) = false := by simpa using c4
  clear c4
  obtain ⟨rfl, rfl⟩ : [] = r1 ∧ (5 : Int) = r2 := by simpa using h
  go_enter Try.func34, Try.ntmps34
  go_wp2
  go_ret2
  exact ⟨_, rfl, Kd.S_nil _ _ _ _ _, Below.refl _ _⟩
 rw [if_pos c4] at h
 have H' := Aside0.mk h
 clear h
 go_enter Try.func34, Try.ntmps34
 go_wp2
 refine atWorld ?_
 intro W2 hW
 have HG2 : Aside0 (RdR w W2 A0 c0 l0 w.heap.size 4) := Aside0.mk ⟨by rw [hW]; exact below_alloc (Below.refl _ _) _, Nat.le_refl _, by rw [hW]; exact blk_new w _⟩
 clear hW hcv hcut c4 c2 c3 hi07 hsz7
 go_loopg [5] k (fun kq v5 w' => ∃ (xs : List S38) (at_ : Nat), Aside0 (rget.l0 kq l0 xs at_ = some (r1, r2)) ∧ Aside0 (kq ≤ k) ∧ Aside0 (Kd.S k38 38 w' w.heap.size (fun k_ => k_ ≠ w.heap.size) v5 xs) ∧ Aside0 (RdR w w' A0 c0 l0 w.heap.size at_))
 case atStart => exact ⟨[], 4, H', ⟨Nat.le_refl _⟩, ⟨Kd.S_nil _ _ _ _ _⟩, HG2⟩
 case round =>
  clear H' HG2
  obtain ⟨xs, at_, HA, HK1, HS, HG⟩ := hrel
  cases gk with
  | zero => exact absurd HA.out (by simp [rget.l0])
  | succ k1 =>
   have H := HA.out
   clear HA
   simp only [rget.l0] at H
   have hs1 := (blk_cell HG.out.2.2 1).trans (show _ = some (Value.int .i64 (at_ : Int)) from rfl)
   by_cases c11 : at_ < l0.length
   ·rw [if_pos c11] at H
    have HAT := Aside0.mk c11
    have c11b : (at_ : Int) < (l0.length : Int) := by omega
    clear c11
    obtain ⟨⟨t1, t2, t3, t4, t5⟩, A120, H⟩ := Option.bind_eq_some_iff.1 H
    have A12 := Aside0.mk A120
    clear A120
    dsimp only at H
    by_cases c13 : t4 = 0
    ·rw [if_pos c13] at H
     have c13b : (t4 == 0) = true := by simp [c13]
     have c13c : (t4 != 0) = false := by simp [c13]
     clear c13
     by_cases c14 : xs.length < 4398046511104
     case neg => rw [if_neg c14] at H; cases H
     rw [if_pos c14] at H
     have LMc14 := Aside0.mk c14
     have H' := Aside0.mk H
     clear c14 H
     go_wp2_with (first | ((with_reducible refine gate_callee (f := 46) rfl ?_); refine goesL_ (some 33) rfl rfl Try.func46 (by kernel_rfl) rfl #[.pointer (some ⟨w.heap.size, 0, none⟩)] rfl (by first | rfl | go_simp) ?_; refine (rnext_calls k1 A0 c0 l0 w.heap.size at_ t1 t2 t3 t4 t5 w _ HR0.out HC0.out HLN.out HG.out HAT.out A12.out).mono ?_; rintro _ w15 ⟨v0, rfl, ho0, hI, hK⟩; have HS2 := Aside0.mk (rk_oldS HS.out hK ho0); have HR2 := Aside0.mk (Kd.R_lower ho0 HG.out.1.size); have HI2 := Aside0.mk hI; clear ho0 hK hI HS HG hs1; obtain ⟨Ao, co, eo⟩ := Kd.R_slice HR2.out; subst eo; refine ⟨_, rfl, ?_⟩) | ((with_reducible refine gate_dst (N := 6) rfl ?_); refine box_event ?hg (N := 6) ?hd (cs := #[.int .u8 0, .int .u8 0, .slice none 0 0]) (t := 38) ?hr ?_; (case hd => rfl); (case hg => rfl); (case hr => first | (go_simp; done) | (go_simp; rfl)); intro gb hg w16 hbox hb; obtain ⟨r5, q0, q1, q2, q3⟩ := HI2.out; have HS3 := Aside0.mk (rk_boxS HS2.out hb hg); have HR3 := Aside0.mk (rk_boxR HR2.out hb hg); have HB3 := Aside0.mk (below_step q1 hb); have HI3 := Aside0.mk (blk_below q3 hb); have HX3 := Aside0.mk hbox; have HNG : Aside0 (w.heap.size ≠ gb) := Aside0.mk (by rw [hg]; exact Nat.ne_of_lt (blk_lt q3)); have HGB : Aside0 (w.heap.size ≤ gb) := Aside0.mk (by rw [hg]; exact q1.size); have HQ0 := Aside0.mk q0; clear q0 q1 q2 q3 hb hbox hg HS2 HR2 HI2; have hx0 : w16.cell? ⟨gb, 0, none⟩ = some (.int .u8 0) := (blk_cell HX3.out 0).trans rfl; have hx1 : w16.cell? ⟨gb, 1, none⟩ = some (.int .u8 0) := (blk_cell HX3.out 1).trans rfl; have hx2 : w16.cell? ⟨gb, 2, none⟩ = some (.slice none 0 0) := (blk_cell HX3.out 2).trans rfl; have hzx0 := blk_frozen HX3.out 0; have hzx1 := blk_frozen HX3.out 1; have hzx2 := blk_frozen HX3.out 2) | ((with_reducible refine gate_store (t := 38) (p := 6) rfl ?_); refine store_event (t := 38) (p := 6) (v := ?vo) (w1 := (((w16.setCell ⟨gb, 0, none⟩ (.int .u8 t1)).setCell ⟨gb, 1, none⟩ (.int .u8 t2)).setCell ⟨gb, 2, none⟩ (.slice Ao t3.length co))) ?hg ?ho ?hn ?hr ?_; (case ho => rfl); (case hg => rfl); (case hn => rfl); (case hr => first | (go_simp; done) | (go_simp; rfl)); intro w19 hw; have HS4 : Aside0 (Kd.S k38 38 w19 w.heap.size (fun k_ => (k_ ≠ w.heap.size ∧ some k_ ≠ (.slice Ao t3.length co : Value).ownBlock) ∧ k_ ≠ gb) u5 xs) := Aside0.mk (by rw [hw]; exact Kd.S_far (p := ⟨gb, 2, none⟩) (Kd.S_far (p := ⟨gb, 1, none⟩) (Kd.S_far (p := ⟨gb, 0, none⟩) HS3.out (fun _ hk => hk.2) (.int .u8 t1)) (fun _ hk => hk.2) (.int .u8 t2)) (fun _ hk => hk.2) (.slice Ao t3.length co)); have HR4 : Aside0 (Kd.R (Kd.int .u8) 5 w19 w.heap.size (fun k => True ∧ k ≠ gb) (.slice Ao t3.length co) t3) := Aside0.mk (by rw [hw]; exact Kd.R_far (p := ⟨gb, 2, none⟩) (Kd.R_far (p := ⟨gb, 1, none⟩) (Kd.R_far (p := ⟨gb, 0, none⟩) HR3.out (fun _ hk => hk.2) (.int .u8 t1)) (fun _ hk => hk.2) (.int .u8 t2)) (fun _ hk => hk.2) (.slice Ao t3.length co)); have HB4 : Aside0 (Below w.heap.size w w19) := Aside0.mk (by rw [hw]; exact below_set (below_set (below_set HB3.out HGB.out) HGB.out) HGB.out); have HI4 : Aside0 (w19.heap[w.heap.size]? = some (.cells #[.slice A0 l0.length c0, .int .i64 (r5 : Int)] 64 (0, 0))) := Aside0.mk (by rw [hw]; exact blk_far (blk_far (blk_far HI3.out HNG.out _) HNG.out _) HNG.out _); have HX4 : Aside0 (w19.heap[gb]? = some (.cells #[.int .u8 t1, .int .u8 t2, .slice Ao t3.length co] 38 (0, 0))) := Aside0.mk (by rw [hw]; exact blk_set (blk_set (blk_set HX3.out 0 _) 1 _) 2 _); clear hw HS3 HR3 HB3 HI3 HX3 hx0 hx1 hx2 hzx0 hzx1 hzx2; have hx0 : w19.cell? ⟨gb, 0, none⟩ = some (.int .u8 t1) := (blk_cell HX4.out 0).trans rfl; have hx1 : w19.cell? ⟨gb, 1, none⟩ = some (.int .u8 t2) := (blk_cell HX4.out 1).trans rfl; have hx2 : w19.cell? ⟨gb, 2, none⟩ = some (.slice Ao t3.length co) := (blk_cell HX4.out 2).trans rfl) | ((with_reducible refine gate_builtin (b := .append) (xs := #[.tmp 39, .tmp 41]) rfl ?_); at_builtin; refine Kd.S_append k38 (w0 := w) w.heap.size rfl (.tmp 39) (.tmp 41) 36 38 (.agg #[(.int .u8 0), (.int .u8 0), (.slice none 0 0)]) 32 rfl Try.underlying36 info38 rfl (by decide) (by omega) u5 xs (⟨t1, t2, t3⟩ : S38) [.int .u8 t1, .int .u8 t2, .slice Ao t3.length co] (fun k_ => k_ ≠ w.heap.size) (fun k_ => some k_ = (.slice Ao t3.length co : Value).ownBlock) rfl rfl ?aP ?aK ?aF ?aO ?aB ?aS ?aL ?_; (case aP => exact k38_mkM _ _ _ (⟨t1, t2, t3⟩ : S38) (Kd.R_tight rfl HR4.out)); (case aK => exact (fun k_ hk => ⟨((Kd.R_types HR4.out HI4.out (by decide)).1 k_ hk.symm).2, ((Kd.R_apart' HR4.out (Kd.S_typed HS4.out) (by decide)).1 k_ hk.symm).2⟩)); (case aF => exact (fun k_ hk => by have := blk_lt HI4.out; omega)); (case aO => exact Kd.S_mono HS4.out (fun k_ hk => ⟨hk.1.1, fun e_ => hk.1.2 e_⟩)); (case aB => exact HB4.out); (case aS => exact HB4.out.size); (case aL => have := LMc14.out; omega); intro v5 w21 ho hb hg hat; have HS5 := Aside0.mk ho; have HG5 : Aside0 (RdR w w21 A0 c0 l0 w.heap.size r5) := Aside0.mk ⟨hb, Nat.le_refl _, blk_grown HI4.out hg (Kd.S_away HS4.out (fun _ hk => hk.1.1))⟩; clear ho hb hg hat HS4 HR4 HB4 HI4 HX4 hx0 hx1 hx2))
     go_roundg k1
     case measure => have := HK1.out; omega
     case rel => exact ⟨xs ++ [⟨t1, t2, t3⟩], r5, ⟨by have := H'.out; rw [HQ0.out] at this; exact this⟩, ⟨by have := HK1.out; omega⟩, HS5, HG5⟩
    ·rw [if_neg c13] at H
     have c13b : (t4 == 0) = false := by simp [c13]
     obtain ⟨rfl, rfl⟩ : [] = r1 ∧ t4 = r2 := by simpa using H
     clear H c13
     go_wp2_with (first | ((with_reducible refine gate_callee (f := 46) rfl ?_); refine goesL_ (some 33) rfl rfl Try.func46 (by kernel_rfl) rfl #[.pointer (some ⟨w.heap.size, 0, none⟩)] rfl (by first | rfl | go_simp) ?_; refine (rnext_calls k1 A0 c0 l0 w.heap.size at_ t1 t2 t3 t4 t5 w _ HR0.out HC0.out HLN.out HG.out HAT.out A12.out).mono ?_; rintro _ w15 ⟨v0, rfl, ho0, hI, hK⟩; have HS2 := Aside0.mk (rk_oldS HS.out hK ho0); have HR2 := Aside0.mk (Kd.R_lower ho0 HG.out.1.size); have HI2 := Aside0.mk hI; clear ho0 hK hI HS HG hs1; obtain ⟨Ao, co, eo⟩ := Kd.R_slice HR2.out; subst eo; refine ⟨_, rfl, ?_⟩) | ((with_reducible refine gate_dst (N := 6) rfl ?_); refine box_event ?hg (N := 6) ?hd (cs := #[.int .u8 0, .int .u8 0, .slice none 0 0]) (t := 38) ?hr ?_; (case hd => rfl); (case hg => rfl); (case hr => first | (go_simp; done) | (go_simp; rfl)); intro gb hg w16 hbox hb; obtain ⟨r5, q0, q1, q2, q3⟩ := HI2.out; have HS3 := Aside0.mk (rk_boxS HS2.out hb hg); have HR3 := Aside0.mk (rk_boxR HR2.out hb hg); have HB3 := Aside0.mk (below_step q1 hb); have HI3 := Aside0.mk (blk_below q3 hb); have HX3 := Aside0.mk hbox; have HNG : Aside0 (w.heap.size ≠ gb) := Aside0.mk (by rw [hg]; exact Nat.ne_of_lt (blk_lt q3)); have HGB : Aside0 (w.heap.size ≤ gb) := Aside0.mk (by rw [hg]; exact q1.size); have HQ0 := Aside0.mk q0; clear q0 q1 q2 q3 hb hbox hg HS2 HR2 HI2; have hx0 : w16.cell? ⟨gb, 0, none⟩ = some (.int .u8 0) := (blk_cell HX3.out 0).trans rfl; have hx1 : w16.cell? ⟨gb, 1, none⟩ = some (.int .u8 0) := (blk_cell HX3.out 1).trans rfl; have hx2 : w16.cell? ⟨gb, 2, none⟩ = some (.slice none 0 0) := (blk_cell HX3.out 2).trans rfl; have hzx0 := blk_frozen HX3.out 0; have hzx1 := blk_frozen HX3.out 1; have hzx2 := blk_frozen HX3.out 2))
     go_ret2
     exact ⟨_, rfl, Kd.S_nil _ _ _ _ _, below_set (below_set (below_set HB3.out HGB.out) HGB.out) HGB.out⟩
   ·rw [if_neg c11] at H
    have c11b : decide ((at_ : Int) < (l0.length : Int)) = false := decide_eq_false (by omega)
    have c11c : decide (at_ < l0.length) = false := decide_eq_false c11
    have c11d : l0.length ≤ at_ := by omega
    clear c11
    obtain ⟨rfl, rfl⟩ : xs = r1 ∧ (0 : Int) = r2 := by simpa using H
    clear H
    go_wp2
    go_ret2
    exact ⟨_, rfl, Kd.S_mono HS.out (fun _ _ => trivial), HG.out.1⟩
theorem rtext.mono : ∀ a0 a1 k, LeO (rtext k a0 a1) (rtext (k + 1) a0 a1) := by
 intro a0 a1 k
 unfold rtext
 dsimp only
 repeat' first
   | (with_reducible exact utf_Is.mono _ _)
   | (with_reducible exact LeO.refl _)
   | (with_reducible refine LeO.ite ?_ ?_)
   | (with_reducible refine LeO.bind ?_ (fun _ => ?_))
theorem ropq.mono : ∀ a0 a1 k, LeO (ropq k a0 a1) (ropq (k + 1) a0 a1) := by
 intro a0 a1 k
 unfold ropq
 repeat' first
   | (with_reducible exact num_GetMark.mono _ _ _)
   | (with_reducible exact LeO.refl _)
   | (with_reducible refine LeO.ite ?_ ?_)
   | (with_reducible refine LeO.bind ?_ (fun _ => ?_))
theorem rnext.mono : ∀ a0 a1 k, LeO (rnext k a0 a1) (rnext (k + 1) a0 a1) := by
 intro a0 a1 k
 unfold rnext
 dsimp only
 repeat' first
   | (with_reducible exact rtext.mono _ _ _)
   | (with_reducible exact ropq.mono _ _ _)
   | (with_reducible exact LeO.refl _)
   | (with_reducible refine LeO.ite ?_ ?_)
   | (with_reducible refine LeO.bind ?_ (fun _ => ?_))
theorem rget.mono_l : ∀ k, ∀ y0 y1 y2, LeO (rget.l0 k y0 y1 y2) (rget.l0 (k + 1) y0 y1 y2)
 | 0 => fun _ _ _ r h => by simp [rget.l0] at h
 | k + 1 => by
  have ih0 := rget.mono_l k
  intro y0 y1 y2
  unfold rget.l0
  repeat' first
   | (with_reducible exact ih0 _ _ _)
   | (with_reducible exact rnext.mono _ _ _)
   | (with_reducible exact LeO.refl _)
   | (with_reducible refine LeO.ite ?_ ?_)
   | (with_reducible refine LeO.bind ?_ (fun _ => ?_))
theorem token_Get.mono : ∀ a0 k, LeO (token_Get.f k a0) (token_Get.f (k + 1) a0) := by
 intro a0 k
 have ih0 := rget.mono_l k
 unfold token_Get.f
 repeat' first
   | (with_reducible exact ih0 _ _ _)
   | (with_reducible exact LeO.refl _)
   | (with_reducible refine LeO.ite ?_ ?_)

end Go.Proofs.Ytjcpnfmbdbeinaa.R
