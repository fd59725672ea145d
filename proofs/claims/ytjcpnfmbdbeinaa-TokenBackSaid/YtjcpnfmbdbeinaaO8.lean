/- What functions of the program compute: each call comes to what its plain Lean function answers. No conditions but those that each theorem names. -/
-- PRINTED by print.py (a twelfth state) out of the translation. Not trusted: Lean checks it.
import Derived.Test.YtjcpnfmbdbeinaaO0
import Derived.Test.YtjcpnfmbdbeinaaO3
import Derived.Test.YtjcpnfmbdbeinaaO4
import Derived.Test.YtjcpnfmbdbeinaaO5
import Derived.Test.YtjcpnfmbdbeinaaO6
import Derived.Test.YtjcpnfmbdbeinaaO7
namespace Go.Proofs.Ytjcpnfmbdbeinaa.O
open Go.RowKit Go.Proofs.YtjcpnfmbdbeinaaW.PrintWords Go.Proofs.YtjcpnfmbdbeinaaW.PrintLast Go.Proofs.YtjcpnfmbdbeinaaW.PrintMore
attribute [local go_sem] max2_int min2_int max_two min_two max_three min_three max_four min_four   -- for this text's walks alone
set_option linter.unusedVariables false
set_option linter.unusedSimpArgs false

/-! ### cardexlaw11_TokenBack: function 9 -/
def cardexlaw11_TokenBack.f (k : Nat) (l0 : List S38) : Option Bool :=
  (token_Put.f k l0).bind fun t => if t.2 = 0 then ((token_Get.f k t.1).bind fun u => if u.2 = 0 then (cardexref11_Same.f k l0 u.1).bind fun s => (if s = true then (if t.1.length ≤ 16384 then some true else none) else none) else none) else (if t.1.length = 0 then some true else none)
set_option maxHeartbeats 8000000 in
set_option maxRecDepth 100000 in
theorem cardexlaw11_TokenBack.calls (k : Nat) (A0 : Option Addr) (c0 : Nat) (l0 : List (S38)) (r : Bool) (w : World) (hr0 : Kd.C k38 w A0 l0.length l0) (hc0 : l0.length ≤ c0) (h : cardexlaw11_TokenBack.f k l0 = some r) :
    Calls Try.prog 9 #[.slice A0 l0.length c0] w fun e w' => e = .returned (.bool r) ∧ Below w.heap.size w w' := by
  have hu38 := Try.underlying38
  have HR0 := Aside0.mk hr0
  have HC0 := Aside0.mk hc0
  clear hr0 hc0
  have HB := Aside0.mk (Below.refl w.heap.size w)
  unfold cardexlaw11_TokenBack.f at h
  obtain ⟨⟨b, e⟩, hp, h⟩ := Option.bind_eq_some_iff.1 h
  have HP := Aside0.mk hp
  clear hp
  dsimp only at h
  by_cases c1 : e = 0
  case neg =>
    rw [if_neg c1] at h
    by_cases c2 : b.length = 0
    case neg => rw [if_neg c2] at h; cases h
    rw [if_pos c2] at h
    obtain rfl := Option.some.inj h
    have c1b : (e == 0) = false := by simp [c1]
    have c1c : (e != 0) = true := by simp [c1]
    obtain rfl : b = [] := List.eq_nil_of_length_eq_zero c2
    clear c1 c2 h
    go_enter Try.func9, Try.ntmps9
    go_wp2_with (first | ((with_reducible refine gate_callee (f := 25) rfl ?_); (with_reducible refine gate_dst (N := 9) rfl ?_); (try (refine gate_guard (by rfl) ?_; dsimp only)); refine goesL_ (some 9) rfl rfl Try.func25 (by kernel_rfl) rfl #[.slice A0 l0.length c0] rfl (by first | rfl | go_simp) ?_; refine (token_Put.calls k A0 c0 l0 _ _ _ (Kd.C_below HR0.out (by repeat (first | exact Below.refl _ _ | apply below_alloc | apply pw_below_drewN | apply below_drew1))) HC0.out HP.out).mono ?_; rintro _ Wp ⟨vp, rfl, ho, hb⟩; obtain ⟨Ap, cp, ep, hcp, hCp⟩ := KxR_read ho; subst ep; have HCp := Aside0.mk hCp; have HLp := Aside0.mk hcp; have n0_ := Aside0.mk (below_step (by repeat (first | exact HB.out | apply below_alloc | apply pw_below_drewN | apply below_drew1)) hb); clear HB; have HB := n0_; clear n0_; have n0_ := Aside0.mk (Kd.C_below HR0.out (below_step (by repeat (first | exact Below.refl _ _ | apply below_alloc | apply pw_below_drewN | apply below_drew1)) hb)); clear HR0; have HR0 := n0_; clear n0_; clear ho hb hCp hcp; refine ⟨_, rfl, ?_⟩) | ((with_reducible refine gate_callee (f := 32) rfl ?_); (with_reducible refine gate_dst (N := 18) rfl ?_); (try (refine gate_guard (by rfl) ?_; dsimp only)); refine goesL_ (some 18) rfl rfl Try.func32 (by kernel_rfl) rfl #[] rfl (by first | rfl | go_simp) ?_; refine (cardexlaw11_lives.calls true _ rfl).mono ?_; rintro _ WL18 ⟨rfl, hb⟩; have n0_ := Aside0.mk (below_step (by repeat (first | exact HB.out | apply below_alloc | apply pw_below_drewN | apply below_drew1)) hb); clear HB; have HB := n0_; clear n0_ hb; refine ⟨_, rfl, ?_⟩))
    go_ret
    exact ⟨rfl, (by repeat (first | exact HB.out | apply below_alloc | apply pw_below_drewN | apply below_drew1))⟩
  rw [if_pos c1] at h
  have c1b : (e == 0) = true := by simp [c1]
  have c1c : (e != 0) = false := by simp [c1]
  clear c1
  obtain ⟨⟨m, f⟩, hg, h⟩ := Option.bind_eq_some_iff.1 h
  have HG := Aside0.mk hg
  clear hg
  dsimp only at h
  by_cases c3 : f = 0
  case neg => rw [if_neg c3] at h; cases h
  rw [if_pos c3] at h
  have c3b : (f == 0) = true := by simp [c3]
  clear c3
  obtain ⟨s, hs, h⟩ := Option.bind_eq_some_iff.1 h
  rcases s with _ | _
  · cases h
  have HS := Aside0.mk hs
  clear hs
  rw [if_pos rfl] at h
  by_cases c4 : b.length ≤ 16384
  case neg => rw [if_neg c4] at h; cases h
  rw [if_pos c4] at h
  obtain rfl := Option.some.inj h
  have c4b : decide ((b.length : Int) ≤ 16384) = true := decide_eq_true (by omega)
  have c4c : decide (b.length ≤ 16384) = true := decide_eq_true c4
  clear h
  go_enter Try.func9, Try.ntmps9
  go_wp2_with (first | ((with_reducible refine gate_callee (f := 25) rfl ?_); (with_reducible refine gate_dst (N := 9) rfl ?_); (try (refine gate_guard (by rfl) ?_; dsimp only)); refine goesL_ (some 9) rfl rfl Try.func25 (by kernel_rfl) rfl #[.slice A0 l0.length c0] rfl (by first | rfl | go_simp) ?_; refine (token_Put.calls k A0 c0 l0 _ _ _ (Kd.C_below HR0.out (by repeat (first | exact Below.refl _ _ | apply below_alloc | apply pw_below_drewN | apply below_drew1))) HC0.out HP.out).mono ?_; rintro _ Wp ⟨vp, rfl, ho, hb⟩; obtain ⟨Ap, cp, ep, hcp, hCp⟩ := KxR_read ho; subst ep; have HCp := Aside0.mk hCp; have HLp := Aside0.mk hcp; have n0_ := Aside0.mk (below_step (by repeat (first | exact HB.out | apply below_alloc | apply pw_below_drewN | apply below_drew1)) hb); clear HB; have HB := n0_; clear n0_; have n0_ := Aside0.mk (Kd.C_below HR0.out (below_step (by repeat (first | exact Below.refl _ _ | apply below_alloc | apply pw_below_drewN | apply below_drew1)) hb)); clear HR0; have HR0 := n0_; clear n0_; clear ho hb hCp hcp; refine ⟨_, rfl, ?_⟩) | ((with_reducible refine gate_callee (f := 34) rfl ?_); (with_reducible refine gate_dst (N := 22) rfl ?_); (try (refine gate_guard (by rfl) ?_; dsimp only)); refine goesL_ (some 22) rfl rfl Try.func34 (by kernel_rfl) rfl #[.slice Ap b.length cp] rfl (by first | rfl | go_simp) ?_; refine (token_Get.calls k Ap cp b _ _ _ (Kd.C_below HCp.out (by repeat (first | exact Below.refl _ _ | apply below_alloc | apply pw_below_drewN | apply below_drew1))) HLp.out HG.out).mono ?_; rintro _ Wg ⟨vg, rfl, ho, hb⟩; obtain ⟨Ag, cg, eg, hcg, hCg⟩ := Kd.S_reads ho; subst eg; have HCg := Aside0.mk hCg; have HLg := Aside0.mk hcg; have n0_ := Aside0.mk (below_step (by repeat (first | exact HB.out | apply below_alloc | apply pw_below_drewN | apply below_drew1)) hb); clear HB; have HB := n0_; clear n0_; have n0_ := Aside0.mk (Kd.C_below HR0.out (below_step (by repeat (first | exact Below.refl _ _ | apply below_alloc | apply pw_below_drewN | apply below_drew1)) hb)); clear HR0; have HR0 := n0_; clear n0_; have n0_ := Aside0.mk (Kd.C_below HCp.out (below_step (by repeat (first | exact Below.refl _ _ | apply below_alloc | apply pw_below_drewN | apply below_drew1)) hb)); clear HCp; have HCp := n0_; clear n0_; clear ho hb hCg hcg; refine ⟨_, rfl, ?_⟩) | ((with_reducible refine gate_callee (f := 31) rfl ?_); (with_reducible refine gate_dst (N := 30) rfl ?_); (try (refine gate_guard (by rfl) ?_; dsimp only)); refine goesL_ (some 30) rfl rfl Try.func31 (by kernel_rfl) rfl #[.slice A0 l0.length c0, .slice Ag m.length cg] rfl (by first | rfl | go_simp) ?_; refine (cardexref11_Same.calls k A0 c0 l0 Ag cg m true _ (Kd.C_below HR0.out (by repeat (first | exact Below.refl _ _ | apply below_alloc | apply pw_below_drewN | apply below_drew1))) HC0.out (Kd.C_below HCg.out (by repeat (first | exact Below.refl _ _ | apply below_alloc | apply pw_below_drewN | apply below_drew1))) HLg.out HS.out).mono ?_; rintro _ Ws30 ⟨rfl, hb⟩; have n0_ := Aside0.mk (below_step (by repeat (first | exact HB.out | apply below_alloc | apply pw_below_drewN | apply below_drew1)) hb); clear HB; have HB := n0_; clear n0_; clear hb; refine ⟨_, rfl, ?_⟩) | ((with_reducible refine gate_callee (f := 32) rfl ?_); (with_reducible refine gate_dst (N := 38) rfl ?_); (try (refine gate_guard (by rfl) ?_; dsimp only)); refine goesL_ (some 38) rfl rfl Try.func32 (by kernel_rfl) rfl #[] rfl (by first | rfl | go_simp) ?_; refine (cardexlaw11_lives.calls true _ rfl).mono ?_; rintro _ WL38 ⟨rfl, hb⟩; have n0_ := Aside0.mk (below_step (by repeat (first | exact HB.out | apply below_alloc | apply pw_below_drewN | apply below_drew1)) hb); clear HB; have HB := n0_; clear n0_ hb; refine ⟨_, rfl, ?_⟩))
  go_ret
  exact ⟨rfl, (by repeat (first | exact HB.out | apply below_alloc | apply pw_below_drewN | apply below_drew1))⟩

/-! ### cardexlaw11_TokenCut: function 11 -/
def cardexlaw11_TokenCut.f (k : Nat) (l0 : List S38) (a1 : Int) : Option Bool :=
  (token_Put.f k l0).bind fun t => if t.2 = 0 then (if 0 ≤ a1 then (if a1 < t.1.length then
    ((token_Get.f k (t.1.take a1.toNat)).bind fun u => if u.2 = 0 then (if 4 ≤ a1 then (if u.1.length < l0.length then (cardexref11_Same.f k u.1 (l0.take u.1.length)).bind fun s => (if s = true then some true else none) else none) else none) else (if u.2 = 4 then some true else none))
    else some true) else some true) else some true
set_option maxHeartbeats 8000000 in
set_option maxRecDepth 100000 in
theorem cardexlaw11_TokenCut.calls (k : Nat) (A0 : Option Addr) (c0 : Nat) (l0 : List (S38)) (a1 : Int) (r : Bool) (w : World) (hr0 : Kd.C k38 w A0 l0.length l0) (hc0 : l0.length ≤ c0) (h : cardexlaw11_TokenCut.f k l0 a1 = some r) :
    Calls Try.prog 11 #[.slice A0 l0.length c0, .int .i64 a1] w fun e w' => e = .returned (.bool r) ∧ Below w.heap.size w w' := by
  have hu38 := Try.underlying38
  have HR0 := Aside0.mk hr0
  have HC0 := Aside0.mk hc0
  clear hr0 hc0
  have HB := Aside0.mk (Below.refl w.heap.size w)
  unfold cardexlaw11_TokenCut.f at h
  obtain ⟨⟨b, e⟩, hp, h⟩ := Option.bind_eq_some_iff.1 h
  have HP := Aside0.mk hp
  clear hp
  dsimp only at h
  by_cases c1 : e = 0
  case neg =>
    rw [if_neg c1] at h
    obtain rfl := Option.some.inj h
    have c1b : (e == 0) = false := by simp [c1]
    have c1c : (e != 0) = true := by simp [c1]
    clear c1 h
    go_enter Try.func11, Try.ntmps11
    go_wp2_with (first | ((with_reducible refine gate_callee (f := 25) rfl ?_); (with_reducible refine gate_dst (N := 11) rfl ?_); (try (refine gate_guard (by rfl) ?_; dsimp only)); refine goesL_ (some 11) rfl rfl Try.func25 (by kernel_rfl) rfl #[.slice A0 l0.length c0] rfl (by first | rfl | go_simp) ?_; refine (token_Put.calls k A0 c0 l0 _ _ _ (Kd.C_below HR0.out (by repeat (first | exact Below.refl _ _ | apply below_alloc | apply pw_below_drewN | apply below_drew1))) HC0.out HP.out).mono ?_; rintro _ Wp ⟨vp, rfl, ho, hb⟩; obtain ⟨Ap, cp, ep, hcp, hCp⟩ := KxR_read ho; subst ep; have HCp := Aside0.mk hCp; have HLp := Aside0.mk hcp; have n0_ := Aside0.mk (below_step (by repeat (first | exact HB.out | apply below_alloc | apply pw_below_drewN | apply below_drew1)) hb); clear HB; have HB := n0_; clear n0_; have n0_ := Aside0.mk (Kd.C_below HR0.out (below_step (by repeat (first | exact Below.refl _ _ | apply below_alloc | apply pw_below_drewN | apply below_drew1)) hb)); clear HR0; have HR0 := n0_; clear n0_; clear ho hb hCp hcp; refine ⟨_, rfl, ?_⟩) | ((with_reducible refine gate_callee (f := 32) rfl ?_); (with_reducible refine gate_dst (N := 26) rfl ?_); (try (refine gate_guard (by rfl) ?_; dsimp only)); refine goesL_ (some 26) rfl rfl Try.func32 (by kernel_rfl) rfl #[] rfl (by first | rfl | go_simp) ?_; refine (cardexlaw11_lives.calls true _ rfl).mono ?_; rintro _ WL26 ⟨rfl, hb⟩; have n0_ := Aside0.mk (below_step (by repeat (first | exact HB.out | apply below_alloc | apply pw_below_drewN | apply below_drew1)) hb); clear HB; have HB := n0_; clear n0_ hb; refine ⟨_, rfl, ?_⟩))
    go_ret
    exact ⟨rfl, (by repeat (first | exact HB.out | apply below_alloc | apply pw_below_drewN | apply below_drew1))⟩
  rw [if_pos c1] at h
  have c1b : (e == 0) = true := by simp [c1]
  have c1c : (e != 0) = false := by simp [c1]
  clear c1
  by_cases c2 : 0 ≤ a1
  case neg =>
    rw [if_neg c2] at h
    obtain rfl := Option.some.inj h
    have c2b : decide (a1 < 0) = true := decide_eq_true (by omega)
    clear h
    go_enter Try.func11, Try.ntmps11
    go_wp2_with (first | ((with_reducible refine gate_callee (f := 25) rfl ?_); (with_reducible refine gate_dst (N := 11) rfl ?_); (try (refine gate_guard (by rfl) ?_; dsimp only)); refine goesL_ (some 11) rfl rfl Try.func25 (by kernel_rfl) rfl #[.slice A0 l0.length c0] rfl (by first | rfl | go_simp) ?_; refine (token_Put.calls k A0 c0 l0 _ _ _ (Kd.C_below HR0.out (by repeat (first | exact Below.refl _ _ | apply below_alloc | apply pw_below_drewN | apply below_drew1))) HC0.out HP.out).mono ?_; rintro _ Wp ⟨vp, rfl, ho, hb⟩; obtain ⟨Ap, cp, ep, hcp, hCp⟩ := KxR_read ho; subst ep; have HCp := Aside0.mk hCp; have HLp := Aside0.mk hcp; have n0_ := Aside0.mk (below_step (by repeat (first | exact HB.out | apply below_alloc | apply pw_below_drewN | apply below_drew1)) hb); clear HB; have HB := n0_; clear n0_; have n0_ := Aside0.mk (Kd.C_below HR0.out (below_step (by repeat (first | exact Below.refl _ _ | apply below_alloc | apply pw_below_drewN | apply below_drew1)) hb)); clear HR0; have HR0 := n0_; clear n0_; clear ho hb hCp hcp; refine ⟨_, rfl, ?_⟩) | ((with_reducible refine gate_callee (f := 32) rfl ?_); (with_reducible refine gate_dst (N := 26) rfl ?_); (try (refine gate_guard (by rfl) ?_; dsimp only)); refine goesL_ (some 26) rfl rfl Try.func32 (by kernel_rfl) rfl #[] rfl (by first | rfl | go_simp) ?_; refine (cardexlaw11_lives.calls true _ rfl).mono ?_; rintro _ WL26 ⟨rfl, hb⟩; have n0_ := Aside0.mk (below_step (by repeat (first | exact HB.out | apply below_alloc | apply pw_below_drewN | apply below_drew1)) hb); clear HB; have HB := n0_; clear n0_ hb; refine ⟨_, rfl, ?_⟩))
    go_ret
    exact ⟨rfl, (by repeat (first | exact HB.out | apply below_alloc | apply pw_below_drewN | apply below_drew1))⟩
  rw [if_pos c2] at h
  have c2b : decide (a1 < 0) = false := decide_eq_false (by omega)
  by_cases c3 : a1 < b.length
  case neg =>
    rw [if_neg c3] at h
    obtain rfl := Option.some.inj h
    have c3b : decide ((b.length : Int) ≤ a1) = true := decide_eq_true (by omega)
    clear h c3
    go_enter Try.func11, Try.ntmps11
    go_wp2_with (first | ((with_reducible refine gate_callee (f := 25) rfl ?_); (with_reducible refine gate_dst (N := 11) rfl ?_); (try (refine gate_guard (by rfl) ?_; dsimp only)); refine goesL_ (some 11) rfl rfl Try.func25 (by kernel_rfl) rfl #[.slice A0 l0.length c0] rfl (by first | rfl | go_simp) ?_; refine (token_Put.calls k A0 c0 l0 _ _ _ (Kd.C_below HR0.out (by repeat (first | exact Below.refl _ _ | apply below_alloc | apply pw_below_drewN | apply below_drew1))) HC0.out HP.out).mono ?_; rintro _ Wp ⟨vp, rfl, ho, hb⟩; obtain ⟨Ap, cp, ep, hcp, hCp⟩ := KxR_read ho; subst ep; have HCp := Aside0.mk hCp; have HLp := Aside0.mk hcp; have n0_ := Aside0.mk (below_step (by repeat (first | exact HB.out | apply below_alloc | apply pw_below_drewN | apply below_drew1)) hb); clear HB; have HB := n0_; clear n0_; have n0_ := Aside0.mk (Kd.C_below HR0.out (below_step (by repeat (first | exact Below.refl _ _ | apply below_alloc | apply pw_below_drewN | apply below_drew1)) hb)); clear HR0; have HR0 := n0_; clear n0_; clear ho hb hCp hcp; refine ⟨_, rfl, ?_⟩) | ((with_reducible refine gate_callee (f := 32) rfl ?_); (with_reducible refine gate_dst (N := 26) rfl ?_); (try (refine gate_guard (by rfl) ?_; dsimp only)); refine goesL_ (some 26) rfl rfl Try.func32 (by kernel_rfl) rfl #[] rfl (by first | rfl | go_simp) ?_; refine (cardexlaw11_lives.calls true _ rfl).mono ?_; rintro _ WL26 ⟨rfl, hb⟩; have n0_ := Aside0.mk (below_step (by repeat (first | exact HB.out | apply below_alloc | apply pw_below_drewN | apply below_drew1)) hb); clear HB; have HB := n0_; clear n0_ hb; refine ⟨_, rfl, ?_⟩))
    go_ret
    exact ⟨rfl, (by repeat (first | exact HB.out | apply below_alloc | apply pw_below_drewN | apply below_drew1))⟩
  rw [if_pos c3] at h
  have c3b : decide ((b.length : Int) ≤ a1) = false := decide_eq_false (by omega)
  obtain ⟨i5, hi5, _, hsz5, _⟩ := info_parts info5
  have HI5 := Aside0.mk hi5
  clear hi5 hsz5
  obtain ⟨y, hy⟩ : ∃ y, y = b.take a1.toNat := ⟨_, rfl⟩
  have NY := Aside0.mk hy
  have NYL : Aside0 (a1.toNat = y.length) := Aside0.mk (by rw [hy]; simp; omega)
  rw [← hy] at h
  clear hy
  have C2 := Aside0.mk c2
  have C3 := Aside0.mk c3
  clear c2 c3
  obtain ⟨⟨m, f⟩, hg, h⟩ := Option.bind_eq_some_iff.1 h
  have HG := Aside0.mk hg
  clear hg
  dsimp only at h
  by_cases c4 : f = 0
  case neg =>
    rw [if_neg c4] at h
    by_cases c5 : f = 4
    case neg => rw [if_neg c5] at h; cases h
    rw [if_pos c5] at h
    obtain rfl := Option.some.inj h
    have c4b : (f == 0) = false := by simp [c4]
    have c4c : (f != 0) = true := by simp [c4]
    have c5b : (f == 4) = true := by simp [c5]
    clear c4 c5 h
    go_enter Try.func11, Try.ntmps11
    go_wp2_with (first | ((with_reducible refine gate_callee (f := 25) rfl ?_); (with_reducible refine gate_dst (N := 11) rfl ?_); (try (refine gate_guard (by rfl) ?_; dsimp only)); refine goesL_ (some 11) rfl rfl Try.func25 (by kernel_rfl) rfl #[.slice A0 l0.length c0] rfl (by first | rfl | go_simp) ?_; refine (token_Put.calls k A0 c0 l0 _ _ _ (Kd.C_below HR0.out (by repeat (first | exact Below.refl _ _ | apply below_alloc | apply pw_below_drewN | apply below_drew1))) HC0.out HP.out).mono ?_; rintro _ Wp ⟨vp, rfl, ho, hb⟩; obtain ⟨Ap, cp, ep, hcp, hCp⟩ := KxR_read ho; subst ep; have HCp := Aside0.mk hCp; have HLp := Aside0.mk hcp; have n0_ := Aside0.mk (below_step (by repeat (first | exact HB.out | apply below_alloc | apply pw_below_drewN | apply below_drew1)) hb); clear HB; have HB := n0_; clear n0_; have n0_ := Aside0.mk (Kd.C_below HR0.out (below_step (by repeat (first | exact Below.refl _ _ | apply below_alloc | apply pw_below_drewN | apply below_drew1)) hb)); clear HR0; have HR0 := n0_; clear n0_; clear ho hb hCp hcp; have hcut := cut_to (P := Try.prog) 22 5 .i64 Try.underlying22 HI5.out Ap b.length cp a1 C2.out (by have := C3.out; omega) HLp.out; rw [NYL.out] at hcut; have HCy := Aside0.mk (Kd.C_take (m := a1.toNat) HCp.out (by have := C3.out; have := C2.out; omega)); rw [← NY.out] at HCy; have HLy : Aside0 (y.length ≤ cp) := Aside0.mk (by rw [← NYL.out]; have := C3.out; have := HLp.out; omega); refine ⟨_, rfl, ?_⟩) | ((with_reducible refine gate_callee (f := 34) rfl ?_); (with_reducible refine gate_dst (N := 31) rfl ?_); (try (refine gate_guard (by rfl) ?_; dsimp only)); refine goesL_ (some 31) rfl rfl Try.func34 (by kernel_rfl) rfl #[.slice Ap y.length cp] rfl (by first | rfl | go_simp) ?_; refine (token_Get.calls k Ap cp y _ _ _ (Kd.C_below HCy.out (by repeat (first | exact Below.refl _ _ | apply below_alloc | apply pw_below_drewN | apply below_drew1))) HLy.out HG.out).mono ?_; rintro _ Wg ⟨vg, rfl, ho, hb⟩; obtain ⟨Ag, cg, eg, hcg, hCg⟩ := Kd.S_reads ho; subst eg; have HCg := Aside0.mk hCg; have HLg := Aside0.mk hcg; have n0_ := Aside0.mk (below_step (by repeat (first | exact HB.out | apply below_alloc | apply pw_below_drewN | apply below_drew1)) hb); clear HB; have HB := n0_; clear n0_; have n0_ := Aside0.mk (Kd.C_below HR0.out (below_step (by repeat (first | exact Below.refl _ _ | apply below_alloc | apply pw_below_drewN | apply below_drew1)) hb)); clear HR0; have HR0 := n0_; clear n0_; clear ho hb hCg hcg; refine ⟨_, rfl, ?_⟩) | ((with_reducible refine gate_callee (f := 32) rfl ?_); (with_reducible refine gate_dst (N := 39) rfl ?_); (try (refine gate_guard (by rfl) ?_; dsimp only)); refine goesL_ (some 39) rfl rfl Try.func32 (by kernel_rfl) rfl #[] rfl (by first | rfl | go_simp) ?_; refine (cardexlaw11_lives.calls true _ rfl).mono ?_; rintro _ WL39 ⟨rfl, hb⟩; have n0_ := Aside0.mk (below_step (by repeat (first | exact HB.out | apply below_alloc | apply pw_below_drewN | apply below_drew1)) hb); clear HB; have HB := n0_; clear n0_ hb; refine ⟨_, rfl, ?_⟩))
    go_ret
    exact ⟨rfl, (by repeat (first | exact HB.out | apply below_alloc | apply pw_below_drewN | apply below_drew1))⟩
  rw [if_pos c4] at h
  have c4b : (f == 0) = true := by simp [c4]
  have c4c : (f != 0) = false := by simp [c4]
  clear c4
  by_cases c6 : 4 ≤ a1
  case neg => rw [if_neg c6] at h; cases h
  rw [if_pos c6] at h
  have c6b : decide (4 ≤ a1) = true := decide_eq_true c6
  clear c6
  by_cases c7 : m.length < l0.length
  case neg => rw [if_neg c7] at h; cases h
  rw [if_pos c7] at h
  have c7b : decide ((m.length : Int) < (l0.length : Int)) = true := decide_eq_true (by omega)
  have c7c : decide (m.length < l0.length) = true := decide_eq_true c7
  obtain ⟨z, hz⟩ : ∃ z, z = l0.take m.length := ⟨_, rfl⟩
  have NZ := Aside0.mk hz
  have NZL : m.length = z.length := by rw [hz]; simp; omega
  rw [← hz] at h
  obtain ⟨i8, hi8, _⟩ := info_parts info38
  have hcut2 := cut_to (P := Try.prog) 36 38 .i64 Try.underlying36 hi8 A0 l0.length c0 (m.length : Int) (by omega) (by omega) HC0.out
  rw [show ((m.length : Int)).toNat = z.length from by rw [← NZL]; simp] at hcut2
  have HLz : Aside0 (z.length ≤ c0) := Aside0.mk (by rw [← NZL]; have := HC0.out; omega)
  have hml : m.length ≤ l0.length := by omega
  have HML := Aside0.mk hml
  clear hz NZL c7 hml
  obtain ⟨s, hs, h⟩ := Option.bind_eq_some_iff.1 h
  rcases s with _ | _
  · cases h
  have HS := Aside0.mk hs
  clear hs
  rw [if_pos rfl] at h
  obtain rfl := Option.some.inj h
  clear h
  go_enter Try.func11, Try.ntmps11
  go_wp2_with (first | ((with_reducible refine gate_callee (f := 25) rfl ?_); (with_reducible refine gate_dst (N := 11) rfl ?_); (try (refine gate_guard (by rfl) ?_; dsimp only)); refine goesL_ (some 11) rfl rfl Try.func25 (by kernel_rfl) rfl #[.slice A0 l0.length c0] rfl (by first | rfl | go_simp) ?_; refine (token_Put.calls k A0 c0 l0 _ _ _ (Kd.C_below HR0.out (by repeat (first | exact Below.refl _ _ | apply below_alloc | apply pw_below_drewN | apply below_drew1))) HC0.out HP.out).mono ?_; rintro _ Wp ⟨vp, rfl, ho, hb⟩; obtain ⟨Ap, cp, ep, hcp, hCp⟩ := KxR_read ho; subst ep; have HCp := Aside0.mk hCp; have HLp := Aside0.mk hcp; have n0_ := Aside0.mk (below_step (by repeat (first | exact HB.out | apply below_alloc | apply pw_below_drewN | apply below_drew1)) hb); clear HB; have HB := n0_; clear n0_; have n0_ := Aside0.mk (Kd.C_below HR0.out (below_step (by repeat (first | exact Below.refl _ _ | apply below_alloc | apply pw_below_drewN | apply below_drew1)) hb)); clear HR0; have HR0 := n0_; clear n0_; clear ho hb hCp hcp; have hcut := cut_to (P := Try.prog) 22 5 .i64 Try.underlying22 HI5.out Ap b.length cp a1 C2.out (by have := C3.out; omega) HLp.out; rw [NYL.out] at hcut; have HCy := Aside0.mk (Kd.C_take (m := a1.toNat) HCp.out (by have := C3.out; have := C2.out; omega)); rw [← NY.out] at HCy; have HLy : Aside0 (y.length ≤ cp) := Aside0.mk (by rw [← NYL.out]; have := C3.out; have := HLp.out; omega); refine ⟨_, rfl, ?_⟩) | ((with_reducible refine gate_callee (f := 34) rfl ?_); (with_reducible refine gate_dst (N := 31) rfl ?_); (try (refine gate_guard (by rfl) ?_; dsimp only)); refine goesL_ (some 31) rfl rfl Try.func34 (by kernel_rfl) rfl #[.slice Ap y.length cp] rfl (by first | rfl | go_simp) ?_; refine (token_Get.calls k Ap cp y _ _ _ (Kd.C_below HCy.out (by repeat (first | exact Below.refl _ _ | apply below_alloc | apply pw_below_drewN | apply below_drew1))) HLy.out HG.out).mono ?_; rintro _ Wg ⟨vg, rfl, ho, hb⟩; obtain ⟨Ag, cg, eg, hcg, hCg⟩ := Kd.S_reads ho; subst eg; have HCg := Aside0.mk hCg; have HLg := Aside0.mk hcg; have n0_ := Aside0.mk (below_step (by repeat (first | exact HB.out | apply below_alloc | apply pw_below_drewN | apply below_drew1)) hb); clear HB; have HB := n0_; clear n0_; have n0_ := Aside0.mk (Kd.C_below HR0.out (below_step (by repeat (first | exact Below.refl _ _ | apply below_alloc | apply pw_below_drewN | apply below_drew1)) hb)); clear HR0; have HR0 := n0_; clear n0_; clear ho hb hCg hcg; have HCz := Aside0.mk (Kd.C_take (m := m.length) HR0.out HML.out); rw [← NZ.out] at HCz; refine ⟨_, rfl, ?_⟩) | ((with_reducible refine gate_callee (f := 31) rfl ?_); (with_reducible refine gate_dst (N := 56) rfl ?_); (try (refine gate_guard (by rfl) ?_; dsimp only)); refine goesL_ (some 56) rfl rfl Try.func31 (by kernel_rfl) rfl #[.slice Ag m.length cg, .slice A0 z.length c0] rfl (by first | rfl | go_simp) ?_; refine (cardexref11_Same.calls k Ag cg m A0 c0 z true _ (Kd.C_below HCg.out (by repeat (first | exact Below.refl _ _ | apply below_alloc | apply pw_below_drewN | apply below_drew1))) HLg.out (Kd.C_below HCz.out (by repeat (first | exact Below.refl _ _ | apply below_alloc | apply pw_below_drewN | apply below_drew1))) HLz.out HS.out).mono ?_; rintro _ Ws56 ⟨rfl, hb⟩; have n0_ := Aside0.mk (below_step (by repeat (first | exact HB.out | apply below_alloc | apply pw_below_drewN | apply below_drew1)) hb); clear HB; have HB := n0_; clear n0_; clear hb; refine ⟨_, rfl, ?_⟩) | ((with_reducible refine gate_callee (f := 32) rfl ?_); (with_reducible refine gate_dst (N := 59) rfl ?_); (try (refine gate_guard (by rfl) ?_; dsimp only)); refine goesL_ (some 59) rfl rfl Try.func32 (by kernel_rfl) rfl #[] rfl (by first | rfl | go_simp) ?_; refine (cardexlaw11_lives.calls true _ rfl).mono ?_; rintro _ WL59 ⟨rfl, hb⟩; have n0_ := Aside0.mk (below_step (by repeat (first | exact HB.out | apply below_alloc | apply pw_below_drewN | apply below_drew1)) hb); clear HB; have HB := n0_; clear n0_ hb; refine ⟨_, rfl, ?_⟩))
  go_ret
  exact ⟨rfl, (by repeat (first | exact HB.out | apply below_alloc | apply pw_below_drewN | apply below_drew1))⟩

end Go.Proofs.Ytjcpnfmbdbeinaa.O
