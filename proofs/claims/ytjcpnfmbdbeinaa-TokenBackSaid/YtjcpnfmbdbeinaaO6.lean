/- What functions of the program compute: each call comes to what its plain Lean function answers. No conditions but those that each theorem names. -/
-- PRINTED by print.py (a twelfth state) out of the translation. Not trusted: Lean checks it.
import Derived.Test.YtjcpnfmbdbeinaaO0
import Derived.Test.YtjcpnfmbdbeinaaO3
import Derived.Test.YtjcpnfmbdbeinaaO4
import Derived.Test.YtjcpnfmbdbeinaaO5
namespace Go.Proofs.Ytjcpnfmbdbeinaa.O
open Go.RowKit Go.Proofs.YtjcpnfmbdbeinaaW.PrintWords Go.Proofs.YtjcpnfmbdbeinaaW.PrintLast Go.Proofs.YtjcpnfmbdbeinaaW.PrintMore
attribute [local go_sem] max2_int min2_int max_two min_two max_three min_three max_four min_four   -- for this text's walks alone
set_option linter.unusedVariables false
set_option linter.unusedSimpArgs false

-- NOT PRINTED: function 34 (token_Get)

/-! ### cardexlaw11_lives: function 32 -/
theorem C38_one {W : World} {A2 : Option Addr} {c2 : Nat} {x : S38} (h2 : x.f2.length ≤ c2) (g2 : Kd.C (Kd.int .u8) (W.alloc (.cells #[.int .u8 x.f0, .int .u8 x.f1, .slice A2 x.f2.length c2] 38)) A2 x.f2.length x.f2) :
    Kd.C k38 (W.alloc (.cells #[.int .u8 x.f0, .int .u8 x.f1, .slice A2 x.f2.length c2] 38)) (some ⟨W.heap.size, 0, none⟩) 1 [x] := by
  refine ⟨rfl, by decide, fun _ => ⟨_, rfl, fun j p hj => ?_⟩⟩
  have hj0 : j = 0 := by
    have := (List.getElem?_eq_some_iff.1 hj).1
    simp at this
    exact this
  subst hj0
  obtain rfl : x = p := by simpa using hj
  refine ⟨_, rfl, k38_mk _ x h2 g2, fun i u hu => ?_⟩
  have hadd : (⟨W.heap.size, 0, none⟩ : Addr).add (0 * k38.sz + i) = ⟨W.heap.size, i, none⟩ := by
    rw [Nat.zero_mul, Nat.zero_add]
    unfold Addr.add
    split <;> simp_all
  rw [hadd, cell_of_row _ W.heap.size i _ 38 (0, 0) (blk_new W _)]
  simpa using hu
set_option maxHeartbeats 8000000 in
set_option maxRecDepth 100000 in
theorem lives_calls (k : Nat) (w : World) (hg1 : Aside0 (token_Get.f k [3, 1, 106, 0, 69, 3, 65, 0, 1] = some ([(⟨2, 5, []⟩ : S38), ⟨5, 0, [65]⟩, ⟨4, 0, []⟩], 0))) (hp : Aside0 (token_Put.f k [⟨6, 0, [7]⟩] = some ([3, 1, 106, 0, 195, 1, 7], 0))) (hg2 : Aside0 (token_Get.f k [3, 1, 106, 0, 4] = some ([], 5))) (hs : Aside0 (cardexref00_Same.f [3, 1, 106, 0, 195, 1, 7] [3, 1, 106, 0, 195, 1, 7] = some true)) :
    Calls Try.prog 32 #[] w fun e w' => e = .returned (.bool true) ∧ Below w.heap.size w w' := by
  have hu38 := Try.underlying38
  have HB := Aside0.mk (Below.refl w.heap.size w)
  go_enter Try.func32, Try.ntmps32
  go_wp2_with (first | ((with_reducible refine gate_dst (N := 8) rfl ?_); refine Kd.R_lit (Kd.int .u8) _ 5 ?hg (N := 8) ?hd (xs := ([3, 1, 106, 0, 69, 3, 65, 0, 1] : List Int)) (inner := [.int .u8 3, .int .u8 1, .int .u8 106, .int .u8 0, .int .u8 69, .int .u8 3, .int .u8 65, .int .u8 0, .int .u8 1]) (ok := fun _ => True) (okp := fun _ => True) ?hr ?hp (fun _ hk => hk) trivial (Below.refl _ _) (Nat.le_refl _) (by simp) ?_; (case hd => rfl); (case hg => rfl); (case hr => first | (go_simp; done) | (go_simp; rfl)); (case hp => exact (Reps.one (show Kd.M (Kd.int .u8) _ _ _ 3 [.int .u8 3] from rfl) (Reps.one (show Kd.M (Kd.int .u8) _ _ _ 1 [.int .u8 1] from rfl) (Reps.one (show Kd.M (Kd.int .u8) _ _ _ 106 [.int .u8 106] from rfl) (Reps.one (show Kd.M (Kd.int .u8) _ _ _ 0 [.int .u8 0] from rfl) (Reps.one (show Kd.M (Kd.int .u8) _ _ _ 69 [.int .u8 69] from rfl) (Reps.one (show Kd.M (Kd.int .u8) _ _ _ 3 [.int .u8 3] from rfl) (Reps.one (show Kd.M (Kd.int .u8) _ _ _ 65 [.int .u8 65] from rfl) (Reps.one (show Kd.M (Kd.int .u8) _ _ _ 0 [.int .u8 0] from rfl) (Reps.one (show Kd.M (Kd.int .u8) _ _ _ 1 [.int .u8 1] from rfl) (Reps.none _ _))))))))))); intro va Wa ho hb hg_ hnew_; clear hg_ hnew_; obtain ⟨Aa, ca, ea, hca, hCa⟩ := Kd.R_reads ho; subst ea; have HCa := Aside0.mk hCa; have HLa := Aside0.mk hca; have n0_ := Aside0.mk (below_step (by repeat (first | exact HB.out | apply below_alloc | apply pw_below_drewN | apply below_drew1)) hb); clear HB; have HB := n0_; clear n0_; clear ho hb hCa hca) | ((with_reducible refine gate_callee (f := 34) rfl ?_); (with_reducible refine gate_dst (N := 9) rfl ?_); refine goesL_ (some 9) rfl rfl Try.func34 (by kernel_rfl) rfl #[.slice Aa ([3, 1, 106, 0, 69, 3, 65, 0, 1] : List Int).length ca] rfl (by first | rfl | go_simp) ?_; refine (token_Get.calls k Aa ca [3, 1, 106, 0, 69, 3, 65, 0, 1] _ _ _ (Kd.C_below HCa.out (by repeat (first | exact Below.refl _ _ | apply below_alloc | apply pw_below_drewN | apply below_drew1))) HLa.out hg1.out).mono ?_; rintro _ Wb ⟨vb, rfl, ho, hb⟩; obtain ⟨Ab, cb, eb, hcb, hCb⟩ := Kd.S_reads ho; subst eb; have HCb := Aside0.mk hCb; have HLb := Aside0.mk hcb; have n0_ := Aside0.mk (below_step (by repeat (first | exact HB.out | apply below_alloc | apply pw_below_drewN | apply below_drew1)) hb); clear HB; have HB := n0_; clear n0_; clear ho hb hCb hcb; refine ⟨_, rfl, ?_⟩) | ((with_reducible refine gate_dst (N := 13) rfl ?_); refine Kd.R_lit (Kd.int .u8) _ 5 ?hg (N := 13) ?hd (xs := ([7] : List Int)) (inner := [.int .u8 7]) (ok := fun _ => True) (okp := fun _ => True) ?hr ?hp (fun _ hk => hk) trivial (Below.refl _ _) (Nat.le_refl _) (by simp) ?_; (case hd => rfl); (case hg => rfl); (case hr => first | (go_simp; done) | (go_simp; rfl)); (case hp => exact (Reps.one (show Kd.M (Kd.int .u8) _ _ _ 7 [.int .u8 7] from rfl) (Reps.none _ _))); intro vc Wc ho hb hg_ hnew_; clear hg_ hnew_; obtain ⟨Ac, cc, ec, hcc, hCc⟩ := Kd.R_reads ho; subst ec; have HCc := Aside0.mk hCc; have HLc := Aside0.mk hcc; have n0_ := Aside0.mk (below_step (by repeat (first | exact HB.out | apply below_alloc | apply pw_below_drewN | apply below_drew1)) hb); clear HB; have HB := n0_; clear n0_; have n0_ := Aside0.mk (Kd.C_below HCb.out (below_step (by repeat (first | exact Below.refl _ _ | apply below_alloc | apply pw_below_drewN | apply below_drew1)) hb)); clear HCb; have HCb := n0_; clear n0_; clear ho hb hCc hcc) | ((with_reducible refine gate_callee (f := 25) rfl ?_); (with_reducible refine gate_dst (N := 16) rfl ?_); refine atWorldL ?_; intro W0 hW; have HC0 : Aside0 (Kd.C k38 W0 (some ⟨Wc.heap.size, 0, none⟩) [(⟨6, 0, [7]⟩ : S38)].length [⟨6, 0, [7]⟩]) := Aside0.mk (by rw [hW]; exact C38_one (x := ⟨6, 0, [7]⟩) HLc.out (Kd.C_alloc HCc.out _)); have hb : Below Wc.heap.size Wc W0 := (by rw [hW]; exact below_alloc (Below.refl _ _) _); have n0_ := Aside0.mk (below_step (by repeat (first | exact HB.out | apply below_alloc | apply pw_below_drewN | apply below_drew1)) hb); clear HB; have HB := n0_; clear n0_; have n0_ := Aside0.mk (Kd.C_below HCb.out (below_step (by repeat (first | exact Below.refl _ _ | apply below_alloc | apply pw_below_drewN | apply below_drew1)) hb)); clear HCb; have HCb := n0_; clear n0_; clear hW hb; refine goesL_ (some 16) rfl rfl Try.func25 (by kernel_rfl) rfl #[.slice (some ⟨Wc.heap.size, 0, none⟩) [(⟨6, 0, [7]⟩ : S38)].length 1] rfl (by first | rfl | go_simp) ?_; refine (token_Put.calls k _ 1 [⟨6, 0, [7]⟩] _ _ _ HC0.out (by decide) hp.out).mono ?_; rintro _ Wd ⟨vd, rfl, ho, hb⟩; obtain ⟨Ad, cd, ed, hcd, hCd⟩ := KxR_read ho; subst ed; have HCd := Aside0.mk hCd; have HLd := Aside0.mk hcd; have n0_ := Aside0.mk (below_step (by repeat (first | exact HB.out | apply below_alloc | apply pw_below_drewN | apply below_drew1)) hb); clear HB; have HB := n0_; clear n0_; have n0_ := Aside0.mk (Kd.C_below HCb.out (below_step (by repeat (first | exact Below.refl _ _ | apply below_alloc | apply pw_below_drewN | apply below_drew1)) hb)); clear HCb; have HCb := n0_; clear n0_; clear ho hb hCd hcd HC0; refine ⟨_, rfl, ?_⟩) | ((with_reducible refine gate_dst (N := 20) rfl ?_); refine Kd.R_lit (Kd.int .u8) _ 5 ?hg (N := 20) ?hd (xs := ([3, 1, 106, 0, 4] : List Int)) (inner := [.int .u8 3, .int .u8 1, .int .u8 106, .int .u8 0, .int .u8 4]) (ok := fun _ => True) (okp := fun _ => True) ?hr ?hp (fun _ hk => hk) trivial (Below.refl _ _) (Nat.le_refl _) (by simp) ?_; (case hd => rfl); (case hg => rfl); (case hr => first | (go_simp; done) | (go_simp; rfl)); (case hp => exact (Reps.one (show Kd.M (Kd.int .u8) _ _ _ 3 [.int .u8 3] from rfl) (Reps.one (show Kd.M (Kd.int .u8) _ _ _ 1 [.int .u8 1] from rfl) (Reps.one (show Kd.M (Kd.int .u8) _ _ _ 106 [.int .u8 106] from rfl) (Reps.one (show Kd.M (Kd.int .u8) _ _ _ 0 [.int .u8 0] from rfl) (Reps.one (show Kd.M (Kd.int .u8) _ _ _ 4 [.int .u8 4] from rfl) (Reps.none _ _))))))); intro ve We ho hb hg_ hnew_; clear hg_ hnew_; obtain ⟨Ae, ce, ee, hce, hCe⟩ := Kd.R_reads ho; subst ee; have HCe := Aside0.mk hCe; have HLe := Aside0.mk hce; have n0_ := Aside0.mk (below_step (by repeat (first | exact HB.out | apply below_alloc | apply pw_below_drewN | apply below_drew1)) hb); clear HB; have HB := n0_; clear n0_; have n0_ := Aside0.mk (Kd.C_below HCb.out (below_step (by repeat (first | exact Below.refl _ _ | apply below_alloc | apply pw_below_drewN | apply below_drew1)) hb)); clear HCb; have HCb := n0_; clear n0_; have n0_ := Aside0.mk (Kd.C_below HCd.out (below_step (by repeat (first | exact Below.refl _ _ | apply below_alloc | apply pw_below_drewN | apply below_drew1)) hb)); clear HCd; have HCd := n0_; clear n0_; clear ho hb hCe hce) | ((with_reducible refine gate_callee (f := 34) rfl ?_); (with_reducible refine gate_dst (N := 21) rfl ?_); refine goesL_ (some 21) rfl rfl Try.func34 (by kernel_rfl) rfl #[.slice Ae ([3, 1, 106, 0, 4] : List Int).length ce] rfl (by first | rfl | go_simp) ?_; refine (token_Get.calls k Ae ce [3, 1, 106, 0, 4] _ _ _ (Kd.C_below HCe.out (by repeat (first | exact Below.refl _ _ | apply below_alloc | apply pw_below_drewN | apply below_drew1))) HLe.out hg2.out).mono ?_; rintro _ Wf ⟨vf, rfl, ho, hb⟩; obtain ⟨Af, cf, ef, hcf, hCf⟩ := Kd.S_reads ho; subst ef; have HCf := Aside0.mk hCf; have HLf := Aside0.mk hcf; have n0_ := Aside0.mk (below_step (by repeat (first | exact HB.out | apply below_alloc | apply pw_below_drewN | apply below_drew1)) hb); clear HB; have HB := n0_; clear n0_; have n0_ := Aside0.mk (Kd.C_below HCb.out (below_step (by repeat (first | exact Below.refl _ _ | apply below_alloc | apply pw_below_drewN | apply below_drew1)) hb)); clear HCb; have HCb := n0_; clear n0_; have n0_ := Aside0.mk (Kd.C_below HCd.out (below_step (by repeat (first | exact Below.refl _ _ | apply below_alloc | apply pw_below_drewN | apply below_drew1)) hb)); clear HCd; have HCd := n0_; clear n0_; clear ho hb hCf hcf; obtain ⟨ad0, A9, c9, e0, _, hn0, _⟩ := at_T38 HCb.out 0 (by decide) (by decide); subst e0; have hn : Wf.cell? ⟨ad0.block, ad0.off + 1, none⟩ = some (.int .u8 5) := hn0; clear hn0; refine ⟨_, rfl, ?_⟩) | ((with_reducible refine gate_dst (N := 44) rfl ?_); (try (refine gate_guard (by rfl) ?_; dsimp only)); refine Kd.R_lit (Kd.int .u8) _ 5 ?hg (N := 44) ?hd (xs := ([3, 1, 106, 0, 195, 1, 7] : List Int)) (inner := [.int .u8 3, .int .u8 1, .int .u8 106, .int .u8 0, .int .u8 195, .int .u8 1, .int .u8 7]) (ok := fun _ => True) (okp := fun _ => True) ?hr ?hp (fun _ hk => hk) trivial (Below.refl _ _) (Nat.le_refl _) (by simp) ?_; (case hd => rfl); (case hg => rfl); (case hr => first | (go_simp; done) | (go_simp; rfl)); (case hp => exact (Reps.one (show Kd.M (Kd.int .u8) _ _ _ 3 [.int .u8 3] from rfl) (Reps.one (show Kd.M (Kd.int .u8) _ _ _ 1 [.int .u8 1] from rfl) (Reps.one (show Kd.M (Kd.int .u8) _ _ _ 106 [.int .u8 106] from rfl) (Reps.one (show Kd.M (Kd.int .u8) _ _ _ 0 [.int .u8 0] from rfl) (Reps.one (show Kd.M (Kd.int .u8) _ _ _ 195 [.int .u8 195] from rfl) (Reps.one (show Kd.M (Kd.int .u8) _ _ _ 1 [.int .u8 1] from rfl) (Reps.one (show Kd.M (Kd.int .u8) _ _ _ 7 [.int .u8 7] from rfl) (Reps.none _ _))))))))); intro vg Wg ho hb hg_ hnew_; clear hg_ hnew_; obtain ⟨Ag, cg, eg, hcg, hCg⟩ := Kd.R_reads ho; subst eg; have HCg := Aside0.mk hCg; have HLg := Aside0.mk hcg; have n0_ := Aside0.mk (below_step (by repeat (first | exact HB.out | apply below_alloc | apply pw_below_drewN | apply below_drew1)) hb); clear HB; have HB := n0_; clear n0_; have n0_ := Aside0.mk (Kd.C_below HCd.out (below_step (by repeat (first | exact Below.refl _ _ | apply below_alloc | apply pw_below_drewN | apply below_drew1)) hb)); clear HCd; have HCd := n0_; clear n0_; clear ho hb hCg hcg) | ((with_reducible refine gate_callee (f := 27) rfl ?_); (with_reducible refine gate_dst (N := 45) rfl ?_); (try (refine gate_guard (by rfl) ?_; dsimp only)); refine goesL_ (some 45) rfl rfl Try.func27 (by kernel_rfl) rfl #[.slice Ad ([3, 1, 106, 0, 195, 1, 7] : List Int).length cd, .slice Ag ([3, 1, 106, 0, 195, 1, 7] : List Int).length cg] rfl (by first | rfl | go_simp) ?_; refine (cardexref00_Same.calls Ad cd [3, 1, 106, 0, 195, 1, 7] Ag cg [3, 1, 106, 0, 195, 1, 7] true _ (Kd.C_below HCd.out (by repeat (first | exact Below.refl _ _ | apply below_alloc | apply pw_below_drewN | apply below_drew1))) HLd.out (Kd.C_below HCg.out (by repeat (first | exact Below.refl _ _ | apply below_alloc | apply pw_below_drewN | apply below_drew1))) HLg.out hs.out).mono ?_; rintro _ _ ⟨rfl, ⟨⟨m9, rfl⟩⟩⟩; refine ⟨_, rfl, ?_⟩))
  go_ret
  exact ⟨rfl, (by repeat (first | exact HB.out | apply below_alloc | apply pw_below_drewN | apply below_drew1))⟩
theorem lp1 : token_Get.f 30 [3, 1, 106, 0, 69, 3, 65, 0, 1] = some ([(⟨2, 5, []⟩ : S38), ⟨5, 0, [65]⟩, ⟨4, 0, []⟩], 0) := by
  have h : ((strOfNums ([3, 1, 106, 0, 69, 3, 65, 0, 1].take 4)).toList == [3, 1, 106, 0]) = true := by
    simp [strOfNums]
  unfold token_Get.f
  rw [if_neg (by decide), if_neg (by decide), if_pos h]
  exact (show rget.l0 30 [3, 1, 106, 0, 69, 3, 65, 0, 1] [] 4 = some ([(⟨2, 5, []⟩ : S38), ⟨5, 0, [65]⟩, ⟨4, 0, []⟩], 0) from by kernel_rfl)
theorem lp2 : token_Put.f 30 [⟨6, 0, [7]⟩] = some ([3, 1, 106, 0, 195, 1, 7], 0) := by kernel_rfl
theorem lp3 : token_Get.f 30 [3, 1, 106, 0, 4] = some ([], 5) := by
  have h : ((strOfNums ([3, 1, 106, 0, 4].take 4)).toList == [3, 1, 106, 0]) = true := by
    simp [strOfNums]
  unfold token_Get.f
  rw [if_neg (by decide), if_neg (by decide), if_pos h]
  exact (show rget.l0 30 [3, 1, 106, 0, 4] [] 4 = some ([], 5) from by kernel_rfl)
theorem lp4 : cardexref00_Same.f [3, 1, 106, 0, 195, 1, 7] [3, 1, 106, 0, 195, 1, 7] = some true := by kernel_rfl
def cardexlaw11_lives.f : Option Bool := some true
theorem cardexlaw11_lives.calls (r : Bool) (w : World) (h : cardexlaw11_lives.f = some r) : Calls Try.prog 32 #[] w fun e w' => e = .returned (.bool r) ∧ Below w.heap.size w w' := by
  obtain rfl := Option.some.inj h
  exact lives_calls 30 w ⟨lp1⟩ ⟨lp2⟩ ⟨lp3⟩ ⟨lp4⟩

/-! ### cardexlaw11_TokenOne: function 10 -/
def cardexlaw11_TokenOne.f (k : Nat) (l0 : List Int) : Option Bool :=
  (token_Get.f k l0).bind fun t => if t.2 = 0 then ((token_Put.f k t.1).bind fun u => if u.2 = 0 then (cardexref00_Same.f l0 u.1).bind fun s => (if s = true then some true else none) else none) else (if t.1.length = 0 then some true else none)
set_option maxHeartbeats 8000000 in
set_option maxRecDepth 100000 in
theorem cardexlaw11_TokenOne.calls (k : Nat) (A0 : Option Addr) (c0 : Nat) (l0 : List Int) (r : Bool) (w : World) (hr0 : Kd.C (Kd.int .u8) w A0 l0.length l0) (hc0 : l0.length ≤ c0) (h : cardexlaw11_TokenOne.f k l0 = some r) :
    Calls Try.prog 10 #[.slice A0 l0.length c0] w fun e w' => e = .returned (.bool r) ∧ Below w.heap.size w w' := by
  have hu38 := Try.underlying38
  have HR0 := Aside0.mk hr0
  have HC0 := Aside0.mk hc0
  clear hr0 hc0
  have HB := Aside0.mk (Below.refl w.heap.size w)
  unfold cardexlaw11_TokenOne.f at h
  obtain ⟨⟨m, e⟩, hp, h⟩ := Option.bind_eq_some_iff.1 h
  have HG := Aside0.mk hp
  clear hp
  dsimp only at h
  by_cases c1 : e = 0
  case neg =>
    rw [if_neg c1] at h
    by_cases c2 : m.length = 0
    case neg => rw [if_neg c2] at h; cases h
    rw [if_pos c2] at h
    obtain rfl := Option.some.inj h
    have c1b : (e == 0) = false := by simp [c1]
    have c1c : (e != 0) = true := by simp [c1]
    obtain rfl : m = [] := List.eq_nil_of_length_eq_zero c2
    clear c1 c2 h
    go_enter Try.func10, Try.ntmps10
    go_wp2_with (first | ((with_reducible refine gate_callee (f := 34) rfl ?_); (with_reducible refine gate_dst (N := 9) rfl ?_); (try (refine gate_guard (by rfl) ?_; dsimp only)); refine goesL_ (some 9) rfl rfl Try.func34 (by kernel_rfl) rfl #[.slice A0 l0.length c0] rfl (by first | rfl | go_simp) ?_; refine (token_Get.calls k A0 c0 l0 _ _ _ (Kd.C_below HR0.out (by repeat (first | exact Below.refl _ _ | apply below_alloc | apply pw_below_drewN | apply below_drew1))) HC0.out HG.out).mono ?_; rintro _ Wg ⟨vg, rfl, ho, hb⟩; obtain ⟨Ag, cg, eg, hcg, hCg⟩ := Kd.S_reads ho; subst eg; have HCg := Aside0.mk hCg; have HLg := Aside0.mk hcg; have n0_ := Aside0.mk (below_step (by repeat (first | exact HB.out | apply below_alloc | apply pw_below_drewN | apply below_drew1)) hb); clear HB; have HB := n0_; clear n0_; have n0_ := Aside0.mk (Kd.C_below HR0.out (below_step (by repeat (first | exact Below.refl _ _ | apply below_alloc | apply pw_below_drewN | apply below_drew1)) hb)); clear HR0; have HR0 := n0_; clear n0_; clear ho hb hCg hcg; refine ⟨_, rfl, ?_⟩) | ((with_reducible refine gate_callee (f := 32) rfl ?_); (with_reducible refine gate_dst (N := 18) rfl ?_); (try (refine gate_guard (by rfl) ?_; dsimp only)); refine goesL_ (some 18) rfl rfl Try.func32 (by kernel_rfl) rfl #[] rfl (by first | rfl | go_simp) ?_; refine (cardexlaw11_lives.calls true _ rfl).mono ?_; rintro _ WL18 ⟨rfl, hb⟩; have n0_ := Aside0.mk (below_step (by repeat (first | exact HB.out | apply below_alloc | apply pw_below_drewN | apply below_drew1)) hb); clear HB; have HB := n0_; clear n0_ hb; refine ⟨_, rfl, ?_⟩))
    go_ret
    exact ⟨rfl, (by repeat (first | exact HB.out | apply below_alloc | apply pw_below_drewN | apply below_drew1))⟩
  rw [if_pos c1] at h
  have c1b : (e == 0) = true := by simp [c1]
  have c1c : (e != 0) = false := by simp [c1]
  clear c1
  obtain ⟨⟨b, f⟩, hg, h⟩ := Option.bind_eq_some_iff.1 h
  have HP := Aside0.mk hg
  clear hg
  dsimp only at h
  by_cases c3 : f = 0
  case neg => rw [if_neg c3] at h; cases h
  rw [if_pos c3] at h
  have c3b : (f == 0) = true := by simp [c3]
  clear c3
  obtain ⟨s, hs, h⟩ := Option.bind_eq_some_iff.1 h
  rcases s with _ | _
  · cases h
  have HS := Aside0.mk hs
  clear hs
  rw [if_pos rfl] at h
  obtain rfl := Option.some.inj h
  clear h
  go_enter Try.func10, Try.ntmps10
  go_wp2_with (first | ((with_reducible refine gate_callee (f := 34) rfl ?_); (with_reducible refine gate_dst (N := 9) rfl ?_); (try (refine gate_guard (by rfl) ?_; dsimp only)); refine goesL_ (some 9) rfl rfl Try.func34 (by kernel_rfl) rfl #[.slice A0 l0.length c0] rfl (by first | rfl | go_simp) ?_; refine (token_Get.calls k A0 c0 l0 _ _ _ (Kd.C_below HR0.out (by repeat (first | exact Below.refl _ _ | apply below_alloc | apply pw_below_drewN | apply below_drew1))) HC0.out HG.out).mono ?_; rintro _ Wg ⟨vg, rfl, ho, hb⟩; obtain ⟨Ag, cg, eg, hcg, hCg⟩ := Kd.S_reads ho; subst eg; have HCg := Aside0.mk hCg; have HLg := Aside0.mk hcg; have n0_ := Aside0.mk (below_step (by repeat (first | exact HB.out | apply below_alloc | apply pw_below_drewN | apply below_drew1)) hb); clear HB; have HB := n0_; clear n0_; have n0_ := Aside0.mk (Kd.C_below HR0.out (below_step (by repeat (first | exact Below.refl _ _ | apply below_alloc | apply pw_below_drewN | apply below_drew1)) hb)); clear HR0; have HR0 := n0_; clear n0_; clear ho hb hCg hcg; refine ⟨_, rfl, ?_⟩) | ((with_reducible refine gate_callee (f := 25) rfl ?_); (with_reducible refine gate_dst (N := 22) rfl ?_); (try (refine gate_guard (by rfl) ?_; dsimp only)); refine goesL_ (some 22) rfl rfl Try.func25 (by kernel_rfl) rfl #[.slice Ag m.length cg] rfl (by first | rfl | go_simp) ?_; refine (token_Put.calls k Ag cg m _ _ _ (Kd.C_below HCg.out (by repeat (first | exact Below.refl _ _ | apply below_alloc | apply pw_below_drewN | apply below_drew1))) HLg.out HP.out).mono ?_; rintro _ Wp ⟨vp, rfl, ho, hb⟩; obtain ⟨Ap, cp, ep, hcp, hCp⟩ := KxR_read ho; subst ep; have HCp := Aside0.mk hCp; have HLp := Aside0.mk hcp; have n0_ := Aside0.mk (below_step (by repeat (first | exact HB.out | apply below_alloc | apply pw_below_drewN | apply below_drew1)) hb); clear HB; have HB := n0_; clear n0_; have n0_ := Aside0.mk (Kd.C_below HR0.out (below_step (by repeat (first | exact Below.refl _ _ | apply below_alloc | apply pw_below_drewN | apply below_drew1)) hb)); clear HR0; have HR0 := n0_; clear n0_; have n0_ := Aside0.mk (Kd.C_below HCg.out (below_step (by repeat (first | exact Below.refl _ _ | apply below_alloc | apply pw_below_drewN | apply below_drew1)) hb)); clear HCg; have HCg := n0_; clear n0_; clear ho hb hCp hcp; refine ⟨_, rfl, ?_⟩) | ((with_reducible refine gate_callee (f := 27) rfl ?_); (with_reducible refine gate_dst (N := 30) rfl ?_); (try (refine gate_guard (by rfl) ?_; dsimp only)); refine goesL_ (some 30) rfl rfl Try.func27 (by kernel_rfl) rfl #[.slice A0 l0.length c0, .slice Ap b.length cp] rfl (by first | rfl | go_simp) ?_; refine (cardexref00_Same.calls A0 c0 l0 Ap cp b true _ (Kd.C_below HR0.out (by repeat (first | exact Below.refl _ _ | apply below_alloc | apply pw_below_drewN | apply below_drew1))) HC0.out (Kd.C_below HCp.out (by repeat (first | exact Below.refl _ _ | apply below_alloc | apply pw_below_drewN | apply below_drew1))) HLp.out HS.out).mono ?_; rintro _ _ ⟨rfl, ⟨⟨m9, rfl⟩⟩⟩; refine ⟨_, rfl, ?_⟩) | ((with_reducible refine gate_callee (f := 32) rfl ?_); (with_reducible refine gate_dst (N := 33) rfl ?_); (try (refine gate_guard (by rfl) ?_; dsimp only)); refine goesL_ (some 33) rfl rfl Try.func32 (by kernel_rfl) rfl #[] rfl (by first | rfl | go_simp) ?_; refine (cardexlaw11_lives.calls true _ rfl).mono ?_; rintro _ WL33 ⟨rfl, hb⟩; have n0_ := Aside0.mk (below_step (by repeat (first | exact HB.out | apply below_alloc | apply pw_below_drewN | apply below_drew1)) hb); clear HB; have HB := n0_; clear n0_ hb; refine ⟨_, rfl, ?_⟩))
  go_ret
  exact ⟨rfl, (by repeat (first | exact HB.out | apply below_alloc | apply pw_below_drewN | apply below_drew1))⟩
def cardexlaw11_TokenOne.Pure : Prop := ∀ (l0 : List Int), l0.length ≤ maxLen → l0.length * 1 ≤ 140737488351232 → (∀ x ∈ l0, (Lit.int .u8 x).wf = true) → ∃ k, cardexlaw11_TokenOne.f k l0 = some true
theorem cardexlaw11_TokenOne.walk (P : cardexlaw11_TokenOne.Pure) (a0 : Option Addr) (len0 cap0 : Nat) (z0 : List Int) (w : World) (w0 : (a0 = none ∧ len0 = 0 ∧ cap0 = 0 ∧ z0 = []) ∨ ∃ x, a0 = some x ∧ len0 ≤ cap0 ∧ cap0 ≤ maxLen ∧ z0.length = cap0 ∧ (∀ i, i < z0.length → w.cell? (x.add i) = some (.int .u8 (z0.getD i 0))) ∧ ∀ n ∈ z0, (Lit.int .u8 n).wf = true) (y0 : len0 * 1 ≤ 140737488351232) :
    Calls Try.prog 10 #[.slice a0 len0 cap0] w fun e w' => e = .returned (.bool true) ∧ Below w.heap.size w w' := by
  obtain ⟨l0, rfl, hr0, hm0, hw0, hc0⟩ := ReadsInt.ofRowC w0
  obtain ⟨k, h⟩ := P l0 hm0 y0 hw0
  refine (cardexlaw11_TokenOne.calls k _ _ l0 true w (Kd.C_of_reads (d := (0 : Int)) (h1 := fun _ => rfl) hr0) hc0 h).mono ?_
  rintro e w' ⟨rfl, hd⟩
  exact ⟨rfl, hd⟩

end Go.Proofs.Ytjcpnfmbdbeinaa.O
