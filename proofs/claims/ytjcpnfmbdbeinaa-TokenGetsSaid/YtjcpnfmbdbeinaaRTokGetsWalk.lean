/- The walk of TokenGets. Conditions: those that the theorem names. -/
import Derived.Test.YtjcpnfmbdbeinaaRTokGetT
namespace Go.Proofs.Ytjcpnfmbdbeinaa.R
open Go.RowKit Go.Proofs.YtjcpnfmbdbeinaaW.PrintWords Go.Proofs.YtjcpnfmbdbeinaaW.PrintLast Go.Proofs.YtjcpnfmbdbeinaaW.PrintMore
attribute [local go_sem] max2_int min2_int max_two min_two max_three min_three max_four min_four
set_option linter.unusedVariables false
set_option linter.unusedSimpArgs false

theorem WdB.of_block {w w1 : World} {g : Nat} {l : List Int} (h : WdB w g l) (hb : w1.heap[g]? = w.heap[g]?) : WdB w1 g l := hb.trans h
theorem below_more2 {w W W' : World} {B : Nat} (h : Below w.heap.size w W) (hs : w.heap.size ≤ B) (k : Below B W W') : Below w.heap.size w W' :=
  ⟨k.os.trans h.os, k.tape.trans h.tape, k.output.trans h.output, Nat.le_trans h.size k.size, fun i hi => (k.block i (Nat.lt_of_lt_of_le hi hs)).trans (h.block i hi)⟩
theorem below_trans {w W W' : World} {B : Nat} (h : Below B w W) (k : Below B W W') : Below B w W' :=
  ⟨k.os.trans h.os, k.tape.trans h.tape, k.output.trans h.output, Nat.le_trans h.size k.size, fun i hi => (k.block i hi).trans (h.block i hi)⟩
theorem Wide_calls2 (A : Option Addr) (c : Nat) (l : List Int) (w : World) (hr : Kd.C (Kd.int .u8) w A l.length l) (hc : l.length ≤ c) (hl : l.length ≤ 140737488355328) :
    Calls Try.prog 33 #[.slice A l.length c] w fun e w' => ∃ g, e = .returned (.slice (some ⟨g, 0, none⟩) l.length (l.length + 3)) ∧ w.heap.size ≤ g ∧ g < w'.heap.size ∧ WdB w' g (l ++ [7, 7, 7]) ∧ Below w.heap.size w w' :=
  (Wide_calls A c l w hr hc hl).mono fun e w' ⟨h1, h2, h3⟩ => ⟨_, h1, Nat.le_refl _, blk_lt h2, h2, h3⟩
/-- A row that Spoil may turn. -/
def Spl (w : World) (base : Nat) (v : Value) : Prop := v = .slice none 0 0 ∨ ∃ g n c, v = .slice (some ⟨g, 0, none⟩) n c ∧ base ≤ g ∧ c ≤ 9223372036854775807 ∧ SpB w g c
theorem Spl.of_RT {w : World} {base : Nat} {ok : Nat → Prop} {v : Value} {xs : List Int} (h : RT w base ok v xs) : Spl w base v := by
  obtain ⟨⟨_, inner, hown, _⟩, hty⟩ := h
  have hown' : w.ownsRow base 5 1 v xs.length inner := hown
  rcases hown'.2 with ⟨rfl, _⟩ | ⟨g, cap, cur, rfl, hg, hgg, hnc, hcm, hcs, _⟩
  · exact .inl rfl
  · exact .inr ⟨g, _, cap, rfl, hg, by simp only [maxLen] at hcm; omega, cur, (0, 0), hgg, by omega, hty g cur 5 (0, 0) (by simp [Value.ownBlock]) hgg, .inl rfl⟩
theorem SpB.keep {w w' : World} {g g' c c' : Nat} (h : SpB w g c) (hk : KeepBut w w' g' none) (h0 : SpB w g' c') (h' : SpB w' g' c') : SpB w' g c := by
  by_cases e : g = g'
  · subst e
    obtain ⟨cs, fz, h1, h2, _⟩ := h
    obtain ⟨cs', fz', k1, k2, _⟩ := h0
    rw [h1] at k1
    simp only [Option.some.injEq, Obj.cells.injEq] at k1
    have : c = c' := by rw [← h2, ← k2, k1.1]
    rw [this]
    exact h'
  · obtain ⟨cs, fz, h1, h2, h3⟩ := h
    exact ⟨cs, fz, (hk.2 g (blk_lt h1) e (by simp)).trans h1, h2, h3⟩
/-- The tokens' data, all of them rows that Spoil may turn. -/
def Sps (w : World) (base : Nat) (A : Option Addr) (n : Nat) : Prop := ∀ i, i < n → ∃ ad v, A = some ad ∧ w.cell? ⟨(ad.add (i * 3)).block, (ad.add (i * 3)).off + 2, none⟩ = some v ∧ Spl w base v
theorem Sps.of_S {w : World} {base : Nat} {ok : Nat → Prop} {A : Option Addr} {n c : Nat} {xs : List S38} (h : Kd.S k38T 38 w base ok (.slice A n c) xs) : Sps w base A n := by
  intro i hi
  obtain ⟨hn, _⟩ := Kd.S_reads' h
  have hf := Kd.S_form h (by omega)
  obtain ⟨g, cap, hv, _⟩ := hf
  simp only [Value.slice.injEq] at hv
  obtain ⟨rfl, _, rfl⟩ := hv
  obtain ⟨cs, _, hM, hc⟩ := Kd.S_get h z38 (i : Int) (by omega) (by omega)
  obtain ⟨v2, rfl, hrt⟩ := k38T_openM hM
  refine ⟨_, v2, rfl, ?_, Spl.of_RT hrt⟩
  have := hc 2 v2 rfl
  rw [Int.toNat_natCast] at this
  exact (add_field (⟨g, 0, none⟩ : Addr) (i * 3) 2 (by omega)) ▸ this
theorem Sps.keep {w w' : World} {base g cap n : Nat} {A : Option Addr} (h : Sps w base A n) (hk : KeepBut w w' g none) (h0 : SpB w g cap) (h1 : SpB w' g cap) : Sps w' base A n := by
  intro i hi
  obtain ⟨ad, v, hA, hc, hs⟩ := h i hi
  have hs' : Spl w' base v := by
    rcases hs with h | ⟨gv, n, c, h2, h3, h4, h5⟩
    · exact .inl h
    · exact .inr ⟨gv, n, c, h2, h3, h4, h5.keep hk h0 h1⟩
  refine ⟨ad, v, hA, ?_, hs'⟩
  have hne : (ad.add (i * 3)).block ≠ g := by
    intro e
    obtain ⟨cs, fz, k1, _, k3, _⟩ := h0
    rw [← e] at k1
    have hc2 := (cell_of_row w _ ((ad.add (i * 3)).off + 2) cs 5 fz k1).symm.trans hc
    have hmem := List.mem_of_getElem? (Array.getElem?_toList.trans hc2)
    obtain ⟨m, hm⟩ := k3 v hmem
    rcases hs with rfl | ⟨gv, n, c, rfl, _⟩ <;> cases hm
  have hlt : (ad.add (i * 3)).block < w.heap.size := by
    unfold World.cell? at hc
    by_cases hb : (ad.add (i * 3)).block < w.heap.size
    · exact hb
    · rw [Array.getElem?_eq_none (by simpa using hb)] at hc
      simp at hc
  have := hk.2 _ hlt hne (by simp)
  unfold World.cell? at hc ⊢
  rw [this]
  exact hc
theorem Sps.heap {w w' : World} {base n : Nat} {A : Option Addr} (h : Sps w base A n) (he : w'.heap = w.heap) : Sps w' base A n := by
  unfold Sps Spl SpB World.cell? at h ⊢
  rw [he]
  exact h
theorem Sps.below {w w' : World} {base n : Nat} {A : Option Addr} (h : Sps w base A n) (hb : Below w.heap.size w w') : Sps w' base A n := by
  intro i hi
  obtain ⟨ad, v, hA, hc, hs⟩ := h i hi
  refine ⟨ad, v, hA, ?_, ?_⟩
  · have hlt : (ad.add (i * 3)).block < w.heap.size := by
      unfold World.cell? at hc
      by_cases hb : (ad.add (i * 3)).block < w.heap.size
      · exact hb
      · rw [Array.getElem?_eq_none (by simpa using hb)] at hc
        simp at hc
    have := hb.block _ hlt
    unfold World.cell? at hc ⊢
    rw [this]
    exact hc
  · rcases hs with h | ⟨gv, n, c, h2, h3, h4, cs, fz, h5, h6⟩
    · exact .inl h
    · exact .inr ⟨gv, n, c, h2, h3, h4, cs, fz, (hb.block _ (blk_lt h5)).trans h5, h6⟩
/-- Spoil of one token's data: the others' stay such rows. -/
theorem Spoil_one {w : World} {base n : Nat} {A : Option Addr} {v : Value} (hs : Sps w base A n) (h : Spl w base v) (hb : base ≤ w.heap.size) (by_ : Int) :
    Calls Try.prog 28 #[v, .int .u8 by_] w fun e w' => e = .returned (.tuple #[]) ∧ Below base w w' ∧ Sps w' base A n := by
  rcases h with rfl | ⟨g, m, c, rfl, h3, h4, h5⟩
  · exact (Spoil_nil base by_ w).mono fun e w' ⟨h1, h2, h6⟩ => ⟨h1, h2, hs.heap h6⟩
  · exact (Spoil_calls g c m base by_ w h5 h4 h3 hb).mono fun e w' ⟨h1, h2, h6, h7⟩ => ⟨h1, h2, hs.keep h6 h5 h7⟩
set_option maxHeartbeats 8000000 in
set_option maxRecDepth 100000 in
theorem TokenGets_calls (k : Nat) (A : Option Addr) (c : Nat) (b : List Int) (r : List S38) (e : Int) (w : World) (hr : Kd.C (Kd.int .u8) w A b.length b) (hc : b.length ≤ c) (hl : b.length ≤ 140737488355328) (hrl : r.length ≤ 16384)
    (HG1 : Aside0 (token_Get.f k b = some (r, e))) (HG2 : Aside0 (cardexref11_Get.f k b = some (r, e))) (HSB : Aside0 (cardexref00_Same.f b b = some true)) :
    Calls Try.prog 8 #[.slice A b.length c] w fun e w' => e = .returned (.bool true) ∧ Below w.heap.size w w' := by
  have hu38 := Try.underlying38
  have HB := Aside0.mk (Below.refl w.heap.size w)
  have HR0 := Aside0.mk hr
  have HC := Aside0.mk hc
  have HLN := Aside0.mk hl
  have HRL := Aside0.mk hrl
  clear hr hc hl hrl
  go_enter Try.func8, Try.ntmps8
  go_wp2_with (first | ((with_reducible refine gate_callee (f := 33) rfl ?_); (with_reducible refine gate_dst (N := 10) rfl ?_); (try (refine gate_guard (by rfl) ?_; dsimp only)); refine goesL_ (some 10) rfl rfl Try.func33 (by kernel_rfl) rfl #[.slice A b.length c] rfl (by first | rfl | go_simp) ?_; refine (Wide_calls2 A c b _ (Kd.C_below HR0.out (by repeat (first | (with_reducible first | exact HB.out | apply below_alloc | apply pw_below_drewN | apply below_drew1) | exact HB.out))) HC.out HLN.out).mono ?_; rintro _ w1 ⟨gw, rfl, hg1, hg2, hW, hb⟩; have n_ := Aside0.mk (below_step (by repeat (first | (with_reducible first | exact HB.out | apply below_alloc | apply pw_below_drewN | apply below_drew1) | exact HB.out)) hb); clear HB; have HB := n_; clear n_; have BW := Aside0.mk (Below.refl w1.heap.size w1); have HW1 := Aside0.mk hW; have HG := Aside0.mk hg2; have HS1 := Aside0.mk (show w.heap.size ≤ w1.heap.size from HB.out.size); clear hW hb hg1 hg2; refine ⟨_, rfl, ?_⟩) | ((with_reducible refine gate_callee (f := 34) rfl ?_); (with_reducible refine gate_dst (N := 13) rfl ?_); (try (refine gate_guard (by rfl) ?_; dsimp only)); refine goesL_ (some 13) rfl rfl Try.func34 (by kernel_rfl) rfl #[.slice (some ⟨gw, 0, none⟩) b.length (b.length + 3)] rfl (by first | rfl | go_simp) ?_; refine (token_GetT k (some ⟨gw, 0, none⟩) (b.length + 3) b r e _ (Kd.C_below (HW1.out.reads (n := b.length) (l := b) (by simp) (by simp) (by have := HLN.out; omega)) (by repeat (first | (with_reducible first | exact BW.out | apply below_alloc | apply pw_below_drewN | apply below_drew1) | exact BW.out))) (by omega) HG1.out).mono ?_; rintro _ w2 ⟨v1, rfl, ho, hb⟩; have hle : w1.heap.size ≤ _ := below_size (by repeat (first | (with_reducible first | exact BW.out | apply below_alloc | apply pw_below_drewN | apply below_drew1) | exact BW.out)); have n_ := Aside0.mk (below_step (by repeat (first | (with_reducible first | exact HB.out | apply below_alloc | apply pw_below_drewN | apply below_drew1) | exact HB.out)) hb); clear HB; have HB := n_; clear n_; have n_ := Aside0.mk (below_step (by repeat (first | (with_reducible first | exact BW.out | apply below_alloc | apply pw_below_drewN | apply below_drew1) | exact BW.out)) hb); clear BW; have BW := n_; clear n_; have HO := Aside0.mk (Kd.S_lower ho hle); clear ho hb hle; obtain ⟨A1, c1, e1, hc1, hC1⟩ := Kd.S_reads HO.out; subst e1; have HC1 := Aside0.mk hc1; have HR1 := Aside0.mk (k38T_C hC1); have BX := Aside0.mk (Below.refl w2.heap.size w2); clear hc1 hC1; refine ⟨_, rfl, ?_⟩) | ((with_reducible refine gate_callee (f := 35) rfl ?_); (with_reducible refine gate_dst (N := 18) rfl ?_); (try (refine gate_guard (by rfl) ?_; dsimp only)); refine goesL_ (some 18) rfl rfl Try.func35 (by kernel_rfl) rfl #[.slice A b.length c] rfl (by first | rfl | go_simp) ?_; refine (cardexref11_Get.calls k A c b r e _ (Kd.C_below HR0.out (by repeat (first | (with_reducible first | exact HB.out | apply below_alloc | apply pw_below_drewN | apply below_drew1) | exact HB.out))) HC.out HG2.out).mono ?_; rintro _ w3 ⟨v2, rfl, ho, hb⟩; have n_ := Aside0.mk (below_step (by repeat (first | (with_reducible first | exact HB.out | apply below_alloc | apply pw_below_drewN | apply below_drew1) | exact HB.out)) hb); clear HB; have HB := n_; clear n_; have n_ := Aside0.mk (below_step (by repeat (first | (with_reducible first | exact BW.out | apply below_alloc | apply pw_below_drewN | apply below_drew1) | exact BW.out)) hb); clear BW; have BW := n_; clear n_; have n_ := Aside0.mk (below_step (by repeat (first | (with_reducible first | exact BX.out | apply below_alloc | apply pw_below_drewN | apply below_drew1) | exact BX.out)) hb); clear BX; have BX := n_; clear n_; obtain ⟨A2, c2, e2, hc2, hC2⟩ := Kd.S_reads ho; subst e2; have HC2 := Aside0.mk hc2; have HR2 := Aside0.mk hC2; have BY := Aside0.mk (Below.refl w3.heap.size w3); clear ho hb hc2 hC2; refine ⟨_, rfl, ?_⟩) | ((with_reducible refine gate_callee (f := 31) rfl ?_); (with_reducible refine gate_dst (N := 23) rfl ?_); (try (refine gate_guard (by rfl) ?_; dsimp only)); refine goesL_ (some 23) rfl rfl Try.func31 (by kernel_rfl) rfl #[.slice A1 r.length c1, .slice A2 r.length c2] rfl (by first | rfl | go_simp) ?_; refine (Same_self A1 c1 A2 c2 r _ (Kd.C_below HR1.out (by repeat (first | (with_reducible first | exact BX.out | apply below_alloc | apply pw_below_drewN | apply below_drew1) | exact BX.out))) HC1.out (Kd.C_below HR2.out (by repeat (first | (with_reducible first | exact BY.out | apply below_alloc | apply pw_below_drewN | apply below_drew1) | exact BY.out))) HC2.out (by have := HRL.out; omega)).mono ?_; rintro _ w4 ⟨rfl, hd⟩; have hb := hd; have n_ := Aside0.mk (below_step (by repeat (first | (with_reducible first | exact HB.out | apply below_alloc | apply pw_below_drewN | apply below_drew1) | exact HB.out)) hb); clear HB; have HB := n_; clear n_; have n_ := Aside0.mk (below_step (by repeat (first | (with_reducible first | exact BW.out | apply below_alloc | apply pw_below_drewN | apply below_drew1) | exact BW.out)) hb); clear BW; have BW := n_; clear n_; have n_ := Aside0.mk (below_step (by repeat (first | (with_reducible first | exact BX.out | apply below_alloc | apply pw_below_drewN | apply below_drew1) | exact BX.out)) hb); clear BX; have BX := n_; clear n_; have n_ := Aside0.mk (below_step (by repeat (first | (with_reducible first | exact BY.out | apply below_alloc | apply pw_below_drewN | apply below_drew1) | exact BY.out)) hb); clear BY; have BY := n_; clear n_; clear hb hd; refine ⟨_, rfl, ?_⟩))
  have HSP := Aside0.mk ((Sps.of_S HO.out).below BX.out)
  have HLE := Aside0.mk (show w1.heap.size ≤ w1.heap.size from Nat.le_refl _)
  clear HO HR1 HR2 BX BY HG1 HG2 HC1 HC2
  go_loopg [8] r.length (fun kq v8 w' => ∃ i : Nat, v8 = .int .i64 (i : Int) ∧ Aside0 (kq + i = r.length) ∧ Aside0 (Below w.heap.size w w') ∧ Aside0 (Below w1.heap.size w1 w') ∧ Aside0 (Sps w' w1.heap.size A1 r.length))
  case atStart => exact ⟨0, rfl, ⟨by omega⟩, HB, BW, HSP⟩
  case round =>
    clear HB BW HSP
    obtain ⟨i, rfl, HK, HB, BW, HSP⟩ := hrel
    by_cases ci : i < r.length
    · have d0 : decide ((i : Int) < (r.length : Int)) = true := decide_eq_true (by omega)
      have d1 : (i : Int) < (r.length : Int) := by omega
      have d2 : (0 : Int) ≤ (i : Int) := by omega
      have hw : IntKind.i64.wrap ((i : Int) + 1) = (i : Int) + 1 := by have := HRL.out; rw [IntKind.wrap_i64]; omega
      obtain ⟨ad, vi, rfl, hx, hspl⟩ := HSP.out i ci
      have HSL := Aside0.mk hspl
      clear hspl
      go_wp2_with (((with_reducible refine gate_callee (f := 28) rfl ?_); (with_reducible refine gate_dst (N := 41) rfl ?_); (try (refine gate_guard (by rfl) ?_; dsimp only)); refine goesL_ (some 41) rfl rfl Try.func28 (by kernel_rfl) rfl #[vi, .int .u8 1] rfl (by first | rfl | go_simp) ?_; refine (Spoil_one HSP.out HSL.out (below_size (by repeat (first | (with_reducible first | exact BW.out | apply below_alloc | apply pw_below_drewN | apply below_drew1) | exact BW.out))) 1).mono ?_; rintro _ w5 ⟨rfl, hb, hsp⟩; have n_ := Aside0.mk (below_more2 (by repeat (first | (with_reducible first | exact HB.out | apply below_alloc | apply pw_below_drewN | apply below_drew1) | exact HB.out)) HS1.out hb); have m_ := Aside0.mk (below_trans (by repeat (first | (with_reducible first | exact BW.out | apply below_alloc | apply pw_below_drewN | apply below_drew1) | exact BW.out)) hb); clear HB BW HSP; have HB := n_; have BW := m_; have HSP := Aside0.mk hsp; clear n_ m_ hb hsp HSL hx; refine ⟨_, rfl, ?_⟩))
      go_roundg (r.length - (i + 1))
      case measure => have := HK.out; omega
      case rel => exact ⟨i + 1, by simp, ⟨by omega⟩, HB, BW, HSP⟩
    · have d0 : decide ((i : Int) < (r.length : Int)) = false := decide_eq_false (by omega)
      have d1 : ¬ ((i : Int) < (r.length : Int)) := by omega
      go_wp2_with (first | ((with_reducible refine gate_callee (f := 36) rfl ?_); (with_reducible refine gate_dst (N := 44) rfl ?_); (try (refine gate_guard (by rfl) ?_; dsimp only)); refine goesL_ (some 44) rfl rfl Try.func36 (by kernel_rfl) rfl #[.slice (some ⟨gw, 0, none⟩) b.length (b.length + 3), .slice A b.length c] rfl (by first | rfl | go_simp) ?_; refine (Left_calls gw A c b _ (Kd.C_below HR0.out (by repeat (first | (with_reducible first | exact HB.out | apply below_alloc | apply pw_below_drewN | apply below_drew1) | exact HB.out))) HC.out HLN.out (HW1.out.of_block (Below.block (by repeat (first | (with_reducible first | exact BW.out | apply below_alloc | apply pw_below_drewN | apply below_drew1) | exact BW.out)) gw HG.out)) HSB.out).mono ?_; rintro _ w6 ⟨rfl, hb⟩; have n_ := Aside0.mk (below_step (by repeat (first | (with_reducible first | exact HB.out | apply below_alloc | apply pw_below_drewN | apply below_drew1) | exact HB.out)) hb); clear HB; have HB := n_; clear n_; clear hb; refine ⟨_, rfl, ?_⟩) | ((with_reducible refine gate_callee (f := 32) rfl ?_); (with_reducible refine gate_dst (N := 46) rfl ?_); (try (refine gate_guard (by rfl) ?_; dsimp only)); refine goesL_ (some 46) rfl rfl Try.func32 (by kernel_rfl) rfl #[] rfl (by first | rfl | go_simp) ?_; refine (cardexlaw11_lives.calls true _ rfl).mono ?_; rintro _ w7 ⟨rfl, hb⟩; have n_ := Aside0.mk (below_step (by repeat (first | (with_reducible first | exact HB.out | apply below_alloc | apply pw_below_drewN | apply below_drew1) | exact HB.out)) hb); clear HB; have HB := n_; clear n_; clear hb; refine ⟨_, rfl, ?_⟩))
      go_ret
      exact ⟨rfl, (by repeat (first | (with_reducible first | exact HB.out | apply below_alloc | apply pw_below_drewN | apply below_drew1) | exact HB.out))⟩
end Go.Proofs.Ytjcpnfmbdbeinaa.R
