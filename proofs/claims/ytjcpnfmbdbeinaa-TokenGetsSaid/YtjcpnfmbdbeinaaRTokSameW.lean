/- The walk of the document's Same, over the same tokens twice. Conditions: both rows read those tokens. -/
import Derived.Test.YtjcpnfmbdbeinaaR0
import Derived.Test.YtjcpnfmbdbeinaaR1
import Derived.Outline
import Derived.StillTailTactics
namespace Go.Proofs.Ytjcpnfmbdbeinaa.R
open Go.RowKit Go.Proofs.YtjcpnfmbdbeinaaW.PrintWords Go.Proofs.YtjcpnfmbdbeinaaW.PrintLast Go.Proofs.YtjcpnfmbdbeinaaW.PrintMore
attribute [local go_sem] max2_int min2_int max_two min_two max_three min_three max_four min_four
set_option linter.unusedVariables false
set_option linter.unusedSimpArgs false

set_option maxHeartbeats 8000000 in
set_option maxRecDepth 100000 in
theorem Same_self (A0 : Option Addr) (c0 : Nat) (A1 : Option Addr) (c1 : Nat) (l : List S38) (w : World) (hr0 : Kd.C k38 w A0 l.length l) (hc0 : l.length ≤ c0) (hr1 : Kd.C k38 w A1 l.length l) (hc1 : l.length ≤ c1) (hl : l.length ≤ 4611686018427387904) :
    Calls Try.prog 31 #[.slice A0 l.length c0, .slice A1 l.length c1] w fun e w' => e = .returned (.bool true) ∧ Below w.heap.size w w' := by
  have hu38 := Try.underlying38
  have HR0 := Aside0.mk hr0
  have HR1 := Aside0.mk hr1
  have HL := Aside0.mk hl
  have HB := Aside0.mk (Below.refl w.heap.size w)
  clear hr0 hr1 hc0 hc1 hl
  go_enter Try.func31, Try.ntmps31
  go_wp2
  go_loopg [5] l.length (fun kq v5 w' => ∃ i : Nat, v5 = .int .i64 (i : Int) ∧ Aside0 (kq + i = l.length) ∧ Aside0 (Below w.heap.size w w'))
  case atStart => exact ⟨0, rfl, ⟨by omega⟩, HB⟩
  case round =>
    clear HB
    obtain ⟨i, rfl, HK, HB⟩ := hrel
    by_cases ci : i < l.length
    · have d0 : decide ((i : Int) < (l.length : Int)) = true := decide_eq_true (by omega)
      have d1 : (i : Int) < (l.length : Int) := by omega
      have d2 : (0 : Int) ≤ (i : Int) := by omega
      have hw : IntKind.i64.wrap ((i : Int) + 1) = (i : Int) + 1 := by have := HL.out; rw [IntKind.wrap_i64]; omega
      obtain ⟨ad, A2, c2, rfl, hx0, hx1, hx2, hl2, hi2⟩ := at_T38 (Kd.C_below HR0.out HB.out) (i : Int) d2 d1
      obtain ⟨ad', A3, c3, rfl, hy0, hy1, hy2, hl3, hi3⟩ := at_T38 (Kd.C_below HR1.out HB.out) (i : Int) d2 d1
      have hq0 : ∀ x : Int, (x != x) = false := fun x => by simp
      generalize rd_T38 l (i : Int) = t at hx0 hx1 hx2 hl2 hi2 hy0 hy1 hy2 hl3 hi3
      rw [Int.toNat_natCast] at hx0 hx1 hx2 hy0 hy1 hy2
      have hcall : ∀ nq, Calls Try.prog 27 #[.slice A2 t.f2.length c2, .slice A3 t.f2.length c3] (wr.drewN nq) fun e w'' => e = .returned (.bool true) ∧ ∃ m, w'' = wr.drewN m := fun nq =>
        Calls.quiet_of ((cardexref00_Same.calls A2 c2 t.f2 A3 c3 t.f2 true _ (Kd.C_below hi2 (pw_below_drewN (Below.refl _ _) nq)) hl2 (Kd.C_below hi3 (pw_below_drewN (Below.refl _ _) nq)) hl3 (by rw [cardexref00_Same.f]; simp)).mono fun e w'' h2 => ⟨h2.1, h2.2.out⟩)
      have HCALL := Aside0.mk hcall
      clear hcall hl2 hi2 hl3 hi3
      go_wp2
      go_quiet ((go_at_call 27; exact HCALL.out _))
      go_wp2
      go_roundg (l.length - (i + 1))
      case measure => have := HK.out; omega
      case rel => exact ⟨i + 1, by simp, ⟨by omega⟩, ⟨pw_below_drewN HB.out _⟩⟩
    · have d0 : decide ((i : Int) < (l.length : Int)) = false := decide_eq_false (by omega)
      have d1 : ¬ ((i : Int) < (l.length : Int)) := by omega
      go_wp2
      go_ret
      exact ⟨rfl, HB.out⟩
end Go.Proofs.Ytjcpnfmbdbeinaa.R
