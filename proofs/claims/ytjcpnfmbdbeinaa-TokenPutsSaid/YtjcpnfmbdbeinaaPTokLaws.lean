/- The plain laws TokenBack and TokenCut. Conditions: bytes are bytes, lengths are what a machine reaches. -/
import Derived.Test.YtjcpnfmbdbeinaaPTokBack
import Derived.Test.YtjcpnfmbdbeinaaPTokArg
namespace Go.Proofs.Ytjcpnfmbdbeinaa.PPlain
open Go.RowKit Go.Proofs.Ytjcpnfmbdbeinaa.P Go.Proofs.YtjcpnfmbdbeinaaW.PrintWords Go.Proofs.YtjcpnfmbdbeinaaW.PrintLast
set_option linter.unusedVariables false
set_option linter.unusedSimpArgs false

theorem byt_wf {l : List Int} (h : ∀ x ∈ l, (Lit.int .u8 x).wf = true) : Byt l := fun x hx => by
  have := h x hx
  have h1 : IntKind.u8.min = 0 := by decide
  have h2 : IntKind.u8.max = 255 := by decide
  simp [Lit.wf] at this
  exact ⟨by omega, by omega⟩
theorem wf_byte {x : Int} (h : (Lit.int .u8 x).wf = true) : 0 ≤ x ∧ x < 256 := byt_wf (l := [x]) (fun y hy => by rw [List.mem_singleton.1 hy]; exact h) x (List.mem_singleton_self x)
theorem good_of {l0 : List S38} (h : ∀ t ∈ l0, PArg.Wf t) : ∀ i, i < l0.length → Good (l0.getD i z38) := fun i hi => by
  have hm : l0.getD i z38 ∈ l0 := by
    rw [List.getD_eq_getElem?_getD, List.getElem?_eq_getElem hi]
    exact List.getElem_mem hi
  obtain ⟨_, h1, h2, h3⟩ := h _ hm
  exact ⟨wf_byte h1, byt_wf h3, by omega⟩
theorem byteSame (l : List Int) : cardexref00_Same.f l l = some true := by
  rw [cardexref00_Same.f]
  simp
theorem same_l0 (l : List S38) (hl : l.length ≤ 4611686018427387904) : ∀ (d i : Nat), i + d = l.length → Ev (fun k => cardexref11_Same.l0 k l l i) true := by
  intro d
  induction d with
  | zero =>
    intro i hi
    refine Ev.step (fun k => ?_) (Ev.now _)
    rw [cardexref11_Same.l0, if_neg (by omega)]
  | succ d ih =>
    intro i hi
    refine Ev.step (g := fun k => cardexref11_Same.l0 k l l i) (f := fun k => cardexref11_Same.l0 k l l ((i + 1 : Nat) : Int)) (fun k => ?_) (ih (i + 1) (by omega))
    rw [cardexref11_Same.l0, if_pos (by omega), if_pos (by omega), if_pos (by omega), if_pos rfl, if_pos rfl, byteSame, Option.bind_some, if_pos rfl, w64 (n := (i : Int) + 1) (by omega) (by omega)]
    rfl
theorem same_self (l : List S38) (hl : l.length ≤ 4611686018427387904) : Ev (fun k => cardexref11_Same.f k l l) true := by
  refine Ev.congr (fun k => ?_) (same_l0 l hl l.length 0 (by omega))
  rw [cardexref11_Same.f, if_pos rfl]
  rfl
end Go.Proofs.Ytjcpnfmbdbeinaa.PPlain
