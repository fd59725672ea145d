/- The plain laws TokenBack and TokenCut. Conditions: bytes are bytes, lengths are what a machine reaches. -/
import Derived.Test.YtjcpnfmbdbeinaaOTokBack
import Derived.Test.YtjcpnfmbdbeinaaOTokArg
namespace Go.Proofs.Ytjcpnfmbdbeinaa.OPlain
open Go.RowKit Go.Proofs.Ytjcpnfmbdbeinaa.O Go.Proofs.YtjcpnfmbdbeinaaW.PrintWords Go.Proofs.YtjcpnfmbdbeinaaW.PrintLast
set_option linter.unusedVariables false
set_option linter.unusedSimpArgs false

theorem byt_wf {l : List Int} (h : ∀ x ∈ l, (Lit.int .u8 x).wf = true) : Byt l := fun x hx => by
  have := h x hx
  have h1 : IntKind.u8.min = 0 := by decide
  have h2 : IntKind.u8.max = 255 := by decide
  simp [Lit.wf] at this
  exact ⟨by omega, by omega⟩
theorem wf_byte {x : Int} (h : (Lit.int .u8 x).wf = true) : 0 ≤ x ∧ x < 256 := byt_wf (l := [x]) (fun y hy => by rw [List.mem_singleton.1 hy]; exact h) x (List.mem_singleton_self x)
theorem good_of {l0 : List S38} (h : ∀ t ∈ l0, OArg.Wf t) : ∀ i, i < l0.length → Good (l0.getD i z38) := fun i hi => by
  have hm : l0.getD i z38 ∈ l0 := by
    rw [List.getD_eq_getElem?_getD, List.getElem?_eq_getElem hi]
    exact List.getElem_mem hi
  obtain ⟨_, h1, h2, h3⟩ := h _ hm
  exact ⟨wf_byte h1, byt_wf h3, by omega⟩
theorem byteSame (l : List Int) : cardexref00_Same.f l l = some true := by
  rw [cardexref00_Same.f]
  simp
theorem same_l0 (l : List S38) (hl : l.length ≤ 4611686018427387904) : ∀ (d i : Nat), i + d = l.length → Ev (fun k => cardexref11_Same.l0 k l l i) true := by
  intro d
  induction d with
  | zero =>
    intro i hi
    refine Ev.step (fun k => ?_) (Ev.now _)
    rw [cardexref11_Same.l0, if_neg (by omega)]
  | succ d ih =>
    intro i hi
    refine Ev.step (g := fun k => cardexref11_Same.l0 k l l i) (f := fun k => cardexref11_Same.l0 k l l ((i + 1 : Nat) : Int)) (fun k => ?_) (ih (i + 1) (by omega))
    rw [cardexref11_Same.l0, if_pos (by omega), if_pos (by omega), if_pos (by omega), if_pos rfl, if_pos rfl, byteSame, Option.bind_some, if_pos rfl, w64 (n := (i : Int) + 1) (by omega) (by omega)]
    rfl
theorem same_self (l : List S38) (hl : l.length ≤ 4611686018427387904) : Ev (fun k => cardexref11_Same.f k l l) true := by
  refine Ev.congr (fun k => ?_) (same_l0 l hl l.length 0 (by omega))
  rw [cardexref11_Same.f, if_pos rfl]
  rfl
theorem TokenBack (l0 : List S38) (hl : l0.length ≤ 140737488351232) (hw : ∀ t ∈ l0, OArg.Wf t) : ∃ k, cardexlaw11_TokenBack.f k l0 = some true := by
  obtain ⟨r, e, hev, hc⟩ := put_of l0 (by omega) (good_of hw)
  refine Ev.rounds (g := fun k => cardexlaw11_TokenBack.f k l0) ?_
  unfold cardexlaw11_TokenBack.f
  refine Ev.bind hev ?_
  rcases hc with ⟨rfl, l, rfl, hlen, ht⟩ | ⟨he, _, rfl, _⟩ | ⟨he, _, rfl, _⟩
  · refine Ev.congr (fun k => if_pos rfl) (Ev.bind (get_toks ht (by simp at hlen; omega)) (Ev.congr (fun k => if_pos rfl) (Ev.bind (same_self l0 (by omega)) (Ev.congr (fun k => ?_) (Ev.now true)))))
    rw [if_pos rfl, if_pos hlen]
  · exact Ev.congr (fun k => by rw [if_neg he]; rfl) (Ev.now true)
  · exact Ev.congr (fun k => by rw [if_neg he]; rfl) (Ev.now true)
theorem TokenCut (l0 : List S38) (a1 : Int) (hl : l0.length ≤ 140737488351232) (hw : ∀ t ∈ l0, OArg.Wf t) (h1 : (Lit.int .i64 a1).wf = true) : ∃ k, cardexlaw11_TokenCut.f k l0 a1 = some true := by
  obtain ⟨r, e, hev, hc⟩ := put_of l0 (by omega) (good_of hw)
  refine Ev.rounds (g := fun k => cardexlaw11_TokenCut.f k l0 a1) ?_
  unfold cardexlaw11_TokenCut.f
  refine Ev.bind hev ?_
  rcases hc with ⟨rfl, l, rfl, hlen, ht⟩ | ⟨he, _, rfl, _⟩ | ⟨he, _, rfl, _⟩
  · refine Ev.congr (fun k => if_pos rfl) ?_
    by_cases c1 : 0 ≤ a1
    case neg => exact Ev.congr (fun k => if_neg c1) (Ev.now true)
    refine Ev.congr (fun k => if_pos c1) ?_
    by_cases c2 : a1 < ((([3, 1, 106, 0] ++ l : List Int).length : Nat) : Int)
    case neg => exact Ev.congr (fun k => if_neg c2) (Ev.now true)
    refine Ev.congr (fun k => if_pos c2) ?_
    have hlen' : 4 + l.length ≤ 16384 := by simp at hlen; omega
    rcases get_cut ht hlen' a1.toNat (by simp at c2; omega) with ⟨h4, j, hj, hg⟩ | hg
    · refine Ev.bind hg (Ev.congr (fun k => if_pos rfl) (Ev.congr (fun k => if_pos (by omega)) (Ev.congr (fun k => if_pos (by simp; omega)) ?_)))
      have e1 : l0.take (l0.take j).length = l0.take j := by
        rw [List.length_take, Nat.min_eq_left (by omega)]
      have hs := same_self (l0.take j) (by simp; omega)
      have hs' : Ev (fun k => cardexref11_Same.f k (l0.take j) (l0.take (l0.take j).length)) true := by rw [e1]; exact hs
      exact Ev.bind hs' (Ev.congr (fun k => if_pos rfl) (Ev.now true))
    · exact Ev.bind hg (Ev.congr (fun k => if_neg (by decide)) (Ev.congr (fun k => if_pos rfl) (Ev.now true)))
  · exact Ev.congr (fun k => if_neg he) (Ev.now true)
  · exact Ev.congr (fun k => if_neg he) (Ev.now true)
end Go.Proofs.Ytjcpnfmbdbeinaa.OPlain
