/- The plain law of tokens: May, lay, Put and Get of tokens that may be. Conditions: bytes are bytes, lengths are Go's. -/
import Derived.Test.YtjcpnfmbdbeinaaRTokNext
namespace Go.Proofs.Ytjcpnfmbdbeinaa.RPlain
open Go.RowKit Go.Proofs.Ytjcpnfmbdbeinaa.R Go.Proofs.YtjcpnfmbdbeinaaW.PrintWords Go.Proofs.YtjcpnfmbdbeinaaW.PrintLast
set_option linter.unusedVariables false
set_option linter.unusedSimpArgs false

theorem may_of (t : S38) (h1 : 0 ≤ t.f1 ∧ t.f1 < 256) (hb : Byt t.f2) (hl : t.f2.length ≤ 4611686018427387904) :
    ∃ v, Ev (fun k => token_May.f k t.f0 t.f1 t.f2) v ∧ (v = true ↔ ∃ bs, Tok t bs) := by
  obtain ⟨a, n, d⟩ := t
  dsimp only at h1 hb hl ⊢
  obtain ⟨u, hu, hev⟩ := utf_is d hb hl
  generalize hbare : ((d.length : Int) == 0) = bare
  have hbare' : bare = true ↔ d = [] := by
    rw [← hbare, beq_iff_eq]
    rw [← List.length_eq_zero_iff]
    omega
  obtain ⟨some_, hsome, hs⟩ : ∃ some_ : Bool, (∀ k, token_May.f k a n d = token_May.j0 k bare some_ a n d) ∧ (some_ = true ↔ bytesOk d ∧ n = 0) := by
    by_cases c1 : (d.length : Int) > 0
    · by_cases c2 : (d.length : Int) ≤ 64
      · refine ⟨n == 0, fun k => ?_, ?_⟩
        · rw [token_May.f, if_pos c1, if_pos c2, hbare]
        · rw [beq_iff_eq]
          exact ⟨fun h => ⟨⟨by omega, by omega⟩, h⟩, fun h => h.2⟩
      · refine ⟨false, fun k => ?_, ?_⟩
        · rw [token_May.f, if_pos c1, if_neg c2, hbare]
        · exact ⟨fun h => (by cases h), fun h => (by have := h.1.2; omega)⟩
    · refine ⟨false, fun k => ?_, ?_⟩
      · rw [token_May.f, if_neg c1, hbare]
      · exact ⟨fun h => (by cases h), fun h => (by have := h.1.1; omega)⟩
  have go : ∀ v, Ev (fun k => token_May.j0 (k + 1) bare some_ a n d) v → Ev (fun k => token_May.f k a n d) v := fun v h =>
    Ev.step (fun k => hsome (k + 1)) h
  by_cases c1 : a = 1
  · subst c1
    refine ⟨bare, go _ (Ev.congr (fun k => by rw [token_May.j0, if_pos rfl]) (Ev.now _)), hbare'.trans ⟨fun h => ⟨[0, n], by rw [h]; exact .page n h1⟩, fun ⟨bs, h⟩ => ?_⟩⟩
    cases h; rfl
  by_cases c4 : a = 4
  · subst c4
    refine ⟨if bare = true then n == 0 else false, go _ (Ev.congr (fun k => ?_) (Ev.now _)), ?_⟩
    · rw [token_May.j0, if_neg c1, if_pos rfl]
      cases bare <;> rfl
    · constructor
      · intro h
        cases hh : bare
        · rw [hh] at h; simp at h
        · rw [hh] at h
          have hd := hbare'.1 hh
          have hn : n = 0 := by simpa using h
          subst hd hn
          exact ⟨_, .stop⟩
      · rintro ⟨bs, h⟩
        cases h
        rw [hbare'.2 rfl]
        rfl
  by_cases c23 : a = 2 ∨ a = 3
  · refine ⟨if bare = true then (if n ≥ 5 then decide (n ≤ 63) else false) else false, go _ (Ev.step (g := fun k => token_May.j0 (k + 1) bare some_ a n d) (f := fun k => token_May.j1 (k + 1) bare some_ a true a n d) (fun k => ?_) (Ev.congr (fun k => ?_) (Ev.now _))), ?_⟩
    · rw [token_May.j0, if_neg c1, if_neg c4]
      rcases c23 with rfl | rfl <;> rfl
    · rw [token_May.j1, if_pos rfl]
      cases bare
      · rfl
      · by_cases h5 : n ≥ 5
        · rw [if_pos rfl, if_pos h5, if_pos rfl, if_pos h5]
        · rw [if_pos rfl, if_neg h5, if_pos rfl, if_neg h5]
    · constructor
      · intro h
        cases hh : bare
        · rw [hh] at h; simp at h
        · rw [hh] at h
          have hd := hbare'.1 hh
          subst hd
          by_cases h5 : n ≥ 5
          · rw [if_pos rfl, if_pos h5] at h
            have h6 : n ≤ 63 := of_decide_eq_true h
            rcases c23 with rfl | rfl
            · exact ⟨_, .open_ n ⟨h5, h6⟩⟩
            · exact ⟨_, .empty n ⟨h5, h6⟩⟩
          · rw [if_pos rfl, if_neg h5] at h; cases h
      · rintro ⟨bs, h⟩
        cases h <;> first | omega | (rename_i h; rw [hbare'.2 rfl, if_pos rfl, if_pos h.1, decide_eq_true h.2])
  have c2 : a ≠ 2 := fun h => c23 (.inl h)
  have c3 : a ≠ 3 := fun h => c23 (.inr h)
  have go2 : ∀ v, Ev (fun k => token_May.j1 (k + 1) bare some_ a false a n d) v → Ev (fun k => token_May.f k a n d) v := fun v h => by
    refine go _ (Ev.step (g := fun k => token_May.j0 (k + 1) bare some_ a n d) (f := fun k => token_May.j1 (k + 1) bare some_ a false a n d) (fun k => ?_) h)
    rw [token_May.j0, if_neg c1, if_neg c4, if_neg c2]
    rw [show (a == 3) = false from by simp [c3]]
  by_cases c5 : a = 5
  · subst c5
    refine ⟨if some_ = true then u else false, go2 _ ?_, ?_⟩
    · cases some_
      · exact Ev.congr (fun k => by rw [token_May.j1, if_neg (by decide), if_pos rfl]; rfl) (Ev.now _)
      · refine Ev.congr (fun k => ?_) (Ev.bind (f := fun _ (t : Bool) => some t) hev (Ev.now _))
        rw [token_May.j1, if_neg (by decide), if_pos rfl, if_pos rfl]
    · constructor
      · intro h
        cases hh : some_
        · rw [hh] at h; simp at h
        · rw [hh] at h
          obtain ⟨ho, rfl⟩ := hs.1 hh
          exact ⟨_, .text d ho (hu.1 h) hb⟩
      · rintro ⟨bs, h⟩
        cases h with
        | text _ ho ht _ => rw [hs.2 ⟨ho, rfl⟩, if_pos rfl]; exact hu.2 ht
  by_cases c6 : a = 6
  · subst c6
    refine ⟨some_, go2 _ (Ev.congr (fun k => by rw [token_May.j1, if_neg (by decide), if_neg (by decide), if_pos rfl]) (Ev.now _)), hs.trans ⟨fun h => ⟨_, by rw [h.2]; exact .opq d h.1 hb⟩, fun ⟨bs, h⟩ => ?_⟩⟩
    cases h with
    | opq _ ho _ => exact ⟨ho, rfl⟩
  refine ⟨false, go2 _ (Ev.congr (fun k => by rw [token_May.j1, if_neg (by decide), if_neg c5, if_neg c6]) (Ev.now _)), ⟨fun h => (by cases h), fun ⟨bs, h⟩ => ?_⟩⟩
  cases h <;> omega
end Go.Proofs.Ytjcpnfmbdbeinaa.RPlain
