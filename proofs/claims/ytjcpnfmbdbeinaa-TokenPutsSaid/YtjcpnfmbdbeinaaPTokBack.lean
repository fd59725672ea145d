/- The plain law of tokens: Put of any tokens, Get of what was put, and of its beginnings. Conditions: bytes are bytes, lengths are Go's. -/
import Derived.Test.YtjcpnfmbdbeinaaPTokPut
namespace Go.Proofs.Ytjcpnfmbdbeinaa.PPlain
open Go.RowKit Go.Proofs.Ytjcpnfmbdbeinaa.P Go.Proofs.YtjcpnfmbdbeinaaW.PrintWords Go.Proofs.YtjcpnfmbdbeinaaW.PrintLast
set_option linter.unusedVariables false
set_option linter.unusedSimpArgs false

/-- Bytes begin with one token at most. -/
theorem Tok.inj {t t' : S38} {bs bs' r r' : List Int} (h : Tok t bs) (h' : Tok t' bs') (he : bs ++ r = bs' ++ r') : t = t' ∧ bs = bs' ∧ r = r' := by
  obtain ⟨c, tl, rfl, H⟩ := h.cases_
  obtain ⟨c', tl', rfl, H'⟩ := h'.cases_
  simp only [List.cons_append, List.cons.injEq] at he
  obtain ⟨rfl, he⟩ := he
  rcases H with ⟨h0, n, rfl, rfl⟩ | ⟨h0, rfl, rfl⟩ | ⟨h0, d, rfl, rfl, ho, ht⟩ | ⟨h0, d, rfl, rfl, ho⟩ | ⟨h0, h1, rfl, rfl⟩ | ⟨h0, h1, rfl, rfl⟩ <;>
    rcases H' with ⟨k0, n', rfl, rfl⟩ | ⟨k0, rfl, rfl⟩ | ⟨k0, d', rfl, rfl, ho', ht'⟩ | ⟨k0, d', rfl, rfl, ho'⟩ | ⟨k0, k1, rfl, rfl⟩ | ⟨k0, k1, rfl, rfl⟩ <;>
    first
    | (exfalso; omega)
    | (simp at he; exact ⟨rfl, rfl, he⟩)
    | (simp at he; obtain ⟨rfl, rfl⟩ := he; exact ⟨rfl, rfl, rfl⟩)
    | (obtain ⟨rfl, rfl⟩ := first_zero ht.nz ht'.nz (by simpa using he); exact ⟨rfl, rfl, rfl⟩)
    | (simp only [List.cons_append, List.cons.injEq] at he
       obtain ⟨hl, he⟩ := he
       obtain ⟨rfl, rfl⟩ := List.append_inj he (by omega)
       exact ⟨rfl, rfl, rfl⟩)
theorem Toks.inj {ts ts' : List S38} {l : List Int} (h : Toks ts l) (h' : Toks ts' l) : ts = ts' := by
  induction h generalizing ts' with
  | nil =>
    have := h'.len
    exact (List.eq_nil_of_length_eq_zero (by simpa using this)).symm
  | cons t bs ts l h hs ih =>
    generalize hg : bs ++ l = m at h'
    cases h' with
    | nil =>
      have h1 := h.pos
      have h2 := congrArg List.length hg
      rw [List.length_append, List.length_nil] at h2
      omega
    | cons t' bs' ts' l' h2 hs2 =>
      obtain ⟨rfl, rfl, rfl⟩ := h.inj h2 hg
      rw [ih hs2]

/-! ### Put of any tokens -/
def Good (t : S38) : Prop := (0 ≤ t.f1 ∧ t.f1 < 256) ∧ Byt t.f2 ∧ t.f2.length ≤ 4611686018427387904
theorem find_of (ts : List S38) (hl : ts.length ≤ 4611686018427387904) (hg : ∀ i, i < ts.length → Good (ts.getD i z38)) : ∀ (d i : Nat), i + d = ts.length →
    ∃ r : Int, Ev (fun k => api_Token_48.l0 k ts ts.length i) r ∧ ((r = -1 ∧ ∀ j, i ≤ j → j < ts.length → ∃ bs, Tok (ts.getD j z38) bs) ∨ (0 ≤ r ∧ ∃ j, j < ts.length ∧ ¬ ∃ bs, Tok (ts.getD j z38) bs)) := by
  intro d
  induction d with
  | zero =>
    intro i hi
    refine ⟨-1, Ev.step (fun k => ?_) (Ev.now _), .inl ⟨rfl, fun j h1 h2 => by omega⟩⟩
    rw [api_Token_48.l0, if_neg (by omega)]
  | succ d ih =>
    intro i hi
    obtain ⟨g1, g2, g3⟩ := hg i (by omega)
    obtain ⟨v, hv, hvi⟩ := may_of _ g1 g2 g3
    have hp : Ev (fun k => token_Put_1.f k (rd_T38 ts i).f0 (rd_T38 ts i).f1 (rd_T38 ts i).f2) (!v) := by
      rw [rd38]
      unfold token_Put_1.f
      exact Ev.bind hv (Ev.now _)
    have hstep : ∀ r, Ev (fun k => if (!v) = true then (some (i : Int)) else (api_Token_48.l0 k ts ts.length (wrap64 (i + 1)))) r → Ev (fun k => api_Token_48.l0 k ts ts.length i) r := fun r hr => by
      refine Ev.step (g := fun k => api_Token_48.l0 k ts ts.length i) (f := fun k => (token_Put_1.f k (rd_T38 ts i).f0 (rd_T38 ts i).f1 (rd_T38 ts i).f2).bind fun t135 => (if t135 = true then (some (i : Int)) else (api_Token_48.l0 k ts ts.length (wrap64 (i + 1))))) (fun k => ?_) (Ev.bind hp hr)
      rw [api_Token_48.l0, if_pos (by omega), if_pos (by omega), if_pos (by omega)]
    rcases v with _ | _
    · exact ⟨i, hstep _ (Ev.congr (fun k => if_pos rfl) (Ev.now _)), .inr ⟨by omega, i, by omega, fun h => by have := hvi.2 h; cases this⟩⟩
    · obtain ⟨r, hr, hc⟩ := ih (i + 1) (by omega)
      refine ⟨r, hstep _ (Ev.congr (fun k => ?_) hr), ?_⟩
      · rw [if_neg (by decide), w64 (n := (i : Int) + 1) (by omega) (by omega)]
        simp
      · rcases hc with ⟨h1, h2⟩ | hc
        · refine .inl ⟨h1, fun j h3 h4 => ?_⟩
          by_cases h5 : j = i
          · subst h5
            exact hvi.1 rfl
          · exact h2 j (by omega) h4
        · exact .inr hc
theorem Toks.mk_ : ∀ ts : List S38, (∀ i, i < ts.length → ∃ bs, Tok (ts.getD i z38) bs) → ∃ l, Toks ts l
  | [], _ => ⟨[], .nil⟩
  | t :: ts, h => by
    obtain ⟨bs, h0⟩ := h 0 (by simp)
    obtain ⟨l, hs⟩ := Toks.mk_ ts (fun i hi => by simpa using h (i + 1) (by simpa using hi))
    exact ⟨_, .cons t bs ts l h0 hs⟩
theorem Tok.le66 {t : S38} {bs : List Int} (h : Tok t bs) : bs.length ≤ 66 := by
  cases h with
  | text d h => have := h.2; simp; omega
  | opq d h => have := h.2; simp; omega
  | _ => simp
theorem put_any (ts : List S38) (hl : ts.length ≤ 4611686018427387904) : ∀ (d i : Nat) (x l : List Int), i + d = ts.length → Toks (ts.drop i) l → x.length ≤ 16384 →
    ∃ (r : List Int) (e : Int), Ev (fun k => token_Put.l0 k x ts ts.length i) (r, e) ∧ ((e = 0 ∧ r = x ++ l ∧ r.length ≤ 16384) ∨ (e = 3 ∧ r = [] ∧ 16384 < x.length + l.length)) := by
  intro d
  induction d with
  | zero =>
    intro i x l hi ht hx
    rw [List.drop_eq_nil_of_le (by omega)] at ht
    cases ht
    refine ⟨x, 0, Ev.step (fun k => ?_) (Ev.now _), .inl ⟨rfl, by simp, hx⟩⟩
    rw [token_Put.l0, if_neg (by omega)]
  | succ d ih =>
    intro i x l hi ht hx
    have hlt : i < ts.length := by omega
    rw [List.drop_eq_getElem_cons hlt] at ht
    cases ht with
    | cons t bs ts' l' h hs =>
      have hg : rd_T38 ts i = ts[i] := by rw [rd38, List.getD_eq_getElem?_getD, List.getElem?_eq_getElem hlt]; rfl
      have hbl := h.le66
      have hlay := lay_tok h x (by omega)
      rw [← hg] at hlay
      have hstep : ∀ r, Ev (fun k => if ((x ++ bs).length : Int) > 16384 then (some (([] : List Int), 3)) else (token_Put.l0 k (x ++ bs) ts ts.length (wrap64 (i + 1)))) r → Ev (fun k => token_Put.l0 k x ts ts.length i) r := fun r hr => by
        refine Ev.step (g := fun k => token_Put.l0 k x ts ts.length i) (f := fun k => (token_lay.f k x ((rd_T38 ts i).f0) ((rd_T38 ts i).f1) ((rd_T38 ts i).f2)).bind fun t351 => (if (t351.length : Int) > 16384 then (some (([] : List Int), 3)) else (token_Put.l0 k t351 ts ts.length (wrap64 (i + 1))))) (fun k => ?_) (Ev.bind hlay hr)
        rw [token_Put.l0, if_pos (by omega), if_pos (by omega), if_pos (by omega)]
      by_cases hb : (x ++ bs).length ≤ 16384
      · obtain ⟨r, e, hev, hc⟩ := ih (i + 1) (x ++ bs) l' (by omega) hs hb
        refine ⟨r, e, hstep _ (Ev.congr (fun k => ?_) hev), ?_⟩
        · rw [if_neg (by omega), w64 (n := (i : Int) + 1) (by omega) (by omega)]
          simp
        · rcases hc with ⟨h1, h2, h3⟩ | ⟨h1, h2, h3⟩
          · exact .inl ⟨h1, by rw [h2]; simp, h3⟩
          · exact .inr ⟨h1, h2, by simp at h3 ⊢; omega⟩
      · exact ⟨[], 3, hstep _ (Ev.congr (fun k => if_pos (by omega)) (Ev.now _)), .inr ⟨rfl, rfl, by simp at hb ⊢; omega⟩⟩
/-- Put of any tokens: their bytes, or an error and none. -/
theorem put_of (ts : List S38) (hl : ts.length ≤ 4611686018427387904) (hg : ∀ i, i < ts.length → Good (ts.getD i z38)) :
    ∃ (r : List Int) (e : Int), Ev (fun k => token_Put.f k ts) (r, e) ∧
      ((e = 0 ∧ ∃ l, r = [3, 1, 106, 0] ++ l ∧ r.length ≤ 16384 ∧ Toks ts l) ∨ (e ≠ 0 ∧ e = 2 ∧ r = [] ∧ ¬ ∃ l, Toks ts l) ∨ (e ≠ 0 ∧ e = 3 ∧ r = [] ∧ ∃ l, Toks ts l ∧ 16384 < 4 + l.length)) := by
  obtain ⟨i, hi, hc⟩ := find_of ts hl hg ts.length 0 (by omega)
  have hn : Ev (fun k => api_Token_41.f k ts) (decide (i ≥ 0)) := by
    unfold api_Token_41.f api_Token_48.f
    exact Ev.bind hi (Ev.now _)
  rcases hc with ⟨rfl, h⟩ | ⟨h0, j, hj, hno⟩
  · obtain ⟨l, ht⟩ := Toks.mk_ ts (fun i hi => h i (by omega) hi)
    obtain ⟨r, e, hev, hc⟩ := put_any ts hl ts.length 0 [3, 1, 106, 0] l (by omega) ht (by simp)
    refine ⟨r, e, ?_, ?_⟩
    · unfold token_Put.f
      exact Ev.bind hn (Ev.congr (fun k => if_neg (by decide)) hev)
    · rcases hc with ⟨h1, h2, h3⟩ | ⟨h1, h2, h3⟩
      · exact .inl ⟨h1, l, h2, h3, ht⟩
      · exact .inr (.inr ⟨by omega, h1, h2, l, ht, by simpa using h3⟩)
  · refine ⟨[], 2, ?_, .inr (.inl ⟨by decide, rfl, rfl, ?_⟩)⟩
    · unfold token_Put.f
      exact Ev.bind hn (Ev.congr (fun k => if_pos (by simp; omega)) (Ev.now _))
    · rintro ⟨l, ht⟩
      exact hno (ht.get j hj)

end Go.Proofs.Ytjcpnfmbdbeinaa.PPlain
