/- The plain law of tokens: Put of tokens that may be; what is got is put as the same bytes. Conditions: bytes are bytes, lengths are Go's. -/
import Derived.Test.YtjcpnfmbdbeinaaRTokLay
namespace Go.Proofs.Ytjcpnfmbdbeinaa.RPlain
open Go.RowKit Go.Proofs.Ytjcpnfmbdbeinaa.R Go.Proofs.YtjcpnfmbdbeinaaW.PrintWords Go.Proofs.YtjcpnfmbdbeinaaW.PrintLast
set_option linter.unusedVariables false
set_option linter.unusedSimpArgs false

theorem Tok.fields {t : S38} {bs : List Int} (h : Tok t bs) : (0 ≤ t.f1 ∧ t.f1 < 256) ∧ Byt t.f2 ∧ t.f2.length ≤ 64 := by
  cases h with
  | page n h => exact ⟨h, fun x hx => (by cases hx), by simp⟩
  | stop => exact ⟨by simp, fun x hx => (by cases hx), by simp⟩
  | empty n h => exact ⟨⟨by dsimp only; omega, by dsimp only; omega⟩, fun x hx => (by cases hx), by simp⟩
  | open_ n h => exact ⟨⟨by dsimp only; omega, by dsimp only; omega⟩, fun x hx => (by cases hx), by simp⟩
  | text d h ht hb => exact ⟨by simp, hb, h.2⟩
  | opq d h hb => exact ⟨by simp, hb, h.2⟩
theorem may_tok {t : S38} {bs : List Int} (h : Tok t bs) : Ev (fun k => token_May.f k t.f0 t.f1 t.f2) true := by
  obtain ⟨h1, h2, h3⟩ := h.fields
  obtain ⟨v, hv, hi⟩ := may_of t h1 h2 (by omega)
  rw [hi.2 ⟨bs, h⟩] at hv
  exact hv
theorem Toks.get {ts : List S38} {l : List Int} (h : Toks ts l) : ∀ i, i < ts.length → ∃ bs, Tok (ts.getD i z38) bs := by
  induction h with
  | nil => intro i hi; simp at hi
  | cons t bs ts l h _ ih =>
    intro i hi
    rcases i with _ | i
    · exact ⟨bs, h⟩
    · simpa using ih i (by simpa using hi)
theorem rd38 (ts : List S38) (i : Nat) : rd_T38 ts (i : Int) = ts.getD i z38 := by simp [rd_T38]
theorem find_none (ts : List S38) (hl : ts.length ≤ 1000000) (h : ∀ i, i < ts.length → ∃ bs, Tok (ts.getD i z38) bs) : ∀ (d i : Nat), i + d = ts.length → Ev (fun k => api_Token_48.l0 k ts ts.length i) (-1) := by
  intro d
  induction d with
  | zero =>
    intro i hi
    refine Ev.step (fun k => ?_) (Ev.now _)
    rw [api_Token_48.l0, if_neg (by omega)]
  | succ d ih =>
    intro i hi
    obtain ⟨bs, hb⟩ := h i (by omega)
    have hm := may_tok hb
    have hp : Ev (fun k => token_Put_1.f k (rd_T38 ts i).f0 (rd_T38 ts i).f1 (rd_T38 ts i).f2) false := by
      rw [rd38]
      unfold token_Put_1.f
      exact Ev.bind hm (Ev.now _)
    refine Ev.step (g := fun k => api_Token_48.l0 k ts ts.length i) (f := fun k => (token_Put_1.f k (rd_T38 ts i).f0 (rd_T38 ts i).f1 (rd_T38 ts i).f2).bind fun t135 => (if t135 = true then (some (i : Int)) else (api_Token_48.l0 k ts ts.length (wrap64 (i + 1))))) (fun k => ?_) (Ev.bind hp ?_)
    · rw [api_Token_48.l0, if_pos (by omega), if_pos (by omega), if_pos (by omega)]
    · refine Ev.congr (fun k => ?_) (ih (i + 1) (by omega))
      rw [if_neg (by decide), w64 (n := (i : Int) + 1) (by omega) (by omega)]
      simp
theorem put_l0 (ts : List S38) (hl : ts.length ≤ 1000000) : ∀ (d i : Nat) (x l : List Int), i + d = ts.length → Toks (ts.drop i) l → x.length + l.length ≤ 16384 → Ev (fun k => token_Put.l0 k x ts ts.length i) (x ++ l, 0) := by
  intro d
  induction d with
  | zero =>
    intro i x l hi ht hx
    rw [List.drop_eq_nil_of_le (by omega)] at ht
    cases ht
    refine Ev.step (fun k => ?_) (Ev.now _)
    rw [token_Put.l0, if_neg (by omega)]
    simp
  | succ d ih =>
    intro i x l hi ht hx
    have hlt : i < ts.length := by omega
    rw [List.drop_eq_getElem_cons hlt] at ht
    cases ht with
    | cons t bs ts' l' h hs =>
      have hg : rd_T38 ts i = ts[i] := by rw [rd38, List.getD_eq_getElem?_getD, List.getElem?_eq_getElem hlt]; rfl
      simp at hx
      have hlay := lay_tok h x (by omega)
      rw [← hg] at hlay
      refine Ev.step (g := fun k => token_Put.l0 k x ts ts.length i) (f := fun k => (token_lay.f k x ((rd_T38 ts i).f0) ((rd_T38 ts i).f1) ((rd_T38 ts i).f2)).bind fun t351 => (if (t351.length : Int) > 16384 then (some (([] : List Int), 3)) else (token_Put.l0 k t351 ts ts.length (wrap64 (i + 1))))) (fun k => ?_) (Ev.bind hlay ?_)
      · rw [token_Put.l0, if_pos (by omega), if_pos (by omega), if_pos (by omega)]
      · have h2 := ih (i + 1) (x ++ bs) l' (by omega) hs (by simp; omega)
        rw [List.append_assoc] at h2
        refine Ev.congr (fun k => ?_) h2
        rw [if_neg (by simp; omega), w64 (n := (i : Int) + 1) (by omega) (by omega)]
        simp
theorem put_toks {ts : List S38} {l : List Int} (h : Toks ts l) (hl : 4 + l.length ≤ 16384) : Ev (fun k => token_Put.f k ts) ([3, 1, 106, 0] ++ l, 0) := by
  have h1 := h.len
  have hn : Ev (fun k => api_Token_41.f k ts) false := by
    unfold api_Token_41.f api_Token_48.f
    exact Ev.bind (find_none ts (by omega) h.get ts.length 0 (by omega)) (Ev.now _)
  unfold token_Put.f
  refine Ev.bind hn (Ev.congr (fun k => if_neg (by decide)) ?_)
  exact put_l0 ts (by omega) ts.length 0 [3, 1, 106, 0] l (by omega) h (by simp; omega)
theorem head_iff {l : List Int} (hb : Byt l) : ((strOfNums l).toList == [3, 1, 106, 0]) = true ↔ l = [3, 1, 106, 0] := by
  have h0 : (strOfNums [3, 1, 106, 0]).toList = [3, 1, 106, 0] := by simp [strOfNums]
  rw [beq_iff_eq, ← h0]
  exact byt_str hb (fun x hx => by simp at hx; omega)
/-- Get of any bytes. -/
theorem get_of (b : List Int) (hb : Byt b) : ∃ (r : List S38) (e : Int), Ev (fun k => token_Get.f k b) (r, e) ∧
    ((e = 0 ∧ ∃ l, b = [3, 1, 106, 0] ++ l ∧ b.length ≤ 16384 ∧ Toks r l) ∨ (e ≠ 0 ∧ r = [])) := by
  by_cases c1 : (b.length : Int) > 16384
  · exact ⟨[], 3, Ev.congr (fun k => by rw [token_Get.f, if_pos c1]) (Ev.now _), .inr ⟨by decide, rfl⟩⟩
  by_cases c2 : (b.length : Int) < 4
  · exact ⟨[], 4, Ev.congr (fun k => by rw [token_Get.f, if_neg c1, if_pos c2]) (Ev.now _), .inr ⟨by decide, rfl⟩⟩
  by_cases c3 : ((strOfNums (b.take 4)).toList == [3, 1, 106, 0]) = true
  · obtain ⟨r, e, hev, hc⟩ := rget_at b hb (by omega) (b.length - 4) 4 [] (by omega) (by simp)
    refine ⟨r, e, Ev.congr (fun k => by rw [token_Get.f, if_neg c1, if_neg c2, if_pos c3]) hev, ?_⟩
    rcases hc with ⟨he, ts, hr, ht⟩ | hc
    · refine .inl ⟨he, b.drop 4, ?_, by omega, by rw [hr]; exact ht⟩
      rw [← (head_iff (byt_take hb 4)).1 c3, List.take_append_drop]
    · exact .inr hc
  · exact ⟨[], 5, Ev.congr (fun k => by rw [token_Get.f, if_neg c1, if_neg c2, if_neg c3]) (Ev.now _), .inr ⟨by decide, rfl⟩⟩
end Go.Proofs.Ytjcpnfmbdbeinaa.RPlain
