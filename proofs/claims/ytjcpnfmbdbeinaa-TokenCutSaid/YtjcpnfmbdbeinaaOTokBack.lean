/- The plain law of tokens: Put of any tokens, Get of what was put, and of its beginnings. Conditions: bytes are bytes, lengths are Go's. -/
import Derived.Test.YtjcpnfmbdbeinaaOTokPut
namespace Go.Proofs.Ytjcpnfmbdbeinaa.OPlain
open Go.RowKit Go.Proofs.Ytjcpnfmbdbeinaa.O Go.Proofs.YtjcpnfmbdbeinaaW.PrintWords Go.Proofs.YtjcpnfmbdbeinaaW.PrintLast
set_option linter.unusedVariables false
set_option linter.unusedSimpArgs false

/-- Bytes begin with one token at most. -/
theorem Tok.inj {t t' : S38} {bs bs' r r' : List Int} (h : Tok t bs) (h' : Tok t' bs') (he : bs ++ r = bs' ++ r') : t = t' ∧ bs = bs' ∧ r = r' := by
  obtain ⟨c, tl, rfl, H⟩ := h.cases_
  obtain ⟨c', tl', rfl, H'⟩ := h'.cases_
  simp only [List.cons_append, List.cons.injEq] at he
  obtain ⟨rfl, he⟩ := he
  rcases H with ⟨h0, n, rfl, rfl⟩ | ⟨h0, rfl, rfl⟩ | ⟨h0, d, rfl, rfl, ho, ht⟩ | ⟨h0, d, rfl, rfl, ho⟩ | ⟨h0, h1, rfl, rfl⟩ | ⟨h0, h1, rfl, rfl⟩ <;>
    rcases H' with ⟨k0, n', rfl, rfl⟩ | ⟨k0, rfl, rfl⟩ | ⟨k0, d', rfl, rfl, ho', ht'⟩ | ⟨k0, d', rfl, rfl, ho'⟩ | ⟨k0, k1, rfl, rfl⟩ | ⟨k0, k1, rfl, rfl⟩ <;>
    first
    | (exfalso; omega)
    | (simp at he; exact ⟨rfl, rfl, he⟩)
    | (simp at he; obtain ⟨rfl, rfl⟩ := he; exact ⟨rfl, rfl, rfl⟩)
    | (obtain ⟨rfl, rfl⟩ := first_zero ht.nz ht'.nz (by simpa using he); exact ⟨rfl, rfl, rfl⟩)
    | (simp only [List.cons_append, List.cons.injEq] at he
       obtain ⟨hl, he⟩ := he
       obtain ⟨rfl, rfl⟩ := List.append_inj he (by omega)
       exact ⟨rfl, rfl, rfl⟩)
theorem Toks.inj {ts ts' : List S38} {l : List Int} (h : Toks ts l) (h' : Toks ts' l) : ts = ts' := by
  induction h generalizing ts' with
  | nil =>
    have := h'.len
    exact (List.eq_nil_of_length_eq_zero (by simpa using this)).symm
  | cons t bs ts l h hs ih =>
    generalize hg : bs ++ l = m at h'
    cases h' with
    | nil =>
      have h1 := h.pos
      have h2 := congrArg List.length hg
      rw [List.length_append, List.length_nil] at h2
      omega
    | cons t' bs' ts' l' h2 hs2 =>
      obtain ⟨rfl, rfl, rfl⟩ := h.inj h2 hg
      rw [ih hs2]

/-! ### Put of any tokens -/
def Good (t : S38) : Prop := (0 ≤ t.f1 ∧ t.f1 < 256) ∧ Byt t.f2 ∧ t.f2.length ≤ 4611686018427387904
theorem find_of (ts : List S38) (hl : ts.length ≤ 4611686018427387904) (hg : ∀ i, i < ts.length → Good (ts.getD i z38)) : ∀ (d i : Nat), i + d = ts.length →
    ∃ r : Int, Ev (fun k => api_Token_48.l0 k ts ts.length i) r ∧ ((r = -1 ∧ ∀ j, i ≤ j → j < ts.length → ∃ bs, Tok (ts.getD j z38) bs) ∨ (0 ≤ r ∧ ∃ j, j < ts.length ∧ ¬ ∃ bs, Tok (ts.getD j z38) bs)) := by
  intro d
  induction d with
  | zero =>
    intro i hi
    refine ⟨-1, Ev.step (fun k => ?_) (Ev.now _), .inl ⟨rfl, fun j h1 h2 => by omega⟩⟩
    rw [api_Token_48.l0, if_neg (by omega)]
  | succ d ih =>
    intro i hi
    obtain ⟨g1, g2, g3⟩ := hg i (by omega)
    obtain ⟨v, hv, hvi⟩ := may_of _ g1 g2 g3
    have hp : Ev (fun k => token_Put_1.f k (rd_T38 ts i).f0 (rd_T38 ts i).f1 (rd_T38 ts i).f2) (!v) := by
      rw [rd38]
      unfold token_Put_1.f
      exact Ev.bind hv (Ev.now _)
    have hstep : ∀ r, Ev (fun k => if (!v) = true then (some (i : Int)) else (api_Token_48.l0 k ts ts.length (wrap64 (i + 1)))) r → Ev (fun k => api_Token_48.l0 k ts ts.length i) r := fun r hr => by
      refine Ev.step (g := fun k => api_Token_48.l0 k ts ts.length i) (f := fun k => (token_Put_1.f k (rd_T38 ts i).f0 (rd_T38 ts i).f1 (rd_T38 ts i).f2).bind fun t135 => (if t135 = true then (some (i : Int)) else (api_Token_48.l0 k ts ts.length (wrap64 (i + 1))))) (fun k => ?_) (Ev.bind hp hr)
      rw [api_Token_48.l0, if_pos (by omega), if_pos (by omega), if_pos (by omega)]
    rcases v with _ | _
    · exact ⟨i, hstep _ (Ev.congr (fun k => if_pos rfl) (Ev.now _)), .inr ⟨by omega, i, by omega, fun h => by have := hvi.2 h; cases this⟩⟩
    · obtain ⟨r, hr, hc⟩ := ih (i + 1) (by omega)
      refine ⟨r, hstep _ (Ev.congr (fun k => ?_) hr), ?_⟩
      · rw [if_neg (by decide), w64 (n := (i : Int) + 1) (by omega) (by omega)]
        simp
      · rcases hc with ⟨h1, h2⟩ | hc
        · refine .inl ⟨h1, fun j h3 h4 => ?_⟩
          by_cases h5 : j = i
          · subst h5
            exact hvi.1 rfl
          · exact h2 j (by omega) h4
        · exact .inr hc
theorem Toks.mk_ : ∀ ts : List S38, (∀ i, i < ts.length → ∃ bs, Tok (ts.getD i z38) bs) → ∃ l, Toks ts l
  | [], _ => ⟨[], .nil⟩
  | t :: ts, h => by
    obtain ⟨bs, h0⟩ := h 0 (by simp)
    obtain ⟨l, hs⟩ := Toks.mk_ ts (fun i hi => by simpa using h (i + 1) (by simpa using hi))
    exact ⟨_, .cons t bs ts l h0 hs⟩
theorem Tok.le66 {t : S38} {bs : List Int} (h : Tok t bs) : bs.length ≤ 66 := by
  cases h with
  | text d h => have := h.2; simp; omega
  | opq d h => have := h.2; simp; omega
  | _ => simp
theorem put_any (ts : List S38) (hl : ts.length ≤ 4611686018427387904) : ∀ (d i : Nat) (x l : List Int), i + d = ts.length → Toks (ts.drop i) l → x.length ≤ 16384 →
    ∃ (r : List Int) (e : Int), Ev (fun k => token_Put.l0 k x ts ts.length i) (r, e) ∧ ((e = 0 ∧ r = x ++ l ∧ r.length ≤ 16384) ∨ (e = 3 ∧ r = [] ∧ 16384 < x.length + l.length)) := by
  intro d
  induction d with
  | zero =>
    intro i x l hi ht hx
    rw [List.drop_eq_nil_of_le (by omega)] at ht
    cases ht
    refine ⟨x, 0, Ev.step (fun k => ?_) (Ev.now _), .inl ⟨rfl, by simp, hx⟩⟩
    rw [token_Put.l0, if_neg (by omega)]
  | succ d ih =>
    intro i x l hi ht hx
    have hlt : i < ts.length := by omega
    rw [List.drop_eq_getElem_cons hlt] at ht
    cases ht with
    | cons t bs ts' l' h hs =>
      have hg : rd_T38 ts i = ts[i] := by rw [rd38, List.getD_eq_getElem?_getD, List.getElem?_eq_getElem hlt]; rfl
      have hbl := h.le66
      have hlay := lay_tok h x (by omega)
      rw [← hg] at hlay
      have hstep : ∀ r, Ev (fun k => if ((x ++ bs).length : Int) > 16384 then (some (([] : List Int), 3)) else (token_Put.l0 k (x ++ bs) ts ts.length (wrap64 (i + 1)))) r → Ev (fun k => token_Put.l0 k x ts ts.length i) r := fun r hr => by
        refine Ev.step (g := fun k => token_Put.l0 k x ts ts.length i) (f := fun k => (token_lay.f k x ((rd_T38 ts i).f0) ((rd_T38 ts i).f1) ((rd_T38 ts i).f2)).bind fun t351 => (if (t351.length : Int) > 16384 then (some (([] : List Int), 3)) else (token_Put.l0 k t351 ts ts.length (wrap64 (i + 1))))) (fun k => ?_) (Ev.bind hlay hr)
        rw [token_Put.l0, if_pos (by omega), if_pos (by omega), if_pos (by omega)]
      by_cases hb : (x ++ bs).length ≤ 16384
      · obtain ⟨r, e, hev, hc⟩ := ih (i + 1) (x ++ bs) l' (by omega) hs hb
        refine ⟨r, e, hstep _ (Ev.congr (fun k => ?_) hev), ?_⟩
        · rw [if_neg (by omega), w64 (n := (i : Int) + 1) (by omega) (by omega)]
          simp
        · rcases hc with ⟨h1, h2, h3⟩ | ⟨h1, h2, h3⟩
          · exact .inl ⟨h1, by rw [h2]; simp, h3⟩
          · exact .inr ⟨h1, h2, by simp at h3 ⊢; omega⟩
      · exact ⟨[], 3, hstep _ (Ev.congr (fun k => if_pos (by omega)) (Ev.now _)), .inr ⟨rfl, rfl, by simp at hb ⊢; omega⟩⟩
/-- Put of any tokens: their bytes, or an error and none. -/
theorem put_of (ts : List S38) (hl : ts.length ≤ 4611686018427387904) (hg : ∀ i, i < ts.length → Good (ts.getD i z38)) :
    ∃ (r : List Int) (e : Int), Ev (fun k => token_Put.f k ts) (r, e) ∧
      ((e = 0 ∧ ∃ l, r = [3, 1, 106, 0] ++ l ∧ r.length ≤ 16384 ∧ Toks ts l) ∨ (e ≠ 0 ∧ e = 2 ∧ r = [] ∧ ¬ ∃ l, Toks ts l) ∨ (e ≠ 0 ∧ e = 3 ∧ r = [] ∧ ∃ l, Toks ts l ∧ 16384 < 4 + l.length)) := by
  obtain ⟨i, hi, hc⟩ := find_of ts hl hg ts.length 0 (by omega)
  have hn : Ev (fun k => api_Token_41.f k ts) (decide (i ≥ 0)) := by
    unfold api_Token_41.f api_Token_48.f
    exact Ev.bind hi (Ev.now _)
  rcases hc with ⟨rfl, h⟩ | ⟨h0, j, hj, hno⟩
  · obtain ⟨l, ht⟩ := Toks.mk_ ts (fun i hi => h i (by omega) hi)
    obtain ⟨r, e, hev, hc⟩ := put_any ts hl ts.length 0 [3, 1, 106, 0] l (by omega) ht (by simp)
    refine ⟨r, e, ?_, ?_⟩
    · unfold token_Put.f
      exact Ev.bind hn (Ev.congr (fun k => if_neg (by decide)) hev)
    · rcases hc with ⟨h1, h2, h3⟩ | ⟨h1, h2, h3⟩
      · exact .inl ⟨h1, l, h2, h3, ht⟩
      · exact .inr (.inr ⟨by omega, h1, h2, l, ht, by simpa using h3⟩)
  · refine ⟨[], 2, ?_, .inr (.inl ⟨by decide, rfl, rfl, ?_⟩)⟩
    · unfold token_Put.f
      exact Ev.bind hn (Ev.congr (fun k => if_pos (by simp; omega)) (Ev.now _))
    · rintro ⟨l, ht⟩
      exact hno (ht.get j hj)

/-! ### Get of tokens' bytes -/
theorem rget_toks (b : List Int) (hb : Byt b) (hl : b.length ≤ 16384) : ∀ (ts : List S38) (at_ : Nat) (xs : List S38), at_ ≤ b.length → xs.length ≤ at_ → Toks ts (b.drop at_) →
    Ev (fun k => rget.l0 k b xs at_) (xs ++ ts, 0) := by
  intro ts
  induction ts with
  | nil =>
    intro at_ xs hat hxs ht
    generalize hg : b.drop at_ = m at ht
    cases ht
    have := congrArg List.length hg
    simp at this
    refine Ev.step (fun k => ?_) (Ev.now _)
    rw [rget.l0, if_neg (by omega)]
    simp
  | cons t ts ih =>
    intro at_ xs hat hxs ht
    generalize hg : b.drop at_ = m at ht
    cases ht with
    | cons _ bs _ l h hs =>
      have hp := h.pos
      have hlen := congrArg List.length hg
      simp at hlen
      have h0 : at_ < b.length := by omega
      obtain ⟨t', e, nx, hev, hn⟩ := rnext_at b at_ hb hl h0
      have hstep : ∀ k, rget.l0 (k + 1) b xs at_ = (rnext k b at_).bind fun t => (if t.2.2.2.1 = 0 then (if xs.length < 4398046511104 then (rget.l0 k b (xs ++ [(⟨t.1, t.2.1, t.2.2.1⟩ : S38)]) t.2.2.2.2.toNat) else (none)) else (some (([] : List (S38)), t.2.2.2.1))) := fun k => by
        rw [rget.l0, if_pos h0]
      rcases hn with ⟨rfl, bs', rest, ht', hdr, rfl⟩ | ⟨he, hno, _⟩
      · rw [hg] at hdr
        obtain ⟨rfl, rfl, rfl⟩ := h.inj ht' hdr
        have hdd : b.drop (at_ + bs.length) = l := by rw [← List.drop_drop, hg]; simp
        have h2 := ih (at_ + bs.length) (xs ++ [t]) (by omega) (by simp; omega) (by rw [hdd]; exact hs)
        rw [List.append_assoc] at h2
        refine Ev.step hstep (Ev.bind hev (Ev.congr (fun k => ?_) h2))
        dsimp only
        rw [if_pos rfl, if_pos (by omega), Int.toNat_natCast]
      · exact absurd hg (hno t bs l h)
theorem Tok.byt {t : S38} {bs : List Int} (h : Tok t bs) : Byt bs := by
  cases h with
  | page n h => intro x hx; simp at hx; omega
  | stop => intro x hx; simp at hx; omega
  | empty n h => intro x hx; simp at hx; omega
  | open_ n h => intro x hx; simp at hx; omega
  | text d h ht hb =>
    intro x hx
    simp at hx
    rcases hx with rfl | hx | rfl
    · omega
    · exact hb x hx
    · omega
  | opq d h hb =>
    intro x hx
    simp at hx
    rcases hx with rfl | rfl | hx
    · omega
    · have := h.2; omega
    · exact hb x hx
theorem byt_append {a b : List Int} (ha : Byt a) (hb : Byt b) : Byt (a ++ b) := fun x hx => by
  rcases List.mem_append.1 hx with h | h
  · exact ha x h
  · exact hb x h
theorem Toks.byt {ts : List S38} {l : List Int} (h : Toks ts l) : Byt l := by
  induction h with
  | nil => intro x hx; cases hx
  | cons t bs ts l h _ ih => exact byt_append h.byt ih
theorem byt_head : Byt [3, 1, 106, 0] := fun x hx => by simp at hx; omega
theorem get_head (b : List Int) (hl : b.length ≤ 16384) (l : List Int) (h : b = [3, 1, 106, 0] ++ l) (r : List S38 × Int) (hr : Ev (fun k => rget.l0 k b [] 4) r) : Ev (fun k => token_Get.f k b) r := by
  have h4 : b.take 4 = [3, 1, 106, 0] := by rw [h]; rfl
  have hlen : b.length = 4 + l.length := by rw [h]; simp; omega
  refine Ev.congr (fun k => ?_) hr
  rw [token_Get.f, if_neg (by omega), if_neg (by omega), if_pos]
  rw [h4]
  exact (head_iff byt_head).2 rfl
theorem get_toks {ts : List S38} {l : List Int} (h : Toks ts l) (hl : 4 + l.length ≤ 16384) : Ev (fun k => token_Get.f k ([3, 1, 106, 0] ++ l)) (ts, 0) :=
  get_head _ (by simp; omega) l rfl _ (rget_toks _ (byt_append byt_head h.byt) (by simp; omega) ts 4 [] (by simp) (by simp) h)
/-- A beginning of tokens' bytes: fewer tokens, or too short. -/
theorem rget_cut (b : List Int) (hb : Byt b) (hl : b.length ≤ 16384) : ∀ (ts : List S38) (l : List Int) (m at_ : Nat) (xs : List S38), at_ ≤ b.length → xs.length ≤ at_ → Toks ts l → m < l.length → b.drop at_ = l.take m →
    (∃ j, j < ts.length ∧ Ev (fun k => rget.l0 k b xs at_) (xs ++ ts.take j, 0)) ∨ Ev (fun k => rget.l0 k b xs at_) ([], 4) := by
  intro ts
  induction ts with
  | nil => intro l m at_ xs hat hxs ht hm hd; cases ht; simp at hm
  | cons t ts ih =>
    intro l m at_ xs hat hxs ht hm hd
    cases ht with
    | cons _ bs _ l h hs =>
      have hp := h.pos
      have hlen := congrArg List.length hd
      simp at hlen hm
      by_cases m0 : m = 0
      · refine .inl ⟨0, by simp, Ev.step (fun k => ?_) (Ev.now _)⟩
        rw [rget.l0, if_neg (by omega)]
        simp
      have h0 : at_ < b.length := by omega
      obtain ⟨t', e, nx, hev, hn⟩ := rnext_at b at_ hb hl h0
      have hstep : ∀ k, rget.l0 (k + 1) b xs at_ = (rnext k b at_).bind fun t => (if t.2.2.2.1 = 0 then (if xs.length < 4398046511104 then (rget.l0 k b (xs ++ [(⟨t.1, t.2.1, t.2.2.1⟩ : S38)]) t.2.2.2.2.toNat) else (none)) else (some (([] : List (S38)), t.2.2.2.1))) := fun k => by
        rw [rget.l0, if_pos h0]
      by_cases hmb : m < bs.length
      · have hd' : b.drop at_ = bs.take m := by rw [hd, List.take_append_of_le_length (by omega)]
        rcases hn with ⟨rfl, bs', rest, ht', hdr, rfl⟩ | ⟨he, hno, hcut⟩
        · rw [hd'] at hdr
          have : bs ++ [] = bs' ++ (rest ++ bs.drop m) := by rw [← List.append_assoc, ← hdr]; simp
          obtain ⟨_, h2, _⟩ := h.inj ht' this
          have := congrArg List.length hdr
          simp at this
          have := congrArg List.length h2
          omega
        · have he4 := hcut ⟨t, bs, bs.drop m, h, by rw [hd']; simp⟩
          subst he4
          exact .inr (Ev.step hstep (Ev.bind hev (Ev.congr (fun k => if_neg he) (Ev.now _))))
      · have hd' : b.drop at_ = bs ++ l.take (m - bs.length) := by rw [hd, List.take_append]; rw [List.take_of_length_le (by omega)]
        rcases hn with ⟨rfl, bs', rest, ht', hdr, rfl⟩ | ⟨he, hno, _⟩
        · rw [hd'] at hdr
          obtain ⟨rfl, rfl, rfl⟩ := h.inj ht' hdr
          have hdd : b.drop (at_ + bs.length) = l.take (m - bs.length) := by rw [← List.drop_drop, hd']; simp
          have h2 := ih l (m - bs.length) (at_ + bs.length) (xs ++ [t]) (by omega) (by simp; omega) hs (by omega) hdd
          have go : ∀ r, Ev (fun k => rget.l0 k b (xs ++ [t]) (at_ + bs.length)) r → Ev (fun k => rget.l0 k b xs at_) r := fun r hr => by
            refine Ev.step hstep (Ev.bind hev (Ev.congr (fun k => ?_) hr))
            dsimp only
            rw [if_pos rfl, if_pos (by omega), Int.toNat_natCast]
          rcases h2 with ⟨j, hj, h3⟩ | h3
          · exact .inl ⟨j + 1, by simpa using hj, go _ (by simpa using h3)⟩
          · exact .inr (go _ h3)
        · exact absurd hd' (hno t bs _ h)
theorem get_cut {ts : List S38} {l : List Int} (h : Toks ts l) (hl : 4 + l.length ≤ 16384) (m : Nat) (hm : m < 4 + l.length) :
    (4 ≤ m ∧ ∃ j, j < ts.length ∧ Ev (fun k => token_Get.f k (([3, 1, 106, 0] ++ l).take m)) (ts.take j, 0)) ∨ Ev (fun k => token_Get.f k (([3, 1, 106, 0] ++ l).take m)) ([], 4) := by
  by_cases h4 : m < 4
  · refine .inr (Ev.congr (fun k => ?_) (Ev.now _))
    have : (([3, 1, 106, 0] ++ l).take m).length = m := by simp; omega
    rw [token_Get.f, if_neg (by omega), if_pos (by omega)]
  have e1 : ([3, 1, 106, 0] ++ l).take m = [3, 1, 106, 0] ++ l.take (m - 4) := by
    rw [List.take_append, List.take_of_length_le (by simp; omega)]
    rfl
  rw [e1]
  have hb : Byt ([3, 1, 106, 0] ++ l.take (m - 4)) := byt_append byt_head (byt_take h.byt _)
  have hlen : ([3, 1, 106, 0] ++ l.take (m - 4)).length ≤ 16384 := by simp; omega
  rcases rget_cut _ hb hlen ts l (m - 4) 4 [] (by simp) (by simp) h (by omega) rfl with ⟨j, hj, h2⟩ | h2
  · exact .inl ⟨by omega, j, hj, get_head _ hlen _ rfl _ (by simpa using h2)⟩
  · exact .inr (get_head _ hlen _ rfl _ h2)
end Go.Proofs.Ytjcpnfmbdbeinaa.OPlain
