/- The plain law of TokenPuts: the document's May, one and Put are the program's. Conditions: bytes are bytes, lengths are what a machine reaches. -/
import Derived.Test.YtjcpnfmbdbeinaaPUtfRef
import Derived.Test.YtjcpnfmbdbeinaaPTokLaws
import Derived.Test.YtjcpnfmbdbeinaaPTokPutsWalk
namespace Go.Proofs.Ytjcpnfmbdbeinaa.PPlain
open Go.RowKit Go.Proofs.Ytjcpnfmbdbeinaa.P Go.Proofs.YtjcpnfmbdbeinaaW.PrintWords Go.Proofs.YtjcpnfmbdbeinaaW.PrintLast
set_option linter.unusedVariables false
set_option linter.unusedSimpArgs false

theorem ref_text (d : List Int) (hb : Byt d) (hl : d.length ≤ 4611686018427387904) : ∃ v : Bool, Ev (fun k => cardexref11_text.f k d) v ∧ (v = true ↔ bytesOk d ∧ IsText d) := by
  obtain ⟨u, hu, hev⟩ := ref_is d hb hl
  by_cases c1 : (d.length : Int) ≥ 1
  · by_cases c2 : (d.length : Int) ≤ 64
    · refine ⟨u, Ev.congr (g := fun k => cardexref11_text.f k d) (f := fun k => (cardexref02_Is.f k d).bind fun t => some t) (fun k => by rw [cardexref11_text.f, if_pos c1, if_pos c2]) (Ev.bind hev (Ev.now _)), ?_⟩
      rw [hu]
      exact ⟨fun h => ⟨⟨by omega, by omega⟩, h⟩, fun h => h.2⟩
    · exact ⟨false, Ev.congr (fun k => by rw [cardexref11_text.f, if_pos c1, if_neg c2]) (Ev.now _), fun h => (by cases h), fun h => (by have := h.1.2; omega)⟩
  · exact ⟨false, Ev.congr (fun k => by rw [cardexref11_text.f, if_neg c1]) (Ev.now _), fun h => (by cases h), fun h => (by have := h.1.1; omega)⟩
theorem ref_may (t : S38) (h1 : 0 ≤ t.f1 ∧ t.f1 < 256) (hb : Byt t.f2) (hl : t.f2.length ≤ 4611686018427387904) :
    ∃ v, Ev (fun k => cardexref11_May.f k t.f0 t.f1 t.f2) v ∧ (v = true ↔ ∃ bs, Tok t bs) := by
  obtain ⟨a, n, d⟩ := t
  dsimp only at h1 hb hl ⊢
  have hnil : (d.length : Int) = 0 ↔ d = [] := by rw [← List.length_eq_zero_iff]; omega
  by_cases c1 : a = 1
  · subst c1
    refine ⟨((d.length : Int) == 0), Ev.congr (fun k => by rw [cardexref11_May.f, if_pos rfl]) (Ev.now _), ?_⟩
    rw [beq_iff_eq, hnil]
    refine ⟨fun h => ⟨[0, n], by rw [h]; exact .page n h1⟩, fun ⟨bs, h⟩ => ?_⟩
    cases h; rfl
  by_cases c23 : a = 2 ∨ a = 3
  · have hj : ∀ k, cardexref11_May.f (k + 1) a n d = if (d.length : Int) = 0 then (if n ≥ 5 then some (decide (n ≤ 63)) else some false) else some false := fun k => by
      rcases c23 with rfl | rfl
      · rw [cardexref11_May.f, if_neg (by decide), if_neg (by decide), cardexref11_May.j0, if_pos (by decide)]
      · rw [cardexref11_May.f, if_neg (by decide), if_pos rfl, cardexref11_May.j0, if_pos (by decide)]
    by_cases c : (d.length : Int) = 0
    · have hd := hnil.1 c
      by_cases c5 : n ≥ 5
      · refine ⟨decide (n ≤ 63), Ev.step (fun k => by rw [hj, if_pos c, if_pos c5]) (Ev.now _), ?_⟩
        rw [decide_eq_true_eq]
        constructor
        · intro h
          rw [hd]
          rcases c23 with rfl | rfl
          · exact ⟨_, .open_ n ⟨c5, h⟩⟩
          · exact ⟨_, .empty n ⟨c5, h⟩⟩
        · rintro ⟨bs, h⟩
          cases h <;> first | omega | (rename_i h; exact h.2)
      · refine ⟨false, Ev.step (fun k => by rw [hj, if_pos c, if_neg c5]) (Ev.now _), fun h => (by cases h), fun ⟨bs, h⟩ => ?_⟩
        cases h <;> first | omega | (rename_i h; exact absurd h.1 c5)
    · refine ⟨false, Ev.step (fun k => by rw [hj, if_neg c]) (Ev.now _), fun h => (by cases h), fun ⟨bs, h⟩ => ?_⟩
      cases h <;> first | omega | exact absurd rfl c
  have c2 : a ≠ 2 := fun h => c23 (.inl h)
  have c3 : a ≠ 3 := fun h => c23 (.inr h)
  have hj : ∀ k, cardexref11_May.f (k + 1) a n d = if a = 4 then (if (d.length : Int) = 0 then some (n == 0) else some false) else (if a = 5 then (if n = 0 then ((cardexref11_text.f k d).bind fun t => some t) else some false) else (if a = 6 then (if n = 0 then (if (d.length : Int) ≥ 1 then some (decide ((d.length : Int) ≤ 64)) else some false) else some false) else some false)) := fun k => by
    rw [cardexref11_May.f, if_neg c1, if_neg c3, cardexref11_May.j0, if_neg (by simp [c2])]
  by_cases c4 : a = 4
  · subst c4
    by_cases c : (d.length : Int) = 0
    · have hd := hnil.1 c
      refine ⟨(n == 0), Ev.step (fun k => by rw [hj, if_pos rfl, if_pos c]) (Ev.now _), ?_⟩
      rw [beq_iff_eq, hd]
      refine ⟨fun h => ⟨_, by rw [h]; exact .stop⟩, fun ⟨bs, h⟩ => ?_⟩
      cases h; rfl
    · refine ⟨false, Ev.step (fun k => by rw [hj, if_pos rfl, if_neg c]) (Ev.now _), fun h => (by cases h), fun ⟨bs, h⟩ => ?_⟩
      cases h
      exact absurd rfl c
  by_cases c5 : a = 5
  · subst c5
    by_cases c : n = 0
    · subst c
      obtain ⟨v, hv, hi⟩ := ref_text d hb hl
      refine ⟨v, Ev.step (g := fun k => cardexref11_May.f k 5 0 d) (f := fun k => (cardexref11_text.f k d).bind fun t => some t) (fun k => by rw [hj, if_neg (by decide), if_pos rfl, if_pos rfl]) (Ev.bind hv (Ev.now _)), ?_⟩
      rw [hi]
      refine ⟨fun h => ⟨_, .text d h.1 h.2 hb⟩, fun ⟨bs, h⟩ => ?_⟩
      cases h with
      | text _ ho ht _ => exact ⟨ho, ht⟩
    · refine ⟨false, Ev.step (fun k => by rw [hj, if_neg (by decide), if_pos rfl, if_neg c]) (Ev.now _), fun h => (by cases h), fun ⟨bs, h⟩ => ?_⟩
      cases h
      exact absurd rfl c
  by_cases c6 : a = 6
  · subst c6
    by_cases c : n = 0
    · subst c
      by_cases c7 : (d.length : Int) ≥ 1
      · refine ⟨decide ((d.length : Int) ≤ 64), Ev.step (fun k => by rw [hj, if_neg (by decide), if_neg (by decide), if_pos rfl, if_pos rfl, if_pos c7]) (Ev.now _), ?_⟩
        rw [decide_eq_true_eq]
        refine ⟨fun h => ⟨_, .opq d ⟨by omega, by omega⟩ hb⟩, fun ⟨bs, h⟩ => ?_⟩
        cases h with
        | opq _ ho _ => have := ho.2; omega
      · refine ⟨false, Ev.step (fun k => by rw [hj, if_neg (by decide), if_neg (by decide), if_pos rfl, if_pos rfl, if_neg c7]) (Ev.now _), fun h => (by cases h), fun ⟨bs, h⟩ => ?_⟩
        cases h with
        | opq _ ho _ => have := ho.1; omega
    · refine ⟨false, Ev.step (fun k => by rw [hj, if_neg (by decide), if_neg (by decide), if_pos rfl, if_neg c]) (Ev.now _), fun h => (by cases h), fun ⟨bs, h⟩ => ?_⟩
      cases h
      exact absurd rfl c
  refine ⟨false, Ev.step (fun k => by rw [hj, if_neg c4, if_neg c5, if_neg c6]) (Ev.now _), fun h => (by cases h), fun ⟨bs, h⟩ => ?_⟩
  cases h <;> omega
theorem one_tok {t : S38} {bs : List Int} (h : Tok t bs) : cardexref11_one.f t.f0 t.f1 t.f2 = some bs := by
  cases h with
  | page n h => rw [cardexref11_one.f, if_pos rfl]
  | stop => rw [cardexref11_one.f, if_neg (by decide), if_neg (by decide), if_neg (by decide), if_pos rfl]
  | empty n h =>
    simp only [cardexref11_one.f]
    rw [if_neg (by decide), if_pos trivial]
  | open_ n h =>
    simp only [cardexref11_one.f]
    rw [if_neg (by decide), if_neg (by decide), if_pos trivial]
    congr 2
    omega
  | text d h ht hb =>
    have h2 := h.2
    simp only [cardexref11_one.f, Option.bind_some]
    rw [if_neg (by decide), if_neg (by decide), if_neg (by decide), if_neg (by decide), if_pos trivial, if_pos (by simp; omega), if_pos (by simp; omega)]
    simp
  | opq d h hb =>
    have h2 := h.2
    simp only [cardexref11_one.f, Option.bind_some]
    rw [if_neg (by decide), if_neg (by decide), if_neg (by decide), if_neg (by decide), if_neg (by decide), if_pos (by simp; omega)]
    congr 1
    simp
    omega
theorem ref_l1 (ts : List S38) (hl : ts.length ≤ 4611686018427387904) : ∀ (d i : Nat) (x l : List Int), i + d = ts.length → Toks (ts.drop i) l → x.length ≤ 16384 → ∀ (r : List Int) (e : Int),
    ((e = 0 ∧ r = x ++ l ∧ r.length ≤ 16384) ∨ (e = 3 ∧ r = [] ∧ 16384 < x.length + l.length)) → Ev (fun k => cardexref11_Put.l1 k ts x i) (r, e) := by
  intro d
  induction d with
  | zero =>
    intro i x l hi ht hx r e hc
    rw [List.drop_eq_nil_of_le (by omega)] at ht
    cases ht
    rcases hc with ⟨rfl, rfl, _⟩ | ⟨rfl, rfl, h⟩
    · refine Ev.step (fun k => ?_) (Ev.now _)
      rw [cardexref11_Put.l1, if_neg (by omega)]
      simp
    · simp at h
      omega
  | succ d ih =>
    intro i x l hi ht hx r e hc
    have hlt : i < ts.length := by omega
    rw [List.drop_eq_getElem_cons hlt] at ht
    cases ht with
    | cons t bs ts' l' h hs =>
      have hg : rd_T38 ts i = ts[i] := by rw [rd38, List.getD_eq_getElem?_getD, List.getElem?_eq_getElem hlt]; rfl
      have hbl := h.le66
      have ho := one_tok h
      rw [← hg] at ho
      have hstep : ∀ k, cardexref11_Put.l1 (k + 1) ts x i = if ((x ++ bs).length : Int) > 16384 then some (([] : List Int), 3) else cardexref11_Put.l1 k ts (x ++ bs) ((i + 1 : Nat) : Int) := fun k => by
        rw [cardexref11_Put.l1, if_pos (by omega), if_pos (by omega), ho, Option.bind_some, if_pos (by omega), Option.bind_some, w64 (n := (i : Int) + 1) (by omega) (by omega)]
        rfl
      by_cases hb : (x ++ bs).length ≤ 16384
      · refine Ev.step (fun k => (hstep k).trans (if_neg (by omega))) (ih (i + 1) (x ++ bs) l' (by omega) hs hb r e ?_)
        rcases hc with ⟨h1, h2, h3⟩ | ⟨h1, h2, h3⟩
        · exact .inl ⟨h1, by rw [h2]; simp, h3⟩
        · exact .inr ⟨h1, h2, by simp at h3 ⊢; omega⟩
      · rcases hc with ⟨h1, h2, h3⟩ | ⟨rfl, rfl, h3⟩
        · exfalso
          rw [h2] at h3
          simp at h3 hb
          omega
        · exact Ev.step (fun k => (hstep k).trans (if_pos (by omega))) (Ev.now _)
theorem ref_l0 (ts : List S38) (hl : ts.length ≤ 4611686018427387904) (hg : ∀ i, i < ts.length → Good (ts.getD i z38)) (r : List Int) (e : Int) : ∀ (d i : Nat), i + d = ts.length →
    ((∃ j, i ≤ j ∧ j < ts.length ∧ ¬ ∃ bs, Tok (ts.getD j z38) bs) → r = [] ∧ e = 2) → ((∀ j, i ≤ j → j < ts.length → ∃ bs, Tok (ts.getD j z38) bs) → Ev (fun k => cardexref11_Put.l1 k ts [3, 1, 106, 0] 0) (r, e)) → Ev (fun k => cardexref11_Put.l0 k ts i) (r, e) := by
  intro d
  induction d with
  | zero =>
    intro i hi h1 h2
    refine Ev.step (fun k => ?_) (h2 (fun j h3 h4 => by omega))
    rw [cardexref11_Put.l0, if_neg (by omega)]
  | succ d ih =>
    intro i hi h1 h2
    obtain ⟨g1, g2, g3⟩ := hg i (by omega)
    obtain ⟨v, hv, hvi⟩ := ref_may _ g1 g2 g3
    rw [← rd38] at hv
    refine Ev.step (g := fun k => cardexref11_Put.l0 k ts i) (f := fun k => (cardexref11_May.f k (rd_T38 ts i).f0 (rd_T38 ts i).f1 (rd_T38 ts i).f2).bind fun t => if t = true then cardexref11_Put.l0 k ts ((i + 1 : Nat) : Int) else some (([] : List Int), 2)) (fun k => ?_) (Ev.bind hv ?_)
    · rw [cardexref11_Put.l0, if_pos (by omega), if_pos (by omega), w64 (n := (i : Int) + 1) (by omega) (by omega)]
      rfl
    · rcases v with _ | _
      · obtain ⟨rfl, rfl⟩ := h1 ⟨i, Nat.le_refl _, by omega, fun h => by have := hvi.2 h; cases this⟩
        exact Ev.congr (fun k => if_neg (by decide)) (Ev.now _)
      · refine Ev.congr (fun k => if_pos rfl) (ih (i + 1) (by omega) (fun ⟨j, h3, h4, h5⟩ => h1 ⟨j, by omega, h4, h5⟩) (fun h3 => h2 (fun j h4 h5 => ?_)))
        by_cases h6 : j = i
        · subst h6
          exact hvi.1 rfl
        · exact h3 j (by omega) h5
theorem Toks.get' {ts : List S38} (h : ∃ l, Toks ts l) : ∀ j, j < ts.length → ∃ bs, Tok (ts.getD j z38) bs := by
  obtain ⟨l, h⟩ := h
  exact h.get
/-- Put of any tokens is the document's. -/
theorem put_ref (ts : List S38) (hl : ts.length ≤ 4611686018427387904) (hg : ∀ i, i < ts.length → Good (ts.getD i z38)) :
    ∃ (r : List Int) (e : Int), Ev (fun k => token_Put.f k ts) (r, e) ∧ Ev (fun k => cardexref11_Put.f k ts) (r, e) := by
  obtain ⟨r, e, hev, hc⟩ := put_of ts hl hg
  refine ⟨r, e, hev, ?_⟩
  unfold cardexref11_Put.f
  refine ref_l0 ts hl hg r e ts.length 0 (by omega) (fun ⟨j, _, h4, h5⟩ => ?_) (fun h => ?_)
  · rcases hc with ⟨_, l, _, _, ht⟩ | ⟨_, h1, h2, _⟩ | ⟨_, _, _, l, ht, _⟩
    · exact absurd (ht.get j h4) h5
    · exact ⟨h2, h1⟩
    · exact absurd (ht.get j h4) h5
  · rcases hc with ⟨rfl, l, rfl, hlen, ht⟩ | ⟨_, _, _, hno⟩ | ⟨_, rfl, rfl, l, ht, hlt⟩
    · exact ref_l1 ts hl ts.length 0 [3, 1, 106, 0] l (by omega) ht (by simp) _ _ (.inl ⟨rfl, rfl, hlen⟩)
    · exact absurd (Toks.mk_ ts (fun i hi => h i (by omega) hi)) hno
    · exact ref_l1 ts hl ts.length 0 [3, 1, 106, 0] l (by omega) ht (by simp) _ _ (.inr ⟨rfl, rfl, by simpa using hlt⟩)
theorem copied_l0 (l : List S38) (hl : l.length ≤ 4398046511000) (hd : ∀ t ∈ l, t.f2.length ≤ 140737488351232) : ∀ (m i : Nat), i + m = l.length → Ev (fun k => cardexlaw11_copied.l0 k l (l.take i) (i : Int)) l := by
  intro m
  induction m with
  | zero =>
    intro i hi
    rw [List.take_of_length_le (by omega)]
    refine Ev.step (fun k => ?_) (Ev.now _)
    rw [cardexlaw11_copied.l0, if_neg (by omega)]
  | succ m ih =>
    intro i hi
    have hil : i < l.length := by omega
    have hr : rd_T38 l (i : Int) = l[i] := by rw [rd38, List.getD_eq_getElem?_getD, List.getElem?_eq_getElem hil]; rfl
    have hd1 := hd _ (List.getElem_mem hil)
    refine Ev.step (fun k => ?_) (ih (i + 1) (by omega))
    rw [cardexlaw11_copied.l0, if_pos (by omega), if_pos (by omega), hr, cardexref00_Copy.f, if_pos (by simp; omega), Option.bind_some, if_pos (by rw [List.length_take]; omega), List.nil_append, w64 (n := (i : Int) + 1) (by omega) (by omega), List.take_succ_eq_append_getElem hil]
    rfl
theorem puts (l : List S38) (t : S38) (hl : l.length ≤ 4398046511000) (hw : ∀ t ∈ l, PArg.Wf t) (ht : Good t) :
    ∃ (k : Nat) (b : List Int) (e : Int) (m : Bool), cardexlaw11_copied.f k l = some l ∧ token_Put.f k l = some (b, e) ∧ cardexref11_Put.f k l = some (b, e) ∧ token_May.f k t.f0 t.f1 t.f2 = some m ∧ cardexref11_May.f k t.f0 t.f1 t.f2 = some m ∧ cardexref11_Same.f k l l = some true := by
  have E0 : Ev (fun k => cardexlaw11_copied.f k l) l := by
    unfold cardexlaw11_copied.f
    exact copied_l0 l hl (fun t ht => (hw t ht).2.2.1) l.length 0 (by omega)
  obtain ⟨b, e, E1, E2⟩ := put_ref l (by omega) (good_of hw)
  obtain ⟨m, E3, h3⟩ := may_of t ht.1 ht.2.1 ht.2.2
  obtain ⟨m', E4, h4⟩ := ref_may t ht.1 ht.2.1 ht.2.2
  have hm : m' = m := by
    have := h3.trans h4.symm
    cases m <;> cases m' <;> simp_all
  subst hm
  have E5 := same_self l (by omega)
  obtain ⟨K0, E0⟩ := E0
  obtain ⟨K1, E1⟩ := E1
  obtain ⟨K2, E2⟩ := E2
  obtain ⟨K3, E3⟩ := E3
  obtain ⟨K4, E4⟩ := E4
  obtain ⟨K5, E5⟩ := E5
  exact ⟨K0 + K1 + K2 + K3 + K4 + K5, b, e, _, E0 _ (by omega), E1 _ (by omega), E2 _ (by omega), E3 _ (by omega), E4 _ (by omega), E5 _ (by omega)⟩
end Go.Proofs.Ytjcpnfmbdbeinaa.PPlain
