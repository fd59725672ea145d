/- The four plain laws of texts and runes, of what the printed functions compute. Conditions: those that each statement names. -/
import Derived.Test.YtjcpnfmbdbeinaaUtfText
namespace Go.Proofs.Ytjcpnfmbdbeinaa.Plain
open Go.RowKit Go.Proofs.Ytjcpnfmbdbeinaa.B Go.Proofs.YtjcpnfmbdbeinaaW.PrintWords Go.Proofs.YtjcpnfmbdbeinaaW.PrintLast
set_option linter.unusedVariables false
set_option linter.unusedSimpArgs false

theorem byt_of_wf {l : List Int} (h : ∀ x ∈ l, (Lit.int .u8 x).wf = true) : Byt l := by
  intro x hx
  have := h x hx
  simp [Lit.wf, IntKind.min, IntKind.max, IntKind.signed, IntKind.bits] at this
  omega
theorem int32_of_wf {a : Int} (h : (Lit.int .i32 a).wf = true) : -2147483648 ≤ a ∧ a < 2147483648 := by
  simp [Lit.wf, IntKind.min, IntKind.max, IntKind.signed, IntKind.bits] at h
  omega
theorem int_of_wf {a : Int} (h : (Lit.int .i64 a).wf = true) : -9223372036854775808 ≤ a ∧ a < 9223372036854775808 := by
  simp [Lit.wf, IntKind.min, IntKind.max, IntKind.signed, IntKind.bits] at h
  omega
theorem some_lives : Ev (fun k => (cardexlaw02_lives.f k).bind fun t => some t) true := Ev.bind lives02 (Ev.now _)
theorem Ev.ge {α : Type} {g f : Nat → Option α} {r : α} (n : Nat) (h : ∀ k, n ≤ k → g k = f k) (k : Ev f r) : Ev g r := by
  obtain ⟨K, k⟩ := k
  exact ⟨max K n, fun m hm => (h m (by omega)).trans (k m (by omega))⟩

theorem UtfRunes : cardexlaw02_UtfRunes.Pure := by
  intro a0 l1 ha hl1 hl2 hb1
  have hb := byt_of_wf hb1
  obtain ⟨ha1, ha2⟩ := int32_of_wf ha
  obtain ⟨b, hy, hn, hf⟩ := ref_bytes a0 ha1 ha2
  refine Ev.rounds ?_
  have he : Ev (fun k => cardexref02_Bytes.f k a0) b := ⟨2, hf⟩
  unfold cardexlaw02_UtfRunes.f
  refine Ev.bind he ?_
  by_cases ho : okr a0
  · have e := hy ho
    subst e
    have hlen := enc_len a0
    have c0 : ¬ (((enc a0).length : Int) = 0) := by omega
    simp only [if_neg c0]
    have c1 : (enc a0).length + l1.length < 140737488355328 := by omega
    simp only [if_pos c1]
    have hb2 : Byt (enc a0 ++ l1) := by
      intro x hx
      rcases List.mem_append.1 hx with h | h
      · exact enc_byt ho x h
      · exact hb x h
    obtain ⟨p, hp, hpf⟩ := utf_rune (enc a0 ++ l1) hb2
    have hp2 : p = (a0, ((enc a0).length : Int)) := hp.unique (.inl ⟨a0, ⟨ho, l1, rfl⟩, rfl⟩)
    subst hp2
    refine Ev.bind ⟨9, hpf⟩ ?_
    simp only [if_true]
    exact some_lives
  · have e := hn ho
    subst e
    have c0 : ((([] : List Int).length : Int) = 0) := rfl
    simp only [if_pos c0]
    by_cases c1 : a0 < 1
    · simp only [if_pos c1]; exact some_lives
    · simp only [if_neg c1]
      by_cases c2 : a0 > 1114111
      · simp only [if_pos c2]; exact some_lives
      · simp only [if_neg c2]
        by_cases c3 : a0 ≥ 55296
        · simp only [if_pos c3]
          by_cases c4 : a0 < 57344
          · simp only [if_pos c4]; exact some_lives
          · exact absurd ⟨by omega, by omega, .inr (by omega)⟩ ho
        · exact absurd ⟨by omega, by omega, .inl (by omega)⟩ ho

theorem utf_count (s : ByteArray) (hs : s.size ≤ 4611686018427387904) : ∃ m : Nat, (∀ j, Text (bytesOf s) j → j = m) ∧ m ≤ s.size ∧ Ev (fun k => utf_Count.f k s) (m : Int) := by
  have hlen := bytesOf_length s
  obtain ⟨n, m, hp, he⟩ := utf_prefix_f (bytesOf s) (s.size : Int) (byt_bytesOf s) (by omega)
  refine ⟨m, fun j hj => ((hp.whole hj (by omega)).2).symm, ?_, ?_⟩
  · have h1 := hp.2.1.len
    rw [List.length_take] at h1
    omega
  · unfold utf_Count.f
    have c : s.size ≤ 9223372036854775807 := by omega
    simp only [if_pos c]
    exact Ev.bind he (Ev.now _)
theorem UtfBehind : cardexlaw02_UtfBehind.Pure := by
  intro a b ha hb
  have la := bytesOf_length a
  have lb := bytesOf_length b
  obtain ⟨xa, ia, ea⟩ := utf_is (bytesOf a) (byt_bytesOf a) (by omega)
  obtain ⟨xb, ib, eb⟩ := utf_is (bytesOf b) (byt_bytesOf b) (by omega)
  refine Ev.rounds ?_
  unfold cardexlaw02_UtfBehind.f
  have ca : a.size ≤ 9223372036854775807 := by omega
  have cb : b.size ≤ 9223372036854775807 := by omega
  simp only [if_pos ca, if_pos cb]
  refine Ev.bind ea ?_
  cases xa with
  | false =>
    simp only [Bool.false_eq_true, if_false]
    exact Ev.step (f := fun k => (cardexlaw02_lives.f k).bind fun t => some t) (fun k => by simp only [cardexlaw02_UtfBehind.j0, if_true]) some_lives
  | true =>
    simp only [if_true]
    refine Ev.bind eb ?_
    cases xb with
    | false => exact Ev.step (f := fun k => (cardexlaw02_lives.f k).bind fun t => some t) (fun k => by simp only [cardexlaw02_UtfBehind.j0, Bool.not_false, if_true]) some_lives
    | true =>
      obtain ⟨ma, hma⟩ := ia.1 rfl
      obtain ⟨mb, hmb⟩ := ib.1 rfl
      have hab : Text (bytesOf (a ++ b)) (ma + mb) := by rw [bytesOf_append]; exact hma.append hmb
      have sab : (a ++ b).size = a.size + b.size := by
        have h1 := bytesOf_length (a ++ b)
        rw [bytesOf_append, List.length_append] at h1
        omega
      have lab := bytesOf_length (a ++ b)
      obtain ⟨xc, ic, ec⟩ := utf_is (bytesOf (a ++ b)) (byt_bytesOf _) (by omega)
      have hc : xc = true := ic.2 ⟨_, hab⟩
      subst hc
      obtain ⟨m1, u1, v1, e1⟩ := utf_count (a ++ b) (by omega)
      obtain ⟨m2, u2, v2, e2⟩ := utf_count a (by omega)
      obtain ⟨m3, u3, v3, e3⟩ := utf_count b (by omega)
      have g1 := u1 _ hab
      have g2 := u2 _ hma
      have g3 := u3 _ hmb
      have hw : ((m1 : Int) = wrap64 ((m2 : Int) + (m3 : Int))) := by rw [w64 (by omega) (by omega)]; omega
      refine Ev.step (f := fun k => _) (fun k => by simp only [cardexlaw02_UtfBehind.j0, Bool.not_true, Bool.false_eq_true, if_false]; rfl) ?_
      have c1 : a.size + b.size ≤ 9223372036854775807 := by omega
      have c2 : (a ++ b).size ≤ 9223372036854775807 := by omega
      simp only [if_pos c1, if_pos c2]
      refine Ev.bind ec ?_
      simp only [if_true]
      refine Ev.bind e1 (Ev.bind e2 (Ev.bind e3 ?_))
      simp only [if_pos hw]
      exact some_lives

theorem check_eq (s : ByteArray) (most : Int) (hs : s.size ≤ 4611686018427387904) : ∃ r, Ev (fun k => utf_Check.f k s most) r ∧ Ev (fun k => cardexref02_Check.f k s most) r := by
  have hlen := bytesOf_length s
  unfold utf_Check.f cardexref02_Check.f
  by_cases c : (s.size : Int) > most
  · simp only [if_pos c]; exact ⟨3, Ev.now _, Ev.now _⟩
  · simp only [if_neg c]
    have c2 : s.size ≤ 9223372036854775807 := by omega
    simp only [if_pos c2]
    obtain ⟨x, ix, ex⟩ := utf_is (bytesOf s) (byt_bytesOf s) (by omega)
    obtain ⟨y, iy, ey⟩ := ref_is (bytesOf s) (byt_bytesOf s) (by omega)
    have hxy : x = y := by rw [Bool.eq_iff_iff, ix, iy]
    subst hxy
    cases x
    · exact ⟨12, Ev.bind ex (Ev.now _), Ev.bind ey (Ev.now _)⟩
    · exact ⟨0, Ev.bind ex (Ev.now _), Ev.bind ey (Ev.now _)⟩
theorem count_eq (s : ByteArray) (hs : s.size ≤ 4611686018427387904) : ∃ r, Ev (fun k => utf_Count.f k s) r ∧ Ev (fun k => cardexref02_Count.f k s) r := by
  have hlen := bytesOf_length s
  obtain ⟨n, m, hp, he⟩ := utf_prefix_f (bytesOf s) (s.size : Int) (byt_bytesOf s) (by omega)
  obtain ⟨n', m', hp', he'⟩ := ref_runes_f (bytesOf s) (byt_bytesOf s) (by omega)
  rw [hlen] at hp'
  obtain ⟨_, hm⟩ := hp.unique hp'
  subst hm
  have c2 : s.size ≤ 9223372036854775807 := by omega
  unfold utf_Count.f cardexref02_Count.f
  simp only [if_pos c2]
  exact ⟨_, Ev.bind he (Ev.now _), Ev.bind he' (Ev.now _)⟩
theorem utf_cut (s : ByteArray) (most : Int) (hs : s.size ≤ 4611686018427387904) : ∃ n m : Nat, Pre (bytesOf s) most n m ∧ Ev (fun k => utf_Cut.f k s most) (s.extract 0 n) := by
  have hlen := bytesOf_length s
  obtain ⟨n, m, hp, he⟩ := utf_prefix_f (bytesOf s) most (byt_bytesOf s) (by omega)
  refine ⟨n, m, hp, ?_⟩
  have c2 : s.size ≤ 9223372036854775807 := by omega
  unfold utf_Cut.f
  simp only [if_pos c2]
  refine Ev.bind he ?_
  have h1 := hp.1
  have c3 : (0 : Int) ≤ (n : Int) := by omega
  have c4 : (n : Int) ≤ (s.size : Int) := by omega
  simp only [if_pos c3, if_pos c4, Int.toNat_natCast]
  exact Ev.now _
theorem extract_size (s : ByteArray) (n : Nat) (h : n ≤ s.size) : (s.extract 0 n).size = n := by
  have h1 := bytesOf_length (s.extract 0 n)
  have h2 := bytesOf_length s
  rw [bytesOf_extract, List.length_take] at h1
  omega
theorem ref_cut_l0 (s : ByteArray) (most : Int) (hs : s.size ≤ 4611686018427387904) (n m : Nat) (hp : Pre (bytesOf s) most n m) (d : Nat) : n + d ≤ s.size → Ev (fun k => cardexref02_Cut.l0 k s most ((n + d : Nat) : Int)) (s.extract 0 n) := by
  have hlen := bytesOf_length s
  induction d with
  | zero =>
    intro hd
    by_cases h0 : n = 0
    · subst h0
      have e : s.extract 0 0 = (⟨#[]⟩ : ByteArray) := bytesOf_inj (by rw [bytesOf_extract]; simp [bytesOf])
      rw [e]
      exact Ev.step (f := fun _ => some _) (fun k => by simp only [cardexref02_Cut.l0]; rw [if_neg (by omega)]) (Ev.now _)
    · have hm : (n : Int) ≤ most := by have := hp.2.2.2; omega
      have hsz := extract_size s n (by omega)
      obtain ⟨x, ix, ex⟩ := ref_is (bytesOf (s.extract 0 n)) (byt_bytesOf _) (by rw [bytesOf_length]; omega)
      have hx : x = true := ix.2 ⟨m, by rw [bytesOf_extract]; exact hp.2.1⟩
      subst hx
      refine Ev.step (f := fun k => (cardexref02_Is.f k (bytesOf (s.extract 0 n))).bind fun t => if t = true then some (s.extract 0 n) else cardexref02_Cut.l0 k s most (wrap64 (((n + 0 : Nat) : Int) - 1))) (fun k => ?_) (Ev.bind ex (Ev.now _))
      simp only [cardexref02_Cut.l0, Nat.add_zero, Int.toNat_natCast]
      rw [if_pos (by omega), if_pos hm, if_pos (by omega), if_pos (by omega), if_pos (by omega)]
  | succ d ih =>
    intro hd
    have hw : wrap64 (((n + (d + 1) : Nat) : Int) - 1) = ((n + d : Nat) : Int) := by rw [w64 (by omega) (by omega)]; omega
    have hi := ih (by omega)
    by_cases hm : ((n + (d + 1) : Nat) : Int) ≤ most
    · have hsz := extract_size s (n + (d + 1)) (by omega)
      obtain ⟨x, ix, ex⟩ := ref_is (bytesOf (s.extract 0 (n + (d + 1)))) (byt_bytesOf _) (by rw [bytesOf_length]; omega)
      have hx : x = false := by
        cases x with
        | false => rfl
        | true =>
          exfalso
          obtain ⟨j, hj⟩ := ix.1 rfl
          rw [bytesOf_extract] at hj
          have := hp.more (n' := n + (d + 1)) (by omega) hj (.inr hm)
          omega
      subst hx
      refine Ev.step (f := fun k => (cardexref02_Is.f k (bytesOf (s.extract 0 (n + (d + 1))))).bind fun t => if t = true then some (s.extract 0 (n + (d + 1))) else cardexref02_Cut.l0 k s most ((n + d : Nat) : Int)) (fun k => ?_) (Ev.bind ex hi)
      simp only [cardexref02_Cut.l0, Int.toNat_natCast, hw]
      rw [if_pos (by omega), if_pos hm, if_pos (by omega), if_pos (by omega), if_pos (by omega)]
    · refine Ev.step (f := fun k => cardexref02_Cut.l0 k s most ((n + d : Nat) : Int)) (fun k => ?_) hi
      conv => lhs; simp only [cardexref02_Cut.l0, hw]
      rw [if_pos (by omega), if_neg hm]
theorem cut_eq (s : ByteArray) (most : Int) (hs : s.size ≤ 4611686018427387904) : ∃ r, Ev (fun k => utf_Cut.f k s most) r ∧ Ev (fun k => cardexref02_Cut.f k s most) r := by
  obtain ⟨n, m, hp, he⟩ := utf_cut s most hs
  have hlen := bytesOf_length s
  have h1 := hp.1
  refine ⟨_, he, ?_⟩
  have := ref_cut_l0 s most hs n m hp (s.size - n) (by omega)
  rw [show n + (s.size - n) = s.size by omega] at this
  exact this
theorem UtfTells : cardexlaw02_UtfTells.Pure := by
  intro l most hl1 hl2 hb1 hm
  have hb := byt_of_wf hb1
  refine Ev.rounds ?_
  unfold cardexlaw02_UtfTells.f
  by_cases c : (l.length : Int) > 300
  · simp only [if_pos c]; exact some_lives
  · simp only [if_neg c]
    obtain ⟨p, hp, hpf⟩ := utf_rune l hb
    obtain ⟨q, hq, hqf⟩ := ref_rune l hb
    have hpq := hp.unique hq
    subst hpq
    refine Ev.bind ⟨9, hpf⟩ (Ev.bind ⟨34, hqf⟩ ?_)
    simp only [if_true]
    obtain ⟨x, ix, ex⟩ := utf_is l hb (by omega)
    obtain ⟨y, iy, ey⟩ := ref_is l hb (by omega)
    have hxy : x = y := by rw [Bool.eq_iff_iff, ix, iy]
    subst hxy
    refine Ev.bind ex (Ev.bind ey ?_)
    have hs : (strOfNums l).size ≤ 4611686018427387904 := by rw [size_str]; omega
    have cb : (x == x) = true := by simp
    simp only [if_pos cb]
    obtain ⟨r1, e1, g1⟩ := check_eq (strOfNums l) most hs
    obtain ⟨r2, e2, g2⟩ := count_eq (strOfNums l) hs
    obtain ⟨r3, e3, g3⟩ := cut_eq (strOfNums l) most hs
    refine Ev.bind e1 (Ev.bind g1 ?_)
    simp only [if_true]
    refine Ev.bind e2 (Ev.bind g2 ?_)
    simp only [if_true]
    refine Ev.bind e3 (Ev.bind g3 ?_)
    simp only [if_true]
    exact some_lives
theorem j1_yes (s c : ByteArray) (most : Int) : Ev (fun k => cardexlaw02_UtfCuts.j1 k s most c true) true :=
  Ev.step (f := fun k => (cardexlaw02_lives.f k).bind fun t => some t) (fun k => by simp only [cardexlaw02_UtfCuts.j1, if_true]) some_lives
theorem UtfCuts : cardexlaw02_UtfCuts.Pure := by
  intro s most hs hm
  have hlen := bytesOf_length s
  obtain ⟨hm1, hm2⟩ := int_of_wf hm
  refine Ev.rounds ?_
  obtain ⟨n, m, hp, he⟩ := utf_cut s most (by omega)
  have hn := hp.1
  have hsz := extract_size s n (by omega)
  unfold cardexlaw02_UtfCuts.f
  refine Ev.bind he ?_
  have c1 : ¬ (((s.extract 0 n).size : Int) > (s.size : Int)) := by omega
  have c2 : (0 : Int) ≤ ((s.extract 0 n).size : Int) := by omega
  have c3 : ((s.extract 0 n).size : Int) ≤ (s.size : Int) := by omega
  have c4 : (s.extract 0 ((s.extract 0 n).size : Int).toNat).toList = (s.extract 0 n).toList := by rw [Int.toNat_natCast, hsz]
  have c5 : (s.extract 0 n).size ≤ 9223372036854775807 := by omega
  simp only [if_neg c1, if_pos c2, if_pos c3, if_pos c4, if_pos c5]
  obtain ⟨x, ix, ex⟩ := utf_is (bytesOf (s.extract 0 n)) (byt_bytesOf _) (by rw [bytesOf_length]; omega)
  have hx : x = true := ix.2 ⟨m, by rw [bytesOf_extract]; exact hp.2.1⟩
  subst hx
  refine Ev.bind ex ?_
  simp only [if_true]
  have c6 : decide (((s.extract 0 n).size : Int) > mx most 0) = false := by
    have := hp.2.2.2
    simp only [decide_eq_false_iff_not]
    unfold mx
    split <;> omega
  rw [c6]
  have c7 : s.size ≤ 9223372036854775807 := by omega
  obtain ⟨y, iy, ey⟩ := utf_is (bytesOf s) (byt_bytesOf s) (by omega)
  refine Ev.step (f := fun k => (utf_Is.f k (bytesOf s)).bind fun t => if t = true then cardexlaw02_UtfCuts.j1 k s most (s.extract 0 n) (decide (most < 0)) else cardexlaw02_UtfCuts.j1 k s most (s.extract 0 n) true) (fun k => by simp only [cardexlaw02_UtfCuts.j0, Bool.false_eq_true, if_false, if_pos c7]) ?_
  refine Ev.bind ey ?_
  cases y with
  | false => simp only [Bool.false_eq_true, if_false]; exact j1_yes _ _ _
  | true =>
    simp only [if_true]
    by_cases c8 : most < 0
    · rw [decide_eq_true c8]; exact j1_yes _ _ _
    · rw [decide_eq_false c8]
      obtain ⟨j, hj⟩ := iy.1 rfl
      by_cases c9 : (s.size : Int) ≤ most
      · have e : n = s.size := by rw [← hlen]; exact (hp.whole hj (by omega)).1
        have e2 : s.extract 0 n = s := bytesOf_inj (by rw [bytesOf_extract, e, ← hlen]; simp)
        refine Ev.step (f := fun k => (cardexlaw02_lives.f k).bind fun t => some t) (fun k => ?_) some_lives
        simp only [cardexlaw02_UtfCuts.j1, Bool.false_eq_true, if_false, if_pos c9]
        rw [if_pos (by rw [e2])]
      · refine Ev.step (f := fun k => (cardexlaw02_lives.f k).bind fun t => some t) (fun k => ?_) some_lives
        simp only [cardexlaw02_UtfCuts.j1, Bool.false_eq_true, if_false, if_neg c9]
        have hgt : wrap64 (((s.extract 0 n).size : Int) + 4) > most := by
          rw [hsz, w64 (by omega) (by omega)]
          have hle : (n : Int) ≤ most := by have := hp.2.2.2; omega
          have hj2 : Text ((bytesOf s).take n ++ (bytesOf s).drop n) j := by rw [List.take_append_drop]; exact hj
          obtain ⟨i, hi, _⟩ := hp.2.1.cancel hj2
          obtain ⟨v, hv⟩ := hi.head (by intro e0; have := congrArg List.length e0; rw [List.length_drop] at this; simp at this; omega)
          have h1 := hp.2.2.1 v hv
          have h2 := enc_len v
          omega
        rw [if_pos hgt]
end Go.Proofs.Ytjcpnfmbdbeinaa.Plain
