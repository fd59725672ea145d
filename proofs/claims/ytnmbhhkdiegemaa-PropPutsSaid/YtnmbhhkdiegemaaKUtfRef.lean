/- The document's rune and text: what they compute. Conditions: bytes are bytes, lengths are Go's. -/
import Derived.Test.YtnmbhhkdiegemaaKUtfText
namespace Go.Proofs.Ytnmbhhkdiegemaa.KPlain
open Go.RowKit Go.Proofs.Ytnmbhhkdiegemaa.K Go.Proofs.YtnmbhhkdiegemaaW.PrintWords Go.Proofs.YtnmbhhkdiegemaaW.PrintLast
set_option linter.unusedVariables false
set_option linter.unusedSimpArgs false
/-! ### the reference's rune -/
theorem ref_bytes (v : Int) (h0 : -2147483648 ≤ v) (h1 : v < 2147483648) : ∃ b : List Int, (okr v → b = enc v) ∧ (¬ okr v → b = []) ∧ ∀ k, 2 ≤ k → cardexref02_Bytes.f k v = some b := by
  by_cases hv : okr v
  · refine ⟨enc v, fun _ => rfl, fun h => absurd hv h, fun k hk => ?_⟩
    obtain ⟨a1, a2, a3⟩ := hv
    obtain ⟨k, rfl⟩ : ∃ j, k = j + 1 := ⟨k - 1, by omega⟩
    have hf : cardexref02_Bytes.f (k + 1) v = cardexref02_Bytes.j0 (k + 1) v false := by
      unfold cardexref02_Bytes.f
      rw [if_neg (by omega), if_neg (by omega)]
      by_cases h : v ≥ 55296
      · rw [if_pos h]
        have : decide (v ≤ 57343) = false := by simp only [decide_eq_false_iff_not]; omega
        rw [this]
      · rw [if_neg h]
    rw [hf]
    simp only [cardexref02_Bytes.j0]
    rw [if_neg (by decide)]
    have t1 : Int.tdiv v 64 = v / 64 := Int.tdiv_eq_ediv_of_nonneg (by omega)
    have t2 : Int.tdiv v 4096 = v / 4096 := Int.tdiv_eq_ediv_of_nonneg (by omega)
    have t3 : Int.tdiv v 262144 = v / 262144 := Int.tdiv_eq_ediv_of_nonneg (by omega)
    have m1 : Int.tmod v 64 = v % 64 := Int.tmod_eq_emod_of_nonneg (by omega)
    rw [t1, t2, t3, m1]
    rw [w32 (n := v / 64) (by omega) (by omega), w32 (n := v / 4096) (by omega) (by omega), w32 (n := v / 262144) (by omega) (by omega)]
    have m2 : Int.tmod (v / 64) 64 = v / 64 % 64 := Int.tmod_eq_emod_of_nonneg (by omega)
    have m3 : Int.tmod (v / 4096) 64 = v / 4096 % 64 := Int.tmod_eq_emod_of_nonneg (by omega)
    rw [m2, m3]
    rcases enc_cases v with ⟨c, h⟩ | ⟨c, c', h⟩ | ⟨c, c', h⟩ | ⟨c, h⟩
    · rw [if_pos c, h, Int.emod_eq_of_lt (by omega) (by omega)]
    · rw [if_neg (by omega), if_pos c', h]
      rw [w32 (by omega) (by omega), w32 (by omega) (by omega), Int.emod_eq_of_lt (by omega) (by omega), Int.emod_eq_of_lt (a := 128 + v % 64) (by omega) (by omega)]
    · rw [if_neg (by omega), if_neg (by omega), if_pos c', h]
      rw [w32 (by omega) (by omega), w32 (n := 128 + v / 64 % 64) (by omega) (by omega), w32 (n := 128 + v % 64) (by omega) (by omega), Int.emod_eq_of_lt (by omega) (by omega), Int.emod_eq_of_lt (a := 128 + v / 64 % 64) (by omega) (by omega), Int.emod_eq_of_lt (a := 128 + v % 64) (by omega) (by omega)]
    · rw [if_neg (by omega), if_neg (by omega), if_neg (by omega), h]
      rw [w32 (by omega) (by omega), w32 (n := 128 + v / 4096 % 64) (by omega) (by omega), w32 (n := 128 + v / 64 % 64) (by omega) (by omega), w32 (n := 128 + v % 64) (by omega) (by omega), Int.emod_eq_of_lt (by omega) (by omega), Int.emod_eq_of_lt (a := 128 + v / 4096 % 64) (by omega) (by omega), Int.emod_eq_of_lt (a := 128 + v / 64 % 64) (by omega) (by omega), Int.emod_eq_of_lt (a := 128 + v % 64) (by omega) (by omega)]
  · refine ⟨[], fun h => absurd h hv, fun _ => rfl, fun k hk => ?_⟩
    obtain ⟨k, rfl⟩ : ∃ j, k = j + 1 := ⟨k - 1, by omega⟩
    unfold cardexref02_Bytes.f
    by_cases c1 : v < 1
    · rw [if_pos c1]; simp only [cardexref02_Bytes.j0]; rfl
    · rw [if_neg c1]
      by_cases c2 : v > 1114111
      · rw [if_pos c2]; simp only [cardexref02_Bytes.j0]; rfl
      · rw [if_neg c2]
        by_cases c3 : v ≥ 55296
        · rw [if_pos c3]
          have c4 : v ≤ 57343 := by
            apply Classical.byContradiction
            intro h
            exact hv ⟨by omega, by omega, .inr (by omega)⟩
          rw [decide_eq_true c4]; simp only [cardexref02_Bytes.j0]; rfl
        · exact absurd ⟨by omega, by omega, .inl (by omega)⟩ hv

theorem ref_l1_step (k : Nat) (l : List Int) (s r : Int) (i : Nat) (c : Int) (hi : (i : Int) < s) (hl : i < l.length) (hc : l.getD i 0 = c) (hb : 0 ≤ c ∧ c < 256) (hr : -16777216 ≤ r ∧ r ≤ 16777216) (hi2 : i < 10) :
    cardexref02_Rune.l1 (k + 1) l s r (i : Int) = cardexref02_Rune.l1 k l s (64 * r + (c - 128)) ((i + 1 : Nat) : Int) := by
  have hrd : rd l (i : Int) = c := by unfold rd; simpa using hc
  conv => lhs; simp only [cardexref02_Rune.l1]
  rw [if_pos hi, if_pos (by omega), if_pos (by omega), hrd]
  have e1 : wrap64 c = c := w64 (by omega) (by omega)
  have e2 : wrap64 (c - 128) = c - 128 := w64 (by omega) (by omega)
  have e3 : wrap32 (c - 128) = c - 128 := by unfold wrap32; omega
  have e4 : wrap32 (64 * r) = 64 * r := by unfold wrap32; omega
  have e5 : wrap32 (64 * r + (c - 128)) = 64 * r + (c - 128) := by unfold wrap32; omega
  have e6 : wrap64 ((i : Int) + 1) = ((i + 1 : Nat) : Int) := by rw [w64 (by omega) (by omega)]; omega
  rw [e1, e2, e3, e4, e5, e6]
theorem ref_l1_end (k : Nat) (l : List Int) (hbl : Byt l) (s : Nat) (r : Int) (hs : 1 ≤ s ∧ s ≤ 4) (hl : s ≤ l.length) (hr : -2147483648 ≤ r ∧ r < 2147483648) (hk : 2 ≤ k) :
    cardexref02_Rune.l1 (k + 1) l (s : Int) r (s : Int) = if okr r ∧ enc r = l.take s then some (r, (s : Int)) else cardexref02_Rune.l0 k l ((s + 1 : Nat) : Int) := by
  obtain ⟨b, hb1, hb2, hb3⟩ := ref_bytes r hr.1 hr.2
  conv => lhs; simp only [cardexref02_Rune.l1]
  rw [if_neg (by omega), hb3 k hk]
  simp only [Option.bind_some]
  rw [if_pos (by omega), if_pos (by omega), Int.toNat_natCast]
  have e6 : wrap64 ((s : Int) + 1) = ((s + 1 : Nat) : Int) := by rw [w64 (by omega) (by omega)]; omega
  rw [e6]
  by_cases ho : okr r
  · rw [hb1 ho]
    by_cases he : enc r = l.take s
    · rw [if_pos ((byt_str (enc_byt ho) (byt_take hbl s)).2 he), if_pos ⟨ho, he⟩]
    · rw [if_neg (fun h => he ((byt_str (enc_byt ho) (byt_take hbl s)).1 h)), if_neg (fun h => he h.2)]
  · have hne : ¬ ((strOfNums ([] : List Int)).toList = (strOfNums (l.take s)).toList) := by
      intro h
      have := (byt_str (fun x hx => by cases hx) (byt_take hbl s)).1 h
      have h2 := congrArg List.length this
      rw [List.length_take] at h2
      simp at h2
      omega
    rw [hb2 ho, if_neg hne, if_neg (fun h : okr r ∧ enc r = l.take s => ho h.1)]
def tab (s : Nat) : Int := if s = 2 then 192 else if s = 3 then 224 else if s = 4 then 240 else 0
theorem ref_l0_begin (k : Nat) (l : List Int) (s : Nat) (hs : 1 ≤ s ∧ s ≤ 4) (hl : s ≤ l.length) (a : Int) (ha : l.getD 0 0 = a) (hb : 0 ≤ a ∧ a < 256) : cardexref02_Rune.l0 (k + 2) l (s : Int) = cardexref02_Rune.l1 k l (s : Int) (a - tab s) ((1 : Nat) : Int) := by
  simp only [cardexref02_Rune.l0]
  rw [if_pos (by omega), decide_eq_true (by omega : (s : Int) ≤ (l.length : Int))]
  simp only [cardexref02_Rune.j1]
  rw [if_pos trivial]
  simp only [Option.bind_some]
  have hrd : rd l 0 = a := by unfold rd; simpa using ha
  have ht : rd [0, 0, 192, 224, 240] (s : Int) = tab s := by
    have : s = 1 ∨ s = 2 ∨ s = 3 ∨ s = 4 := by omega
    rcases this with rfl | rfl | rfl | rfl <;> rfl
  have htb : 0 ≤ tab s ∧ tab s ≤ 240 := by unfold tab; repeat' split <;> omega
  rw [if_pos (by omega), if_pos (by simp; omega), if_pos (by omega), hrd, ht]
  have e1 : wrap64 a = a := w64 (by omega) (by omega)
  have e2 : wrap64 (a - tab s) = a - tab s := w64 (by omega) (by omega)
  have e3 : wrap32 (a - tab s) = a - tab s := by unfold wrap32; omega
  rw [e1, e2, e3]; rfl
theorem ref_l0_stop (k : Nat) (l : List Int) (s : Nat) (hs : 4 < s ∨ l.length < s) : cardexref02_Rune.l0 (k + 2) l (s : Int) = some (0, 0) := by
  simp only [cardexref02_Rune.l0]
  by_cases h : (s : Int) ≤ 4
  · rw [if_pos h, decide_eq_false (by omega : ¬ (s : Int) ≤ (l.length : Int))]; simp only [cardexref02_Rune.j1]; rfl
  · rw [if_neg h]; simp only [cardexref02_Rune.j1]; rfl
/-- The number of the first s bytes. -/
def num (l : List Int) : Nat → Int
  | 0 => 0
  | 1 => l.getD 0 0
  | 2 => 64 * (l.getD 0 0 - 192) + (l.getD 1 0 - 128)
  | 3 => 64 * (64 * (l.getD 0 0 - 224) + (l.getD 1 0 - 128)) + (l.getD 2 0 - 128)
  | _ => 64 * (64 * (64 * (l.getD 0 0 - 240) + (l.getD 1 0 - 128)) + (l.getD 2 0 - 128)) + (l.getD 3 0 - 128)
theorem byt_at {l : List Int} (h : Byt l) (i : Nat) (hi : i < l.length) : 0 ≤ l.getD i 0 ∧ l.getD i 0 < 256 := by
  rw [List.getD_eq_getElem?_getD, List.getElem?_eq_getElem hi]
  exact h _ (List.getElem_mem hi)
theorem ref_at (k : Nat) (hk : 8 ≤ k) (l : List Int) (hb : Byt l) (s : Nat) (hs : 1 ≤ s ∧ s ≤ 4) (hl : s ≤ l.length) :
    ∃ j, k ≤ j + 8 ∧ cardexref02_Rune.l0 k l (s : Int) = if okr (num l s) ∧ enc (num l s) = l.take s then some (num l s, (s : Int)) else cardexref02_Rune.l0 j l ((s + 1 : Nat) : Int) := by
  have b0 := byt_at hb 0 (by omega)
  have : s = 1 ∨ s = 2 ∨ s = 3 ∨ s = 4 := by omega
  rcases this with rfl | rfl | rfl | rfl
  · obtain ⟨k, rfl⟩ : ∃ j, k = j + 3 := ⟨k - 3, by omega⟩
    refine ⟨k, by omega, ?_⟩
    have h1 := ref_l0_begin (k + 1) l 1 (by omega) hl _ rfl b0
    have h2 := ref_l1_end k l hb 1 (l.getD 0 0 - tab 1) (by omega) hl (by simp only [tab]; omega) (by omega)
    have e : l.getD 0 0 - tab 1 = num l 1 := by simp [tab, num]
    rw [e] at h1 h2
    exact h1.trans h2
  · have b1 := byt_at hb 1 (by omega)
    obtain ⟨k, rfl⟩ : ∃ j, k = j + 4 := ⟨k - 4, by omega⟩
    refine ⟨k, by omega, ?_⟩
    have h1 := ref_l0_begin (k + 2) l 2 (by omega) hl _ rfl b0
    have h2 := ref_l1_step (k + 1) l 2 (l.getD 0 0 - tab 2) 1 _ (by omega) (by omega) rfl b1 (by simp only [tab]; omega) (by omega)
    have h3 := ref_l1_end k l hb 2 (64 * (l.getD 0 0 - tab 2) + (l.getD 1 0 - 128)) (by omega) hl (by simp only [tab]; omega) (by omega)
    exact h1.trans (h2.trans h3)
  · have b1 := byt_at hb 1 (by omega)
    have b2 := byt_at hb 2 (by omega)
    obtain ⟨k, rfl⟩ : ∃ j, k = j + 5 := ⟨k - 5, by omega⟩
    refine ⟨k, by omega, ?_⟩
    have h1 := ref_l0_begin (k + 3) l 3 (by omega) hl _ rfl b0
    have h2 := ref_l1_step (k + 2) l 3 (l.getD 0 0 - tab 3) 1 _ (by omega) (by omega) rfl b1 (by simp only [tab]; omega) (by omega)
    have h3 := ref_l1_step (k + 1) l 3 (64 * (l.getD 0 0 - tab 3) + (l.getD 1 0 - 128)) 2 _ (by omega) (by omega) rfl b2 (by simp only [tab]; omega) (by omega)
    have h4 := ref_l1_end k l hb 3 (64 * (64 * (l.getD 0 0 - tab 3) + (l.getD 1 0 - 128)) + (l.getD 2 0 - 128)) (by omega) hl (by simp only [tab]; omega) (by omega)
    exact h1.trans (h2.trans (h3.trans h4))
  · have b1 := byt_at hb 1 (by omega)
    have b2 := byt_at hb 2 (by omega)
    have b3 := byt_at hb 3 (by omega)
    obtain ⟨k, rfl⟩ : ∃ j, k = j + 6 := ⟨k - 6, by omega⟩
    refine ⟨k, by omega, ?_⟩
    have h1 := ref_l0_begin (k + 4) l 4 (by omega) hl _ rfl b0
    have h2 := ref_l1_step (k + 3) l 4 (l.getD 0 0 - tab 4) 1 _ (by omega) (by omega) rfl b1 (by simp only [tab]; omega) (by omega)
    have h3 := ref_l1_step (k + 2) l 4 (64 * (l.getD 0 0 - tab 4) + (l.getD 1 0 - 128)) 2 _ (by omega) (by omega) rfl b2 (by simp only [tab]; omega) (by omega)
    have h4 := ref_l1_step (k + 1) l 4 (64 * (64 * (l.getD 0 0 - tab 4) + (l.getD 1 0 - 128)) + (l.getD 2 0 - 128)) 3 _ (by omega) (by omega) rfl b3 (by simp only [tab]; omega) (by omega)
    have h5 := ref_l1_end k l hb 4 (64 * (64 * (64 * (l.getD 0 0 - tab 4) + (l.getD 1 0 - 128)) + (l.getD 2 0 - 128)) + (l.getD 3 0 - 128)) (by omega) hl (by simp only [tab]; omega) (by omega)
    exact h1.trans (h2.trans (h3.trans (h4.trans h5)))
theorem num_enc (v : Int) (t : List Int) : num (enc v ++ t) (enc v).length = v := by
  rcases enc_cases v with ⟨c, h⟩ | ⟨c, c', h⟩ | ⟨c, c', h⟩ | ⟨c, h⟩ <;> rw [h] <;> simp [num] <;> omega
theorem ref_from (l : List Int) (hb : Byt l) (d : Nat) : ∀ (k s : Nat), 1 ≤ s → s + d = 5 → 8 * d + 2 ≤ k → (∀ v, Begins v l → s ≤ (enc v).length) → ∃ p, RuneIs l p ∧ cardexref02_Rune.l0 k l (s : Int) = some p := by
  induction d with
  | zero =>
    intro k s h1 h2 hk hno
    obtain ⟨k, rfl⟩ : ∃ j, k = j + 2 := ⟨k - 2, by omega⟩
    exact ⟨(0, 0), .inr ⟨fun v hv => by have := hno v hv; have := enc_len v; omega, rfl⟩, ref_l0_stop k l s (.inl (by omega))⟩
  | succ d ih =>
    intro k s h1 h2 hk hno
    by_cases hl : s ≤ l.length
    · obtain ⟨j, hj, e⟩ := ref_at k (by omega) l hb s ⟨h1, by omega⟩ hl
      rw [e]
      by_cases hy : okr (num l s) ∧ enc (num l s) = l.take s
      · rw [if_pos hy]
        have hbeg : Begins (num l s) l := ⟨hy.1, l.drop s, by rw [hy.2, List.take_append_drop]⟩
        refine ⟨_, .inl ⟨num l s, hbeg, ?_⟩, rfl⟩
        rw [hy.2, List.length_take, Nat.min_eq_left hl]
      · rw [if_neg hy]
        refine ih j (s + 1) (by omega) (by omega) (by omega) fun v hv => ?_
        have h3 := hno v hv
        rcases Nat.lt_or_ge s (enc v).length with h4 | h4
        · omega
        · exfalso
          obtain ⟨hv1, t, ht⟩ := hv
          have h5 : (enc v).length = s := by omega
          have h6 : num l s = v := by rw [ht, ← h5]; exact num_enc v t
          exact hy ⟨by rw [h6]; exact hv1, by rw [h6, ht, ← h5]; simp⟩
    · obtain ⟨k, rfl⟩ : ∃ j, k = j + 2 := ⟨k - 2, by omega⟩
      exact ⟨(0, 0), .inr ⟨fun v hv => by have := hno v hv; have := hv.le; omega, rfl⟩, ref_l0_stop k l s (.inr (by omega))⟩
theorem ref_rune (l : List Int) (hb : Byt l) : ∃ p, RuneIs l p ∧ ∀ k, 34 ≤ k → cardexref02_Rune.f k l = some p := by
  obtain ⟨p, hp, hf⟩ := ref_from l hb 4 34 1 (by omega) (by omega) (by omega) (fun v _ => (enc_len v).1)
  exact ⟨p, hp, fun k hk => at_rounds (g := fun k => cardexref02_Rune.f k l) (cardexref02_Rune.mono l) hk hf⟩
theorem ref_runes_l0 (l : List Int) (hb : Byt l) (hl : l.length ≤ 4611686018427387904) (d : Nat) : ∀ (k n m : Nat), n ≤ l.length → l.length - n ≤ d → d + 36 ≤ k → Text (l.take n) m →
    ∃ n' m' : Nat, Pre l l.length n' m' ∧ cardexref02_runes.l0 k l (n : Int) (m : Int) = some ((n' : Int), (m' : Int)) := by
  induction d with
  | zero =>
    intro k n m h1 hd hk ht
    obtain ⟨k, rfl⟩ : ∃ j, k = j + 1 := ⟨k - 1, by omega⟩
    obtain ⟨p, hp, hf⟩ := ref_rune (l.drop n) (byt_drop hb n)
    refine ⟨n, m, ⟨h1, ht, fun v hv => ?_, .inr (by omega)⟩, ?_⟩
    · have h2 := hv.le; have h3 := enc_len v; rw [List.length_drop] at h2; omega
    · simp only [cardexref02_runes.l0]
      rw [if_pos (by omega), if_pos (by omega), Int.toNat_natCast, hf k (by omega)]
      rcases hp with ⟨v, hv, rfl⟩ | ⟨_, rfl⟩
      · have h2 := hv.le; have h3 := enc_len v; rw [List.length_drop] at h2; omega
      · simp
  | succ d ih =>
    intro k n m h1 hd hk ht
    obtain ⟨k, rfl⟩ : ∃ j, k = j + 1 := ⟨k - 1, by omega⟩
    obtain ⟨p, hp, hf⟩ := ref_rune (l.drop n) (byt_drop hb n)
    have hlen := ht.len
    have hmn : m ≤ n := by rw [List.length_take] at hlen; omega
    have hun : cardexref02_runes.l0 (k + 1) l (n : Int) (m : Int) = (some p).bind fun bt => if bt.2 = 0 then some ((n : Int), (m : Int)) else cardexref02_runes.l0 k l (wrap64 ((n : Int) + bt.2)) (wrap64 ((m : Int) + 1)) := by
      simp only [cardexref02_runes.l0]
      rw [if_pos (by omega), if_pos (by omega), Int.toNat_natCast, hf k (by omega)]
    rw [hun]
    simp only [Option.bind_some]
    rcases hp with ⟨v, hv, rfl⟩ | ⟨hno, rfl⟩
    · have h3 := enc_len v
      have h4 := hv.le
      rw [List.length_drop] at h4
      have e1 : wrap64 ((n : Int) + ((enc v).length : Int)) = ((n + (enc v).length : Nat) : Int) := by rw [w64 (by omega) (by omega)]; omega
      have e2 : wrap64 ((m : Int) + 1) = ((m + 1 : Nat) : Int) := by rw [w64 (by omega) (by omega)]; omega
      dsimp only
      rw [if_neg (by omega), e1, e2]
      have ht2 : Text (l.take (n + (enc v).length)) (m + 1) := by rw [take_rune h1 hv]; exact ht.append (Text.one hv.1)
      exact ih k (n + (enc v).length) (m + 1) (by omega) (by omega) (by omega) ht2
    · exact ⟨n, m, ⟨h1, ht, fun v hv => absurd hv (hno v), .inr (by omega)⟩, by simp⟩
theorem ref_runes_f (l : List Int) (hb : Byt l) (hl : l.length ≤ 4611686018427387904) : ∃ n m : Nat, Pre l l.length n m ∧ Ev (fun k => cardexref02_runes.f k l) ((n : Int), (m : Int)) := by
  obtain ⟨n, m, h, hf⟩ := ref_runes_l0 l hb hl l.length (l.length + 36) 0 0 (by omega) (by omega) (by omega) (by simpa using Text.nil)
  exact ⟨n, m, h, Ev.of (cardexref02_runes.mono l) hf⟩
theorem ref_is (l : List Int) (hb : Byt l) (hl : l.length ≤ 4611686018427387904) : ∃ b : Bool, (b = true ↔ IsText l) ∧ Ev (fun k => cardexref02_Is.f k l) b := by
  obtain ⟨n, m, hp, he⟩ := ref_runes_f l hb hl
  refine ⟨((n : Int) == (l.length : Int)), ?_, ?_⟩
  · rw [← pre_whole hp, beq_iff_eq]; omega
  · unfold cardexref02_Is.f
    exact Ev.bind he (Ev.now _)

end Go.Proofs.Ytnmbhhkdiegemaa.KPlain
