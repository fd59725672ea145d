/- The plain law of runes and texts: what the two texts of layer 2 compute is the same; conditions: bytes are bytes, lengths are Go's. -/
import Derived.Test.YtnmbhhkdiegemaaK4
import Derived.Laws.BitsLemmas
namespace Go.Proofs.Ytnmbhhkdiegemaa.KPlain
open Go.RowKit Go.Proofs.Ytnmbhhkdiegemaa.K Go.Proofs.YtnmbhhkdiegemaaW.PrintWords Go.Proofs.YtnmbhhkdiegemaaW.PrintLast
set_option linter.unusedVariables false
set_option linter.unusedSimpArgs false

def Byt (l : List Int) : Prop := ∀ x ∈ l, 0 ≤ x ∧ x < 256
def enc (v : Int) : List Int := if v < 128 then [v] else if v < 2048 then [192 + v / 64, 128 + v % 64] else if v < 65536 then [224 + v / 4096, 128 + v / 64 % 64, 128 + v % 64] else [240 + v / 262144, 128 + v / 4096 % 64, 128 + v / 64 % 64, 128 + v % 64]
def okr (v : Int) : Prop := 1 ≤ v ∧ v ≤ 1114111 ∧ (v < 55296 ∨ 57343 < v)
def Begins (v : Int) (l : List Int) : Prop := okr v ∧ ∃ t, l = enc v ++ t
def RuneIs (l : List Int) (p : Int × Int) : Prop := (∃ v, Begins v l ∧ p = (v, ((enc v).length : Int))) ∨ ((∀ v, ¬ Begins v l) ∧ p = (0, 0))

theorem enc1 {v : Int} (h : v < 128) : enc v = [v] := by unfold enc; rw [if_pos h]
theorem enc2 {v : Int} (h : ¬ v < 128) (h2 : v < 2048) : enc v = [192 + v / 64, 128 + v % 64] := by unfold enc; rw [if_neg h, if_pos h2]
theorem enc3 {v : Int} (h : ¬ v < 2048) (h2 : v < 65536) : enc v = [224 + v / 4096, 128 + v / 64 % 64, 128 + v % 64] := by unfold enc; rw [if_neg (by omega), if_neg h, if_pos h2]
theorem enc4 {v : Int} (h : ¬ v < 65536) : enc v = [240 + v / 262144, 128 + v / 4096 % 64, 128 + v / 64 % 64, 128 + v % 64] := by unfold enc; rw [if_neg (by omega), if_neg (by omega), if_neg h]
theorem enc_cases (v : Int) : (v < 128 ∧ enc v = [v]) ∨ (128 ≤ v ∧ v < 2048 ∧ enc v = [192 + v / 64, 128 + v % 64]) ∨ (2048 ≤ v ∧ v < 65536 ∧ enc v = [224 + v / 4096, 128 + v / 64 % 64, 128 + v % 64]) ∨ (65536 ≤ v ∧ enc v = [240 + v / 262144, 128 + v / 4096 % 64, 128 + v / 64 % 64, 128 + v % 64]) := by
  by_cases h1 : v < 128
  · exact .inl ⟨h1, enc1 h1⟩
  · by_cases h2 : v < 2048
    · exact .inr (.inl ⟨by omega, h2, enc2 h1 h2⟩)
    · by_cases h3 : v < 65536
      · exact .inr (.inr (.inl ⟨by omega, h3, enc3 h2 h3⟩))
      · exact .inr (.inr (.inr ⟨by omega, enc4 h3⟩))
theorem enc_len (v : Int) : 1 ≤ (enc v).length ∧ (enc v).length ≤ 4 := by
  rcases enc_cases v with ⟨_, h⟩ | ⟨_, _, h⟩ | ⟨_, _, h⟩ | ⟨_, h⟩ <;> rw [h] <;> simp
theorem enc_byt {v : Int} (h : okr v) : Byt (enc v) := by
  obtain ⟨h1, h2, h3⟩ := h
  rcases enc_cases v with ⟨_, h⟩ | ⟨_, _, h⟩ | ⟨_, _, h⟩ | ⟨_, h⟩ <;> rw [h] <;> intro x hx <;> simp at hx <;> omega
theorem begins_unique {v v' : Int} {l : List Int} (h : Begins v l) (h' : Begins v' l) : v = v' := by
  obtain ⟨⟨a1, a2, a3⟩, t, rfl⟩ := h
  obtain ⟨⟨b1, b2, b3⟩, t', ht⟩ := h'
  rcases enc_cases v with ⟨c, h⟩ | ⟨c, c', h⟩ | ⟨c, c', h⟩ | ⟨c, h⟩ <;> rcases enc_cases v' with ⟨d, g⟩ | ⟨d, d', g⟩ | ⟨d, d', g⟩ | ⟨d, g⟩ <;> rw [h, g] at ht <;> simp at ht <;> omega
theorem RuneIs.unique {l : List Int} {p q : Int × Int} (h : RuneIs l p) (h' : RuneIs l q) : p = q := by
  rcases h with ⟨v, hb, rfl⟩ | ⟨hn, rfl⟩ <;> rcases h' with ⟨v', hb', rfl⟩ | ⟨hn', rfl⟩
  · rw [begins_unique hb hb']
  · exact absurd hb (hn' v)
  · exact absurd hb' (hn v')
  · rfl

theorem w32 {n : Int} (h0 : 0 ≤ n) (h : n < 2147483648) : wrap32 n = n := by unfold wrap32; omega
theorem w64 {n : Int} (h0 : -9223372036854775808 ≤ n) (h : n < 9223372036854775808) : wrap64 n = n := by unfold wrap64; omega

/-! ### utf.Rune -/
def fin (r n least : Int) : Option (Int × Int) := if r < least then some (0, 0) else if r > 1114111 then some (0, 0) else if r / 2048 = 27 then some (0, 0) else some (r, n)
theorem l0_end (k : Nat) (r n least : Int) (ys : List Int) : utf_Rune.l0 (k + 1) r n least ys (ys.length : Int) (ys.length : Int) = fin r n least := by
  simp only [utf_Rune.l0]
  rw [if_neg (by omega)]
  rfl
theorem l0_step (k : Nat) (r n least : Int) (ys : List Int) (i : Nat) (c : Int) (hi : i < ys.length) (hl : ys.length < 10) (hc : ys.getD i 0 = c) (hb : 0 ≤ c ∧ c < 256) (hr : 0 ≤ r ∧ r < 33554432) :
    utf_Rune.l0 (k + 1) r n least ys (ys.length : Int) (i : Int) = if c / 64 = 2 then utf_Rune.l0 k (r * 64 + c % 64) n least ys (ys.length : Int) ((i + 1 : Nat) : Int) else some (0, 0) := by
  have hrd : rd ys (i : Int) = c := by unfold rd; simpa using hc
  simp only [utf_Rune.l0]
  rw [if_pos (by omega), if_pos (by omega), if_pos (by omega), hrd]
  have e1 : bits .and .u8 c 63 = c % 64 := u8_and63 _ hb.1 hb.2
  have e2 : wrap32 (r * 64) = r * 64 := w32 (by omega) (by omega)
  have e3 : wrap32 (c % 64) = c % 64 := w32 (by omega) (by omega)
  have e4 : bits .or .i32 (r * 64) (c % 64) = r * 64 + c % 64 := i32_or6 _ _ (by omega) (by omega) (by omega) (by omega) (by omega)
  have e5 : wrap64 ((i : Int) + 1) = ((i + 1 : Nat) : Int) := by rw [w64 (by omega) (by omega)]; omega
  rw [e1, e2, e3, e4, e5]
theorem begun_eq (c : Int) (h : 0 ≤ c ∧ c < 256) : utf_begun.f c = some (if c < 128 then (1, c, 1) else if c / 32 = 6 then (2, c % 32, 128) else if c / 16 = 14 then (3, c % 16, 2048) else if c / 8 = 30 then (4, c % 8, 65536) else (0, 0, 0)) := by
  unfold utf_begun.f
  have e1 : bits .and .u8 c 31 = c % 32 := u8_and31 _ h.1 h.2
  have e2 : bits .and .u8 c 15 = c % 16 := u8_and15 _ h.1 h.2
  have e3 : bits .and .u8 c 7 = c % 8 := u8_and7 _ h.1 h.2
  rw [e1, e2, e3]
  rw [w32 (n := c) (by omega) (by omega), w32 (n := c % 32) (by omega) (by omega), w32 (n := c % 16) (by omega) (by omega), w32 (n := c % 8) (by omega) (by omega)]
  repeat' split
  all_goals first | rfl | omega
theorem rune_at (k : Nat) (a : Int) (t : List Int) (ha : 0 ≤ a ∧ a < 256) (n r least : Int) (hb : utf_begun.f a = some (n, r, least)) (hn : 1 ≤ n) (hl : n ≤ ((a :: t).length : Int)) :
    utf_Rune.f (k + 1) (a :: t) = utf_Rune.l0 k r n least (t.take (n.toNat - 1)) ((t.take (n.toNat - 1)).length : Int) ((0 : Nat) : Int) := by
  unfold utf_Rune.f
  have h0 : rd (a :: t) 0 = a := rfl
  have h1 : ¬ (((a :: t).length : Int) = 0) := by simp; omega
  rw [if_neg h1, if_pos (by simp), h0, hb]
  simp only [Option.bind_some]
  rw [if_neg (by omega)]
  simp only [utf_Rune.j0]
  have h2 : decide (n > ((a :: t).length : Int)) = false := by simp only [decide_eq_false_iff_not]; omega
  rw [h2, if_neg (by decide), if_pos (by omega), if_pos (by omega)]
  simp only [Option.bind_some]
  have h3 : ((a :: t).take n.toNat).drop 1 = t.take (n.toNat - 1) := by
    obtain ⟨m, hm⟩ : ∃ m, n.toNat = m + 1 := ⟨n.toNat - 1, by omega⟩
    rw [hm]; simp
  rw [h3]; rfl
theorem rune_no (k : Nat) (a : Int) (t : List Int) (n r least : Int) (hb : utf_begun.f a = some (n, r, least)) (hn : n = 0 ∨ n > ((a :: t).length : Int)) : utf_Rune.f (k + 1) (a :: t) = some (0, 0) := by
  unfold utf_Rune.f
  have h0 : rd (a :: t) 0 = a := rfl
  have h1 : ¬ (((a :: t).length : Int) = 0) := by simp; omega
  rw [if_neg h1, if_pos (by simp), h0, hb]
  simp only [Option.bind_some]
  by_cases e : n = 0
  · rw [if_pos e]; simp only [utf_Rune.j0]; rfl
  · rw [if_neg e]
    have h2 : decide (n > ((a :: t).length : Int)) = true := by simp only [decide_eq_true_eq]; omega
    rw [h2]; simp only [utf_Rune.j0]; rfl
theorem fin_tells {l : List Int} {r n least : Int} (hlo : 0 ≤ r) (hyes : least ≤ r → r ≤ 1114111 → ¬ r / 2048 = 27 → Begins r l ∧ ((enc r).length : Int) = n) (hno : ∀ v, Begins v l → v = r ∧ least ≤ r) : ∃ p, RuneIs l p ∧ fin r n least = some p := by
  unfold fin
  by_cases h1 : r < least
  · exact ⟨(0, 0), .inr ⟨fun v hv => by have := hno v hv; omega, rfl⟩, by rw [if_pos h1]⟩
  · by_cases h2 : r > 1114111
    · exact ⟨(0, 0), .inr ⟨fun v hv => by obtain ⟨rfl, _⟩ := hno v hv; have := hv.1.2.1; omega, rfl⟩, by rw [if_neg h1, if_pos h2]⟩
    · by_cases h3 : r / 2048 = 27
      · exact ⟨(0, 0), .inr ⟨fun v hv => by obtain ⟨rfl, _⟩ := hno v hv; have := hv.1.2.2; omega, rfl⟩, by rw [if_neg h1, if_neg h2, if_pos h3]⟩
      · obtain ⟨hb, hn⟩ := hyes (by omega) (by omega) h3
        exact ⟨(r, n), .inl ⟨r, hb, by rw [hn]⟩, by rw [if_neg h1, if_neg h2, if_neg h3]⟩
theorem none_of {l : List Int} (h : ∀ v, okr v → ∀ s, l = enc v ++ s → False) : RuneIs l (0, 0) := .inr ⟨fun v hv => by obtain ⟨h1, s, hs⟩ := hv; exact h v h1 s hs, rfl⟩
theorem utf_rune (l : List Int) (hb : Byt l) : ∃ p, RuneIs l p ∧ ∀ k, 9 ≤ k → utf_Rune.f k l = some p := by
  cases l with
  | nil =>
    refine ⟨(0, 0), none_of fun v _ s hs => ?_, fun k _ => by unfold utf_Rune.f; simp⟩
    have := enc_len v
    have h2 := congrArg List.length hs
    simp at h2
    omega
  | cons a t =>
    have ha := hb a (by simp)
    have hbeg := begun_eq a ha
    by_cases c1 : a < 128
    · rw [if_pos c1] at hbeg
      obtain ⟨p, hp, hf⟩ := fin_tells (l := a :: t) (r := a) (n := 1) (least := 1) ha.1
        (fun h1 h2 h3 => ⟨⟨⟨by omega, by omega, by omega⟩, t, by rw [enc1 c1]; rfl⟩, by rw [enc1 c1]; rfl⟩)
        (fun v hv => by
          obtain ⟨⟨g1, g2, g3⟩, s, hs⟩ := hv
          rcases enc_cases v with ⟨c, h⟩ | ⟨c, c', h⟩ | ⟨c, c', h⟩ | ⟨c, h⟩ <;> rw [h] at hs <;> simp at hs <;> omega)
      refine ⟨p, hp, fun k hk => ?_⟩
      obtain ⟨k, rfl⟩ : ∃ m, k = m + 2 := ⟨k - 2, by omega⟩
      rw [rune_at (k + 1) a t ha 1 a 1 hbeg (by omega) (by simp; omega)]
      exact (l0_end k a 1 1 []).trans hf
    · rw [if_neg c1] at hbeg
      by_cases c2 : a / 32 = 6
      · rw [if_pos c2] at hbeg
        cases t with
        | nil =>
          refine ⟨(0, 0), none_of fun v hv s hs => ?_, fun k hk => ?_⟩
          · rcases enc_cases v with ⟨c, h⟩ | ⟨c, c', h⟩ | ⟨c, c', h⟩ | ⟨c, h⟩ <;> rw [h] at hs <;> simp at hs <;> omega
          · obtain ⟨k, rfl⟩ : ∃ m, k = m + 1 := ⟨k - 1, by omega⟩
            exact rune_no k a [] 2 (a % 32) 128 hbeg (.inr (by simp))
        | cons b t =>
          have hb1 := hb b (by simp)
          by_cases d1 : b / 64 = 2
          · obtain ⟨p, hp, hf⟩ := fin_tells (l := a :: b :: t) (r := a % 32 * 64 + b % 64) (n := 2) (least := 128) (by omega)
              (fun h1 h2 h3 => by
                have e := enc2 (v := a % 32 * 64 + b % 64) (by omega) (by omega)
                refine ⟨⟨⟨by omega, by omega, by omega⟩, t, ?_⟩, by rw [e]; rfl⟩
                rw [e]; simp only [List.cons_append, List.nil_append, List.cons.injEq, and_true]; omega)
              (fun v hv => by
                obtain ⟨⟨g1, g2, g3⟩, s, hs⟩ := hv
                rcases enc_cases v with ⟨c, h⟩ | ⟨c, c', h⟩ | ⟨c, c', h⟩ | ⟨c, h⟩ <;> rw [h] at hs <;> simp at hs <;> omega)
            refine ⟨p, hp, fun k hk => ?_⟩
            obtain ⟨k, rfl⟩ : ∃ m, k = m + 3 := ⟨k - 3, by omega⟩
            rw [rune_at (k + 2) a (b :: t) ha 2 (a % 32) 128 hbeg (by omega) (by simp; omega)]
            have e1 := l0_step (k + 1) (a % 32) 2 128 [b] 0 b (by simp) (by simp) rfl hb1 (by omega)
            rw [if_pos d1] at e1
            exact e1.trans ((l0_end k _ 2 128 [b]).trans hf)
          · refine ⟨(0, 0), none_of fun v hv s hs => ?_, fun k hk => ?_⟩
            · rcases enc_cases v with ⟨c, h⟩ | ⟨c, c', h⟩ | ⟨c, c', h⟩ | ⟨c, h⟩ <;> rw [h] at hs <;> simp at hs <;> omega
            · obtain ⟨k, rfl⟩ : ∃ m, k = m + 2 := ⟨k - 2, by omega⟩
              rw [rune_at (k + 1) a (b :: t) ha 2 (a % 32) 128 hbeg (by omega) (by simp; omega)]
              have e1 := l0_step k (a % 32) 2 128 [b] 0 b (by simp) (by simp) rfl hb1 (by omega)
              rw [if_neg d1] at e1
              exact e1
      · rw [if_neg c2] at hbeg
        by_cases c3 : a / 16 = 14
        · rw [if_pos c3] at hbeg
          match t, hb with
          | [], hb =>
            refine ⟨(0, 0), none_of fun v hv s hs => ?_, fun k hk => ?_⟩
            · rcases enc_cases v with ⟨c, h⟩ | ⟨c, c', h⟩ | ⟨c, c', h⟩ | ⟨c, h⟩ <;> rw [h] at hs <;> simp at hs <;> omega
            · obtain ⟨k, rfl⟩ : ∃ m, k = m + 1 := ⟨k - 1, by omega⟩
              exact rune_no k a [] 3 (a % 16) 2048 hbeg (.inr (by simp))
          | [b], hb =>
            refine ⟨(0, 0), none_of fun v hv s hs => ?_, fun k hk => ?_⟩
            · obtain ⟨h1, h2, h3⟩ := hv
              rcases enc_cases v with ⟨c, h⟩ | ⟨c, c', h⟩ | ⟨c, c', h⟩ | ⟨c, h⟩ <;> rw [h] at hs <;> simp at hs <;> omega
            · obtain ⟨k, rfl⟩ : ∃ m, k = m + 1 := ⟨k - 1, by omega⟩
              exact rune_no k a [b] 3 (a % 16) 2048 hbeg (.inr (by simp))
          | b :: c :: t, hb =>
            have hb1 := hb b (by simp)
            have hb2 := hb c (by simp)
            by_cases d1 : b / 64 = 2
            · by_cases d2 : c / 64 = 2
              · obtain ⟨p, hp, hf⟩ := fin_tells (l := a :: b :: c :: t) (r := (a % 16 * 64 + b % 64) * 64 + c % 64) (n := 3) (least := 2048) (by omega)
                  (fun h1 h2 h3 => by
                    have e := enc3 (v := (a % 16 * 64 + b % 64) * 64 + c % 64) (by omega) (by omega)
                    refine ⟨⟨⟨by omega, by omega, by omega⟩, t, ?_⟩, by rw [e]; rfl⟩
                    rw [e]; simp only [List.cons_append, List.nil_append, List.cons.injEq, and_true]; omega)
                  (fun v hv => by
                    obtain ⟨⟨g1, g2, g3⟩, s, hs⟩ := hv
                    rcases enc_cases v with ⟨c, h⟩ | ⟨c, c', h⟩ | ⟨c, c', h⟩ | ⟨c, h⟩ <;> rw [h] at hs <;> simp at hs <;> omega)
                refine ⟨p, hp, fun k hk => ?_⟩
                obtain ⟨k, rfl⟩ : ∃ m, k = m + 4 := ⟨k - 4, by omega⟩
                rw [rune_at (k + 3) a (b :: c :: t) ha 3 (a % 16) 2048 hbeg (by omega) (by simp; omega)]
                have e1 := l0_step (k + 2) (a % 16) 3 2048 [b, c] 0 b (by simp) (by simp) rfl hb1 (by omega)
                have e2 := l0_step (k + 1) (a % 16 * 64 + b % 64) 3 2048 [b, c] 1 c (by simp) (by simp) rfl hb2 (by omega)
                rw [if_pos d1] at e1
                rw [if_pos d2] at e2
                exact e1.trans (e2.trans ((l0_end k _ 3 2048 [b, c]).trans hf))
              · refine ⟨(0, 0), none_of fun v hv s hs => ?_, fun k hk => ?_⟩
                · obtain ⟨h1, h2, h3⟩ := hv
                  rcases enc_cases v with ⟨c, h⟩ | ⟨c, c', h⟩ | ⟨c, c', h⟩ | ⟨c, h⟩ <;> rw [h] at hs <;> simp at hs <;> omega
                · obtain ⟨k, rfl⟩ : ∃ m, k = m + 3 := ⟨k - 3, by omega⟩
                  rw [rune_at (k + 2) a (b :: c :: t) ha 3 (a % 16) 2048 hbeg (by omega) (by simp; omega)]
                  have e1 := l0_step (k + 1) (a % 16) 3 2048 [b, c] 0 b (by simp) (by simp) rfl hb1 (by omega)
                  have e2 := l0_step k (a % 16 * 64 + b % 64) 3 2048 [b, c] 1 c (by simp) (by simp) rfl hb2 (by omega)
                  rw [if_pos d1] at e1
                  rw [if_neg d2] at e2
                  exact e1.trans e2
            · refine ⟨(0, 0), none_of fun v hv s hs => ?_, fun k hk => ?_⟩
              · obtain ⟨h1, h2, h3⟩ := hv
                rcases enc_cases v with ⟨c, h⟩ | ⟨c, c', h⟩ | ⟨c, c', h⟩ | ⟨c, h⟩ <;> rw [h] at hs <;> simp at hs <;> omega
              · obtain ⟨k, rfl⟩ : ∃ m, k = m + 2 := ⟨k - 2, by omega⟩
                rw [rune_at (k + 1) a (b :: c :: t) ha 3 (a % 16) 2048 hbeg (by omega) (by simp; omega)]
                have e1 := l0_step k (a % 16) 3 2048 [b, c] 0 b (by simp) (by simp) rfl hb1 (by omega)
                rw [if_neg d1] at e1
                exact e1
        · rw [if_neg c3] at hbeg
          by_cases c4 : a / 8 = 30
          · rw [if_pos c4] at hbeg
            match t, hb with
            | [], hb =>
              refine ⟨(0, 0), none_of fun v hv s hs => ?_, fun k hk => ?_⟩
              · rcases enc_cases v with ⟨c, h⟩ | ⟨c, c', h⟩ | ⟨c, c', h⟩ | ⟨c, h⟩ <;> rw [h] at hs <;> simp at hs <;> omega
              · obtain ⟨k, rfl⟩ : ∃ m, k = m + 1 := ⟨k - 1, by omega⟩
                exact rune_no k a [] 4 (a % 8) 65536 hbeg (.inr (by simp))
            | [b], hb =>
              refine ⟨(0, 0), none_of fun v hv s hs => ?_, fun k hk => ?_⟩
              · rcases enc_cases v with ⟨c, h⟩ | ⟨c, c', h⟩ | ⟨c, c', h⟩ | ⟨c, h⟩ <;> rw [h] at hs <;> simp at hs <;> omega
              · obtain ⟨k, rfl⟩ : ∃ m, k = m + 1 := ⟨k - 1, by omega⟩
                exact rune_no k a [b] 4 (a % 8) 65536 hbeg (.inr (by simp))
            | [b, c], hb =>
              refine ⟨(0, 0), none_of fun v hv s hs => ?_, fun k hk => ?_⟩
              · obtain ⟨h1, h2, h3⟩ := hv
                rcases enc_cases v with ⟨c, h⟩ | ⟨c, c', h⟩ | ⟨c, c', h⟩ | ⟨c, h⟩ <;> rw [h] at hs <;> simp at hs <;> omega
              · obtain ⟨k, rfl⟩ : ∃ m, k = m + 1 := ⟨k - 1, by omega⟩
                exact rune_no k a [b, c] 4 (a % 8) 65536 hbeg (.inr (by simp))
            | b :: c :: d :: t, hb =>
              have hb1 := hb b (by simp)
              have hb2 := hb c (by simp)
              have hb3 := hb d (by simp)
              have bad : ¬ (b / 64 = 2 ∧ c / 64 = 2 ∧ d / 64 = 2) → ∀ v, okr v → ∀ s, a :: b :: c :: d :: t = enc v ++ s → False := by
                intro hn v hv s hs
                obtain ⟨h1, h2, h3⟩ := hv
                apply hn
                rcases enc_cases v with ⟨c, h⟩ | ⟨c, c', h⟩ | ⟨c, c', h⟩ | ⟨c, h⟩ <;> rw [h] at hs <;> simp at hs <;> omega
              have e1 := fun k => l0_step (k + 2) (a % 8) 4 65536 [b, c, d] 0 b (by simp) (by simp) rfl hb1 (by omega)
              have e2 := fun k => l0_step (k + 1) (a % 8 * 64 + b % 64) 4 65536 [b, c, d] 1 c (by simp) (by simp) rfl hb2 (by omega)
              have e3 := fun k => l0_step k ((a % 8 * 64 + b % 64) * 64 + c % 64) 4 65536 [b, c, d] 2 d (by simp) (by simp) rfl hb3 (by omega)
              by_cases d1 : b / 64 = 2
              · by_cases d2 : c / 64 = 2
                · by_cases d3 : d / 64 = 2
                  · obtain ⟨p, hp, hf⟩ := fin_tells (l := a :: b :: c :: d :: t) (r := ((a % 8 * 64 + b % 64) * 64 + c % 64) * 64 + d % 64) (n := 4) (least := 65536) (by omega)
                      (fun h1 h2 h3 => by
                        have e := enc4 (v := ((a % 8 * 64 + b % 64) * 64 + c % 64) * 64 + d % 64) (by omega)
                        refine ⟨⟨⟨by omega, by omega, by omega⟩, t, ?_⟩, by rw [e]; rfl⟩
                        rw [e]; simp only [List.cons_append, List.nil_append, List.cons.injEq, and_true]; omega)
                      (fun v hv => by
                        obtain ⟨⟨g1, g2, g3⟩, s, hs⟩ := hv
                        rcases enc_cases v with ⟨c, h⟩ | ⟨c, c', h⟩ | ⟨c, c', h⟩ | ⟨c, h⟩ <;> rw [h] at hs <;> simp at hs <;> omega)
                    refine ⟨p, hp, fun k hk => ?_⟩
                    obtain ⟨k, rfl⟩ : ∃ m, k = m + 5 := ⟨k - 5, by omega⟩
                    rw [rune_at (k + 4) a (b :: c :: d :: t) ha 4 (a % 8) 65536 hbeg (by omega) (by simp; omega)]
                    have f1 := e1 (k + 1)
                    have f2 := e2 (k + 1)
                    have f3 := e3 (k + 1)
                    rw [if_pos d1] at f1
                    rw [if_pos d2] at f2
                    rw [if_pos d3] at f3
                    exact f1.trans (f2.trans (f3.trans ((l0_end k _ 4 65536 [b, c, d]).trans hf)))
                  · refine ⟨(0, 0), none_of (bad fun h => d3 h.2.2), fun k hk => ?_⟩
                    obtain ⟨k, rfl⟩ : ∃ m, k = m + 4 := ⟨k - 4, by omega⟩
                    rw [rune_at (k + 3) a (b :: c :: d :: t) ha 4 (a % 8) 65536 hbeg (by omega) (by simp; omega)]
                    have f1 := e1 k
                    have f2 := e2 k
                    have f3 := e3 k
                    rw [if_pos d1] at f1
                    rw [if_pos d2] at f2
                    rw [if_neg d3] at f3
                    exact f1.trans (f2.trans f3)
                · refine ⟨(0, 0), none_of (bad fun h => d2 h.2.1), fun k hk => ?_⟩
                  obtain ⟨k, rfl⟩ : ∃ m, k = m + 4 := ⟨k - 4, by omega⟩
                  rw [rune_at (k + 3) a (b :: c :: d :: t) ha 4 (a % 8) 65536 hbeg (by omega) (by simp; omega)]
                  have f1 := e1 k
                  have f2 := e2 k
                  rw [if_pos d1] at f1
                  rw [if_neg d2] at f2
                  exact f1.trans f2
              · refine ⟨(0, 0), none_of (bad fun h => d1 h.1), fun k hk => ?_⟩
                obtain ⟨k, rfl⟩ : ∃ m, k = m + 4 := ⟨k - 4, by omega⟩
                rw [rune_at (k + 3) a (b :: c :: d :: t) ha 4 (a % 8) 65536 hbeg (by omega) (by simp; omega)]
                have f1 := e1 k
                rw [if_neg d1] at f1
                exact f1
          · rw [if_neg c4] at hbeg
            refine ⟨(0, 0), none_of fun v hv s hs => ?_, fun k hk => ?_⟩
            · obtain ⟨h1, h2, h3⟩ := hv
              rcases enc_cases v with ⟨c, h⟩ | ⟨c, c', h⟩ | ⟨c, c', h⟩ | ⟨c, h⟩ <;> rw [h] at hs <;> simp at hs <;> omega
            · obtain ⟨k, rfl⟩ : ∃ m, k = m + 1 := ⟨k - 1, by omega⟩
              exact rune_no k a t 0 0 0 hbeg (.inl rfl)
end Go.Proofs.Ytnmbhhkdiegemaa.KPlain
