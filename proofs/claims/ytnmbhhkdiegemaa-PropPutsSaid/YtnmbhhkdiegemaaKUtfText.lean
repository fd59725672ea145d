/- The plain law of texts: texts behind each other, the longest beginning that is a text; the reference's rune is the program's. Conditions: bytes are bytes, lengths are Go's. -/
import Derived.Test.YtnmbhhkdiegemaaKUtfPlain
import Derived.Lib.Strings
namespace Go.Proofs.Ytnmbhhkdiegemaa.KPlain
open Go.RowKit Go.Proofs.Ytnmbhhkdiegemaa.K Go.Proofs.YtnmbhhkdiegemaaW.PrintWords Go.Proofs.YtnmbhhkdiegemaaW.PrintLast
set_option linter.unusedVariables false
set_option linter.unusedSimpArgs false

instance (v : Int) : Decidable (okr v) := by unfold okr; infer_instance
/-! ### texts -/
inductive Text : List Int → Nat → Prop
  | nil : Text [] 0
  | cons (v : Int) (t : List Int) (m : Nat) (hv : okr v) (ht : Text t m) : Text (enc v ++ t) (m + 1)
theorem Text.append {a b : List Int} {m n : Nat} (ha : Text a m) (hb : Text b n) : Text (a ++ b) (m + n) := by
  induction ha with
  | nil => simpa using hb
  | cons v t m hv ht ih =>
    rw [List.append_assoc, show m + 1 + n = (m + n) + 1 by omega]
    exact Text.cons v _ _ hv ih
theorem Text.one {v : Int} (hv : okr v) : Text (enc v) 1 := by
  have h := Text.cons v [] 0 hv Text.nil
  simpa using h
theorem Text.cancel {p : List Int} {m' : Nat} (hp : Text p m') : ∀ {r : List Int} {m : Nat}, Text (p ++ r) m → ∃ n, Text r n ∧ m = m' + n := by
  induction hp with
  | nil => intro r m h; exact ⟨m, h, by omega⟩
  | cons v t m' hv ht ih =>
    intro r m h
    generalize hl : enc v ++ t ++ r = l at h
    cases h with
    | nil =>
      have h1 := enc_len v
      have h2 := congrArg List.length hl
      rw [List.length_append, List.length_append, List.length_nil] at h2
      omega
    | cons v2 t2 m2 hv2 ht2 =>
      have e : v = v2 := begins_unique (l := enc v ++ t ++ r) ⟨hv, t ++ r, by rw [List.append_assoc]⟩ ⟨hv2, t2, hl⟩
      subst e
      rw [List.append_assoc] at hl
      have hl2 := List.append_cancel_left hl
      subst hl2
      obtain ⟨n, hn, rfl⟩ := ih ht2
      exact ⟨n, hn, by omega⟩
theorem Text.head {l : List Int} {m : Nat} (h : Text l m) (hne : l ≠ []) : ∃ v, Begins v l := by
  cases h with
  | nil => exact absurd rfl hne
  | cons v t m hv ht => exact ⟨v, hv, t, rfl⟩
theorem Text.len {l : List Int} {m : Nat} (h : Text l m) : m ≤ l.length := by
  induction h with
  | nil => simp
  | cons v t m hv ht ih => have := enc_len v; rw [List.length_append]; omega
theorem Text.nil_zero {m : Nat} (h : Text [] m) : m = 0 := by have := h.len; simpa using this
theorem Begins.append {v : Int} {l r : List Int} (h : Begins v l) : Begins v (l ++ r) := by
  obtain ⟨h1, t, rfl⟩ := h
  exact ⟨h1, t ++ r, by rw [List.append_assoc]⟩
theorem Begins.le {v : Int} {l : List Int} (h : Begins v l) : (enc v).length ≤ l.length := by
  obtain ⟨_, t, rfl⟩ := h
  rw [List.length_append]; omega
theorem Text.count {l : List Int} {m n : Nat} (h : Text l m) (h' : Text l n) : m = n := by
  have h2 : Text (l ++ []) n := by simpa using h'
  obtain ⟨j, hj, e⟩ := h.cancel h2
  have := hj.nil_zero
  omega

/-- The longest beginning that is a text of at most so many bytes: how many bytes, how many runes. -/
def Pre (l : List Int) (most : Int) (n m : Nat) : Prop :=
  n ≤ l.length ∧ Text (l.take n) m ∧ (∀ v, Begins v (l.drop n) → (n : Int) + ((enc v).length : Int) > most) ∧ (n = 0 ∨ (n : Int) ≤ most)
theorem Pre.more {l : List Int} {most : Int} {n m n' m' : Nat} (h : Pre l most n m) (hn' : n' ≤ l.length) (ht : Text (l.take n') m') (hm : n' = 0 ∨ (n' : Int) ≤ most) : n' ≤ n := by
  obtain ⟨h1, h2, h3, h4⟩ := h
  apply Classical.byContradiction
  intro hlt
  have e : l.take n' = l.take n ++ (l.drop n).take (n' - n) := by
    rw [show n' = n + (n' - n) by omega, List.take_add]; simp
  rw [e] at ht
  obtain ⟨j, hj, _⟩ := h2.cancel ht
  have hlen : ((l.drop n).take (n' - n)).length = n' - n := by rw [List.length_take, List.length_drop]; omega
  obtain ⟨v, hv⟩ := hj.head (by intro e0; rw [e0] at hlen; simp at hlen; omega)
  have hle := hv.le
  rw [hlen] at hle
  have hv2 : Begins v (l.drop n) := by
    have := hv.append (r := (l.drop n).drop (n' - n))
    rwa [List.take_append_drop] at this
  have := h3 v hv2
  omega
theorem Pre.unique {l : List Int} {most : Int} {n m n' m' : Nat} (h : Pre l most n m) (h' : Pre l most n' m') : n = n' ∧ m = m' := by
  have a := h.more h'.1 h'.2.1 h'.2.2.2
  have b := h'.more h.1 h.2.1 h.2.2.2
  obtain rfl : n = n' := by omega
  exact ⟨rfl, h.2.1.count h'.2.1⟩
theorem Pre.whole {l : List Int} {most : Int} {n m m' : Nat} (h : Pre l most n m) (ht : Text l m') (hl : (l.length : Int) ≤ most) : n = l.length ∧ m = m' := by
  have ht' : Text (l.take l.length) m' := by simpa using ht
  have a := h.more (Nat.le_refl _) ht' (.inr hl)
  have e : n = l.length := by have := h.1; omega
  subst e
  exact ⟨rfl, h.2.1.count ht'⟩

theorem byt_drop {l : List Int} (h : Byt l) (n : Nat) : Byt (l.drop n) := fun x hx => h x (List.mem_of_mem_drop hx)
theorem byt_take {l : List Int} (h : Byt l) (n : Nat) : Byt (l.take n) := fun x hx => h x (List.mem_of_mem_take hx)
theorem take_rune {l : List Int} {n : Nat} {v : Int} (hn : n ≤ l.length) (h : Begins v (l.drop n)) : l.take (n + (enc v).length) = l.take n ++ enc v := by
  obtain ⟨_, t, ht⟩ := h
  rw [List.take_add, ht]; simp
theorem utf_prefix_l0 (l : List Int) (most : Int) (hb : Byt l) (hl : l.length ≤ 4611686018427387904) (d : Nat) : ∀ (k n m : Nat), n ≤ l.length → l.length - n ≤ d → d + 12 ≤ k → Text (l.take n) m → (n = 0 ∨ (n : Int) ≤ most) →
    ∃ n' m' : Nat, Pre l most n' m' ∧ utf_prefix.l0 k l most (n : Int) (m : Int) = some ((n' : Int), (m' : Int)) := by
  induction d with
  | zero =>
    intro k n m h1 hd hk ht hm
    obtain ⟨k, rfl⟩ : ∃ j, k = j + 1 := ⟨k - 1, by omega⟩
    refine ⟨n, m, ⟨h1, ht, fun v hv => ?_, hm⟩, ?_⟩
    · have h2 := hv.le; have h3 := enc_len v; rw [List.length_drop] at h2; omega
    · simp only [utf_prefix.l0]; rw [if_neg (by omega)]
  | succ d ih =>
    intro k n m h1 hd hk ht hm
    obtain ⟨k, rfl⟩ : ∃ j, k = j + 1 := ⟨k - 1, by omega⟩
    by_cases hlt : n < l.length
    · obtain ⟨p, hp, hf⟩ := utf_rune (l.drop n) (byt_drop hb n)
      have hlen := ht.len
      have hmn : m ≤ n := by rw [List.length_take] at hlen; omega
      have hun : utf_prefix.l0 (k + 1) l most (n : Int) (m : Int) = (some p).bind fun bt => if bt.2 = 0 then some ((n : Int), (m : Int)) else if wrap64 ((n : Int) + bt.2) > most then some ((n : Int), (m : Int)) else utf_prefix.l0 k l most (wrap64 ((n : Int) + bt.2)) (wrap64 ((m : Int) + 1)) := by
        simp only [utf_prefix.l0]
        rw [if_pos (by omega), if_pos (by omega), if_pos (by omega), Int.toNat_natCast, hf k (by omega)]
      rw [hun]
      simp only [Option.bind_some]
      rcases hp with ⟨v, hv, rfl⟩ | ⟨hno, rfl⟩
      · have h3 := enc_len v
        have h4 := hv.le
        rw [List.length_drop] at h4
        have e1 : wrap64 ((n : Int) + ((enc v).length : Int)) = ((n + (enc v).length : Nat) : Int) := by rw [w64 (by omega) (by omega)]; omega
        have e2 : wrap64 ((m : Int) + 1) = ((m + 1 : Nat) : Int) := by rw [w64 (by omega) (by omega)]; omega
        dsimp only
        rw [if_neg (by omega), e1, e2]
        by_cases hgt : (((n + (enc v).length : Nat) : Int) > most)
        · rw [if_pos hgt]
          refine ⟨n, m, ⟨h1, ht, fun v' hv' => ?_, hm⟩, rfl⟩
          rw [begins_unique hv' hv]; omega
        · rw [if_neg hgt]
          have ht2 : Text (l.take (n + (enc v).length)) (m + 1) := by rw [take_rune h1 hv]; exact ht.append (Text.one hv.1)
          exact ih k (n + (enc v).length) (m + 1) (by omega) (by omega) (by omega) ht2 (.inr (by omega))
      · exact ⟨n, m, ⟨h1, ht, fun v hv => absurd hv (hno v), hm⟩, by simp⟩
    · exact ⟨n, m, ⟨h1, ht, fun v hv => by have h2 := hv.le; have h3 := enc_len v; rw [List.length_drop] at h2; omega, hm⟩, by simp only [utf_prefix.l0]; rw [if_neg (by omega)]⟩
theorem utf_prefix_f (l : List Int) (most : Int) (hb : Byt l) (hl : l.length ≤ 4611686018427387904) : ∃ n m : Nat, Pre l most n m ∧ Ev (fun k => utf_prefix.f k l most) ((n : Int), (m : Int)) := by
  obtain ⟨n, m, h, hf⟩ := utf_prefix_l0 l most hb hl l.length (l.length + 12) 0 0 (by omega) (by omega) (by omega) (by simpa using Text.nil) (.inl rfl)
  exact ⟨n, m, h, Ev.of (utf_prefix.mono l most) hf⟩
def IsText (l : List Int) : Prop := ∃ m, Text l m
theorem pre_whole {l : List Int} {n m : Nat} (h : Pre l (l.length : Int) n m) : n = l.length ↔ IsText l := by
  constructor
  · rintro rfl
    exact ⟨m, by simpa using h.2.1⟩
  · rintro ⟨m', hm⟩
    exact (h.whole hm (by omega)).1
theorem utf_is (l : List Int) (hb : Byt l) (hl : l.length ≤ 4611686018427387904) : ∃ b : Bool, (b = true ↔ IsText l) ∧ Ev (fun k => utf_Is.f k l) b := by
  obtain ⟨n, m, hp, he⟩ := utf_prefix_f l l.length hb hl
  refine ⟨((n : Int) == (l.length : Int)), ?_, ?_⟩
  · rw [← pre_whole hp, beq_iff_eq]; omega
  · unfold utf_Is.f
    exact Ev.bind he (Ev.now _)

theorem byt_str {a b : List Int} (ha : Byt a) (hb : Byt b) : (strOfNums a).toList = (strOfNums b).toList ↔ a = b := by
  constructor
  · intro h
    rw [Lib.toList_data, Lib.toList_data] at h
    unfold strOfNums at h
    have h2 := congrArg (List.map fun b : UInt8 => (b.toNat : Int)) h
    simp only [List.map_map] at h2
    have e : ∀ {c : List Int}, Byt c → c.map ((fun b : UInt8 => (b.toNat : Int)) ∘ fun n : Int => UInt8.ofNat n.toNat) = c := by
      intro c hc
      conv => rhs; rw [← List.map_id c]
      refine List.map_congr_left fun x hx => ?_
      have := hc x hx
      simp only [Function.comp, id, UInt8.toNat_ofNat']
      omega
    rw [e ha, e hb] at h2
    exact h2
  · rintro rfl; rfl
/-! ### strings -/
theorem byt_bytesOf (s : ByteArray) : Byt (bytesOf s) := by
  intro x hx
  unfold bytesOf at hx
  obtain ⟨b, _, rfl⟩ := List.mem_map.1 hx
  have := b.toNat_lt
  omega
theorem bytesOf_inj {a b : ByteArray} (h : bytesOf a = bytesOf b) : a = b := by
  unfold bytesOf at h
  have h2 : a.data.toList = b.data.toList := by
    exact (List.map_inj_right (fun x y hxy => UInt8.toNat.inj (Int.ofNat.inj hxy))).1 h
  have h3 : a.data = b.data := Array.toList_inj.1 h2
  cases a; cases b; simp at h3; rw [h3]
theorem bytesOf_extract (s : ByteArray) (n : Nat) : bytesOf (s.extract 0 n) = (bytesOf s).take n := by
  have h := Lib.extract_toList s 0 n
  rw [Lib.toList_data] at h
  unfold bytesOf
  rw [h]; simp [List.map_take]
theorem bytesOf_append (a b : ByteArray) : bytesOf (a ++ b) = bytesOf a ++ bytesOf b := by
  unfold bytesOf
  simp
theorem bytesOf_str {l : List Int} (h : Byt l) : bytesOf (strOfNums l) = l := by
  unfold bytesOf strOfNums
  simp only [List.map_map]
  conv => rhs; rw [← List.map_id l]
  refine List.map_congr_left fun x hx => ?_
  have := h x hx
  simp only [Function.comp, id, UInt8.toNat_ofNat']
  omega
theorem size_str (l : List Int) : (strOfNums l).size = l.length := by
  have : (strOfNums l).data.toList.length = l.length := by unfold strOfNums; simp
  rw [data_length] at this; exact this
theorem toList_iff (a b : ByteArray) : a.toList = b.toList ↔ a = b := by
  constructor
  · intro h
    rw [Lib.toList_data, Lib.toList_data] at h
    exact bytesOf_inj (by unfold bytesOf; rw [h])
  · rintro rfl; rfl

/-! ### what the document tells -/
end Go.Proofs.Ytnmbhhkdiegemaa.KPlain
