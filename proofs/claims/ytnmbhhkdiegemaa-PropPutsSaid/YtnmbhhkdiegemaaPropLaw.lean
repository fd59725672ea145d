/- PropPuts: the walk and the plain law joined. Conditions: lengths are Go's, the mask is a byte. -/
import Derived.Test.YtnmbhhkdiegemaaPropPlain
namespace Go.Proofs.Ytnmbhhkdiegemaa.KPlain
open Go.RowKit Go.Proofs.Ytnmbhhkdiegemaa.K Go.Proofs.YtnmbhhkdiegemaaW.PrintWords Go.Proofs.YtnmbhhkdiegemaaW.PrintLast Go.Proofs.YtnmbhhkdiegemaaW.PrintMore
set_option linter.unusedVariables false
set_option linter.unusedSimpArgs false
theorem bit_div0 (n : Fin 256) : (Go.bits .and .u8 (n.val : Int) 1 == 1) = bitOf (n.val : Int) 0 := by
  have h := bit_div n 0
  rw [show ((2 ^ (0 : Fin 8).val : Nat) : Int) = 1 from rfl, Int.ediv_one] at h
  exact h
theorem PropPuts (p g : Int) (hg0 : 0 ≤ g) (hg1 : g < 256) (s : Nat → ByteArray) (hs : ∀ i, (s i).size ≤ 9223372036854775807) (w : World) :
    Calls Try.prog 6 #[.int .i64 p, .int .u8 g, .agg #[.string (s 0), .string (s 1), .string (s 2), .string (s 3), .string (s 4), .string (s 5), .string (s 6), .string (s 7)]] w fun e w' => e = .returned (.bool true) ∧ Below w.heap.size w w' := by
  obtain ⟨n, rfl⟩ : ∃ n : Fin 256, g = (n.val : Int) := ⟨⟨g.toNat, by omega⟩, by simp; omega⟩
  obtain ⟨b, hb⟩ := Classical.axiomOfChoice (fun i => text_both (s i))
  obtain ⟨K0, h0⟩ := text_all s b hb 7
  obtain ⟨K1, h1⟩ := marks_f n
  obtain ⟨K2, h2⟩ := same_f (putL s (bitOf (n.val : Int)) 8) (by have := putL_length s (bitOf (n.val : Int)) 8; omega) (putL_flat _ _ _)
  obtain ⟨K3, h3⟩ := same_f (putL (fun _ => ⟨#[]⟩) (bitOf (n.val : Int)) 8) (by have := putL_length (fun _ => (⟨#[]⟩ : ByteArray)) (bitOf (n.val : Int)) 8; omega) (putL_flat _ _ _)
  obtain ⟨K4, h4⟩ := is0
  obtain ⟨K5, h5⟩ := is1
  obtain ⟨K6, h6⟩ := row0
  obtain ⟨K7, h7⟩ := same_f [] (by decide) (by simp)
  obtain ⟨k, hk⟩ : ∃ k, k = K0 + K1 + K2 + K3 + K4 + K5 + K6 + K7 + 51 := ⟨_, rfl⟩
  have hI : ∀ i, i < 7 → (s i).size ≤ 32 → utf_Is.f k (bytesOf (s i)) = some (b i) := fun i hi hz => (h0 k (by omega) i hi hz).1
  have hI' : ∀ i, i < 7 → (s i).size ≤ 32 → cardexref02_Is.f k (bytesOf (s i)) = some (b i) := fun i hi hz => (h0 k (by omega) i hi hz).2
  have ht : ∀ p, cardexref14_Tag.f k p = some (tagA p, tagB p, tagO p) := fun p => tag_f p k (by omega)
  have e1 := h1 k (by omega)
  have e2 := h2 k (by omega)
  have e3 := h3 k (by omega)
  have e4 := h4 k (by omega)
  have e5 := h5 k (by omega)
  have e6 := h6 k (by omega)
  have e7 := h7 k (by omega)
  clear h0 h1 h2 h3 h4 h5 h6 h7 hk hb
  have LV : Aside0 (∀ W : World, Calls Try.prog 28 #[] W fun e w' => e = .returned (.bool true) ∧ Below W.heap.size W w') := ⟨fun W => lives_calls k ⟨e4⟩ ⟨e5⟩ ⟨e6⟩ W⟩
  have M1 : Aside0 (∀ W : World, Calls Try.prog 23 #[.agg #[.string (s 0), .string (s 1), .string (s 2), .string (s 3), .string (s 4), .string (s 5), .string (s 6), .string (s 7)]] W fun e w' => e = .returned (.bool (mayB s b)) ∧ Below W.heap.size W w') := ⟨fun W => prop_May.calls k s b W hs hI⟩
  have M2 : Aside0 (∀ W : World, Calls Try.prog 24 #[.agg #[.string (s 0), .string (s 1), .string (s 2), .string (s 3), .string (s 4), .string (s 5), .string (s 6), .string (s 7)]] W fun e w' => e = .returned (.bool (mayB s b)) ∧ Below W.heap.size W w') := ⟨fun W => cardexref14_May.calls k s b W hs hI'⟩
  have N1 := Aside0.mk (fun W => prop_Marks.calls k (n.val : Int) (bitOf (n.val : Int)) W e4 rfl rfl rfl rfl rfl rfl rfl rfl)
  have bd : ∀ i : Fin 8, (Go.bits .and .u8 ((n.val : Int) / ((2 ^ i.val : Nat) : Int)) 1 == 1) = bitOf (n.val : Int) i.val := bit_div n
  cases hm : mayB s b with
  | true => exact PropPuts.good k p (n.val : Int) s b (bitOf (n.val : Int)) w ⟨ht p⟩ ⟨fun W => prop_Put.good k (n.val : Int) s b (bitOf (n.val : Int)) W hs hI hm rfl rfl rfl rfl rfl rfl rfl rfl⟩ ⟨fun W => cardexref14_Put.good k (n.val : Int) s b (bitOf (n.val : Int)) W hs hI' hm ⟨ht 0⟩ ⟨ht 1⟩ ⟨ht 2⟩ ⟨ht 3⟩ ⟨ht 4⟩ ⟨ht 5⟩ ⟨ht 6⟩ ⟨ht 7⟩ (bit_div0 n) (bd 1) (bd 2) (bd 3) (bd 4) (bd 5) (bd 6) (bd 7)⟩ M1 M2 N1 ⟨e1⟩ ⟨e2⟩ ⟨e3⟩ LV
  | false => exact PropPuts.bad k p (n.val : Int) s b (bitOf (n.val : Int)) w ⟨ht p⟩ ⟨fun W => prop_Put.bad k (n.val : Int) s b (bitOf (n.val : Int)) W hs hI hm⟩ ⟨fun W => cardexref14_Put.bad k (n.val : Int) s b (bitOf (n.val : Int)) W hs hI' hm⟩ M1 M2 N1 ⟨e1⟩ ⟨e7⟩ ⟨e3⟩ LV
end Go.Proofs.Ytnmbhhkdiegemaa.KPlain
