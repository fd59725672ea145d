/- A contact, as an argument: eight strings. Conditions: it reads as its type says. -/
import Derived.Test.YtnmbhhkdiegemaaPropLaw
import Derived.OpenShut
import Derived.ShutString
namespace Go.Proofs.Ytnmbhhkdiegemaa.KPlain
open Go
set_option linter.unusedVariables false
set_option maxRecDepth 100000 in
theorem open_contact {H : Type} {enc : TypeId × Value → H} {W : World} {base b0 : Nat} {spare : Nat → Bool} {held : Bool} {r : Reach} {v : Value} {d : DataW H} {p : List MemPlace} (hv : Value.okWide Try.prog W r b0 37 v) (h : DataW.Trod enc Try.prog W base spare held 37 v d p) :
    ∃ s : Nat → ByteArray, v = .agg #[.string (s 0), .string (s 1), .string (s 2), .string (s 3), .string (s 4), .string (s 5), .string (s 6), .string (s 7)] ∧ ∀ i, (s i).size ≤ 9223372036854775807 := by
  simp only [Value.okWide, Try.underlying37] at hv
  obtain ⟨cs, rfl, hsz, _⟩ := hv
  obtain ⟨fuel, hf⟩ := h
  obtain ⟨xs, m, _, _, _, hxl, hi⟩ := DataW.trod_array Try.underlying37 hf
  have h9 : Try.prog.cellsOf 9 = 1 := by kernel_rfl
  have h37 : Try.prog.cellsOf 37 = 8 := by kernel_rfl
  have hl : cs.toList.length = 8 := by rw [Array.length_toList, hsz, h37]
  have key : ∀ i, i < 8 → ∃ s : ByteArray, cs.toList[i]? = some (.string s) ∧ s.size ≤ 9223372036854775807 := by
    intro i hi8
    have hx := hi i hi8
    rw [h9, List.getElem?_eq_getElem (by omega)] at hx
    obtain ⟨s, h1, _, h2⟩ := DataW.trod_string Try.underlying9 hx
    refine ⟨s, ?_, by simpa [maxLen] using h2⟩
    have h3 : ((cs.toList.drop (i * 1)).take 1)[0]? = some (.string s) := by rw [show cs.toList = (Value.agg cs).cells.toList from rfl, h1]; rfl
    rw [List.getElem?_take_of_lt (by decide), List.getElem?_drop] at h3
    simpa using h3
  obtain ⟨s0, e0, z0⟩ := key 0 (by decide)
  obtain ⟨s1, e1, z1⟩ := key 1 (by decide)
  obtain ⟨s2, e2, z2⟩ := key 2 (by decide)
  obtain ⟨s3, e3, z3⟩ := key 3 (by decide)
  obtain ⟨s4, e4, z4⟩ := key 4 (by decide)
  obtain ⟨s5, e5, z5⟩ := key 5 (by decide)
  obtain ⟨s6, e6, z6⟩ := key 6 (by decide)
  obtain ⟨s7, e7, z7⟩ := key 7 (by decide)
  have hc : cs.toList = [.string s0, .string s1, .string s2, .string s3, .string s4, .string s5, .string s6, .string s7] := by
    apply List.ext_getElem?
    intro i
    by_cases hi8 : i < 8
    · match i, hi8 with
      | 0, _ => exact e0
      | 1, _ => exact e1
      | 2, _ => exact e2
      | 3, _ => exact e3
      | 4, _ => exact e4
      | 5, _ => exact e5
      | 6, _ => exact e6
      | 7, _ => exact e7
    · rw [List.getElem?_eq_none (by omega), List.getElem?_eq_none (by simp; omega)]
  refine ⟨fun i => if i = 0 then s0 else if i = 1 then s1 else if i = 2 then s2 else if i = 3 then s3 else if i = 4 then s4 else if i = 5 then s5 else if i = 6 then s6 else s7, ?_, ?_⟩
  · exact congrArg Value.agg (Array.ext' hc)
  · intro i
    dsimp only
    repeat (first | assumption | split)
end Go.Proofs.Ytnmbhhkdiegemaa.KPlain
