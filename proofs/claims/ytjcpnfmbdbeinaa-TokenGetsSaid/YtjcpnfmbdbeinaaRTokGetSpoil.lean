/- The walk of Spoil: it turns nothing but the row's own block, which stays one of numbers. Conditions: the block holds numbers alone, none of its places within the row is frozen. -/
import Derived.Test.YtjcpnfmbdbeinaaR
namespace Go.Proofs.Ytjcpnfmbdbeinaa.R
open Go.RowKit Go.Proofs.YtjcpnfmbdbeinaaW.PrintWords Go.Proofs.YtjcpnfmbdbeinaaW.PrintLast Go.Proofs.YtjcpnfmbdbeinaaW.PrintMore
attribute [local go_sem] max2_int min2_int max_two min_two max_three min_three max_four min_four
set_option linter.unusedVariables false
set_option linter.unusedSimpArgs false

/-- A block of numbers whose places may be written. -/
def SpB (w : World) (g cap : Nat) : Prop := ∃ (cells : Array Value) (fz : Nat × Nat), w.heap[g]? = some (.cells cells 5 fz) ∧ cells.size = cap ∧ (∀ u ∈ cells.toList, ∃ n : Int, u = .int .u8 n) ∧ (fz = (0, 0) ∨ cap ≤ fz.1)
theorem SpB.get {w : World} {g cap : Nat} (h : SpB w g cap) {i : Nat} (hi : i < cap) : ∃ n : Int, w.cell? ⟨g, i, none⟩ = some (.int .u8 n) ∧ w.frozen? ⟨g, i, none⟩ = false := by
  obtain ⟨cells, fz, hb, hs, hn, hf⟩ := h
  obtain ⟨n, e⟩ := hn cells[i] (by simp)
  refine ⟨n, ?_, ?_⟩
  · rw [cell_of_row w g i cells 5 fz hb, Array.getElem?_eq_getElem (by omega), e]
  · rcases hf with rfl | hf
    · simp [World.frozen?, hb]
    · simp [World.frozen?, hb]
      omega
theorem SpB.set {w : World} {g cap : Nat} (h : SpB w g cap) (i : Nat) (n : Int) : SpB (w.setCell ⟨g, i, none⟩ (.int .u8 n)) g cap := by
  obtain ⟨cells, fz, hb, hs, hn, hf⟩ := h
  refine ⟨cells.setIfInBounds i (.int .u8 n), fz, ?_, by simpa using hs, fun u hu => ?_, hf⟩
  · simp [World.setCell, Array.getElem?_modify, hb]
  · rw [Array.toList_setIfInBounds] at hu
    rcases List.mem_or_eq_of_mem_set hu with hu | hu
    · exact hn u hu
    · exact ⟨n, hu⟩
theorem sp_set {w W : World} {g j : Nat} {v : Value} (h : KeepBut w W g none) : KeepBut w (W.setCell ⟨g, j, none⟩ v) g none :=
  ⟨by have := h.1; simpa [World.setCell] using this, fun i hi hg hr => (Below.heap_setCell W ⟨g, j, none⟩ v i hg).trans (h.2 i hi hg hr)⟩
theorem full_cut {P : Program} (ht : P.underlying 22 = some (.slice 5)) {i0 : TypeInfo} (hi : P.info? 5 = some i0) (A : Option Addr) (n c : Nat) :
    ∀ W : World, (Instr.slice 22 (.slice A n c) none (some (.int .i64 (c : Int))) (some (.int .i64 (c : Int)))).run P W = .ok (.slice A c c) W := by
  intro W
  have hel : P.elem 22 = 5 := by simp [Program.elem, ht]
  have hu : P.underlying 22 = some (.slice (P.elem 22)) := by rw [hel]; exact ht
  have ha : (A.map fun x => x.add 0) = A := by cases A <;> simp [Addr.add]
  rw [run_slice_hm W 22 A n c hu .i64 .i64 (c : Int) (c : Int) (by omega) (by omega) (by omega), hel]
  simp [sizeOf, typeInfo, hi, sliced, Result.andThen, ha]
set_option maxHeartbeats 8000000 in
set_option maxRecDepth 100000 in
theorem Spoil_calls (g cap n base : Nat) (by_ : Int) (w : World) (h : SpB w g cap) (hm : cap ≤ 9223372036854775807) (hge : base ≤ g) (hbs : base ≤ w.heap.size) :
    Calls Try.prog 28 #[.slice (some ⟨g, 0, none⟩) n cap, .int .u8 by_] w fun e w' => e = .returned (.tuple #[]) ∧ Below base w w' ∧ KeepBut w w' g none ∧ SpB w' g cap := by
  obtain ⟨i5, hi5, _, hsz5, _⟩ := info_parts info5
  have hcut := full_cut (P := Try.prog) Try.underlying22 hi5 (some ⟨g, 0, none⟩) n cap
  have HI5 := Aside0.mk hi5
  have HS := Aside0.mk h
  clear h hsz5 hi5
  go_enter Try.func28, Try.ntmps28
  go_wp2
  go_loopg [5] cap (fun kq v5 w' => ∃ i : Nat, v5 = .int .i64 (i : Int) ∧ Aside0 (kq + i = cap) ∧ Aside0 (Below base w w') ∧ Aside0 (SpB w' g cap) ∧ Aside0 (KeepBut w w' g none))
  case atStart => exact ⟨0, rfl, ⟨by omega⟩, ⟨Below.refl _ _⟩, HS, ⟨KeepBut.refl _ _ _⟩⟩
  case round =>
    obtain ⟨i, rfl, HK, HB, HP, HKB⟩ := hrel
    by_cases c : i < cap
    · have c0 : decide ((i : Int) < (cap : Int)) = true := decide_eq_true (by omega)
      have c1 : (i : Int) < (cap : Int) := by omega
      have c2 : (0 : Int) ≤ (i : Int) := by omega
      have hw : IntKind.i64.wrap ((i : Int) + 1) = (i : Int) + 1 := by rw [IntKind.wrap_i64]; omega
      obtain ⟨x, hx, hf⟩ := HP.out.get c
      go_wp2
      go_roundg (cap - (i + 1))
      case measure => have := HK.out; omega
      case rel => exact ⟨i + 1, by simp, ⟨by omega⟩, ⟨HB.out.setCell hge _⟩, ⟨HP.out.set i _⟩, ⟨sp_set HKB.out⟩⟩
    · have c0 : decide ((i : Int) < (cap : Int)) = false := decide_eq_false (by omega)
      have c1 : ¬ ((i : Int) < (cap : Int)) := by omega
      go_wp2
      go_end0
      exact ⟨rfl, HB.out, HKB.out, HP.out⟩
set_option maxHeartbeats 8000000 in
set_option maxRecDepth 100000 in
theorem Spoil_nil (base : Nat) (by_ : Int) (w : World) :
    Calls Try.prog 28 #[.slice none 0 0, .int .u8 by_] w fun e w' => e = .returned (.tuple #[]) ∧ Below base w w' ∧ w'.heap = w.heap := by
  obtain ⟨i5, hi5, _, hsz5, _⟩ := info_parts info5
  have hcut := full_cut (P := Try.prog) Try.underlying22 hi5 none 0 0
  clear hsz5 hi5
  go_enter Try.func28, Try.ntmps28
  go_wp2
  go_loopg [5] 1 (fun kq v5 w' => v5 = .int .i64 0 ∧ Aside0 (Below base w w') ∧ Aside0 (w'.heap = w.heap))
  case atStart => exact ⟨rfl, ⟨Below.refl _ _⟩, ⟨rfl⟩⟩
  case round =>
    obtain ⟨rfl, HB, HH⟩ := hrel
    go_wp2
    go_end0
    exact ⟨rfl, HB.out, HH.out⟩
end Go.Proofs.Ytjcpnfmbdbeinaa.R
