/- slices.SortFunc over a page's tags, by their numbers. Conditions: those that each theorem names. -/
import Derived.Test.YtnmbhhkdiegemaaShelf
import Derived.Test.YtnmbhhkdiegemaaPageKeys
namespace Go.Proofs.Ytnmbhhkdiegemaa.H
open Go.RowKit Go.Shelf Go.Lib Go.Sort Go.Proofs.YtnmbhhkdiegemaaW.PrintWords Go.Proofs.YtnmbhhkdiegemaaW.PrintLast Go.Proofs.YtnmbhhkdiegemaaW.PrintMore
set_option linter.unusedVariables false
set_option linter.unusedSimpArgs false

/-- Tags, cell by cell. -/
def cellsT (k : Int) (js : List Int) : List Value := js.flatMap fun j => [.int .u8 k, .int .u8 j]
theorem cellsT_snoc (k : Int) (js : List Int) (j : Int) : cellsT k (js ++ [j]) = cellsT k js ++ [.int .u8 k, .int .u8 j] := by simp [cellsT]
theorem cellsT_cons (k j : Int) (js : List Int) : cellsT k (j :: js) = [.int .u8 k, .int .u8 j] ++ cellsT k js := by simp [cellsT]
theorem cellsT_length (k : Int) (js : List Int) : (cellsT k js).length = js.length * 2 := by
  induction js with
  | nil => rfl
  | cons j js ih => rw [cellsT_cons]; simp [ih]; omega
def encT (k : Int) (j : Int) : List Value := [.int .u8 k, .int .u8 j]
theorem cellsT_get (k : Int) : ∀ (js : List Int) (t : Nat), t < js.length * 2 → (cellsT k js)[t]? = (encT k (js[t / 2]?.getD 0))[t % 2]?
  | [], t, h => by simp at h
  | j :: js, 0, _ => by simp [cellsT_cons, encT]
  | j :: js, 1, _ => by simp [cellsT_cons, encT]
  | j :: js, t + 2, h => by
    rw [cellsT_cons]
    have e1 : (t + 2) / 2 = t / 2 + 1 := by omega
    have e2 : (t + 2) % 2 = t % 2 := by omega
    rw [e1, e2]
    have := cellsT_get k js t (by simp at h; omega)
    simpa using this
theorem flat_cells (k : Int) (js : List Int) : (flatK (encT k) 2 js.toArray).toList = cellsT k js := by
  apply List.ext_getElem?
  intro t
  by_cases h : t < js.length * 2
  · have h1 := get_flatK (encT k) 2 js.toArray t (by simpa using h)
    have hs : t < (flatK (encT k) 2 js.toArray).size := by simpa using h
    rw [cellsT_get k js t h, Array.getElem?_toList, Array.getElem?_eq_getElem hs]
    rw [getElem!_pos _ t hs] at h1
    rw [h1]
    have hd : t / 2 < js.length := by omega
    have e : (js.toArray)[t / 2]! = js[t / 2]?.getD 0 := by simp [hd]
    rw [e]
    have hm : t % 2 < (encT k (js[t / 2]?.getD 0)).length := by simp [encT]; omega
    rw [getElem!_pos (encT k (js[t / 2]?.getD 0)) (t % 2) hm, List.getElem?_eq_getElem hm]
  · rw [List.getElem?_eq_none (by simp; omega), List.getElem?_eq_none (by rw [cellsT_length]; omega)]

set_option maxHeartbeats 1000000 in
theorem cmp_isNaN.calls (x : Int) (w : World) : Calls Try.prog 58 #[.int .u8 x] w fun e w' => e = .returned (.bool false) ∧ w' = w := by
  go_enter Try.func58, Try.ntmps58
  go_wp2
  go_ret
  exact ⟨rfl, rfl⟩
set_option maxHeartbeats 1000000 in
theorem cmp_Compare.calls (x y : Int) (w : World) : Calls Try.prog 40 #[.int .u8 x, .int .u8 y] w fun e w' => e = .returned (.int .i64 (Lib.compareInt x y)) ∧ w' = w := by
  by_cases h1 : x < y
  · have e : Lib.compareInt x y = -1 := by simp [Lib.compareInt, h1]
    rw [e]
    clear e
    go_enter Try.func40, Try.ntmps40
    go_wp2_with (go_at_call 58; refine (cmp_isNaN.calls _ _).mono ?_; rintro e w' ⟨rfl, rfl⟩)
    go_ret
    exact ⟨rfl, rfl⟩
  · by_cases h2 : y < x
    · have e : Lib.compareInt x y = 1 := by simp [Lib.compareInt, h1, h2]
      rw [e]
      clear e
      go_enter Try.func40, Try.ntmps40
      go_wp2_with (go_at_call 58; refine (cmp_isNaN.calls _ _).mono ?_; rintro e w' ⟨rfl, rfl⟩)
      go_ret
      exact ⟨rfl, rfl⟩
    · have e : Lib.compareInt x y = 0 := by simp [Lib.compareInt, h1, h2]
      rw [e]
      clear e
      go_enter Try.func40, Try.ntmps40
      go_wp2_with (go_at_call 58; refine (cmp_isNaN.calls _ _).mono ?_; rintro e w' ⟨rfl, rfl⟩)
      go_ret
      exact ⟨rfl, rfl⟩
set_option maxHeartbeats 1000000 in
theorem closure39 (k x y : Int) (W : World) : Calls Try.prog 39 #[.agg #[.int .u8 k, .int .u8 x], .agg #[.int .u8 k, .int .u8 y]] W fun e w' => e = .returned (.int .i64 (Lib.compareInt x y)) ∧ ∃ q os', w' = grow (W.drewN q) os' := by
  have hcon := fun W' => cmp_Compare.calls x y W'
  generalize Lib.compareInt x y = r at hcon ⊢
  go_enter Try.func39, Try.ntmps39
  go_wp2_with (go_at_call 40; refine (hcon _).mono ?_; rintro e w' ⟨rfl, rfl⟩)
  go_ret
  exact ⟨rfl, 0, _, by rw [alloc_eq_grow, alloc_eq_grow, grow_grow]; rfl⟩
theorem cmpLays39 (k : Int) (blk off size : Nat) (w : World) : CmpLays Try.prog 39 #[] (encT k) 2 (fun x y => Lib.compareInt x y) blk off size w := fun _ _ _ _ x y => closure39 k x y _
theorem ltT (x y : Int) : ltOf (fun x y : Int => Lib.compareInt x y) x y = decide (x < y) := by
  unfold ltOf Lib.compareInt
  by_cases h1 : x < y
  · simp [h1]
  · by_cases h2 : y < x <;> simp [h1, h2]
theorem swoT : SWO (ltOf fun x y : Int => Lib.compareInt x y) where
  irrefl x := by rw [ltT]; simp
  trans x y z h1 h2 := by rw [ltT] at *; simp at *; omega
  ntrans x y z h1 h2 := by rw [ltT] at *; simp at *; omega
/-- The row as the sort asks for it. -/
theorem holds_own {base : Nat} {k : Int} {js : List Int} {g cap : Nat} {cur : Array Value} {W : World} (hg : W.heap[g]? = some (.cells cur 23 (0, 0))) (ht : cur.toList.take (js.length * 2) = cellsT k js) : HoldsK (encT k) 2 W g 0 js.toArray := by
  intro j hj
  have hj' : j < js.length * 2 := by simpa using hj
  rw [Nat.zero_add]
  refine ⟨?_, by simp [World.frozen?, hg]⟩
  rw [cell_of_row W g j cur 23 (0, 0) hg, ← Array.getElem?_toList]
  have h1 : (cur.toList.take (js.length * 2))[j]? = cur.toList[j]? := by rw [List.getElem?_take]; simp [hj']
  rw [← h1, ht, ← flat_cells, Array.getElem?_toList]
  have hs : j < (flatK (encT k) 2 js.toArray).size := hj
  rw [Array.getElem?_eq_getElem hs, getElem!_pos _ j hs]
  rfl
theorem put_take (F cur : Array Value) (n : Nat) (hF : F.size = n) (hc : n ≤ cur.size) : (putCells id 0 F cur).toList.take n = F.toList := by
  apply List.ext_getElem?
  intro t
  rw [List.getElem?_take, Array.getElem?_toList, Array.getElem?_toList]
  by_cases h : t < n
  · rw [if_pos h, Array.getElem?_eq_getElem (by simp [putCells]; omega), Array.getElem?_eq_getElem (by omega)]
    have ht : t < F.size := by omega
    simp [putCells, ht]
  · rw [if_neg h, Array.getElem?_eq_none (by omega)]
theorem sort_got (k : Int) (js : List Int) (hnd : js.Nodup) (base : Nat) (v : Value) (W : World) (hown : W.ownsRow base 23 2 v js.length (cellsT k js)) (hlen : js.length < 4611686018427387904) :
    Calls Try.prog 38 #[v, .func (.func 39) #[] #[]] W fun e W' => e = .returned (.tuple #[]) ∧ (∃ js' : List Int, js'.Perm js ∧ js'.Pairwise (· < ·) ∧ W'.ownsRow base 23 2 v js.length (cellsT k js')) ∧ W.grownBy W' v.ownBlock := by
  obtain ⟨hl, h⟩ := hown
  have hown : W.ownsRow base 23 2 v js.length (cellsT k js) := ⟨hl, h⟩
  rcases h with ⟨rfl, hn⟩ | ⟨g, cap, cur, rfl, hb, hg, hnc, hcm, hcs, ht⟩
  · obtain rfl : js = [] := List.eq_nil_of_length_eq_zero hn
    have := AnyF.slices_SortFunc_none Try.sortTags none 0 (.func (.func 39) #[] #[]) W
    refine this.mono ?_
    rintro e w' ⟨rfl, rfl⟩
    exact ⟨rfl, ⟨[], List.Perm.refl _, List.Pairwise.nil, hown⟩, World.grownBy.refl _ _⟩
  · have eg : ∀ args w, (callFunc 39 args).run Try.prog w = .ok (.enter 39 args) w := enters_of Try.func39 (by kernel_rfl) rfl
    have hcon := AnyQ.slices_SortFunc_total Try.sortTags 2 Try.isAgg23 Try.sizeOf23 (encT k) (fun _ => rfl) (fun x v hv => by simp [encT] at hv; rcases hv with rfl | rfl <;> rfl) (fun x y => Lib.compareInt x y) swoT 39 #[] g 0 cap js.toArray W eg (cmpLays39 k g 0 _ W) (holds_own (base := base) (cap := cap) hg ht) (blk_lt hg) (by simpa using hlen)
      (fun x y h1 h2 => by rw [ltT] at h1 h2; simp at h1 h2; omega)
    refine hcon.mono ?_
    rintro e w' ⟨rfl, n, os, rfl⟩
    have hperm : (js.mergeSort fun x y => !(ltOf fun x y : Int => Lib.compareInt x y) y x).Perm js := List.mergeSort_perm _ _
    have hle : (js.mergeSort fun x y => !(ltOf fun x y : Int => Lib.compareInt x y) y x).Pairwise (fun x y => (!(ltOf fun x y : Int => Lib.compareInt x y) y x) = true) :=
      List.pairwise_mergeSort (fun a b c h1 h2 => by rw [ltT] at *; simp at *; omega) (fun a b => by rw [ltT, ltT]; simp; omega) js
    have hsz : (js.toArray.toList.mergeSort fun x y => !(ltOf fun x y : Int => Lib.compareInt x y) y x).length = js.length := by simp
    have hlt : g < W.heap.size := blk_lt hg
    have hgo : (sortWorldK (encT k) 2 W g 0 n (js.toArray.toList.mergeSort fun x y => !(ltOf fun x y : Int => Lib.compareInt x y) y x).toArray os).heap[g]? = some (.cells (putCells id 0 (flatK (encT k) 2 (js.toArray.toList.mergeSort fun x y => !(ltOf fun x y : Int => Lib.compareInt x y) y x).toArray) cur) 23 (0, 0)) := by
      show ((W.heap.modify g _) ++ os)[g]? = _
      rw [Array.getElem?_append_left (by simpa using hlt), Array.getElem?_modify, if_pos rfl, hg]
      rfl
    refine ⟨rfl, ⟨_, hperm, ?_, ?_, .inr ⟨g, cap, _, rfl, hb, hgo, hnc, hcm, by simp [putCells, hcs], ?_⟩⟩, rfl, rfl, rfl, ?_, ?_⟩
    · refine (hle.and (hperm.nodup_iff.2 hnd)).imp ?_
      rintro a b ⟨h1, h2⟩
      rw [ltT] at h1
      simp at h1
      omega
    · rw [cellsT_length, hperm.length_eq]
    · rw [← flat_cells]
      have hF : (flatK (encT k) 2 (js.toArray.toList.mergeSort fun x y => !(ltOf fun x y : Int => Lib.compareInt x y) y x).toArray).size = js.length * 2 := by simp
      exact put_take _ _ _ hF (by rw [hcs]; omega)
    · show W.heap.size ≤ ((W.heap.modify g _) ++ os).size
      simp
    · intro i hi hne
      have hne' : g ≠ i := fun e => hne (by rw [e]; rfl)
      show ((W.heap.modify g _) ++ os)[i]? = _
      rw [Array.getElem?_append_left (by simpa using hi), Array.getElem?_modify, if_neg hne']
end Go.Proofs.Ytnmbhhkdiegemaa.H
