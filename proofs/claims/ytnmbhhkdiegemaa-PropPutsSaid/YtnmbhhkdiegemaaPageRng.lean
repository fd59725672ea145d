/- A loop over a map that was laid entry by entry: the laws at its operations. No conditions. -/
import Derived.Test.YtnmbhhkdiegemaaPageWalk
import Derived.Maps.RangeWalk
namespace Go.Proofs.Ytnmbhhkdiegemaa.H
open Go.RowKit Go.Proofs.YtnmbhhkdiegemaaW.PrintWords Go.Proofs.YtnmbhhkdiegemaaW.PrintLast Go.Proofs.YtnmbhhkdiegemaaW.PrintMore
open Go.ChangeMaps (setBlock)
set_option linter.unusedVariables false
set_option linter.unusedSimpArgs false

theorem kvEnts_mem {e : MapEntry} : ∀ {l : List (Int × Value)} {i : Nat}, e ∈ kvEnts i l → ∃ j k v, l[j]? = some (k, v) ∧ e = ⟨.int .u8 k, v, i + j⟩
  | [], _, h => by cases h
  | (k, v) :: l, i, h => by
    rcases List.mem_cons.1 h with rfl | h
    · exact ⟨0, k, v, rfl, rfl⟩
    · obtain ⟨j, k', v', h1, rfl⟩ := kvEnts_mem h
      exact ⟨j + 1, k', v', by simpa using h1, by simp; omega⟩
theorem kvEnts_get : ∀ {l : List (Int × Value)} {i j : Nat} {k : Int} {v : Value}, l[j]? = some (k, v) → (⟨.int .u8 k, v, i + j⟩ : MapEntry) ∈ kvEnts i l
  | [], _, _, _, _, h => by simp at h
  | (k', v') :: l, i, 0, k, v, h => by
    simp at h
    obtain ⟨rfl, rfl⟩ := h
    exact List.mem_cons_self
  | (k', v') :: l, i, j + 1, k, v, h => by
    have h' : l[j]? = some (k, v) := by simpa using h
    have := kvEnts_get (i := i + 1) h'
    rw [show i + (j + 1) = i + 1 + j by omega]
    exact List.mem_cons_of_mem _ this
theorem kvEnts_born : ∀ (l : List (Int × Value)) (i : Nat), (kvEnts i l).map (·.born) = (List.range' i l.length)
  | [], _ => rfl
  | (k, v) :: l, i => by
    show i :: (kvEnts (i + 1) l).map (·.born) = _
    rw [kvEnts_born l (i + 1)]
    rfl
theorem kvEnts_nodup (l : List (Int × Value)) (i : Nat) : ((kvEnts i l).map (·.born)).Nodup := by rw [kvEnts_born]; exact List.nodup_range'

/-- A loop over the map in block b is under way: its iterator lies in block r; seen: the places of those entries that have come. -/
def Rng (w : World) (r b : Nat) (l : List (Int × Value)) (seen : Array Nat) : Prop := w.heap[b]? = some (kvObj l) ∧ ∃ c0, w.heap[r]? = some (.mapIter (some b) l.length seen c0) ∧ l.length ≤ c0
theorem Rng.step {w w' : World} {r b : Nat} {l : List (Int × Value)} {seen : Array Nat} (h : Rng w r b l seen) (hb : w'.heap[b]? = w.heap[b]?) (hr : w'.heap[r]? = w.heap[r]?) : Rng w' r b l seen := by
  obtain ⟨h1, c0, h2, h3⟩ := h
  exact ⟨hb.trans h1, c0, hr.trans h2, h3⟩
theorem Rng.lt {w : World} {r b : Nat} {l : List (Int × Value)} {seen : Array Nat} (h : Rng w r b l seen) : b < w.heap.size ∧ r < w.heap.size := by
  obtain ⟨h1, c0, h2, h3⟩ := h
  exact ⟨blk_lt h1, blk_lt h2⟩
theorem Rng.alloc {w : World} {r b : Nat} {l : List (Int × Value)} {seen : Array Nat} (h : Rng w r b l seen) (o : Obj) : Rng (w.alloc o) r b l seen := h.step (Below.heap_alloc w o b h.lt.1) (Below.heap_alloc w o r h.lt.2)
theorem Rng.set {w : World} {r b : Nat} {l : List (Int × Value)} {seen : Array Nat} (h : Rng w r b l seen) {p : Addr} (hb : b ≠ p.block) (hr : r ≠ p.block) (u : Value) : Rng (w.setCell p u) r b l seen := h.step (Below.heap_setCell w p u b hb) (Below.heap_setCell w p u r hr)
theorem Rng.grown {w w' : World} {r b : Nat} {l : List (Int × Value)} {seen : Array Nat} {row : Option Nat} (h : Rng w r b l seen) (hg : w.grownBy w' row) (hb : some b ≠ row) (hr : some r ≠ row) : Rng w' r b l seen := h.step (hg.block b h.lt.1 hb) (hg.block r h.lt.2 hr)
theorem PagesAt.grown {w w' : World} {n : Nat} {row : Option Nat} (h : PagesAt w n) (hg : w.grownBy w' row) (hr : ∀ j, row = some j → j < n ∨ n + 7 ≤ j) : PagesAt w' n := h.step fun g o hgo h1 h2 => blk_grown hgo hg (fun e => by have := hr g e.symm; omega)
section
variable {P : Program} {w : World} {r b : Nat} {l : List (Int × Value)} {seen : Array Nat}
theorem Rng.next (h : Rng w r b l seen) (ty : TypeId) :
    ((∀ j, j < l.length → seen.contains j = true) ∧ (Instr.next (.pointer (some ⟨r, 0, none⟩)) false ty).run P w = .ok (.tuple #[.bool false]) w) ∨
    ∃ j k v w', l[j]? = some (k, v) ∧ seen.contains j = false ∧ (Instr.next (.pointer (some ⟨r, 0, none⟩)) false ty).run P w = .ok (.tuple #[.bool true, .int .u8 k, v]) w' ∧ Rng w' r b l (seen.push j) ∧ w.grownBy w' (some r) ∧ w'.heap.size = w.heap.size ∧
      w'.rangeLeft b r < w.rangeLeft b r ∧ (Instr.entry (.pointer (some ⟨r, 0, none⟩))).run P w' = .ok (.tuple #[.int .u8 k, v]) w' := by
  obtain ⟨hb, c0, hr, hc⟩ := h
  have hb0 : w.heap[b]? = some (.map (kvEnts 0 l).toArray l.length) := hb
  have hne : r ≠ b := fun e => by rw [e, hb] at hr; cases hr
  have hold : ∀ x ∈ ((kvEnts 0 l).toArray).toList, x.born < l.length := fun x hx => by
    obtain ⟨j, k, v, h1, rfl⟩ := kvEnts_mem (by simpa using hx)
    have := (List.getElem?_eq_some_iff.1 h1).1
    simpa using this
  rcases run_next_at (P := P) w ty r b l.length c0 seen _ _ hr hb0 hold hc with ⟨h0, hrun⟩ | ⟨e, he, w1, hal, hrun⟩
  · refine .inl ⟨fun j hj => ?_, hrun⟩
    have h1 : l[j]? = some (l[j].1, l[j].2) := by rw [List.getElem?_eq_getElem hj]
    have := all_seen _ seen h0 _ (by simpa using kvEnts_get (i := 0) h1)
    simpa using this
  · obtain ⟨hem, hes⟩ := mem_left he
    obtain ⟨j, k, v, h1, rfl⟩ := kvEnts_mem (l := l) (i := 0) (by simpa using hem)
    have hes' : seen.contains j = false := by simpa using hes
    have hr1 : w1.heap[r]? = some (.mapIter (some b) l.length seen c0) := by rcases hal with rfl | rfl <;> exact hr
    have hb1 : w1.heap[b]? = some (.map (kvEnts 0 l).toArray l.length) := by rcases hal with rfl | rfl <;> exact hb0
    have hset := MapKept.heap_set (o' := .mapIter (some b) l.length (seen.push (0 + j)) l.length) hr1
    have hb2 : (setBlock w1 r (.mapIter (some b) l.length (seen.push (0 + j)) l.length)).heap[b]? = some (.map (kvEnts 0 l).toArray l.length) := (hset.2 b (fun e1 => hne e1.symm)).trans hb1
    have e0 : seen.push (0 + j) = seen.push j := by rw [Nat.zero_add]
    refine .inr ⟨j, k, v, _, h1, hes', hrun, ⟨hb2, l.length, by rw [← e0]; exact hset.1, Nat.le_refl _⟩, ?_, ?_, ?_, run_entry_at _ r b l.length seen _ _ ⟨.int .u8 k, v, 0 + j⟩ hset.1 hb2 hem (by simpa using kvEnts_nodup l 0)⟩
    · rcases hal with rfl | rfl <;> exact ⟨rfl, rfl, rfl, by simp [setBlock], fun i _ hi => hset.2 i (fun e1 => hi (by rw [e1]))⟩
    · rcases hal with rfl | rfl <;> simp [setBlock]
    · have q1 : (setBlock w1 r (.mapIter (some b) l.length (seen.push (0 + j)) l.length)).rangeLeft b r = (leftOf (kvEnts 0 l).toArray (seen.push (0 + j))).size := by
        unfold World.rangeLeft
        rw [hb2, show (setBlock w1 r (.mapIter (some b) l.length (seen.push (0 + j)) l.length)).heap[r]? = _ from hset.1]
      have q2 : w.rangeLeft b r = (leftOf (kvEnts 0 l).toArray seen).size := by
        unfold World.rangeLeft
        rw [hb0, hr]
      rw [q1, q2]
      exact left_shrinks _ seen _ he
theorem Rng.start {t k e : TypeId} (ht : P.underlying t = some (.map k e)) (hb : w.heap[b]? = some (kvObj l)) :
    ∃ w', (Instr.range t (.map (some b))).run P w = .ok (.pointer (some ⟨w.heap.size, 0, none⟩)) w' ∧ Rng w' w.heap.size b l #[] ∧ w.grownBy w' none ∧ w'.heap.size = w.heap.size + 1 :=
  ⟨_, run_range_map w t k e b _ _ ht hb, ⟨((MapKept.heap_alloc w _).2 b (blk_lt hb)).trans hb, _, (MapKept.heap_alloc w _).1, Nat.le_refl _⟩, World.grownBy_alloc w _ none, by simp⟩
theorem Rng.left {w' : World} (h : Rng w r b l seen) (hb : w'.heap[b]? = w.heap[b]?) (hr : w'.heap[r]? = w.heap[r]?) : w'.rangeLeft b r = w.rangeLeft b r := by
  unfold World.rangeLeft
  rw [hb, hr]
end
section
variable {P : Program} (w : World) {ops : Array Oper} {rest : List Oper} {o : Oper} {a : Act} {Q : Exit → Act → World → Prop}
theorem wpList_range_kv (hg : o.guard = none) (m : Operand) (t : TypeId) (hop : o.op = Op.range t m) {k e : TypeId} (ht : P.underlying t = some (.map k e)) (b : Nat) (l : List (Int × Value)) (hm : a.eval m = .map (some b)) (hb : w.heap[b]? = some (kvObj l))
    (hK : ∀ w' r, r = w.heap.size → Rng w' r b l #[] → w.grownBy w' none → w'.heap.size = w.heap.size + 1 → wpList P ops Q rest (a.put o.dst (.pointer (some ⟨r, 0, none⟩))) w') : wpList P ops Q (o :: rest) a w := by
  refine wpList_plain hg fun K' hK' => ?_
  obtain ⟨w', hrun, r1, r2, r3⟩ := Rng.start (P := P) ht hb
  unfold Oper.wp
  simp [execOp, hop, hm, hrun, Result.andThen]
  exact hK' _ _ (hK w' _ rfl r1 r2 r3)
theorem wpList_next_kv {α : Type} (hg : o.guard = none) (it : Operand) (hop : o.op = Op.next it false) (mk : α → Value) (I : Nat → Int → α → Prop) (r b : Nat) (l : List (Int × Value)) (seen : Array Nat) (inv : ∀ j k v, l[j]? = some (k, v) → ∃ x, v = mk x ∧ I j k x)
    (hit : a.eval it = .pointer (some ⟨r, 0, none⟩)) (h : Rng w r b l seen) (hDone : (∀ j, j < l.length → seen.contains j = true) → wpList P ops Q rest (a.put o.dst (.tuple #[.bool false])) w)
    (hMore : ∀ j k x w', l[j]? = some (k, mk x) → I j k x → seen.contains j = false → Rng w' r b l (seen.push j) → w.grownBy w' (some r) → w'.heap.size = w.heap.size → w'.rangeLeft b r < w.rangeLeft b r → (Instr.entry (.pointer (some ⟨r, 0, none⟩))).run P w' = .ok (.tuple #[.int .u8 k, mk x]) w' →
      wpList P ops Q rest (a.put o.dst (.tuple #[.bool true, .int .u8 k, mk x])) w') : wpList P ops Q (o :: rest) a w := by
  refine wpList_plain hg fun K' hK' => ?_
  unfold Oper.wp
  rcases h.next (P := P) o.type with ⟨h0, hrun⟩ | ⟨j, k, v, w', h1, h2, hrun, h3, h4, h5, h6, h7⟩
  · simp [execOp, hop, hit, hrun, Result.andThen]
    exact hK' _ _ (hDone h0)
  · obtain ⟨x, rfl, hI⟩ := inv j k v h1
    simp [execOp, hop, hit, hrun, Result.andThen]
    exact hK' _ _ (hMore j k x w' h1 hI h2 h3 h4 h5 h6 h7)
end
/-- What a page's entry is. -/
theorem pv_inv (n j : Nat) (k : Int) (v : Value) : ∀ (l : List (Int × ByteArray × TagL)) (m i : Nat), (pv m l)[i]? = some (k, v) → ∃ x : ByteArray × Nat, v = .agg #[.string x.1, .map (some x.2)] ∧ x.2 = m + i ∧ ∃ T, l[i]? = some (k, x.1, T)
  | [], _, _, h => by simp [pv] at h
  | (k', s, T) :: l, m, 0, h => by
    simp [pv] at h
    obtain ⟨rfl, rfl⟩ := h
    exact ⟨(s, m), rfl, rfl, T, rfl⟩
  | (k', s, T) :: l, m, i + 1, h => by
    have h' : (pv (m + 1) l)[i]? = some (k, v) := by simpa [pv] using h
    obtain ⟨x, h1, h2, T', h3⟩ := pv_inv n j k v l (m + 1) i h'
    exact ⟨x, h1, by omega, T', by simpa using h3⟩
theorem tv_inv (T : TagL) (j : Nat) (k : Int) (v : Value) (h : (tv T)[j]? = some (k, v)) : ∃ x : ByteArray, v = .agg #[.string x] ∧ T[j]? = some (k, x) := by
  unfold tv at h
  rw [List.getElem?_map] at h
  obtain ⟨⟨k', s⟩, h1, h2⟩ := Option.map_eq_some_iff.1 h
  cases h2
  exact ⟨s, rfl, h1⟩
theorem pv_length : ∀ (l : List (Int × ByteArray × TagL)) (m : Nat), (pv m l).length = l.length
  | [], _ => rfl
  | (_, _, _) :: l, m => by simp [pv, pv_length l]
/-- The page's block holds its tags. -/
theorem PagesAt.page {w : World} {n j : Nat} {k : Int} {s : ByteArray} {T : TagL} (h : PagesAt w n) (hj : PG[j]? = some (k, s, T)) : w.heap[n + 1 + j]? = some (kvObj (tv T)) := by
  have := h (j + 1) (kvObj (tv T)) (by show (PG.map fun p => kvObj (tv p.2.2))[j]? = _; rw [List.getElem?_map, hj]; rfl)
  rw [show n + 1 + j = n + (j + 1) by omega]
  exact this

/-! ### the tag of two names -/
def findR (s t : ByteArray) : Option (Int × Int) := PG.findSome? fun p => if p.2.1 = s then (p.2.2.find? fun x => x.2 = t).map fun x => (p.1, x.1) else none
theorem findR_none {s t : ByteArray} (h : ∀ (j : Nat) (k : Int) (T : TagL), PG[j]? = some (k, s, T) → ∀ x ∈ T, x.2 ≠ t) : findR s t = none := by
  unfold findR
  rw [List.findSome?_eq_none_iff]
  intro p hp
  obtain ⟨j, hj⟩ := List.getElem?_of_mem hp
  by_cases c : p.2.1 = s
  · rw [if_pos c, Option.map_eq_none_iff, List.find?_eq_none]
    intro x hx
    simpa using h j p.1 p.2.2 (by rw [hj, ← c]) x hx
  · rw [if_neg c]
/-- No two pages have one name; no page has two tags of one name. -/
def apart1 (L : List (Int × ByteArray × TagL)) : Prop := L.Pairwise fun p q => p.2.1 ≠ q.2.1
def apart2 (T : TagL) : Prop := T.Pairwise fun p q => p.2 ≠ q.2
theorem find_apart {t : ByteArray} : ∀ {T : TagL} {i : Nat} {m : Int}, apart2 T → T[i]? = some (m, t) → T.find? (fun x => x.2 = t) = some (m, t)
  | [], _, _, _, h => by simp at h
  | (m', t') :: T, 0, m, _, h => by
    simp at h
    obtain ⟨rfl, rfl⟩ := h
    simp
  | (m', t') :: T, i + 1, m, ha, h => by
    have h' : T[i]? = some (m, t) := by simpa using h
    obtain ⟨h1, h2⟩ := List.pairwise_cons.1 ha
    have hne : t' ≠ t := h1 (m, t) (List.mem_of_getElem? h')
    rw [List.find?_cons]
    simp only [hne, decide_false]
    exact find_apart h2 h'
theorem findSome_apart {s t : ByteArray} {m : Int} : ∀ {L : List (Int × ByteArray × TagL)} {j : Nat} {k : Int} {T : TagL}, apart1 L → L[j]? = some (k, s, T) → (T.find? fun x => x.2 = t) = some (m, t) → (L.findSome? fun p => if p.2.1 = s then (p.2.2.find? fun x => x.2 = t).map fun x => (p.1, x.1) else none) = some (k, m)
  | [], _, _, _, _, h, _ => by simp at h
  | (k', s', T') :: L, 0, k, T, _, h, hf => by
    simp at h
    obtain ⟨rfl, rfl, rfl⟩ := h
    simp [List.findSome?_cons, hf]
  | (k', s', T') :: L, j + 1, k, T, ha, h, hf => by
    have h' : L[j]? = some (k, s, T) := by simpa using h
    obtain ⟨h1, h2⟩ := List.pairwise_cons.1 ha
    have hne : s' ≠ s := h1 (k, s, T) (List.mem_of_getElem? h')
    rw [List.findSome?_cons]
    simp only [hne, if_false]
    exact findSome_apart h2 h' hf
theorem PG_apart1 : apart1 PG := by unfold apart1; decide
theorem PG_apart2 : ∀ p ∈ PG, apart2 p.2.2 := by unfold apart2; decide
theorem findR_some {s t : ByteArray} {j i : Nat} {k m : Int} {T : TagL} (hj : PG[j]? = some (k, s, T)) (hi : T[i]? = some (m, t)) : findR s t = some (k, m) :=
  findSome_apart PG_apart1 hj (find_apart (PG_apart2 _ (List.mem_of_getElem? hj)) hi)
end Go.Proofs.Ytnmbhhkdiegemaa.H
