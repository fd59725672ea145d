/- The tables of page.pages, and its walk: it hands back a new map, of new maps, that holds them. No conditions. -/
import Derived.Test.YtnmbhhkdiegemaaOwn
import Derived.Test.YtnmbhhkdiegemaaProg
import Derived.ChangeMaps5
import Derived.Maps.RangeRun
namespace Go.Proofs.Ytnmbhhkdiegemaa.H
open Go.RowKit Go.Proofs.YtnmbhhkdiegemaaW.PrintWords Go.Proofs.YtnmbhhkdiegemaaW.PrintLast Go.Proofs.YtnmbhhkdiegemaaW.PrintMore
open Go.ChangeMaps (setBlock)
set_option linter.unusedVariables false
set_option linter.unusedSimpArgs false

/-! ### maps that were laid entry by entry -/
/-- The entries of a list of keys and elements, stamped in their order. -/
def kvEnts : Nat → List (Int × Value) → List MapEntry
  | _, [] => []
  | i, (k, v) :: l => ⟨.int .u8 k, v, i⟩ :: kvEnts (i + 1) l
def kvObj (l : List (Int × Value)) : Obj := .map (kvEnts 0 l).toArray l.length
theorem kvEnts_snoc (x : Int × Value) : ∀ (l : List (Int × Value)) (i : Nat), kvEnts i (l ++ [x]) = kvEnts i l ++ [⟨.int .u8 x.1, x.2, i + l.length⟩]
  | [], i => rfl
  | y :: l, i => by
    show _ :: kvEnts (i + 1) (l ++ [x]) = _
    rw [kvEnts_snoc x l (i + 1)]
    simp [kvEnts]
    omega
/-- The element of a key. -/
def kvFind (k : Int) : List (Int × Value) → Option Value
  | [] => none
  | (j, v) :: l => if k = j then some v else kvFind k l
theorem findNow_kv (k : Int) : ∀ (l : List (Int × Value)) (i j : Nat), (kvFind k l = none ∧ Instr.findNow (.int .u8) (.int .u8 k) (kvEnts i l) j = some none) ∨ ∃ m v, kvFind k l = some v ∧ Instr.findNow (.int .u8) (.int .u8 k) (kvEnts i l) j = some (some (m, v))
  | [], i, j => .inl ⟨rfl, rfl⟩
  | (k', v) :: l, i, j => by
    by_cases h : k = k'
    · exact .inr ⟨j, v, by simp [kvFind, h], by simp [kvEnts, Instr.findNow, Instr.sameNow, h]⟩
    · have e : Instr.sameNow (.int .u8) (.int .u8 k) (.int .u8 k') = some false := by simp [Instr.sameNow, h]
      rcases findNow_kv k l (i + 1) (j + 1) with ⟨h1, h2⟩ | ⟨m, u, h1, h2⟩
      · exact .inl ⟨by simp [kvFind, h, h1], by simp [kvEnts, Instr.findNow, e, h2]⟩
      · exact .inr ⟨m, u, by simp [kvFind, h, h1], by simp [kvEnts, Instr.findNow, e, h2]⟩
theorem kvFind_none {k : Int} : ∀ {l : List (Int × Value)}, k ∉ l.map (·.1) → kvFind k l = none
  | [], _ => rfl
  | (j, v) :: l, h => by
    simp only [List.map_cons, List.mem_cons, not_or] at h
    simp [kvFind, h.1, kvFind_none h.2]

/-! ### the world, and some blocks behind its own -/
def gw (w : World) (bs : List Obj) : World := { w with heap := w.heap ++ bs.toArray }
theorem gw_nil (w : World) : gw w [] = w := by simp [gw]
theorem gw_size (w : World) (bs : List Obj) : (gw w bs).heap.size = w.heap.size + bs.length := by simp [gw]
theorem gw_get (w : World) (bs : List Obj) (i : Nat) : (gw w bs).heap[w.heap.size + i]? = bs[i]? := by
  show (w.heap ++ bs.toArray)[w.heap.size + i]? = _
  rw [Array.getElem?_append_right (by omega)]
  simp
theorem gw_old (w : World) (bs : List Obj) {i : Nat} (h : i < w.heap.size) : (gw w bs).heap[i]? = w.heap[i]? := by
  show (w.heap ++ bs.toArray)[i]? = _
  rw [Array.getElem?_append_left h]
theorem gw_alloc (w : World) (bs : List Obj) (o : Obj) : (gw w bs).alloc o = gw w (bs ++ [o]) := by
  unfold gw World.alloc
  simp only [World.mk.injEq, and_true, true_and]
  apply Array.toList_inj.1
  simp
theorem gw_set (w : World) (bs : List Obj) (i : Nat) (o : Obj) : setBlock (gw w bs) (w.heap.size + i) o = gw w (bs.set i o) := by
  unfold gw setBlock
  simp only [World.mk.injEq, and_true, true_and]
  apply Array.toList_inj.1
  simp
theorem gw_cons (w : World) (b : Obj) (bs : List Obj) : gw w (b :: bs) = gw (w.alloc b) bs := by
  unfold gw World.alloc
  simp only [World.mk.injEq, and_true, true_and]
  apply Array.toList_inj.1
  simp
theorem gw_below' {n : Nat} {w : World} : ∀ (bs : List Obj) (W : World), n ≤ W.heap.size → Below n w W → Below n w (gw W bs)
  | [], W, _, h => by rw [gw_nil]; exact h
  | b :: bs, W, hn, h => by rw [gw_cons]; exact gw_below' bs _ (by simp; omega) (h.alloc hn _)
theorem gw_below (w : World) (bs : List Obj) : Below w.heap.size w (gw w bs) := gw_below' bs w (Nat.le_refl _) (Below.refl _ _)

/-! ### steps -/
section
variable {P : Program} {ops : Array Oper} {Q : Exit → Act → World → Prop} {rest : List Oper} {a : Act} {o : Oper} {w : World} {bs : List Obj}
theorem mk_step {N : Tmp} (hd : o.dst = some N) (hg : o.guard = none) {t : TypeId} (ho : o.op = .makeMap t none) {n : Nat} (hn : bs.length = n) {bs' : List Obj} (hb : bs ++ [kvObj []] = bs')
    (h : wpList P ops Q rest (a.put (some N) (.map (some (w.heap.size + n)))) (gw w bs')) : wpList P ops Q (o :: rest) a (gw w bs) := by
  subst hn hb
  have hrun : (execOp a.eval o).run P (gw w bs) = .ok (.value (.map (some (w.heap.size + bs.length)))) (gw w (bs ++ [kvObj []])) := by
    rw [← gw_alloc, ← gw_size]
    unfold execOp
    simp only [ho]
    rfl
  refine Kd.event_run hg hrun ?_
  rw [hd]
  exact h
theorem mk_step0 {N : Tmp} (hd : o.dst = some N) (hg : o.guard = none) {t : TypeId} (ho : o.op = .makeMap t none) (h : wpList P ops Q rest (a.put (some N) (.map (some (w.heap.size + 0)))) (gw w [kvObj []])) : wpList P ops Q (o :: rest) a w := by
  have := mk_step (w := w) (bs := []) (ops := ops) (rest := rest) (a := a) (Q := Q) (P := P) hd hg ho rfl rfl h
  rwa [gw_nil] at this
theorem nodup_take {k : Int} {v : Value} : ∀ {l : List (Int × Value)} {j : Nat}, (l.map (·.1)).Nodup → l[j]? = some (k, v) → k ∉ (l.take j).map (·.1)
  | [], _, _, h => by simp at h
  | x :: l, 0, _, _ => by simp
  | x :: l, j + 1, hn, h => by
    simp only [List.map_cons, List.nodup_cons] at hn
    have h' : l[j]? = some (k, v) := by simpa using h
    have := nodup_take hn.2 h'
    have hm : k ∈ l.map (·.1) := List.mem_map.2 ⟨(k, v), List.mem_of_getElem? h', rfl⟩
    simp only [List.take_succ_cons, List.map_cons, List.mem_cons, not_or]
    exact ⟨fun e => hn.1 (e ▸ hm), this⟩
theorem ins_step (hd : o.dst = none) (hg : o.guard = none) {mt kt et : TypeId} {m v : Tmp} {k : Int} (ho : o.op = .insert mt (.tmp m) (.const (.int .u8 k)) (.tmp v))
    {i j : Nat} {l : List (Int × Value)} {x : Value} (hm : a.eval (.tmp m) = .map (some (w.heap.size + i))) (hv : a.eval (.tmp v) = x) (ht : P.underlying mt = some (.map kt et)) (hk : P.underlying kt = some (.int .u8))
    (hb : bs[i]? = some (kvObj (l.take j))) (hl : l[j]? = some (k, x)) (hn : (l.map (·.1)).Nodup) {bs' : List Obj} (hb' : bs.set i (kvObj (l.take (j + 1))) = bs')
    (h : wpList P ops Q rest a (gw w bs')) : wpList P ops Q (o :: rest) a (gw w bs) := by
  subst hb'
  have hw : (gw w bs).heap[w.heap.size + i]? = some (.map (kvEnts 0 (l.take j)).toArray (l.take j).length) := (gw_get w bs i).trans hb
  have hfree : Instr.findNow (.int .u8) (.int .u8 k) (kvEnts 0 (l.take j)) 0 = some none := by
    rcases findNow_kv k (l.take j) 0 0 with ⟨_, h2⟩ | ⟨m, u, h1, _⟩
    · exact h2
    · rw [kvFind_none (nodup_take hn hl)] at h1; cases h1
  have hobj : kvObj (l.take (j + 1)) = .map ((kvEnts 0 (l.take j)).toArray.push ⟨.int .u8 k, x, (l.take j).length⟩) ((l.take j).length + 1) := by
    have e : l.take (j + 1) = l.take j ++ [(k, x)] := by rw [List.take_add_one, hl]; rfl
    rw [e]
    unfold kvObj
    rw [kvEnts_snoc]
    simp
  have hm' : a.tmps.getD m undef = .map (some (w.heap.size + i)) := hm
  have hv' : a.tmps.getD v undef = x := hv
  refine wpList_plain hg fun K hK => ?_
  unfold Oper.wp execOp
  simp only [ho, hm', hv', Act.eval, Instr.mapUpdate, Sem.run_bind, run_underlying ht, Result.andThen, MapKept.run_getObj_map hw, MapKept.run_checkKey hk (show MapKept.IsKey (.int .u8) (.int .u8 k) from rfl), MapKept.run_findKey hk hfree, MapKept.run_setObj_map _ hw]
  refine hK _ _ ?_
  have e : gw w (bs.set i (kvObj (l.take (j + 1)))) = _ := (gw_set w bs i _).symm
  rw [hobj] at e h
  rw [e] at h
  rw [hd]
  exact h
end

/-- The tags of page AirSync. -/
def T0 : List (Int × ByteArray) := [(5, ⟨#[83, 121, 110, 99]⟩), (6, ⟨#[82, 101, 115, 112, 111, 110, 115, 101, 115]⟩), (7, ⟨#[65, 100, 100]⟩), (8, ⟨#[67, 104, 97, 110, 103, 101]⟩), (9, ⟨#[68, 101, 108, 101, 116, 101]⟩), (10, ⟨#[70, 101, 116, 99, 104]⟩), (11, ⟨#[83, 121, 110, 99, 75, 101, 121]⟩), (12, ⟨#[67, 108, 105, 101, 110, 116, 73, 100]⟩), (13, ⟨#[83, 101, 114, 118, 101, 114, 73, 100]⟩), (14, ⟨#[83, 116, 97, 116, 117, 115]⟩), (15, ⟨#[67, 111, 108, 108, 101, 99, 116, 105, 111, 110]⟩), (18, ⟨#[67, 111, 108, 108, 101, 99, 116, 105, 111, 110, 73, 100]⟩), (19, ⟨#[71, 101, 116, 67, 104, 97, 110, 103, 101, 115]⟩), (20, ⟨#[77, 111, 114, 101, 65, 118, 97, 105, 108, 97, 98, 108, 101]⟩), (21, ⟨#[87, 105, 110, 100, 111, 119, 83, 105, 122, 101]⟩), (22, ⟨#[67, 111, 109, 109, 97, 110, 100, 115]⟩), (27, ⟨#[67, 111, 110, 102, 108, 105, 99, 116]⟩), (29, ⟨#[65, 112, 112, 108, 105, 99, 97, 116, 105, 111, 110, 68, 97, 116, 97]⟩), (32, ⟨#[83, 117, 112, 112, 111, 114, 116, 101, 100]⟩)]
/-- The tags of page Contacts. -/
def T1 : List (Int × ByteArray) := [(25, ⟨#[67, 111, 109, 112, 97, 110, 121, 78, 97, 109, 101]⟩), (27, ⟨#[69, 109, 97, 105, 108]⟩), (30, ⟨#[70, 105, 108, 101, 65, 115]⟩), (31, ⟨#[70, 105, 114, 115, 116, 78, 97, 109, 101]⟩), (39, ⟨#[72, 111, 109, 101, 80, 104, 111, 110, 101]⟩), (41, ⟨#[76, 97, 115, 116, 78, 97, 109, 101]⟩), (43, ⟨#[77, 111, 98, 105, 108, 101, 80, 104, 111, 110, 101]⟩), (60, ⟨#[80, 105, 99, 116, 117, 114, 101]⟩)]
/-- The tags of page ItemEstimate. -/
def T2 : List (Int × ByteArray) := [(5, ⟨#[71, 101, 116, 73, 116, 101, 109, 69, 115, 116, 105, 109, 97, 116, 101]⟩), (12, ⟨#[69, 115, 116, 105, 109, 97, 116, 101]⟩)]
/-- The tags of page FolderHierarchy. -/
def T3 : List (Int × ByteArray) := [(5, ⟨#[70, 111, 108, 100, 101, 114, 115]⟩), (6, ⟨#[70, 111, 108, 100, 101, 114, 65, 100, 100]⟩), (7, ⟨#[68, 105, 115, 112, 108, 97, 121, 78, 97, 109, 101]⟩), (8, ⟨#[70, 111, 108, 100, 101, 114, 73, 100]⟩), (9, ⟨#[80, 97, 114, 101, 110, 116, 73, 100]⟩), (16, ⟨#[70, 111, 108, 100, 101, 114, 71, 111, 110, 101]⟩), (17, ⟨#[70, 111, 108, 100, 101, 114, 67, 104, 97, 110, 103, 101]⟩), (19, ⟨#[70, 111, 108, 100, 101, 114, 67, 114, 101, 97, 116, 101]⟩), (20, ⟨#[70, 111, 108, 100, 101, 114, 68, 101, 108, 101, 116, 101]⟩), (21, ⟨#[70, 111, 108, 100, 101, 114, 85, 112, 100, 97, 116, 101]⟩), (22, ⟨#[70, 111, 108, 100, 101, 114, 83, 121, 110, 99]⟩)]
/-- The tags of page Ping. -/
def T4 : List (Int × ByteArray) := [(5, ⟨#[80, 105, 110, 103]⟩), (8, ⟨#[72, 101, 97, 114, 116, 98, 101, 97, 116]⟩), (9, ⟨#[80, 105, 110, 103, 70, 111, 108, 100, 101, 114, 115]⟩), (11, ⟨#[80, 105, 110, 103, 73, 100]⟩)]
/-- The tags of page Provision. -/
def T5 : List (Int × ByteArray) := [(5, ⟨#[80, 114, 111, 118, 105, 115, 105, 111, 110]⟩), (9, ⟨#[80, 111, 108, 105, 99, 121, 75, 101, 121]⟩), (10, ⟨#[80, 104, 97, 115, 101]⟩), (12, ⟨#[82, 101, 109, 111, 116, 101, 87, 105, 112, 101]⟩)]
/-- The pages. -/
def PG : List (Int × ByteArray × List (Int × ByteArray)) := [(0, ⟨#[65, 105, 114, 83, 121, 110, 99]⟩, T0), (1, ⟨#[67, 111, 110, 116, 97, 99, 116, 115]⟩, T1), (6, ⟨#[73, 116, 101, 109, 69, 115, 116, 105, 109, 97, 116, 101]⟩, T2), (7, ⟨#[70, 111, 108, 100, 101, 114, 72, 105, 101, 114, 97, 114, 99, 104, 121]⟩, T3), (13, ⟨#[80, 105, 110, 103]⟩, T4), (14, ⟨#[80, 114, 111, 118, 105, 115, 105, 111, 110]⟩, T5)]
def tv (T : List (Int × ByteArray)) : List (Int × Value) := T.map fun p => (p.1, .agg #[.string p.2])
def pv : Nat → List (Int × ByteArray × List (Int × ByteArray)) → List (Int × Value)
  | _, [] => []
  | n, (k, s, _) :: l => (k, .agg #[.string s, .map (some n)]) :: pv (n + 1) l
/-- The blocks that page.pages lays, the first at n. -/
def pageHeap (n : Nat) : List Obj := kvObj (pv (n + 1) PG) :: PG.map fun p => kvObj (tv p.2.2)

theorem run_build70 (s : ByteArray) (W : World) : (Instr.build 70 #[(0, .string s)]).run Try.prog W = .ok (.agg #[.string s]) W := by kernel_rfl
theorem run_build61 (s : ByteArray) (m : Option Nat) (W : World) : (Instr.build 61 #[(0, .string s), (1, .map m)]).run Try.prog W = .ok (.agg #[.string s, .map m]) W := by kernel_rfl
theorem u63 : Try.prog.underlying 63 = some (.map 5 61) := Try.underlying63
theorem u59 : Try.prog.underlying 59 = some (.map 5 70) := Try.underlying59
theorem u5 : Try.prog.underlying 5 = some (.int .u8) := Try.underlying5
section
variable {ops : Array Oper} {Q : Exit → Act → World → Prop} {rest : List Oper} {a : Act} {o : Oper} {W : World}
theorem b70_step {N : Tmp} (hd : o.dst = some N) (hg : o.guard = none) (s : ByteArray) (ho : o.op = .build 70 #[(0, .const (.string s))]) (h : wpList Try.prog ops Q rest (a.put (some N) (.agg #[.string s])) W) : wpList Try.prog ops Q (o :: rest) a W := by
  have hrun : (execOp a.eval o).run Try.prog W = .ok (.value (.agg #[.string s])) W := by
    unfold execOp
    simp only [ho, Act.eval, List.map_toArray, List.map_cons, List.map_nil, Sem.run_bind, run_build70, Result.andThen]
    rfl
  refine Kd.event_run hg hrun ?_
  rw [hd]
  exact h
theorem b61_step {N v : Tmp} (hd : o.dst = some N) (hg : o.guard = none) (s : ByteArray) (ho : o.op = .build 61 #[(0, .const (.string s)), (1, .tmp v)]) {m : Option Nat} (hv : a.eval (.tmp v) = .map m) (h : wpList Try.prog ops Q rest (a.put (some N) (.agg #[.string s, .map m])) W) : wpList Try.prog ops Q (o :: rest) a W := by
  have hv' : a.tmps.getD v undef = .map m := hv
  have hrun : (execOp a.eval o).run Try.prog W = .ok (.value (.agg #[.string s, .map m])) W := by
    unfold execOp
    simp only [ho, Act.eval, List.map_toArray, List.map_cons, List.map_nil, hv', Sem.run_bind, run_build61, Result.andThen]
    rfl
  refine Kd.event_run hg hrun ?_
  rw [hd]
  exact h
theorem mv_step {N v : Tmp} (hd : o.dst = some N) (hg : o.guard = none) (ho : o.op = .move (.tmp v)) {x : Value} (hv : a.eval (.tmp v) = x) (h : wpList Try.prog ops Q rest (a.put (some N) x) W) : wpList Try.prog ops Q (o :: rest) a W := by
  have hrun : (execOp a.eval o).run Try.prog W = .ok (.value x) W := by
    unfold execOp
    simp only [ho, hv]
    rfl
  refine Kd.event_run hg hrun ?_
  rw [hd]
  exact h
end

theorem pv_nodup {n : Nat} : ((pv n PG).map (·.1)).Nodup := show ([0, 1, 6, 7, 13, 14] : List Int).Nodup by decide
set_option maxHeartbeats 8000000 in
set_option maxRecDepth 100000 in
theorem pages.calls (w : World) : Calls Try.prog 35 #[] w fun e w' => e = .returned (.map (some w.heap.size)) ∧ w' = gw w (pageHeap w.heap.size) := by
  go_enter Try.func35, Try.ntmps35
  go_upto_region 1 with (fail)
  refine wp_region_lit ?_
  simp only [List.append_eq, List.cons_append, List.nil_append]
  refine mk_step0 rfl rfl rfl ?_
  simp only [Act.put, List.setIfInBounds_toArray, List.set_cons_succ, List.set_cons_zero]
  refine mk_step rfl rfl rfl (n := 1) rfl (bs' := [kvObj ((pv (w.heap.size + 1) PG).take 0), kvObj ((tv T0).take 0)]) rfl ?_
  simp only [Act.put, List.setIfInBounds_toArray, List.set_cons_succ, List.set_cons_zero]
  refine b70_step rfl rfl _ rfl ?_
  simp only [Act.put, List.setIfInBounds_toArray, List.set_cons_succ, List.set_cons_zero]
  refine ins_step rfl rfl rfl (i := 1) (j := 0) (l := tv T0) rfl rfl u59 u5 rfl rfl (by decide) (bs' := [kvObj ((pv (w.heap.size + 1) PG).take 0), kvObj ((tv T0).take 1)]) rfl ?_
  refine b70_step rfl rfl _ rfl ?_
  simp only [Act.put, List.setIfInBounds_toArray, List.set_cons_succ, List.set_cons_zero]
  refine ins_step rfl rfl rfl (i := 1) (j := 1) (l := tv T0) rfl rfl u59 u5 rfl rfl (by decide) (bs' := [kvObj ((pv (w.heap.size + 1) PG).take 0), kvObj ((tv T0).take 2)]) rfl ?_
  refine b70_step rfl rfl _ rfl ?_
  simp only [Act.put, List.setIfInBounds_toArray, List.set_cons_succ, List.set_cons_zero]
  refine ins_step rfl rfl rfl (i := 1) (j := 2) (l := tv T0) rfl rfl u59 u5 rfl rfl (by decide) (bs' := [kvObj ((pv (w.heap.size + 1) PG).take 0), kvObj ((tv T0).take 3)]) rfl ?_
  refine b70_step rfl rfl _ rfl ?_
  simp only [Act.put, List.setIfInBounds_toArray, List.set_cons_succ, List.set_cons_zero]
  refine ins_step rfl rfl rfl (i := 1) (j := 3) (l := tv T0) rfl rfl u59 u5 rfl rfl (by decide) (bs' := [kvObj ((pv (w.heap.size + 1) PG).take 0), kvObj ((tv T0).take 4)]) rfl ?_
  refine b70_step rfl rfl _ rfl ?_
  simp only [Act.put, List.setIfInBounds_toArray, List.set_cons_succ, List.set_cons_zero]
  refine ins_step rfl rfl rfl (i := 1) (j := 4) (l := tv T0) rfl rfl u59 u5 rfl rfl (by decide) (bs' := [kvObj ((pv (w.heap.size + 1) PG).take 0), kvObj ((tv T0).take 5)]) rfl ?_
  refine b70_step rfl rfl _ rfl ?_
  simp only [Act.put, List.setIfInBounds_toArray, List.set_cons_succ, List.set_cons_zero]
  refine ins_step rfl rfl rfl (i := 1) (j := 5) (l := tv T0) rfl rfl u59 u5 rfl rfl (by decide) (bs' := [kvObj ((pv (w.heap.size + 1) PG).take 0), kvObj ((tv T0).take 6)]) rfl ?_
  refine b70_step rfl rfl _ rfl ?_
  simp only [Act.put, List.setIfInBounds_toArray, List.set_cons_succ, List.set_cons_zero]
  refine ins_step rfl rfl rfl (i := 1) (j := 6) (l := tv T0) rfl rfl u59 u5 rfl rfl (by decide) (bs' := [kvObj ((pv (w.heap.size + 1) PG).take 0), kvObj ((tv T0).take 7)]) rfl ?_
  refine b70_step rfl rfl _ rfl ?_
  simp only [Act.put, List.setIfInBounds_toArray, List.set_cons_succ, List.set_cons_zero]
  refine ins_step rfl rfl rfl (i := 1) (j := 7) (l := tv T0) rfl rfl u59 u5 rfl rfl (by decide) (bs' := [kvObj ((pv (w.heap.size + 1) PG).take 0), kvObj ((tv T0).take 8)]) rfl ?_
  refine b70_step rfl rfl _ rfl ?_
  simp only [Act.put, List.setIfInBounds_toArray, List.set_cons_succ, List.set_cons_zero]
  refine ins_step rfl rfl rfl (i := 1) (j := 8) (l := tv T0) rfl rfl u59 u5 rfl rfl (by decide) (bs' := [kvObj ((pv (w.heap.size + 1) PG).take 0), kvObj ((tv T0).take 9)]) rfl ?_
  refine b70_step rfl rfl _ rfl ?_
  simp only [Act.put, List.setIfInBounds_toArray, List.set_cons_succ, List.set_cons_zero]
  refine ins_step rfl rfl rfl (i := 1) (j := 9) (l := tv T0) rfl rfl u59 u5 rfl rfl (by decide) (bs' := [kvObj ((pv (w.heap.size + 1) PG).take 0), kvObj ((tv T0).take 10)]) rfl ?_
  refine b70_step rfl rfl _ rfl ?_
  simp only [Act.put, List.setIfInBounds_toArray, List.set_cons_succ, List.set_cons_zero]
  refine ins_step rfl rfl rfl (i := 1) (j := 10) (l := tv T0) rfl rfl u59 u5 rfl rfl (by decide) (bs' := [kvObj ((pv (w.heap.size + 1) PG).take 0), kvObj ((tv T0).take 11)]) rfl ?_
  refine b70_step rfl rfl _ rfl ?_
  simp only [Act.put, List.setIfInBounds_toArray, List.set_cons_succ, List.set_cons_zero]
  refine ins_step rfl rfl rfl (i := 1) (j := 11) (l := tv T0) rfl rfl u59 u5 rfl rfl (by decide) (bs' := [kvObj ((pv (w.heap.size + 1) PG).take 0), kvObj ((tv T0).take 12)]) rfl ?_
  refine b70_step rfl rfl _ rfl ?_
  simp only [Act.put, List.setIfInBounds_toArray, List.set_cons_succ, List.set_cons_zero]
  refine ins_step rfl rfl rfl (i := 1) (j := 12) (l := tv T0) rfl rfl u59 u5 rfl rfl (by decide) (bs' := [kvObj ((pv (w.heap.size + 1) PG).take 0), kvObj ((tv T0).take 13)]) rfl ?_
  refine b70_step rfl rfl _ rfl ?_
  simp only [Act.put, List.setIfInBounds_toArray, List.set_cons_succ, List.set_cons_zero]
  refine ins_step rfl rfl rfl (i := 1) (j := 13) (l := tv T0) rfl rfl u59 u5 rfl rfl (by decide) (bs' := [kvObj ((pv (w.heap.size + 1) PG).take 0), kvObj ((tv T0).take 14)]) rfl ?_
  refine b70_step rfl rfl _ rfl ?_
  simp only [Act.put, List.setIfInBounds_toArray, List.set_cons_succ, List.set_cons_zero]
  refine ins_step rfl rfl rfl (i := 1) (j := 14) (l := tv T0) rfl rfl u59 u5 rfl rfl (by decide) (bs' := [kvObj ((pv (w.heap.size + 1) PG).take 0), kvObj ((tv T0).take 15)]) rfl ?_
  refine b70_step rfl rfl _ rfl ?_
  simp only [Act.put, List.setIfInBounds_toArray, List.set_cons_succ, List.set_cons_zero]
  refine ins_step rfl rfl rfl (i := 1) (j := 15) (l := tv T0) rfl rfl u59 u5 rfl rfl (by decide) (bs' := [kvObj ((pv (w.heap.size + 1) PG).take 0), kvObj ((tv T0).take 16)]) rfl ?_
  refine b70_step rfl rfl _ rfl ?_
  simp only [Act.put, List.setIfInBounds_toArray, List.set_cons_succ, List.set_cons_zero]
  refine ins_step rfl rfl rfl (i := 1) (j := 16) (l := tv T0) rfl rfl u59 u5 rfl rfl (by decide) (bs' := [kvObj ((pv (w.heap.size + 1) PG).take 0), kvObj ((tv T0).take 17)]) rfl ?_
  refine b70_step rfl rfl _ rfl ?_
  simp only [Act.put, List.setIfInBounds_toArray, List.set_cons_succ, List.set_cons_zero]
  refine ins_step rfl rfl rfl (i := 1) (j := 17) (l := tv T0) rfl rfl u59 u5 rfl rfl (by decide) (bs' := [kvObj ((pv (w.heap.size + 1) PG).take 0), kvObj ((tv T0).take 18)]) rfl ?_
  refine b70_step rfl rfl _ rfl ?_
  simp only [Act.put, List.setIfInBounds_toArray, List.set_cons_succ, List.set_cons_zero]
  refine ins_step rfl rfl rfl (i := 1) (j := 18) (l := tv T0) rfl rfl u59 u5 rfl rfl (by decide) (bs' := [kvObj ((pv (w.heap.size + 1) PG).take 0), kvObj ((tv T0).take 19)]) rfl ?_
  refine mv_step rfl rfl rfl rfl ?_
  simp only [Act.put, List.setIfInBounds_toArray, List.set_cons_succ, List.set_cons_zero]
  refine b61_step rfl rfl _ rfl rfl ?_
  simp only [Act.put, List.setIfInBounds_toArray, List.set_cons_succ, List.set_cons_zero]
  refine ins_step rfl rfl rfl (i := 0) (j := 0) (l := pv (w.heap.size + 1) PG) rfl rfl u63 u5 rfl rfl pv_nodup (bs' := [kvObj ((pv (w.heap.size + 1) PG).take 1), kvObj ((tv T0).take 19)]) rfl ?_
  refine mk_step rfl rfl rfl (n := 2) rfl (bs' := [kvObj ((pv (w.heap.size + 1) PG).take 1), kvObj ((tv T0).take 19), kvObj ((tv T1).take 0)]) rfl ?_
  simp only [Act.put, List.setIfInBounds_toArray, List.set_cons_succ, List.set_cons_zero]
  refine b70_step rfl rfl _ rfl ?_
  simp only [Act.put, List.setIfInBounds_toArray, List.set_cons_succ, List.set_cons_zero]
  refine ins_step rfl rfl rfl (i := 2) (j := 0) (l := tv T1) rfl rfl u59 u5 rfl rfl (by decide) (bs' := [kvObj ((pv (w.heap.size + 1) PG).take 1), kvObj ((tv T0).take 19), kvObj ((tv T1).take 1)]) rfl ?_
  refine b70_step rfl rfl _ rfl ?_
  simp only [Act.put, List.setIfInBounds_toArray, List.set_cons_succ, List.set_cons_zero]
  refine ins_step rfl rfl rfl (i := 2) (j := 1) (l := tv T1) rfl rfl u59 u5 rfl rfl (by decide) (bs' := [kvObj ((pv (w.heap.size + 1) PG).take 1), kvObj ((tv T0).take 19), kvObj ((tv T1).take 2)]) rfl ?_
  refine b70_step rfl rfl _ rfl ?_
  simp only [Act.put, List.setIfInBounds_toArray, List.set_cons_succ, List.set_cons_zero]
  refine ins_step rfl rfl rfl (i := 2) (j := 2) (l := tv T1) rfl rfl u59 u5 rfl rfl (by decide) (bs' := [kvObj ((pv (w.heap.size + 1) PG).take 1), kvObj ((tv T0).take 19), kvObj ((tv T1).take 3)]) rfl ?_
  refine b70_step rfl rfl _ rfl ?_
  simp only [Act.put, List.setIfInBounds_toArray, List.set_cons_succ, List.set_cons_zero]
  refine ins_step rfl rfl rfl (i := 2) (j := 3) (l := tv T1) rfl rfl u59 u5 rfl rfl (by decide) (bs' := [kvObj ((pv (w.heap.size + 1) PG).take 1), kvObj ((tv T0).take 19), kvObj ((tv T1).take 4)]) rfl ?_
  refine b70_step rfl rfl _ rfl ?_
  simp only [Act.put, List.setIfInBounds_toArray, List.set_cons_succ, List.set_cons_zero]
  refine ins_step rfl rfl rfl (i := 2) (j := 4) (l := tv T1) rfl rfl u59 u5 rfl rfl (by decide) (bs' := [kvObj ((pv (w.heap.size + 1) PG).take 1), kvObj ((tv T0).take 19), kvObj ((tv T1).take 5)]) rfl ?_
  refine b70_step rfl rfl _ rfl ?_
  simp only [Act.put, List.setIfInBounds_toArray, List.set_cons_succ, List.set_cons_zero]
  refine ins_step rfl rfl rfl (i := 2) (j := 5) (l := tv T1) rfl rfl u59 u5 rfl rfl (by decide) (bs' := [kvObj ((pv (w.heap.size + 1) PG).take 1), kvObj ((tv T0).take 19), kvObj ((tv T1).take 6)]) rfl ?_
  refine b70_step rfl rfl _ rfl ?_
  simp only [Act.put, List.setIfInBounds_toArray, List.set_cons_succ, List.set_cons_zero]
  refine ins_step rfl rfl rfl (i := 2) (j := 6) (l := tv T1) rfl rfl u59 u5 rfl rfl (by decide) (bs' := [kvObj ((pv (w.heap.size + 1) PG).take 1), kvObj ((tv T0).take 19), kvObj ((tv T1).take 7)]) rfl ?_
  refine b70_step rfl rfl _ rfl ?_
  simp only [Act.put, List.setIfInBounds_toArray, List.set_cons_succ, List.set_cons_zero]
  refine ins_step rfl rfl rfl (i := 2) (j := 7) (l := tv T1) rfl rfl u59 u5 rfl rfl (by decide) (bs' := [kvObj ((pv (w.heap.size + 1) PG).take 1), kvObj ((tv T0).take 19), kvObj ((tv T1).take 8)]) rfl ?_
  refine mv_step rfl rfl rfl rfl ?_
  simp only [Act.put, List.setIfInBounds_toArray, List.set_cons_succ, List.set_cons_zero]
  refine b61_step rfl rfl _ rfl rfl ?_
  simp only [Act.put, List.setIfInBounds_toArray, List.set_cons_succ, List.set_cons_zero]
  refine ins_step rfl rfl rfl (i := 0) (j := 1) (l := pv (w.heap.size + 1) PG) rfl rfl u63 u5 rfl rfl pv_nodup (bs' := [kvObj ((pv (w.heap.size + 1) PG).take 2), kvObj ((tv T0).take 19), kvObj ((tv T1).take 8)]) rfl ?_
  refine mk_step rfl rfl rfl (n := 3) rfl (bs' := [kvObj ((pv (w.heap.size + 1) PG).take 2), kvObj ((tv T0).take 19), kvObj ((tv T1).take 8), kvObj ((tv T2).take 0)]) rfl ?_
  simp only [Act.put, List.setIfInBounds_toArray, List.set_cons_succ, List.set_cons_zero]
  refine b70_step rfl rfl _ rfl ?_
  simp only [Act.put, List.setIfInBounds_toArray, List.set_cons_succ, List.set_cons_zero]
  refine ins_step rfl rfl rfl (i := 3) (j := 0) (l := tv T2) rfl rfl u59 u5 rfl rfl (by decide) (bs' := [kvObj ((pv (w.heap.size + 1) PG).take 2), kvObj ((tv T0).take 19), kvObj ((tv T1).take 8), kvObj ((tv T2).take 1)]) rfl ?_
  refine b70_step rfl rfl _ rfl ?_
  simp only [Act.put, List.setIfInBounds_toArray, List.set_cons_succ, List.set_cons_zero]
  refine ins_step rfl rfl rfl (i := 3) (j := 1) (l := tv T2) rfl rfl u59 u5 rfl rfl (by decide) (bs' := [kvObj ((pv (w.heap.size + 1) PG).take 2), kvObj ((tv T0).take 19), kvObj ((tv T1).take 8), kvObj ((tv T2).take 2)]) rfl ?_
  refine mv_step rfl rfl rfl rfl ?_
  simp only [Act.put, List.setIfInBounds_toArray, List.set_cons_succ, List.set_cons_zero]
  refine b61_step rfl rfl _ rfl rfl ?_
  simp only [Act.put, List.setIfInBounds_toArray, List.set_cons_succ, List.set_cons_zero]
  refine ins_step rfl rfl rfl (i := 0) (j := 2) (l := pv (w.heap.size + 1) PG) rfl rfl u63 u5 rfl rfl pv_nodup (bs' := [kvObj ((pv (w.heap.size + 1) PG).take 3), kvObj ((tv T0).take 19), kvObj ((tv T1).take 8), kvObj ((tv T2).take 2)]) rfl ?_
  refine mk_step rfl rfl rfl (n := 4) rfl (bs' := [kvObj ((pv (w.heap.size + 1) PG).take 3), kvObj ((tv T0).take 19), kvObj ((tv T1).take 8), kvObj ((tv T2).take 2), kvObj ((tv T3).take 0)]) rfl ?_
  simp only [Act.put, List.setIfInBounds_toArray, List.set_cons_succ, List.set_cons_zero]
  refine b70_step rfl rfl _ rfl ?_
  simp only [Act.put, List.setIfInBounds_toArray, List.set_cons_succ, List.set_cons_zero]
  refine ins_step rfl rfl rfl (i := 4) (j := 0) (l := tv T3) rfl rfl u59 u5 rfl rfl (by decide) (bs' := [kvObj ((pv (w.heap.size + 1) PG).take 3), kvObj ((tv T0).take 19), kvObj ((tv T1).take 8), kvObj ((tv T2).take 2), kvObj ((tv T3).take 1)]) rfl ?_
  refine b70_step rfl rfl _ rfl ?_
  simp only [Act.put, List.setIfInBounds_toArray, List.set_cons_succ, List.set_cons_zero]
  refine ins_step rfl rfl rfl (i := 4) (j := 1) (l := tv T3) rfl rfl u59 u5 rfl rfl (by decide) (bs' := [kvObj ((pv (w.heap.size + 1) PG).take 3), kvObj ((tv T0).take 19), kvObj ((tv T1).take 8), kvObj ((tv T2).take 2), kvObj ((tv T3).take 2)]) rfl ?_
  refine b70_step rfl rfl _ rfl ?_
  simp only [Act.put, List.setIfInBounds_toArray, List.set_cons_succ, List.set_cons_zero]
  refine ins_step rfl rfl rfl (i := 4) (j := 2) (l := tv T3) rfl rfl u59 u5 rfl rfl (by decide) (bs' := [kvObj ((pv (w.heap.size + 1) PG).take 3), kvObj ((tv T0).take 19), kvObj ((tv T1).take 8), kvObj ((tv T2).take 2), kvObj ((tv T3).take 3)]) rfl ?_
  refine b70_step rfl rfl _ rfl ?_
  simp only [Act.put, List.setIfInBounds_toArray, List.set_cons_succ, List.set_cons_zero]
  refine ins_step rfl rfl rfl (i := 4) (j := 3) (l := tv T3) rfl rfl u59 u5 rfl rfl (by decide) (bs' := [kvObj ((pv (w.heap.size + 1) PG).take 3), kvObj ((tv T0).take 19), kvObj ((tv T1).take 8), kvObj ((tv T2).take 2), kvObj ((tv T3).take 4)]) rfl ?_
  refine b70_step rfl rfl _ rfl ?_
  simp only [Act.put, List.setIfInBounds_toArray, List.set_cons_succ, List.set_cons_zero]
  refine ins_step rfl rfl rfl (i := 4) (j := 4) (l := tv T3) rfl rfl u59 u5 rfl rfl (by decide) (bs' := [kvObj ((pv (w.heap.size + 1) PG).take 3), kvObj ((tv T0).take 19), kvObj ((tv T1).take 8), kvObj ((tv T2).take 2), kvObj ((tv T3).take 5)]) rfl ?_
  refine b70_step rfl rfl _ rfl ?_
  simp only [Act.put, List.setIfInBounds_toArray, List.set_cons_succ, List.set_cons_zero]
  refine ins_step rfl rfl rfl (i := 4) (j := 5) (l := tv T3) rfl rfl u59 u5 rfl rfl (by decide) (bs' := [kvObj ((pv (w.heap.size + 1) PG).take 3), kvObj ((tv T0).take 19), kvObj ((tv T1).take 8), kvObj ((tv T2).take 2), kvObj ((tv T3).take 6)]) rfl ?_
  refine b70_step rfl rfl _ rfl ?_
  simp only [Act.put, List.setIfInBounds_toArray, List.set_cons_succ, List.set_cons_zero]
  refine ins_step rfl rfl rfl (i := 4) (j := 6) (l := tv T3) rfl rfl u59 u5 rfl rfl (by decide) (bs' := [kvObj ((pv (w.heap.size + 1) PG).take 3), kvObj ((tv T0).take 19), kvObj ((tv T1).take 8), kvObj ((tv T2).take 2), kvObj ((tv T3).take 7)]) rfl ?_
  refine b70_step rfl rfl _ rfl ?_
  simp only [Act.put, List.setIfInBounds_toArray, List.set_cons_succ, List.set_cons_zero]
  refine ins_step rfl rfl rfl (i := 4) (j := 7) (l := tv T3) rfl rfl u59 u5 rfl rfl (by decide) (bs' := [kvObj ((pv (w.heap.size + 1) PG).take 3), kvObj ((tv T0).take 19), kvObj ((tv T1).take 8), kvObj ((tv T2).take 2), kvObj ((tv T3).take 8)]) rfl ?_
  refine b70_step rfl rfl _ rfl ?_
  simp only [Act.put, List.setIfInBounds_toArray, List.set_cons_succ, List.set_cons_zero]
  refine ins_step rfl rfl rfl (i := 4) (j := 8) (l := tv T3) rfl rfl u59 u5 rfl rfl (by decide) (bs' := [kvObj ((pv (w.heap.size + 1) PG).take 3), kvObj ((tv T0).take 19), kvObj ((tv T1).take 8), kvObj ((tv T2).take 2), kvObj ((tv T3).take 9)]) rfl ?_
  refine b70_step rfl rfl _ rfl ?_
  simp only [Act.put, List.setIfInBounds_toArray, List.set_cons_succ, List.set_cons_zero]
  refine ins_step rfl rfl rfl (i := 4) (j := 9) (l := tv T3) rfl rfl u59 u5 rfl rfl (by decide) (bs' := [kvObj ((pv (w.heap.size + 1) PG).take 3), kvObj ((tv T0).take 19), kvObj ((tv T1).take 8), kvObj ((tv T2).take 2), kvObj ((tv T3).take 10)]) rfl ?_
  refine b70_step rfl rfl _ rfl ?_
  simp only [Act.put, List.setIfInBounds_toArray, List.set_cons_succ, List.set_cons_zero]
  refine ins_step rfl rfl rfl (i := 4) (j := 10) (l := tv T3) rfl rfl u59 u5 rfl rfl (by decide) (bs' := [kvObj ((pv (w.heap.size + 1) PG).take 3), kvObj ((tv T0).take 19), kvObj ((tv T1).take 8), kvObj ((tv T2).take 2), kvObj ((tv T3).take 11)]) rfl ?_
  refine mv_step rfl rfl rfl rfl ?_
  simp only [Act.put, List.setIfInBounds_toArray, List.set_cons_succ, List.set_cons_zero]
  refine b61_step rfl rfl _ rfl rfl ?_
  simp only [Act.put, List.setIfInBounds_toArray, List.set_cons_succ, List.set_cons_zero]
  refine ins_step rfl rfl rfl (i := 0) (j := 3) (l := pv (w.heap.size + 1) PG) rfl rfl u63 u5 rfl rfl pv_nodup (bs' := [kvObj ((pv (w.heap.size + 1) PG).take 4), kvObj ((tv T0).take 19), kvObj ((tv T1).take 8), kvObj ((tv T2).take 2), kvObj ((tv T3).take 11)]) rfl ?_
  refine mk_step rfl rfl rfl (n := 5) rfl (bs' := [kvObj ((pv (w.heap.size + 1) PG).take 4), kvObj ((tv T0).take 19), kvObj ((tv T1).take 8), kvObj ((tv T2).take 2), kvObj ((tv T3).take 11), kvObj ((tv T4).take 0)]) rfl ?_
  simp only [Act.put, List.setIfInBounds_toArray, List.set_cons_succ, List.set_cons_zero]
  refine b70_step rfl rfl _ rfl ?_
  simp only [Act.put, List.setIfInBounds_toArray, List.set_cons_succ, List.set_cons_zero]
  refine ins_step rfl rfl rfl (i := 5) (j := 0) (l := tv T4) rfl rfl u59 u5 rfl rfl (by decide) (bs' := [kvObj ((pv (w.heap.size + 1) PG).take 4), kvObj ((tv T0).take 19), kvObj ((tv T1).take 8), kvObj ((tv T2).take 2), kvObj ((tv T3).take 11), kvObj ((tv T4).take 1)]) rfl ?_
  refine b70_step rfl rfl _ rfl ?_
  simp only [Act.put, List.setIfInBounds_toArray, List.set_cons_succ, List.set_cons_zero]
  refine ins_step rfl rfl rfl (i := 5) (j := 1) (l := tv T4) rfl rfl u59 u5 rfl rfl (by decide) (bs' := [kvObj ((pv (w.heap.size + 1) PG).take 4), kvObj ((tv T0).take 19), kvObj ((tv T1).take 8), kvObj ((tv T2).take 2), kvObj ((tv T3).take 11), kvObj ((tv T4).take 2)]) rfl ?_
  refine b70_step rfl rfl _ rfl ?_
  simp only [Act.put, List.setIfInBounds_toArray, List.set_cons_succ, List.set_cons_zero]
  refine ins_step rfl rfl rfl (i := 5) (j := 2) (l := tv T4) rfl rfl u59 u5 rfl rfl (by decide) (bs' := [kvObj ((pv (w.heap.size + 1) PG).take 4), kvObj ((tv T0).take 19), kvObj ((tv T1).take 8), kvObj ((tv T2).take 2), kvObj ((tv T3).take 11), kvObj ((tv T4).take 3)]) rfl ?_
  refine b70_step rfl rfl _ rfl ?_
  simp only [Act.put, List.setIfInBounds_toArray, List.set_cons_succ, List.set_cons_zero]
  refine ins_step rfl rfl rfl (i := 5) (j := 3) (l := tv T4) rfl rfl u59 u5 rfl rfl (by decide) (bs' := [kvObj ((pv (w.heap.size + 1) PG).take 4), kvObj ((tv T0).take 19), kvObj ((tv T1).take 8), kvObj ((tv T2).take 2), kvObj ((tv T3).take 11), kvObj ((tv T4).take 4)]) rfl ?_
  refine mv_step rfl rfl rfl rfl ?_
  simp only [Act.put, List.setIfInBounds_toArray, List.set_cons_succ, List.set_cons_zero]
  refine b61_step rfl rfl _ rfl rfl ?_
  simp only [Act.put, List.setIfInBounds_toArray, List.set_cons_succ, List.set_cons_zero]
  refine ins_step rfl rfl rfl (i := 0) (j := 4) (l := pv (w.heap.size + 1) PG) rfl rfl u63 u5 rfl rfl pv_nodup (bs' := [kvObj ((pv (w.heap.size + 1) PG).take 5), kvObj ((tv T0).take 19), kvObj ((tv T1).take 8), kvObj ((tv T2).take 2), kvObj ((tv T3).take 11), kvObj ((tv T4).take 4)]) rfl ?_
  refine mk_step rfl rfl rfl (n := 6) rfl (bs' := [kvObj ((pv (w.heap.size + 1) PG).take 5), kvObj ((tv T0).take 19), kvObj ((tv T1).take 8), kvObj ((tv T2).take 2), kvObj ((tv T3).take 11), kvObj ((tv T4).take 4), kvObj ((tv T5).take 0)]) rfl ?_
  simp only [Act.put, List.setIfInBounds_toArray, List.set_cons_succ, List.set_cons_zero]
  refine b70_step rfl rfl _ rfl ?_
  simp only [Act.put, List.setIfInBounds_toArray, List.set_cons_succ, List.set_cons_zero]
  refine ins_step rfl rfl rfl (i := 6) (j := 0) (l := tv T5) rfl rfl u59 u5 rfl rfl (by decide) (bs' := [kvObj ((pv (w.heap.size + 1) PG).take 5), kvObj ((tv T0).take 19), kvObj ((tv T1).take 8), kvObj ((tv T2).take 2), kvObj ((tv T3).take 11), kvObj ((tv T4).take 4), kvObj ((tv T5).take 1)]) rfl ?_
  refine b70_step rfl rfl _ rfl ?_
  simp only [Act.put, List.setIfInBounds_toArray, List.set_cons_succ, List.set_cons_zero]
  refine ins_step rfl rfl rfl (i := 6) (j := 1) (l := tv T5) rfl rfl u59 u5 rfl rfl (by decide) (bs' := [kvObj ((pv (w.heap.size + 1) PG).take 5), kvObj ((tv T0).take 19), kvObj ((tv T1).take 8), kvObj ((tv T2).take 2), kvObj ((tv T3).take 11), kvObj ((tv T4).take 4), kvObj ((tv T5).take 2)]) rfl ?_
  refine b70_step rfl rfl _ rfl ?_
  simp only [Act.put, List.setIfInBounds_toArray, List.set_cons_succ, List.set_cons_zero]
  refine ins_step rfl rfl rfl (i := 6) (j := 2) (l := tv T5) rfl rfl u59 u5 rfl rfl (by decide) (bs' := [kvObj ((pv (w.heap.size + 1) PG).take 5), kvObj ((tv T0).take 19), kvObj ((tv T1).take 8), kvObj ((tv T2).take 2), kvObj ((tv T3).take 11), kvObj ((tv T4).take 4), kvObj ((tv T5).take 3)]) rfl ?_
  refine b70_step rfl rfl _ rfl ?_
  simp only [Act.put, List.setIfInBounds_toArray, List.set_cons_succ, List.set_cons_zero]
  refine ins_step rfl rfl rfl (i := 6) (j := 3) (l := tv T5) rfl rfl u59 u5 rfl rfl (by decide) (bs' := [kvObj ((pv (w.heap.size + 1) PG).take 5), kvObj ((tv T0).take 19), kvObj ((tv T1).take 8), kvObj ((tv T2).take 2), kvObj ((tv T3).take 11), kvObj ((tv T4).take 4), kvObj ((tv T5).take 4)]) rfl ?_
  refine mv_step rfl rfl rfl rfl ?_
  simp only [Act.put, List.setIfInBounds_toArray, List.set_cons_succ, List.set_cons_zero]
  refine b61_step rfl rfl _ rfl rfl ?_
  simp only [Act.put, List.setIfInBounds_toArray, List.set_cons_succ, List.set_cons_zero]
  refine ins_step rfl rfl rfl (i := 0) (j := 5) (l := pv (w.heap.size + 1) PG) rfl rfl u63 u5 rfl rfl pv_nodup (bs' := [kvObj ((pv (w.heap.size + 1) PG).take 6), kvObj ((tv T0).take 19), kvObj ((tv T1).take 8), kvObj ((tv T2).take 2), kvObj ((tv T3).take 11), kvObj ((tv T4).take 4), kvObj ((tv T5).take 4)]) rfl ?_
  go_wp2
  go_ret
  exact ⟨rfl, rfl⟩
end Go.Proofs.Ytnmbhhkdiegemaa.H
