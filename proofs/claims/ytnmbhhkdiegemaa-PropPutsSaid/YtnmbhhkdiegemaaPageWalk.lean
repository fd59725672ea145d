/- The walks of page.Page and page.Name: what each answers. No conditions. -/
import Derived.Test.YtnmbhhkdiegemaaPageMap
namespace Go.Proofs.Ytnmbhhkdiegemaa.H
open Go.RowKit Go.Proofs.YtnmbhhkdiegemaaW.PrintWords Go.Proofs.YtnmbhhkdiegemaaW.PrintLast Go.Proofs.YtnmbhhkdiegemaaW.PrintMore
open Go.ChangeMaps (setBlock)
set_option linter.unusedVariables false
set_option linter.unusedSimpArgs false

/-! ### looking up -/
section
variable {P : Program} {w : World} {mt kt et : TypeId}
theorem run_lookup_kv (ht : P.underlying mt = some (.map kt et)) (hk : P.underlying kt = some (.int .u8)) {b : Nat} {l : List (Int × Value)} (hb : w.heap[b]? = some (kvObj l)) (k : Int) (z : Value) (hz : ∀ w, (zeroValue et).run P w = .ok z w) (c : Bool) :
    (Instr.lookup mt (.map (some b)) (.int .u8 k) c).run P w = .ok (if c then .tuple #[(kvFind k l).getD z, .bool (kvFind k l).isSome] else (kvFind k l).getD z) w := by
  have hb' : w.heap[b]? = some (.map (kvEnts 0 l).toArray l.length) := hb
  unfold Instr.lookup
  rcases findNow_kv k l 0 0 with ⟨h1, h2⟩ | ⟨m, u, h1, h2⟩
  · simp only [Sem.run_bind, run_underlying ht, Result.andThen, MapKept.run_getObj_map hb', Sem.run_pure, MapKept.run_checkKey hk (show MapKept.IsKey (.int .u8) (.int .u8 k) from rfl), MapKept.run_findKey hk h2, hz, h1]
    rfl
  · simp only [Sem.run_bind, run_underlying ht, Result.andThen, MapKept.run_getObj_map hb', Sem.run_pure, MapKept.run_checkKey hk (show MapKept.IsKey (.int .u8) (.int .u8 k) from rfl), MapKept.run_findKey hk h2, hz, h1]
    rfl
theorem run_lookup_nil (ht : P.underlying mt = some (.map kt et)) (hk : P.underlying kt = some (.int .u8)) (k : Int) (z : Value) (hz : ∀ w, (zeroValue et).run P w = .ok z w) (c : Bool) :
    (Instr.lookup mt (.map none) (.int .u8 k) c).run P w = .ok (if c then .tuple #[z, .bool false] else z) w := by
  have h2 : Instr.findNow (.int .u8) (.int .u8 k) (#[] : Array MapEntry).toList 0 = some none := rfl
  unfold Instr.lookup
  simp only [Sem.run_bind, run_underlying ht, Result.andThen, Sem.run_pure, MapKept.run_checkKey hk (show MapKept.IsKey (.int .u8) (.int .u8 k) from rfl), MapKept.run_findKey hk h2, hz]
end

/-! ### the tables' answers -/
abbrev TagL := List (Int × ByteArray)
/-- The page of a number: its place, its name, its tags. -/
def pgAt (k : Int) : List (Int × ByteArray × TagL) → Option (Nat × ByteArray × TagL)
  | [] => none
  | (j, s, T) :: l => if k = j then some (0, s, T) else (pgAt k l).map fun x => (x.1 + 1, x.2)
def nmOf (k : Int) : ByteArray := match pgAt k PG with | some (_, s, _) => s | none => ⟨#[]⟩
def mpOf (n : Nat) (k : Int) : Option Nat := match pgAt k PG with | some (i, _, _) => some (n + i) | none => none
def okOf (k : Int) : Bool := (pgAt k PG).isSome
def tgOf (k : Int) : TagL := match pgAt k PG with | some (_, _, T) => T | none => []
/-- The name of a number. -/
def tgAt (k : Int) : TagL → Option ByteArray
  | [] => none
  | (j, s) :: l => if k = j then some s else tgAt k l
def tgNm (k : Int) (T : TagL) : ByteArray := (tgAt k T).getD ⟨#[]⟩
def tgOk (k : Int) (T : TagL) : Bool := (tgAt k T).isSome
theorem kvFind_pv (k : Int) : ∀ (l : List (Int × ByteArray × TagL)) (n : Nat), kvFind k (pv n l) = (pgAt k l).map fun x => Value.agg #[.string x.2.1, .map (some (n + x.1))]
  | [], n => rfl
  | (j, s, T) :: l, n => by
    unfold pv kvFind pgAt
    by_cases h : k = j
    · simp [h]
    · rw [if_neg h, if_neg h, kvFind_pv k l (n + 1), Option.map_map]
      congr 1
      funext x
      simp only [Function.comp]
      rw [Nat.add_right_comm, Nat.add_assoc]
theorem kvFind_tv (k : Int) : ∀ T : TagL, kvFind k (tv T) = (tgAt k T).map fun s => Value.agg #[.string s]
  | [] => rfl
  | (j, s) :: l => by
    show kvFind k ((j, .agg #[.string s]) :: tv l) = _
    unfold kvFind tgAt
    by_cases h : k = j
    · simp [h]
    · rw [if_neg h, if_neg h, kvFind_tv k l]
theorem pgAt_get {k : Int} : ∀ {l : List (Int × ByteArray × TagL)} {i : Nat} {s : ByteArray} {T : TagL}, pgAt k l = some (i, s, T) → l[i]? = some (k, s, T)
  | [], _, _, _, h => by cases h
  | (j, s', T') :: l, i, s, T, h => by
    unfold pgAt at h
    by_cases c : k = j
    · rw [if_pos c] at h
      cases h
      simp [c]
    · rw [if_neg c] at h
      obtain ⟨⟨i', y⟩, h1, h2⟩ := Option.map_eq_some_iff.1 h
      cases h2
      simpa using pgAt_get h1
/-- The pages lie in the blocks from n on. -/
def PagesAt (w : World) (n : Nat) : Prop := ∀ i o, (pageHeap n)[i]? = some o → w.heap[n + i]? = some o
theorem PagesAt.of (w : World) : PagesAt (gw w (pageHeap w.heap.size)) w.heap.size := fun i o h => (gw_get w _ i).trans h
theorem PagesAt.step {w w' : World} {n : Nat} (h : PagesAt w n) (hk : ∀ g o, w.heap[g]? = some o → n ≤ g → g < n + 7 → w'.heap[g]? = some o) : PagesAt w' n := fun i o ho =>
  hk _ _ (h i o ho) (by omega) (by have := (List.getElem?_eq_some_iff.1 ho).1; have e : (pageHeap n).length = 7 := rfl; omega)
theorem PagesAt.lookup {w : World} {n : Nat} (h : PagesAt w n) (k : Int) (c : Bool) : (Instr.lookup 63 (.map (some n)) (.int .u8 k) c).run Try.prog w = .ok (if c then .tuple #[.agg #[.string (nmOf k), .map (mpOf (n + 1) k)], .bool (okOf k)] else .agg #[.string (nmOf k), .map (mpOf (n + 1) k)]) w := by
  rw [run_lookup_kv u63 u5 (show w.heap[n]? = some (kvObj (pv (n + 1) PG)) from h 0 _ rfl) k (.agg #[.string ⟨#[]⟩, .map none]) (fun w => Try.zeroValue61 w) c, kvFind_pv]
  unfold nmOf mpOf okOf
  rcases pgAt k PG with _ | ⟨i, s, T⟩ <;> rfl
theorem PagesAt.tags {w : World} {n : Nat} (h : PagesAt w n) {k : Int} {b : Nat} (hb : mpOf (n + 1) k = some b) : w.heap[b]? = some (kvObj (tv (tgOf k))) := by
  unfold mpOf at hb
  unfold tgOf
  rcases hp : pgAt k PG with _ | ⟨i, s, T⟩
  · rw [hp] at hb; cases hb
  · rw [hp] at hb
    obtain rfl := Option.some.inj hb
    have h1 := pgAt_get hp
    have := h (i + 1) (kvObj (tv T)) (by show (PG.map fun p => kvObj (tv p.2.2))[i]? = _; rw [List.getElem?_map, h1]; rfl)
    rw [show n + 1 + i = n + (i + 1) by omega]
    exact this
theorem PagesAt.lookup2 {w : World} {n : Nat} (h : PagesAt w n) (k j : Int) (c : Bool) : (Instr.lookup 59 (.map (mpOf (n + 1) k)) (.int .u8 j) c).run Try.prog w = .ok (if c then .tuple #[.agg #[.string (tgNm j (tgOf k))], .bool (tgOk j (tgOf k))] else .agg #[.string (tgNm j (tgOf k))]) w := by
  rcases hm : mpOf (n + 1) k with _ | b
  · rw [run_lookup_nil u59 u5 j (.agg #[.string ⟨#[]⟩]) (fun w => Try.zeroValue70 w) c]
    have e : tgOf k = [] := by
      unfold mpOf at hm
      unfold tgOf
      rcases hp : pgAt k PG with _ | ⟨i, s, T⟩
      · rfl
      · rw [hp] at hm; cases hm
    rw [e]
    rfl
  · rw [run_lookup_kv u59 u5 (h.tags hm) j (.agg #[.string ⟨#[]⟩]) (fun w => Try.zeroValue70 w) c, kvFind_tv]
    unfold tgNm tgOk
    rcases tgAt j (tgOf k) with _ | s <;> rfl
theorem bcell {W w1 : World} (hb : Below W.heap.size W w1) : (∀ b o, b < W.heap.size → w1.cell? ⟨b, o, none⟩ = W.cell? ⟨b, o, none⟩) ∧ (∀ b o, b < W.heap.size → w1.frozen? ⟨b, o, none⟩ = W.frozen? ⟨b, o, none⟩) :=
  ⟨fun b o h => hb.cell (p := ⟨b, o, none⟩) h, fun b o h => hb.frozen (p := ⟨b, o, none⟩) h⟩
theorem run_field61 (s : ByteArray) (m : Option Nat) (W : World) : (Instr.field 61 (.agg #[.string s, .map m]) 1).run Try.prog W = .ok (.map m) W := by kernel_rfl
/-- The call of page.pages, as a walk takes it. -/
theorem pages.got (w : World) : Calls Try.prog 35 #[] w fun e w' => ∃ n, e = .returned (.map (some n)) ∧ PagesAt w' n ∧ Below w.heap.size w w' ∧ w.heap.size ≤ n ∧ w'.heap.size = n + 7 :=
  (pages.calls w).mono fun e w' ⟨h1, h2⟩ => by subst h2; exact ⟨_, h1, PagesAt.of w, gw_below w _, Nat.le_refl _, gw_size w _⟩

set_option maxHeartbeats 4000000 in
theorem page_Page.calls (k : Int) (w : World) : Calls Try.prog 9 #[.int .u8 k] w fun e w' => e = .returned (.tuple #[.string (nmOf k), .bool (okOf k)]) ∧ Below w.heap.size w w' := by
  go_enter Try.func9, Try.ntmps9
  go_wp2_with (go_at_call 35; refine (pages.got _).mono ?_; rintro e w2 ⟨n, rfl, hP, hB, hs⟩; have hl := hP.lookup k true; have HB := Aside0.mk hB; clear hP hB hs)
  go_ret2
  exact ⟨rfl, HB.out.alloc (below_size HB.out) _⟩
theorem blk_set_far {w : World} {g : Nat} {o : Obj} (h : w.heap[g]? = some o) {p : Addr} (hp : g ≠ p.block) (u : Value) : (w.setCell p u).heap[g]? = some o := (Below.heap_setCell w p u g hp).trans h
theorem PagesAt.alloc {w : World} {n : Nat} (h : PagesAt w n) (o : Obj) : PagesAt (w.alloc o) n := h.step fun _ _ hg _ _ => blk_alloc hg o
theorem PagesAt.set {w : World} {n : Nat} (h : PagesAt w n) {p : Addr} (hp : p.block < n ∨ n + 7 ≤ p.block) (u : Value) : PagesAt (w.setCell p u) n := h.step fun g _ hg h1 h2 => blk_set_far hg (by omega) u
theorem PagesAt.below {w w' : World} {n : Nat} (h : PagesAt w n) (hb : Below w.heap.size w w') : PagesAt w' n := h.step fun _ _ hg _ _ => blk_below hg hb
end Go.Proofs.Ytnmbhhkdiegemaa.H
