/- maps.Keys over a map that was laid entry by entry, as an iterator: the keys come, each once. No conditions but those that each theorem names. -/
import Derived.Test.YtnmbhhkdiegemaaPageFind
import Derived.RangeFuncBox
import Derived.RangeFuncLeaves
import Derived.RangeFuncStops
import Derived.Shelf.Abstract
import Derived.WalkKit
import Derived.OwnWalkIn
import Derived.TacticsInMore
import Derived.LoopNIn
import Derived.LoopIn
import Derived.Maps.AppendAt
import Derived.Maps.OwnIn
namespace Go.Proofs.Ytnmbhhkdiegemaa.H
open Go.RowKit Go.Shelf Go.Proofs.YtnmbhhkdiegemaaW.PrintWords Go.Proofs.YtnmbhhkdiegemaaW.PrintLast Go.Proofs.YtnmbhhkdiegemaaW.PrintMore
open Go.ChangeMaps (setBlock)
set_option linter.unusedVariables false
set_option linter.unusedSimpArgs false
attribute [local go_sem] Oper.semAt_some
section
variable {F : Fence} {nF : Nat} {P : Program} (w : World) {ops : Array Oper} {rest : List Oper} {o : Oper} {a : Act} {Q : Exit → Act → World → Prop}
theorem wpListIn_range_kv (hg : o.guard = none) (m : Operand) (t : TypeId) (hop : o.op = Op.range t m) {k e : TypeId} (ht : P.underlying t = some (.map k e)) (b : Nat) (l : List (Int × Value)) (hm : a.eval m = .map (some b)) (hb : w.heap[b]? = some (kvObj l))
    (hK : ∀ w' r, r = w.heap.size → Rng w' r b l #[] → w.grownBy w' none → w'.heap.size = w.heap.size + 1 → wpListIn F nF P ops Q rest (a.put o.dst (.pointer (some ⟨r, 0, none⟩))) w') : wpListIn F nF P ops Q (o :: rest) a w := by
  refine wpListIn_plain hg fun K' hK' => ?_
  obtain ⟨w', hrun, r1, r2, r3⟩ := Rng.start (P := P) ht hb
  unfold Oper.wpIn
  refine ⟨by simp [Oper.about, hop], ?_⟩
  rw [Oper.semAt_plain F _ _ (by rw [hop]; intro c hc'; cases hc')]
  simp [execOp, hop, hm, hrun, Result.andThen]
  exact hK' _ _ (hK w' _ rfl r1 r2 r3)
theorem wpListIn_next_kv {α : Type} (hg : o.guard = none) (it : Operand) (hop : o.op = Op.next it false) (mk : α → Value) (I : Nat → Int → α → Prop) (r b : Nat) (l : List (Int × Value)) (seen : Array Nat) (inv : ∀ j k v, l[j]? = some (k, v) → ∃ x, v = mk x ∧ I j k x)
    (hit : a.eval it = .pointer (some ⟨r, 0, none⟩)) (h : Rng w r b l seen) (hDone : (∀ j, j < l.length → seen.contains j = true) → wpListIn F nF P ops Q rest (a.put o.dst (.tuple #[.bool false])) w)
    (hMore : ∀ j k x w', l[j]? = some (k, mk x) → I j k x → seen.contains j = false → Rng w' r b l (seen.push j) → w.grownBy w' (some r) → w'.heap.size = w.heap.size → w'.rangeLeft b r < w.rangeLeft b r → (Instr.entry (.pointer (some ⟨r, 0, none⟩))).run P w' = .ok (.tuple #[.int .u8 k, mk x]) w' →
      wpListIn F nF P ops Q rest (a.put o.dst (.tuple #[.bool true, .int .u8 k, mk x])) w') : wpListIn F nF P ops Q (o :: rest) a w := by
  refine wpListIn_plain hg fun K' hK' => ?_
  unfold Oper.wpIn
  refine ⟨by simp [Oper.about, hop], ?_⟩
  rw [Oper.semAt_plain F _ _ (by rw [hop]; intro c hc'; cases hc')]
  rcases h.next (P := P) o.type with ⟨h0, hrun⟩ | ⟨j, k, v, w', h1, h2, hrun, h3, h4, h5, h6, h7⟩
  · simp [execOp, hop, hit, hrun, Result.andThen]
    exact hK' _ _ (hDone h0)
  · obtain ⟨x, rfl, hI⟩ := inv j k v h1
    simp [execOp, hop, hit, hrun, Result.andThen]
    exact hK' _ _ (hMore j k x w' h1 hI h2 h3 h4 h5 h6 h7)
end

/-- The keys that have come, by their places. -/
def Come (T : TagL) (seen : Array Nat) (ss : List Int) : Prop := seen.toList.Nodup ∧ (∀ j ∈ seen.toList, j < T.length) ∧ ss = seen.toList.map fun j => (T[j]?.getD (0, ⟨#[]⟩)).1
theorem Come.start (T : TagL) : Come T #[] [] := ⟨by simp, by simp, by simp⟩
theorem Come.step {T : TagL} {seen : Array Nat} {ss : List Int} {j : Nat} {k : Int} {x : ByteArray} (h : Come T seen ss) (hj : T[j]? = some (k, x)) (hn : ¬ j ∈ seen) : Come T (seen.push j) (ss ++ [k]) := by
  obtain ⟨h1, h2, rfl⟩ := h
  refine ⟨?_, ?_, ?_⟩
  · rw [Array.toList_push, List.nodup_append]
    exact ⟨h1, by simp, fun a ha b hb => by
      simp only [List.mem_singleton] at hb
      subst hb
      exact fun e => hn (by rw [← e]; exact Array.mem_toList_iff.1 ha)⟩
  · intro i hi
    rw [Array.toList_push, List.mem_append] at hi
    rcases hi with hi | hi
    · exact h2 i hi
    · simp only [List.mem_singleton] at hi
      subst hi
      exact (List.getElem?_eq_some_iff.1 hj).1
  · rw [Array.toList_push, List.map_append]
    simp [hj]
theorem Come.length {T : TagL} {seen : Array Nat} {ss : List Int} (h : Come T seen ss) : ss.length ≤ T.length := by
  obtain ⟨h1, h2, rfl⟩ := h
  rw [List.length_map]
  have hp : seen.toList.Perm ((List.range T.length).filter fun j => decide (j ∈ seen.toList)) := by
    rw [List.perm_ext_iff_of_nodup h1 (List.Pairwise.filter _ List.nodup_range)]
    intro j
    rw [List.mem_filter, List.mem_range, decide_eq_true_iff]
    exact ⟨fun h => ⟨h2 j h, h⟩, fun h => h.2⟩
  have h3 := List.length_filter_le (fun j => decide (j ∈ seen.toList)) (List.range T.length)
  have h4 := hp.length_eq
  rw [List.length_range] at h3
  omega
theorem Come.done {T : TagL} {seen : Array Nat} {ss : List Int} (h : Come T seen ss) (hd : ∀ j, j < T.length → j ∈ seen) : ss.Perm (T.map (·.1)) := by
  obtain ⟨h1, h2, rfl⟩ := h
  have hp : seen.toList.Perm (List.range T.length) := by
    rw [List.perm_ext_iff_of_nodup h1 List.nodup_range]
    intro j
    rw [List.mem_range]
    exact ⟨h2 j, fun hj => Array.mem_toList_iff.2 (hd j hj)⟩
  have e : T.map (·.1) = (List.range T.length).map fun j => (T[j]?.getD (0, ⟨#[]⟩)).1 := by
    apply List.ext_getElem?
    intro i
    rw [List.getElem?_map, List.getElem?_map]
    by_cases hi : i < T.length
    · rw [List.getElem?_eq_getElem hi, List.getElem?_range hi]
      simp [hi]
    · rw [List.getElem?_eq_none (by omega), List.getElem?_eq_none (by simp; omega)]
      rfl
  rw [e]
  exact hp.map _

set_option maxRecDepth 100000 in
set_option maxHeartbeats 1000000 in
/-- The iterator over a map that is there. -/
theorem keys_some (F : Fence) (n : Nat) (hf : F.fn 55) (hro : F.round = none) (hn : 1 ≤ n) (l Bm b : Nat) (T : TagL) (J Jx : List Int → World → Prop)
    (hY : ∀ pre x W, J pre W → pre.length < T.length → YieldAt F (n - 1) Try.prog l #[.int .u8 x] W fun e W' =>
      (e = .returned (.bool true) ∧ J (pre ++ [x]) W' ∧ KeepsWalks W W') ∨ (e = .returned (.bool false) ∧ Jx (pre ++ [x]) W'))
    (W : World) (hJ : AbidesFrom W.heap.size J) (hm : W.cell? ⟨Bm, 0, none⟩ = some (.map (some b))) (hb : W.heap[b]? = some (kvObj (tv T))) (h0 : J [] W) :
    CallsIn F n Try.prog 55 #[.func (.yield l) #[] #[], .pointer (some ⟨Bm, 0, none⟩)] W fun e W' => (∃ v, e = .returned v) ∧
      ((∃ ss : List Int, ss.Perm (T.map (·.1)) ∧ J ss W') ∨ (∃ pre : List Int, True ∧ Jx pre W')) := by
  refine callsIn_of_wp Try.func55 rfl hf ?_ hro
  simp only [Try.ntmps55, List.size_toArray, List.length_cons, List.length_nil, Nat.reduceAdd, Nat.reduceSub, Array.replicate_succ, Array.replicate_zero, List.push_toArray, List.append_toArray, List.nil_append, List.cons_append]
  gi_wp2_with (first
    | (gi_at_range; refine wpListIn_range_kv _ rfl _ 59 rfl u59 b (tv T) rfl hb ?_; intro w0 r hr hR hg0 hs0; subst hr)
    | gi_in)
  go_frame
  have hrb : b < W.heap.size := blk_lt hb
  gi_loopw [3] (fun _ wr => ∃ (seen : Array Nat) (ss : List Int), Rng wr W.heap.size b (tv T) seen ∧ Come T seen ss ∧ J ss wr) (fun _ wr => wr.rangeLeft b W.heap.size)
  case atStart => exact ⟨#[], [], hR, Come.start T, hJ [] W w0 none h0 hg0 (fun r e => by cases e)⟩
  case round =>
    obtain ⟨seen, ss, hR1, hC, hJs⟩ := hrel
    gi_wp2_with (first
      | (gi_at_next; refine wpListIn_next_kv _ rfl _ rfl (fun x : ByteArray => .agg #[.string x]) (fun j k x => T[j]? = some (k, x)) W.heap.size b (tv T) seen (fun j k v h => tv_inv T j k v h) rfl hR1 ?_ ?_)
      | gi_in)
    · intro hdone
      gi_wp2
      go_end0
      exact ⟨⟨_, rfl⟩, .inl ⟨ss, hC.done (fun j hj => by have := hdone j (by unfold tv; rw [List.length_map]; exact hj); simpa using this), hJs⟩⟩
    · intro j k x w2 g1 g2 g3 hR2 hg2 hs2 hm2 hen
      have hJ2 : J ss w2 := hJ ss wr w2 (some W.heap.size) hJs hg2 (fun r' e => by
        cases e
        obtain ⟨_, c0, hi, _⟩ := hR1
        exact ⟨by omega, _, hi, rfl⟩)
      have hC2 := hC.step g2 (by simpa using g3)
      have hlen : ss.length < T.length := by
        have := hC2.length
        simp at this
        omega
      obtain ⟨fn, tmps, assign, body, hy, hR⟩ := hY ss k w2 hJ2 hlen
      have HM := Aside0.mk hm2
      clear hs2 hm2
      gi_wp2
      refine hR.mono ?_
      rintro e W3 (⟨rfl, hJ3, hk3⟩ | ⟨rfl, hJx3⟩)
      · gi_wp2
        obtain ⟨hb2, c0, hi2, hc2⟩ := hR2
        have hb3 := hk3.same b _ hb2 rfl
        have hi3 := hk3.same W.heap.size _ hi2 rfl
        have hR3 : Rng W3 W.heap.size b (tv T) (seen.push j) := ⟨hb3, c0, hi3, hc2⟩
        have hleft : W3.rangeLeft b W.heap.size = w2.rangeLeft b W.heap.size := Rng.left ⟨hb2, c0, hi2, hc2⟩ (hb3.trans hb2.symm) (hi3.trans hi2.symm)
        go_roundw
        case rel => exact ⟨_, ss ++ [k], hR3, hC2, hJ3⟩
        case measure => rw [hleft]; exact HM.out
      · gi_wp2
        refine bodyPost_ret (results_none rfl _ _ _) rfl ?_
        exact ⟨⟨_, rfl⟩, .inr ⟨ss ++ [k], trivial, hJx3⟩⟩

set_option maxRecDepth 100000 in
set_option maxHeartbeats 1000000 in
/-- The iterator over a map that is not there. -/
theorem keys_none (F : Fence) (n : Nat) (hf : F.fn 55) (hro : F.round = none) (l Bm : Nat) (J Jx : List Int → World → Prop) (W : World) (hJ : AbidesFrom W.heap.size J) (hm : W.cell? ⟨Bm, 0, none⟩ = some (.map none)) (h0 : J [] W) :
    CallsIn F n Try.prog 55 #[.func (.yield l) #[] #[], .pointer (some ⟨Bm, 0, none⟩)] W fun e W' => (∃ v, e = .returned v) ∧ ((∃ ss : List Int, ss.Perm [] ∧ J ss W') ∨ (∃ pre : List Int, True ∧ Jx pre W')) := by
  have hrg := run_range_nilMap (P := Try.prog) W 59 5 70 u59
  have hnx : ∀ ty, (Instr.next (.pointer (some ⟨W.heap.size, 0, none⟩)) false ty).run Try.prog (W.alloc (.mapIter none 0 #[] 0)) = _ := fun ty => run_next_nilMap W ty 0 0 #[]
  have HJ := Aside0.mk (hJ [] W (W.alloc (.mapIter none 0 #[] 0)) none h0 (World.grownBy_alloc W _ none) (fun r e => by cases e))
  clear h0 hJ
  refine callsIn_of_wp Try.func55 rfl hf ?_ hro
  simp only [Try.ntmps55, List.size_toArray, List.length_cons, List.length_nil, Nat.reduceAdd, Nat.reduceSub, Array.replicate_succ, Array.replicate_zero, List.push_toArray, List.append_toArray, List.nil_append, List.cons_append]
  gi_wp2
  refine wpIn_loop_rounds 1 ?_
  rw [roundsIn_succ]
  gi_wp2
  go_end0
  exact ⟨⟨_, rfl⟩, .inl ⟨[], List.Perm.refl _, HJ.out⟩⟩
end Go.Proofs.Ytnmbhhkdiegemaa.H
