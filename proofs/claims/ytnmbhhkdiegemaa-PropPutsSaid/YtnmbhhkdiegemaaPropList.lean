/- A list of elements that is built: a row of the call's own, whose elements' bytes are read. Conditions: those that each theorem names. -/
import Derived.Test.YtnmbhhkdiegemaaPropText
import Derived.Test.YtnmbhhkdiegemaaK6
import Derived.Maps.AppendAt
namespace Go.Proofs.Ytnmbhhkdiegemaa.K
open Go.RowKit Go.Proofs.YtnmbhhkdiegemaaW.PrintWords Go.Proofs.YtnmbhhkdiegemaaW.PrintLast Go.Proofs.YtnmbhhkdiegemaaW.PrintMore
set_option linter.unusedVariables false
set_option linter.unusedSimpArgs false

/-- An element without kids, cell by cell, whose bytes lie in another block than ob. -/
def El (W : World) (ob : Option Nat) (x : S83) (cs : List Value) : Prop := ∃ A3 c3 A4 c4, cs = [.int .u8 x.f0.f0, .int .u8 x.f0.f1, .int .u8 x.f1, .slice A3 x.f2.length c3, .slice A4 0 c4] ∧ x.f3 = [] ∧ x.f2.length ≤ c3 ∧ Kd.C (Kd.int .u8) W A3 x.f2.length x.f2 ∧ ∀ ad, A3 = some ad → 0 < x.f2.length → some ad.block ≠ ob
def Lst (W : World) (base : Nat) (v : Value) (xs : List S83) : Prop := OwnRow (El W v.ownBlock) 83 5 W base v xs
theorem Lst.nil (W : World) (base : Nat) : Lst W base (.slice none 0 0) [] := OwnRow.none_ _ _ _ _ _
theorem El.k83 {W : World} {ob : Option Nat} {x : S83} {cs : List Value} (h : El W ob x cs) : k83.K W x cs := by
  obtain ⟨A3, c3, A4, c4, rfl, h1, h2, h3, h4⟩ := h
  obtain ⟨t, hd, dt, kids⟩ := x
  dsimp only at h1 h2 h3 h4 ⊢
  subst h1
  exact k83_mk W ⟨t, hd, dt, []⟩ h2 h3 (Nat.zero_le _) (nil_C _ _)
theorem Lst.reads {W : World} {base : Nat} {v : Value} {xs : List S83} (h : Lst W base v xs) : ∃ A c, v = .slice A xs.length c ∧ xs.length ≤ c ∧ Kd.C k83 W A xs.length xs := by
  obtain ⟨A, c, he, hl, hr⟩ := OwnRow.reads h
  exact ⟨A, c, he, hl, hr.imp_ (Below.refl _ _) (fun _ _ hp => hp.k83)⟩
theorem El.below {W W' : World} {ob : Option Nat} {x : S83} {cs : List Value} (h : El W ob x cs) (hb : Below W.heap.size W W') : El W' ob x cs := by
  obtain ⟨A3, c3, A4, c4, rfl, h1, h2, h3, h4⟩ := h
  exact ⟨A3, c3, A4, c4, rfl, h1, h2, Kd.C_below h3 hb, h4⟩
theorem Lst.below {W W' : World} {base : Nat} {v : Value} {xs : List S83} (h : Lst W base v xs) (hb : Below W.heap.size W W') : Lst W' base v xs := (OwnRow.below h hb).imp_ (fun _ _ hp => hp.below hb)
theorem El.kept {W W' : World} {ob ob' : Option Nat} {x : S83} {cs : List Value} (h : El W ob x cs) (hg : W.grownBy W' ob) (ho : ob' = ob ∨ ob' = some W.heap.size) : El W' ob' x cs := by
  obtain ⟨A3, c3, A4, c4, rfl, h1, h2, h3, h4⟩ := h
  refine ⟨A3, c3, A4, c4, rfl, h1, h2, ?_, ?_⟩
  · rcases ob with _ | g
    · exact C_far (g := W.heap.size) h3 (KeepBut.of_grown hg _) (fun ad he h0 => Nat.ne_of_lt (C_lt (he ▸ h3) h0))
    · exact C_far (g := g) h3 ⟨hg.size, fun i hi hne _ => hg.block i hi (fun e => hne (Option.some.inj e))⟩ (fun ad he h0 e => h4 ad he h0 (by rw [e]))
  · intro ad he h0
    rcases ho with rfl | rfl
    · exact h4 ad he h0
    · intro e
      have := C_lt (he ▸ h3) h0
      have := Option.some.inj e
      omega
theorem info83_ : (Try.prog.info? 83).map (fun i => (i.zero, i.size, i.bytes)) = some (some (.agg #[.int .u8 0, .int .u8 0, .int .u8 0, .slice none 0 0, .slice none 0 0]), 5, 56) := by kernel_rfl
/-- append of one element. -/
theorem Lst.append {W : World} {base : Nat} {v : Value} {xs : List S83} (ty : TypeId) (h : Lst W base v xs) (hbase : base ≤ W.heap.size) (hx : xs.length ≤ 1000) {x : S83} {cs : List Value} (he : El W v.ownBlock x cs) {ad : Addr} {c : Nat} (hc : ∀ j u, cs[j]? = some u → W.cell? (ad.add j) = some u) :
    ∃ v1 w1, (Builtin.append_ #[39, 39] ty #[v, .slice (some ad) 1 c]).run Try.prog W = .ok v1 w1 ∧ Lst w1 base v1 (xs ++ [x]) ∧ W.grownBy w1 v.ownBlock ∧ (v1.ownBlock = v.ownBlock ∨ v1.ownBlock = some W.heap.size) := by
  obtain ⟨i0, hi, hz0, hz1, hz2⟩ := info_parts info83_
  obtain ⟨inner, hown, hr⟩ := h
  have hcl : cs.length = 5 := by obtain ⟨A3, c3, A4, c4, rfl, _⟩ := he; rfl
  have h1 : ∀ u ∈ cs, u.oneCell' = true := by
    obtain ⟨A3, c3, A4, c4, rfl, _⟩ := he
    intro u hu
    simp at hu
    rcases hu with rfl | rfl | rfl | rfl | rfl <;> rfl
  obtain ⟨v1, w1, hrun, h2, hg, _, hat⟩ := run_append_own_at (P := Try.prog) W base 39 ty 83 i0 _ 5 56 Try.underlying39 hi hz0 hz1 hz2 rfl (by decide) v xs.length inner hown ad 1 c cs (by rw [hcl]) hc h1 (by simp only [maxLen]; omega) (by omega) hbase
  refine ⟨v1, w1, hrun, ⟨inner ++ cs, by rw [List.length_append]; exact h2, ?_⟩, hg, hat⟩
  exact Reps.snoc (hr.imp_ (fun _ _ hp => hp.kept hg hat)) (he.kept hg hat) hcl
theorem own_base {W : World} {base e size n : Nat} {v : Value} {xs : List Value} (h : W.ownsRow base e size v n xs) : ∀ k, v.ownBlock = some k → base ≤ k := by
  intro k hk
  rcases h.2 with ⟨rfl, _⟩ | ⟨g, cap, cur, rfl, hb, _⟩
  · simp [Value.ownBlock] at hk
  · obtain rfl : g = k := by simpa [Value.ownBlock] using hk
    exact hb
theorem Lst.drew {W : World} {base : Nat} {v : Value} {xs : List S83} (h : Lst W base v xs) : Lst W.drew base v xs := h.below (below_drew1 (Below.refl _ _))
theorem Lst.alloc {W : World} {base : Nat} {v : Value} {xs : List S83} (h : Lst W base v xs) (o : Obj) : Lst (W.alloc o) base v xs := h.below (below_alloc (Below.refl _ _) _)
theorem El.alloc {W : World} {ob : Option Nat} {x : S83} {cs : List Value} (h : El W ob x cs) (o : Obj) : El (W.alloc o) ob x cs := h.below (below_alloc (Below.refl _ _) _)
theorem cells5_new (W : World) (a b c d e : Value) (t : TypeId) : ∀ (j : Nat) (u : Value), [a, b, c, d, e][j]? = some u → (W.alloc (.cells #[a, b, c, d, e] t)).cell? ((⟨W.heap.size, 0, none⟩ : Addr).add j) = some u := by
  intro j u hj
  have hb : (W.alloc (.cells #[a, b, c, d, e] t)).heap[W.heap.size]? = some (.cells #[a, b, c, d, e] t (0, 0)) := heap_alloc_new W _
  match j, hj with
  | 0, hj => exact (blk_cell hb 0).trans (by simpa using hj)
  | 1, hj => exact (blk_cell hb 1).trans (by simpa using hj)
  | 2, hj => exact (blk_cell hb 2).trans (by simpa using hj)
  | 3, hj => exact (blk_cell hb 3).trans (by simpa using hj)
  | 4, hj => exact (blk_cell hb 4).trans (by simpa using hj)
theorem cells5_new2 (W : World) (X : Obj) (a b c d e : Value) (t : TypeId) : ∀ (j : Nat) (u : Value), [a, b, c, d, e][j]? = some u → ((W.alloc X).alloc (.cells #[a, b, c, d, e] t)).cell? ((⟨W.heap.size + 1, 0, none⟩ : Addr).add j) = some u := by
  have h := cells5_new (W.alloc X) a b c d e t
  rw [World.size_alloc] at h
  exact h
theorem own_of_Lst {W : World} {base : Nat} {v : Value} {xs : List S83} (h : Lst W base v xs) : ∀ k, v.ownBlock = some k → base ≤ k ∧ k < W.heap.size := by
  obtain ⟨inner, hown, _⟩ := h
  exact fun k hk => ⟨own_base hown k hk, own_lt hown k hk⟩
theorem Lst.ne {W : World} {base : Nat} {v : Value} {xs : List S83} (h : Lst W base v xs) {g t : Nat} {cells : Array Value} (hb : W.heap[g]? = some (.cells cells t (0, 0))) (ht : (83 : Nat) ≠ t) : some g ≠ v.ownBlock := OwnRow.ne_block h hb ht
section
variable {ops : Array Oper} {Q : Exit → Act → World → Prop} {rest : List Oper} {a : Act} {W : World} {o : Oper} {Kc : Act → World → Prop}
/-- append of one element that was laid just so, as an operation. -/
theorem Lst.append_op (hgd : o.guard = none) (s x : Operand) (ho : o.op = .call { callee := .builtin .append, args := #[s, x], argTypes := #[39, 39] }) {w0 : World} {base : Nat} {v : Value} {xs : List S83} (hs : a.eval s = v) (h : Lst W base v xs) (HB : Below base w0 W) (hx : xs.length ≤ 1000) {y : S83} {cs : List Value} (he : El W v.ownBlock y cs)
    {ad : Addr} {c : Nat} (hv : a.eval x = .slice (some ad) 1 c) (hc : ∀ j u, cs[j]? = some u → W.cell? (ad.add j) = some u) (hbase : base ≤ W.heap.size)
    (hK : ∀ v1 w1, Lst w1 base v1 (xs ++ [y]) → Below base w0 w1 → W.grownBy w1 v.ownBlock → wpList Try.prog ops Q rest (a.put o.dst v1) w1) : wpList Try.prog ops Q (o :: rest) a W := by
  obtain ⟨v1, w1, hr1, h1, hg, hat⟩ := h.append o.type hbase hx he (c := c) hc
  refine wpList_plain hgd fun K hK' => ?_
  unfold Oper.wp execOp
  simp only [ho, resolve, invoke, builtin, Sem.run_bind, Sem.run_pure, Result.andThen_ok, List.map_toArray, List.map_cons, List.map_nil, hs, hv, hr1]
  exact hK' _ _ (hK v1 w1 h1 (HB.grown hg hbase (fun k hk => (own_of_Lst h k hk).1)) hg)
theorem Lst.append_step (hw : Region.wanted o (yielded ops a.tmps) = true) (s x : Operand) (ho : o.op = .call { callee := .builtin .append, args := #[s, x], argTypes := #[39, 39] }) {w0 : World} {base : Nat} {v : Value} {xs : List S83} (hs : a.eval s = v) (h : Lst W base v xs) (HB : Below base w0 W) (hx : xs.length ≤ 1000) {y : S83} {cs : List Value} (he : El W v.ownBlock y cs)
    {ad : Addr} {c : Nat} (hv : a.eval x = .slice (some ad) 1 c) (hc : ∀ j u, cs[j]? = some u → W.cell? (ad.add j) = some u) (hbase : base ≤ W.heap.size)
    (hK : ∀ v1 w1, Lst w1 base v1 (xs ++ [y]) → Below base w0 w1 → W.grownBy w1 v.ownBlock → Kc (a.put o.dst v1) w1) : if Region.wanted o (yielded ops a.tmps) = true then Oper.wp Try.prog o a W Kc Q else Kc (a.put o.dst undef) W := by
  obtain ⟨v1, w1, hr1, h1, hg, hat⟩ := h.append o.type hbase hx he (c := c) hc
  rw [if_pos hw]
  unfold Oper.wp execOp
  simp only [ho, resolve, invoke, builtin, Sem.run_bind, Sem.run_pure, Result.andThen_ok, List.map_toArray, List.map_cons, List.map_nil, hs, hv, hr1]
  exact hK v1 w1 h1 (HB.grown hg hbase (fun k hk => (own_of_Lst h k hk).1)) hg
end

/-! ### the elements of a mask -/
def tagNo (i : Nat) : Int := tagB (i : Int)
def nodeOf (s : Nat → ByteArray) (i : Nat) : S83 := ⟨⟨1, tagNo i⟩, holdP (i : Int) (s i), bytesOf (s i), []⟩
def putL (s : Nat → ByteArray) (bt : Nat → Bool) (n : Nat) : List S83 := ((List.range n).filter bt).map (nodeOf s)
theorem putL_hit {s : Nat → ByteArray} {bt : Nat → Bool} {n : Nat} (h : bt n = true) : putL s bt (n + 1) = putL s bt n ++ [nodeOf s n] := by
  unfold putL
  rw [List.range_succ, List.filter_append, List.map_append]
  simp [h]
theorem putL_miss {s : Nat → ByteArray} {bt : Nat → Bool} {n : Nat} (h : bt n = false) : putL s bt (n + 1) = putL s bt n := by
  unfold putL
  rw [List.range_succ, List.filter_append, List.map_append]
  simp [h]
theorem putL_length (s : Nat → ByteArray) (bt : Nat → Bool) (n : Nat) : (putL s bt n).length ≤ n := by
  unfold putL
  rw [List.length_map]
  have := List.length_filter_le bt (List.range n)
  simpa using this
theorem El.mk' {W W' : World} {base : Nat} {v : Value} {xs : List S83} (h : Lst W base v xs) {i : Nat} {s : Nat → ByteArray} {A3 : Option Addr} {c3 : Nat} (A4 : Option Addr) (c4 : Nat) {t p : Int} (hp : p = (i : Int)) (ht : t = tagNo i) (h1 : (bytesOf (s i)).length ≤ c3) (h2 : Kd.C (Kd.int .u8) W' A3 (bytesOf (s i)).length (bytesOf (s i)))
    (h3 : ∀ ad, A3 = some ad → 0 < (bytesOf (s i)).length → W.heap.size ≤ ad.block) : El W' v.ownBlock (nodeOf s i) [.int .u8 1, .int .u8 t, .int .u8 (holdP p (s i)), .slice A3 (bytesOf (s i)).length c3, .slice A4 0 c4] := by
  subst hp ht
  exact ⟨A3, c3, A4, c4, rfl, rfl, h1, h2, fun ad he h0 e => by
    have := (own_of_Lst h ad.block e.symm).2
    have := h3 ad he h0
    omega⟩
end Go.Proofs.Ytnmbhhkdiegemaa.K
