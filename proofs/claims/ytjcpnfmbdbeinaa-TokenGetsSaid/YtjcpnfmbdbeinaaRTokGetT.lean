/- Get's tokens, their data in rows whose blocks hold numbers alone: what Spoil wants. Conditions: those that each theorem names. -/
-- Written by mkgett.py out of TokenGet.lean. Not trusted: Lean checks it.
import Derived.Test.YtjcpnfmbdbeinaaRTokWide
namespace Go.Proofs.Ytjcpnfmbdbeinaa.R
open Go.RowKit Go.Proofs.YtjcpnfmbdbeinaaW.PrintWords Go.Proofs.YtjcpnfmbdbeinaaW.PrintLast Go.Proofs.YtjcpnfmbdbeinaaW.PrintMore
attribute [local go_sem] max2_int min2_int max_two min_two max_three min_three max_four min_four
set_option linter.unusedVariables false
set_option linter.unusedSimpArgs false

/-- The row's block holds numbers alone, the room behind it, too. -/
def RI (w : World) (v : Value) : Prop := ∀ g cells t fz, v.ownBlock = some g → w.heap[g]? = some (.cells cells t fz) → ∀ u ∈ cells.toList, ∃ n : Int, u = .int .u8 n
theorem RI_of {w w1 : World} {v : Value} (h : RI w v) (hb : ∀ g, v.ownBlock = some g → w1.heap[g]? = w.heap[g]?) : RI w1 v := fun g cells t fz hg hc => h g cells t fz hg ((hb g hg).symm.trans hc)
/-- A row of the call's own, with its room. -/
def RT (w : World) (base : Nat) (ok : Nat → Prop) (v : Value) (xs : List Int) : Prop := Kd.R (Kd.int .u8) 5 w base ok v xs ∧ RI w v
section
variable {w w1 W : World} {base : Nat} {ok ok' : Nat → Prop} {v u v1 : Value} {xs : List Int}
theorem RT_nil (w : World) (base : Nat) (ok : Nat → Prop) : RT w base ok (.slice none 0 0) [] := ⟨Kd.R_nil _ _ _ _ _, fun g _ _ _ hg => by simp [Value.ownBlock] at hg⟩
theorem RT_lt (h : RT w base ok v xs) : ∀ k, v.ownBlock = some k → k < w.heap.size := Kd.R_lt h.1
theorem RT_mono (h : RT w base ok v xs) (hok : ∀ k, ok k → ok' k) : RT w base ok' v xs := ⟨Kd.R_mono h.1 hok, h.2⟩
theorem RT_below (h : RT w base ok v xs) (hb : Below w.heap.size w w1) : RT w1 base ok v xs := ⟨Kd.R_below h.1 hb, RI_of h.2 (fun g hg => hb.block g (RT_lt h g hg))⟩
theorem RT_alloc (h : RT w base ok v xs) (o : Obj) : RT (w.alloc o) base ok v xs := RT_below h (below_alloc (Below.refl _ _) o)
theorem RT_drewN (h : RT w base ok v xs) (m : Nat) : RT (w.drewN m) base ok v xs := RT_below h (pw_below_drewN (Below.refl _ _) m)
theorem RT_drew (h : RT w base ok v xs) : RT w.drew base ok v xs := RT_below h (below_drew1 (Below.refl _ _))
theorem RT_base (h : RT w base ok v xs) : ∀ k, v.ownBlock = some k → base ≤ k := Kd.R_base h.1
theorem RT_ne {g t : Nat} {cells : Array Value} (h : RT w base ok v xs) (hb : w.heap[g]? = some (.cells cells t (0, 0))) (ht : 5 ≠ t) : some g ≠ v.ownBlock := Kd.R_ne h.1 hb ht
theorem RT_slice (h : RT w base ok v xs) : ∃ A c, v = .slice A xs.length c := Kd.R_slice h.1
theorem RT_reads (h : RT w base ok v xs) : ∃ A c, v = .slice A xs.length c ∧ xs.length ≤ c ∧ Kd.C (Kd.int .u8) w A xs.length xs := Kd.R_reads h.1
theorem RT_tight (hE : (Kd.int .u8).E = []) (h : RT w base ok v xs) : RT w base (fun k => some k = v.ownBlock) v xs := ⟨Kd.R_tight hE h.1, h.2⟩
theorem RT_types (h : RT w base ok v xs) {g t : Nat} {cells : Array Value} (hb : w.heap[g]? = some (.cells cells t (0, 0))) (ht : ∀ q, q ∈ 5 :: (Kd.int .u8).E → q ≠ t) : RT w base (fun k => ok k ∧ k ≠ g) v xs := ⟨Kd.R_types h.1 hb ht, h.2⟩
theorem RT_far (h : RT w base ok v xs) {p : Addr} (hok : ∀ k, ok k → k ≠ p.block) (u : Value) : RT (w.setCell p u) base ok v xs := ⟨Kd.R_far h.1 hok u, RI_of h.2 (fun g hg => Below.heap_setCell w p u g (hok g (h.1.1 g hg)))⟩
theorem RT_elder' (h : RT W base ok u xs) (hv : ∀ k, v.ownBlock = some k → W.heap.size ≤ k) (hb : Below W.heap.size W w1) : RT w1 base (fun k => ok k ∧ some k ≠ v.ownBlock) u xs := ⟨Kd.R_elder' h.1 hv hb, RI_of h.2 (fun g hg => hb.block g (RT_lt h g hg))⟩
theorem RT_lower {base' : Nat} (h : RT w base ok v xs) (hb : base' ≤ base) : RT w base' ok v xs := ⟨Kd.R_lower h.1 hb, h.2⟩
theorem ints_zero (n : Nat) : ∀ u ∈ (Builtin.zeroCells (Value.int .u8 0).cells n).toList, ∃ m : Int, u = .int .u8 m := by
  intro u hu
  have hz : (Value.int .u8 0).cells = #[.int .u8 0] := rfl
  rw [hz] at hu
  simp only [Builtin.zeroCells, Array.toList_map, List.mem_map] at hu
  obtain ⟨i, _, rfl⟩ := hu
  exact ⟨0, by simp [Nat.mod_one]⟩
theorem ints_map (ys : List Int) : ∀ u ∈ ys.map (Value.int .u8), ∃ m : Int, u = .int .u8 m := by
  intro u hu
  obtain ⟨m, _, rfl⟩ := List.mem_map.1 hu
  exact ⟨m, rfl⟩
theorem reps_map : ∀ {base : Nat} {ok : Nat → Prop} {xs : List Int} {inner : List Value}, Reps ((Kd.int .u8).M w base ok) 1 xs inner → inner = xs.map (Value.int .u8) := by
  intro base ok xs inner h
  obtain ⟨h1, h2⟩ := h
  refine List.ext_getElem? fun j => ?_
  by_cases hj : j < xs.length
  · have := h2 j _ (List.getElem?_eq_getElem hj)
    have h3 : (inner.drop (j * 1)).take 1 = [Value.int .u8 xs[j]] := this
    rw [Nat.mul_one] at h3
    have h4 := congrArg (·[0]?) h3
    simp only [List.getElem?_take, List.getElem?_drop] at h4
    rw [List.getElem?_map, List.getElem?_eq_getElem hj]
    simpa using h4
  · rw [List.getElem?_eq_none (by omega), List.getElem?_eq_none (by simp; omega)]
theorem RT_run {P : Program} {ty : TypeId} (ht : P.underlying 22 = some (.slice 5)) {i0 : TypeInfo} (hi : P.info? 5 = some i0) (hz0 : i0.zero = some (.int .u8 0)) (hz1 : i0.size = 1) (hz2 : i0.bytes = 1)
    {ys : List Int} {A : Option Addr} {m c : Nat} (HO : RT W base ok v xs) (HR : Kd.C (Kd.int .u8) W A m ys) (hfresh : ∀ k, W.heap.size ≤ k → ok k) (hbase : base ≤ W.heap.size) (hl : xs.length + m ≤ 140737488355328) :
    ∃ v1 w1, (Builtin.append_ #[22, 22] ty #[v, .slice A m c]).run P W = .ok v1 w1 ∧ RT w1 base ok v1 (xs ++ ys) ∧ W.grownBy w1 v.ownBlock ∧ (v1.ownBlock = v.ownBlock ∨ ∃ b, v1.ownBlock = some b ∧ W.heap.size ≤ b) := by
  obtain ⟨⟨hok, inner, hown, hr⟩, hty⟩ := HO
  have hm : ys.length = m := HR.1
  obtain rfl := reps_map hr
  have hown' : W.ownsRow base 5 1 v xs.length (xs.map (Value.int .u8)) := hown
  rcases Nat.eq_zero_or_pos m with h0 | h0
  · subst h0
    obtain rfl : ys = [] := List.eq_nil_of_length_eq_zero hm
    refine ⟨v, W, ?_, by rw [List.append_nil]; exact ⟨⟨hok, _, hown, hr⟩, hty⟩, World.grownBy.refl W _, .inl rfl⟩
    rcases hown'.2 with ⟨rfl, hn⟩ | ⟨g, cap, cur, rfl, _, _, hnc, _⟩ <;> rcases A with _ | ad
    · simp [Builtin.append_, run_underlying ht, sizeOf, typeInfo, hi, Builtin.lenOf, Builtin.firstCells]
    · simp [Builtin.append_, run_underlying ht, sizeOf, typeInfo, hi, Builtin.lenOf, Builtin.firstCells, loadCells, loadCellsFrom]
    · simp [Builtin.append_, run_underlying ht, sizeOf, typeInfo, hi, Builtin.lenOf, Builtin.firstCells, hnc, storeCells]
    · simp [Builtin.append_, run_underlying ht, sizeOf, typeInfo, hi, Builtin.lenOf, Builtin.firstCells, loadCells, loadCellsFrom, hnc, storeCells]
  · subst hm
    obtain ⟨ad, he, hnc⟩ := rk_cells HR h0
    subst he
    have h1 : ∀ u ∈ ys.map (Value.int .u8), u.oneCell' = true := by
      intro u hu
      obtain ⟨n, rfl⟩ := ints_map ys u hu
      rfl
    obtain ⟨v1, w1, hrun, h2, hg, _, hat⟩ := run_append_own_at (P := P) W base 22 ty 5 i0 (.int .u8 0) 1 1 ht hi hz0 hz1 hz2 rfl (by decide) v xs.length (xs.map (Value.int .u8)) hown' ad ys.length c (ys.map (Value.int .u8)) (by simp) hnc h1 (by simp only [maxLen]; omega) (by omega) hbase
    have hat' : v1.ownBlock = v.ownBlock ∨ ∃ b, v1.ownBlock = some b ∧ W.heap.size ≤ b := by
      rcases hat with hat | hat
      · exact .inl hat
      · exact .inr ⟨_, hat, Nat.le_refl _⟩
    refine ⟨v1, w1, hrun, ⟨⟨fun k hk => ?_, _, by rw [List.length_append]; exact h2, by rw [← List.map_append]; exact rk_reps _ _ _ (xs ++ ys)⟩, ?_⟩, hg, hat'⟩
    · rcases hat' with hat' | ⟨b, hb, hle⟩
      · exact hok k (hat' ▸ hk)
      · rw [hb] at hk
        obtain rfl := Option.some.inj hk
        exact hfresh _ hle
    · rcases hown'.2 with ⟨rfl, hn⟩ | ⟨g, cap, cur, rfl, _, hgg, hnc', hcm, hcs, htake⟩
      · have hr2 := run_append_nil (P := P) W 22 ty 5 i0 (.int .u8 0) ht hi hz0 ad ys.length c (ys.map (Value.int .u8)) (by simp [hz1]) hnc h0 (by omega) (by rw [hz2]; omega)
        have e := hrun.symm.trans hr2
        simp only [Result.ok.injEq] at e
        obtain ⟨rfl, rfl⟩ := e
        intro g' cells t fz hg' hc' u hu
        have hge : W.heap.size = g' := by simpa [Value.ownBlock] using hg'
        subst hge
        have hnew := heap_alloc_new W.drew (.cells ((ys.map (Value.int .u8)).toArray ++ Builtin.zeroCells (Value.int .u8 0).cells (grownCap W ys.length 0 5 - ys.length)) 5)
        have := hnew.symm.trans hc'
        simp only [Option.some.injEq, Obj.cells.injEq] at this
        obtain ⟨rfl, _⟩ := this
        simp only [Array.toList_append, List.mem_append] at hu
        rcases hu with hu | hu
        · exact ints_map ys u (by simpa using hu)
        · exact ints_zero _ u hu
      · by_cases hroom : xs.length + ys.length ≤ cap
        · have hr2 := run_append_room (P := P) W 22 ty 5 i0 ht hi g xs.length cap cur hgg ad ys.length c (ys.map (Value.int .u8)) (by simp [hz1]) hnc h1 hroom (by rw [hz1, hcs]; simp; omega)
          have e := hrun.symm.trans hr2
          simp only [Result.ok.injEq] at e
          obtain ⟨rfl, rfl⟩ := e
          intro g' cells t fz hg' hc' u hu
          have hge : g = g' := by simpa [Value.ownBlock] using hg'
          subst hge
          have := (setRow_heap W g cur _ 5 (0, 0) hgg).symm.trans hc'
          simp only [Option.some.injEq, Obj.cells.injEq] at this
          obtain ⟨rfl, _⟩ := this
          simp only [List.mem_append] at hu
          have hcur := hty g cur 5 (0, 0) (by simp [Value.ownBlock]) hgg
          rcases hu with (hu | hu) | hu
          · exact hcur u (List.mem_of_mem_take hu)
          · exact ints_map ys u hu
          · exact hcur u (List.mem_of_mem_drop hu)
        · have holds : ∀ j u, (xs.map (Value.int .u8))[j]? = some u → W.cell? ((⟨g, 0, none⟩ : Addr).add j) = some u := hown'.cells (g := g) rfl
          have hr2 := run_append_grow (P := P) W 22 ty 5 i0 (.int .u8 0) ht hi hz0 ⟨g, 0, none⟩ xs.length cap (xs.map (Value.int .u8)) (by simp [hz1]) holds ad ys.length c (ys.map (Value.int .u8)) (by simp [hz1]) hnc (by omega) (by omega) (growslice_fits (by omega) (by rw [hz2]; omega))
          have e := hrun.symm.trans hr2
          simp only [Result.ok.injEq] at e
          obtain ⟨rfl, rfl⟩ := e
          intro g' cells t fz hg' hc' u hu
          have hge : W.heap.size = g' := by simpa [Value.ownBlock] using hg'
          subst hge
          have := (heap_alloc_new W.drew _).symm.trans hc'
          simp only [Option.some.injEq, Obj.cells.injEq] at this
          obtain ⟨rfl, _⟩ := this
          simp only [Array.toList_append, List.mem_append] at hu
          rcases hu with (hu | hu) | hu
          · exact ints_map xs u (by simpa using hu)
          · exact ints_map ys u (by simpa using hu)
          · exact ints_zero _ u hu
end
section
variable {P : Program} {ops : Array Oper} {Q : Exit → Act → World → Prop} {rest : List Oper} {a : Act} {W : World} {o : Oper} {Kc : Act → World → Prop}
theorem RT_append_rows (d : Kd Int) {w0 W : World} (base : Nat) (hgd : o.guard = none) (s x : Operand) (t e : TypeId) (z : Value) (bytes : Nat)
    (ho : o.op = .call { callee := .builtin .append, args := #[s, x], argTypes := #[t, t] })
    (ht : P.underlying t = some (.slice e)) (hinfo : (P.info? e).map (fun i => (i.zero, i.size, i.bytes)) = some (some z, (Kd.int .u8).sz, bytes)) (hz : z.cells.size = (Kd.int .u8).sz) (hs0 : 0 < (Kd.int .u8).sz) (hb0 : 0 < bytes)
    (v : Value) (xs ys : List Int) (A : Option Addr) (m c : Nat) (ok okp : Nat → Prop) (hs : a.eval s = v) (hx : a.eval x = .slice A m c)
    (HO : RT W base ok v xs) (HR : Kd.C (Kd.int .u8) W A m ys) (hKM : ∀ x cs, (Kd.int .u8).K W x cs → (Kd.int .u8).M W base okp x cs) (hokp : ∀ k, okp k → ok k ∧ some k ≠ v.ownBlock) (hfresh : ∀ k, W.heap.size ≤ k → ok k)
    (HB : Below base w0 W) (hbase : base ≤ W.heap.size) (hl : (xs.length + m) * bytes ≤ 140737488355328)
    (h : ∀ v1 w1, RT w1 base ok v1 (xs ++ ys) → Below base w0 w1 → W.grownBy w1 v.ownBlock → (v1.ownBlock = v.ownBlock ∨ ∃ b, v1.ownBlock = some b ∧ W.heap.size ≤ b) → wpList P ops Q rest (a.put o.dst v1) w1)
    (e1 : t = 22) (e2 : e = 5) (e3 : z = .int .u8 0) (e4 : bytes = 1) :
    wpList P ops Q (o :: rest) a W := by
  subst e1 e2 e3 e4
  obtain ⟨i0, hi, hzz⟩ := Option.map_eq_some_iff.1 hinfo
  simp only [Prod.mk.injEq] at hzz
  obtain ⟨hz0, hz1, hz2⟩ := hzz
  obtain ⟨v1, w1, hr1, h1, hg, hat⟩ := RT_run (P := P) (ty := o.type) (c := c) ht hi hz0 hz1 hz2 HO HR hfresh hbase (by omega)
  refine wpList_plain hgd fun K hK => ?_
  unfold Oper.wp execOp
  simp only [ho, resolve, invoke, builtin, Sem.run_bind, Sem.run_pure, Result.andThen_ok, List.map_toArray, List.map_cons, List.map_nil, hs, hx, hr1]
  exact hK _ _ (h v1 w1 h1 (HB.grown hg hbase (RT_base HO)) hg hat)
theorem RT_append_rows_step (d : Kd Int) {w0 W : World} (base : Nat) (hw : Region.wanted o (yielded ops a.tmps) = true) (s x : Operand) (t e : TypeId) (z : Value) (bytes : Nat)
    (ho : o.op = .call { callee := .builtin .append, args := #[s, x], argTypes := #[t, t] })
    (ht : P.underlying t = some (.slice e)) (hinfo : (P.info? e).map (fun i => (i.zero, i.size, i.bytes)) = some (some z, (Kd.int .u8).sz, bytes)) (hz : z.cells.size = (Kd.int .u8).sz) (hs0 : 0 < (Kd.int .u8).sz) (hb0 : 0 < bytes)
    (v : Value) (xs ys : List Int) (A : Option Addr) (m c : Nat) (ok okp : Nat → Prop) (hs : a.eval s = v) (hx : a.eval x = .slice A m c)
    (HO : RT W base ok v xs) (HR : Kd.C (Kd.int .u8) W A m ys) (hKM : ∀ x cs, (Kd.int .u8).K W x cs → (Kd.int .u8).M W base okp x cs) (hokp : ∀ k, okp k → ok k ∧ some k ≠ v.ownBlock) (hfresh : ∀ k, W.heap.size ≤ k → ok k)
    (HB : Below base w0 W) (hbase : base ≤ W.heap.size) (hl : (xs.length + m) * bytes ≤ 140737488355328)
    (h : ∀ v1 w1, RT w1 base ok v1 (xs ++ ys) → Below base w0 w1 → W.grownBy w1 v.ownBlock → (v1.ownBlock = v.ownBlock ∨ ∃ b, v1.ownBlock = some b ∧ W.heap.size ≤ b) → Kc (a.put o.dst v1) w1)
    (e1 : t = 22) (e2 : e = 5) (e3 : z = .int .u8 0) (e4 : bytes = 1) :
    if Region.wanted o (yielded ops a.tmps) = true then Oper.wp P o a W Kc Q else Kc (a.put o.dst undef) W := by
  subst e1 e2 e3 e4
  obtain ⟨i0, hi, hzz⟩ := Option.map_eq_some_iff.1 hinfo
  simp only [Prod.mk.injEq] at hzz
  obtain ⟨hz0, hz1, hz2⟩ := hzz
  obtain ⟨v1, w1, hr1, h1, hg, hat⟩ := RT_run (P := P) (ty := o.type) (c := c) ht hi hz0 hz1 hz2 HO HR hfresh hbase (by omega)
  rw [if_pos hw]
  unfold Oper.wp execOp
  simp only [ho, resolve, invoke, builtin, Sem.run_bind, Sem.run_pure, Result.andThen_ok, List.map_toArray, List.map_cons, List.map_nil, hs, hx, hr1]
  exact h v1 w1 h1 (HB.grown hg hbase (RT_base HO)) hg hat
end
section
variable {P : Program} {ops : Array Oper} {Q : Exit → Act → World → Prop} {rest : List Oper} {a : Act} {W : World} {o : Oper} {Kc : Act → World → Prop}
theorem RT_lit (d : Kd Int) {w0 W : World} (base e : Nat) (hgd : o.guard = none) {N : Tmp} (_hd : o.dst = some N) {xs : List Int} {inner : List Value} {ok okp : Nat → Prop}
    (hrun : (execOp a.eval o).run P W = .ok (.value (.slice (some ⟨W.heap.size, 0, none⟩) xs.length xs.length)) (W.alloc (.cells inner.toArray 5)))
    (hrep : Reps ((Kd.int .u8).M W base okp) 1 xs inner) (hok : ∀ k, okp k → ok k) (hfresh : ok W.heap.size) (HB : Below base w0 W) (hbase : base ≤ W.heap.size) (hm : xs.length ≤ 9223372036854775807)
    (h : ∀ v1 w1, RT w1 base ok v1 xs → Below base w0 w1 → W.grownBy w1 none → (∃ b, v1.ownBlock = some b ∧ W.heap.size ≤ b) → wpList P ops Q rest (a.put o.dst v1) w1) : wpList P ops Q (o :: rest) a W := by
  refine Kd.event_run hgd hrun (h _ _ ⟨⟨fun k hk => ?_, inner, ?_, ?_⟩, ?_⟩ (HB.alloc hbase _) (World.grownBy_alloc W _ none) ⟨W.heap.size, by simp [Value.ownBlock], Nat.le_refl _⟩)
  · have : W.heap.size = k := by simpa [Value.ownBlock] using hk
    subst this
    exact hfresh
  · have h2 := World.ownsRow_lit (base := base) (e := 5) (size := 1) W inner.toArray xs.length hbase (by simpa [maxLen] using hm) (by simpa using hrep.1)
    show World.ownsRow _ base 5 1 _ _ _
    simpa using h2
  · exact hrep.imp_ (fun p c hp => hp)
  · intro g cells t fz hg hc u hu
    have hge : W.heap.size = g := by simpa [Value.ownBlock] using hg
    subst hge
    have := (heap_alloc_new W _).symm.trans hc
    simp only [Option.some.injEq, Obj.cells.injEq] at this
    obtain ⟨rfl, _⟩ := this
    rw [reps_map hrep] at hu
    exact ints_map xs u (by simpa using hu)
end
/-- A list of numbers in a row that is typed. -/
def k5T : Kd (List Int) where
  sz := 1
  E := [5]
  K := (Kd.slice 5 (Kd.int .u8)).K
  M := fun w base ok xs cs => ∃ v, cs = [v] ∧ RT w base ok v xs
  K_len := (Kd.slice 5 (Kd.int .u8)).K_len
  K_one := (Kd.slice 5 (Kd.int .u8)).K_one
  K_below := (Kd.slice 5 (Kd.int .u8)).K_below
  K_of_M := by
    rintro w base ok x cs ⟨v, rfl, h⟩
    exact (Kd.slice 5 (Kd.int .u8)).K_of_M ⟨v, rfl, h.1⟩
  M_mono := by
    rintro w base ok ok' x cs hok ⟨v, rfl, h⟩
    exact ⟨v, rfl, RT_mono h hok⟩
  M_bound := by
    rintro w base ok x cs ⟨v, rfl, h⟩
    exact ⟨v, rfl, Kd.R_bound h.1, h.2⟩
  M_move := by
    rintro w w1 base ok x cs hm ⟨v, rfl, h⟩
    exact ⟨v, rfl, Kd.R_move h.1 hm, RI_of h.2 (fun g hg => hm g (h.1.1 g hg))⟩
  M_lower := by
    rintro w base base' ok x cs hb ⟨v, rfl, h⟩
    exact ⟨v, rfl, RT_lower h hb⟩
def k38T : Kd S38 := Kd.iso (Kd.pair (Kd.int .u8) (Kd.pair (Kd.int .u8) k5T)) (fun x : S38 => (x.f0, x.f1, x.f2))
theorem k38T_mkM (w : World) (base : Nat) (ok : Nat → Prop) (x : S38) {v2 : Value} (g2 : RT w base ok v2 x.f2) : k38T.M w base ok x [.int .u8 x.f0, .int .u8 x.f1, v2] := ⟨[.int .u8 x.f0], [.int .u8 x.f1, v2], rfl, rfl, ⟨[.int .u8 x.f1], [v2], rfl, rfl, ⟨v2, rfl, g2⟩⟩⟩
theorem k38T_openM {w : World} {base : Nat} {ok : Nat → Prop} {x : S38} {cs : List Value} (h : k38T.M w base ok x cs) : ∃ v2, cs = [.int .u8 x.f0, .int .u8 x.f1, v2] ∧ RT w base ok v2 x.f2 := by
  obtain ⟨_, _, rfl, rfl, ⟨_, _, rfl, rfl, ⟨v2, rfl, g2⟩⟩⟩ := h
  exact ⟨v2, rfl, g2⟩
theorem k38T_C {w : World} {A : Option Addr} {n : Nat} {xs : List S38} (h : Kd.C k38T w A n xs) : Kd.C k38 w A n xs := h
theorem rk_RTfar {W : World} {base : Nat} {v : Value} {xs : List Int} {p : Addr} (h : RT W base (fun _ => True) v xs) (hp : p.block < base) (u : Value) : RT (W.setCell p u) base (fun _ => True) v xs :=
  ⟨rk_Rfar h.1 hp u, RI_of h.2 (fun g hg => Below.heap_setCell W p u g (by have := RT_base h g hg; omega))⟩
theorem rk_oldST {W w1 : World} {base g : Nat} {u v : Value} {xs : List S38} {ys : List Int} (h : Kd.S k38T 38 W base (fun k => k ≠ g) u xs) (hk : KeepBut W w1 g none) (ho : RT w1 W.heap.size (fun _ => True) v ys) : Kd.S k38T 38 w1 base (fun k => k ≠ g ∧ some k ≠ v.ownBlock) u xs :=
  Kd.S_mono (Kd.S_oldK (Kd.S_mono h (fun k hk => ⟨hk, hk⟩)) hk) (fun k hk => ⟨hk.1, fun e => by have := RT_base ho k e.symm; have := hk.2; omega⟩)
theorem rk_boxST {W w1 : World} {base gb : Nat} {ok : Nat → Prop} {u : Value} {xs : List S38} (h : Kd.S k38T 38 W base ok u xs) (hb : Below W.heap.size W w1) (hg : gb = W.heap.size) : Kd.S k38T 38 w1 base (fun k => ok k ∧ k ≠ gb) u xs :=
  Kd.S_mono (Kd.S_below (Kd.S_bound h) hb) (fun k hk => ⟨hk.1, by have := hk.2.2.1; omega⟩)
theorem rk_boxRT {W w1 : World} {base gb : Nat} {ok : Nat → Prop} {u : Value} {xs : List Int} (h : RT W base ok u xs) (hb : Below W.heap.size W w1) (hg : gb = W.heap.size) : RT w1 base (fun k => ok k ∧ k ≠ gb) u xs :=
  ⟨rk_boxR h.1 hb hg, (RT_below h hb).2⟩
set_option maxHeartbeats 8000000 in
set_option maxRecDepth 100000 in
theorem slices_CloneT (A0 : Option Addr) (c0 : Nat) (l0 : List Int) (r : List Int) (w : World) (hr0 : Kd.C (Kd.int .u8) w A0 l0.length l0) (hc0 : l0.length ≤ c0) (h : slices_Clone_byte_byte.f l0 = some r) :
    Calls Try.prog 55 #[.slice A0 l0.length c0] w fun e w' => ∃ v0_ : Value, e = .returned (v0_) ∧ RT w' w.heap.size (fun _ => True) v0_ r ∧ Below w.heap.size w w' := by
  have H : (if ([] : List Int).length + l0.length < 140737488355328 then (some (([] : List Int) ++ l0)) else (none)) = some r := h
  clear h
  by_cases c2 : ([] : List Int).length + l0.length < 140737488355328
  · rw [if_pos c2] at H
    have LMc2 := Aside0.mk c2
    clear c2
    obtain ⟨y, hy⟩ : ∃ y_ : List Int, y_ = (([] : List Int) ++ l0) := ⟨_, rfl⟩
    rw [← hy] at H
    have Ny := Aside0.mk hy
    clear hy
    obtain rfl := Option.some.inj H
    rcases A0 with _ | ad0
    · have hl : l0.length = 0 := by
        obtain ⟨_, _, hz⟩ := Kd.reads_of_C (enc := Value.int .u8) (d := (0 : Int)) (h1 := fun _ => rfl) hr0
        rcases Nat.eq_zero_or_pos l0.length with h0 | h0
        · exact h0
        · obtain ⟨ad, he, _⟩ := hz h0
          cases he
      have hy2 : y = [] := by rw [Ny.out, List.eq_nil_of_length_eq_zero hl]; rfl
      subst hy2
      have keq := fun W : World => Lib.run_eql_slice_nil (P := Try.prog) W 22 5 none l0.length c0 0 0 Try.underlying22
      simp only [Option.isNone_none] at keq
      clear hl hc0 hr0 H LMc2 Ny
      go_enter Try.func55, Try.ntmps55
      go_wp2
      go_ret
      exact ⟨_, rfl, RT_nil _ _ _, Below.refl _ _⟩
    · have HR0 := Aside0.mk hr0
      have HC0 := Aside0.mk hc0
      have HB := Aside0.mk (Below.refl w.heap.size w)
      have keq := fun W : World => Lib.run_eql_slice_nil (P := Try.prog) W 22 5 (some ad0) l0.length c0 0 0 Try.underlying22
      simp only [Option.isNone_some] at keq
      clear hr0 hc0 H
      go_enter Try.func55, Try.ntmps55
      go_wp2_with (first | ((with_reducible refine gate_dst (N := 5) rfl ?_); refine RT_lit (Kd.int .u8) _ 5 ?hg (N := 5) ?hd (xs := ([] : List Int)) (inner := []) (ok := fun _ => True) (okp := fun _ => True) ?hr ?hp (fun _ hk => hk) trivial (Below.refl _ _) (Nat.le_refl _) (by simp) ?_; (case hd => rfl); (case hg => rfl); (case hr => first | (go_simp; done) | (go_simp; rfl)); (case hp => exact (Reps.none _ _)); intro v1 w1 ho1 hb hg_ hnew_; clear hg_ hnew_; have HO1 := Aside0.mk (RT_lower ho1 (Nat.le_refl w.heap.size)); have n1_ := Aside0.mk (below_step HB.out hb); clear HB; have HB := n1_; clear n1_ hb ho1; obtain ⟨Ao1, co1, eo1⟩ := RT_slice HO1.out; subst eo1) | ((with_reducible refine gate_builtin (b := .append) (xs := #[.tmp 5, .tmp 6]) rfl ?_); at_builtin; refine RT_append_rows (Kd.int .u8) (w0 := w) w.heap.size rfl (.tmp 5) (.tmp 6) 22 5 (.int .u8 0) 1 rfl Try.underlying22 info5 rfl (by decide) (by omega) (.slice Ao1 ([] : List Int).length co1) ([] : List Int) l0 _ _ _ (fun _ => True) (fun _ => False) rfl rfl ?aO ?aR (fun _ _ h => h) (fun _ h => h.elim) ?aF ?aB ?aS ?aL ?_ rfl rfl rfl rfl; (case aR => exact Kd.C_below HR0.out HB.out); (case aB => exact HB.out); (case aF => exact (fun _ _ => trivial)); (case aO => exact HO1.out); (case aS => exact below_size HB.out); (case aL => have := LMc2.out; omega); intro v2 w2 ho hb hg hat; rw [← Ny.out] at ho; have n0_ := Aside0.mk hb; have n1_ := Aside0.mk ho; clear HB; have HB := n0_; have HO2 := n1_; clear n0_ n1_; clear ho hb hg hat))
      go_ret
      exact ⟨_, rfl, HO2.out, HB.out⟩
  · rw [if_neg c2] at H
    exact absurd H (by simp)
set_option maxHeartbeats 8000000 in
set_option maxRecDepth 100000 in
theorem rtextT_calls (k : Nat) (A : Option Addr) (c : Nat) (b : List Int) (g at_ : Nat) (r1 : List Int) (r2 : Int) (r3 : Nat) (w0 w : World) (hr0 : Kd.C (Kd.int .u8) w0 A b.length b) (hc0 : b.length ≤ c) (hlen : b.length ≤ 16384) (hI : RdR w0 w A c b g at_) (hat : at_ ≤ b.length) (h : rtext k b at_ = some (r1, r2, r3)) :
    Calls Try.prog 50 #[.pointer (some ⟨g, 0, none⟩)] w fun e w' => ∃ v0_ : Value, e = .returned (.tuple #[v0_, .int .i64 r2]) ∧ RT w' w.heap.size (fun _ => True) v0_ r1 ∧ RdR w0 w' A c b g r3 ∧ KeepBut w w' g none := by
  obtain ⟨hB, hge, hblk⟩ := hI
  have hc1 : w.cell? ⟨g, 0, none⟩ = some (.slice A b.length c) := (blk_cell hblk 0).trans rfl
  have hc2 : w.cell? ⟨g, 1, none⟩ = some (.int .i64 (at_ : Int)) := (blk_cell hblk 1).trans rfl
  obtain ⟨i5, hi5, hz5⟩ := Option.map_eq_some_iff.1 info5
  have hsz5 : i5.size = 1 := by simpa using congrArg (fun x => x.2.1) hz5
  have hcut := cut_from (P := Try.prog) 22 5 .i64 Try.underlying22 hi5 1 hsz5 A b.length c (at_ : Int) (by omega) (by omega)
  have hCD := Kd.C_drop (c := c) (m := at_) hr0 hat hc0
  have hrc : (b.drop at_).length ≤ c - at_ := by simp; omega
  have hfr : (b.drop at_).length ≤ 16384 := by simp; omega
  simp only [Int.toNat_natCast] at hcut
  rw [← List.length_drop (i := at_) (l := b)] at hcut
  change ∀ W : World, _ = Result.ok (Value.slice (if c = at_ then A else A.map (·.add (at_ * (Kd.int .u8).sz))) _ _) _ at hcut
  unfold rtext at h
  generalize (if c = at_ then A else A.map (·.add (at_ * (Kd.int .u8).sz))) = AA at hcut hCD
  generalize hrest : b.drop at_ = rest at hcut hCD hrc hfr h
  generalize hn : Lib.indexByte (Lib.bytesOf rest) 0 = n at h
  dsimp only at h
  have HB := Aside0.mk hB
  have hfz1 := blk_frozen hblk 1
  have HI := Aside0.mk hblk
  have HC := Aside0.mk hCD
  clear hB hblk hCD
  by_cases c1 : n > 64
  · rw [if_pos c1] at h
    obtain ⟨rfl, rfl, rfl⟩ : [] = r1 ∧ (3 : Int) = r2 ∧ at_ = r3 := by simpa using h
    go_enter Try.func50, Try.ntmps50
    go_wp2
    go_quiet (fail)
    go_wp2_with ((with_reducible refine gate_callee (f := 54) rfl ?_); refine goesL_ (some 16) rfl rfl Try.func54 (by kernel_rfl) rfl #[.slice AA rest.length (c - at_), .int .u8 0] rfl (by first | rfl | go_simp) ?_; refine (bytes_IndexByte.calls AA (c - at_) rest 0 n _ (Kd.C_below HC.out (pw_below_drewN HB.out _)) hrc (by unfold bytes_IndexByte.f; rw [← hn]; rfl)).mono ?_; rintro _ _ ⟨rfl, ⟨⟨m1, rfl⟩⟩⟩; refine ⟨_, rfl, ?_⟩)
    go_ret2
    exact ⟨_, rfl, RT_nil _ _ _, ⟨pw_below_drewN HB.out _, hge, HI.out⟩, keep_drewN (KeepBut.refl _ _ _) _⟩
  rw [if_neg c1] at h
  by_cases c2 : n < 0 ∧ (rest.length : Int) > 64
  · rw [if_pos c2] at h
    obtain ⟨rfl, rfl, rfl⟩ : [] = r1 ∧ (3 : Int) = r2 ∧ at_ = r3 := by simpa using h
    obtain ⟨c2a, c2b⟩ := c2
    go_enter Try.func50, Try.ntmps50
    go_wp2
    go_quiet (fail)
    go_wp2_with ((with_reducible refine gate_callee (f := 54) rfl ?_); refine goesL_ (some 16) rfl rfl Try.func54 (by kernel_rfl) rfl #[.slice AA rest.length (c - at_), .int .u8 0] rfl (by first | rfl | go_simp) ?_; refine (bytes_IndexByte.calls AA (c - at_) rest 0 n _ (Kd.C_below HC.out (pw_below_drewN HB.out _)) hrc (by unfold bytes_IndexByte.f; rw [← hn]; rfl)).mono ?_; rintro _ _ ⟨rfl, ⟨⟨m1, rfl⟩⟩⟩; refine ⟨_, rfl, ?_⟩)
    go_ret2
    exact ⟨_, rfl, RT_nil _ _ _, ⟨pw_below_drewN HB.out _, hge, HI.out⟩, keep_drewN (KeepBut.refl _ _ _) _⟩
  rw [if_neg c2] at h
  by_cases c3 : n < 0
  · rw [if_pos c3] at h
    obtain ⟨rfl, rfl, rfl⟩ : [] = r1 ∧ (4 : Int) = r2 ∧ at_ = r3 := by simpa using h
    have c2b : ¬ ((rest.length : Int) > 64) := fun hh => c2 ⟨c3, hh⟩
    clear c2
    go_enter Try.func50, Try.ntmps50
    go_wp2
    go_quiet (fail)
    go_wp2_with ((with_reducible refine gate_callee (f := 54) rfl ?_); refine goesL_ (some 16) rfl rfl Try.func54 (by kernel_rfl) rfl #[.slice AA rest.length (c - at_), .int .u8 0] rfl (by first | rfl | go_simp) ?_; refine (bytes_IndexByte.calls AA (c - at_) rest 0 n _ (Kd.C_below HC.out (pw_below_drewN HB.out _)) hrc (by unfold bytes_IndexByte.f; rw [← hn]; rfl)).mono ?_; rintro _ _ ⟨rfl, ⟨⟨m1, rfl⟩⟩⟩; refine ⟨_, rfl, ?_⟩)
    go_ret2
    exact ⟨_, rfl, RT_nil _ _ _, ⟨pw_below_drewN HB.out _, hge, HI.out⟩, keep_drewN (KeepBut.refl _ _ _) _⟩
  rw [if_neg c3] at h
  clear c2
  by_cases c4 : n = 0
  · rw [if_pos c4] at h
    obtain ⟨rfl, rfl, rfl⟩ : [] = r1 ∧ (5 : Int) = r2 ∧ at_ = r3 := by simpa using h
    have c4b : (n == 0) = true := by simp [c4]
    go_enter Try.func50, Try.ntmps50
    go_wp2
    go_quiet (fail)
    go_wp2_with ((with_reducible refine gate_callee (f := 54) rfl ?_); refine goesL_ (some 16) rfl rfl Try.func54 (by kernel_rfl) rfl #[.slice AA rest.length (c - at_), .int .u8 0] rfl (by first | rfl | go_simp) ?_; refine (bytes_IndexByte.calls AA (c - at_) rest 0 n _ (Kd.C_below HC.out (pw_below_drewN HB.out _)) hrc (by unfold bytes_IndexByte.f; rw [← hn]; rfl)).mono ?_; rintro _ _ ⟨rfl, ⟨⟨m1, rfl⟩⟩⟩; refine ⟨_, rfl, ?_⟩)
    go_ret2
    exact ⟨_, rfl, RT_nil _ _ _, ⟨pw_below_drewN HB.out _, hge, HI.out⟩, keep_drewN (KeepBut.refl _ _ _) _⟩
  rw [if_neg c4] at h
  have hnle : n ≤ rest.length := by
    have := indexByte_le (Lib.bytesOf rest) 0
    rw [hn] at this
    simpa [Lib.bytesOf] using this
  obtain ⟨m, rfl⟩ : ∃ m : Nat, n = (m : Int) := ⟨n.toNat, by omega⟩
  have c4b : ((m : Int) == 0) = false := by simp; omega
  have hm0 : 0 < m := by omega
  have hmle : m ≤ rest.length := by omega
  simp only [Int.toNat_natCast] at h
  have hcut2 := cut_to (P := Try.prog) 22 5 .i64 Try.underlying22 hi5 AA rest.length (c - at_) (m : Int) (by omega) hnle hrc
  simp only [Int.toNat_natCast] at hcut2
  have hT0 := Kd.C_take (m := m) HC.out hmle
  have hyl0 : (rest.take m).length = m := by simp; omega
  generalize rest.take m = y at h hT0 hyl0
  have HT := Aside0.mk hT0
  have HYL := Aside0.mk hyl0
  have HGE := Aside0.mk hge
  have HTC : Aside0 (y.length ≤ c - at_) := Aside0.mk (by omega)
  have hw1 : IntKind.i64.wrap ((m : Int) + 1) = (m : Int) + 1 := by rw [IntKind.wrap_i64]; omega
  have hw2 : IntKind.i64.wrap ((at_ : Int) + ((m : Int) + 1)) = (at_ : Int) + ((m : Int) + 1) := by rw [IntKind.wrap_i64]; omega
  have hcl : Aside0 (slices_Clone_byte_byte.f y = some y) := Aside0.mk (by unfold slices_Clone_byte_byte.f; rw [if_pos (by simp; omega)]; simp)
  clear hT0 hyl0 hge
  obtain ⟨t, ht, h⟩ := Option.bind_eq_some_iff.1 h
  rcases t with _ | _
  · obtain ⟨rfl, rfl, rfl⟩ : [] = r1 ∧ (12 : Int) = r2 ∧ at_ = r3 := by simpa using h
    go_enter Try.func50, Try.ntmps50
    go_wp2
    go_quiet (fail)
    go_wp2_with (first | ((with_reducible refine gate_callee (f := 54) rfl ?_); refine goesL_ (some 16) rfl rfl Try.func54 (by kernel_rfl) rfl #[.slice AA rest.length (c - at_), .int .u8 0] rfl (by first | rfl | go_simp) ?_; refine (bytes_IndexByte.calls AA (c - at_) rest 0 _ _ (Kd.C_below HC.out (pw_below_drewN HB.out _)) hrc (by unfold bytes_IndexByte.f; exact congrArg some hn)).mono ?_; rintro _ _ ⟨rfl, ⟨⟨m1, rfl⟩⟩⟩; refine ⟨_, rfl, ?_⟩) | ((with_reducible refine gate_callee (f := 15) rfl ?_); refine goesL_ (some 37) rfl rfl Try.func15 (by kernel_rfl) rfl #[.slice AA y.length (c - at_)] rfl (by rw [HYL.out]; first | rfl | go_simp) ?_; refine (utf_Is.calls k AA (c - at_) y _ _ (Kd.C_below HT.out (pw_below_drewN HB.out _)) HTC.out ht).mono ?_; rintro _ _ ⟨rfl, ⟨⟨m2, rfl⟩⟩⟩; refine ⟨_, rfl, ?_⟩))
    go_ret2
    exact ⟨_, rfl, RT_nil _ _ _, ⟨pw_below_drewN HB.out _, HGE.out, HI.out⟩, keep_drewN (KeepBut.refl _ _ _) _⟩
  · obtain ⟨rfl, rfl, rfl⟩ : y = r1 ∧ (0 : Int) = r2 ∧ at_ + m + 1 = r3 := by simpa using h
    go_enter Try.func50, Try.ntmps50
    go_wp2
    go_quiet (fail)
    go_wp2_with (first | ((with_reducible refine gate_callee (f := 54) rfl ?_); refine goesL_ (some 16) rfl rfl Try.func54 (by kernel_rfl) rfl #[.slice AA rest.length (c - at_), .int .u8 0] rfl (by first | rfl | go_simp) ?_; refine (bytes_IndexByte.calls AA (c - at_) rest 0 _ _ (Kd.C_below HC.out (pw_below_drewN HB.out _)) hrc (by unfold bytes_IndexByte.f; exact congrArg some hn)).mono ?_; rintro _ _ ⟨rfl, ⟨⟨m1, rfl⟩⟩⟩; refine ⟨_, rfl, ?_⟩) | ((with_reducible refine gate_callee (f := 15) rfl ?_); refine goesL_ (some 37) rfl rfl Try.func15 (by kernel_rfl) rfl #[.slice AA y.length (c - at_)] rfl (by rw [HYL.out]; first | rfl | go_simp) ?_; refine (utf_Is.calls k AA (c - at_) y _ _ (Kd.C_below HT.out (pw_below_drewN HB.out _)) HTC.out ht).mono ?_; rintro _ _ ⟨rfl, ⟨⟨m2, rfl⟩⟩⟩; refine ⟨_, rfl, ?_⟩) | ((with_reducible refine gate_callee (f := 55) rfl ?_); refine goesL_ (some 51) rfl rfl Try.func55 (by kernel_rfl) rfl #[.slice AA y.length (c - at_)] rfl (by rw [HYL.out]; first | rfl | go_simp) ?_; refine (slices_CloneT AA (c - at_) y y _ (Kd.C_below HT.out (below_set (pw_below_drewN HB.out _) HGE.out)) HTC.out hcl.out).mono ?_; rintro _ w2 ⟨v0, rfl, hR, hb2⟩; have HR := Aside0.mk hR; have HB2 := Aside0.mk hb2; clear hR hb2; refine ⟨_, rfl, ?_⟩))
    go_ret2
    refine ⟨_, rfl, RT_lower HR.out (by simp [World.setCell]), ⟨below_step (below_set (pw_below_drewN HB.out _) HGE.out) HB2.out, HGE.out, ?_⟩, rk_below (rk_set (keep_drewN (KeepBut.refl _ _ _) _)) HB2.out⟩
    refine blk_below ((blk_set (blk_drewN HI.out _) 1 _).trans ?_) HB2.out
    simp [Int.add_assoc]
set_option maxHeartbeats 8000000 in
set_option maxRecDepth 100000 in
theorem ropqT_calls (k : Nat) (A : Option Addr) (c : Nat) (b : List Int) (g at_ : Nat) (r1 : List Int) (r2 : Int) (r3 : Int) (w0 w : World) (hr0 : Kd.C (Kd.int .u8) w0 A b.length b) (hc0 : b.length ≤ c) (hlen : b.length ≤ 16384) (hI : RdR w0 w A c b g at_) (hat : at_ ≤ b.length) (h : ropq k b at_ = some (r1, r2, r3)) :
    Calls Try.prog 51 #[.pointer (some ⟨g, 0, none⟩)] w fun e w' => ∃ v0_ : Value, e = .returned (.tuple #[v0_, .int .i64 r2]) ∧ RT w' w.heap.size (fun _ => True) v0_ r1 ∧ (∃ r : Nat, r3 = (r : Int) ∧ RdR w0 w' A c b g r) ∧ KeepBut w w' g none := by
  obtain ⟨hB, hge, hblk⟩ := hI
  have hc1 : w.cell? ⟨g, 0, none⟩ = some (.slice A b.length c) := (blk_cell hblk 0).trans rfl
  have hc2 : w.cell? ⟨g, 1, none⟩ = some (.int .i64 (at_ : Int)) := (blk_cell hblk 1).trans rfl
  obtain ⟨i5, hi5, hz5⟩ := Option.map_eq_some_iff.1 info5
  have hsz5 : i5.size = 1 := by simpa using congrArg (fun x => x.2.1) hz5
  have hfz1 := blk_frozen hblk 1
  have HB := Aside0.mk hB
  have HI := Aside0.mk hblk
  have HR0 := Aside0.mk hr0
  have HGE := Aside0.mk hge
  clear hB hblk hr0 hge
  unfold ropq at h
  obtain ⟨⟨n, nx, er⟩, hm, h⟩ := Option.bind_eq_some_iff.1 h
  have HM := Aside0.mk hm
  clear hm
  have hcall : ∀ nq, Calls Try.prog 56 #[.slice A b.length c, .int .i64 (at_ : Int)] (w.drewN nq) fun e w'' => e = .returned (.tuple #[.int .u32 n, .int .i64 nx, .int .i64 er]) ∧ ∃ m, w'' = w.drewN m := fun nq =>
    Calls.quiet_of ((num_GetMark.calls k A c b at_ n nx er _ (Kd.C_below HR0.out (pw_below_drewN HB.out nq)) hc0 HM.out).mono fun e w'' h2 => ⟨h2.1, h2.2.out⟩)
  have HCALL := Aside0.mk hcall
  clear hcall
  dsimp only at h
  by_cases c1 : er ≠ 0
  · rw [if_pos c1] at h
    obtain ⟨rfl, rfl, rfl⟩ : [] = r1 ∧ er = r2 ∧ (at_ : Int) = r3 := by simpa using h
    go_enter Try.func51, Try.ntmps51
    go_wp2
    go_quiet ((go_at_call 56; exact HCALL.out _))
    go_wp2
    go_ret2
    exact ⟨_, rfl, RT_nil _ _ _, ⟨at_, rfl, pw_below_drewN HB.out _, HGE.out, HI.out⟩, keep_drewN (KeepBut.refl _ _ _) _⟩
  rw [if_neg c1] at h
  obtain rfl : er = 0 := by omega
  clear c1
  by_cases c2 : n > 64
  · rw [if_pos c2] at h
    obtain ⟨rfl, rfl, rfl⟩ : [] = r1 ∧ (3 : Int) = r2 ∧ (at_ : Int) = r3 := by simpa using h
    go_enter Try.func51, Try.ntmps51
    go_wp2
    go_quiet ((go_at_call 56; exact HCALL.out _))
    go_wp2
    go_ret2
    exact ⟨_, rfl, RT_nil _ _ _, ⟨at_, rfl, pw_below_drewN HB.out _, HGE.out, HI.out⟩, keep_drewN (KeepBut.refl _ _ _) _⟩
  rw [if_neg c2] at h
  by_cases c3 : n = 0
  · rw [if_pos c3] at h
    obtain ⟨rfl, rfl, rfl⟩ : [] = r1 ∧ (5 : Int) = r2 ∧ (at_ : Int) = r3 := by simpa using h
    have c3b : (n == 0) = true := by simp [c3]
    go_enter Try.func51, Try.ntmps51
    go_wp2
    go_quiet ((go_at_call 56; exact HCALL.out _))
    go_wp2
    go_ret2
    exact ⟨_, rfl, RT_nil _ _ _, ⟨at_, rfl, pw_below_drewN HB.out _, HGE.out, HI.out⟩, keep_drewN (KeepBut.refl _ _ _) _⟩
  rw [if_neg c3] at h
  have c3b : (n == 0) = false := by simp [c3]
  by_cases c4 : 0 ≤ n ∧ 0 ≤ nx ∧ nx ≤ b.length
  case neg => rw [if_neg c4] at h; cases h
  rw [if_pos c4] at h
  obtain ⟨c4a, c4b, c4c⟩ := c4
  have hw0 : IntKind.i64.wrap n = n := by rw [IntKind.wrap_i64]; omega
  have hw1 : IntKind.i64.wrap ((b.length : Int) - nx) = (b.length : Int) - nx := by rw [IntKind.wrap_i64]; omega
  by_cases c5 : n > (b.length : Int) - nx
  · rw [if_pos c5] at h
    obtain ⟨rfl, rfl, rfl⟩ : [] = r1 ∧ (4 : Int) = r2 ∧ (at_ : Int) = r3 := by simpa using h
    go_enter Try.func51, Try.ntmps51
    go_wp2
    go_quiet ((go_at_call 56; exact HCALL.out _))
    go_wp2
    go_ret2
    exact ⟨_, rfl, RT_nil _ _ _, ⟨at_, rfl, pw_below_drewN HB.out _, HGE.out, HI.out⟩, keep_drewN (KeepBut.refl _ _ _) _⟩
  rw [if_neg c5] at h
  obtain ⟨rfl, rfl, rfl⟩ : (b.drop nx.toNat).take n.toNat = r1 ∧ (0 : Int) = r2 ∧ nx + n = r3 := by simpa using h
  have hw2 : IntKind.i64.wrap (nx + n) = nx + n := by rw [IntKind.wrap_i64]; omega
  have hcut := cut_mid (P := Try.prog) 22 5 .i64 .i64 Try.underlying22 hi5 1 hsz5 A b.length c nx (nx + n) (by omega) (by omega) (by omega) hc0
  obtain ⟨m, rfl⟩ : ∃ m : Nat, n = (m : Int) := ⟨n.toNat, by omega⟩
  obtain ⟨x, rfl⟩ : ∃ x : Nat, nx = (x : Int) := ⟨nx.toNat, by omega⟩
  have hCT := Kd.C_take (m := m) (Kd.C_drop (c := c) (m := x) HR0.out (by omega) hc0) (by rw [List.length_drop]; omega)
  have e1 : ((x : Int) + (m : Int)).toNat - (x : Int).toNat = m := by omega
  rw [e1] at hcut
  simp only [Int.toNat_natCast] at hcut ⊢
  change ∀ W : World, _ = Result.ok (Value.slice (if c = x then A else A.map (·.add (x * (Kd.int .u8).sz))) _ _) _ at hcut
  have hyl0 : ((b.drop x).take m).length = m := by simp; omega
  generalize (if c = x then A else A.map (·.add (x * (Kd.int .u8).sz))) = AA at hcut hCT
  generalize (b.drop x).take m = y at hCT hyl0 ⊢
  have HT := Aside0.mk hCT
  have HYL := Aside0.mk hyl0
  have HTC : Aside0 (y.length ≤ c - x) := Aside0.mk (by omega)
  have hcl : Aside0 (slices_Clone_byte_byte.f y = some y) := Aside0.mk (by unfold slices_Clone_byte_byte.f; rw [if_pos (by simp; omega)]; simp)
  clear hCT hyl0 e1 h
  go_enter Try.func51, Try.ntmps51
  go_wp2
  go_quiet ((go_at_call 56; exact HCALL.out _))
  go_wp2
  refine atWorld ?_
  intro W1 hW
  have HB1 : Aside0 (Below w0.heap.size w0 W1) := Aside0.mk (by rw [hW]; exact below_set (pw_below_drewN HB.out _) HGE.out)
  have HK1 : Aside0 (KeepBut w W1 g none) := Aside0.mk (by rw [hW]; exact rk_set (keep_drewN (KeepBut.refl _ _ _) _))
  have HI1 : Aside0 (W1.heap[g]? = some (.cells #[.slice A b.length c, .int .i64 ((x : Int) + (m : Int))] 64 (0, 0))) := Aside0.mk (by rw [hW]; exact blk_set (blk_drewN HI.out _) 1 _)
  clear hW
  clear hc1 hc2
  have hs1 : W1.cell? ⟨g, 0, none⟩ = some (.slice A b.length c) := (blk_cell HI1.out 0).trans rfl
  have hs2 : W1.cell? ⟨g, 1, none⟩ = some (.int .i64 ((x : Int) + (m : Int))) := (blk_cell HI1.out 1).trans rfl
  go_region_held3 (fun w' => w'.cell? ⟨g, 0, none⟩ = some (.slice A b.length c) ∧ w'.cell? ⟨g, 1, none⟩ = some (.int .i64 ((x : Int) + (m : Int)))) (go_keep)
    (first | (go_at_call 55; (rw [show (Value.slice AA m (c - x)) = .slice AA y.length (c - x) from by rw [HYL.out]]); refine (slices_CloneT AA (c - x) y y _ (Kd.C_below HT.out (below_drew1 HB1.out)) HTC.out hcl.out).mono ?_; rintro _ w2 ⟨v0, rfl, hR, hb2⟩; have HR := Aside0.mk hR; have HB2 := Aside0.mk hb2; clear hR hb2; have hs3 : w2.cell? ⟨g, 0, none⟩ = some (.slice A b.length c) := (blk_cell (blk_below (blk_drew HI1.out) HB2.out) 0).trans rfl; have hs4 : w2.cell? ⟨g, 1, none⟩ = some (.int .i64 ((x : Int) + (m : Int))) := (blk_cell (blk_below (blk_drew HI1.out) HB2.out) 1).trans rfl))
  go_wp2
  go_ret2
  refine ⟨_, rfl, RT_lower HR.out HK1.out.1, ⟨x + m, by simp, below_step (below_drew1 HB1.out) HB2.out, HGE.out, ?_⟩, rk_below (W := W1.drew) HK1.out HB2.out⟩
  refine (blk_below (blk_drew HI1.out) HB2.out).trans ?_
  simp
set_option maxHeartbeats 8000000 in
set_option maxRecDepth 100000 in
theorem rnextT_calls (k : Nat) (A : Option Addr) (c : Nat) (b : List Int) (g at_ : Nat) (r1 r2 : Int) (r3 : List Int) (r4 r5 : Int) (w0 w : World) (hr0 : Kd.C (Kd.int .u8) w0 A b.length b) (hc0 : b.length ≤ c) (hlen : b.length ≤ 16384) (hI : RdR w0 w A c b g at_) (hat : at_ < b.length) (h : rnext k b at_ = some (r1, r2, r3, r4, r5)) :
    Calls Try.prog 46 #[.pointer (some ⟨g, 0, none⟩)] w fun e w' => ∃ v0_ : Value, e = .returned (.tuple #[.agg #[.int .u8 r1, .int .u8 r2, v0_], .int .i64 r4]) ∧ RT w' w.heap.size (fun _ => True) v0_ r3 ∧ (∃ r : Nat, r5 = (r : Int) ∧ RdR w0 w' A c b g r) ∧ KeepBut w w' g none := by
  obtain ⟨hB, hge, hblk⟩ := hI
  obtain ⟨_, _, hz⟩ := Kd.reads_of_C (enc := Value.int .u8) (d := (0 : Int)) (h1 := fun _ => rfl) hr0
  obtain ⟨ad, he, hcell⟩ := hz (by omega)
  subst he
  have HCX0 : Aside0 (∀ i, i < b.length → ∀ W : World, Below w0.heap.size w0 W → W.cell? (ad.add i) = some (.int .u8 (b.getD i 0))) := Aside0.mk (fun i hi W hW => by
    obtain ⟨_, _, hz2⟩ := Kd.reads_of_C (enc := Value.int .u8) (d := (0 : Int)) (h1 := fun _ => rfl) (Kd.C_below hr0 hW)
    obtain ⟨ad2, he2, hcell2⟩ := hz2 (by omega)
    cases he2
    exact hcell2 i hi)
  clear hz hcell
  have HB := Aside0.mk hB
  have HI := Aside0.mk hblk
  have HR0 := Aside0.mk hr0
  have HGE := Aside0.mk hge
  have HNE : Aside0 (w.heap.size ≠ g) := Aside0.mk (fun h2 => by have := blk_lt hblk; omega)
  have HWS : Aside0 (w0.heap.size ≤ w.heap.size) := Aside0.mk hB.size
  clear hB hblk hr0 hge
  unfold rnext at h
  dsimp only at h
  have HCX := Aside0.mk (HCX0.out at_ hat)
  generalize b.getD at_ 0 = c0 at h HCX
  have hti : (at_ : Int) < (b.length : Int) := by omega
  have hti0 : (0 : Int) ≤ (at_ : Int) := by omega
  have hw1 : IntKind.i64.wrap ((at_ : Int) + 1) = (at_ : Int) + 1 := by rw [IntKind.wrap_i64]; omega
  by_cases c1 : c0 = 0
  · have c1b : (c0 == 0) = true := by simp [c1]
    rw [if_pos c1] at h
    clear c1
    by_cases c2 : (at_ : Int) + 1 = b.length
    · rw [if_pos c2] at h
      have c2b : ((at_ : Int) + 1 == (b.length : Int)) = true := by simp [c2]
      clear c2
      obtain ⟨rfl, rfl, rfl, rfl, rfl⟩ : (0 : Int) = r1 ∧ (0 : Int) = r2 ∧ [] = r3 ∧ (4 : Int) = r4 ∧ (at_ : Int) + 1 = r5 := by simpa using h
      clear h
      go_enter Try.func46, Try.ntmps46
      go_wp2
      refine atWorld ?_
      intro W1 hW
      have HB1 : Aside0 (Below w0.heap.size w0 W1) := Aside0.mk (by rw [hW]; exact below_alloc HB.out _)
      have HK1 : Aside0 (KeepBut w W1 g none) := Aside0.mk (by rw [hW]; exact keep_alloc (KeepBut.refl _ _ _) _)
      have HI1 : Aside0 (W1.heap[g]? = some (.cells #[.slice (some ad) b.length c, .int .i64 (at_ : Int)] 64 (0, 0))) := Aside0.mk (by rw [hW]; exact blk_alloc HI.out _)
      have HX1 : Aside0 (W1.heap[w.heap.size]? = some (.cells #[.int .u8 0, .int .u8 0, .slice none 0 0] 38 (0, 0))) := Aside0.mk (by rw [hW]; exact blk_new w _)
      clear hW
      have hs1 : W1.cell? ⟨g, 0, none⟩ = some (.slice (some ad) b.length c) := (blk_cell HI1.out 0).trans rfl
      have hs2 : W1.cell? ⟨g, 1, none⟩ = some (.int .i64 (at_ : Int)) := (blk_cell HI1.out 1).trans rfl
      have hs3 : W1.cell? (ad.add at_) = some (.int .u8 c0) := HCX.out W1 HB1.out
      have hz1 := blk_frozen HI1.out 1
      go_quiet (fail)
      go_wp2
      refine atWorld ?_
      intro W2 hW
      have HB2 : Aside0 (Below w0.heap.size w0 W2) := Aside0.mk (by rw [hW]; exact below_set (pw_below_drewN HB1.out _) HGE.out)
      have HK2 : Aside0 (KeepBut w W2 g none) := Aside0.mk (by rw [hW]; exact rk_set (keep_drewN HK1.out _))
      have HI2 : Aside0 (W2.heap[g]? = some (.cells #[.slice (some ad) b.length c, .int .i64 ((at_ : Int) + 1)] 64 (0, 0))) := Aside0.mk (by rw [hW]; exact blk_set (blk_drewN HI1.out _) 1 _)
      have HX2 : Aside0 (W2.heap[w.heap.size]? = some (.cells #[.int .u8 0, .int .u8 0, .slice none 0 0] 38 (0, 0))) := Aside0.mk (by rw [hW]; exact blk_far (blk_drewN HX1.out _) (by simpa using HNE.out) _)
      clear hW hs1 hs2 hs3 hz1
      have hs1 : W2.cell? ⟨g, 0, none⟩ = some (.slice (some ad) b.length c) := (blk_cell HI2.out 0).trans rfl
      have hs2 : W2.cell? ⟨g, 1, none⟩ = some (.int .i64 ((at_ : Int) + 1)) := (blk_cell HI2.out 1).trans rfl
      have hz1 := blk_frozen HI2.out 1
      have hx0 : W2.cell? ⟨w.heap.size, 0, none⟩ = some (.int .u8 0) := (blk_cell HX2.out 0).trans rfl
      have hx1 : W2.cell? ⟨w.heap.size, 1, none⟩ = some (.int .u8 0) := (blk_cell HX2.out 1).trans rfl
      have hx2 : W2.cell? ⟨w.heap.size, 2, none⟩ = some (.slice none 0 0) := (blk_cell HX2.out 2).trans rfl
      have hzx0 := blk_frozen HX2.out 0
      have hzx1 := blk_frozen HX2.out 1
      have hzx2 := blk_frozen HX2.out 2
      go_quiet (fail)
      go_wp2
      refine atWorldB ?_
      intro W3 hW
      have HB3 : Aside0 (Below w0.heap.size w0 W3) := Aside0.mk (by rw [hW]; exact below_set (below_set (below_set (pw_below_drewN HB2.out _) HWS.out) HWS.out) HWS.out)
      have HK3 : Aside0 (KeepBut w W3 g none) := Aside0.mk (by rw [hW]; exact rk_new (rk_new (rk_new (keep_drewN HK2.out _))))
      have HI3 : Aside0 (W3.heap[g]? = some (.cells #[.slice (some ad) b.length c, .int .i64 ((at_ : Int) + 1)] 64 (0, 0))) := Aside0.mk (by rw [hW]; exact blk_far (blk_far (blk_far (blk_drewN HI2.out _) HNE.out.symm _) HNE.out.symm _) HNE.out.symm _)
      have HX3 : Aside0 (W3.heap[w.heap.size]? = some (.cells #[.int .u8 0, .int .u8 0, .slice none 0 0] 38 (0, 0))) := Aside0.mk (by rw [hW]; exact blk_set (blk_set (blk_set (blk_drewN HX2.out _) 0 _) 1 _) 2 _)
      clear hW hs1 hs2 hx0 hx1 hx2
      have hy0 : W3.cell? ⟨w.heap.size, 0, none⟩ = some (.int .u8 0) := (blk_cell HX3.out 0).trans rfl
      have hy1 : W3.cell? ⟨w.heap.size, 1, none⟩ = some (.int .u8 0) := (blk_cell HX3.out 1).trans rfl
      have hy2 : W3.cell? ⟨w.heap.size, 2, none⟩ = some (.slice none 0 0) := (blk_cell HX3.out 2).trans rfl
      exact bodyPost_ret (v := .tuple #[.agg #[.int .u8 0, .int .u8 0, .slice none 0 0], .int .i64 4]) (by simp [results, Try.results46, hy0, hy1, hy2, go_sem]) rfl ⟨_, rfl, RT_nil _ _ _, ⟨at_ + 1, by simp, HB3.out, HGE.out, by simpa using HI3.out⟩, HK3.out⟩
    rw [if_neg c2] at h
    have c2b : ((at_ : Int) + 1 == (b.length : Int)) = false := by simp [c2]
    have hl1 : at_ + 1 < b.length := by omega
    have HCY := Aside0.mk (HCX0.out (at_ + 1) hl1)
    generalize b.getD (at_ + 1) 0 = c3 at h HCY
    have hti1 : (at_ : Int) + 1 < (b.length : Int) := by omega
    have hti2 : (0 : Int) ≤ (at_ : Int) + 1 := by omega
    have hti3 : ((at_ : Int) + 1).toNat = at_ + 1 := by omega
    have hw2 : IntKind.i64.wrap ((at_ : Int) + 1 + 1) = (at_ : Int) + 2 := by rw [IntKind.wrap_i64]; omega
    have hw3 : IntKind.i64.wrap ((at_ : Int) + 2 - 1) = (at_ : Int) + 1 := by rw [IntKind.wrap_i64]; omega
    obtain ⟨rfl, rfl, rfl, rfl, rfl⟩ : (1 : Int) = r1 ∧ c3 = r2 ∧ [] = r3 ∧ (0 : Int) = r4 ∧ (at_ : Int) + 2 = r5 := by simpa using h
    clear h c2
    go_enter Try.func46, Try.ntmps46
    go_wp2
    refine atWorld ?_
    intro W1 hW
    have HB1 : Aside0 (Below w0.heap.size w0 W1) := Aside0.mk (by rw [hW]; exact below_alloc HB.out _)
    have HK1 : Aside0 (KeepBut w W1 g none) := Aside0.mk (by rw [hW]; exact keep_alloc (KeepBut.refl _ _ _) _)
    have HI1 : Aside0 (W1.heap[g]? = some (.cells #[.slice (some ad) b.length c, .int .i64 (at_ : Int)] 64 (0, 0))) := Aside0.mk (by rw [hW]; exact blk_alloc HI.out _)
    have HX1 : Aside0 (W1.heap[w.heap.size]? = some (.cells #[.int .u8 0, .int .u8 0, .slice none 0 0] 38 (0, 0))) := Aside0.mk (by rw [hW]; exact blk_new w _)
    clear hW
    have hs1 : W1.cell? ⟨g, 0, none⟩ = some (.slice (some ad) b.length c) := (blk_cell HI1.out 0).trans rfl
    have hs2 : W1.cell? ⟨g, 1, none⟩ = some (.int .i64 (at_ : Int)) := (blk_cell HI1.out 1).trans rfl
    have hs3 : W1.cell? (ad.add at_) = some (.int .u8 c0) := HCX.out W1 HB1.out
    have hz1 := blk_frozen HI1.out 1
    go_quiet (fail)
    go_wp2
    refine atWorld ?_
    intro W2 hW
    have HB2 : Aside0 (Below w0.heap.size w0 W2) := Aside0.mk (by rw [hW]; exact below_set (pw_below_drewN HB1.out _) HGE.out)
    have HK2 : Aside0 (KeepBut w W2 g none) := Aside0.mk (by rw [hW]; exact rk_set (keep_drewN HK1.out _))
    have HI2 : Aside0 (W2.heap[g]? = some (.cells #[.slice (some ad) b.length c, .int .i64 ((at_ : Int) + 1)] 64 (0, 0))) := Aside0.mk (by rw [hW]; exact blk_set (blk_drewN HI1.out _) 1 _)
    have HX2 : Aside0 (W2.heap[w.heap.size]? = some (.cells #[.int .u8 0, .int .u8 0, .slice none 0 0] 38 (0, 0))) := Aside0.mk (by rw [hW]; exact blk_far (blk_drewN HX1.out _) (by simpa using HNE.out) _)
    clear hW hs1 hs2 hs3 hz1
    have hs1 : W2.cell? ⟨g, 0, none⟩ = some (.slice (some ad) b.length c) := (blk_cell HI2.out 0).trans rfl
    have hs2 : W2.cell? ⟨g, 1, none⟩ = some (.int .i64 ((at_ : Int) + 1)) := (blk_cell HI2.out 1).trans rfl
    have hz1 := blk_frozen HI2.out 1
    have hx0 : W2.cell? ⟨w.heap.size, 0, none⟩ = some (.int .u8 0) := (blk_cell HX2.out 0).trans rfl
    have hx1 : W2.cell? ⟨w.heap.size, 1, none⟩ = some (.int .u8 0) := (blk_cell HX2.out 1).trans rfl
    have hx2 : W2.cell? ⟨w.heap.size, 2, none⟩ = some (.slice none 0 0) := (blk_cell HX2.out 2).trans rfl
    have hzx0 := blk_frozen HX2.out 0
    have hzx1 := blk_frozen HX2.out 1
    have hzx2 := blk_frozen HX2.out 2
    go_quiet (fail)
    go_wp2
    refine atWorld ?_
    intro W4 hW
    have HB4 : Aside0 (Below w0.heap.size w0 W4) := Aside0.mk (by rw [hW]; exact below_set (pw_below_drewN HB2.out _) HGE.out)
    have HK4 : Aside0 (KeepBut w W4 g none) := Aside0.mk (by rw [hW]; exact rk_set (keep_drewN HK2.out _))
    have HI4 : Aside0 (W4.heap[g]? = some (.cells #[.slice (some ad) b.length c, .int .i64 ((at_ : Int) + 2)] 64 (0, 0))) := Aside0.mk (by rw [hW]; exact blk_set (blk_drewN HI2.out _) 1 _)
    have HX4 : Aside0 (W4.heap[w.heap.size]? = some (.cells #[.int .u8 0, .int .u8 0, .slice none 0 0] 38 (0, 0))) := Aside0.mk (by rw [hW]; exact blk_far (blk_drewN HX2.out _) (by simpa using HNE.out) _)
    clear hW hs1 hs2 hz1 hx0 hx1 hx2 hzx0 hzx1 hzx2
    have hs1 : W4.cell? ⟨g, 0, none⟩ = some (.slice (some ad) b.length c) := (blk_cell HI4.out 0).trans rfl
    have hs2 : W4.cell? ⟨g, 1, none⟩ = some (.int .i64 ((at_ : Int) + 2)) := (blk_cell HI4.out 1).trans rfl
    have hs3 : W4.cell? (ad.add (at_ + 1)) = some (.int .u8 c3) := HCY.out W4 HB4.out
    have hx0 : W4.cell? ⟨w.heap.size, 0, none⟩ = some (.int .u8 0) := (blk_cell HX4.out 0).trans rfl
    have hx1 : W4.cell? ⟨w.heap.size, 1, none⟩ = some (.int .u8 0) := (blk_cell HX4.out 1).trans rfl
    have hx2 : W4.cell? ⟨w.heap.size, 2, none⟩ = some (.slice none 0 0) := (blk_cell HX4.out 2).trans rfl
    have hzx0 := blk_frozen HX4.out 0
    have hzx1 := blk_frozen HX4.out 1
    have hzx2 := blk_frozen HX4.out 2
    rw [show ad.add (at_ + 1) = ⟨ad.block, ad.off + (at_ + 1), none⟩ from by unfold Addr.add; rw [if_neg (by omega)]] at hs3
    have hadb : ad.block ≠ w.heap.size := by
      have h1_ := World.block_lt_of_cell? _ _ (HCY.out w HB.out)
      rw [show ad.add (at_ + 1) = ⟨ad.block, ad.off + (at_ + 1), none⟩ from by unfold Addr.add; rw [if_neg (by omega)]] at h1_
      exact Nat.ne_of_lt h1_
    have HADB := Aside0.mk hadb
    clear hadb
    go_region_held3 (fun w' => w'.cell? ⟨g, 0, none⟩ = some (.slice (some ad) b.length c) ∧ w'.cell? ⟨g, 1, none⟩ = some (.int .i64 ((at_ : Int) + 2)) ∧ w'.cell? ⟨ad.block, ad.off + (at_ + 1), none⟩ = some (.int .u8 c3)) (first | exact ⟨rk_cell (rk_cell (rk_cell hs1 HNE.out.symm) HNE.out.symm) HNE.out.symm, rk_cell (rk_cell (rk_cell hs2 HNE.out.symm) HNE.out.symm) HNE.out.symm, rk_cell (rk_cell (rk_cell hs3 HADB.out) HADB.out) HADB.out⟩ | go_keep) (first | fail)
    go_wp2
    refine atWorldB ?_
    intro W3 hW
    have HB3 : Aside0 (Below w0.heap.size w0 W3) := Aside0.mk (by rw [hW]; exact below_drew1 (below_set (below_set (below_set HB4.out HWS.out) HWS.out) HWS.out))
    have HK3 : Aside0 (KeepBut w W3 g none) := Aside0.mk (by rw [hW]; exact rk_drew (rk_new (rk_new (rk_new HK4.out))))
    have HI3 : Aside0 (W3.heap[g]? = some (.cells #[.slice (some ad) b.length c, .int .i64 ((at_ : Int) + 2)] 64 (0, 0))) := Aside0.mk (by rw [hW]; exact blk_drew (blk_far (blk_far (blk_far HI4.out HNE.out.symm _) HNE.out.symm _) HNE.out.symm _))
    have HX3 : Aside0 (W3.heap[w.heap.size]? = some (.cells #[.int .u8 1, .int .u8 c3, .slice none 0 0] 38 (0, 0))) := Aside0.mk (by rw [hW]; exact blk_drew (blk_set (blk_set (blk_set HX4.out 0 _) 1 _) 2 _))
    clear hW hs1 hs2 hs3 hx0 hx1 hx2
    have hy0 : W3.cell? ⟨w.heap.size, 0, none⟩ = some (.int .u8 1) := (blk_cell HX3.out 0).trans rfl
    have hy1 : W3.cell? ⟨w.heap.size, 1, none⟩ = some (.int .u8 c3) := (blk_cell HX3.out 1).trans rfl
    have hy2 : W3.cell? ⟨w.heap.size, 2, none⟩ = some (.slice none 0 0) := (blk_cell HX3.out 2).trans rfl
    exact bodyPost_ret (v := .tuple #[.agg #[.int .u8 1, .int .u8 c3, .slice none 0 0], .int .i64 0]) (by simp [results, Try.results46, hy0, hy1, hy2, go_sem]) rfl ⟨_, rfl, RT_nil _ _ _, ⟨at_ + 2, by simp, HB3.out, HGE.out, by simpa using HI3.out⟩, HK3.out⟩
  rw [if_neg c1] at h
  have c1b : (c0 == 0) = false := by simp [c1]
  by_cases c2 : c0 = 1
  · rw [if_pos c2] at h
    have c2b : (c0 == 1) = true := by simp [c2]
    clear c1 c2
    obtain ⟨rfl, rfl, rfl, rfl, rfl⟩ : (4 : Int) = r1 ∧ (0 : Int) = r2 ∧ [] = r3 ∧ (0 : Int) = r4 ∧ (at_ : Int) + 1 = r5 := by simpa using h
    clear h
    go_enter Try.func46, Try.ntmps46
    go_wp2
    refine atWorld ?_
    intro W1 hW
    have HB1 : Aside0 (Below w0.heap.size w0 W1) := Aside0.mk (by rw [hW]; exact below_alloc HB.out _)
    have HK1 : Aside0 (KeepBut w W1 g none) := Aside0.mk (by rw [hW]; exact keep_alloc (KeepBut.refl _ _ _) _)
    have HI1 : Aside0 (W1.heap[g]? = some (.cells #[.slice (some ad) b.length c, .int .i64 (at_ : Int)] 64 (0, 0))) := Aside0.mk (by rw [hW]; exact blk_alloc HI.out _)
    have HX1 : Aside0 (W1.heap[w.heap.size]? = some (.cells #[.int .u8 0, .int .u8 0, .slice none 0 0] 38 (0, 0))) := Aside0.mk (by rw [hW]; exact blk_new w _)
    clear hW
    have hs1 : W1.cell? ⟨g, 0, none⟩ = some (.slice (some ad) b.length c) := (blk_cell HI1.out 0).trans rfl
    have hs2 : W1.cell? ⟨g, 1, none⟩ = some (.int .i64 (at_ : Int)) := (blk_cell HI1.out 1).trans rfl
    have hs3 : W1.cell? (ad.add at_) = some (.int .u8 c0) := HCX.out W1 HB1.out
    have hz1 := blk_frozen HI1.out 1
    go_quiet (fail)
    go_wp2
    refine atWorld ?_
    intro W2 hW
    have HB2 : Aside0 (Below w0.heap.size w0 W2) := Aside0.mk (by rw [hW]; exact below_set (pw_below_drewN HB1.out _) HGE.out)
    have HK2 : Aside0 (KeepBut w W2 g none) := Aside0.mk (by rw [hW]; exact rk_set (keep_drewN HK1.out _))
    have HI2 : Aside0 (W2.heap[g]? = some (.cells #[.slice (some ad) b.length c, .int .i64 ((at_ : Int) + 1)] 64 (0, 0))) := Aside0.mk (by rw [hW]; exact blk_set (blk_drewN HI1.out _) 1 _)
    have HX2 : Aside0 (W2.heap[w.heap.size]? = some (.cells #[.int .u8 0, .int .u8 0, .slice none 0 0] 38 (0, 0))) := Aside0.mk (by rw [hW]; exact blk_far (blk_drewN HX1.out _) (by simpa using HNE.out) _)
    clear hW hs1 hs2 hs3 hz1
    have hs1 : W2.cell? ⟨g, 0, none⟩ = some (.slice (some ad) b.length c) := (blk_cell HI2.out 0).trans rfl
    have hs2 : W2.cell? ⟨g, 1, none⟩ = some (.int .i64 ((at_ : Int) + 1)) := (blk_cell HI2.out 1).trans rfl
    have hz1 := blk_frozen HI2.out 1
    have hx0 : W2.cell? ⟨w.heap.size, 0, none⟩ = some (.int .u8 0) := (blk_cell HX2.out 0).trans rfl
    have hx1 : W2.cell? ⟨w.heap.size, 1, none⟩ = some (.int .u8 0) := (blk_cell HX2.out 1).trans rfl
    have hx2 : W2.cell? ⟨w.heap.size, 2, none⟩ = some (.slice none 0 0) := (blk_cell HX2.out 2).trans rfl
    have hzx0 := blk_frozen HX2.out 0
    have hzx1 := blk_frozen HX2.out 1
    have hzx2 := blk_frozen HX2.out 2
    go_quiet (fail)
    go_wp2
    refine atWorldB ?_
    intro W3 hW
    have HB3 : Aside0 (Below w0.heap.size w0 W3) := Aside0.mk (by rw [hW]; exact below_set (below_set (below_set (pw_below_drewN HB2.out _) HWS.out) HWS.out) HWS.out)
    have HK3 : Aside0 (KeepBut w W3 g none) := Aside0.mk (by rw [hW]; exact rk_new (rk_new (rk_new (keep_drewN HK2.out _))))
    have HI3 : Aside0 (W3.heap[g]? = some (.cells #[.slice (some ad) b.length c, .int .i64 ((at_ : Int) + 1)] 64 (0, 0))) := Aside0.mk (by rw [hW]; exact blk_far (blk_far (blk_far (blk_drewN HI2.out _) HNE.out.symm _) HNE.out.symm _) HNE.out.symm _)
    have HX3 : Aside0 (W3.heap[w.heap.size]? = some (.cells #[.int .u8 4, .int .u8 0, .slice none 0 0] 38 (0, 0))) := Aside0.mk (by rw [hW]; exact blk_set (blk_set (blk_set (blk_drewN HX2.out _) 0 _) 1 _) 2 _)
    clear hW hs1 hs2 hx0 hx1 hx2
    have hy0 : W3.cell? ⟨w.heap.size, 0, none⟩ = some (.int .u8 4) := (blk_cell HX3.out 0).trans rfl
    have hy1 : W3.cell? ⟨w.heap.size, 1, none⟩ = some (.int .u8 0) := (blk_cell HX3.out 1).trans rfl
    have hy2 : W3.cell? ⟨w.heap.size, 2, none⟩ = some (.slice none 0 0) := (blk_cell HX3.out 2).trans rfl
    exact bodyPost_ret (v := .tuple #[.agg #[.int .u8 4, .int .u8 0, .slice none 0 0], .int .i64 0]) (by simp [results, Try.results46, hy0, hy1, hy2, go_sem]) rfl ⟨_, rfl, RT_nil _ _ _, ⟨at_ + 1, by simp, HB3.out, HGE.out, by simpa using HI3.out⟩, HK3.out⟩
  rw [if_neg c2] at h
  have c2b : (c0 == 1) = false := by simp [c2]
  by_cases c3 : c0 = 3
  · rw [if_pos c3] at h
    have c3b : (c0 == 3) = true := by simp [c3]
    clear c1 c2
    obtain ⟨⟨d1, d2, d3⟩, hd, h⟩ := Option.bind_eq_some_iff.1 h
    obtain ⟨rfl, rfl, rfl, rfl, rfl⟩ : (5 : Int) = r1 ∧ (0 : Int) = r2 ∧ d1 = r3 ∧ d2 = r4 ∧ (d3 : Int) = r5 := by simpa using h
    have HD := Aside0.mk hd
    clear h hd
    have HAT : Aside0 (at_ + 1 ≤ b.length) := Aside0.mk (by omega)
    have HLN := Aside0.mk hlen
    have HC0 := Aside0.mk hc0
    go_enter Try.func46, Try.ntmps46
    go_wp2
    refine atWorld ?_
    intro W1 hW
    have HB1 : Aside0 (Below w0.heap.size w0 W1) := Aside0.mk (by rw [hW]; exact below_alloc HB.out _)
    have HK1 : Aside0 (KeepBut w W1 g none) := Aside0.mk (by rw [hW]; exact keep_alloc (KeepBut.refl _ _ _) _)
    have HI1 : Aside0 (W1.heap[g]? = some (.cells #[.slice (some ad) b.length c, .int .i64 (at_ : Int)] 64 (0, 0))) := Aside0.mk (by rw [hW]; exact blk_alloc HI.out _)
    have HX1 : Aside0 (W1.heap[w.heap.size]? = some (.cells #[.int .u8 0, .int .u8 0, .slice none 0 0] 38 (0, 0))) := Aside0.mk (by rw [hW]; exact blk_new w _)
    clear hW
    have hs1 : W1.cell? ⟨g, 0, none⟩ = some (.slice (some ad) b.length c) := (blk_cell HI1.out 0).trans rfl
    have hs2 : W1.cell? ⟨g, 1, none⟩ = some (.int .i64 (at_ : Int)) := (blk_cell HI1.out 1).trans rfl
    have hs3 : W1.cell? (ad.add at_) = some (.int .u8 c0) := HCX.out W1 HB1.out
    have hz1 := blk_frozen HI1.out 1
    go_quiet (fail)
    go_wp2
    refine atWorld ?_
    intro W2 hW
    have HB2 : Aside0 (Below w0.heap.size w0 W2) := Aside0.mk (by rw [hW]; exact below_set (pw_below_drewN HB1.out _) HGE.out)
    have HK2 : Aside0 (KeepBut w W2 g none) := Aside0.mk (by rw [hW]; exact rk_set (keep_drewN HK1.out _))
    have HI2 : Aside0 (W2.heap[g]? = some (.cells #[.slice (some ad) b.length c, .int .i64 ((at_ : Int) + 1)] 64 (0, 0))) := Aside0.mk (by rw [hW]; exact blk_set (blk_drewN HI1.out _) 1 _)
    have HX2 : Aside0 (W2.heap[w.heap.size]? = some (.cells #[.int .u8 0, .int .u8 0, .slice none 0 0] 38 (0, 0))) := Aside0.mk (by rw [hW]; exact blk_far (blk_drewN HX1.out _) (by simpa using HNE.out) _)
    clear hW hs1 hs2 hs3 hz1
    have hs1 : W2.cell? ⟨g, 0, none⟩ = some (.slice (some ad) b.length c) := (blk_cell HI2.out 0).trans rfl
    have hs2 : W2.cell? ⟨g, 1, none⟩ = some (.int .i64 ((at_ : Int) + 1)) := (blk_cell HI2.out 1).trans rfl
    have hz1 := blk_frozen HI2.out 1
    have hx0 : W2.cell? ⟨w.heap.size, 0, none⟩ = some (.int .u8 0) := (blk_cell HX2.out 0).trans rfl
    have hx1 : W2.cell? ⟨w.heap.size, 1, none⟩ = some (.int .u8 0) := (blk_cell HX2.out 1).trans rfl
    have hx2 : W2.cell? ⟨w.heap.size, 2, none⟩ = some (.slice none 0 0) := (blk_cell HX2.out 2).trans rfl
    have hzx0 := blk_frozen HX2.out 0
    have hzx1 := blk_frozen HX2.out 1
    have hzx2 := blk_frozen HX2.out 2
    go_quiet (fail)
    go_wp2_with (first | ((with_reducible refine gate_callee (f := 50) rfl ?_); refine atWorldL ?_; intro W3 hW; have HB3 : Aside0 (Below w0.heap.size w0 W3) := Aside0.mk (by rw [hW]; exact below_set (pw_below_drewN HB2.out _) HWS.out); have HK3 : Aside0 (KeepBut w W3 g none) := Aside0.mk (by rw [hW]; exact rk_new (keep_drewN HK2.out _)); have HI3 : Aside0 (W3.heap[g]? = some (.cells #[.slice (some ad) b.length c, .int .i64 ((at_ : Int) + 1)] 64 (0, 0))) := Aside0.mk (by rw [hW]; exact blk_far (blk_drewN HI2.out _) HNE.out.symm _); have HX3 : Aside0 (W3.heap[w.heap.size]? = some (.cells #[.int .u8 5, .int .u8 0, .slice none 0 0] 38 (0, 0))) := Aside0.mk (by rw [hW]; exact blk_set (blk_drewN HX2.out _) 0 _); clear hW hs1 hs2 hz1 hx0 hx1 hx2 hzx0 hzx1 hzx2; refine goesL_ (some 70) rfl rfl Try.func50 (by kernel_rfl) rfl #[.pointer (some ⟨g, 0, none⟩)] rfl (by first | rfl | go_simp) ?_; refine (rtextT_calls k (some ad) c b g (at_ + 1) d1 d2 d3 w0 W3 HR0.out HC0.out HLN.out ⟨HB3.out, HGE.out, by simpa using HI3.out⟩ HAT.out HD.out).mono ?_; rintro _ W4 ⟨v0, rfl, hR, hI4, hK4⟩; have HX4 := Aside0.mk (hK4.blk HX3.out HNE.out (by simp)); have HR4 := Aside0.mk hR; have HI4 := Aside0.mk hI4; have HK4 := Aside0.mk (HK3.out.trans hK4 (.inl rfl)); have HS4 : Aside0 (w.heap.size < W3.heap.size) := Aside0.mk (blk_lt HX3.out); clear hR hI4 hK4; obtain ⟨A5, c5, e5⟩ := RT_slice HR4.out; subst e5; have hx0 : W4.cell? ⟨w.heap.size, 0, none⟩ = some (.int .u8 5) := (blk_cell HX4.out 0).trans rfl; have hx1 : W4.cell? ⟨w.heap.size, 1, none⟩ = some (.int .u8 0) := (blk_cell HX4.out 1).trans rfl; have hx2 : W4.cell? ⟨w.heap.size, 2, none⟩ = some (.slice none 0 0) := (blk_cell HX4.out 2).trans rfl; have hzx0 := blk_frozen HX4.out 0; have hzx1 := blk_frozen HX4.out 1; have hzx2 := blk_frozen HX4.out 2; refine ⟨_, rfl, ?_⟩))
    refine atWorldB ?_
    intro W5 hW
    have HX5 : Aside0 (W5.heap[w.heap.size]? = some (.cells #[.int .u8 5, .int .u8 0, .slice A5 d1.length c5] 38 (0, 0))) := Aside0.mk (by rw [hW]; exact blk_set (blk_set (blk_set (blk_set HX4.out 2 _) 0 _) 1 _) 2 _)
    have HK5 : Aside0 (KeepBut w W5 g none) := Aside0.mk (by rw [hW]; exact rk_new (rk_new (rk_new (rk_new HK4.out))))
    have HR5 : Aside0 (RT W5 W3.heap.size (fun _ => True) (.slice A5 d1.length c5) d1) := Aside0.mk (by rw [hW]; exact rk_RTfar (rk_RTfar (rk_RTfar (rk_RTfar HR4.out HS4.out _) HS4.out _) HS4.out _) HS4.out _)
    have hI5 : ∃ r : Nat, (d3 : Int) = (r : Int) ∧ RdR w0 W5 (some ad) c b g r := by
      obtain ⟨q1, q2, q3⟩ := HI4.out
      exact ⟨_, rfl, by rw [hW]; exact below_set (below_set (below_set (below_set q1 HWS.out) HWS.out) HWS.out) HWS.out, q2, by rw [hW]; exact blk_far (blk_far (blk_far (blk_far q3 HNE.out.symm _) HNE.out.symm _) HNE.out.symm _) HNE.out.symm _⟩
    clear hW hx0 hx1 hx2
    have hy0 : W5.cell? ⟨w.heap.size, 0, none⟩ = some (.int .u8 5) := (blk_cell HX5.out 0).trans rfl
    have hy1 : W5.cell? ⟨w.heap.size, 1, none⟩ = some (.int .u8 0) := (blk_cell HX5.out 1).trans rfl
    have hy2 : W5.cell? ⟨w.heap.size, 2, none⟩ = some (.slice A5 d1.length c5) := (blk_cell HX5.out 2).trans rfl
    exact bodyPost_ret (v := .tuple #[.agg #[.int .u8 5, .int .u8 0, .slice A5 d1.length c5], .int .i64 d2]) (by simp [results, Try.results46, hy0, hy1, hy2, go_sem]) rfl ⟨_, rfl, RT_lower HR5.out HK3.out.1, hI5, HK5.out⟩
  rw [if_neg c3] at h
  have c3b : (c0 == 3) = false := by simp [c3]
  by_cases c4 : c0 = 195
  · rw [if_pos c4] at h
    have c4b : (c0 == 195) = true := by simp [c4]
    clear c1 c2 c3
    obtain ⟨⟨d1, d2, d3⟩, hd, h⟩ := Option.bind_eq_some_iff.1 h
    obtain ⟨rfl, rfl, rfl, rfl, rfl⟩ : (6 : Int) = r1 ∧ (0 : Int) = r2 ∧ d1 = r3 ∧ d2 = r4 ∧ d3 = r5 := by simpa using h
    have HD := Aside0.mk hd
    clear h hd
    have HAT : Aside0 (at_ + 1 ≤ b.length) := Aside0.mk (by omega)
    have HLN := Aside0.mk hlen
    have HC0 := Aside0.mk hc0
    go_enter Try.func46, Try.ntmps46
    go_wp2
    refine atWorld ?_
    intro W1 hW
    have HB1 : Aside0 (Below w0.heap.size w0 W1) := Aside0.mk (by rw [hW]; exact below_alloc HB.out _)
    have HK1 : Aside0 (KeepBut w W1 g none) := Aside0.mk (by rw [hW]; exact keep_alloc (KeepBut.refl _ _ _) _)
    have HI1 : Aside0 (W1.heap[g]? = some (.cells #[.slice (some ad) b.length c, .int .i64 (at_ : Int)] 64 (0, 0))) := Aside0.mk (by rw [hW]; exact blk_alloc HI.out _)
    have HX1 : Aside0 (W1.heap[w.heap.size]? = some (.cells #[.int .u8 0, .int .u8 0, .slice none 0 0] 38 (0, 0))) := Aside0.mk (by rw [hW]; exact blk_new w _)
    clear hW
    have hs1 : W1.cell? ⟨g, 0, none⟩ = some (.slice (some ad) b.length c) := (blk_cell HI1.out 0).trans rfl
    have hs2 : W1.cell? ⟨g, 1, none⟩ = some (.int .i64 (at_ : Int)) := (blk_cell HI1.out 1).trans rfl
    have hs3 : W1.cell? (ad.add at_) = some (.int .u8 c0) := HCX.out W1 HB1.out
    have hz1 := blk_frozen HI1.out 1
    go_quiet (fail)
    go_wp2
    refine atWorld ?_
    intro W2 hW
    have HB2 : Aside0 (Below w0.heap.size w0 W2) := Aside0.mk (by rw [hW]; exact below_set (pw_below_drewN HB1.out _) HGE.out)
    have HK2 : Aside0 (KeepBut w W2 g none) := Aside0.mk (by rw [hW]; exact rk_set (keep_drewN HK1.out _))
    have HI2 : Aside0 (W2.heap[g]? = some (.cells #[.slice (some ad) b.length c, .int .i64 ((at_ : Int) + 1)] 64 (0, 0))) := Aside0.mk (by rw [hW]; exact blk_set (blk_drewN HI1.out _) 1 _)
    have HX2 : Aside0 (W2.heap[w.heap.size]? = some (.cells #[.int .u8 0, .int .u8 0, .slice none 0 0] 38 (0, 0))) := Aside0.mk (by rw [hW]; exact blk_far (blk_drewN HX1.out _) (by simpa using HNE.out) _)
    clear hW hs1 hs2 hs3 hz1
    have hs1 : W2.cell? ⟨g, 0, none⟩ = some (.slice (some ad) b.length c) := (blk_cell HI2.out 0).trans rfl
    have hs2 : W2.cell? ⟨g, 1, none⟩ = some (.int .i64 ((at_ : Int) + 1)) := (blk_cell HI2.out 1).trans rfl
    have hz1 := blk_frozen HI2.out 1
    have hx0 : W2.cell? ⟨w.heap.size, 0, none⟩ = some (.int .u8 0) := (blk_cell HX2.out 0).trans rfl
    have hx1 : W2.cell? ⟨w.heap.size, 1, none⟩ = some (.int .u8 0) := (blk_cell HX2.out 1).trans rfl
    have hx2 : W2.cell? ⟨w.heap.size, 2, none⟩ = some (.slice none 0 0) := (blk_cell HX2.out 2).trans rfl
    have hzx0 := blk_frozen HX2.out 0
    have hzx1 := blk_frozen HX2.out 1
    have hzx2 := blk_frozen HX2.out 2
    go_quiet (fail)
    go_wp2_with (first | ((with_reducible refine gate_callee (f := 51) rfl ?_); refine atWorldL ?_; intro W3 hW; have HB3 : Aside0 (Below w0.heap.size w0 W3) := Aside0.mk (by rw [hW]; exact below_set (pw_below_drewN HB2.out _) HWS.out); have HK3 : Aside0 (KeepBut w W3 g none) := Aside0.mk (by rw [hW]; exact rk_new (keep_drewN HK2.out _)); have HI3 : Aside0 (W3.heap[g]? = some (.cells #[.slice (some ad) b.length c, .int .i64 ((at_ : Int) + 1)] 64 (0, 0))) := Aside0.mk (by rw [hW]; exact blk_far (blk_drewN HI2.out _) HNE.out.symm _); have HX3 : Aside0 (W3.heap[w.heap.size]? = some (.cells #[.int .u8 6, .int .u8 0, .slice none 0 0] 38 (0, 0))) := Aside0.mk (by rw [hW]; exact blk_set (blk_drewN HX2.out _) 0 _); clear hW hs1 hs2 hz1 hx0 hx1 hx2 hzx0 hzx1 hzx2; refine goesL_ (some 82) rfl rfl Try.func51 (by kernel_rfl) rfl #[.pointer (some ⟨g, 0, none⟩)] rfl (by first | rfl | go_simp) ?_; refine (ropqT_calls k (some ad) c b g (at_ + 1) d1 d2 d3 w0 W3 HR0.out HC0.out HLN.out ⟨HB3.out, HGE.out, by simpa using HI3.out⟩ HAT.out HD.out).mono ?_; rintro _ W4 ⟨v0, rfl, hR, hI4, hK4⟩; have HX4 := Aside0.mk (hK4.blk HX3.out HNE.out (by simp)); have HR4 := Aside0.mk hR; have HI4 := Aside0.mk hI4; have HK4 := Aside0.mk (HK3.out.trans hK4 (.inl rfl)); have HS4 : Aside0 (w.heap.size < W3.heap.size) := Aside0.mk (blk_lt HX3.out); clear hR hI4 hK4; obtain ⟨A5, c5, e5⟩ := RT_slice HR4.out; subst e5; have hx0 : W4.cell? ⟨w.heap.size, 0, none⟩ = some (.int .u8 6) := (blk_cell HX4.out 0).trans rfl; have hx1 : W4.cell? ⟨w.heap.size, 1, none⟩ = some (.int .u8 0) := (blk_cell HX4.out 1).trans rfl; have hx2 : W4.cell? ⟨w.heap.size, 2, none⟩ = some (.slice none 0 0) := (blk_cell HX4.out 2).trans rfl; have hzx0 := blk_frozen HX4.out 0; have hzx1 := blk_frozen HX4.out 1; have hzx2 := blk_frozen HX4.out 2; refine ⟨_, rfl, ?_⟩))
    refine atWorldB ?_
    intro W5 hW
    have HX5 : Aside0 (W5.heap[w.heap.size]? = some (.cells #[.int .u8 6, .int .u8 0, .slice A5 d1.length c5] 38 (0, 0))) := Aside0.mk (by rw [hW]; exact blk_set (blk_set (blk_set (blk_set HX4.out 2 _) 0 _) 1 _) 2 _)
    have HK5 : Aside0 (KeepBut w W5 g none) := Aside0.mk (by rw [hW]; exact rk_new (rk_new (rk_new (rk_new HK4.out))))
    have HR5 : Aside0 (RT W5 W3.heap.size (fun _ => True) (.slice A5 d1.length c5) d1) := Aside0.mk (by rw [hW]; exact rk_RTfar (rk_RTfar (rk_RTfar (rk_RTfar HR4.out HS4.out _) HS4.out _) HS4.out _) HS4.out _)
    have hI5 : ∃ r : Nat, d3 = (r : Int) ∧ RdR w0 W5 (some ad) c b g r := by
      obtain ⟨r, q0, q1, q2, q3⟩ := HI4.out
      exact ⟨_, q0, by rw [hW]; exact below_set (below_set (below_set (below_set q1 HWS.out) HWS.out) HWS.out) HWS.out, q2, by rw [hW]; exact blk_far (blk_far (blk_far (blk_far q3 HNE.out.symm _) HNE.out.symm _) HNE.out.symm _) HNE.out.symm _⟩
    clear hW hx0 hx1 hx2
    have hy0 : W5.cell? ⟨w.heap.size, 0, none⟩ = some (.int .u8 6) := (blk_cell HX5.out 0).trans rfl
    have hy1 : W5.cell? ⟨w.heap.size, 1, none⟩ = some (.int .u8 0) := (blk_cell HX5.out 1).trans rfl
    have hy2 : W5.cell? ⟨w.heap.size, 2, none⟩ = some (.slice A5 d1.length c5) := (blk_cell HX5.out 2).trans rfl
    exact bodyPost_ret (v := .tuple #[.agg #[.int .u8 6, .int .u8 0, .slice A5 d1.length c5], .int .i64 d2]) (by simp [results, Try.results46, hy0, hy1, hy2, go_sem]) rfl ⟨_, rfl, RT_lower HR5.out HK3.out.1, hI5, HK5.out⟩
  rw [if_neg c4] at h
  have c4b : (c0 == 195) = false := by simp [c4]
  clear c1 c2 c3 c4
  by_cases c5 : 5 ≤ c0 ∧ c0 ≤ 63
  · rw [if_pos c5] at h
    obtain ⟨rfl, rfl, rfl, rfl, rfl⟩ : (3 : Int) = r1 ∧ (c0) = r2 ∧ [] = r3 ∧ (0 : Int) = r4 ∧ (at_ : Int) + 1 = r5 := by simpa using h
    clear h
    obtain ⟨c5a, c5b⟩ := c5
    go_enter Try.func46, Try.ntmps46
    go_wp2
    refine atWorld ?_
    intro W1 hW
    have HB1 : Aside0 (Below w0.heap.size w0 W1) := Aside0.mk (by rw [hW]; exact below_alloc HB.out _)
    have HK1 : Aside0 (KeepBut w W1 g none) := Aside0.mk (by rw [hW]; exact keep_alloc (KeepBut.refl _ _ _) _)
    have HI1 : Aside0 (W1.heap[g]? = some (.cells #[.slice (some ad) b.length c, .int .i64 (at_ : Int)] 64 (0, 0))) := Aside0.mk (by rw [hW]; exact blk_alloc HI.out _)
    have HX1 : Aside0 (W1.heap[w.heap.size]? = some (.cells #[.int .u8 0, .int .u8 0, .slice none 0 0] 38 (0, 0))) := Aside0.mk (by rw [hW]; exact blk_new w _)
    clear hW
    have hs1 : W1.cell? ⟨g, 0, none⟩ = some (.slice (some ad) b.length c) := (blk_cell HI1.out 0).trans rfl
    have hs2 : W1.cell? ⟨g, 1, none⟩ = some (.int .i64 (at_ : Int)) := (blk_cell HI1.out 1).trans rfl
    have hs3 : W1.cell? (ad.add at_) = some (.int .u8 c0) := HCX.out W1 HB1.out
    have hz1 := blk_frozen HI1.out 1
    go_quiet (fail)
    go_wp2
    refine atWorld ?_
    intro W2 hW
    have HB2 : Aside0 (Below w0.heap.size w0 W2) := Aside0.mk (by rw [hW]; exact below_set (pw_below_drewN HB1.out _) HGE.out)
    have HK2 : Aside0 (KeepBut w W2 g none) := Aside0.mk (by rw [hW]; exact rk_set (keep_drewN HK1.out _))
    have HI2 : Aside0 (W2.heap[g]? = some (.cells #[.slice (some ad) b.length c, .int .i64 ((at_ : Int) + 1)] 64 (0, 0))) := Aside0.mk (by rw [hW]; exact blk_set (blk_drewN HI1.out _) 1 _)
    have HX2 : Aside0 (W2.heap[w.heap.size]? = some (.cells #[.int .u8 0, .int .u8 0, .slice none 0 0] 38 (0, 0))) := Aside0.mk (by rw [hW]; exact blk_far (blk_drewN HX1.out _) (by simpa using HNE.out) _)
    clear hW hs1 hs2 hs3 hz1
    have hs1 : W2.cell? ⟨g, 0, none⟩ = some (.slice (some ad) b.length c) := (blk_cell HI2.out 0).trans rfl
    have hs2 : W2.cell? ⟨g, 1, none⟩ = some (.int .i64 ((at_ : Int) + 1)) := (blk_cell HI2.out 1).trans rfl
    have hz1 := blk_frozen HI2.out 1
    have hx0 : W2.cell? ⟨w.heap.size, 0, none⟩ = some (.int .u8 0) := (blk_cell HX2.out 0).trans rfl
    have hx1 : W2.cell? ⟨w.heap.size, 1, none⟩ = some (.int .u8 0) := (blk_cell HX2.out 1).trans rfl
    have hx2 : W2.cell? ⟨w.heap.size, 2, none⟩ = some (.slice none 0 0) := (blk_cell HX2.out 2).trans rfl
    have hzx0 := blk_frozen HX2.out 0
    have hzx1 := blk_frozen HX2.out 1
    have hzx2 := blk_frozen HX2.out 2
    go_quiet (fail)
    go_wp2
    refine atWorldB ?_
    intro W3 hW
    have HB3 : Aside0 (Below w0.heap.size w0 W3) := Aside0.mk (by rw [hW]; exact below_set (below_set (below_set (pw_below_drewN HB2.out _) HWS.out) HWS.out) HWS.out)
    have HK3 : Aside0 (KeepBut w W3 g none) := Aside0.mk (by rw [hW]; exact rk_new (rk_new (rk_new (keep_drewN HK2.out _))))
    have HI3 : Aside0 (W3.heap[g]? = some (.cells #[.slice (some ad) b.length c, .int .i64 ((at_ : Int) + 1)] 64 (0, 0))) := Aside0.mk (by rw [hW]; exact blk_far (blk_far (blk_far (blk_drewN HI2.out _) HNE.out.symm _) HNE.out.symm _) HNE.out.symm _)
    have HX3 : Aside0 (W3.heap[w.heap.size]? = some (.cells #[.int .u8 3, .int .u8 c0, .slice none 0 0] 38 (0, 0))) := Aside0.mk (by rw [hW]; exact blk_set (blk_set (blk_set (blk_drewN HX2.out _) 0 _) 1 _) 2 _)
    clear hW hs1 hs2 hx0 hx1 hx2
    have hy0 : W3.cell? ⟨w.heap.size, 0, none⟩ = some (.int .u8 3) := (blk_cell HX3.out 0).trans rfl
    have hy1 : W3.cell? ⟨w.heap.size, 1, none⟩ = some (.int .u8 c0) := (blk_cell HX3.out 1).trans rfl
    have hy2 : W3.cell? ⟨w.heap.size, 2, none⟩ = some (.slice none 0 0) := (blk_cell HX3.out 2).trans rfl
    exact bodyPost_ret (v := .tuple #[.agg #[.int .u8 3, .int .u8 c0, .slice none 0 0], .int .i64 0]) (by simp [results, Try.results46, hy0, hy1, hy2, go_sem]) rfl ⟨_, rfl, RT_nil _ _ _, ⟨at_ + 1, by simp, HB3.out, HGE.out, by simpa using HI3.out⟩, HK3.out⟩
  rw [if_neg c5] at h
  by_cases c6 : 69 ≤ c0 ∧ c0 ≤ 127
  · rw [if_pos c6] at h
    obtain ⟨rfl, rfl, rfl, rfl, rfl⟩ : (2 : Int) = r1 ∧ (Go.bits .andNot .u8 c0 64) = r2 ∧ [] = r3 ∧ (0 : Int) = r4 ∧ (at_ : Int) + 1 = r5 := by simpa using h
    clear h
    obtain ⟨c6a, c6b⟩ := c6
    have c5a : 5 ≤ c0 := by omega
    have c5c : ¬ c0 ≤ 63 := by omega
    clear c5
    go_enter Try.func46, Try.ntmps46
    go_wp2
    refine atWorld ?_
    intro W1 hW
    have HB1 : Aside0 (Below w0.heap.size w0 W1) := Aside0.mk (by rw [hW]; exact below_alloc HB.out _)
    have HK1 : Aside0 (KeepBut w W1 g none) := Aside0.mk (by rw [hW]; exact keep_alloc (KeepBut.refl _ _ _) _)
    have HI1 : Aside0 (W1.heap[g]? = some (.cells #[.slice (some ad) b.length c, .int .i64 (at_ : Int)] 64 (0, 0))) := Aside0.mk (by rw [hW]; exact blk_alloc HI.out _)
    have HX1 : Aside0 (W1.heap[w.heap.size]? = some (.cells #[.int .u8 0, .int .u8 0, .slice none 0 0] 38 (0, 0))) := Aside0.mk (by rw [hW]; exact blk_new w _)
    clear hW
    have hs1 : W1.cell? ⟨g, 0, none⟩ = some (.slice (some ad) b.length c) := (blk_cell HI1.out 0).trans rfl
    have hs2 : W1.cell? ⟨g, 1, none⟩ = some (.int .i64 (at_ : Int)) := (blk_cell HI1.out 1).trans rfl
    have hs3 : W1.cell? (ad.add at_) = some (.int .u8 c0) := HCX.out W1 HB1.out
    have hz1 := blk_frozen HI1.out 1
    go_quiet (fail)
    go_wp2
    refine atWorld ?_
    intro W2 hW
    have HB2 : Aside0 (Below w0.heap.size w0 W2) := Aside0.mk (by rw [hW]; exact below_set (pw_below_drewN HB1.out _) HGE.out)
    have HK2 : Aside0 (KeepBut w W2 g none) := Aside0.mk (by rw [hW]; exact rk_set (keep_drewN HK1.out _))
    have HI2 : Aside0 (W2.heap[g]? = some (.cells #[.slice (some ad) b.length c, .int .i64 ((at_ : Int) + 1)] 64 (0, 0))) := Aside0.mk (by rw [hW]; exact blk_set (blk_drewN HI1.out _) 1 _)
    have HX2 : Aside0 (W2.heap[w.heap.size]? = some (.cells #[.int .u8 0, .int .u8 0, .slice none 0 0] 38 (0, 0))) := Aside0.mk (by rw [hW]; exact blk_far (blk_drewN HX1.out _) (by simpa using HNE.out) _)
    clear hW hs1 hs2 hs3 hz1
    have hs1 : W2.cell? ⟨g, 0, none⟩ = some (.slice (some ad) b.length c) := (blk_cell HI2.out 0).trans rfl
    have hs2 : W2.cell? ⟨g, 1, none⟩ = some (.int .i64 ((at_ : Int) + 1)) := (blk_cell HI2.out 1).trans rfl
    have hz1 := blk_frozen HI2.out 1
    have hx0 : W2.cell? ⟨w.heap.size, 0, none⟩ = some (.int .u8 0) := (blk_cell HX2.out 0).trans rfl
    have hx1 : W2.cell? ⟨w.heap.size, 1, none⟩ = some (.int .u8 0) := (blk_cell HX2.out 1).trans rfl
    have hx2 : W2.cell? ⟨w.heap.size, 2, none⟩ = some (.slice none 0 0) := (blk_cell HX2.out 2).trans rfl
    have hzx0 := blk_frozen HX2.out 0
    have hzx1 := blk_frozen HX2.out 1
    have hzx2 := blk_frozen HX2.out 2
    go_quiet (fail)
    go_wp2
    refine atWorldB ?_
    intro W3 hW
    have HB3 : Aside0 (Below w0.heap.size w0 W3) := Aside0.mk (by rw [hW]; exact below_set (below_set (below_set (pw_below_drewN HB2.out _) HWS.out) HWS.out) HWS.out)
    have HK3 : Aside0 (KeepBut w W3 g none) := Aside0.mk (by rw [hW]; exact rk_new (rk_new (rk_new (keep_drewN HK2.out _))))
    have HI3 : Aside0 (W3.heap[g]? = some (.cells #[.slice (some ad) b.length c, .int .i64 ((at_ : Int) + 1)] 64 (0, 0))) := Aside0.mk (by rw [hW]; exact blk_far (blk_far (blk_far (blk_drewN HI2.out _) HNE.out.symm _) HNE.out.symm _) HNE.out.symm _)
    have HX3 : Aside0 (W3.heap[w.heap.size]? = some (.cells #[.int .u8 2, .int .u8 (Go.bits .andNot .u8 c0 64), .slice none 0 0] 38 (0, 0))) := Aside0.mk (by rw [hW]; exact blk_set (blk_set (blk_set (blk_drewN HX2.out _) 0 _) 1 _) 2 _)
    clear hW hs1 hs2 hx0 hx1 hx2
    have hy0 : W3.cell? ⟨w.heap.size, 0, none⟩ = some (.int .u8 2) := (blk_cell HX3.out 0).trans rfl
    have hy1 : W3.cell? ⟨w.heap.size, 1, none⟩ = some (.int .u8 (Go.bits .andNot .u8 c0 64)) := (blk_cell HX3.out 1).trans rfl
    have hy2 : W3.cell? ⟨w.heap.size, 2, none⟩ = some (.slice none 0 0) := (blk_cell HX3.out 2).trans rfl
    exact bodyPost_ret (v := .tuple #[.agg #[.int .u8 2, .int .u8 (Go.bits .andNot .u8 c0 64), .slice none 0 0], .int .i64 0]) (by simp [results, Try.results46, hy0, hy1, hy2, go_sem]) rfl ⟨_, rfl, RT_nil _ _ _, ⟨at_ + 1, by simp, HB3.out, HGE.out, by simpa using HI3.out⟩, HK3.out⟩
  rw [if_neg c6] at h
  by_cases c7 : 5 ≤ c0
  case neg =>
    have c8 : ¬ 69 ≤ c0 := by omega
    clear c5 c6
    obtain ⟨rfl, rfl, rfl, rfl, rfl⟩ : (0 : Int) = r1 ∧ (0) = r2 ∧ [] = r3 ∧ (5 : Int) = r4 ∧ (at_ : Int) + 1 = r5 := by simpa using h
    clear h
    go_enter Try.func46, Try.ntmps46
    go_wp2
    refine atWorld ?_
    intro W1 hW
    have HB1 : Aside0 (Below w0.heap.size w0 W1) := Aside0.mk (by rw [hW]; exact below_alloc HB.out _)
    have HK1 : Aside0 (KeepBut w W1 g none) := Aside0.mk (by rw [hW]; exact keep_alloc (KeepBut.refl _ _ _) _)
    have HI1 : Aside0 (W1.heap[g]? = some (.cells #[.slice (some ad) b.length c, .int .i64 (at_ : Int)] 64 (0, 0))) := Aside0.mk (by rw [hW]; exact blk_alloc HI.out _)
    have HX1 : Aside0 (W1.heap[w.heap.size]? = some (.cells #[.int .u8 0, .int .u8 0, .slice none 0 0] 38 (0, 0))) := Aside0.mk (by rw [hW]; exact blk_new w _)
    clear hW
    have hs1 : W1.cell? ⟨g, 0, none⟩ = some (.slice (some ad) b.length c) := (blk_cell HI1.out 0).trans rfl
    have hs2 : W1.cell? ⟨g, 1, none⟩ = some (.int .i64 (at_ : Int)) := (blk_cell HI1.out 1).trans rfl
    have hs3 : W1.cell? (ad.add at_) = some (.int .u8 c0) := HCX.out W1 HB1.out
    have hz1 := blk_frozen HI1.out 1
    go_quiet (fail)
    go_wp2
    refine atWorld ?_
    intro W2 hW
    have HB2 : Aside0 (Below w0.heap.size w0 W2) := Aside0.mk (by rw [hW]; exact below_set (pw_below_drewN HB1.out _) HGE.out)
    have HK2 : Aside0 (KeepBut w W2 g none) := Aside0.mk (by rw [hW]; exact rk_set (keep_drewN HK1.out _))
    have HI2 : Aside0 (W2.heap[g]? = some (.cells #[.slice (some ad) b.length c, .int .i64 ((at_ : Int) + 1)] 64 (0, 0))) := Aside0.mk (by rw [hW]; exact blk_set (blk_drewN HI1.out _) 1 _)
    have HX2 : Aside0 (W2.heap[w.heap.size]? = some (.cells #[.int .u8 0, .int .u8 0, .slice none 0 0] 38 (0, 0))) := Aside0.mk (by rw [hW]; exact blk_far (blk_drewN HX1.out _) (by simpa using HNE.out) _)
    clear hW hs1 hs2 hs3 hz1
    have hs1 : W2.cell? ⟨g, 0, none⟩ = some (.slice (some ad) b.length c) := (blk_cell HI2.out 0).trans rfl
    have hs2 : W2.cell? ⟨g, 1, none⟩ = some (.int .i64 ((at_ : Int) + 1)) := (blk_cell HI2.out 1).trans rfl
    have hz1 := blk_frozen HI2.out 1
    have hx0 : W2.cell? ⟨w.heap.size, 0, none⟩ = some (.int .u8 0) := (blk_cell HX2.out 0).trans rfl
    have hx1 : W2.cell? ⟨w.heap.size, 1, none⟩ = some (.int .u8 0) := (blk_cell HX2.out 1).trans rfl
    have hx2 : W2.cell? ⟨w.heap.size, 2, none⟩ = some (.slice none 0 0) := (blk_cell HX2.out 2).trans rfl
    have hzx0 := blk_frozen HX2.out 0
    have hzx1 := blk_frozen HX2.out 1
    have hzx2 := blk_frozen HX2.out 2
    go_quiet (fail)
    go_wp2
    refine atWorldB ?_
    intro W3 hW
    have HB3 : Aside0 (Below w0.heap.size w0 W3) := Aside0.mk (by rw [hW]; exact below_set (below_set (below_set (pw_below_drewN HB2.out _) HWS.out) HWS.out) HWS.out)
    have HK3 : Aside0 (KeepBut w W3 g none) := Aside0.mk (by rw [hW]; exact rk_new (rk_new (rk_new (keep_drewN HK2.out _))))
    have HI3 : Aside0 (W3.heap[g]? = some (.cells #[.slice (some ad) b.length c, .int .i64 ((at_ : Int) + 1)] 64 (0, 0))) := Aside0.mk (by rw [hW]; exact blk_far (blk_far (blk_far (blk_drewN HI2.out _) HNE.out.symm _) HNE.out.symm _) HNE.out.symm _)
    have HX3 : Aside0 (W3.heap[w.heap.size]? = some (.cells #[.int .u8 0, .int .u8 0, .slice none 0 0] 38 (0, 0))) := Aside0.mk (by rw [hW]; exact blk_set (blk_set (blk_set (blk_drewN HX2.out _) 0 _) 1 _) 2 _)
    clear hW hs1 hs2 hx0 hx1 hx2
    have hy0 : W3.cell? ⟨w.heap.size, 0, none⟩ = some (.int .u8 0) := (blk_cell HX3.out 0).trans rfl
    have hy1 : W3.cell? ⟨w.heap.size, 1, none⟩ = some (.int .u8 0) := (blk_cell HX3.out 1).trans rfl
    have hy2 : W3.cell? ⟨w.heap.size, 2, none⟩ = some (.slice none 0 0) := (blk_cell HX3.out 2).trans rfl
    exact bodyPost_ret (v := .tuple #[.agg #[.int .u8 0, .int .u8 0, .slice none 0 0], .int .i64 5]) (by simp [results, Try.results46, hy0, hy1, hy2, go_sem]) rfl ⟨_, rfl, RT_nil _ _ _, ⟨at_ + 1, by simp, HB3.out, HGE.out, by simpa using HI3.out⟩, HK3.out⟩
  have c8 : ¬ c0 ≤ 63 := by omega
  clear c5
  by_cases c9 : 69 ≤ c0
  · have c10 : ¬ c0 ≤ 127 := by omega
    clear c6
    obtain ⟨rfl, rfl, rfl, rfl, rfl⟩ : (0 : Int) = r1 ∧ (0) = r2 ∧ [] = r3 ∧ (5 : Int) = r4 ∧ (at_ : Int) + 1 = r5 := by simpa using h
    clear h
    go_enter Try.func46, Try.ntmps46
    go_wp2
    refine atWorld ?_
    intro W1 hW
    have HB1 : Aside0 (Below w0.heap.size w0 W1) := Aside0.mk (by rw [hW]; exact below_alloc HB.out _)
    have HK1 : Aside0 (KeepBut w W1 g none) := Aside0.mk (by rw [hW]; exact keep_alloc (KeepBut.refl _ _ _) _)
    have HI1 : Aside0 (W1.heap[g]? = some (.cells #[.slice (some ad) b.length c, .int .i64 (at_ : Int)] 64 (0, 0))) := Aside0.mk (by rw [hW]; exact blk_alloc HI.out _)
    have HX1 : Aside0 (W1.heap[w.heap.size]? = some (.cells #[.int .u8 0, .int .u8 0, .slice none 0 0] 38 (0, 0))) := Aside0.mk (by rw [hW]; exact blk_new w _)
    clear hW
    have hs1 : W1.cell? ⟨g, 0, none⟩ = some (.slice (some ad) b.length c) := (blk_cell HI1.out 0).trans rfl
    have hs2 : W1.cell? ⟨g, 1, none⟩ = some (.int .i64 (at_ : Int)) := (blk_cell HI1.out 1).trans rfl
    have hs3 : W1.cell? (ad.add at_) = some (.int .u8 c0) := HCX.out W1 HB1.out
    have hz1 := blk_frozen HI1.out 1
    go_quiet (fail)
    go_wp2
    refine atWorld ?_
    intro W2 hW
    have HB2 : Aside0 (Below w0.heap.size w0 W2) := Aside0.mk (by rw [hW]; exact below_set (pw_below_drewN HB1.out _) HGE.out)
    have HK2 : Aside0 (KeepBut w W2 g none) := Aside0.mk (by rw [hW]; exact rk_set (keep_drewN HK1.out _))
    have HI2 : Aside0 (W2.heap[g]? = some (.cells #[.slice (some ad) b.length c, .int .i64 ((at_ : Int) + 1)] 64 (0, 0))) := Aside0.mk (by rw [hW]; exact blk_set (blk_drewN HI1.out _) 1 _)
    have HX2 : Aside0 (W2.heap[w.heap.size]? = some (.cells #[.int .u8 0, .int .u8 0, .slice none 0 0] 38 (0, 0))) := Aside0.mk (by rw [hW]; exact blk_far (blk_drewN HX1.out _) (by simpa using HNE.out) _)
    clear hW hs1 hs2 hs3 hz1
    have hs1 : W2.cell? ⟨g, 0, none⟩ = some (.slice (some ad) b.length c) := (blk_cell HI2.out 0).trans rfl
    have hs2 : W2.cell? ⟨g, 1, none⟩ = some (.int .i64 ((at_ : Int) + 1)) := (blk_cell HI2.out 1).trans rfl
    have hz1 := blk_frozen HI2.out 1
    have hx0 : W2.cell? ⟨w.heap.size, 0, none⟩ = some (.int .u8 0) := (blk_cell HX2.out 0).trans rfl
    have hx1 : W2.cell? ⟨w.heap.size, 1, none⟩ = some (.int .u8 0) := (blk_cell HX2.out 1).trans rfl
    have hx2 : W2.cell? ⟨w.heap.size, 2, none⟩ = some (.slice none 0 0) := (blk_cell HX2.out 2).trans rfl
    have hzx0 := blk_frozen HX2.out 0
    have hzx1 := blk_frozen HX2.out 1
    have hzx2 := blk_frozen HX2.out 2
    go_quiet (fail)
    go_wp2
    refine atWorldB ?_
    intro W3 hW
    have HB3 : Aside0 (Below w0.heap.size w0 W3) := Aside0.mk (by rw [hW]; exact below_set (below_set (below_set (pw_below_drewN HB2.out _) HWS.out) HWS.out) HWS.out)
    have HK3 : Aside0 (KeepBut w W3 g none) := Aside0.mk (by rw [hW]; exact rk_new (rk_new (rk_new (keep_drewN HK2.out _))))
    have HI3 : Aside0 (W3.heap[g]? = some (.cells #[.slice (some ad) b.length c, .int .i64 ((at_ : Int) + 1)] 64 (0, 0))) := Aside0.mk (by rw [hW]; exact blk_far (blk_far (blk_far (blk_drewN HI2.out _) HNE.out.symm _) HNE.out.symm _) HNE.out.symm _)
    have HX3 : Aside0 (W3.heap[w.heap.size]? = some (.cells #[.int .u8 0, .int .u8 0, .slice none 0 0] 38 (0, 0))) := Aside0.mk (by rw [hW]; exact blk_set (blk_set (blk_set (blk_drewN HX2.out _) 0 _) 1 _) 2 _)
    clear hW hs1 hs2 hx0 hx1 hx2
    have hy0 : W3.cell? ⟨w.heap.size, 0, none⟩ = some (.int .u8 0) := (blk_cell HX3.out 0).trans rfl
    have hy1 : W3.cell? ⟨w.heap.size, 1, none⟩ = some (.int .u8 0) := (blk_cell HX3.out 1).trans rfl
    have hy2 : W3.cell? ⟨w.heap.size, 2, none⟩ = some (.slice none 0 0) := (blk_cell HX3.out 2).trans rfl
    exact bodyPost_ret (v := .tuple #[.agg #[.int .u8 0, .int .u8 0, .slice none 0 0], .int .i64 5]) (by simp [results, Try.results46, hy0, hy1, hy2, go_sem]) rfl ⟨_, rfl, RT_nil _ _ _, ⟨at_ + 1, by simp, HB3.out, HGE.out, by simpa using HI3.out⟩, HK3.out⟩
  · clear c6
    obtain ⟨rfl, rfl, rfl, rfl, rfl⟩ : (0 : Int) = r1 ∧ (0) = r2 ∧ [] = r3 ∧ (5 : Int) = r4 ∧ (at_ : Int) + 1 = r5 := by simpa using h
    clear h
    go_enter Try.func46, Try.ntmps46
    go_wp2
    refine atWorld ?_
    intro W1 hW
    have HB1 : Aside0 (Below w0.heap.size w0 W1) := Aside0.mk (by rw [hW]; exact below_alloc HB.out _)
    have HK1 : Aside0 (KeepBut w W1 g none) := Aside0.mk (by rw [hW]; exact keep_alloc (KeepBut.refl _ _ _) _)
    have HI1 : Aside0 (W1.heap[g]? = some (.cells #[.slice (some ad) b.length c, .int .i64 (at_ : Int)] 64 (0, 0))) := Aside0.mk (by rw [hW]; exact blk_alloc HI.out _)
    have HX1 : Aside0 (W1.heap[w.heap.size]? = some (.cells #[.int .u8 0, .int .u8 0, .slice none 0 0] 38 (0, 0))) := Aside0.mk (by rw [hW]; exact blk_new w _)
    clear hW
    have hs1 : W1.cell? ⟨g, 0, none⟩ = some (.slice (some ad) b.length c) := (blk_cell HI1.out 0).trans rfl
    have hs2 : W1.cell? ⟨g, 1, none⟩ = some (.int .i64 (at_ : Int)) := (blk_cell HI1.out 1).trans rfl
    have hs3 : W1.cell? (ad.add at_) = some (.int .u8 c0) := HCX.out W1 HB1.out
    have hz1 := blk_frozen HI1.out 1
    go_quiet (fail)
    go_wp2
    refine atWorld ?_
    intro W2 hW
    have HB2 : Aside0 (Below w0.heap.size w0 W2) := Aside0.mk (by rw [hW]; exact below_set (pw_below_drewN HB1.out _) HGE.out)
    have HK2 : Aside0 (KeepBut w W2 g none) := Aside0.mk (by rw [hW]; exact rk_set (keep_drewN HK1.out _))
    have HI2 : Aside0 (W2.heap[g]? = some (.cells #[.slice (some ad) b.length c, .int .i64 ((at_ : Int) + 1)] 64 (0, 0))) := Aside0.mk (by rw [hW]; exact blk_set (blk_drewN HI1.out _) 1 _)
    have HX2 : Aside0 (W2.heap[w.heap.size]? = some (.cells #[.int .u8 0, .int .u8 0, .slice none 0 0] 38 (0, 0))) := Aside0.mk (by rw [hW]; exact blk_far (blk_drewN HX1.out _) (by simpa using HNE.out) _)
    clear hW hs1 hs2 hs3 hz1
    have hs1 : W2.cell? ⟨g, 0, none⟩ = some (.slice (some ad) b.length c) := (blk_cell HI2.out 0).trans rfl
    have hs2 : W2.cell? ⟨g, 1, none⟩ = some (.int .i64 ((at_ : Int) + 1)) := (blk_cell HI2.out 1).trans rfl
    have hz1 := blk_frozen HI2.out 1
    have hx0 : W2.cell? ⟨w.heap.size, 0, none⟩ = some (.int .u8 0) := (blk_cell HX2.out 0).trans rfl
    have hx1 : W2.cell? ⟨w.heap.size, 1, none⟩ = some (.int .u8 0) := (blk_cell HX2.out 1).trans rfl
    have hx2 : W2.cell? ⟨w.heap.size, 2, none⟩ = some (.slice none 0 0) := (blk_cell HX2.out 2).trans rfl
    have hzx0 := blk_frozen HX2.out 0
    have hzx1 := blk_frozen HX2.out 1
    have hzx2 := blk_frozen HX2.out 2
    go_quiet (fail)
    go_wp2
    refine atWorldB ?_
    intro W3 hW
    have HB3 : Aside0 (Below w0.heap.size w0 W3) := Aside0.mk (by rw [hW]; exact below_set (below_set (below_set (pw_below_drewN HB2.out _) HWS.out) HWS.out) HWS.out)
    have HK3 : Aside0 (KeepBut w W3 g none) := Aside0.mk (by rw [hW]; exact rk_new (rk_new (rk_new (keep_drewN HK2.out _))))
    have HI3 : Aside0 (W3.heap[g]? = some (.cells #[.slice (some ad) b.length c, .int .i64 ((at_ : Int) + 1)] 64 (0, 0))) := Aside0.mk (by rw [hW]; exact blk_far (blk_far (blk_far (blk_drewN HI2.out _) HNE.out.symm _) HNE.out.symm _) HNE.out.symm _)
    have HX3 : Aside0 (W3.heap[w.heap.size]? = some (.cells #[.int .u8 0, .int .u8 0, .slice none 0 0] 38 (0, 0))) := Aside0.mk (by rw [hW]; exact blk_set (blk_set (blk_set (blk_drewN HX2.out _) 0 _) 1 _) 2 _)
    clear hW hs1 hs2 hx0 hx1 hx2
    have hy0 : W3.cell? ⟨w.heap.size, 0, none⟩ = some (.int .u8 0) := (blk_cell HX3.out 0).trans rfl
    have hy1 : W3.cell? ⟨w.heap.size, 1, none⟩ = some (.int .u8 0) := (blk_cell HX3.out 1).trans rfl
    have hy2 : W3.cell? ⟨w.heap.size, 2, none⟩ = some (.slice none 0 0) := (blk_cell HX3.out 2).trans rfl
    exact bodyPost_ret (v := .tuple #[.agg #[.int .u8 0, .int .u8 0, .slice none 0 0], .int .i64 5]) (by simp [results, Try.results46, hy0, hy1, hy2, go_sem]) rfl ⟨_, rfl, RT_nil _ _ _, ⟨at_ + 1, by simp, HB3.out, HGE.out, by simpa using HI3.out⟩, HK3.out⟩
set_option maxHeartbeats 8000000 in
set_option maxRecDepth 100000 in
theorem token_GetT (k : Nat) (A0 : Option Addr) (c0 : Nat) (l0 : List Int) (r1 : List (S38)) (r2 : Int) (w : World) (hr0 : Kd.C (Kd.int .u8) w A0 l0.length l0) (hc0 : l0.length ≤ c0) (h : token_Get.f k l0 = some (r1, r2)) :
    Calls Try.prog 34 #[.slice A0 l0.length c0] w fun e w' => ∃ v0_ : Value, e = .returned (.tuple #[v0_, .int .i64 r2]) ∧ Kd.S k38T 38 w' w.heap.size (fun _ => True) v0_ r1 ∧ Below w.heap.size w w' := by
  have hu38 := Try.underlying38
  have HR0 := Aside0.mk hr0
  have HC0 := Aside0.mk hc0
  unfold token_Get.f at h
  by_cases c2 : (l0.length : Int) > 16384
  · rw [if_pos c2] at h
    obtain ⟨rfl, rfl⟩ : [] = r1 ∧ (3 : Int) = r2 := by simpa using h
    go_enter Try.func34, Try.ntmps34
    go_wp2
    go_ret2
    exact ⟨_, rfl, Kd.S_nil _ _ _ _ _, Below.refl _ _⟩
  rw [if_neg c2] at h
  by_cases c3 : (l0.length : Int) < 4
  · rw [if_pos c3] at h
    obtain ⟨rfl, rfl⟩ : [] = r1 ∧ (4 : Int) = r2 := by simpa using h
    go_enter Try.func34, Try.ntmps34
    go_wp2
    go_ret2
    exact ⟨_, rfl, Kd.S_nil _ _ _ _ _, Below.refl _ _⟩
  rw [if_neg c3] at h
  have HLN : Aside0 (l0.length ≤ 16384) := Aside0.mk (by omega)
  have HL4 : Aside0 (4 ≤ l0.length) := Aside0.mk (by omega)
  obtain ⟨i07, hi07, _, hsz7, _⟩ := info_parts info5
  have hcut := cut_to (P := Try.prog) 22 5 .i64 Try.underlying22 hi07 A0 l0.length c0 4 (by omega) (by omega) hc0
  have hT := Kd.C_take (m := 4) hr0 (by omega)
  have hl4 : (l0.take 4).length = 4 := by simp; omega
  rw [hl4] at hT
  have hcv : (convert 22 9 (.slice A0 4 c0)).run Try.prog w = .ok (.string (strOfNums (l0.take 4))) w := string_of_reads (e := 5) Try.underlying22 (by kernel_rfl) (by kernel_rfl) (readsInt_of.2 (Kd.reads_of_C (enc := Value.int .u8) (d := (0 : Int)) (h1 := fun _ => rfl) hT))
  change ∀ W : World, _ = Result.ok (Value.slice A0 4 c0) W at hcut
  clear hT hl4 hr0 hc0
  by_cases c4 : ((strOfNums (l0.take 4)).toList == [3, 1, 106, 0]) = true
  case neg =>
    rw [if_neg c4] at h
    have c4b : ((strOfNums (l0.take 4)).toList == [3, 1, 106, 0]) = false := by simpa using c4
    clear c4
    obtain ⟨rfl, rfl⟩ : [] = r1 ∧ (5 : Int) = r2 := by simpa using h
    go_enter Try.func34, Try.ntmps34
    go_wp2
    go_ret2
    exact ⟨_, rfl, Kd.S_nil _ _ _ _ _, Below.refl _ _⟩
  rw [if_pos c4] at h
  have H' := Aside0.mk h
  clear h
  go_enter Try.func34, Try.ntmps34
  go_wp2
  refine atWorld ?_
  intro W2 hW
  have HG2 : Aside0 (RdR w W2 A0 c0 l0 w.heap.size 4) := Aside0.mk ⟨by rw [hW]; exact below_alloc (Below.refl _ _) _, Nat.le_refl _, by rw [hW]; exact blk_new w _⟩
  clear hW hcv hcut c4 c2 c3 hi07 hsz7
  go_loopg [5] k (fun kq v5 w' => ∃ (xs : List S38) (at_ : Nat), Aside0 (rget.l0 kq l0 xs at_ = some (r1, r2)) ∧ Aside0 (kq ≤ k) ∧ Aside0 (Kd.S k38T 38 w' w.heap.size (fun k_ => k_ ≠ w.heap.size) v5 xs) ∧ Aside0 (RdR w w' A0 c0 l0 w.heap.size at_))
  case atStart => exact ⟨[], 4, H', ⟨Nat.le_refl _⟩, ⟨Kd.S_nil _ _ _ _ _⟩, HG2⟩
  case round =>
    clear H' HG2
    obtain ⟨xs, at_, HA, HK1, HS, HG⟩ := hrel
    cases gk with
    | zero => exact absurd HA.out (by simp [rget.l0])
    | succ k1 =>
      have H := HA.out
      clear HA
      simp only [rget.l0] at H
      have hs1 := (blk_cell HG.out.2.2 1).trans (show _ = some (Value.int .i64 (at_ : Int)) from rfl)
      by_cases c11 : at_ < l0.length
      · rw [if_pos c11] at H
        have HAT := Aside0.mk c11
        have c11b : (at_ : Int) < (l0.length : Int) := by omega
        clear c11
        obtain ⟨⟨t1, t2, t3, t4, t5⟩, A120, H⟩ := Option.bind_eq_some_iff.1 H
        have A12 := Aside0.mk A120
        clear A120
        dsimp only at H
        by_cases c13 : t4 = 0
        · rw [if_pos c13] at H
          have c13b : (t4 == 0) = true := by simp [c13]
          have c13c : (t4 != 0) = false := by simp [c13]
          clear c13
          by_cases c14 : xs.length < 4398046511104
          case neg => rw [if_neg c14] at H; cases H
          rw [if_pos c14] at H
          have LMc14 := Aside0.mk c14
          have H' := Aside0.mk H
          clear c14 H
          go_wp2_with (first | ((with_reducible refine gate_callee (f := 46) rfl ?_); refine goesL_ (some 33) rfl rfl Try.func46 (by kernel_rfl) rfl #[.pointer (some ⟨w.heap.size, 0, none⟩)] rfl (by first | rfl | go_simp) ?_; refine (rnextT_calls k1 A0 c0 l0 w.heap.size at_ t1 t2 t3 t4 t5 w _ HR0.out HC0.out HLN.out HG.out HAT.out A12.out).mono ?_; rintro _ w15 ⟨v0, rfl, ho0, hI, hK⟩; have HS2 := Aside0.mk (rk_oldST HS.out hK ho0); have HR2 := Aside0.mk (RT_lower ho0 HG.out.1.size); have HI2 := Aside0.mk hI; clear ho0 hK hI HS HG hs1; obtain ⟨Ao, co, eo⟩ := RT_slice HR2.out; subst eo; refine ⟨_, rfl, ?_⟩) | ((with_reducible refine gate_dst (N := 6) rfl ?_); refine box_event ?hg (N := 6) ?hd (cs := #[.int .u8 0, .int .u8 0, .slice none 0 0]) (t := 38) ?hr ?_; (case hd => rfl); (case hg => rfl); (case hr => first | (go_simp; done) | (go_simp; rfl)); intro gb hg w16 hbox hb; obtain ⟨r5, q0, q1, q2, q3⟩ := HI2.out; have HS3 := Aside0.mk (rk_boxST HS2.out hb hg); have HR3 := Aside0.mk (rk_boxRT HR2.out hb hg); have HB3 := Aside0.mk (below_step q1 hb); have HI3 := Aside0.mk (blk_below q3 hb); have HX3 := Aside0.mk hbox; have HNG : Aside0 (w.heap.size ≠ gb) := Aside0.mk (by rw [hg]; exact Nat.ne_of_lt (blk_lt q3)); have HGB : Aside0 (w.heap.size ≤ gb) := Aside0.mk (by rw [hg]; exact q1.size); have HQ0 := Aside0.mk q0; clear q0 q1 q2 q3 hb hbox hg HS2 HR2 HI2; have hx0 : w16.cell? ⟨gb, 0, none⟩ = some (.int .u8 0) := (blk_cell HX3.out 0).trans rfl; have hx1 : w16.cell? ⟨gb, 1, none⟩ = some (.int .u8 0) := (blk_cell HX3.out 1).trans rfl; have hx2 : w16.cell? ⟨gb, 2, none⟩ = some (.slice none 0 0) := (blk_cell HX3.out 2).trans rfl; have hzx0 := blk_frozen HX3.out 0; have hzx1 := blk_frozen HX3.out 1; have hzx2 := blk_frozen HX3.out 2) | ((with_reducible refine gate_store (t := 38) (p := 6) rfl ?_); refine store_event (t := 38) (p := 6) (v := ?vo) (w1 := (((w16.setCell ⟨gb, 0, none⟩ (.int .u8 t1)).setCell ⟨gb, 1, none⟩ (.int .u8 t2)).setCell ⟨gb, 2, none⟩ (.slice Ao t3.length co))) ?hg ?ho ?hn ?hr ?_; (case ho => rfl); (case hg => rfl); (case hn => rfl); (case hr => first | (go_simp; done) | (go_simp; rfl)); intro w19 hw; have HS4 : Aside0 (Kd.S k38T 38 w19 w.heap.size (fun k_ => (k_ ≠ w.heap.size ∧ some k_ ≠ (.slice Ao t3.length co : Value).ownBlock) ∧ k_ ≠ gb) u5 xs) := Aside0.mk (by rw [hw]; exact Kd.S_far (p := ⟨gb, 2, none⟩) (Kd.S_far (p := ⟨gb, 1, none⟩) (Kd.S_far (p := ⟨gb, 0, none⟩) HS3.out (fun _ hk => hk.2) (.int .u8 t1)) (fun _ hk => hk.2) (.int .u8 t2)) (fun _ hk => hk.2) (.slice Ao t3.length co)); have HR4 : Aside0 (RT w19 w.heap.size (fun k => True ∧ k ≠ gb) (.slice Ao t3.length co) t3) := Aside0.mk (by rw [hw]; exact RT_far (p := ⟨gb, 2, none⟩) (RT_far (p := ⟨gb, 1, none⟩) (RT_far (p := ⟨gb, 0, none⟩) HR3.out (fun _ hk => hk.2) (.int .u8 t1)) (fun _ hk => hk.2) (.int .u8 t2)) (fun _ hk => hk.2) (.slice Ao t3.length co)); have HB4 : Aside0 (Below w.heap.size w w19) := Aside0.mk (by rw [hw]; exact below_set (below_set (below_set HB3.out HGB.out) HGB.out) HGB.out); have HI4 : Aside0 (w19.heap[w.heap.size]? = some (.cells #[.slice A0 l0.length c0, .int .i64 (r5 : Int)] 64 (0, 0))) := Aside0.mk (by rw [hw]; exact blk_far (blk_far (blk_far HI3.out HNG.out _) HNG.out _) HNG.out _); have HX4 : Aside0 (w19.heap[gb]? = some (.cells #[.int .u8 t1, .int .u8 t2, .slice Ao t3.length co] 38 (0, 0))) := Aside0.mk (by rw [hw]; exact blk_set (blk_set (blk_set HX3.out 0 _) 1 _) 2 _); clear hw HS3 HR3 HB3 HI3 HX3 hx0 hx1 hx2 hzx0 hzx1 hzx2; have hx0 : w19.cell? ⟨gb, 0, none⟩ = some (.int .u8 t1) := (blk_cell HX4.out 0).trans rfl; have hx1 : w19.cell? ⟨gb, 1, none⟩ = some (.int .u8 t2) := (blk_cell HX4.out 1).trans rfl; have hx2 : w19.cell? ⟨gb, 2, none⟩ = some (.slice Ao t3.length co) := (blk_cell HX4.out 2).trans rfl) | ((with_reducible refine gate_builtin (b := .append) (xs := #[.tmp 39, .tmp 41]) rfl ?_); at_builtin; refine Kd.S_append k38T (w0 := w) w.heap.size rfl (.tmp 39) (.tmp 41) 36 38 (.agg #[(.int .u8 0), (.int .u8 0), (.slice none 0 0)]) 32 rfl Try.underlying36 info38 rfl (by decide) (by omega) u5 xs (⟨t1, t2, t3⟩ : S38) [.int .u8 t1, .int .u8 t2, .slice Ao t3.length co] (fun k_ => k_ ≠ w.heap.size) (fun k_ => some k_ = (.slice Ao t3.length co : Value).ownBlock) rfl rfl ?aP ?aK ?aF ?aO ?aB ?aS ?aL ?_; (case aP => exact k38T_mkM _ _ _ (⟨t1, t2, t3⟩ : S38) (RT_tight rfl HR4.out)); (case aK => exact (fun k_ hk => ⟨((Kd.R_types HR4.out.1 HI4.out (by decide)).1 k_ hk.symm).2, ((Kd.R_apart' HR4.out.1 (Kd.S_typed HS4.out) (by decide)).1 k_ hk.symm).2⟩)); (case aF => exact (fun k_ hk => by have := blk_lt HI4.out; omega)); (case aO => exact Kd.S_mono HS4.out (fun k_ hk => ⟨hk.1.1, fun e_ => hk.1.2 e_⟩)); (case aB => exact HB4.out); (case aS => exact HB4.out.size); (case aL => have := LMc14.out; omega); intro v5 w21 ho hb hg hat; have HS5 := Aside0.mk ho; have HG5 : Aside0 (RdR w w21 A0 c0 l0 w.heap.size r5) := Aside0.mk ⟨hb, Nat.le_refl _, blk_grown HI4.out hg (Kd.S_away HS4.out (fun _ hk => hk.1.1))⟩; clear ho hb hg hat HS4 HR4 HB4 HI4 HX4 hx0 hx1 hx2))
          go_roundg k1
          case measure => have := HK1.out; omega
          case rel => exact ⟨xs ++ [⟨t1, t2, t3⟩], r5, ⟨by have := H'.out; rw [HQ0.out] at this; exact this⟩, ⟨by have := HK1.out; omega⟩, HS5, HG5⟩
        · rw [if_neg c13] at H
          have c13b : (t4 == 0) = false := by simp [c13]
          obtain ⟨rfl, rfl⟩ : [] = r1 ∧ t4 = r2 := by simpa using H
          clear H c13
          go_wp2_with (first | ((with_reducible refine gate_callee (f := 46) rfl ?_); refine goesL_ (some 33) rfl rfl Try.func46 (by kernel_rfl) rfl #[.pointer (some ⟨w.heap.size, 0, none⟩)] rfl (by first | rfl | go_simp) ?_; refine (rnextT_calls k1 A0 c0 l0 w.heap.size at_ t1 t2 t3 t4 t5 w _ HR0.out HC0.out HLN.out HG.out HAT.out A12.out).mono ?_; rintro _ w15 ⟨v0, rfl, ho0, hI, hK⟩; have HS2 := Aside0.mk (rk_oldST HS.out hK ho0); have HR2 := Aside0.mk (RT_lower ho0 HG.out.1.size); have HI2 := Aside0.mk hI; clear ho0 hK hI HS HG hs1; obtain ⟨Ao, co, eo⟩ := RT_slice HR2.out; subst eo; refine ⟨_, rfl, ?_⟩) | ((with_reducible refine gate_dst (N := 6) rfl ?_); refine box_event ?hg (N := 6) ?hd (cs := #[.int .u8 0, .int .u8 0, .slice none 0 0]) (t := 38) ?hr ?_; (case hd => rfl); (case hg => rfl); (case hr => first | (go_simp; done) | (go_simp; rfl)); intro gb hg w16 hbox hb; obtain ⟨r5, q0, q1, q2, q3⟩ := HI2.out; have HS3 := Aside0.mk (rk_boxST HS2.out hb hg); have HR3 := Aside0.mk (rk_boxRT HR2.out hb hg); have HB3 := Aside0.mk (below_step q1 hb); have HI3 := Aside0.mk (blk_below q3 hb); have HX3 := Aside0.mk hbox; have HNG : Aside0 (w.heap.size ≠ gb) := Aside0.mk (by rw [hg]; exact Nat.ne_of_lt (blk_lt q3)); have HGB : Aside0 (w.heap.size ≤ gb) := Aside0.mk (by rw [hg]; exact q1.size); have HQ0 := Aside0.mk q0; clear q0 q1 q2 q3 hb hbox hg HS2 HR2 HI2; have hx0 : w16.cell? ⟨gb, 0, none⟩ = some (.int .u8 0) := (blk_cell HX3.out 0).trans rfl; have hx1 : w16.cell? ⟨gb, 1, none⟩ = some (.int .u8 0) := (blk_cell HX3.out 1).trans rfl; have hx2 : w16.cell? ⟨gb, 2, none⟩ = some (.slice none 0 0) := (blk_cell HX3.out 2).trans rfl; have hzx0 := blk_frozen HX3.out 0; have hzx1 := blk_frozen HX3.out 1; have hzx2 := blk_frozen HX3.out 2))
          go_ret2
          exact ⟨_, rfl, Kd.S_nil _ _ _ _ _, below_set (below_set (below_set HB3.out HGB.out) HGB.out) HGB.out⟩
      · rw [if_neg c11] at H
        have c11b : decide ((at_ : Int) < (l0.length : Int)) = false := decide_eq_false (by omega)
        have c11c : decide (at_ < l0.length) = false := decide_eq_false c11
        have c11d : l0.length ≤ at_ := by omega
        clear c11
        obtain ⟨rfl, rfl⟩ : xs = r1 ∧ (0 : Int) = r2 := by simpa using H
        clear H
        go_wp2
        go_ret2
        exact ⟨_, rfl, Kd.S_mono HS.out (fun _ _ => trivial), HG.out.1⟩
end Go.Proofs.Ytjcpnfmbdbeinaa.R
