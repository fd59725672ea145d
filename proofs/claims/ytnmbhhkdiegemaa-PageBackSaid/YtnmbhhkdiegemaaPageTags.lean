/- The walk of page.Tags: a page's tags, rising, in new memory. No conditions. -/
import Derived.Test.YtnmbhhkdiegemaaPageSort
import Derived.RangeFuncNested
namespace Go.Proofs.Ytnmbhhkdiegemaa.H
open Go.RowKit Go.Shelf Go.Proofs.YtnmbhhkdiegemaaW.PrintWords Go.Proofs.YtnmbhhkdiegemaaW.PrintLast Go.Proofs.YtnmbhhkdiegemaaW.PrintMore
open Go.ChangeMaps (setBlock)
set_option linter.unusedVariables false
set_option linter.unusedSimpArgs false
attribute [local go_sem] Oper.semAt_some

/-- What a page's map is. -/
def MapIs (w : World) (m : Option Nat) (T : TagL) : Prop := (m = none ∧ T = []) ∨ ∃ b, m = some b ∧ w.heap[b]? = some (kvObj (tv T))
theorem PagesAt.mapIs {w : World} {n : Nat} (h : PagesAt w n) (k : Int) : MapIs w (mpOf (n + 1) k) (tgOf k) := by
  rcases hm : mpOf (n + 1) k with _ | b
  · refine .inl ⟨rfl, ?_⟩
    unfold mpOf at hm
    unfold tgOf
    rcases hp : pgAt k PG with _ | ⟨i, s, T⟩
    · rfl
    · rw [hp] at hm; cases hm
  · exact .inr ⟨b, rfl, h.tags hm⟩
theorem MapIs.below {w w' : World} {m : Option Nat} {T : TagL} (h : MapIs w m T) (hb : Below w.heap.size w w') : MapIs w' m T := by
  rcases h with h | ⟨b, rfl, hb'⟩
  · exact .inl h
  · exact .inr ⟨b, rfl, blk_below hb' hb⟩
theorem keys_stops (F : Fence) (n : Nat) (hf : F.fn 55) (hro : F.round = none) (hn : 1 ≤ n) (Bm : Nat) (m : Option Nat) (T : TagL) (w : World) (hBm : Bm < w.heap.size) (hc : w.cell? ⟨Bm, 0, none⟩ = some (.map m)) (hm : MapIs w m T) :
    SeqStopsK F n Try.prog 55 #[.pointer (some ⟨Bm, 0, none⟩)] (fun x : Int => #[Value.int .u8 x]) KeepsWalks (fun ss => ss.Perm (T.map (·.1))) (fun _ => True) T.length w := fun l J Jx W hW hJ _ hY h0 => by
  rcases hm with ⟨rfl, rfl⟩ | ⟨b, rfl, hb⟩
  · exact keys_none F n hf hro l Bm J Jx W hJ ((hW.cell (p := ⟨Bm, 0, none⟩) hBm).trans hc) h0
  · exact keys_some F n hf hro hn l Bm b T J Jx hY W hJ ((hW.cell (p := ⟨Bm, 0, none⟩) hBm).trans hc) (blk_below hb hW) h0
set_option maxHeartbeats 1000000 in
theorem maps_Keys.calls (m : Option Nat) (w : World) : Calls Try.prog 37 #[.map m] w fun e w' => e = .returned (.func (.func 55) #[] #[.pointer (some ⟨w.heap.size, 0, none⟩)]) ∧ w' = w.alloc (.cells #[.map m] 59) := by
  go_enter Try.func37, Try.ntmps37
  go_wp2
  go_ret
  exact ⟨rfl, rfl⟩
/-- The call of maps.Keys, as a walk takes it. -/
theorem maps_Keys.got (m : Option Nat) (w : World) : Calls Try.prog 37 #[.map m] w fun e w' => ∃ Bm, e = .returned (.func (.func 55) #[] #[.pointer (some ⟨Bm, 0, none⟩)]) ∧ w'.heap[Bm]? = some (.cells #[.map m] 59 (0, 0)) ∧ Below w.heap.size w w' :=
  (maps_Keys.calls m w).mono fun e w' ⟨h1, h2⟩ => by subst h2; exact ⟨_, h1, heap_alloc_new w _, below_alloc (Below.refl _ _) _⟩

theorem tgOf_length (k : Int) : (tgOf k).length ≤ 19 := by
  unfold tgOf
  rcases hp : pgAt k PG with _ | ⟨i, s, T⟩
  · simp
  · have h := pgAt_get hp
    have : ∀ p ∈ PG, p.2.2.length ≤ 19 := by decide
    exact this _ (List.mem_of_getElem? h)
theorem info23_ : (Try.prog.info? 23).map (fun i => (i.zero, i.size, i.bytes)) = some (some (.agg #[.int .u8 0, .int .u8 0]), 2, 2) := by kernel_rfl
theorem cell_two_new (W : World) (x y : Value) (t : TypeId) : ∀ (j : Nat) (u : Value), [x, y][j]? = some u → (W.alloc (.cells #[x, y] t)).cell? ((⟨W.heap.size, 0, none⟩ : Addr).add j) = some u := by
  intro j u hj
  have hb : (W.alloc (.cells #[x, y] t)).heap[W.heap.size]? = some (.cells #[x, y] t (0, 0)) := heap_alloc_new W _
  match j, hj with
  | 0, hj => exact (blk_cell hb 0).trans (by simpa using hj)
  | 1, hj => exact (blk_cell hb 1).trans (by simpa using hj)
theorem tgOf_rising (k : Int) : ((tgOf k).map (·.1)).Pairwise (· < ·) := by
  unfold tgOf
  rcases hp : pgAt k PG with _ | ⟨i, s, T⟩
  · simp
  · have h := pgAt_get hp
    have : ∀ p ∈ PG, (p.2.2.map (·.1)).Pairwise (· < ·) := by decide
    exact this _ (List.mem_of_getElem? h)
theorem tgOf_nodup (k : Int) : ((tgOf k).map (·.1)).Nodup := (tgOf_rising k).imp (fun h e => by omega)
theorem own_ne_deferred {W : World} {base e size n D : Nat} {v : Value} {xs : List Value} {d : Option (List Deferred)} (h : W.ownsRow base e size v n xs) (hD : W.heap[D]? = some (.deferred d)) : some D ≠ v.ownBlock := by
  intro hk
  obtain ⟨cells, hc⟩ := own_typed h D hk.symm
  rw [hD] at hc
  cases hc
theorem own_base {W : World} {base e size n : Nat} {v : Value} {xs : List Value} (h : W.ownsRow base e size v n xs) : ∀ k, v.ownBlock = some k → base ≤ k := by
  intro k hk
  rcases h.2 with ⟨rfl, _⟩ | ⟨g, cap, cur, rfl, hb, _⟩
  · simp [Value.ownBlock] at hk
  · obtain rfl : g = k := by simpa [Value.ownBlock] using hk
    exact hb
set_option maxHeartbeats 8000000 in
set_option maxRecDepth 100000 in
theorem page_Tags.calls (k : Int) (w : World) : Calls Try.prog 16 #[.int .u8 k] w fun e w' => ∃ v, e = .returned v ∧ w'.ownsRow w.heap.size 23 2 v (tgOf k).length (cellsT k ((tgOf k).map (·.1))) ∧ Below w.heap.size w w' := by
  have HB := Aside0.mk (Below.refl w.heap.size w)
  refine callsIn_wide.1 (callsIn_of_wp_marks (n := 10) Try.func16 rfl trivial (wpIn_wide.2 ?_))
  simp only [Try.ntmps16, List.size_toArray, List.length_cons, List.length_nil, Nat.reduceAdd, Nat.reduceSub, Array.replicate_succ, Array.replicate_zero, List.push_toArray, List.append_toArray, List.nil_append, List.cons_append]
  have hfd := fun n W => run_field61 (nmOf k) (mpOf n k) W
  -- ROWS
  go_wp2_with (first | ((with_reducible refine gate_dst (N := 1) rfl ?_); refine box_event ?hg (N := 1) ?hd (cs := #[.int .u8 k]) (t := 5) ?hr ?_; (case hd => rfl); (case hg => rfl); (case hr => first | (go_simp; done) | (go_simp; rfl)); intro gA hg w1 hbox hb; have ge_ := Aside0.mk ((by rw [hg]; exact below_size (by repeat (first | (with_reducible first | exact HB.out | apply below_alloc | apply pw_below_drewN | apply below_drew1) | exact HB.out))) : w.heap.size ≤ gA); have n_ := Aside0.mk (below_step (by repeat (first | (with_reducible first | exact HB.out | apply below_alloc | apply pw_below_drewN | apply below_drew1) | exact HB.out)) hb); clear HB; have HB := n_; clear n_; have BKgA := Aside0.mk hbox; have GEgA := ge_; clear ge_ hbox hg hb; have hcgA_1_0 : w1.cell? ⟨gA, 0, none⟩ = some (.int .u8 k) := (blk_cell BKgA.out 0).trans rfl; have hfgA_1_0 := blk_frozen BKgA.out 0) | ((with_reducible refine gate_dst (N := 3) rfl ?_); refine box_event ?hg (N := 3) ?hd (cs := #[.slice none 0 0]) (t := 31) ?hr ?_; (case hd => rfl); (case hg => rfl); (case hr => first | (go_simp; done) | (go_simp; rfl)); intro gO hg w2 hbox hb; have ge_ := Aside0.mk ((by rw [hg]; exact below_size (by repeat (first | (with_reducible first | exact HB.out | apply below_alloc | apply pw_below_drewN | apply below_drew1 | refine below_set ?_ GEgA.out) | exact HB.out))) : w.heap.size ≤ gO); have NBgAgO := Aside0.mk ((by rw [hg]; exact Nat.ne_of_lt (blk_lt (g := gA) (o := .cells #[.int .u8 k] 5 (0, 0)) (by (with_reducible repeat (first | refine blk_drewN ?_ _ | refine blk_drew ?_ | refine blk_alloc ?_ _)); exact BKgA.out))) : gA ≠ gO); have NBgOgA := Aside0.mk (Ne.symm NBgAgO.out); have n_ := Aside0.mk (below_step (by repeat (first | (with_reducible first | exact HB.out | apply below_alloc | apply pw_below_drewN | apply below_drew1 | refine below_set ?_ GEgA.out) | exact HB.out)) hb); have mgA_ := Aside0.mk (blk_below (g := gA) (o := .cells #[.int .u8 k] 5 (0, 0)) (by (with_reducible repeat (first | refine blk_drewN ?_ _ | refine blk_drew ?_ | refine blk_alloc ?_ _)); exact BKgA.out) hb); clear HB BKgA; have HB := n_; have BKgA := mgA_; clear n_ mgA_; have BKgO := Aside0.mk hbox; have GEgO := ge_; clear ge_ hbox hg hb; have hcgA_2_0 : w2.cell? ⟨gA, 0, none⟩ = some (.int .u8 k) := (blk_cell BKgA.out 0).trans rfl; have hfgA_2_0 := blk_frozen BKgA.out 0; have hcgO_2_0 : w2.cell? ⟨gO, 0, none⟩ = some (.slice none 0 0) := (blk_cell BKgO.out 0).trans rfl; have hfgO_2_0 := blk_frozen BKgO.out 0; have hngAgO := NBgAgO.out; have hngOgA := NBgOgA.out))
  go_region_held3 (fun w' => w'.cell? ⟨gA, 0, none⟩ = some (.int .u8 k)) (go_keep)
    (first | (go_at_call 35; refine (pages.got _).mono ?_; rintro _ w3 ⟨n, rfl, hP, hb, hs⟩; have n_ := Aside0.mk (below_step (by repeat (first | (with_reducible first | exact HB.out | apply below_alloc | apply pw_below_drewN | apply below_drew1 | refine below_set ?_ GEgA.out | refine below_set ?_ GEgO.out) | exact HB.out)) hb); have mgA_ := Aside0.mk (blk_below (g := gA) (o := .cells #[.int .u8 k] 5 (0, 0)) (by (with_reducible repeat (first | refine blk_drewN ?_ _ | refine blk_drew ?_ | refine blk_alloc ?_ _)); exact BKgA.out) hb); have mgO_ := Aside0.mk (blk_below (g := gO) (o := .cells #[.slice none 0 0] 31 (0, 0)) (by (with_reducible repeat (first | refine blk_drewN ?_ _ | refine blk_drew ?_ | refine blk_alloc ?_ _)); exact BKgO.out) hb); clear HB BKgA BKgO; have HB := n_; have BKgA := mgA_; have BKgO := mgO_; clear n_ mgA_ mgO_; have hl := hP.lookup k false; have HM := Aside0.mk (hP.mapIs k); clear hP hs hb; have hcgA_3_0 : w3.cell? ⟨gA, 0, none⟩ = some (.int .u8 k) := (blk_cell BKgA.out 0).trans rfl; have hfgA_3_0 := blk_frozen BKgA.out 0; have hcgO_3_0 : w3.cell? ⟨gO, 0, none⟩ = some (.slice none 0 0) := (blk_cell BKgO.out 0).trans rfl; have hfgO_3_0 := blk_frozen BKgO.out 0) | (go_at_call 37; refine (maps_Keys.got _ _).mono ?_; rintro _ w4 ⟨Bm, rfl, hbm, hb⟩; have n_ := Aside0.mk (below_step (by repeat (first | (with_reducible first | exact HB.out | apply below_alloc | apply pw_below_drewN | apply below_drew1 | refine below_set ?_ GEgA.out | refine below_set ?_ GEgO.out) | exact HB.out)) hb); have mgA_ := Aside0.mk (blk_below (g := gA) (o := .cells #[.int .u8 k] 5 (0, 0)) (by (with_reducible repeat (first | refine blk_drewN ?_ _ | refine blk_drew ?_ | refine blk_alloc ?_ _)); exact BKgA.out) hb); have mgO_ := Aside0.mk (blk_below (g := gO) (o := .cells #[.slice none 0 0] 31 (0, 0)) (by (with_reducible repeat (first | refine blk_drewN ?_ _ | refine blk_drew ?_ | refine blk_alloc ?_ _)); exact BKgO.out) hb); clear HB BKgA BKgO; have HB := n_; have BKgA := mgA_; have BKgO := mgO_; clear n_ mgA_ mgO_; have HM4 := Aside0.mk (HM.out.below hb); have HBM := Aside0.mk hbm; clear hb hbm HM; have hcgA_4_0 : w4.cell? ⟨gA, 0, none⟩ = some (.int .u8 k) := (blk_cell BKgA.out 0).trans rfl; have hfgA_4_0 := blk_frozen BKgA.out 0; have hcgO_4_0 : w4.cell? ⟨gO, 0, none⟩ = some (.slice none 0 0) := (blk_cell BKgO.out 0).trans rfl; have hfgO_4_0 := blk_frozen BKgO.out 0))
  -- END ROWS
  go_wp2
  have hcm := (blk_cell HBM.out 0).trans rfl
  have hB4 := HB.out
  have hz4 := below_size hB4
  have bO : Boxed w4 gO 31 (.slice none 0 0) := BKgO.out
  have bA : Boxed w4 gA 5 (.int .u8 k) := BKgA.out
  have hgO : w.heap.size ≤ gO := GEgO.out
  have hAO : gA ≠ gO := hngAgO
  obtain ⟨i0, hi, hz0, hz1, hz2⟩ := info_parts info23_
  have hT19 := tgOf_length k
  refine wpIn_wide.1 (wpIn_rangeFunc_ownG (F := Fence.wide) (n := 10) rfl (by decide) (gf := 55) (lb := #[.pointer (some ⟨Bm, 0, none⟩)]) rfl trivial (enters_of Try.func55 (by kernel_rfl) rfl)
    (keys_stops Fence.wide 9 trivial rfl (by decide) Bm (mpOf (n + 1) k) (tgOf k) w4 (blk_lt HBM.out) hcm HM4.out) walksK_t walksK_b (Below.refl _ _) (fun _ => rfl)
    (fun pre W => ((∃ v, Boxed W gO 31 v ∧ W.ownsRow w.heap.size 23 2 v pre.length (cellsT k pre) ∧ True) ∧ Boxed W gA 5 (.int .u8 k)) ∧ Below w.heap.size w W)
    (fun _ _ _ => False)
    (OwnFrom.and (OwnFrom.and (Own.from (holdsRow_own w.heap.size gO 31 23 2 (fun pre : List Int => pre.length) (fun pre => cellsT k pre) (fun _ _ => True)) _) (Own.from (boxed_own gA 5 (fun _ => .int .u8 k)) _)) (ownFrom_below (Nat.le_refl _) (below_size hB4)))
    (fun _ _ _ _ _ hs _ _ => hs)
    ⟨⟨⟨_, bO, World.ownsRow_nil _ _ _ _, trivial⟩, bA⟩, hB4⟩
    (fun x => { tmps := #[.int .u8 k, .pointer (some ⟨gA, 0, none⟩), .slice none 0 0, .pointer (some ⟨gO, 0, none⟩), .int .u8 x, .map (some n), .int .u8 k, .agg #[.string (nmOf k), .map (mpOf (n + 1) k)], .map (mpOf (n + 1) k), .func (.func 55) #[] #[.pointer (some ⟨Bm, 0, none⟩)], .int .u8 x, undef, undef, undef, undef, undef, undef, undef, undef, undef], defers := [] }) ?assign ?body ?done ?stop)
  case assign =>
    intro l x W K hK
    gi_wp2
    exact hK
  case body =>
    rintro l pre x W ⟨⟨⟨v, hv, hrow, _⟩, hA⟩, hB⟩ hlt
    have hc := hv.cell
    have hcA := hA.cell
    have hzW := below_size hB
    have hLA := cell_two_new W (.int .u8 k) (.int .u8 x) 23
    gi_wp2_with (gi_at_builtin; refine wpListIn_append_own _ rfl _ _ 31 rfl w.heap.size 23 i0 (.agg #[.int .u8 0, .int .u8 0]) 2 2 Try.underlying31 hi hz0 hz1 hz2 rfl (by decide) _ _ _ rfl (hrow.alloc _) ⟨W.heap.size, 0, none⟩ 1 1 [.int .u8 k, .int .u8 x] rfl rfl hLA (by intro u hu; simp at hu; rcases hu with rfl | rfl <;> rfl) (by simp only [maxLen]; omega) (by omega) (by simp; omega) ?_; intro v' w1 hown' hgrow _; obtain ⟨g', cap', rfl⟩ := ownsRow_succ hown'; obtain ⟨hv1, hv2, hr2, hk2, hb2⟩ := hv.appended (by decide) hrow hzW hgO hown' hgrow; have hA2 := (hA.alloc _).kept hgrow (hA.not_row (show (5 : Nat) ≠ 23 by decide) hrow); have HA2 := Aside0.mk hA2; have hc1 := hv1.cell; have hf1 := hv1.frozen; clear hA2)
    exact ⟨hk2.from _, hk2.walks, ⟨⟨_, hv2, by rw [cellsT_snoc]; simpa using hr2, trivial⟩, HA2.out.other hAO _⟩, hB.trans hb2⟩
  case done =>
    rintro D ys W hD hS ⟨⟨⟨v, hv, hrow, _⟩, hA⟩, hB⟩ hK
    have hc := hv.cell
    have hnd : ys.Nodup := hS.nodup_iff.2 (tgOf_nodup k)
    have hl : ys.length < 4611686018427387904 := by
      have := hS.length_eq
      rw [List.length_map] at this
      omega
    have hS' := Aside0.mk hS
    have HR := Aside0.mk hrow
    have HV := Aside0.mk hv
    have HBB := Aside0.mk hB
    have HK := Aside0.mk hK
    clear hS hrow hB hA hcm bO bA hK hB4
    go_wp2_with (go_at_call 38; refine (sort_got k ys hnd w.heap.size v _ HR.out hl).mono ?_; rintro _ W2 ⟨rfl, ⟨js, hp, hs, hr2⟩, hg2⟩; have hv2 := HV.out.kept hg2 (HV.out.not_row (show (31 : Nat) ≠ 23 by decide) HR.out); have hc2 := hv2.cell; have hK2 := Aside0.mk (blk_grown HK.out hg2 (own_ne_deferred HR.out HK.out)); have HR2 := Aside0.mk hr2; have HB2 := Aside0.mk (HBB.out.grown hg2 (below_size HBB.out) (own_base HR.out)); have HP := Aside0.mk hp; have HS := Aside0.mk hs; clear hr2 hg2 hv2 hp hs)
    refine ⟨by simp, .inl ⟨_, _, rfl, run_takeDeferred hK2.out, ?_⟩⟩
    refine ⟨_, results_tmp rfl _ _ _, v, rfl, ?_, HB2.out.trans (belowK_b (w := w) (Nat.le_refl _) W2 D _ _ ?_ hK2.out rfl rfl)⟩
    · have e : js = (tgOf k).map (·.1) := (HP.out.trans hS'.out).eq_of_pairwise (fun a b _ _ h1 h2 => by omega) HS.out (tgOf_rising k)
      have h1 := ownsRow_putObj HR2.out (.deferred none) hK2.out rfl
      have h2 : ys.length = (tgOf k).length := by
        have := hS'.out.length_eq
        simpa using this
      rw [h2, e] at h1
      exact h1
    · have := below_size HBB.out
      omega
  case stop =>
    rintro D c pre W _ _ h _
    exact h.elim
end Go.Proofs.Ytnmbhhkdiegemaa.H
