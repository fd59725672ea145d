/- A parameter []Token, opened: its cells, and the bounds of what it holds. Conditions: the argument is read as data, its weights are what a machine reaches. -/
import Derived.Test.YtjcpnfmbdbeinaaP
import Derived.Deep.Slices
import Derived.Deep.Fields
import Derived.ChangeSame
import Derived.SizedLaws
import Derived.Lib.SmallJoins
import Derived.Test.YtjcpnfmbdbeinaaWSized
namespace Go.Proofs.Ytjcpnfmbdbeinaa.PArg
open Go.ChangeShapes Go.WideShapes Go.Deep Go.RowKit Go.Proofs.Ytjcpnfmbdbeinaa.P Go.Proofs.YtjcpnfmbdbeinaaW.PrintWords Go.Proofs.YtjcpnfmbdbeinaaW.PrintLast
set_option linter.unusedVariables false

section
variable {H : Type} {enc : TypeId × Value → H} {P : Program} {w : World} {base : Nat} {spare : Nat → Bool} {held : Bool}
theorem open_slice_fields {t e : TypeId} {fs : Array Field} {fuel : Nat} {cs : List Value} {x : DataW H × List MemPlace} (ht : P.underlying t = some (.slice e)) (he : P.underlying e = some (.struct fs))
    (hone : oneCellFields P fs = true) (hC : P.cellsOf e = fs.size) (h : DataW.trod enc P w base spare held fuel t cs = some x) :
    (cs = [.slice none 0 0] ∧ x = (.nil, [])) ∨
    ∃ (a : Addr) (len cap m : Nat) (D : Nat → DataW H) (Pl : Nat → List MemPlace), cs = [.slice (some a) len cap] ∧ base ≤ a.block ∧ len ≤ cap ∧ cap ≤ maxLen ∧ m = (if spare a.block then cap else len) ∧
      x = (.slice ((List.range len).map D) ((List.range (m - len)).map fun j => D (len + j)), MemPlace.row a (m * fs.size) ++ (List.range m).flatMap Pl) ∧
      ∀ i, i < m → ∃ (ys : List (DataW H × List MemPlace)) (n : Nat), D i = .agg (ys.map (·.1)) ∧ Pl i = ys.flatMap (·.2) ∧ ys.length = fs.size ∧
        ∀ (j : Nat) (f : Field), fs[j]? = some f → ∃ (v : Value) (y : DataW H × List MemPlace), w.cell? (a.add (i * fs.size + j)) = some v ∧ ys[j]? = some y ∧ DataW.trod enc P w base spare held n f.type [v] = some y := by
  rcases open_slice ht h with h0 | ⟨a, len, cap, m, n, D, Pl, hcs, hb, hl, hm, hmm, hx, hi⟩
  · exact .inl h0
  · refine .inr ⟨a, len, cap, m, D, Pl, hcs, hb, hl, hm, hmm, by rw [hC] at hx; exact hx, fun i him => ?_⟩
    obtain ⟨cs', hc, ht'⟩ := hi i him
    rw [hC] at hc
    obtain ⟨ys, n', hn', hy, hlen, hyl, hf⟩ := DataW.trod_struct he ht'
    obtain ⟨_, hcl, hat⟩ := World.cells?_some hc
    simp only [Prod.mk.injEq] at hy
    refine ⟨ys, n', hy.1, hy.2, hyl, fun j f hj => ?_⟩
    obtain ⟨ho, hk⟩ := hone_of hone j f hj
    have hjl : j < fs.size := (Array.getElem?_eq_some_iff.1 hj).1
    have hcell := hat j hjl
    have hv : cs'[j]? = some (cs'[j]'(by omega)) := List.getElem?_eq_getElem (by omega)
    have h1 := hf j f hj
    rw [ho, hk] at h1
    have hone' : (cs'.drop j).take 1 = [cs'[j]'(by omega)] := by
      rw [List.drop_eq_getElem_cons (by omega)]
      rfl
    rw [hone'] at h1
    have hys : ys[j]? = some (ys[j]'(by omega)) := List.getElem?_eq_getElem (by omega)
    refine ⟨_, _, ?_, hys, h1.trans hys⟩
    rw [← Go.Deep.add_add, hcell, hv]
end
/-- A list out of its places. -/
theorem list_of {α : Type} {Q : Nat → α → Prop} : ∀ (n : Nat), (∀ i, i < n → ∃ t, Q i t) → ∃ xs : List α, xs.length = n ∧ ∀ j p, xs[j]? = some p → Q j p
  | 0, _ => ⟨[], rfl, fun j p h => by simp at h⟩
  | n + 1, h => by
    obtain ⟨xs, hl, hx⟩ := list_of n (fun i hi => h i (by omega))
    obtain ⟨t, ht⟩ := h n (by omega)
    refine ⟨xs ++ [t], by simp [hl], fun j p hj => ?_⟩
    rw [List.getElem?_append] at hj
    split at hj
    · exact hx j p hj
    · rename_i hjl
      have hj2 := (List.getElem?_eq_some_iff.1 hj).1
      simp at hj2
      have : j = n := by omega
      subst this
      rw [hl, Nat.sub_self] at hj
      simp at hj
      exact hj ▸ ht
theorem weights_all {H : Type} {P : Program} {e : TypeId} {d : DataW H} {n : Nat} (hn : n ∈ d.weights P e) : ∀ {ds : List (DataW H)}, d ∈ ds → n ∈ DataW.weightsAll P e ds
  | d0 :: ds, h => by
    simp only [DataW.weightsAll, List.mem_append]
    rcases List.mem_cons.1 h with rfl | h
    · exact .inl hn
    · exact .inr (weights_all hn h)
/-- What is known of each token of an argument. -/
def Wf (t : S38) : Prop := (Lit.int .u8 t.f0).wf = true ∧ (Lit.int .u8 t.f1).wf = true ∧ t.f2.length ≤ 140737488351232 ∧ ∀ x ∈ t.f2, (Lit.int .u8 x).wf = true
theorem open_tokens {H : Type} {enc : TypeId × Value → H} {W : World} {a : Option Addr} {len cap : Nat} {d : DataW H} {p : List MemPlace} {ts : List TypeId} {ds : List (DataW H)} {jt : Nat}
    (hsz : (DataW.weightsEach Try.prog ts ds).all (· ≤ reachBytes) = true) (htj : ts[jt]? = some 36) (hdj : ds[jt]? = some d)
    (h : DataW.Trod enc Try.prog W 0 (fun _ => true) true 36 (.slice a len cap) d p) :
    ∃ xs : List S38, xs.length = len ∧ xs.length ≤ cap ∧ Kd.C k38 W a xs.length xs ∧ xs.length ≤ 140737488351232 ∧ ∀ t ∈ xs, Wf t := by
  obtain ⟨fuel, hf⟩ := h
  rcases open_slice_fields Try.underlying36 Try.underlying38 (by kernel_rfl) (by kernel_rfl) hf with ⟨hcs, _⟩ | ⟨x, l, c, m, D, Pl, hcs, _, hl, hm, hmm, hx, hi⟩
  · simp [Value.cells] at hcs
    obtain ⟨rfl, rfl, rfl⟩ := hcs
    exact ⟨[], rfl, Nat.le_refl _, ⟨rfl, by decide, fun h => absurd h (by decide)⟩, by decide, fun t ht => by cases ht⟩
  simp [Value.cells] at hcs
  obtain ⟨rfl, rfl, rfl⟩ := hcs
  simp only [if_true] at hmm
  subst hmm
  have hd : d = .slice ((List.range len).map D) ((List.range (m - len)).map fun j => D (len + j)) := congrArg Prod.fst hx
  subst hd
  have hw0 := sized_slice hsz htj hdj Try.underlying36
  have hb38 : 1 ≤ Try.prog.bytesOf 38 := Nat.le_of_ble_eq_true (by kernel_rfl)
  have hlen : m ≤ 140737488351232 := by
    simp only [List.length_map, List.length_range] at hw0
    have : (len + (m - len)) * 1 ≤ (len + (m - len)) * Try.prog.bytesOf 38 := Nat.mul_le_mul_left _ hb38
    have hr : reachBytes = 140737488351232 := rfl
    omega
  obtain ⟨xs, hxl, hxs⟩ := list_of (Q := fun i (t : S38) => Wf t ∧ ∃ A c, W.cell? (x.add (i * 3 + 0)) = some (.int .u8 t.f0) ∧ W.cell? (x.add (i * 3 + 1)) = some (.int .u8 t.f1) ∧ W.cell? (x.add (i * 3 + 2)) = some (.slice A t.f2.length c) ∧ t.f2.length ≤ c ∧ Kd.C (Kd.int .u8) W A t.f2.length t.f2) len (fun i hil => by
    obtain ⟨ys, n, hD, _, hyl, hfj⟩ := hi i (by omega)
    obtain ⟨v0, y0, hc0, hy0, ht0⟩ := hfj 0 _ rfl
    obtain ⟨v1, y1, hc1, hy1, ht1⟩ := hfj 1 _ rfl
    obtain ⟨v2, y2, hc2, hy2, ht2⟩ := hfj 2 _ rfl
    obtain ⟨n0, e0, _, hw0⟩ := DataW.trod_int Try.underlying5 ht0
    obtain ⟨n1, e1, _, hw1⟩ := DataW.trod_int Try.underlying5 ht1
    obtain rfl : v0 = .int .u8 n0 := by simpa using e0
    obtain rfl : v1 = .int .u8 n1 := by simpa using e1
    have hWD : (DataW.weightsEach Try.prog [5, 5, 22] (ys.map (·.1))).all (· ≤ reachBytes) = true := by
      rw [List.all_eq_true]
      intro n hn
      refine List.all_eq_true.1 hsz n (DataW.weights_mem_each htj hdj n ?_)
      simp only [DataW.weights, Try.underlying36, List.mem_cons, List.mem_append]
      refine .inr (.inl (weights_all (d := D i) ?_ (List.mem_map.2 ⟨i, List.mem_range.2 hil, rfl⟩)))
      rw [hD]
      simp only [DataW.weights, Try.underlying38]
      exact hn
    have h22 : ∃ A l c, v2 = .slice A l c ∧ l ≤ c ∧ ∃ zs : List Int, ((A = none ∧ l = 0 ∧ c = 0 ∧ zs = []) ∨ ∃ x, A = some x ∧ l ≤ c ∧ c ≤ maxLen ∧ zs.length = c ∧ (∀ i, i < zs.length → W.cell? (x.add i) = some (.int .u8 (zs.getD i 0))) ∧ ∀ n ∈ zs, (Lit.int .u8 n).wf = true) := by
      rcases open_ints Try.underlying22 Try.underlying5 (by kernel_rfl) ht2 with ⟨hcs, _⟩ | ⟨x2, l2, c2, zs, hcs, _, hl2, hm2, hz, _, hcell, hwz⟩
      · exact ⟨none, 0, 0, by simpa using hcs, Nat.le_refl _, [], .inl ⟨rfl, rfl, rfl, rfl⟩⟩
      · exact ⟨some x2, l2, c2, by simpa using hcs, hl2, zs, .inr ⟨x2, rfl, hl2, hm2, by simpa using hz, hcell, hwz⟩⟩
    obtain ⟨A, l, c, rfl, hlc, zs, hzs⟩ := h22
    have hsi := sized_ints (H := H) hWD (j := 2) rfl (by rw [List.getElem?_map, hy2]; rfl) Try.underlying22 Try.underlying5 (by kernel_rfl) (B := 1) (by kernel_rfl) (a := A) (len := l) (cap := c) (ps := y2.2) ⟨n, ht2⟩
    obtain ⟨b, rfl, hr, hbm, hbw, hbc⟩ := ReadsInt.ofRowC hzs
    exact ⟨⟨n0, n1, b⟩, ⟨hw0, hw1, by simpa using hsi, hbw⟩, A, c, hc0, hc1, hc2, hbc, Kd.C_of_reads (d := (0 : Int)) (h1 := fun _ => rfl) hr⟩)
  refine ⟨xs, hxl, by omega, ⟨rfl, by omega, fun _ => ⟨x, rfl, fun j t hj => ?_⟩⟩, by omega, fun t ht => ?_⟩
  · obtain ⟨_, A, c, h0, h1, h2, hlc, hC⟩ := hxs j t hj
    refine ⟨_, rfl, k38_mk W t hlc hC, fun i u hu => ?_⟩
    match i with
    | 0 => simp at hu; subst hu; exact h0
    | 1 => simp at hu; subst hu; exact h1
    | 2 => simp at hu; subst hu; exact h2
    | i + 3 => simp at hu
  · obtain ⟨j, hj⟩ := List.getElem?_of_mem ht
    exact (hxs j t hj).1
/-- A row of tokens has no more places than memory has. -/
theorem open_len {H : Type} {enc : TypeId × Value → H} {W : World} {a : Option Addr} {len cap : Nat} {d : DataW H} {p : List MemPlace} {ts : List TypeId} {ds : List (DataW H)} {jt : Nat}
    (hsz : (DataW.weightsEach Try.prog ts ds).all (· ≤ reachBytes) = true) (htj : ts[jt]? = some 36) (hdj : ds[jt]? = some d)
    (h : DataW.Trod enc Try.prog W 0 (fun _ => true) true 36 (.slice a len cap) d p) : len ≤ 4398046510976 := by
  obtain ⟨fuel, hf⟩ := h
  rcases open_slice_fields Try.underlying36 Try.underlying38 (by kernel_rfl) (by kernel_rfl) hf with ⟨hcs, _⟩ | ⟨x, l, c, m, D, Pl, hcs, _, hl, hm, hmm, hx, hi⟩
  · simp [Value.cells] at hcs
    obtain ⟨rfl, rfl, rfl⟩ := hcs
    omega
  simp [Value.cells] at hcs
  obtain ⟨rfl, rfl, rfl⟩ := hcs
  have hd : d = .slice ((List.range len).map D) ((List.range (m - len)).map fun j => D (len + j)) := congrArg Prod.fst hx
  subst hd
  have hw0 := sized_slice hsz htj hdj Try.underlying36
  have hb38 : Try.prog.bytesOf 38 = 32 := by kernel_rfl
  have hr : reachBytes = 140737488351232 := rfl
  simp only [List.length_map, List.length_range, hb38, hr] at hw0
  omega
/-- A token by value. -/
theorem open_token {H : Type} {enc : TypeId × Value → H} {W : World} {base : Nat} {v : Value} {d : DataW H} {p : List MemPlace} {ts : List TypeId} {ds : List (DataW H)} {jt : Nat}
    (hsz : (DataW.weightsEach Try.prog ts ds).all (· ≤ reachBytes) = true) (htj : ts[jt]? = some 38) (hdj : ds[jt]? = some d) (hv : Value.okWide Try.prog W .any base 38 v)
    (h : DataW.Trod enc Try.prog W 0 (fun _ => true) true 38 v d p) :
    ∃ (t : S38) (A : Option Addr) (c : Nat), v = .agg #[.int .u8 t.f0, .int .u8 t.f1, .slice A t.f2.length c] ∧ t.f2.length ≤ c ∧ Kd.C (Kd.int .u8) W A t.f2.length t.f2 ∧ Wf t := by
  obtain ⟨v0, v1, v2, y0, y1, y2, n, rfl, rfl, _, ht0, ht1, ht2⟩ := Go.Joins.open_agg3 Try.underlying38 (by kernel_rfl) (by kernel_rfl) hv h
  obtain ⟨n0, e0, _, hw0⟩ := DataW.trod_int Try.underlying5 ht0
  obtain ⟨n1, e1, _, hw1⟩ := DataW.trod_int Try.underlying5 ht1
  obtain rfl : v0 = .int .u8 n0 := by simpa using e0
  obtain rfl : v1 = .int .u8 n1 := by simpa using e1
  have hWD : (DataW.weightsEach Try.prog [5, 5, 22] [y0.1, y1.1, y2.1]).all (· ≤ reachBytes) = true := by
    rw [List.all_eq_true]
    intro n hn
    refine List.all_eq_true.1 hsz n (DataW.weights_mem_each htj hdj n ?_)
    simp only [DataW.weights, Try.underlying38]
    exact hn
  have h22 : ∃ A l c, v2 = .slice A l c ∧ l ≤ c ∧ ∃ zs : List Int, ((A = none ∧ l = 0 ∧ c = 0 ∧ zs = []) ∨ ∃ x, A = some x ∧ l ≤ c ∧ c ≤ maxLen ∧ zs.length = c ∧ (∀ i, i < zs.length → W.cell? (x.add i) = some (.int .u8 (zs.getD i 0))) ∧ ∀ n ∈ zs, (Lit.int .u8 n).wf = true) := by
    rcases open_ints Try.underlying22 Try.underlying5 (by kernel_rfl) ht2 with ⟨hcs, _⟩ | ⟨x2, l2, c2, zs, hcs, _, hl2, hm2, hz, _, hcell, hwz⟩
    · exact ⟨none, 0, 0, by simpa using hcs, Nat.le_refl _, [], .inl ⟨rfl, rfl, rfl, rfl⟩⟩
    · exact ⟨some x2, l2, c2, by simpa using hcs, hl2, zs, .inr ⟨x2, rfl, hl2, hm2, by simpa using hz, hcell, hwz⟩⟩
  obtain ⟨A, l, c, rfl, hlc, zs, hzs⟩ := h22
  have hsi := sized_ints (H := H) hWD (j := 2) rfl rfl Try.underlying22 Try.underlying5 (by kernel_rfl) (B := 1) (by kernel_rfl) (a := A) (len := l) (cap := c) (ps := y2.2) ⟨n, ht2⟩
  obtain ⟨b, rfl, hr, hbm, hbw, hbc⟩ := ReadsInt.ofRowC hzs
  exact ⟨⟨n0, n1, b⟩, A, c, rfl, hbc, Kd.C_of_reads (d := (0 : Int)) (h1 := fun _ => rfl) hr, hw0, hw1, by simpa using hsi, hbw⟩
end Go.Proofs.Ytjcpnfmbdbeinaa.PArg
