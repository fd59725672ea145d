/- The plain law of TokenGets: the document's tokens of any bytes are the program's, errors too. Conditions: bytes are bytes, lengths are Go's. -/
import Derived.Test.YtjcpnfmbdbeinaaRUtfRef
import Derived.Test.YtjcpnfmbdbeinaaRTokPut
namespace Go.Proofs.Ytjcpnfmbdbeinaa.RPlain
open Go.RowKit Go.Proofs.Ytjcpnfmbdbeinaa.R Go.Proofs.YtjcpnfmbdbeinaaW.PrintWords Go.Proofs.YtjcpnfmbdbeinaaW.PrintLast
set_option linter.unusedVariables false
set_option linter.unusedSimpArgs false

theorem byt_wf {l : List Int} (h : ∀ x ∈ l, (Lit.int .u8 x).wf = true) : Byt l := fun x hx => by
  have := h x hx
  have h1 : IntKind.u8.min = 0 := by decide
  have h2 : IntKind.u8.max = 255 := by decide
  simp [Lit.wf] at this
  exact ⟨by omega, by omega⟩
theorem byteSame (l : List Int) : cardexref00_Same.f l l = some true := by
  rw [cardexref00_Same.f]
  simp
/-! ### a mark -/
theorem wrap64u {n : Int} (h0 : 0 ≤ n) (h1 : n < 18446744073709551616) : IntKind.u64.wrap n = n := by rw [IntKind.wrap_u64]; omega
theorem drop_get (b : List Int) (at_ i : Nat) (h : at_ + i < b.length) : (b.drop at_).getD i 0 = b.getD (at_ + i) 0 := by
  simp [List.getD_eq_getElem?_getD]
theorem mark_l0 (b : List Int) (at_ : Nat) (hb : Byt b) (hl : b.length ≤ 16384) (ha : at_ ≤ b.length) : ∀ (d i x : Nat), i + d = (b.drop at_).length → x < 4294967296 → (i = 0 → x = 0) →
    ∃ r : Int × Int × Int, Ev (fun k => num_GetMark.l0 k at_ (x : Int) (b.drop at_) ((b.drop at_).length : Int) (i : Int)) r ∧ Ev (fun k => cardexref01_GetMark.l0 k b at_ (x : Int) ((at_ + i : Nat) : Int)) r := by
  intro d
  have hld : (b.drop at_).length = b.length - at_ := List.length_drop ..
  induction d with
  | zero =>
    intro i x hi hx h0
    refine ⟨(0, 0, 4), Ev.step (fun k => ?_) (Ev.now _), Ev.step (fun k => ?_) (Ev.now _)⟩
    · rw [num_GetMark.l0, if_neg (by omega)]
    · rw [cardexref01_GetMark.l0, if_neg (by omega)]
  | succ d ih =>
    intro i x hi hx h0
    have hil : i < (b.drop at_).length := by omega
    have hbi : at_ + i < b.length := by omega
    have hc := byt_getD hb (at_ + i) hbi
    have hd := drop_get b at_ i hbi
    generalize hcc : b.getD (at_ + i) 0 = c at hc hd
    obtain ⟨c, rfl⟩ : ∃ n : Nat, c = (n : Int) := ⟨c.toNat, by omega⟩
    have hn : ∀ k, num_GetMark.l0 (k + 1) at_ (x : Int) (b.drop at_) ((b.drop at_).length : Int) (i : Int) = num_GetMark.j2 k at_ (x : Int) (i : Int) (c : Int) (b.drop at_) ((b.drop at_).length : Int) (i : Int) (decide (i = 0 ∧ c = 128) || decide (33554432 ≤ x)) := by
      intro k
      rw [num_GetMark.l0, if_pos (by omega), if_pos (by omega), if_pos (by omega), rd_nat, hd]
      by_cases i0 : i = 0
      · have hx0 := h0 i0
        subst i0 hx0
        rw [if_pos (by simp)]
        by_cases c8 : (c : Int) = 128
        · rw [if_pos c8, show (decide ((0 : Nat) = 0 ∧ c = 128) || decide (33554432 ≤ 0)) = true from by simp; omega]
        · rw [if_neg c8]
          congr 1
          simp
          omega
      · rw [if_neg (by omega)]
        congr 1
        simp [i0]
        omega
    have hr : ∀ k, cardexref01_GetMark.l0 (k + 1) b at_ (x : Int) ((at_ + i : Nat) : Int) = cardexref01_GetMark.j2 k b at_ (x : Int) ((at_ + i : Nat) : Int) (decide (i = 0 ∧ c = 128)) := by
      intro k
      rw [cardexref01_GetMark.l0, if_pos (by omega)]
      by_cases i0 : i = 0
      · subst i0
        rw [if_pos (by simp), if_pos (by omega), rd_nat, hcc]
        congr 1
        rw [Bool.eq_iff_iff]
        simp
        omega
      · rw [if_neg (by omega)]
        congr 1
        simp [i0]
    have e1 : Go.bits .or .u32 (((x : Int) * 128) % 4294967296) ((Go.bits .and .u8 (c : Int) 127) % 4294967296) = if x < 33554432 then ((x * 128 + c % 128 : Nat) : Int) else Go.bits .or .u32 (((x : Int) * 128) % 4294967296) ((Go.bits .and .u8 (c : Int) 127) % 4294967296) := by
      by_cases hx2 : x < 33554432
      · rw [if_pos hx2, and127 hc.1 hc.2]
        have := or_mark (x := (x : Int)) (y := (c : Int) % 128) (by omega) (by omega) (by omega) (by omega)
        rw [this]
        omega
      · rw [if_neg hx2]
    have ey : IntKind.u64.wrap ((IntKind.u64.wrap (128 * (x : Int))) + (IntKind.u64.wrap (Int.tmod (rd b ((at_ + i : Nat) : Int)) 128))) = ((x * 128 + c % 128 : Nat) : Int) := by
      rw [rd_nat, hcc, Int.tmod_eq_emod_of_nonneg (by omega), wrap64u (n := 128 * (x : Int)) (by omega) (by omega), wrap64u (n := (c : Int) % 128) (by omega) (by omega), wrap64u (by omega) (by omega)]
      omega
    have h5n : ∀ k, num_GetMark.j2 (k + 1) at_ (x : Int) (i : Int) (c : Int) (b.drop at_) ((b.drop at_).length : Int) (i : Int) true = some (0, 0, 5) := fun k => by rw [num_GetMark.j2, if_pos rfl]
    by_cases q1 : i = 0 ∧ c = 128
    · refine ⟨(0, 0, 5), Ev.step hn ?_, Ev.step hr ?_⟩
      · rw [show (decide (i = 0 ∧ c = 128) || decide (33554432 ≤ x)) = true from by simp [q1]]
        exact Ev.step h5n (Ev.now _)
      · rw [decide_eq_true q1]
        refine Ev.step (fun k => ?_) (Ev.now _)
        rw [cardexref01_GetMark.j2, if_pos rfl]
    by_cases q2 : 33554432 ≤ x
    · refine ⟨(0, 0, 5), Ev.step hn ?_, Ev.step hr ?_⟩
      · rw [show (decide (i = 0 ∧ c = 128) || decide (33554432 ≤ x)) = true from by simp [q2]]
        exact Ev.step h5n (Ev.now _)
      · rw [decide_eq_false q1]
        refine Ev.step (fun k => ?_) (Ev.now _)
        rw [cardexref01_GetMark.j2, if_neg (by decide), if_pos (by omega), if_pos (by omega), ey, if_pos (by omega)]
    have hx2 : x < 33554432 := by omega
    rw [if_pos hx2] at e1
    have hfl : (decide (i = 0 ∧ c = 128) || decide (33554432 ≤ x)) = false := by
      rw [decide_eq_false q1, decide_eq_false q2]
      rfl
    by_cases q3 : c < 128
    · refine ⟨(((x * 128 + c % 128 : Nat) : Int), ((at_ + i + 1 : Nat) : Int), 0), Ev.step hn ?_, Ev.step hr ?_⟩
      · rw [hfl]
        refine Ev.step (fun k => ?_) (Ev.now _)
        rw [num_GetMark.j2, if_neg (by decide), if_pos (by omega), e1, w64 (n := (at_ : Int) + i) (by omega) (by omega), w64 (by omega) (by omega)]
        congr 3
      · rw [decide_eq_false q1]
        refine Ev.step (fun k => ?_) (Ev.now _)
        rw [cardexref01_GetMark.j2, if_neg (by decide), if_pos (by omega), if_pos (by omega), ey, if_neg (by omega), if_pos (by rw [rd_nat, hcc]; omega), w64 (by omega) (by omega)]
        congr 2
        omega
    · obtain ⟨r, h1, h2⟩ := ih (i + 1) (x * 128 + c % 128) (by omega) (by omega) (by omega)
      refine ⟨r, Ev.step hn ?_, Ev.step hr ?_⟩
      · rw [hfl]
        refine Ev.step (fun k => ?_) h1
        rw [num_GetMark.j2, if_neg (by decide), if_neg (by omega), e1, w64 (n := (i : Int) + 1) (by omega) (by omega)]
        rfl
      · rw [decide_eq_false q1]
        refine Ev.step (fun k => ?_) h2
        rw [cardexref01_GetMark.j2, if_neg (by decide), if_pos (by omega), if_pos (by omega), ey, if_neg (by omega), if_neg (by rw [rd_nat, hcc]; omega), w64 (by omega) (by omega)]
        rfl
theorem mark_eq (b : List Int) (at_ : Nat) (hb : Byt b) (hl : b.length ≤ 16384) (ha : at_ ≤ b.length) :
    ∃ r : Int × Int × Int, Ev (fun k => num_GetMark.f k b (at_ : Int)) r ∧ Ev (fun k => cardexref01_GetMark.f k b (at_ : Int)) r := by
  obtain ⟨r, h1, h2⟩ := mark_l0 b at_ hb hl ha (b.drop at_).length 0 0 (by omega) (by omega) (fun _ => rfl)
  refine ⟨r, Ev.step (fun k => ?_) h1, Ev.step (fun k => ?_) h2⟩
  · rw [num_GetMark.f, if_neg (by omega), num_GetMark.j0, show decide ((at_ : Int) > (b.length : Int)) = false from decide_eq_false (by omega), if_neg (by decide), if_pos (by omega), if_pos (by omega)]
    simp
  · rw [cardexref01_GetMark.f, if_neg (by omega), show decide ((at_ : Int) > (b.length : Int)) = false from decide_eq_false (by omega), cardexref01_GetMark.j0, if_neg (by decide)]
    simp

theorem ev_uniq {α : Type} {g : Nat → Option α} {r r' : α} (h : Ev g r) (h' : Ev g r') : r = r' := by
  obtain ⟨K, hk⟩ := h
  obtain ⟨K', hk'⟩ := h'
  have h1 := hk (max K K') (by omega)
  rw [hk' (max K K') (by omega)] at h1
  exact (Option.some.inj h1).symm

/-! ### the document's text -/
/-- No zero ahead of a zero, or of the end. -/
theorem split0 : ∀ l : List Int, ∃ p rest, l = p ++ rest ∧ (∀ x ∈ p, x ≠ 0) ∧ (rest = [] ∨ ∃ r, rest = 0 :: r)
  | [] => ⟨[], [], rfl, (fun x hx => by cases hx), .inl rfl⟩
  | a :: l => by
    by_cases h : a = 0
    · exact ⟨[], a :: l, rfl, (fun x hx => by cases hx), .inr ⟨l, by rw [h]⟩⟩
    · obtain ⟨p, rest, h1, h2, h3⟩ := split0 l
      refine ⟨a :: p, rest, by rw [h1]; rfl, fun x hx => ?_, h3⟩
      rcases List.mem_cons.1 hx with rfl | hx
      · exact h
      · exact h2 x hx
theorem rd_at {b p rest : List Int} {at_ i : Nat} (h : b.drop at_ = p ++ rest) : rd b ((at_ + i : Nat) : Int) = (p ++ rest).getD i 0 := by
  rw [rd_nat, ← h]
  simp [List.getD_eq_getElem?_getD]
theorem gt_go (b : List Int) (at_ : Nat) (hl : b.length ≤ 16384) (p rest : List Int) (h : b.drop at_ = p ++ rest) (hz : ∀ x ∈ p, x ≠ 0) (i : Nat) (hi : i < p.length) (k : Nat) :
    cardexref11_getText.l0 (k + 2) b at_ ((at_ + i : Nat) : Int) = if 64 ≤ i then some (0, 0, [], 0, 3) else cardexref11_getText.l0 k b at_ ((at_ + (i + 1) : Nat) : Int) := by
  have hlen := congrArg List.length h
  simp at hlen
  have hne : (p ++ rest).getD i 0 ≠ 0 := by
    rw [List.getD_eq_getElem?_getD, List.getElem?_append_left hi, List.getElem?_eq_getElem hi]
    exact hz _ (List.getElem_mem hi)
  rw [cardexref11_getText.l0, if_pos (by omega), if_pos (by omega), rd_at h, cardexref11_getText.j1, if_pos (by simpa using hne), w64 (by omega) (by omega), w64 (by omega) (by omega)]
  by_cases c : 64 ≤ i
  · rw [if_pos c, if_pos (by omega)]
  · rw [if_neg c, if_neg (by omega)]
    congr 1
theorem gt_far (b : List Int) (at_ : Nat) (hl : b.length ≤ 16384) (p rest : List Int) (h : b.drop at_ = p ++ rest) (hz : ∀ x ∈ p, x ≠ 0) (hp : 64 < p.length) : ∀ (d i : Nat), i + d = 64 → Ev (fun k => cardexref11_getText.l0 k b at_ ((at_ + i : Nat) : Int)) (0, 0, [], 0, 3) := by
  intro d
  induction d with
  | zero =>
    intro i hi
    exact Ev.step (fun k => rfl) (Ev.step (fun k => (gt_go b at_ hl p rest h hz i (by omega) k).trans (if_pos (by omega))) (Ev.now _))
  | succ d ih =>
    intro i hi
    exact Ev.step (fun k => rfl) (Ev.step (fun k => (gt_go b at_ hl p rest h hz i (by omega) k).trans (if_neg (by omega))) (ih (i + 1) (by omega)))
open Classical in
theorem gt_near (b : List Int) (at_ : Nat) (hb : Byt b) (hl : b.length ≤ 16384) (p rest : List Int) (h : b.drop at_ = p ++ rest) (hz : ∀ x ∈ p, x ≠ 0) (hp : p.length ≤ 64) (hr : rest = [] ∨ ∃ r, rest = 0 :: r) (hat : at_ ≤ b.length) : ∀ (d i : Nat), i + d = p.length → Ev (fun k => cardexref11_getText.l0 k b at_ ((at_ + i : Nat) : Int)) (if rest = [] then (0, 0, [], 0, 4) else if p = [] then (0, 0, [], 0, 5) else if IsText p then (5, 0, p, at_ + p.length + 1, 0) else (0, 0, [], 0, 12)) := by
  have hlen := congrArg List.length h
  simp at hlen
  intro d
  induction d with
  | succ d ih =>
    intro i hi
    exact Ev.step (fun k => rfl) (Ev.step (fun k => (gt_go b at_ hl p rest h hz i (by omega) k).trans (if_neg (by omega))) (ih (i + 1) (by omega)))
  | zero =>
    intro i hi
    obtain rfl : i = p.length := by omega
    rcases hr with rfl | ⟨r, rfl⟩
    · rw [if_pos rfl]
      simp at hlen
      refine Ev.step (fun k => rfl) (Ev.step (fun k => ?_) (Ev.now _))
      rw [cardexref11_getText.l0, if_neg (by omega), cardexref11_getText.j1, if_neg (by decide), if_pos (by omega)]
    · rw [if_neg (by simp)]
      simp at hlen
      have h0 : (p ++ 0 :: r).getD p.length 0 = 0 := by simp
      have hs : (b.take (((at_ + p.length : Nat) : Int)).toNat).drop ((at_ : Int)).toNat = p := by
        rw [Int.toNat_natCast, Int.toNat_natCast, List.drop_take, h, Nat.add_sub_cancel_left]
        simp
      have hg : ∀ k, cardexref11_getText.l0 (k + 2) b at_ ((at_ + p.length : Nat) : Int) = (if p = [] then some ((0 : Int), (0 : Int), ([] : List Int), (0 : Int), (5 : Int)) else (cardexref02_Is.f k p).bind fun t => if t = true then some ((5 : Int), (0 : Int), p, (at_ : Int) + p.length + 1, (0 : Int)) else some (0, 0, [], 0, 12)) := by
        intro k
        rw [cardexref11_getText.l0, if_pos (by omega), if_pos (by omega), rd_at h, h0, cardexref11_getText.j1, if_neg (by decide), if_neg (by omega)]
        by_cases c : p = []
        · rw [if_pos c, if_pos (by rw [c]; simp)]
        · have := List.length_pos_iff.2 c
          rw [if_neg c, if_neg (by omega), if_pos (by omega), if_pos (by omega), if_pos (by omega), hs, w64 (by omega) (by omega)]
          congr 1
          funext t
          rw [show cardexref00_Copy.f p = some p from by rw [cardexref00_Copy.f, if_pos (by simp; omega)]; simp]
          rfl
      by_cases c : p = []
      · rw [if_pos c]
        exact Ev.step (fun k => rfl) (Ev.step (fun k => (hg k).trans (if_pos c)) (Ev.now _))
      · rw [if_neg c]
        have hpb : Byt p := by rw [← hs]; exact byt_drop (byt_take hb _) _
        obtain ⟨u, hu, hev⟩ := ref_is p hpb (by omega)
        refine Ev.step (fun k => rfl) (Ev.step (fun k => (hg k).trans (if_neg c)) (Ev.bind hev ?_))
        rcases u with _ | _
        · have hn : ¬ IsText p := fun h => by have := hu.2 h; cases this
          rw [if_neg hn]
          exact Ev.congr (fun k => if_neg (by decide)) (Ev.now _)
        · have hn : IsText p := hu.1 rfl
          rw [if_pos hn]
          exact Ev.congr (fun k => if_pos rfl) (Ev.now _)
theorem text_eq (b : List Int) (at_ : Nat) (hb : Byt b) (hl : b.length ≤ 16384) (hat : at_ ≤ b.length) :
    ∃ (d : List Int) (e : Int) (nx : Nat), Ev (fun k => rtext k b at_) (d, e, nx) ∧ Ev (fun k => cardexref11_getText.f k b at_) (if e = 0 then (5, 0, d, (nx : Int), 0) else (0, 0, [], 0, e)) := by
  classical
  obtain ⟨p, rest, h, hz, hr⟩ := split0 (b.drop at_)
  by_cases hp : 64 < p.length
  · have hg := gt_far b at_ hl p rest h hz hp 64 0 rfl
    refine ⟨[], 3, at_, ?_, hg⟩
    rcases hr with rfl | ⟨r, rfl⟩
    · rw [List.append_nil] at h
      refine Ev.congr (fun k => ?_) (Ev.now _)
      rw [rtext_no b at_ hb (by rw [h]; exact hz), if_pos (by rw [h]; exact hp)]
    · have := rtext_at b at_ hb hl p r h hz
      rwa [if_pos hp] at this
  · have hg := gt_near b at_ hb hl p rest h hz (by omega) hr hat p.length 0 (by omega)
    rcases hr with rfl | ⟨r, rfl⟩
    · rw [List.append_nil] at h
      rw [if_pos rfl] at hg
      refine ⟨[], 4, at_, Ev.congr (fun k => ?_) (Ev.now _), hg⟩
      rw [rtext_no b at_ hb (by rw [h]; exact hz), if_neg (by rw [h]; exact hp)]
    · rw [if_neg (by simp)] at hg
      have hx := rtext_at b at_ hb hl p r h hz
      rw [if_neg hp] at hx
      by_cases c1 : p = []
      · rw [if_pos c1] at hx hg
        exact ⟨_, _, _, hx, hg⟩
      rw [if_neg c1] at hx hg
      by_cases c2 : IsText p
      · rw [if_pos c2] at hx hg
        exact ⟨_, _, _, hx, by rw [if_pos rfl]; exact hg⟩
      · rw [if_neg c2] at hx hg
        exact ⟨_, _, _, hx, hg⟩

/-! ### the document's opaque bytes -/
theorem opq_eq (b : List Int) (at_ : Nat) (hb : Byt b) (hl : b.length ≤ 16384) (hat : at_ ≤ b.length) :
    ∃ (d : List Int) (e nx : Int) (r : Int × Int × List Int × Int × Int), Ev (fun k => ropq k b at_) (d, e, nx) ∧ Ev (fun k => cardexref11_getOpaque.f k b at_) r ∧ r = (if e = 0 then (6, 0, d, nx, 0) else (0, 0, [], 0, e)) := by
  obtain ⟨n, nx, er, hev, hc⟩ := gm b at_ hb hl hat
  obtain ⟨r, h1, h2⟩ := mark_eq b at_ hb hl hat
  obtain rfl := ev_uniq hev h1
  clear h1
  have hstep : ∀ r, Ev (fun k => if er ≠ 0 then some ([], er, (at_ : Int)) else if n > 64 then some ([], 3, (at_ : Int)) else if n = 0 then some ([], 5, (at_ : Int)) else if 0 ≤ n ∧ 0 ≤ nx ∧ nx ≤ b.length then (if n > (b.length : Int) - nx then some ([], 4, (at_ : Int)) else some ((b.drop nx.toNat).take n.toNat, 0, nx + n)) else none) r → Ev (fun k => ropq k b at_) r := by
    intro r hr
    unfold ropq
    exact Ev.bind hev hr
  have hstep2 : ∀ r, Ev (fun k => (if er = 0 then (if n > 64 then (some (0, 0, ([] : List Int), 0, 3)) else (if n = 0 then (some (0, 0, ([] : List Int), 0, 5)) else (if (wrap64 ((b.length : Int) - nx)) < (wrap64 n) then (some (0, 0, ([] : List Int), 0, 4)) else (if 0 ≤ nx then (if nx ≤ (wrap64 (nx + (wrap64 n))) then (if (wrap64 (nx + (wrap64 n))) ≤ (b.length : Int) then ((cardexref00_Copy.f ((b.take ((wrap64 (nx + (wrap64 n))) : Int).toNat).drop (nx : Int).toNat)).bind fun t248 => (some (6, 0, t248, wrap64 (nx + (wrap64 n)), 0))) else (none)) else (none)) else (none))))) else (some (0, 0, ([] : List Int), 0, er)))) r → Ev (fun k => cardexref11_getOpaque.f k b at_) r := by
    intro r hr
    unfold cardexref11_getOpaque.f
    exact Ev.bind h2 hr
  by_cases c1 : er = 0
  case neg => exact ⟨[], er, at_, (0, 0, [], 0, er), hstep _ (Ev.congr (fun k => if_pos c1) (Ev.now _)), hstep2 _ (Ev.congr (fun k => if_neg c1) (Ev.now _)), by rw [if_neg c1]⟩
  by_cases c2 : n > 64
  · exact ⟨[], 3, at_, (0, 0, [], 0, 3), hstep _ (Ev.congr (fun k => by rw [if_neg (by simpa using c1), if_pos c2]) (Ev.now _)), hstep2 _ (Ev.congr (fun k => by rw [if_pos c1, if_pos c2]) (Ev.now _)), rfl⟩
  by_cases c3 : n = 0
  · exact ⟨[], 5, at_, (0, 0, [], 0, 5), hstep _ (Ev.congr (fun k => by rw [if_neg (by simpa using c1), if_neg c2, if_pos c3]) (Ev.now _)), hstep2 _ (Ev.congr (fun k => by rw [if_pos c1, if_neg c2, if_pos c3]) (Ev.now _)), rfl⟩
  have hr : 0 ≤ n ∧ 0 ≤ nx ∧ nx ≤ b.length := by
    have hld : (b.drop at_).length = b.length - at_ := List.length_drop ..
    rcases hc with ⟨_, h⟩ | ⟨c, t, hdr, h3, h4, h5, _⟩ | ⟨c, t, hdr, h3, h4⟩
    · omega
    · have := byt_drop hb at_ c (by rw [hdr]; exact List.mem_cons_self ..)
      rw [hdr] at hld
      simp at hld
      omega
    · have := h4 c1
      omega
  have w1 : wrap64 ((b.length : Int) - nx) = (b.length : Int) - nx := w64 (by omega) (by omega)
  have w2 : wrap64 n = n := w64 (by omega) (by omega)
  have w3 : wrap64 (nx + n) = nx + n := w64 (by omega) (by omega)
  by_cases c4 : n > (b.length : Int) - nx
  · exact ⟨[], 4, at_, (0, 0, [], 0, 4), hstep _ (Ev.congr (fun k => by rw [if_neg (by simpa using c1), if_neg c2, if_neg c3, if_pos hr, if_pos c4]) (Ev.now _)), hstep2 _ (Ev.congr (fun k => by rw [if_pos c1, if_neg c2, if_neg c3, w1, w2, if_pos (by omega)]) (Ev.now _)), rfl⟩
  · refine ⟨(b.drop nx.toNat).take n.toNat, 0, nx + n, (6, 0, (b.drop nx.toNat).take n.toNat, nx + n, 0), hstep _ (Ev.congr (fun k => by rw [if_neg (by simpa using c1), if_neg c2, if_neg c3, if_pos hr, if_neg c4]) (Ev.now _)), hstep2 _ (Ev.congr (fun k => ?_) (Ev.now _)), rfl⟩
    have hcut : ((b.take (nx + n).toNat).drop nx.toNat) = (b.drop nx.toNat).take n.toNat := by
      rw [List.drop_take]
      congr 1
      omega
    rw [if_pos c1, if_neg c2, if_neg c3, w1, w2, w3, if_neg (by omega), if_pos (by omega), if_pos (by omega), if_pos (by omega), hcut, cardexref00_Copy.f, if_pos (by simp; omega)]
    rfl

/-! ### the document's token, and its tokens -/
theorem byte_sub (c : Int) (h : 69 ≤ c ∧ c ≤ 127) : (c - 64) % 256 = c - 64 := by omega
theorem next_eq (b : List Int) (at_ : Nat) (hb : Byt b) (hl : b.length ≤ 16384) (hat : at_ < b.length) :
    ∃ (t : S38) (e nx : Int) (r : Int × Int × List Int × Int × Int), Ev (fun k => rnext k b at_) (t.f0, t.f1, t.f2, e, nx) ∧ Ev (fun k => cardexref11_get.f k b at_) r ∧ r.2.2.2.2 = e ∧ (e = 0 → r = (t.f0, t.f1, t.f2, nx, 0)) := by
  have hc := byt_getD hb at_ hat
  have hg : ∀ k, cardexref11_get.f (k + 1) b at_ = if b.getD at_ 0 = 0 then cardexref11_get.j0 (k + 1) b at_ (b.getD at_ 0) (decide ((at_ : Int) + 1 = b.length)) else cardexref11_get.j0 (k + 1) b at_ (b.getD at_ 0) false := by
    intro k
    rw [cardexref11_get.f, if_pos (by omega), if_pos (by omega), rd_nat, w64 (by omega) (by omega)]
    rfl
  have hu : ∀ k, rnext k b at_ = if b.getD at_ 0 = 0 then (if (at_ : Int) + 1 = b.length then some (0, 0, [], 4, (at_ : Int) + 1) else some (1, b.getD (at_ + 1) 0, [], 0, (at_ : Int) + 2))
      else if b.getD at_ 0 = 1 then some (4, 0, [], 0, (at_ : Int) + 1)
      else if b.getD at_ 0 = 3 then (rtext k b (at_ + 1)).bind fun t => some (5, 0, t.1, t.2.1, (t.2.2 : Int))
      else if b.getD at_ 0 = 195 then (ropq k b (at_ + 1)).bind fun t => some (6, 0, t.1, t.2.1, t.2.2)
      else if 5 ≤ b.getD at_ 0 ∧ b.getD at_ 0 ≤ 63 then some (3, b.getD at_ 0, [], 0, (at_ : Int) + 1)
      else if 69 ≤ b.getD at_ 0 ∧ b.getD at_ 0 ≤ 127 then some (2, bits .andNot .u8 (b.getD at_ 0) 64, [], 0, (at_ : Int) + 1)
      else some (0, 0, [], 5, (at_ : Int) + 1) := by
    intro k
    unfold rnext
    rfl
  generalize b.getD at_ 0 = c at hc hg hu
  have w1 : wrap64 ((at_ : Int) + 1) = (at_ : Int) + 1 := w64 (by omega) (by omega)
  have w2 : wrap64 ((at_ : Int) + 2) = (at_ : Int) + 2 := w64 (by omega) (by omega)
  by_cases c0 : c = 0
  · by_cases c9 : (at_ : Int) + 1 = b.length
    · refine ⟨⟨0, 0, []⟩, 4, (at_ : Int) + 1, (0, 0, [], 0, 4), Ev.congr (fun k => by rw [hu, if_pos c0, if_pos c9]) (Ev.now _), Ev.step (fun k => ?_) (Ev.now _), rfl, fun h => by cases h⟩
      rw [hg, if_pos c0, decide_eq_true c9, cardexref11_get.j0, if_pos rfl]
    · refine ⟨⟨1, b.getD (at_ + 1) 0, []⟩, 0, (at_ : Int) + 2, (1, b.getD (at_ + 1) 0, [], (at_ : Int) + 2, 0), Ev.congr (fun k => by rw [hu, if_pos c0, if_neg c9]) (Ev.now _), Ev.step (fun k => ?_) (Ev.now _), rfl, fun h => rfl⟩
      rw [hg, if_pos c0, decide_eq_false c9, cardexref11_get.j0, if_neg (by decide), if_pos c0, w1, w2, if_pos (by omega), if_pos (by omega), show (at_ : Int) + 1 = ((at_ + 1 : Nat) : Int) from by omega, rd_nat]
  have hg2 : ∀ k, cardexref11_get.f (k + 1) b at_ = (if c = 1 then (some (4, 0, ([] : List Int), (at_ : Int) + 1, 0)) else (if c = 3 then ((cardexref11_getText.f k b ((at_ + 1 : Nat) : Int)).bind fun bt254 => (some (bt254.1, bt254.2.1, bt254.2.2.1, bt254.2.2.2.1, bt254.2.2.2.2))) else (if c = 195 then ((cardexref11_getOpaque.f k b ((at_ + 1 : Nat) : Int)).bind fun bt261 => (some (bt261.1, bt261.2.1, bt261.2.2.1, bt261.2.2.2.1, bt261.2.2.2.2))) else (if c ≥ 5 then (cardexref11_get.j1 k at_ c (decide (c ≤ 63))) else (cardexref11_get.j1 k at_ c false))))) := by
    intro k
    rw [hg, if_neg c0, cardexref11_get.j0, if_neg (by decide), if_neg c0, w1]
    rfl
  by_cases c1 : c = 1
  · exact ⟨⟨4, 0, []⟩, 0, (at_ : Int) + 1, (4, 0, [], (at_ : Int) + 1, 0), Ev.congr (fun k => by rw [hu, if_neg c0, if_pos c1]) (Ev.now _), Ev.step (fun k => by rw [hg2, if_pos c1]) (Ev.now _), rfl, fun h => rfl⟩
  by_cases c3 : c = 3
  · obtain ⟨d, e, nx, h1, h2⟩ := text_eq b (at_ + 1) hb hl (by omega)
    refine ⟨⟨5, 0, d⟩, e, nx, (if e = 0 then (5, 0, d, (nx : Int), 0) else (0, 0, [], 0, e)), ?_, ?_, ?_, fun h => by rw [if_pos h]⟩
    · refine Ev.congr (fun k => (hu k).trans ?_) (Ev.bind (f := fun _ (t : List Int × Int × Nat) => some ((5 : Int), (0 : Int), t.1, t.2.1, (t.2.2 : Int))) h1 (Ev.now _))
      rw [if_neg c0, if_neg c1, if_pos c3]
    · refine Ev.step (fun k => ?_) (Ev.bind (f := fun _ (bt254 : Int × Int × List Int × Int × Int) => (some (bt254.1, bt254.2.1, bt254.2.2.1, bt254.2.2.2.1, bt254.2.2.2.2))) h2 (Ev.now _))
      rw [hg2, if_neg c1, if_pos c3]
    · split
      · rename_i h; exact h.symm
      · rfl
  by_cases c195 : c = 195
  · obtain ⟨d, e, nx, r, h1, h2, rfl⟩ := opq_eq b (at_ + 1) hb hl (by omega)
    refine ⟨⟨6, 0, d⟩, e, nx, (if e = 0 then (6, 0, d, nx, 0) else (0, 0, [], 0, e)), ?_, ?_, ?_, fun h => by rw [if_pos h]⟩
    · refine Ev.congr (fun k => (hu k).trans ?_) (Ev.bind (f := fun _ (t : List Int × Int × Int) => some ((6 : Int), (0 : Int), t.1, t.2.1, t.2.2)) h1 (Ev.now _))
      rw [if_neg c0, if_neg c1, if_neg c3, if_pos c195]
    · refine Ev.step (fun k => ?_) (Ev.bind (f := fun _ (bt254 : Int × Int × List Int × Int × Int) => (some (bt254.1, bt254.2.1, bt254.2.2.1, bt254.2.2.2.1, bt254.2.2.2.2))) h2 (Ev.now _))
      rw [hg2, if_neg c1, if_neg c3, if_pos c195]
    · split
      · rename_i h; exact h.symm
      · rfl
  have hg3 : ∀ k, cardexref11_get.f (k + 2) b at_ = if 5 ≤ c ∧ c ≤ 63 then some (3, c, ([] : List Int), (at_ : Int) + 1, 0) else if 69 ≤ c ∧ c ≤ 127 then some (2, c - 64, ([] : List Int), (at_ : Int) + 1, 0) else some (0, 0, ([] : List Int), 0, 5) := by
    intro k
    rw [hg2, if_neg c1, if_neg c3, if_neg c195]
    by_cases d1 : c ≥ 5
    · rw [if_pos d1]
      by_cases d2 : c ≤ 63
      · rw [decide_eq_true d2, cardexref11_get.j1, if_pos rfl, if_pos ⟨d1, d2⟩, w1]
      · rw [decide_eq_false d2, cardexref11_get.j1, if_neg (by decide), if_neg (show ¬ (5 ≤ c ∧ c ≤ 63) from by omega), w1]
        by_cases d3 : c ≥ 69
        · by_cases d4 : c ≤ 127
          · rw [if_pos d3, if_pos d4, if_pos ⟨d3, d4⟩, byte_sub c ⟨d3, d4⟩]
          · rw [if_pos d3, if_neg d4, if_neg (show ¬ (69 ≤ c ∧ c ≤ 127) from by omega)]
        · rw [if_neg d3, if_neg (show ¬ (69 ≤ c ∧ c ≤ 127) from by omega)]
    · rw [if_neg d1, cardexref11_get.j1, if_neg (by decide), if_neg (show ¬ c ≥ 69 from by omega), if_neg (show ¬ (5 ≤ c ∧ c ≤ 63) from by omega), if_neg (show ¬ (69 ≤ c ∧ c ≤ 127) from by omega)]
  by_cases c5 : 5 ≤ c ∧ c ≤ 63
  · exact ⟨⟨3, c, []⟩, 0, (at_ : Int) + 1, (3, c, [], (at_ : Int) + 1, 0), Ev.congr (fun k => by rw [hu, if_neg c0, if_neg c1, if_neg c3, if_neg c195, if_pos c5]) (Ev.now _), Ev.step (fun k => rfl) (Ev.step (fun k => by rw [hg3, if_pos c5]) (Ev.now _)), rfl, fun h => rfl⟩
  by_cases c6 : 69 ≤ c ∧ c ≤ 127
  · exact ⟨⟨2, c - 64, []⟩, 0, (at_ : Int) + 1, (2, c - 64, [], (at_ : Int) + 1, 0), Ev.congr (fun k => by rw [hu, if_neg c0, if_neg c1, if_neg c3, if_neg c195, if_neg c5, if_pos c6, bit_sub c c6]) (Ev.now _), Ev.step (fun k => rfl) (Ev.step (fun k => by rw [hg3, if_neg c5, if_pos c6]) (Ev.now _)), rfl, fun h => rfl⟩
  · exact ⟨⟨0, 0, []⟩, 5, (at_ : Int) + 1, (0, 0, [], 0, 5), Ev.congr (fun k => by rw [hu, if_neg c0, if_neg c1, if_neg c3, if_neg c195, if_neg c5, if_neg c6]) (Ev.now _), Ev.step (fun k => rfl) (Ev.step (fun k => by rw [hg3, if_neg c5, if_neg c6]) (Ev.now _)), rfl, fun h => by cases h⟩

theorem gets_l0 (b : List Int) (hb : Byt b) (hl : b.length ≤ 16384) : ∀ (d at_ : Nat) (xs : List S38), b.length - at_ ≤ d → at_ ≤ b.length → xs.length ≤ at_ →
    ∃ r : List S38 × Int, Ev (fun k => rget.l0 k b xs at_) r ∧ Ev (fun k => cardexref11_Get.l0 k b xs at_) r := by
  intro d
  induction d with
  | zero =>
    intro at_ xs hd ha hx
    refine ⟨(xs, 0), Ev.step (fun k => ?_) (Ev.now _), Ev.step (fun k => ?_) (Ev.now _)⟩
    · rw [rget.l0, if_neg (by omega)]
    · rw [cardexref11_Get.l0, if_neg (by omega)]
  | succ d ih =>
    intro at_ xs hd ha hx
    by_cases c : at_ < b.length
    case neg =>
      refine ⟨(xs, 0), Ev.step (fun k => ?_) (Ev.now _), Ev.step (fun k => ?_) (Ev.now _)⟩
      · rw [rget.l0, if_neg (by omega)]
      · rw [cardexref11_Get.l0, if_neg (by omega)]
    obtain ⟨t, e, nx, r, h1, h2, h3, h4⟩ := next_eq b at_ hb hl c
    obtain ⟨t', e', nx', h5, h6⟩ := rnext_at b at_ hb hl c
    have hq := ev_uniq h1 h5
    simp only [Prod.mk.injEq] at hq
    obtain ⟨q1, q2, q3, rfl, rfl⟩ := hq
    have hs1 : ∀ R, Ev (fun k => if e = 0 then (if xs.length < 4398046511104 then rget.l0 k b (xs ++ [⟨t.f0, t.f1, t.f2⟩]) nx.toNat else none) else some ([], e)) R → Ev (fun k => rget.l0 k b xs at_) R := by
      intro R hR
      refine Ev.step (fun k => ?_) (Ev.bind (f := fun k (t : Int × Int × List Int × Int × Int) => (if t.2.2.2.1 = 0 then (if xs.length < 4398046511104 then (rget.l0 k b (xs ++ [(⟨t.1, t.2.1, t.2.2.1⟩ : S38)]) t.2.2.2.2.toNat) else (none)) else (some (([] : List (S38)), t.2.2.2.1)))) h1 hR)
      rw [rget.l0, if_pos c]
    have hs2 : ∀ R, Ev (fun k => if r.2.2.2.2 = 0 then (if xs.length < 4398046511104 then (cardexref11_Get.l0 k b (xs ++ [(⟨r.1, r.2.1, r.2.2.1⟩ : S38)]) r.2.2.2.1) else (none)) else (some (([] : List (S38)), r.2.2.2.2))) R → Ev (fun k => cardexref11_Get.l0 k b xs at_) R := by
      intro R hR
      refine Ev.step (fun k => ?_) (Ev.bind (f := fun k (r : Int × Int × List Int × Int × Int) => if r.2.2.2.2 = 0 then (if xs.length < 4398046511104 then (cardexref11_Get.l0 k b (xs ++ [(⟨r.1, r.2.1, r.2.2.1⟩ : S38)]) r.2.2.2.1) else (none)) else (some (([] : List (S38)), r.2.2.2.2))) h2 hR)
      rw [cardexref11_Get.l0, if_pos (by omega)]
    by_cases c2 : e = 0
    · rcases h6 with ⟨_, bs, rest, ht, hdr, hnx⟩ | ⟨h, _⟩
      · have hbs := ht.pos
        have hlen := congrArg List.length hdr
        simp at hlen
        obtain rfl := h4 c2
        obtain ⟨R, hR1, hR2⟩ := ih nx.toNat (xs ++ [t]) (by omega) (by omega) (by simp; omega)
        refine ⟨R, hs1 R (Ev.congr (fun k => ?_) hR1), hs2 R (Ev.congr (fun k => ?_) hR2)⟩
        · rw [if_pos c2, if_pos (by omega)]
        · rw [if_pos rfl, if_pos (by omega), show ((nx.toNat : Nat) : Int) = nx from by omega]
      · exact absurd c2 h
    · exact ⟨([], e), hs1 _ (Ev.congr (fun k => if_neg c2) (Ev.now _)), hs2 _ (Ev.congr (fun k => by rw [h3, if_neg c2]) (Ev.now _))⟩
theorem same_head (l : List Int) (hb : Byt l) : cardexref00_Same.f l [3, 1, 106, 0] = some ((strOfNums l).toList == [3, 1, 106, 0]) := by
  have h0 : (strOfNums [3, 1, 106, 0]).toList = [3, 1, 106, 0] := by simp [strOfNums]
  rw [cardexref00_Same.f, h0]
theorem gets_eq (b : List Int) (hb : Byt b) : ∃ r : List S38 × Int, Ev (fun k => token_Get.f k b) r ∧ Ev (fun k => cardexref11_Get.f k b) r := by
  by_cases c1 : (b.length : Int) > 16384
  · exact ⟨_, Ev.congr (fun k => by rw [token_Get.f, if_pos c1]) (Ev.now _), Ev.congr (fun k => by rw [cardexref11_Get.f, if_pos c1]) (Ev.now _)⟩
  by_cases c2 : (b.length : Int) < 4
  · exact ⟨_, Ev.congr (fun k => by rw [token_Get.f, if_neg c1, if_pos c2]) (Ev.now _), Ev.congr (fun k => by rw [cardexref11_Get.f, if_neg c1, if_pos c2]) (Ev.now _)⟩
  have hs := same_head (b.take 4) (byt_take hb 4)
  by_cases c3 : ((strOfNums (b.take 4)).toList == [3, 1, 106, 0]) = true
  · obtain ⟨R, h1, h2⟩ := gets_l0 b hb (by omega) b.length 4 [] (by omega) (by omega) (by simp)
    refine ⟨R, Ev.congr (fun k => by rw [token_Get.f, if_neg c1, if_neg c2, if_pos c3]) h1, Ev.congr (fun k => ?_) h2⟩
    rw [cardexref11_Get.f, if_neg c1, if_neg c2, if_pos (by omega), hs, Option.bind_some, if_pos c3]
    rfl
  · refine ⟨_, Ev.congr (fun k => by rw [token_Get.f, if_neg c1, if_neg c2, if_neg c3]) (Ev.now _), Ev.congr (fun k => ?_) (Ev.now _)⟩
    rw [cardexref11_Get.f, if_neg c1, if_neg c2, if_pos (by omega), hs, Option.bind_some, if_neg c3]
/-- What TokenGets wants of any bytes. -/
theorem gets (b : List Int) (hb : Byt b) : ∃ (k : Nat) (r : List S38) (e : Int), token_Get.f k b = some (r, e) ∧ cardexref11_Get.f k b = some (r, e) ∧ r.length ≤ 16384 := by
  obtain ⟨⟨r, e⟩, h1, h2⟩ := gets_eq b hb
  have hlen : r.length ≤ 16384 := by
    obtain ⟨r', e', h3, h4⟩ := get_of b hb
    have hq := ev_uniq h1 h3
    simp only [Prod.mk.injEq] at hq
    obtain ⟨rfl, rfl⟩ := hq
    rcases h4 with ⟨_, l, h5, h7, h6⟩ | ⟨_, h5⟩
    · have := h6.len
      rw [h5] at h7
      simp at h7
      omega
    · rw [h5]
      simp
  obtain ⟨K1, h1⟩ := h1
  obtain ⟨K2, h2⟩ := h2
  exact ⟨K1 + K2, r, e, h1 _ (by omega), h2 _ (by omega), hlen⟩
end Go.Proofs.Ytjcpnfmbdbeinaa.RPlain
