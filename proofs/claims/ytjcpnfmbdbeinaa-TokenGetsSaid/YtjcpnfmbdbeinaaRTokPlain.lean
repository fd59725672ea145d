/- The plain law of tokens: what token.May, lay, Put and Get compute. Conditions: bytes are bytes, lengths are Go's. -/
import Derived.Test.YtjcpnfmbdbeinaaRUtfText
import Derived.Laws.BitsLemmas
namespace Go.Proofs.Ytjcpnfmbdbeinaa.RPlain
open Go.RowKit Go.Proofs.Ytjcpnfmbdbeinaa.R Go.Proofs.YtjcpnfmbdbeinaaW.PrintWords Go.Proofs.YtjcpnfmbdbeinaaW.PrintLast
set_option linter.unusedVariables false
set_option linter.unusedSimpArgs false

/-! ### a mark -/
theorem and127 {x : Int} (h₀ : 0 ≤ x) (h₁ : x < 256) : bits .and .u8 x 127 = x % 128 := bits_mask .u8 8 (by decide) wraps_u8 7 (by decide) x h₀ h₁
theorem wraps_u32 (n : Int) (h₀ : 0 ≤ n) (h₁ : n < 2 ^ 32) : IntKind.u32.wrap n = n := by rw [IntKind.wrap_u32]; omega
theorem or_mark {x y : Int} (h₀ : 0 ≤ x) (h₁ : x < 33554432) (hy : 0 ≤ y) (hy1 : y < 128) : bits .or .u32 ((x * 128) % 4294967296) (y % 4294967296) = x * 128 + y := by
  rw [Int.emod_eq_of_lt (by omega) (by omega), Int.emod_eq_of_lt hy (by omega)]
  exact bits_join .u32 32 (by decide) wraps_u32 7 (x * 128) y (by omega) (by omega) (by omega) hy hy1 (by omega)
theorem rd_nat (ys : List Int) (i : Nat) : rd ys (i : Int) = ys.getD i 0 := by simp [rd]
theorem byt_getD {l : List Int} (h : Byt l) (i : Nat) (hi : i < l.length) : 0 ≤ l.getD i 0 ∧ l.getD i 0 < 256 := by
  rw [List.getD_eq_getElem?_getD, List.getElem?_eq_getElem hi]
  exact h _ (List.getElem_mem hi)
/-- Behind the first byte: whatever is told is an error, or a mark of more than a byte. -/
theorem gm_more (at_ : Nat) (ys : List Int) (hb : Byt ys) (hl : ys.length ≤ 16384) (ha : at_ ≤ 16384) : ∀ (d i : Nat) (x : Int), i + d = ys.length → 0 < i → 1 ≤ x → x < 4294967296 →
    ∃ n nx e : Int, Ev (fun k => num_GetMark.l0 k at_ x ys ys.length i) (n, nx, e) ∧ (e = 0 → 128 ≤ n ∧ n < 4294967296 ∧ nx ≤ at_ + ys.length ∧ 0 ≤ nx) := by
  intro d
  induction d with
  | zero =>
    intro i x hi h0 h1 h2
    refine ⟨0, 0, 4, Ev.step (fun k => ?_) (Ev.now _), by omega⟩
    rw [num_GetMark.l0, if_neg (by omega)]
  | succ d ih =>
    intro i x hi h0 h1 h2
    have hc := byt_getD hb i (by omega)
    have hstep : ∀ k, num_GetMark.l0 (k + 1) at_ x ys ys.length i = num_GetMark.j2 k at_ x i (ys.getD i 0) ys ys.length i (decide (x / 33554432 > 0)) := by
      intro k
      rw [num_GetMark.l0, if_pos (by omega), if_pos (by omega), if_pos (by omega), if_neg (by omega), rd_nat]
    by_cases hx : x / 33554432 > 0
    · refine ⟨0, 0, 5, Ev.step hstep (Ev.step (fun k => ?_) (Ev.now _)), by omega⟩
      rw [num_GetMark.j2, if_pos (by simpa using hx)]
    have hx' : x < 33554432 := by omega
    have hdf : decide (x / 33554432 > 0) = false := decide_eq_false hx
    have e1 : bits .or .u32 ((x * 128) % 4294967296) ((bits .and .u8 (ys.getD i 0) 127) % 4294967296) = x * 128 + ys.getD i 0 % 128 := by
      rw [and127 hc.1 hc.2]
      exact or_mark (by omega) hx' (by omega) (by omega)
    by_cases hs : ys.getD i 0 < 128
    · refine ⟨x * 128 + ys.getD i 0 % 128, (at_ : Int) + i + 1, 0, Ev.step hstep (Ev.step (fun k => ?_) (Ev.now _)), fun _ => ⟨by omega, by omega, by omega, by omega⟩⟩
      rw [num_GetMark.j2, hdf, if_neg (by decide), if_pos hs, e1, w64 (n := (at_ : Int) + i) (by omega) (by omega), w64 (by omega) (by omega)]
    · obtain ⟨n, nx, e, hev, hp⟩ := ih (i + 1) (x * 128 + ys.getD i 0 % 128) (by omega) (by omega) (by omega) (by omega)
      refine ⟨n, nx, e, Ev.step hstep (Ev.step (fun k => ?_) hev), hp⟩
      rw [num_GetMark.j2, hdf, if_neg (by decide), if_neg hs, e1, w64 (n := (i : Int) + 1) (by omega) (by omega)]
      simp
/-- A mark at a place: none behind the end; a byte under 128 is itself; 128 is refused; else an error, or more than 127. -/
theorem gm (b : List Int) (at_ : Nat) (hb : Byt b) (hl : b.length ≤ 16384) (ha : at_ ≤ b.length) :
    ∃ n nx e : Int, Ev (fun k => num_GetMark.f k b at_) (n, nx, e) ∧
      ((b.drop at_ = [] ∧ e = 4) ∨ (∃ c t, b.drop at_ = c :: t ∧ c < 128 ∧ n = c ∧ nx = at_ + 1 ∧ e = 0) ∨
       (∃ c t, b.drop at_ = c :: t ∧ 128 ≤ c ∧ (e = 0 → 128 ≤ n ∧ n < 4294967296 ∧ nx ≤ b.length ∧ 0 ≤ nx))) := by
  have hf : ∀ k, num_GetMark.f (k + 1) b at_ = num_GetMark.l0 k at_ 0 (b.drop at_) (b.drop at_).length 0 := by
    intro k
    rw [num_GetMark.f, if_neg (by omega), num_GetMark.j0]
    rw [show decide ((at_ : Int) > (b.length : Int)) = false from decide_eq_false (by omega), if_neg (by decide), if_pos (by omega), if_pos (by omega)]
    simp
  have hbd : Byt (b.drop at_) := byt_drop hb at_
  have hld : (b.drop at_).length = b.length - at_ := List.length_drop ..
  generalize hy : b.drop at_ = ys at hf hbd hld
  rcases ys with _ | ⟨c, t⟩
  · refine ⟨0, 0, 4, Ev.step hf (Ev.step (fun k => ?_) (Ev.now _)), .inl ⟨rfl, rfl⟩⟩
    rw [num_GetMark.l0, if_neg (by simp)]
  have hc : 0 ≤ c ∧ c < 256 := hbd c (List.mem_cons_self ..)
  have hr0 : rd (c :: t) 0 = c := by simp [rd]
  have hstep : ∀ k, num_GetMark.l0 (k + 1) at_ 0 (c :: t) (c :: t).length 0 = if c = 128 then num_GetMark.j2 k at_ 0 0 c (c :: t) (c :: t).length 0 true else num_GetMark.j2 k at_ 0 0 c (c :: t) (c :: t).length 0 false := by
    intro k
    rw [num_GetMark.l0, if_pos (by simp), if_pos (by omega), if_pos (by simp), if_pos rfl, hr0]
    rfl
  by_cases h8 : c = 128
  · refine ⟨0, 0, 5, Ev.step hf (Ev.step (fun k => (hstep k).trans (if_pos h8)) (Ev.step (fun k => ?_) (Ev.now _))), .inr (.inr ⟨c, t, rfl, by omega, by omega⟩)⟩
    rw [num_GetMark.j2, if_pos rfl]
  have e1 : bits .or .u32 ((0 * 128) % 4294967296) ((bits .and .u8 c 127) % 4294967296) = c % 128 := by
    rw [and127 hc.1 hc.2]
    have := or_mark (x := 0) (y := c % 128) (by omega) (by omega) (by omega) (by omega)
    simpa using this
  by_cases hs : c < 128
  · refine ⟨c, at_ + 1, 0, Ev.step hf (Ev.step (fun k => (hstep k).trans (if_neg h8)) (Ev.step (fun k => ?_) (Ev.now _))), .inr (.inl ⟨c, t, rfl, hs, rfl, rfl, rfl⟩)⟩
    rw [num_GetMark.j2, if_neg (by decide), if_pos hs, e1, w64 (n := (at_ : Int) + 0) (by omega) (by omega), w64 (by omega) (by omega)]
    simp
    omega
  · obtain ⟨n, nx, e, hev, hp⟩ := gm_more at_ (c :: t) hbd (by omega) (by omega) t.length 1 (c % 128) (by simp; omega) (by omega) (by omega) (by omega)
    refine ⟨n, nx, e, Ev.step hf (Ev.step (fun k => (hstep k).trans (if_neg h8)) (Ev.step (fun k => ?_) hev)), .inr (.inr ⟨c, t, rfl, by omega, fun h => by have := hp h; omega⟩)⟩
    rw [num_GetMark.j2, if_neg (by decide), if_neg hs, e1, w64 (n := (0 : Int) + 1) (by omega) (by omega)]
    simp

/-! ### the first place of a byte -/
theorem byteOf_byt {x : Int} (h : 0 ≤ x ∧ x < 256) : ((x.toNat.toUInt8).toNat : Int) = x := by
  rw [Nat.toUInt8_eq, UInt8.toNat_ofNat']
  omega
/-- No zero ahead of the place told; a zero there. -/
theorem index0 : ∀ (l : List Int), Byt l → (Lib.indexByte (Lib.bytesOf l) 0 = -1 ∧ ∀ x ∈ l, x ≠ 0) ∨ ∃ (p r : List Int), l = p ++ 0 :: r ∧ (∀ x ∈ p, x ≠ 0) ∧ Lib.indexByte (Lib.bytesOf l) 0 = p.length
  | [], _ => .inl ⟨rfl, fun x hx => by cases hx⟩
  | a :: l, hb => by
    have ha : 0 ≤ a ∧ a < 256 := hb a (List.mem_cons_self ..)
    have hl : Byt l := fun x hx => hb x (List.mem_cons_of_mem _ hx)
    have e1 : Lib.bytesOf (a :: l) = a.toNat.toUInt8 :: Lib.bytesOf l := rfl
    rw [e1]
    by_cases h0 : a = 0
    · subst h0
      exact .inr ⟨[], l, rfl, (fun x hx => by cases hx), rfl⟩
    · have hne : (a.toNat.toUInt8 == 0) = false := by
        rw [beq_eq_false_iff_ne]
        intro h
        have := byteOf_byt ha
        rw [h] at this
        simp at this
        omega
      rcases index0 l hl with ⟨h1, h2⟩ | ⟨p, r, h1, h2, h3⟩
      · refine .inl ⟨?_, fun x hx => ?_⟩
        · rw [Lib.indexByte, hne, h1]
          rfl
        · rcases List.mem_cons.1 hx with rfl | hx
          · exact h0
          · exact h2 x hx
      · refine .inr ⟨a :: p, r, by rw [h1]; rfl, fun x hx => ?_, ?_⟩
        · rcases List.mem_cons.1 hx with rfl | hx
          · exact h0
          · exact h2 x hx
        · rw [Lib.indexByte, hne, h3, if_neg (by decide), if_neg (by rw [beq_iff_eq]; omega)]
          simp

/-! ### the data of a text, as it is read -/
theorem index_eq {l p r : List Int} (hb : Byt l) (h : l = p ++ 0 :: r) (hp : ∀ x ∈ p, x ≠ 0) : Lib.indexByte (Lib.bytesOf l) 0 = p.length := by
  rcases index0 l hb with ⟨_, h2⟩ | ⟨p', r', h1, h2, h3⟩
  · exact absurd rfl (h2 0 (by rw [h]; simp))
  · rw [h3]
    have : p' = p := by
      rw [h] at h1
      clear h h3 hb
      induction p generalizing p' with
      | nil =>
        rcases p' with _ | ⟨a, p'⟩
        · rfl
        · simp at h1
          exact absurd h1.1.symm (h2 a (List.mem_cons_self ..))
      | cons a p ih =>
        rcases p' with _ | ⟨a', p'⟩
        · simp at h1
          exact absurd h1.1 (hp a (List.mem_cons_self ..))
        · simp at h1
          rw [h1.1, ih (fun x hx => hp x (List.mem_cons_of_mem _ hx)) p' (by simpa using h1.2) (fun x hx => h2 x (List.mem_cons_of_mem _ hx))]
    rw [this]
theorem index_no {l : List Int} (hb : Byt l) (hp : ∀ x ∈ l, x ≠ 0) : Lib.indexByte (Lib.bytesOf l) 0 = -1 := by
  rcases index0 l hb with ⟨h, _⟩ | ⟨p', r', h1, h2, h3⟩
  · exact h
  · exact absurd rfl (hp 0 (by rw [h1]; simp))
theorem rtext_no (b : List Int) (at_ : Nat) (hb : Byt b) (hz : ∀ x ∈ b.drop at_, x ≠ 0) : ∀ k, rtext k b at_ = some ([], if 64 < (b.drop at_).length then 3 else 4, at_) := by
  intro k
  unfold rtext
  dsimp only
  rw [index_no (byt_drop hb at_) hz, if_neg (by decide)]
  by_cases h : 64 < (b.drop at_).length
  · rw [if_pos ⟨by decide, by omega⟩, if_pos h]
  · rw [if_neg (by omega), if_pos (by decide), if_neg h]
open Classical in
theorem rtext_at (b : List Int) (at_ : Nat) (hb : Byt b) (hl : b.length ≤ 16384) (p r : List Int) (h : b.drop at_ = p ++ 0 :: r) (hz : ∀ x ∈ p, x ≠ 0) :
    Ev (fun k => rtext k b at_) (if 64 < p.length then ([], 3, at_) else if p = [] then ([], 5, at_) else if IsText p then (p, 0, at_ + p.length + 1) else ([], 12, at_)) := by
  have hbd := byt_drop hb at_
  have hi := index_eq hbd h hz
  by_cases c1 : 64 < p.length
  · rw [if_pos c1]
    refine Ev.congr (fun k => ?_) (Ev.now _)
    unfold rtext
    dsimp only
    rw [hi, if_pos (by omega)]
  rw [if_neg c1]
  by_cases c2 : p = []
  · rw [if_pos c2]
    subst c2
    refine Ev.congr (fun k => ?_) (Ev.now _)
    unfold rtext
    dsimp only
    rw [hi, if_neg (by simp), if_neg (by simp), if_neg (by simp), if_pos (by simp)]
  rw [if_neg c2]
  have hp0 : 0 < p.length := List.length_pos_iff.2 c2
  have htk : (b.drop at_).take p.length = p := by rw [h]; simp
  have hpb : Byt p := by rw [← htk]; exact byt_take hbd _
  have hld : p.length ≤ b.length := by
    have := congrArg List.length h
    simp at this
    omega
  obtain ⟨v, hv, hev⟩ := utf_is p hpb (by omega)
  have hk : ∀ k, rtext k b at_ = (utf_Is.f k p).bind fun t => if t = true then some (p, 0, at_ + p.length + 1) else some ([], 12, at_) := by
    intro k
    unfold rtext
    dsimp only
    rw [hi, if_neg (by omega), if_neg (by omega), if_neg (by omega), if_neg (by omega), Int.toNat_natCast, htk]
  refine Ev.congr hk (Ev.bind hev ?_)
  rcases v with _ | _
  · have hnt : ¬ IsText p := fun h => by have := hv.2 h; cases this
    rw [if_neg hnt]
    exact Ev.congr (fun k => if_neg (by decide)) (Ev.now _)
  · have ht : IsText p := hv.1 rfl
    rw [if_pos ht]
    exact Ev.congr (fun k => if_pos rfl) (Ev.now _)
theorem Text.nz {l : List Int} {m : Nat} (h : Text l m) : ∀ x ∈ l, x ≠ 0 := by
  induction h with
  | nil => intro x hx; cases hx
  | cons v t m hv ht ih =>
    intro x hx
    rcases List.mem_append.1 hx with hx | hx
    · obtain ⟨h1, h2, h3⟩ := hv
      rcases enc_cases v with ⟨h, e⟩ | ⟨h, h', e⟩ | ⟨h, h', e⟩ | ⟨h, e⟩ <;> (rw [e] at hx; simp at hx; omega)
    · exact ih x hx

/-! ### tokens -/
def bytesOk (l : List Int) : Prop := 1 ≤ l.length ∧ l.length ≤ 64
/-- A token that may be, and its bytes. -/
inductive Tok : S38 → List Int → Prop
  | page (n : Int) (h : 0 ≤ n ∧ n < 256) : Tok ⟨1, n, []⟩ [0, n]
  | stop : Tok ⟨4, 0, []⟩ [1]
  | empty (n : Int) (h : 5 ≤ n ∧ n ≤ 63) : Tok ⟨3, n, []⟩ [n]
  | open_ (n : Int) (h : 5 ≤ n ∧ n ≤ 63) : Tok ⟨2, n, []⟩ [n + 64]
  | text (d : List Int) (h : bytesOk d) (ht : IsText d) (hb : Byt d) : Tok ⟨5, 0, d⟩ (3 :: d ++ [0])
  | opq (d : List Int) (h : bytesOk d) (hb : Byt d) : Tok ⟨6, 0, d⟩ (195 :: (d.length : Int) :: d)

theorem bit_sub (n : Int) (h : 69 ≤ n ∧ n ≤ 127) : bits .andNot .u8 n 64 = n - 64 := by
  have : ∀ m : Fin 128, 69 ≤ (m : Nat) → bits .andNot .u8 ((m : Nat) : Int) 64 = ((m : Nat) : Int) - 64 := by decide +kernel
  have h1 := this ⟨n.toNat, by omega⟩ (by simp; omega)
  simp only [Int.toNat_of_nonneg (show 0 ≤ n by omega)] at h1
  exact h1
/-- The opaque data at a place: refused, or those bytes. -/
theorem ropq_at (b : List Int) (at_ : Nat) (hb : Byt b) (hl : b.length ≤ 16384) (ha : at_ ≤ b.length) :
    ∃ d e nx, Ev (fun k => ropq k b at_) (d, e, nx) ∧
      ((e ≠ 0 ∧ (b.drop at_ = [] → e = 4) ∧ (∀ c t, b.drop at_ = c :: t → 1 ≤ c → c ≤ 64 → t.length < c ∧ e = 4)) ∨
       (e = 0 ∧ bytesOk d ∧ Byt d ∧ nx = at_ + 1 + d.length ∧ ∃ t, b.drop at_ = (d.length : Int) :: d ++ t)) := by
  obtain ⟨n, nx, er, hev, hc⟩ := gm b at_ hb hl ha
  have hld : (b.drop at_).length = b.length - at_ := List.length_drop ..
  have hbd := byt_drop hb at_
  by_cases c1 : er ≠ 0
  · refine ⟨[], er, at_, ?_, .inl ⟨c1, ?_, ?_⟩⟩
    · unfold ropq
      exact Ev.bind hev (Ev.congr (fun k => if_pos c1) (Ev.now _))
    · intro h0
      rcases hc with ⟨_, h⟩ | ⟨c, t, h, _⟩ | ⟨c, t, h, _⟩
      · exact h
      · rw [h0] at h; cases h
      · rw [h0] at h; cases h
    · intro c t h h1 h2
      rcases hc with ⟨h', _⟩ | ⟨c', t', h', _, _, _, h''⟩ | ⟨c', t', h', h'', _⟩
      · rw [h'] at h; cases h
      · exact absurd h'' c1
      · rw [h] at h'
        injection h' with h' _
        omega
  have he : er = 0 := by omega
  have hstep : ∀ r, Ev (fun k => if n > 64 then some ([], 3, (at_ : Int)) else if n = 0 then some ([], 5, (at_ : Int)) else if 0 ≤ n ∧ 0 ≤ nx ∧ nx ≤ b.length then (if n > (b.length : Int) - nx then some ([], 4, (at_ : Int)) else some ((b.drop nx.toNat).take n.toNat, 0, nx + n)) else none) r → Ev (fun k => ropq k b at_) r := by
    intro r hr
    unfold ropq
    refine Ev.bind hev (Ev.congr (fun k => ?_) hr)
    rw [if_neg c1]
  rcases hc with ⟨_, h⟩ | ⟨c, t, hdr, hc1, hn, hnx, _⟩ | ⟨c, t, hdr, hc1, h⟩
  · omega
  · have hcb : 0 ≤ c ∧ c < 256 := hbd c (by rw [hdr]; exact List.mem_cons_self ..)
    have htl : t.length + 1 = b.length - at_ := by rw [← hld, hdr]; simp
    have hdt : b.drop (at_ + 1) = t := by
      rw [← List.drop_drop, hdr]; rfl
    subst hn hnx
    by_cases c2 : n > 64
    · exact ⟨[], 3, at_, hstep _ (Ev.congr (fun k => if_pos c2) (Ev.now _)), .inl ⟨by decide, fun h0 => absurd (h0.symm.trans hdr) (by simp), fun c' t' h' h1 h2 => (by rw [hdr] at h'; injection h' with h' _; omega)⟩⟩
    by_cases c3 : n = 0
    · exact ⟨[], 5, at_, hstep _ (Ev.congr (fun k => by rw [if_neg c2, if_pos c3]) (Ev.now _)), .inl ⟨by decide, fun h0 => absurd (h0.symm.trans hdr) (by simp), fun c' t' h' h1 h2 => (by rw [hdr] at h'; injection h' with h' _; omega)⟩⟩
    by_cases c4 : n > (b.length : Int) - ((at_ : Int) + 1)
    · exact ⟨[], 4, at_, hstep _ (Ev.congr (fun k => by rw [if_neg c2, if_neg c3, if_pos ⟨by omega, by omega, by omega⟩, if_pos c4]) (Ev.now _)), .inl ⟨by decide, fun h0 => absurd (h0.symm.trans hdr) (by simp), fun c' t' h' h1 h2 => (by rw [hdr] at h'; injection h' with h' h''; subst h''; exact ⟨by omega, rfl⟩)⟩⟩
    · have e1 : ((at_ : Int) + 1).toNat = at_ + 1 := by omega
      have hlen : (t.take n.toNat).length = n.toNat := by simp; omega
      refine ⟨t.take n.toNat, 0, (at_ : Int) + 1 + n, hstep _ (Ev.congr (fun k => by rw [if_neg c2, if_neg c3, if_pos ⟨by omega, by omega, by omega⟩, if_neg c4, e1, hdt]) (Ev.now _)), .inr ⟨rfl, ⟨by omega, by omega⟩, ?_, by rw [hlen]; omega, t.drop n.toNat, ?_⟩⟩
      · rw [← hdt]
        exact byt_take (byt_drop hb _) _
      · rw [hdr, hlen, Int.toNat_of_nonneg (by omega)]
        simp
  · have hp := h he
    refine ⟨[], 3, at_, hstep _ (Ev.congr (fun k => if_pos (by omega)) (Ev.now _)), .inl ⟨by decide, fun h0 => absurd (h0.symm.trans hdr) (by simp), fun c' t' h' h1 h2 => (by rw [hdr] at h'; injection h' with h' _; omega)⟩⟩
end Go.Proofs.Ytjcpnfmbdbeinaa.RPlain
