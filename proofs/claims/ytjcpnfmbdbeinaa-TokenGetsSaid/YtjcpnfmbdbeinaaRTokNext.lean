/- The plain law of tokens: the token at a place. Conditions: bytes are bytes, lengths are Go's. -/
import Derived.Test.YtjcpnfmbdbeinaaRTokPlain
namespace Go.Proofs.Ytjcpnfmbdbeinaa.RPlain
open Go.RowKit Go.Proofs.Ytjcpnfmbdbeinaa.R Go.Proofs.YtjcpnfmbdbeinaaW.PrintWords Go.Proofs.YtjcpnfmbdbeinaaW.PrintLast
set_option linter.unusedVariables false
set_option linter.unusedSimpArgs false

/-- No token at the front. -/
def NoTok (l : List Int) : Prop := ∀ t bs rest, Tok t bs → l ≠ bs ++ rest
/-- The beginning of a token's bytes. -/
def CutTok (l : List Int) : Prop := ∃ t bs more, Tok t bs ∧ l ++ more = bs
def Next (b : List Int) (at_ : Nat) (t : S38) (e : Int) (nx : Int) : Prop :=
  (e = 0 ∧ ∃ bs rest, Tok t bs ∧ b.drop at_ = bs ++ rest ∧ nx = ((at_ + bs.length : Nat) : Int)) ∨
  (e ≠ 0 ∧ NoTok (b.drop at_) ∧ (CutTok (b.drop at_) → e = 4))
theorem first_zero {p d r s : List Int} (hp : ∀ x ∈ p, x ≠ 0) (hd : ∀ x ∈ d, x ≠ 0) (h : p ++ 0 :: r = d ++ 0 :: s) : p = d ∧ r = s := by
  induction p generalizing d with
  | nil =>
    rcases d with _ | ⟨a, d⟩
    · simpa using h
    · simp at h
      exact absurd h.1.symm (hd a (List.mem_cons_self ..))
  | cons a p ih =>
    rcases d with _ | ⟨a', d⟩
    · simp at h
      exact absurd h.1 (hp a (List.mem_cons_self ..))
    · simp at h
      obtain ⟨h1, h2⟩ := ih (d := d) (fun x hx => hp x (List.mem_cons_of_mem _ hx)) (fun x hx => hd x (List.mem_cons_of_mem _ hx)) h.2
      exact ⟨by rw [h.1, h1], h2⟩
theorem IsText.nz {d : List Int} (h : IsText d) : ∀ x ∈ d, x ≠ 0 := by
  obtain ⟨m, h⟩ := h
  exact h.nz
/-- A token's bytes by their first. -/
theorem Tok.cases_ {t : S38} {bs : List Int} (h : Tok t bs) : ∃ c tl, bs = c :: tl ∧
    ((c = 0 ∧ ∃ n, tl = [n] ∧ t = ⟨1, n, []⟩) ∨ (c = 1 ∧ tl = [] ∧ t = ⟨4, 0, []⟩) ∨ (c = 3 ∧ ∃ d, tl = d ++ [0] ∧ t = ⟨5, 0, d⟩ ∧ bytesOk d ∧ IsText d) ∨
     (c = 195 ∧ ∃ d : List Int, tl = (d.length : Int) :: d ∧ t = ⟨6, 0, d⟩ ∧ bytesOk d) ∨ (5 ≤ c ∧ c ≤ 63 ∧ tl = [] ∧ t = ⟨3, c, []⟩) ∨ (69 ≤ c ∧ c ≤ 127 ∧ tl = [] ∧ t = ⟨2, c - 64, []⟩)) := by
  cases h with
  | page n h => exact ⟨0, [n], rfl, .inl ⟨rfl, n, rfl, rfl⟩⟩
  | stop => exact ⟨1, [], rfl, .inr (.inl ⟨rfl, rfl, rfl⟩)⟩
  | empty n h => exact ⟨n, [], rfl, .inr (.inr (.inr (.inr (.inl ⟨h.1, h.2, rfl, rfl⟩))))⟩
  | open_ n h => exact ⟨n + 64, [], rfl, .inr (.inr (.inr (.inr (.inr ⟨by omega, by omega, rfl, by congr 1; omega⟩))))⟩
  | text d h ht hb => exact ⟨3, d ++ [0], rfl, .inr (.inr (.inl ⟨rfl, d, rfl, rfl, h, ht⟩))⟩
  | opq d h hb => exact ⟨195, (d.length : Int) :: d, rfl, .inr (.inr (.inr (.inl ⟨rfl, d, rfl, rfl, h⟩)))⟩
open Classical in
theorem rnext_at (b : List Int) (at_ : Nat) (hb : Byt b) (hl : b.length ≤ 16384) (ha : at_ < b.length) :
    ∃ (t : S38) (e nx : Int), Ev (fun k => rnext k b at_) (t.f0, t.f1, t.f2, e, nx) ∧ Next b at_ t e nx := by
  obtain ⟨c, tl, hdr⟩ : ∃ c tl, b.drop at_ = c :: tl := by
    rcases h : b.drop at_ with _ | ⟨c, tl⟩
    · have := congrArg List.length h
      simp at this
      omega
    · exact ⟨c, tl, rfl⟩
  have hbd := byt_drop hb at_
  have hcb : 0 ≤ c ∧ c < 256 := hbd c (by rw [hdr]; exact List.mem_cons_self ..)
  have htl : tl.length + 1 = b.length - at_ := by
    have := congrArg List.length hdr
    simp at this
    omega
  have hdt : b.drop (at_ + 1) = tl := by rw [← List.drop_drop, hdr]; rfl
  have hg : b.getD at_ 0 = c := by
    have : (b.drop at_).getD 0 0 = c := by rw [hdr]; rfl
    rw [← this]
    simp [List.getD_eq_getElem?_getD]
  have hbt : Byt tl := by rw [← hdt]; exact byt_drop hb _
  have mk : ∀ {t : S38} {e nx : Int}, Ev (fun k => rnext k b at_) (t.f0, t.f1, t.f2, e, nx) → Next b at_ t e nx → ∃ (t : S38) (e nx : Int), Ev (fun k => rnext k b at_) (t.f0, t.f1, t.f2, e, nx) ∧ Next b at_ t e nx := fun h1 h2 => ⟨_, _, _, h1, h2⟩
  have hu : ∀ k, rnext k b at_ = if c = 0 then (if (at_ : Int) + 1 = b.length then some (0, 0, [], 4, (at_ : Int) + 1) else some (1, b.getD (at_ + 1) 0, [], 0, (at_ : Int) + 2))
      else if c = 1 then some (4, 0, [], 0, (at_ : Int) + 1)
      else if c = 3 then (rtext k b (at_ + 1)).bind fun t => some (5, 0, t.1, t.2.1, (t.2.2 : Int))
      else if c = 195 then (ropq k b (at_ + 1)).bind fun t => some (6, 0, t.1, t.2.1, t.2.2)
      else if 5 ≤ c ∧ c ≤ 63 then some (3, c, [], 0, (at_ : Int) + 1)
      else if 69 ≤ c ∧ c ≤ 127 then some (2, bits .andNot .u8 c 64, [], 0, (at_ : Int) + 1)
      else some (0, 0, [], 5, (at_ : Int) + 1) := by
    intro k
    unfold rnext
    dsimp only
    rw [hg]
  by_cases c0 : c = 0
  · subst c0
    rcases tl with _ | ⟨n, tl⟩
    · refine mk (t := ⟨0, 0, []⟩) (e := 4) (nx := (at_ : Int) + 1) (Ev.congr (fun k => (hu k).trans ?_) (Ev.now _)) (.inr ⟨by decide, ?_, fun _ => rfl⟩)
      · rw [if_pos rfl, if_pos (by simp at htl; omega)]
      · intro t bs rest ht he
        obtain ⟨c', tl', rfl, h⟩ := ht.cases_
        rw [hdr] at he
        simp at he
        obtain ⟨rfl, rfl, rfl⟩ := he
        simp at h
    · have hn : 0 ≤ n ∧ n < 256 := hbt n (List.mem_cons_self ..)
      have hg2 : b.getD (at_ + 1) 0 = n := by
        have : (b.drop (at_ + 1)).getD 0 0 = n := by rw [hdt]; rfl
        rw [← this]
        simp [List.getD_eq_getElem?_getD]
      refine mk (t := ⟨1, n, []⟩) (e := 0) (nx := (at_ : Int) + 2) (Ev.congr (fun k => (hu k).trans ?_) (Ev.now _)) (.inl ⟨rfl, [0, n], tl, .page n hn, hdr, by simp⟩)
      rw [if_pos rfl, if_neg (by simp at htl; omega), hg2]
  by_cases c1 : c = 1
  · subst c1
    refine mk (t := ⟨4, 0, []⟩) (e := 0) (nx := (at_ : Int) + 1) (Ev.congr (fun k => (hu k).trans ?_) (Ev.now _)) (.inl ⟨rfl, [1], tl, .stop, hdr, by simp⟩)
    rw [if_neg c0, if_pos rfl]
  by_cases c3 : c = 3
  · subst c3
    have hs : ∀ (d : List Int) (e : Int) (nx : Nat), Ev (fun k => rtext k b (at_ + 1)) (d, e, nx) → Ev (fun k => rnext k b at_) ((⟨5, 0, d⟩ : S38).f0, (⟨5, 0, d⟩ : S38).f1, (⟨5, 0, d⟩ : S38).f2, e, (nx : Int)) := by
      intro d e nx h
      refine Ev.congr (fun k => (hu k).trans ?_) (Ev.bind (f := fun _ (t : List Int × Int × Nat) => some ((5 : Int), (0 : Int), t.1, t.2.1, (t.2.2 : Int))) h (Ev.now _))
      rw [if_neg c0, if_neg c1, if_pos rfl]
    rcases index0 tl hbt with ⟨_, hz⟩ | ⟨p, r, hpr, hz, _⟩
    · have h := rtext_no b (at_ + 1) hb (by rw [hdt]; exact hz)
      rw [hdt] at h
      refine mk (hs _ _ _ (Ev.congr h (Ev.now _))) (.inr ⟨by split <;> decide, ?_, ?_⟩)
      · intro t bs rest ht he
        obtain ⟨c', tl', rfl, h⟩ := ht.cases_
        rw [hdr] at he
        simp at he
        obtain ⟨rfl, he⟩ := he
        rcases h with ⟨h, _⟩ | ⟨h, _⟩ | ⟨_, d, rfl, _⟩ | ⟨h, _⟩ | ⟨h, _⟩ | ⟨h, _⟩ <;> try omega
        exact absurd rfl (hz 0 (by rw [he]; simp))
      · rintro ⟨t, bs, more, ht, he⟩
        obtain ⟨c', tl', rfl, h⟩ := ht.cases_
        rw [hdr] at he
        simp at he
        obtain ⟨rfl, he⟩ := he
        rcases h with ⟨h, _⟩ | ⟨h, _⟩ | ⟨_, d, rfl, _, ho, _⟩ | ⟨h, _⟩ | ⟨h, _⟩ | ⟨h, _⟩ <;> try omega
        have hlen := congrArg List.length he
        simp at hlen
        have hm : more ≠ [] := by
          rintro rfl
          exact absurd rfl (hz 0 (by simp at he; rw [he]; simp))
        have := List.length_pos_iff.2 hm
        rw [if_neg (by have := ho.2; omega)]
    · have h := rtext_at b (at_ + 1) hb hl p r (by rw [hdt]; exact hpr) hz
      have hno : ∀ e : Int, e ≠ 0 → ¬ (bytesOk p ∧ IsText p) → Next b at_ ⟨5, 0, []⟩ e ((at_ + 1 : Nat) : Int) := by
        intro e he hn
        refine .inr ⟨he, ?_, ?_⟩
        · intro t bs rest ht he
          obtain ⟨c', tl', rfl, h⟩ := ht.cases_
          rw [hdr] at he
          simp at he
          obtain ⟨rfl, he⟩ := he
          rcases h with ⟨h, _⟩ | ⟨h, _⟩ | ⟨_, d, rfl, _, ho, htx⟩ | ⟨h, _⟩ | ⟨h, _⟩ | ⟨h, _⟩ <;> try omega
          rw [hpr] at he
          obtain ⟨rfl, _⟩ := first_zero hz htx.nz (by simpa using he)
          exact hn ⟨ho, htx⟩
        · rintro ⟨t, bs, more, ht, he⟩
          obtain ⟨c', tl', rfl, h⟩ := ht.cases_
          rw [hdr] at he
          simp at he
          obtain ⟨rfl, he⟩ := he
          rcases h with ⟨h, _⟩ | ⟨h, _⟩ | ⟨_, d, rfl, _, ho, htx⟩ | ⟨h, _⟩ | ⟨h, _⟩ | ⟨h, _⟩ <;> try omega
          rw [hpr] at he
          obtain ⟨rfl, _⟩ := first_zero hz htx.nz (by simpa using he)
          exact absurd ⟨ho, htx⟩ hn
      by_cases d1 : 64 < p.length
      · rw [if_pos d1] at h
        exact mk (hs _ _ _ h) (hno 3 (by decide) (fun hh => by have := hh.1.2; omega))
      rw [if_neg d1] at h
      by_cases d2 : p = []
      · rw [if_pos d2] at h
        exact mk (hs _ _ _ h) (hno 5 (by decide) (fun hh => by have := hh.1.1; rw [d2] at this; simp at this))
      rw [if_neg d2] at h
      by_cases d3 : IsText p
      · rw [if_pos d3] at h
        have hpb : Byt p := fun x hx => hbt x (by rw [hpr]; simp [hx])
        refine mk (hs _ _ _ h) (.inl ⟨rfl, 3 :: p ++ [0], r, .text p ⟨List.length_pos_iff.2 d2, by omega⟩ d3 hpb, by rw [hdr, hpr]; simp, by simp; omega⟩)
      · rw [if_neg d3] at h
        exact mk (hs _ _ _ h) (hno 12 (by decide) (fun hh => d3 hh.2))
  by_cases c195 : c = 195
  · subst c195
    obtain ⟨d, e, nx, hev, hc⟩ := ropq_at b (at_ + 1) hb hl (by omega)
    rw [hdt] at hc
    have hs : Ev (fun k => rnext k b at_) ((⟨6, 0, d⟩ : S38).f0, (⟨6, 0, d⟩ : S38).f1, (⟨6, 0, d⟩ : S38).f2, e, nx) := by
      refine Ev.congr (fun k => (hu k).trans ?_) (Ev.bind (f := fun _ (t : List Int × Int × Int) => some ((6 : Int), (0 : Int), t.1, t.2.1, t.2.2)) hev (Ev.now _))
      rw [if_neg c0, if_neg c1, if_neg c3, if_pos rfl]
    refine mk hs ?_
    rcases hc with ⟨he, hn, hcut⟩ | ⟨rfl, ho, hdb, hnx, t, ht⟩
    · refine .inr ⟨he, ?_, ?_⟩
      · intro t bs rest ht he'
        obtain ⟨c', tl', rfl, h⟩ := ht.cases_
        rw [hdr] at he'
        simp at he'
        obtain ⟨rfl, he'⟩ := he'
        rcases h with ⟨h, _⟩ | ⟨h, _⟩ | ⟨h, _⟩ | ⟨_, d', rfl, _, ho⟩ | ⟨h, _⟩ | ⟨h, _⟩ <;> try omega
        have := hcut d'.length (d' ++ rest) (by rw [he']; rfl) (by have := ho.1; omega) (by have := ho.2; omega)
        simp at this
        omega
      · rintro ⟨t, bs, more, ht, he'⟩
        obtain ⟨c', tl', rfl, h⟩ := ht.cases_
        rw [hdr] at he'
        simp at he'
        obtain ⟨rfl, he'⟩ := he'
        rcases h with ⟨h, _⟩ | ⟨h, _⟩ | ⟨h, _⟩ | ⟨_, d', rfl, _, ho⟩ | ⟨h, _⟩ | ⟨h, _⟩ <;> try omega
        rcases tl with _ | ⟨c2, tl⟩
        · exact hn rfl
        · simp at he'
          exact (hcut c2 tl rfl (by have := ho.1; omega) (by have := ho.2; omega)).2
    · exact .inl ⟨rfl, 195 :: (d.length : Int) :: d, t, .opq d ho hdb, by rw [hdr, ht]; simp, by rw [hnx]; simp; omega⟩
  by_cases c5 : 5 ≤ c ∧ c ≤ 63
  · refine mk (t := ⟨3, c, []⟩) (e := 0) (nx := (at_ : Int) + 1) (Ev.congr (fun k => (hu k).trans ?_) (Ev.now _)) (.inl ⟨rfl, [c], tl, .empty c c5, hdr, by simp⟩)
    rw [if_neg c0, if_neg c1, if_neg c3, if_neg c195, if_pos c5]
  by_cases c6 : 69 ≤ c ∧ c ≤ 127
  · refine mk (t := ⟨2, c - 64, []⟩) (e := 0) (nx := (at_ : Int) + 1) (Ev.congr (fun k => (hu k).trans ?_) (Ev.now _)) (.inl ⟨rfl, [c], tl, ?_, hdr, by simp⟩)
    · rw [if_neg c0, if_neg c1, if_neg c3, if_neg c195, if_neg c5, if_pos c6, bit_sub c c6]
    · have := Tok.open_ (c - 64) ⟨by omega, by omega⟩
      rwa [show c - 64 + 64 = c from by omega] at this
  refine mk (t := ⟨0, 0, []⟩) (e := 5) (nx := (at_ : Int) + 1) (Ev.congr (fun k => (hu k).trans ?_) (Ev.now _)) (.inr ⟨by decide, ?_, ?_⟩)
  · rw [if_neg c0, if_neg c1, if_neg c3, if_neg c195, if_neg c5, if_neg c6]
  · intro t bs rest ht he
    obtain ⟨c', tl', rfl, h⟩ := ht.cases_
    rw [hdr] at he
    simp at he
    obtain ⟨rfl, he⟩ := he
    rcases h with ⟨h, _⟩ | ⟨h, _⟩ | ⟨h, _⟩ | ⟨h, _⟩ | ⟨h, h', _⟩ | ⟨h, h', _⟩ <;> omega
  · rintro ⟨t, bs, more, ht, he⟩
    obtain ⟨c', tl', rfl, h⟩ := ht.cases_
    rw [hdr] at he
    simp at he
    obtain ⟨rfl, he⟩ := he
    rcases h with ⟨h, _⟩ | ⟨h, _⟩ | ⟨h, _⟩ | ⟨h, _⟩ | ⟨h, h', _⟩ | ⟨h, h', _⟩ <;> omega
end Go.Proofs.Ytjcpnfmbdbeinaa.RPlain
