/- The plain law of tokens: lay, lists of tokens, Put and Get. Conditions: bytes are bytes, lengths are Go's. -/
import Derived.Test.YtjcpnfmbdbeinaaRTokMay
namespace Go.Proofs.Ytjcpnfmbdbeinaa.RPlain
open Go.RowKit Go.Proofs.Ytjcpnfmbdbeinaa.R Go.Proofs.YtjcpnfmbdbeinaaW.PrintWords Go.Proofs.YtjcpnfmbdbeinaaW.PrintLast
set_option linter.unusedVariables false
set_option linter.unusedSimpArgs false

theorem mark_small (n : Nat) (h : n ≤ 64) : Ev (fun k => num_Mark.f k (n : Int)) [(n : Int)] := by
  have e1 : bits .and .u32 (n : Int) 127 = (n : Int) % 128 := bits_mask .u32 32 (by decide) wraps_u32 7 (by decide) n (by omega) (by omega)
  refine Ev.step (g := fun k => num_Mark.f k (n : Int)) (f := fun _ => some [(n : Int)]) (fun k => ?_) (Ev.now _)
  rw [num_Mark.f, e1, num_Mark.l0, if_neg (by omega)]
  congr 2
  omega
theorem or64 (n : Int) (h : 5 ≤ n ∧ n ≤ 63) : bits .or .u8 n 64 = n + 64 := by
  have : ∀ m : Fin 64, bits .or .u8 ((m : Nat) : Int) 64 = ((m : Nat) : Int) + 64 := by decide +kernel
  have h1 := this ⟨n.toNat, by omega⟩
  simp only [Int.toNat_of_nonneg (show 0 ≤ n by omega)] at h1
  exact h1
theorem lay_tok {t : S38} {bs : List Int} (h : Tok t bs) (l : List Int) (hl : l.length + bs.length ≤ 1000000) : Ev (fun k => token_lay.f k l t.f0 t.f1 t.f2) (l ++ bs) := by
  cases h with
  | page n h =>
    refine Ev.congr (fun k => ?_) (Ev.now _)
    simp only [token_lay.f, Option.bind_some]
    rw [if_pos trivial, if_pos (by simp at hl ⊢; omega)]
  | stop =>
    refine Ev.congr (fun k => ?_) (Ev.now _)
    simp only [token_lay.f, Option.bind_some]
    rw [if_neg (by decide), if_pos trivial, if_pos (by simp at hl ⊢; omega)]
  | empty n h =>
    refine Ev.congr (fun k => ?_) (Ev.now _)
    simp only [token_lay.f, Option.bind_some]
    rw [if_neg (by decide), if_neg (by decide), if_neg (by decide), if_pos trivial, if_pos (by simp at hl ⊢; omega)]
  | open_ n h =>
    refine Ev.congr (fun k => ?_) (Ev.now _)
    simp only [token_lay.f, Option.bind_some, or64 n h]
    rw [if_neg (by decide), if_neg (by decide), if_pos trivial, if_pos (by simp at hl ⊢; omega)]
  | text d h ht hb =>
    refine Ev.congr (fun k => ?_) (Ev.now _)
    simp only [token_lay.f, Option.bind_some]
    simp at hl
    rw [if_neg (by decide), if_neg (by decide), if_neg (by decide), if_neg (by decide), if_pos trivial, if_pos (by simp; omega), if_pos (by simp; omega), if_pos (by simp; omega)]
    simp
  | opq d h hb =>
    have hm := mark_small d.length h.2
    have e1 : ((d.length : Int)) % 4294967296 = d.length := by have := h.2; omega
    simp at hl
    obtain ⟨K, hm⟩ := hm
    refine ⟨K, fun k hk => ?_⟩
    simp only [token_lay.f, Option.bind_some, e1, hm k hk]
    rw [if_neg (by decide), if_neg (by decide), if_neg (by decide), if_neg (by decide), if_neg (by decide), if_pos (by simp; omega), if_pos (by simp; omega), if_pos (by simp; omega)]
    simp

/-- Tokens behind each other, and their bytes. -/
inductive Toks : List S38 → List Int → Prop
  | nil : Toks [] []
  | cons (t : S38) (bs : List Int) (ts : List S38) (l : List Int) (h : Tok t bs) (hs : Toks ts l) : Toks (t :: ts) (bs ++ l)
theorem Tok.pos {t : S38} {bs : List Int} (h : Tok t bs) : 0 < bs.length := by
  obtain ⟨c, tl, rfl, _⟩ := h.cases_
  simp
theorem Toks.len {ts : List S38} {l : List Int} (h : Toks ts l) : ts.length ≤ l.length := by
  induction h with
  | nil => simp
  | cons t bs ts l h _ ih => have := h.pos; simp; omega
/-- Tokens of bytes: all of them, or an error and none. -/
theorem rget_at (b : List Int) (hb : Byt b) (hl : b.length ≤ 16384) : ∀ (d at_ : Nat) (xs : List S38), at_ + d = b.length → xs.length ≤ at_ →
    ∃ (r : List S38) (e : Int), Ev (fun k => rget.l0 k b xs at_) (r, e) ∧ ((e = 0 ∧ ∃ ts, r = xs ++ ts ∧ Toks ts (b.drop at_)) ∨ (e ≠ 0 ∧ r = [])) := by
  intro d
  induction d using Nat.strongRecOn with
  | _ d ih =>
    intro at_ xs hd hxs
    by_cases h0 : at_ < b.length
    · obtain ⟨t, e, nx, hev, hn⟩ := rnext_at b at_ hb hl h0
      have hstep : ∀ k, rget.l0 (k + 1) b xs at_ = (rnext k b at_).bind fun t => (if t.2.2.2.1 = 0 then (if xs.length < 4398046511104 then (rget.l0 k b (xs ++ [(⟨t.1, t.2.1, t.2.2.1⟩ : S38)]) t.2.2.2.2.toNat) else (none)) else (some (([] : List (S38)), t.2.2.2.1))) := fun k => by
        rw [rget.l0, if_pos h0]
      rcases hn with ⟨rfl, bs, rest, ht, hdr, rfl⟩ | ⟨he, _, _⟩
      · have hlen := congrArg List.length hdr
        simp at hlen
        have hp := ht.pos
        obtain ⟨r, e, hev2, hc⟩ := ih (d - bs.length) (by omega) (at_ + bs.length) (xs ++ [t]) (by omega) (by simp; omega)
        refine ⟨r, e, Ev.step hstep (Ev.bind hev (Ev.congr (fun k => ?_) hev2)), ?_⟩
        · dsimp only
          rw [if_pos rfl, if_pos (by omega), Int.toNat_natCast]
        · have hdd : b.drop (at_ + bs.length) = rest := by rw [← List.drop_drop, hdr]; simp
          rcases hc with ⟨he, ts, hr, hts⟩ | hc
          · refine .inl ⟨he, t :: ts, by rw [hr]; simp, ?_⟩
            rw [hdr]
            rw [hdd] at hts
            exact .cons t bs ts rest ht hts
          · exact .inr hc
      · exact ⟨[], e, Ev.step hstep (Ev.bind hev (Ev.congr (fun k => if_neg he) (Ev.now _))), .inr ⟨he, rfl⟩⟩
    · refine ⟨xs, 0, Ev.step (fun k => ?_) (Ev.now _), .inl ⟨rfl, [], by simp, ?_⟩⟩
      · rw [rget.l0, if_neg h0]
      · rw [List.drop_eq_nil_of_le (by omega)]
        exact .nil
end Go.Proofs.Ytjcpnfmbdbeinaa.RPlain
