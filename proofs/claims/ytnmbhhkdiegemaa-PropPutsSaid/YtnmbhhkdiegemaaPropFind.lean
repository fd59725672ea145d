/- The plain law of the document's Find. No conditions. -/
import Derived.Test.YtnmbhhkdiegemaaK2
namespace Go.Proofs.Ytnmbhhkdiegemaa.KFind
open Go.RowKit Go.Proofs.Ytnmbhhkdiegemaa.K Go.Proofs.Ytnmbhhkdiegemaa.H Go.Proofs.YtnmbhhkdiegemaaW.PrintWords Go.Proofs.YtnmbhhkdiegemaaW.PrintLast
set_option linter.unusedVariables false
set_option linter.unusedSimpArgs false

theorem w64 {n : Int} (h0 : -9223372036854775808 ≤ n) (h1 : n < 9223372036854775808) : wrap64 n = n := by unfold wrap64; omega
/-- A page's rows, in the document's list. -/
def flat1 (k : Int) (s : ByteArray) (T : TagL) : List S68 := T.map fun p => ⟨⟨k, p.1⟩, s, p.2⟩
def flat : List (Int × ByteArray × TagL) → List S68
  | [] => []
  | (k, s, T) :: L => flat1 k s T ++ flat L
theorem rows_eq : cardexref10_Rows.f = some (flat PG) := by unfold cardexref10_Rows.f; rfl
theorem rd68 {xs : List S68} {i : Nat} (h : i < xs.length) : rd_T68 xs (i : Int) = xs[i] := by
  unfold rd_T68
  rw [Int.toNat_natCast, List.getD_eq_getElem?_getD, List.getElem?_eq_getElem h]
  rfl
theorem flat_length : (flat PG).length = 48 := by decide

/-! ### the page of a number -/
def scanP (x : Int) : List S68 → ByteArray × Bool
  | [] => (⟨#[]⟩, false)
  | r :: l => if r.f0.f0 = x then (r.f1, true) else scanP x l
theorem scanP_flat (x : Int) : ∀ L : List (Int × ByteArray × TagL), (∀ p ∈ L, p.2.2 ≠ []) → scanP x (flat L) = ((pgAt x L).elim ⟨#[]⟩ (·.2.1), (pgAt x L).isSome)
  | [], _ => rfl
  | (k, s, T) :: L, h => by
    have hT : T ≠ [] := h _ (List.mem_cons_self)
    have ih := scanP_flat x L (fun p hp => h p (List.mem_cons_of_mem _ hp))
    unfold flat pgAt
    by_cases c : x = k
    · rw [if_pos c]
      obtain ⟨p, T', rfl⟩ := List.exists_cons_of_ne_nil hT
      simp [flat1, scanP, c]
    · rw [if_neg c]
      have : ∀ T : TagL, scanP x (flat1 k s T ++ flat L) = scanP x (flat L) := by
        intro T
        induction T with
        | nil => rfl
        | cons p T ih => simp only [flat1, List.map_cons, List.cons_append, scanP]; rw [if_neg (fun e => c e.symm)]; exact ih
      rw [this, ih]
      rcases pgAt x L with _ | ⟨i, s, T⟩ <;> rfl
theorem PG_full : ∀ p ∈ PG, p.2.2 ≠ [] := by decide
/-! ### the name of a tag -/
def scanN (p j : Int) : List S68 → ByteArray × Bool
  | [] => (⟨#[]⟩, false)
  | r :: l => if r.f0.f0 = p ∧ r.f0.f1 = j then (r.f2, true) else scanN p j l
theorem scanN_other (p j : Int) : ∀ L : List (Int × ByteArray × TagL), (∀ q ∈ L, q.1 ≠ p) → scanN p j (flat L) = (⟨#[]⟩, false)
  | [], _ => rfl
  | (k, s, T) :: L, h => by
    have ih := scanN_other p j L (fun q hq => h q (List.mem_cons_of_mem _ hq))
    have hk : k ≠ p := h _ (List.mem_cons_self)
    unfold flat
    have : ∀ T : TagL, scanN p j (flat1 k s T ++ flat L) = scanN p j (flat L) := by
      intro T
      induction T with
      | nil => rfl
      | cons q T ih => simp only [flat1, List.map_cons, List.cons_append, scanN]; rw [if_neg (fun e => hk e.1)]; exact ih
    rw [this, ih]
theorem scanN_page (p j : Int) (s : ByteArray) (rest : List S68) : ∀ T : TagL, scanN p j (flat1 p s T ++ rest) = (match tgAt j T with | some u => (u, true) | none => scanN p j rest)
  | [] => rfl
  | (k, u) :: T => by
    simp only [flat1, List.map_cons, List.cons_append, scanN, tgAt]
    by_cases c : j = k
    · rw [if_pos ⟨trivial, c.symm⟩, if_pos c]
    · rw [if_neg (fun e => c e.2.symm), if_neg c]
      exact scanN_page p j s rest T
theorem scanN_flat (p j : Int) : ∀ L : List (Int × ByteArray × TagL), (L.map (·.1)).Nodup → scanN p j (flat L) = (match pgAt p L with | some (_, _, T) => (tgNm j T, tgOk j T) | none => (⟨#[]⟩, false))
  | [], _ => rfl
  | (k, s, T) :: L, h => by
    simp only [List.map_cons, List.nodup_cons] at h
    have ih := scanN_flat p j L h.2
    unfold pgAt
    by_cases c : p = k
    · subst c
      rw [if_pos rfl]
      show scanN p j (flat1 p s T ++ flat L) = _
      rw [scanN_page, scanN_other p j L (fun q hq e => h.1 (List.mem_map.2 ⟨q, hq, e⟩))]
      show _ = ((tgAt j T).getD ⟨#[]⟩, (tgAt j T).isSome)
      cases tgAt j T <;> rfl
    · rw [if_neg c]
      show scanN p j (flat1 k s T ++ flat L) = _
      have : ∀ T : TagL, scanN p j (flat1 k s T ++ flat L) = scanN p j (flat L) := by
        intro T
        induction T with
        | nil => rfl
        | cons q T ih => simp only [flat1, List.map_cons, List.cons_append, scanN]; rw [if_neg (fun e => c e.1.symm)]; exact ih
      rw [this, ih]
      rcases pgAt p L with _ | ⟨i, s, T⟩ <;> rfl
theorem PG_nodup : (PG.map (·.1)).Nodup := by decide
/-! ### the tag of two names -/
def scanF (s t : ByteArray) : List S68 → Option (Int × Int)
  | [] => none
  | r :: l => if r.f1 = s ∧ r.f2 = t then some (r.f0.f0, r.f0.f1) else scanF s t l
theorem find_l0 (s t : ByteArray) (xs : List S68) (hx : xs.length ≤ 1000) : ∀ (k i : Nat), xs.length < k + i → i ≤ xs.length → cardexref10_Find.l0 k s t xs (i : Int) = some ((scanF s t (xs.drop i)).elim (0, 0, false) fun x => (x.1, x.2, true))
  | 0, i, h1, h2 => by omega
  | k + 1, i, h1, h2 => by
    unfold cardexref10_Find.l0
    by_cases h : i < xs.length
    · rw [if_pos (by omega), if_pos (by omega), rd68 h, List.drop_eq_getElem_cons h, scanF]
      have ih := find_l0 s t xs hx k (i + 1) (by omega) (by omega)
      have hw : wrap64 ((i : Int) + 1) = ((i + 1 : Nat) : Int) := by rw [w64 (by omega) (by omega)]; rfl
      by_cases c1 : xs[i].f1 = s
      · rw [if_pos (by rw [c1])]
        by_cases c2 : xs[i].f2 = t
        · rw [if_pos (by rw [c2]), if_pos ⟨c1, c2⟩]
          rfl
        · rw [if_neg (fun e => c2 (bytes_inj e)), if_neg (fun e => c2 e.2), hw, ih]
      · rw [if_neg (fun e => c1 (bytes_inj e)), if_neg (fun e => c1 e.1), hw, ih]
    · rw [if_neg (by omega), List.drop_eq_nil_of_le (by omega)]
      rfl
theorem scanF_page (s t : ByteArray) (k : Int) (s' : ByteArray) (rest : List S68) : ∀ T : TagL, scanF s t (flat1 k s' T ++ rest) = if s' = s then (T.find? (fun x => x.2 = t)).elim (scanF s t rest) (fun x => some (k, x.1)) else scanF s t rest
  | [] => by simp [flat1]
  | (j, u) :: T => by
    have ih := scanF_page s t k s' rest T
    simp only [flat1, List.map_cons, List.cons_append, scanF]
    simp only [flat1] at ih
    by_cases c : s' = s
    · rw [if_pos c] at ih ⊢
      by_cases c2 : u = t
      · rw [if_pos ⟨c, c2⟩, List.find?_cons]
        simp [c2]
      · rw [if_neg (fun e => c2 e.2), ih, List.find?_cons]
        simp [c2]
    · rw [if_neg c] at ih ⊢
      rw [if_neg (fun e => c e.1), ih]
theorem findSome_cons {α β : Type} (f : α → Option β) (a : α) (l : List α) : (a :: l).findSome? f = (f a).elim (l.findSome? f) some := by
  rw [List.findSome?_cons]
  cases f a <;> rfl
theorem scanF_flat (s t : ByteArray) : ∀ L : List (Int × ByteArray × TagL), scanF s t (flat L) = L.findSome? fun p => if p.2.1 = s then (p.2.2.find? fun x => x.2 = t).map fun x => (p.1, x.1) else none
  | [] => rfl
  | (k, s', T) :: L => by
    have ih := scanF_flat s t L
    show scanF s t (flat1 k s' T ++ flat L) = _
    rw [scanF_page, findSome_cons, ← ih]
    show _ = (if s' = s then (T.find? fun x => x.2 = t).map fun x => (k, x.1) else none).elim (scanF s t (flat L)) some
    by_cases c : s' = s
    · rw [if_pos c, if_pos c]
      cases T.find? (fun x => x.2 = t) <;> rfl
    · rw [if_neg c, if_neg c]
      rfl
theorem find_f (s t : ByteArray) : cardexref10_Find.f 50 s t = some (findA s t, findB s t, findO s t) := by
  unfold cardexref10_Find.f
  rw [rows_eq, Option.bind_some]
  have h := find_l0 s t (flat PG) (by rw [flat_length]; omega) 50 0 (by rw [flat_length]; omega) (by omega)
  rw [List.drop_zero, scanF_flat s t PG] at h
  refine Eq.trans h ?_
  unfold findA findB findO findR
  have e : ∀ q : Option (Int × Int), some (q.elim (0, 0, false) fun x => (x.1, x.2, true)) = some (q.elim 0 (·.1), q.elim 0 (·.2), q.isSome) := by
    intro q
    cases q <;> rfl
  exact e _

end Go.Proofs.Ytnmbhhkdiegemaa.KFind
