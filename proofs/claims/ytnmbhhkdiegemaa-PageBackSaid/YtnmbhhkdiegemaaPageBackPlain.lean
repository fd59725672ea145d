/- The plain law of PageBack. No conditions. -/
import Derived.Test.YtnmbhhkdiegemaaPagePlain
import Derived.Test.YtnmbhhkdiegemaaG5
namespace Go.Proofs.Ytnmbhhkdiegemaa.GPlain
open Go.RowKit Go.Proofs.Ytnmbhhkdiegemaa.G Go.Proofs.Ytnmbhhkdiegemaa.H Go.Proofs.YtnmbhhkdiegemaaW.PrintWords Go.Proofs.YtnmbhhkdiegemaaW.PrintLast
set_option linter.unusedVariables false
set_option linter.unusedSimpArgs false

theorem tgAt_get {k : Int} {s : ByteArray} : ∀ {T : TagL}, tgAt k T = some s → ∃ i : Nat, T[i]? = some (k, s)
  | [], h => by cases h
  | (j, u) :: T, h => by
    unfold tgAt at h
    by_cases c : k = j
    · rw [if_pos c] at h
      obtain rfl := Option.some.inj h
      exact ⟨0, by simp [c]⟩
    · rw [if_neg c] at h
      obtain ⟨i, hi⟩ := tgAt_get h
      exact ⟨i + 1, by simpa using hi⟩
theorem apart_key {a b : Int} {s : ByteArray} : ∀ {T : TagL}, apart2 T → (a, s) ∈ T → (b, s) ∈ T → a = b
  | [], _, h, _ => by cases h
  | p :: T, ha, h1, h2 => by
    obtain ⟨g1, g2⟩ := List.pairwise_cons.1 ha
    rcases List.mem_cons.1 h1 with e1 | h1 <;> rcases List.mem_cons.1 h2 with e2 | h2
    · rw [← e2] at e1
      exact (Prod.mk.inj e1).1
    · exact absurd (by rw [← e1]) (g1 _ h2)
    · exact absurd (by rw [← e2]) (g1 _ h1)
    · exact apart_key g2 h1 h2
/-- Between the loop and the end. -/
theorem back_j1 (a0 a1 b0 b1 : Int) (hb : tgOk a1 (tgOf a0) = true) : ∀ k, cardexlaw10_PageBack.j1 (k + 1) (tgNm a1 (tgOf a0)) false a0 a1 b0 b1 = some true := by
  intro k
  rw [cardexlaw10_PageBack.j1]
  rw [if_neg (by simp)]
  simp only [page_Name.f, Option.bind_some, lives_f]
  by_cases c1 : tgOk b1 (tgOf b0) = true
  · rw [if_pos c1]
    by_cases c2 : b0 = a0
    · subst c2
      rw [if_pos rfl, if_pos]
      have key : ((tgNm b1 (tgOf b0)).toList == (tgNm a1 (tgOf b0)).toList) = (b1 == a1) := by
        by_cases c3 : b1 = a1
        · subst c3; simp
        · have e : (b1 == a1) = false := beq_eq_false_iff_ne.2 c3
          rw [e]
          refine bytes_ne fun h => c3 ?_
          unfold tgOk at c1 hb
          obtain ⟨s, hs⟩ := Option.isSome_iff_exists.1 c1
          obtain ⟨u, hu⟩ := Option.isSome_iff_exists.1 hb
          unfold tgNm at h
          rw [hs, hu] at h
          have hsu : s = u := h
          subst hsu
          obtain ⟨i, hi⟩ := tgAt_get hs
          obtain ⟨j, hj⟩ := tgAt_get hu
          have hT : apart2 (tgOf b0) := by
            unfold tgOf
            rcases hp : pgAt b0 PG with _ | ⟨i, s, T⟩
            · exact List.Pairwise.nil
            · exact PG_apart2 _ (List.mem_of_getElem? (pgAt_get hp))
          exact apart_key hT (List.mem_of_getElem? hi) (List.mem_of_getElem? hj)
      rw [key]
      simp
    · rw [if_neg c2]
  · rw [if_neg c1]
theorem back_loop (a0 a1 b0 b1 : Int) (hb : tgOk a1 (tgOf a0) = true) : ∀ (k i : Nat) (there : Bool), i ≤ (tagsOf a0).length → (tagsOf a0).length + 2 < k + i → (there = true ∨ ∃ j, i ≤ j ∧ ∃ h : j < (tagsOf a0).length, (tagsOf a0)[j] = ⟨a0, a1⟩) →
    cardexlaw10_PageBack.l0 k true (tgNm a1 (tgOf a0)) true there (tagsOf a0) (i : Int) a0 a1 b0 b1 a0 a1 = some true
  | 0, i, there, h1, h2, h3 => by omega
  | k + 1, i, there, h1, h2, h3 => by
    have hl := tagsOf_length a0
    rw [cardexlaw10_PageBack.l0]
    by_cases h : i < (tagsOf a0).length
    · have hw : wrap64 ((i : Int) + 1) = ((i + 1 : Nat) : Int) := by rw [w64 (by omega) (by omega)]; rfl
      rw [if_pos (by omega)]
      by_cases c : there = true
      · rw [if_pos c, hw]
        exact back_loop a0 a1 b0 b1 hb k (i + 1) true (by omega) (by omega) (.inl rfl)
      · rw [if_neg c, if_pos (by omega), hw]
        refine back_loop a0 a1 b0 b1 hb k (i + 1) _ (by omega) (by omega) ?_
        rcases h3 with h3 | ⟨j, hij, hj, e⟩
        · exact absurd h3 c
        · rcases Nat.lt_or_ge i j with hlt | hge
          · exact .inr ⟨j, hlt, hj, e⟩
          · obtain rfl : i = j := by omega
            left
            rw [rd23 h, e]
            simp
    · rw [if_neg (by omega)]
      have ht : there = true := by
        rcases h3 with h3 | ⟨j, hij, hj, e⟩
        · exact h3
        · omega
      subst ht
      obtain ⟨m, rfl⟩ : ∃ m, k = m + 1 := ⟨k - 1, by omega⟩
      rw [if_pos rfl, if_pos rfl, if_neg (by simp)]
      exact back_j1 a0 a1 b0 b1 hb m
theorem PageBack (a0 a1 b0 b1 : Int) : cardexlaw10_PageBack.f 100 a0 a1 b0 b1 = some true := by
  have hl := tagsOf_length a0
  unfold cardexlaw10_PageBack.f
  simp only [page_Page.f, page_Name.f, Option.bind_some]
  by_cases c : tgOk a1 (tgOf a0) = true
  · rw [if_pos c]
    have hb := c
    unfold tgOk at c
    obtain ⟨s, hs⟩ := Option.isSome_iff_exists.1 c
    obtain ⟨i, hi⟩ := tgAt_get hs
    rcases hp : pgAt a0 PG with _ | ⟨q, nm, T⟩
    · unfold tgOf at hs
      rw [hp] at hs
      cases hs
    · have hT : tgOf a0 = T := by unfold tgOf; rw [hp]
      have hn : nmOf a0 = nm := by unfold nmOf; rw [hp]
      have hok : okOf a0 = true := by unfold okOf; rw [hp]; rfl
      have hnm : tgNm a1 (tgOf a0) = s := by unfold tgNm; rw [hs]; rfl
      have hi' : T[i]? = some (a1, s) := by rw [← hT]; exact hi
      have hf : findR nm s = some (a0, a1) := findR_some (pgAt_get hp) hi'
      have e1 : page_Find.f (nmOf a0) (tgNm a1 (tgOf a0)) = some (a0, a1, true) := by
        unfold page_Find.f findA findB findO
        rw [hn, hnm, hf]
        rfl
      rw [e1]
      simp only [Option.bind_some, page_Tags.f, hok]
      have hlt : i < (tagsOf a0).length := by
        have := (List.getElem?_eq_some_iff.1 hi).1
        simpa [tagsOf] using this
      refine back_loop a0 a1 b0 b1 hb 100 0 false (by omega) (by omega) (.inr ⟨i, by omega, hlt, ?_⟩)
      have e2 : (tagsOf a0)[i]? = some ⟨a0, a1⟩ := by
        unfold tagsOf
        rw [List.getElem?_map, hi]
        rfl
      rw [List.getElem?_eq_getElem hlt] at e2
      exact Option.some.inj e2
  · rw [if_neg c]
    have e : tgNm a1 (tgOf a0) = ⟨#[]⟩ := by
      unfold tgOk at c
      unfold tgNm
      rcases h : tgAt a1 (tgOf a0) with _ | s
      · rfl
      · rw [h] at c; exact absurd rfl c
    rw [e, if_pos (by simp [Lib.toList_data])]
    simp [lives_f]
end Go.Proofs.Ytnmbhhkdiegemaa.GPlain
