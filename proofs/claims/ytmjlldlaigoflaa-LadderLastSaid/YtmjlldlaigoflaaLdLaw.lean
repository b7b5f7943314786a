/- The contract of the fixed fact on ladders, and of the law on blends. No statement of the seat is proved here. -/
import Derived.Test.YtmjlldlaigoflaaLdAcc
set_option linter.unusedSimpArgs false
set_option linter.unusedVariables false
namespace Go.Proofs.Ytmjlldlaigoflaa
open Go Go.Sx

theorem inS_of {l : List Slot} (h : (l.all fun s => decide (-9223372036854775808 ≤ s.2) && decide (s.2 < 9223372036854775808)) = true) : InS l := by
  intro s hs
  have := List.all_eq_true.1 h s hs
  simpa using this

theorem inR_of {l : List Ring} (h : (l.all fun r => r.2.all fun s => decide (-9223372036854775808 ≤ s.2) && decide (s.2 < 9223372036854775808)) = true) : ∀ r ∈ l, InS r.2 := fun r hr => inS_of (List.all_eq_true.1 h r hr)

abbrev al0 : List Ring := [(10, [(-1, 0), (-1, 0), (-1, 0), (-1, 0), (-1, 0), (-1, 0)]), (60, [(-1, 0), (-1, 0), (-1, 0), (-1, 0), (-1, 0)])]
abbrev al1 : List Ring := [(10, [(0, 1000000), (-1, 0), (-1, 0), (-1, 0), (-1, 0), (-1, 0)]), (60, [(-1, 0), (-1, 0), (-1, 0), (-1, 0), (-1, 0)])]
abbrev al2 : List Ring := [(10, [(0, 1000000), (10, 2000000), (-1, 0), (-1, 0), (-1, 0), (-1, 0)]), (60, [(-1, 0), (-1, 0), (-1, 0), (-1, 0), (-1, 0)])]
abbrev al3 : List Ring := [(10, [(0, 1000000), (10, 2000000), (20, 3000000), (-1, 0), (-1, 0), (-1, 0)]), (60, [(0, 2000000), (-1, 0), (-1, 0), (-1, 0), (-1, 0)])]

theorem al_new : newLM [(10, 6), (60, 5)] 1 500000 = ((1, 500000, al0), 0) := by
  unfold newLM
  rw [if_pos (by decide +kernel)]
  rfl
theorem al_1 : accM 1 500000 al0 0 1000000 30 = (al1, 0) := by decide +kernel
theorem al_2 : accM 1 500000 al1 10 2000000 30 = (al2, 0) := by decide +kernel
theorem al_3 : accM 1 500000 al2 20 3000000 30 = (al3, 0) := by decide +kernel

theorem f_law14_alive : Meets Try.prog E0 n_law14_alive [] [] (Bo true) [] := by
  refine m_law14_alive (by simp) (shut0 rfl) (shut0 rfl) (by simp) (by simp [keysOf]) ?_
  have a0 := f_ladder_New [(10, 6), (60, 5)] 1 500000
  rw [al_new] at a0
  have a1 := f_ladder_Accept 1 500000 al0 0 1000000 30 (by decide) (inR_of (by decide)) (by decide) (by decide)
  rw [al_1] at a1
  have a2 := f_ladder_Accept 1 500000 al1 10 2000000 30 (by decide) (inR_of (by decide)) (by decide) (by decide)
  rw [al_2] at a2
  have a3 := f_ladder_Accept 1 500000 al2 20 3000000 30 (by decide) (inR_of (by decide)) (by decide) (by decide)
  rw [al_3] at a3
  simp only [go_sem, s_law14_alive, ↓reduceIte, Nat.reduceEqDiff, Nat.reduceAdd, Nat.reduceLeDiff, reduceCtorEq, Nat.reduceLT, Int.reduceLT, Int.reduceLE, Int.reduceEq, Int.reduceToNat, Nat.reduceMul]
  refine Cl_show [103] a0 ?_ (by simp [stoOf]) ?_
  · exact .ag (.one (Wk.row (by simp [slTrees, AV.asOwn, rowPart, stoOf, slT]) (by simp)) (.one (Wk.refl _) (.one (Wk.refl _) .nil))) .nil
  simp only [go_sem, ↓reduceIte, Nat.reduceEqDiff, Nat.reduceAdd, Nat.reduceLeDiff, reduceCtorEq, Nat.reduceLT, Int.reduceLT, Int.reduceLE, Int.reduceEq, Int.reduceToNat, Nat.reduceMul]
  refine Cl_plain a1 ?_
  simp only [go_sem, ↓reduceIte, Nat.reduceEqDiff, Nat.reduceAdd, Nat.reduceLeDiff, reduceCtorEq, Nat.reduceLT, Int.reduceLT, Int.reduceLE, Int.reduceEq, Int.reduceToNat, Nat.reduceMul]
  refine Cl_plain a2 ?_
  have d2 : decide (((2 : Nat) : Int) = 2) = true := rfl
  have i2 : (1 : Int) < ((2 : Nat) : Int) := by omega
  have i5 : (0 : Int) < ((5 : Nat) : Int) := by omega
  have dn : ∀ x : Int, decide (x = x) = true := fun x => decide_eq_true rfl
  simp only [go_sem, d2, rgT, slT, i2, i5, dn, Int.reduceToNat, ↓reduceIte, Nat.reduceEqDiff, Nat.reduceAdd, Nat.reduceLeDiff, reduceCtorEq, Nat.reduceLT, Int.reduceLT, Int.reduceLE, Int.reduceEq, Int.reduceToNat, Nat.reduceMul]
  refine Cl_plain a3 ?_
  simp only [go_sem, d2, rgT, slT, i2, i5, dn, beq_self_eq_true, ↓reduceIte, Nat.reduceEqDiff, Nat.reduceAdd, Nat.reduceLeDiff, reduceCtorEq, Nat.reduceLT, Int.reduceLT, Int.reduceLE, Int.reduceEq, Int.reduceToNat, Nat.reduceMul]
  refine wends (by first | exact Or.inl rfl | exact Or.inr rfl) ?_ (by first | rfl | simp [AV.ids, idsL])
  simp only [go_sem, r_law14_alive, ↓reduceIte, Nat.reduceEqDiff, Nat.reduceAdd, Nat.reduceLeDiff, reduceCtorEq, Nat.reduceLT, Int.reduceLT, Int.reduceLE, Int.reduceEq, Int.reduceToNat, Nat.reduceMul]

theorem f_law14_LadderBlends (m : Int) (l : List Int) (rs : List Rung) (sm sf : Int) (hl : InL l) : Meets Try.prog E0 n_law14_LadderBlends [I m, intL l, schV rs sm sf] [] (Bo true) [] := by
  refine m_law14_LadderBlends (by simp) (shut0 rfl) (shut0 rfl) (by simp) (by simp [keysOf]) ?_
  cases d1 : decide (1000 < (l.length : Int))
  · cases d2 : decide (1000 < (rs.length : Int))
    · have h1 := of_decide_eq_false d1
      have h2 := of_decide_eq_false d2
      have b1 := f_ladder_Blend m l hl (by unfold maxLen; omega)
      have b2 := f_ref14_Blend m l hl (by unfold maxLen; omega)
      have b3 := f_ladder_New rs sm sf
      have b4 := f_ref14_New rs sm sf (by omega)
      have hq : (newLM rs sm sf).1.2.2.length ≤ maxLen ∧ ∀ r ∈ (newLM rs sm sf).1.2.2, r.2.length ≤ maxLen := by
        unfold newLM
        split
        · rename_i hh
          simp only [Bool.and_eq_true] at hh
          refine ⟨by simp; unfold maxLen; omega, ?_⟩
          intro r hr
          obtain ⟨x, hx, rfl⟩ := List.mem_map.1 hr
          have := szB_iff.1 (List.all_eq_true.1 (tog_all hh.2) x hx)
          simp only [newR, List.length_replicate]; unfold maxLen; omega
        · exact ⟨by simp, by simp⟩
      have b5 := f_ref14_Same (newLM rs sm sf).1.1 (newLM rs sm sf).1.2.1 (newLM rs sm sf).1.1 (newLM rs sm sf).1.2.1 _ (newLM rs sm sf).1.2.2 hq.1 hq.2
      rw [decide_eq_true (show _ ∧ _ ∧ _ from ⟨rfl, rfl, rfl⟩)] at b5
      clear hq h1 h2 hl
      generalize newLM rs sm sf = N at *
      generalize blendM m l = B at *
      repeat' (first | (with_reducible refine Cl_plain (f_law14_alive) ?_) | (with_reducible refine Cl_plain (b1) ?_) | (with_reducible refine Cl_plain (b2) ?_) | (with_reducible refine Cl_plain (b3) ?_) | (with_reducible refine Cl_plain (b4) ?_) | (with_reducible refine Cl_plain (b5) ?_) | (simp only [go_sem, s_law14_LadderBlends, beq_self_eq_true, eq_self, ↓reduceIte, Nat.reduceEqDiff, Nat.reduceAdd, Nat.reduceLeDiff, reduceCtorEq, Nat.reduceLT, Int.reduceLT, Int.reduceLE, Int.reduceEq, Int.reduceToNat, Nat.reduceMul, *]) | (simp (disch := omega) only [s_law14_LadderBlends, beq_self_eq_true, eq_self, wrap_i64_of, i64_quo, i64_rem, sdiv, smod]) | ((with_reducible refine W_split (by with_unfolding_all exact rfl) (fun hsp => ?_) (fun hsp => ?_)) <;> (try simp only [Bool.not_true, Bool.not_false, decide_eq_true_eq, decide_eq_false_iff_not, Bool.not_eq_true', Bool.not_eq_false', not_false_eq_true] at hsp)) | ((with_reducible refine R_split (by with_unfolding_all exact rfl) (fun hsp => ?_) (fun hsp => ?_)) <;> (try simp only [Bool.not_true, Bool.not_false, decide_eq_true_eq, decide_eq_false_iff_not, Bool.not_eq_true', Bool.not_eq_false', not_false_eq_true] at hsp)) | (with_reducible refine R_fin (by repeat' (first | exact okp0 | refine okp rfl rfl rfl ?_)) ?_))
      refine wends (by first | exact Or.inl rfl | exact Or.inr rfl) ?_ (by first | rfl | simp [AV.ids, idsL])
      simp only [go_sem, r_law14_LadderBlends, ↓reduceIte, Nat.reduceEqDiff, Nat.reduceAdd, Nat.reduceLeDiff, reduceCtorEq, Nat.reduceLT, Int.reduceLT, Int.reduceLE, Int.reduceEq, Int.reduceToNat, Nat.reduceMul]
    · clear hl
      repeat' (first | (with_reducible refine Cl_plain (f_law14_alive) ?_) | (simp only [go_sem, s_law14_LadderBlends, ↓reduceIte, Nat.reduceEqDiff, Nat.reduceAdd, Nat.reduceLeDiff, reduceCtorEq, Nat.reduceLT, Int.reduceLT, Int.reduceLE, Int.reduceEq, Int.reduceToNat, Nat.reduceMul, *]) | (simp (disch := omega) only [s_law14_LadderBlends, wrap_i64_of, i64_quo, i64_rem, sdiv, smod]) | ((with_reducible refine W_split (by with_unfolding_all exact rfl) (fun hsp => ?_) (fun hsp => ?_)) <;> (try simp only [Bool.not_true, Bool.not_false, decide_eq_true_eq, decide_eq_false_iff_not, Bool.not_eq_true', Bool.not_eq_false', not_false_eq_true] at hsp)) | ((with_reducible refine R_split (by with_unfolding_all exact rfl) (fun hsp => ?_) (fun hsp => ?_)) <;> (try simp only [Bool.not_true, Bool.not_false, decide_eq_true_eq, decide_eq_false_iff_not, Bool.not_eq_true', Bool.not_eq_false', not_false_eq_true] at hsp)) | (with_reducible refine R_fin (by repeat' (first | exact okp0 | refine okp rfl rfl rfl ?_)) ?_))
      refine wends (by first | exact Or.inl rfl | exact Or.inr rfl) ?_ (by first | rfl | simp [AV.ids, idsL])
      simp only [go_sem, r_law14_LadderBlends, ↓reduceIte, Nat.reduceEqDiff, Nat.reduceAdd, Nat.reduceLeDiff, reduceCtorEq, Nat.reduceLT, Int.reduceLT, Int.reduceLE, Int.reduceEq, Int.reduceToNat, Nat.reduceMul]
  · clear hl
    repeat' (first | (with_reducible refine Cl_plain (f_law14_alive) ?_) | (simp only [go_sem, s_law14_LadderBlends, ↓reduceIte, Nat.reduceEqDiff, Nat.reduceAdd, Nat.reduceLeDiff, reduceCtorEq, Nat.reduceLT, Int.reduceLT, Int.reduceLE, Int.reduceEq, Int.reduceToNat, Nat.reduceMul, *]) | (simp (disch := omega) only [s_law14_LadderBlends, wrap_i64_of, i64_quo, i64_rem, sdiv, smod]) | ((with_reducible refine W_split (by with_unfolding_all exact rfl) (fun hsp => ?_) (fun hsp => ?_)) <;> (try simp only [Bool.not_true, Bool.not_false, decide_eq_true_eq, decide_eq_false_iff_not, Bool.not_eq_true', Bool.not_eq_false', not_false_eq_true] at hsp)) | ((with_reducible refine R_split (by with_unfolding_all exact rfl) (fun hsp => ?_) (fun hsp => ?_)) <;> (try simp only [Bool.not_true, Bool.not_false, decide_eq_true_eq, decide_eq_false_iff_not, Bool.not_eq_true', Bool.not_eq_false', not_false_eq_true] at hsp)) | (with_reducible refine R_fin (by repeat' (first | exact okp0 | refine okp rfl rfl rfl ?_)) ?_))
    refine wends (by first | exact Or.inl rfl | exact Or.inr rfl) ?_ (by first | rfl | simp [AV.ids, idsL])
    simp only [go_sem, r_law14_LadderBlends, ↓reduceIte, Nat.reduceEqDiff, Nat.reduceAdd, Nat.reduceLeDiff, reduceCtorEq, Nat.reduceLT, Int.reduceLT, Int.reduceLE, Int.reduceEq, Int.reduceToNat, Nat.reduceMul]

end Go.Proofs.Ytmjlldlaigoflaa
