/- The contract of the fixed fact on ladders, and of the law on blends. No statement of the seat is proved here. -/
import Derived.Test.YtmjlldlaigoflaaGreatLdAcc
set_option linter.unusedSimpArgs false
set_option linter.unusedVariables false
namespace Go.Proofs.YtmjlldlaigoflaaGreat
open Go Go.Sx

theorem inS_of {l : List Slot} (h : (l.all fun s => decide (-9223372036854775808 ≤ s.2) && decide (s.2 < 9223372036854775808)) = true) : InS l := by
  intro s hs
  have := List.all_eq_true.1 h s hs
  simpa using this

theorem inR_of {l : List Ring} (h : (l.all fun r => r.2.all fun s => decide (-9223372036854775808 ≤ s.2) && decide (s.2 < 9223372036854775808)) = true) : ∀ r ∈ l, InS r.2 := fun r hr => inS_of (List.all_eq_true.1 h r hr)

abbrev al0 : List Ring := [(10, [(-1, 0), (-1, 0), (-1, 0), (-1, 0), (-1, 0), (-1, 0)]), (60, [(-1, 0), (-1, 0), (-1, 0), (-1, 0), (-1, 0)])]
abbrev al1 : List Ring := [(10, [(0, 1000000), (-1, 0), (-1, 0), (-1, 0), (-1, 0), (-1, 0)]), (60, [(-1, 0), (-1, 0), (-1, 0), (-1, 0), (-1, 0)])]
abbrev al2 : List Ring := [(10, [(0, 1000000), (10, 2000000), (-1, 0), (-1, 0), (-1, 0), (-1, 0)]), (60, [(-1, 0), (-1, 0), (-1, 0), (-1, 0), (-1, 0)])]
abbrev al3 : List Ring := [(10, [(0, 1000000), (10, 2000000), (20, 3000000), (-1, 0), (-1, 0), (-1, 0)]), (60, [(0, 2000000), (-1, 0), (-1, 0), (-1, 0), (-1, 0)])]

theorem al_new : newLM [(10, 6), (60, 5)] 1 500000 = ((1, 500000, al0), 0) := by
  unfold newLM
  rw [if_pos (by decide +kernel)]
  rfl
theorem al_1 : accM 1 500000 al0 0 1000000 30 = (al1, 0) := by decide +kernel
theorem al_2 : accM 1 500000 al1 10 2000000 30 = (al2, 0) := by decide +kernel
theorem al_3 : accM 1 500000 al2 20 3000000 30 = (al3, 0) := by decide +kernel

theorem f_law14_alive : Meets Tryz.prog E0 n_law14_alive [] [] (Bo true) [] := by
  refine m_law14_alive (by simp) (shut0 rfl) (shut0 rfl) (by simp) (by simp [keysOf]) ?_
  have a0 := f_ladder_New [(10, 6), (60, 5)] 1 500000
  rw [al_new] at a0
  have a1 := f_ladder_Accept 1 500000 al0 0 1000000 30 (by decide) (inR_of (by decide)) (by decide) (by decide)
  rw [al_1] at a1
  have a2 := f_ladder_Accept 1 500000 al1 10 2000000 30 (by decide) (inR_of (by decide)) (by decide) (by decide)
  rw [al_2] at a2
  have a3 := f_ladder_Accept 1 500000 al2 20 3000000 30 (by decide) (inR_of (by decide)) (by decide) (by decide)
  rw [al_3] at a3
  simp only [go_sem, s_law14_alive, ↓reduceIte, Nat.reduceEqDiff, Nat.reduceAdd, Nat.reduceLeDiff, reduceCtorEq, Nat.reduceLT, Int.reduceLT, Int.reduceLE, Int.reduceEq, Int.reduceToNat, Nat.reduceMul]
  refine Cl_show [103] a0 ?_ (by simp [stoOf]) ?_
  · exact .ag (.one (Wk.row (by simp [slTrees, AV.asOwn, rowPart, stoOf, slT]) (by simp)) (.one (Wk.refl _) (.one (Wk.refl _) .nil))) .nil
  simp only [go_sem, ↓reduceIte, Nat.reduceEqDiff, Nat.reduceAdd, Nat.reduceLeDiff, reduceCtorEq, Nat.reduceLT, Int.reduceLT, Int.reduceLE, Int.reduceEq, Int.reduceToNat, Nat.reduceMul]
  refine Cl_plain a1 ?_
  simp only [go_sem, ↓reduceIte, Nat.reduceEqDiff, Nat.reduceAdd, Nat.reduceLeDiff, reduceCtorEq, Nat.reduceLT, Int.reduceLT, Int.reduceLE, Int.reduceEq, Int.reduceToNat, Nat.reduceMul]
  refine Cl_plain a2 ?_
  have d2 : decide (((2 : Nat) : Int) = 2) = true := rfl
  have i2 : (1 : Int) < ((2 : Nat) : Int) := by omega
  have i5 : (0 : Int) < ((5 : Nat) : Int) := by omega
  have dn : ∀ x : Int, decide (x = x) = true := fun x => decide_eq_true rfl
  simp only [go_sem, d2, rgT, slT, i2, i5, dn, Int.reduceToNat, ↓reduceIte, Nat.reduceEqDiff, Nat.reduceAdd, Nat.reduceLeDiff, reduceCtorEq, Nat.reduceLT, Int.reduceLT, Int.reduceLE, Int.reduceEq, Int.reduceToNat, Nat.reduceMul]
  refine Cl_plain a3 ?_
  simp only [go_sem, d2, rgT, slT, i2, i5, dn, beq_self_eq_true, ↓reduceIte, Nat.reduceEqDiff, Nat.reduceAdd, Nat.reduceLeDiff, reduceCtorEq, Nat.reduceLT, Int.reduceLT, Int.reduceLE, Int.reduceEq, Int.reduceToNat, Nat.reduceMul]
  refine wends (by first | exact Or.inl rfl | exact Or.inr rfl) ?_ (by first | rfl | simp [AV.ids, idsL])
  simp only [go_sem, r_law14_alive, ↓reduceIte, Nat.reduceEqDiff, Nat.reduceAdd, Nat.reduceLeDiff, reduceCtorEq, Nat.reduceLT, Int.reduceLT, Int.reduceLE, Int.reduceEq, Int.reduceToNat, Nat.reduceMul]

end Go.Proofs.YtmjlldlaigoflaaGreat
