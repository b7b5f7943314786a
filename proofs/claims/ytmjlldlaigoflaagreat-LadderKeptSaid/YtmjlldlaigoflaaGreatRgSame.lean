/- Contracts of what holds rings against each other. No statement of the seat is proved here. -/
import Derived.Test.YtmjlldlaigoflaaGreatRgMath
set_option linter.unusedSimpArgs false
set_option linter.unusedVariables false
namespace Go.Proofs.YtmjlldlaigoflaaGreat
open Go Go.Sx

theorem f_ref13_SameSlots (a b : List Slot) (hl : a.length ≤ maxLen) : Meets Tryz.prog E0 n_ref13_SameSlots [slL a, slL b] [] (Bo (decide (a = b))) [] := by
  refine m_ref13_SameSlots (by simp) (shut0 rfl) (shut0 rfl) (by simp) (by simp [keysOf]) ?_
  unfold maxLen at hl
  simp only [go_sem, s_ref13_SameSlots, ↓reduceIte, Nat.reduceEqDiff, Nat.reduceAdd, Nat.reduceLeDiff, reduceCtorEq, Nat.reduceLT, Int.reduceLT, Int.reduceLE, Int.reduceEq, Int.reduceToNat, Nat.reduceMul]
  refine W_split rfl (fun h => ?_) (fun h => ?_)
  · simp at h
    simp only [go_sem, ↓reduceIte, Nat.reduceEqDiff, Nat.reduceAdd, Nat.reduceLeDiff, reduceCtorEq, Nat.reduceLT, Int.reduceLT, Int.reduceLE, Int.reduceEq, Int.reduceToNat, Nat.reduceMul]
    refine wends (by first | exact Or.inl rfl | exact Or.inr rfl) ?_ (by first | rfl | simp [AV.ids, idsL])
    simp only [go_sem, r_ref13_SameSlots, ↓reduceIte, Nat.reduceEqDiff, Nat.reduceAdd, Nat.reduceLeDiff, reduceCtorEq, Nat.reduceLT, Int.reduceLT, Int.reduceLE, Int.reduceEq, Int.reduceToNat, Nat.reduceMul]
    have : ¬ a = b := fun e => h (by rw [e])
    simp [this]
  · simp at h
    simp only [go_sem, ↓reduceIte, Nat.reduceEqDiff, Nat.reduceAdd, Nat.reduceLeDiff, reduceCtorEq, Nat.reduceLT, Int.reduceLT, Int.reduceLE, Int.reduceEq, Int.reduceToNat, Nat.reduceMul]
    refine W_loop (fun i : Nat => a.length - i) (fun i => i ≤ a.length ∧ (a = b ↔ a.drop i = b.drop i))
      (fun i => [(0, slL a), (1, slL b), (5, I i)]) (fun i => []) 0 (by simp) ?_ ?_
    · exact (subL [] [] (by simp [envS, go_sem, wkV, wkL, AV.ids, idsL, keysOf, ren]) (by simp [stoS, go_sem, wkV, wkL, wkO, AV.ids, Ob.ids, idsL, keysOf, ren, AV.one]) (by simp [keysOf, ren]) (by simp) (by simp [keysOf]) (by simp [keysOf]))
    · rintro i ⟨hi, hr⟩
      simp only [go_sem, ↓reduceIte, Nat.reduceEqDiff, Nat.reduceAdd, Nat.reduceLeDiff, reduceCtorEq, Nat.reduceLT, Int.reduceLT, Int.reduceLE, Int.reduceEq, Int.reduceToNat, Nat.reduceMul]
      refine W_split rfl (fun h1 => ?_) (fun h1 => ?_)
      · simp at h1
        obtain ⟨x, hx⟩ := get_of_lt h1
        obtain ⟨y, hy⟩ := get_of_lt (show i < b.length by omega)
        rw [drop_get hx, drop_get hy] at hr
        have ei : IntKind.i64.wrap ((i : Int) + 1) = ((i + 1 : Nat) : Int) := by rw [wrap_i64_of (by omega) (by omega)]; omega
        simp only [go_sem, hx, hy, slT, ↓reduceIte, Nat.reduceEqDiff, Nat.reduceAdd, Nat.reduceLeDiff, reduceCtorEq, Nat.reduceLT, Int.reduceLT, Int.reduceLE, Int.reduceEq, Int.reduceToNat, Nat.reduceMul]
        refine W_split rfl (fun h2 => ?_) (fun h2 => ?_)
        · simp only [go_sem, ↓reduceIte, Nat.reduceEqDiff, Nat.reduceAdd, Nat.reduceLeDiff, reduceCtorEq, Nat.reduceLT, Int.reduceLT, Int.reduceLE, Int.reduceEq, Int.reduceToNat, Nat.reduceMul]
          refine wends (by first | exact Or.inl rfl | exact Or.inr rfl) ?_ (by first | rfl | simp [AV.ids, idsL])
          simp only [go_sem, r_ref13_SameSlots, ↓reduceIte, Nat.reduceEqDiff, Nat.reduceAdd, Nat.reduceLeDiff, reduceCtorEq, Nat.reduceLT, Int.reduceLT, Int.reduceLE, Int.reduceEq, Int.reduceToNat, Nat.reduceMul]
          have : ¬ a = b := by
            rw [hr]; intro e
            injection e with e1 e2
            subst e1; simp at h2
          simp [this]
        · simp at h2
          simp only [go_sem, ei, ↓reduceIte, Nat.reduceEqDiff, Nat.reduceAdd, Nat.reduceLeDiff, reduceCtorEq, Nat.reduceLT, Int.reduceLT, Int.reduceLE, Int.reduceEq, Int.reduceToNat, Nat.reduceMul]
          refine rd_of (i + 1) (by first | omega | (simp only; omega)) ⟨by first | omega | (simp only; omega), by rw [hr]; simp [Prod.ext_iff, h2]⟩ ?_
          exact (subL [] [] (by simp [envS, go_sem, wkV, wkL, AV.ids, idsL, keysOf, ren]) (by simp [stoS, go_sem, wkV, wkL, wkO, AV.ids, Ob.ids, idsL, keysOf, ren, AV.one]) (by simp [keysOf, ren]) (by simp) (by simp [keysOf]) (by simp [keysOf]))
      · simp at h1
        simp only [go_sem, ↓reduceIte, Nat.reduceEqDiff, Nat.reduceAdd, Nat.reduceLeDiff, reduceCtorEq, Nat.reduceLT, Int.reduceLT, Int.reduceLE, Int.reduceEq, Int.reduceToNat, Nat.reduceMul]
        refine wends (by first | exact Or.inl rfl | exact Or.inr rfl) ?_ (by first | rfl | simp [AV.ids, idsL])
        simp only [go_sem, r_ref13_SameSlots, ↓reduceIte, Nat.reduceEqDiff, Nat.reduceAdd, Nat.reduceLeDiff, reduceCtorEq, Nat.reduceLT, Int.reduceLT, Int.reduceLE, Int.reduceEq, Int.reduceToNat, Nat.reduceMul]
        have e : i = a.length := by omega
        subst e
        have : a = b := hr.2 (by rw [List.drop_eq_nil_of_le (Nat.le_refl _), List.drop_eq_nil_of_le (by omega)])
        simp [this]

theorem f_ref13_Same (w v : Int) (a b : List Slot) (hl : a.length ≤ maxLen) : Meets Tryz.prog E0 n_ref13_Same [ringV w a, ringV v b] [] (Bo (decide (w = v ∧ a = b))) [] := by
  refine m_ref13_Same (by simp) (shut0 rfl) (shut0 rfl) (by simp) (by simp [keysOf]) ?_
  simp only [go_sem, s_ref13_Same, ↓reduceIte, Nat.reduceEqDiff, Nat.reduceAdd, Nat.reduceLeDiff, reduceCtorEq, Nat.reduceLT, Int.reduceLT, Int.reduceLE, Int.reduceEq, Int.reduceToNat, Nat.reduceMul]
  refine W_split rfl (fun h => ?_) (fun h => ?_)
  · simp at h
    simp only [go_sem, ↓reduceIte, Nat.reduceEqDiff, Nat.reduceAdd, Nat.reduceLeDiff, reduceCtorEq, Nat.reduceLT, Int.reduceLT, Int.reduceLE, Int.reduceEq, Int.reduceToNat, Nat.reduceMul]
    refine wends (by first | exact Or.inl rfl | exact Or.inr rfl) ?_ (by first | rfl | simp [AV.ids, idsL])
    simp only [go_sem, r_ref13_Same, ↓reduceIte, Nat.reduceEqDiff, Nat.reduceAdd, Nat.reduceLeDiff, reduceCtorEq, Nat.reduceLT, Int.reduceLT, Int.reduceLE, Int.reduceEq, Int.reduceToNat, Nat.reduceMul]
    simp [h]
  · simp at h
    simp only [go_sem, ↓reduceIte, Nat.reduceEqDiff, Nat.reduceAdd, Nat.reduceLeDiff, reduceCtorEq, Nat.reduceLT, Int.reduceLT, Int.reduceLE, Int.reduceEq, Int.reduceToNat, Nat.reduceMul]
    refine Cl_plain (f_ref13_SameSlots a b hl) ?_
    simp only [go_sem, ↓reduceIte, Nat.reduceEqDiff, Nat.reduceAdd, Nat.reduceLeDiff, reduceCtorEq, Nat.reduceLT, Int.reduceLT, Int.reduceLE, Int.reduceEq, Int.reduceToNat, Nat.reduceMul]
    refine wends (by first | exact Or.inl rfl | exact Or.inr rfl) ?_ (by first | rfl | simp [AV.ids, idsL])
    simp only [go_sem, r_ref13_Same, ↓reduceIte, Nat.reduceEqDiff, Nat.reduceAdd, Nat.reduceLeDiff, reduceCtorEq, Nat.reduceLT, Int.reduceLT, Int.reduceLE, Int.reduceEq, Int.reduceToNat, Nat.reduceMul]
    simp [h]

end Go.Proofs.YtmjlldlaigoflaaGreat
