/- The laws on configurations, under their conditions. No statement of the seat is proved here. -/
import Derived.Test.YtbkchhjdjijhkaaDoorCfParse2
import Derived.Test.YtbkchhjdjijhkaaDoorCfSame
import Derived.Test.YtbkchhjdjijhkaaDoorCfIdle
import Derived.Test.YtbkchhjdjijhkaaDoorSxH
set_option linter.unusedSimpArgs false
set_option linter.unusedVariables false
namespace Go.Proofs.YtbkchhjdjijhkaaDoor
open Go Go.Sx

theorem f_law11_alive : Meets Tryd.prog E0 n_law11_alive [] [] (Bo true) [] := by
  refine m_law11_alive (by simp) (shut0 rfl) (shut0 rfl) (by simp) (by simp [keysOf]) ?_
  have h1 : Meets Tryd.prog E0 n_config_Parse [Str (bs [35, 32, 120, 10, 91, 97, 93, 10, 120, 32, 61, 32, 49, 10])] [] (.tp [secsV [([97], [([120], [49])])], I 0]) [] := by
    have := f_config_Parse [35, 32, 120, 10, 91, 97, 93, 10, 120, 32, 61, 32, 49, 10] (by decide)
    rw [show cfParse [35, 32, 120, 10, 91, 97, 93, 10, 120, 32, 61, 32, 49, 10] = ([([97], [([120], [49])])], 0) from by decide +kernel] at this
    exact this
  have h2 : Meets Tryd.prog E0 n_config_Parse [Str (bs [120, 32, 61, 32, 49])] [] (.tp [secsV [], I 7]) [] := by
    have := f_config_Parse [120, 32, 61, 32, 49] (by decide)
    rw [show cfParse [120, 32, 61, 32, 49] = ([], 7) from by decide +kernel] at this
    exact this
  have h4 := f_ref11_Same [([97], [([120], [49])])] (by decide) (by decide)
  simp only [go_sem, s_law11_alive, ↓reduceIte, Nat.reduceEqDiff, Nat.reduceAdd, Nat.reduceLeDiff, reduceCtorEq, Nat.reduceLT, Int.reduceLT, Int.reduceLE, Int.reduceEq, Int.reduceToNat, Nat.reduceMul]
  refine Cl_plain h1 ?_
  simp only [go_sem, ↓reduceIte, Nat.reduceEqDiff, Nat.reduceAdd, Nat.reduceLeDiff, reduceCtorEq, Nat.reduceLT, Int.reduceLT, Int.reduceLE, Int.reduceEq, Int.reduceToNat, Nat.reduceMul]
  refine Cl_plain h2 ?_
  simp only [go_sem, ↓reduceIte, Nat.reduceEqDiff, Nat.reduceAdd, Nat.reduceLeDiff, reduceCtorEq, Nat.reduceLT, Int.reduceLT, Int.reduceLE, Int.reduceEq, Int.reduceToNat, Nat.reduceMul]
  refine Cl_keep [124, 122] h4 ?_ (by simp [stoOf]) rfl ?_
  · exact .one (Wk.refl _) (.one (Wk.rowA (by simp) (by simp [shA, rowsT, cellsT, cellT, rowPart, stoOf, secT, pairT, slTrees, AV.asOwn]; exact ⟨rfl, rfl, rfl⟩)) .nil)
  simp only [go_sem, ↓reduceIte, Nat.reduceEqDiff, Nat.reduceAdd, Nat.reduceLeDiff, reduceCtorEq, Nat.reduceLT, Int.reduceLT, Int.reduceLE, Int.reduceEq, Int.reduceToNat, Nat.reduceMul]
  refine wends (by first | exact Or.inl rfl | exact Or.inr rfl) ?_ (by first | rfl | simp [AV.ids, idsL])
  simp only [go_sem, r_law11_alive, ↓reduceIte, Nat.reduceEqDiff, Nat.reduceAdd, Nat.reduceLeDiff, reduceCtorEq, Nat.reduceLT, Int.reduceLT, Int.reduceLE, Int.reduceEq, Int.reduceToNat, Nat.reduceMul]

theorem f_law11_ConfigParses (t : List UInt8) : Meets Tryd.prog E0 n_law11_ConfigParses [Str (toB t)] [] (Bo true) [] := by
  refine m_law11_ConfigParses (by simp) (shut0 rfl) (shut0 rfl) (by simp) (by simp [keysOf]) ?_
  simp only [go_sem, s_law11_ConfigParses, ↓reduceIte, Nat.reduceEqDiff, Nat.reduceAdd, Nat.reduceLeDiff, reduceCtorEq, Nat.reduceLT, Int.reduceLT, Int.reduceLE, Int.reduceEq, Int.reduceToNat, Nat.reduceMul]
  refine Cl_plain f_law11_alive ?_
  by_cases h : 6000 < t.length
  · have d : decide ((6000 : Int) < (t.length : Int)) = true := decide_eq_true (by omega)
    simp only [go_sem, toB_size, d, ↓reduceIte, Nat.reduceEqDiff, Nat.reduceAdd, Nat.reduceLeDiff, reduceCtorEq, Nat.reduceLT, Int.reduceLT, Int.reduceLE, Int.reduceEq, Int.reduceToNat, Nat.reduceMul]
    refine wends (by first | exact Or.inl rfl | exact Or.inr rfl) ?_ (by first | rfl | simp [AV.ids, idsL])
    simp only [go_sem, r_law11_ConfigParses, ↓reduceIte, Nat.reduceEqDiff, Nat.reduceAdd, Nat.reduceLeDiff, reduceCtorEq, Nat.reduceLT, Int.reduceLT, Int.reduceLE, Int.reduceEq, Int.reduceToNat, Nat.reduceMul]
  · have d : decide ((6000 : Int) < (t.length : Int)) = false := decide_eq_false (by omega)
    have h1 := f_config_Parse t (by omega)
    have h2 := f_ref11_Parse t (by omega)
    have h3 := f_config_Lines t (by omega)
    have h4 := f_ref11_Lines t (by omega)
    have hl := lines_len t
    have hs := parse_small t
    have h5 := f_ref11_Same (cfParse t).1 hs.1 hs.2
    have h6 := f_ref06_Texts (cfLines t) (by omega)
    generalize cfParse t = x at *
    generalize cfLines t = y at *
    have e : ∀ i : Int, decide (i = i) = true := fun i => decide_eq_true rfl
    simp only [go_sem, toB_size, d, ↓reduceIte, Nat.reduceEqDiff, Nat.reduceAdd, Nat.reduceLeDiff, reduceCtorEq, Nat.reduceLT, Int.reduceLT, Int.reduceLE, Int.reduceEq, Int.reduceToNat, Nat.reduceMul]
    refine Cl_plain h1 ?_
    simp only [go_sem, ↓reduceIte, Nat.reduceEqDiff, Nat.reduceAdd, Nat.reduceLeDiff, reduceCtorEq, Nat.reduceLT, Int.reduceLT, Int.reduceLE, Int.reduceEq, Int.reduceToNat, Nat.reduceMul]
    refine Cl_plain h2 ?_
    simp only [go_sem, ↓reduceIte, Nat.reduceEqDiff, Nat.reduceAdd, Nat.reduceLeDiff, reduceCtorEq, Nat.reduceLT, Int.reduceLT, Int.reduceLE, Int.reduceEq, Int.reduceToNat, Nat.reduceMul]
    refine Cl_plain h5 ?_
    simp only [go_sem, e, ↓reduceIte, Nat.reduceEqDiff, Nat.reduceAdd, Nat.reduceLeDiff, reduceCtorEq, Nat.reduceLT, Int.reduceLT, Int.reduceLE, Int.reduceEq, Int.reduceToNat, Nat.reduceMul]
    refine Cl_plain h3 ?_
    simp only [go_sem, ↓reduceIte, Nat.reduceEqDiff, Nat.reduceAdd, Nat.reduceLeDiff, reduceCtorEq, Nat.reduceLT, Int.reduceLT, Int.reduceLE, Int.reduceEq, Int.reduceToNat, Nat.reduceMul]
    refine Cl_plain h4 ?_
    simp only [go_sem, ↓reduceIte, Nat.reduceEqDiff, Nat.reduceAdd, Nat.reduceLeDiff, reduceCtorEq, Nat.reduceLT, Int.reduceLT, Int.reduceLE, Int.reduceEq, Int.reduceToNat, Nat.reduceMul]
    refine Cl_plain h6 ?_
    simp only [go_sem, ↓reduceIte, Nat.reduceEqDiff, Nat.reduceAdd, Nat.reduceLeDiff, reduceCtorEq, Nat.reduceLT, Int.reduceLT, Int.reduceLE, Int.reduceEq, Int.reduceToNat, Nat.reduceMul]
    refine wends (by first | exact Or.inl rfl | exact Or.inr rfl) ?_ (by first | rfl | simp [AV.ids, idsL])
    simp only [go_sem, r_law11_ConfigParses, ↓reduceIte, Nat.reduceEqDiff, Nat.reduceAdd, Nat.reduceLeDiff, reduceCtorEq, Nat.reduceLT, Int.reduceLT, Int.reduceLE, Int.reduceEq, Int.reduceToNat, Nat.reduceMul]

end Go.Proofs.YtbkchhjdjijhkaaDoor
