/- The law on floats that are sorted. No statement of the seat is proved here. -/
import Derived.Test.YtgablplpdocniaaFlLaw2
import Derived.Test.YtgablplpdocniaaSxH
set_option linter.unusedSimpArgs false
set_option linter.unusedVariables false
namespace Go.Proofs.Ytgablplpdocniaa
open Go Go.Sx

theorem f_law04_great (l : List Nat) : Meets Try.prog E0 n_law04_great [.t (flsT l)] [] (Bo (decide (300 < l.length))) [] := by
  unfold flsT
  refine m_law04_great (by simp) (shut0 rfl) (shut0 rfl) (by simp) (by simp [keysOf]) ?_
  have e : decide ((300 : Int) < ((l.length : Nat) : Int)) = decide (300 < l.length) := decide_eq_decide.2 (by omega)
  simp only [go_sem, s_law04_great, e, ↓reduceIte, Nat.reduceEqDiff, Nat.reduceAdd, Nat.reduceLeDiff, reduceCtorEq, Nat.reduceLT, Int.reduceLT, Int.reduceLE, Int.reduceEq, Int.reduceToNat, Nat.reduceMul]
  refine wends (by first | exact Or.inl rfl | exact Or.inr rfl) ?_ (by first | rfl | simp [AV.ids, idsL])
  simp only [go_sem, r_law04_great, ↓reduceIte, Nat.reduceEqDiff, Nat.reduceAdd, Nat.reduceLeDiff, reduceCtorEq, Nat.reduceLT, Int.reduceLT, Int.reduceLE, Int.reduceEq, Int.reduceToNat, Nat.reduceMul]

set_option maxHeartbeats 1000000 in
theorem f_law04_FloatsSorts (l : List Nat) (hD : ∀ x ∈ l, x < 18446744073709551616) : Meets Try.prog E0 n_law04_FloatsSorts [.t (flsT l)] [] (Bo true) [] := by
  refine m_law04_FloatsSorts (by simp) (shut0 rfl) (shut0 rfl) (by simp) (by simp [keysOf]) ?_
  have hg := f_law04_great l
  by_cases hbig : 300 < l.length
  · rw [decide_eq_true hbig] at hg
    simp only [go_sem, s_law04_FloatsSorts, ↓reduceIte, Nat.reduceEqDiff, Nat.reduceAdd, Nat.reduceLeDiff, reduceCtorEq, Nat.reduceLT, Int.reduceLT, Int.reduceLE, Int.reduceEq, Int.reduceToNat, Nat.reduceMul]
    refine Cl_plain f_law04_alive ?_
    simp only [go_sem, ↓reduceIte, Nat.reduceEqDiff, Nat.reduceAdd, Nat.reduceLeDiff, reduceCtorEq, Nat.reduceLT, Int.reduceLT, Int.reduceLE, Int.reduceEq, Int.reduceToNat, Nat.reduceMul]
    refine Cl_plain hg ?_
    simp only [go_sem, ↓reduceIte, Nat.reduceEqDiff, Nat.reduceAdd, Nat.reduceLeDiff, reduceCtorEq, Nat.reduceLT, Int.reduceLT, Int.reduceLE, Int.reduceEq, Int.reduceToNat, Nat.reduceMul]
    refine wends (by first | exact Or.inl rfl | exact Or.inr rfl) ?_ (by first | rfl | simp [AV.ids, idsL])
    simp only [go_sem, r_law04_FloatsSorts, ↓reduceIte, Nat.reduceEqDiff, Nat.reduceAdd, Nat.reduceLeDiff, reduceCtorEq, Nat.reduceLT, Int.reduceLT, Int.reduceLE, Int.reduceEq, Int.reduceToNat, Nat.reduceMul]
  rw [decide_eq_false hbig] at hg
  have a1 := f_floats_Sorted l (by omega) hD
  have a2 := f_floats_Bits l (by omega)
  have a3 := f_ref04_Same l l (by omega)
  have a4 := f_ref04_Sorted l (by omega) hD
  have a5 := f_ref04_Same (isrt (lt_float64 flCmp) l) (isrt (lt_float64 flCmp) l) (by rw [isrt_len]; omega)
  rw [decide_eq_true rfl] at a3 a5
  have hs := isrt_srt fl_below3 l
  have hsl := isrt_len (lt_float64 flCmp) l
  have hsD : ∀ x ∈ isrt (lt_float64 flCmp) l, x < 18446744073709551616 := fun x hx => hD x ((isrt_mem _ _ _).1 hx)
  generalize isrt (lt_float64 flCmp) l = s at *
  unfold flsT at *
  have hz : (List.map row_float64 l).length = l.length := List.length_map _
  have b1 : (l.length) * 8 ≤ 2 ^ 47 := by omega
  have b2 : l.length < 2 ^ 47 := by omega
  have b3 : (0 + l.length) * 8 ≤ 2 ^ 47 := by omega
  have b4 : 0 + l.length < 2 ^ 47 := by omega
  have dll : decide (((l.length : Nat) : Int) = ((l.length : Nat) : Int)) = true := decide_eq_true rfl
  have dll2 : decide (l.length = l.length) = true := decide_eq_true rfl
  have hslt : slTrees 1 (stoOf [(109, Ob.row 1 true (l.map row_float64))]) (.own 109 1 0 l.length true) = some (l.map row_float64) := by
    simp [slTrees, AV.asOwn, rowPart, stoOf, List.take_of_length_le]
  simp only [go_sem, s_law04_FloatsSorts, ↓reduceIte, Nat.reduceEqDiff, Nat.reduceAdd, Nat.reduceLeDiff, reduceCtorEq, Nat.reduceLT, Int.reduceLT, Int.reduceLE, Int.reduceEq, Int.reduceToNat, Nat.reduceMul]
  refine Cl_plain f_law04_alive ?_
  simp only [go_sem, ↓reduceIte, Nat.reduceEqDiff, Nat.reduceAdd, Nat.reduceLeDiff, reduceCtorEq, Nat.reduceLT, Int.reduceLT, Int.reduceLE, Int.reduceEq, Int.reduceToNat, Nat.reduceMul]
  refine Cl_plain hg ?_
  simp only [go_sem, b1, b2, b3, b4, ↓reduceIte, Nat.reduceEqDiff, Nat.reduceAdd, Nat.reduceLeDiff, reduceCtorEq, Nat.reduceLT, Int.reduceLT, Int.reduceLE, Int.reduceEq, Int.reduceToNat, Nat.reduceMul]
  refine Cl_show [109] a1 ?_ (by simp [stoOf]) ?_
  · exact .one (Wk.row (by simp [slTrees, AV.asOwn, rowPart, stoOf, List.take_of_length_le]) (by simp)) .nil
  simp only [go_sem, ↓reduceIte, Nat.reduceEqDiff, Nat.reduceAdd, Nat.reduceLeDiff, reduceCtorEq, Nat.reduceLT, Int.reduceLT, Int.reduceLE, Int.reduceEq, Int.reduceToNat, Nat.reduceMul]
  refine Cl_show [] a2 ?_ (by simp) ?_
  · exact .one (Wk.fro (fs := l.map row_float64) (by simp [slTrees, AV.asOwn, rowPart, stoOf, froze, List.take_of_length_le]) (by simp [stoOf, froze])) .nil
  simp only [go_sem, ↓reduceIte, Nat.reduceEqDiff, Nat.reduceAdd, Nat.reduceLeDiff, reduceCtorEq, Nat.reduceLT, Int.reduceLT, Int.reduceLE, Int.reduceEq, Int.reduceToNat, Nat.reduceMul]
  refine Cl_keep [] a3 ?_ (by simp) rfl ?_
  · exact .one (Wk.fro (fs := l.map row_float64) (by simp [slTrees, AV.asOwn, rowPart, stoOf, froze, List.take_of_length_le]) (by simp [stoOf, froze])) (.one (Wk.refl _) .nil)
  simp only [go_sem, ↓reduceIte, Nat.reduceEqDiff, Nat.reduceAdd, Nat.reduceLeDiff, reduceCtorEq, Nat.reduceLT, Int.reduceLT, Int.reduceLE, Int.reduceEq, Int.reduceToNat, Nat.reduceMul]
  refine Cl_plain a4 ?_
  simp only [go_sem, ↓reduceIte, Nat.reduceEqDiff, Nat.reduceAdd, Nat.reduceLeDiff, reduceCtorEq, Nat.reduceLT, Int.reduceLT, Int.reduceLE, Int.reduceEq, Int.reduceToNat, Nat.reduceMul]
  refine Cl_plain a5 ?_
  simp only [go_sem, dll, dll2, hz, ↓reduceIte, Nat.reduceEqDiff, Nat.reduceAdd, Nat.reduceLeDiff, reduceCtorEq, Nat.reduceLT, Int.reduceLT, Int.reduceLE, Int.reduceEq, Int.reduceToNat, Nat.reduceMul]
  refine W_loop (fun i : Nat => l.length - i) (fun i => i ≤ l.length)
    (fun i => [(0, .t (.sl 1 (l.map row_float64))), (4, .t (.sl 1 (s.map row_float64))), (5, .t (.sl 1 (l.map fun b => [T.v (.int .u64 (b : Nat))]))), (6, I i)]) (fun _ => []) 0 (Nat.zero_le _) (subL [] [] (by simp [envS, go_sem, wkV, wkL, AV.ids, idsL, keysOf, ren, stoOf, slTrees, AV.asOwn, rowPart, AV.isNil, shA, rowsT, cellsT, cellT, wkLL] <;> assumption) (by simp [stoS, go_sem, wkV, wkL, wkO, AV.ids, Ob.ids, idsL, keysOf, ren, AV.one, stoOf, slTrees, AV.asOwn, rowPart, AV.isNil, shA, rowsT, cellsT, cellT, wkLL] <;> assumption) (by simp [keysOf, ren]) (by simp [stoOf, keysOf, ren]) (by simp [keysOf, ren]) (by simp [keysOf, ren])) ?_
  intro i hi
  by_cases h : i < l.length
  · have d1 : decide (i < l.length) = true := decide_eq_true h
    obtain ⟨x, hx, _⟩ := get_some h
    have hg1 : (l.map row_float64)[i]? = some [.v (.float .f64 x)] := by rw [List.getElem?_map, hx]; rfl
    have hg2 : (l.map fun b => [T.v (.int .u64 (b : Nat))])[i]? = some [.v (.int .u64 (x : Nat))] := by rw [List.getElem?_map, hx]; rfl
    have ei : IntKind.i64.wrap ((i : Int) + 1) = ((i + 1 : Nat) : Int) := wadd1 rfl (by omega)
    have dxx : decide (x = x) = true := decide_eq_true rfl
    generalize (l.map fun b => [T.v (.int .u64 (b : Nat))]) = bm at *
    generalize l.map row_float64 = lm at *
    by_cases hi0 : i = 0
    · have d2 : decide ((0 : Int) < (i : Int)) = false := decide_eq_false (by omega)
      simp only [go_sem, d1, hz, hg1, hg2, ↓reduceIte, Nat.reduceEqDiff, Nat.reduceAdd, Nat.reduceLeDiff, reduceCtorEq, Nat.reduceLT, Int.reduceLT, Int.reduceLE, Int.reduceEq, Int.reduceToNat, Nat.reduceMul]
      refine Cl_plain (f_math_Float64bits x) ?_
      simp only [go_sem, dxx, d2, ↓reduceIte, Nat.reduceEqDiff, Nat.reduceAdd, Nat.reduceLeDiff, reduceCtorEq, Nat.reduceLT, Int.reduceLT, Int.reduceLE, Int.reduceEq, Int.reduceToNat, Nat.reduceMul]
      ((try (with_reducible refine R_fin (by repeat' (first | exact okp0 | refine okp rfl rfl rfl ?_)) ?_)); (try simp only [go_sem, dxx, d2, ei, ↓reduceIte, Nat.reduceEqDiff, Nat.reduceAdd, Nat.reduceLeDiff, reduceCtorEq, Nat.reduceLT, Int.reduceLT, Int.reduceLE, Int.reduceEq, Int.reduceToNat, Nat.reduceMul]))
      exact rd_of (i + 1) (by first | omega | (simp only; omega)) h (subL [] [] (by simp [envS, go_sem, wkV, wkL, AV.ids, idsL, keysOf, ren, stoOf, slTrees, AV.asOwn, rowPart, AV.isNil, shA, rowsT, cellsT, cellT, wkLL] <;> assumption) (by simp [stoS, go_sem, wkV, wkL, wkO, AV.ids, Ob.ids, idsL, keysOf, ren, AV.one, stoOf, slTrees, AV.asOwn, rowPart, AV.isNil, shA, rowsT, cellsT, cellT, wkLL] <;> assumption) (by simp [keysOf, ren]) (by simp [stoOf, keysOf, ren]) (by simp [keysOf, ren]) (by simp [keysOf, ren]))
    · have d2 : decide ((0 : Int) < (i : Int)) = true := decide_eq_true (by omega)
      obtain ⟨j, rfl⟩ : ∃ j, i = j + 1 := ⟨i - 1, by omega⟩
      obtain ⟨y, hy, hym⟩ := get_some (l := s) (k := j) (by omega)
      obtain ⟨z, hz2, hzm⟩ := get_some (l := s) (k := j + 1) (by omega)
      have ej : IntKind.i64.wrap (((j + 1 : Nat) : Int) - 1) = (j : Int) := wsub1 rfl (by omega)
      have hgy : (s.map row_float64)[j]? = some [.v (.float .f64 y)] := by rw [List.getElem?_map, hy]; rfl
      have hgz : (s.map row_float64)[j + 1]? = some [.v (.float .f64 z)] := by rw [List.getElem?_map, hz2]; rfl
      have hcc := f_floats_Cmp y z (hsD y hym) (hsD z hzm)
      have hle : decide (0 < flCmp y z) = false := by
        have hp := (List.pairwise_iff_getElem.1 hs) j (j + 1) (by omega) (by omega) (by omega)
        rw [(List.getElem?_eq_some_iff.1 hy).2, (List.getElem?_eq_some_iff.1 hz2).2] at hp
        unfold lt_float64 at hp
        rw [flCmp_flip y z]
        simp only [decide_eq_false_iff_not] at hp ⊢
        omega
      generalize s.map row_float64 = sm at *
      simp only [go_sem, d1, hz, hg1, hg2, ↓reduceIte, Nat.reduceEqDiff, Nat.reduceAdd, Nat.reduceLeDiff, reduceCtorEq, Nat.reduceLT, Int.reduceLT, Int.reduceLE, Int.reduceEq, Int.reduceToNat, Nat.reduceMul]
      refine Cl_plain (f_math_Float64bits x) ?_
      simp only [go_sem, dxx, d2, ej, hgy, hgz, ↓reduceIte, Nat.reduceEqDiff, Nat.reduceAdd, Nat.reduceLeDiff, reduceCtorEq, Nat.reduceLT, Int.reduceLT, Int.reduceLE, Int.reduceEq, Int.reduceToNat, Nat.reduceMul]
      refine Cl_plain hcc ?_
      simp only [go_sem, hle, ↓reduceIte, Nat.reduceEqDiff, Nat.reduceAdd, Nat.reduceLeDiff, reduceCtorEq, Nat.reduceLT, Int.reduceLT, Int.reduceLE, Int.reduceEq, Int.reduceToNat, Nat.reduceMul]
      ((try (with_reducible refine R_fin (by repeat' (first | exact okp0 | refine okp rfl rfl rfl ?_)) ?_)); (try simp only [go_sem, hle, ei, ↓reduceIte, Nat.reduceEqDiff, Nat.reduceAdd, Nat.reduceLeDiff, reduceCtorEq, Nat.reduceLT, Int.reduceLT, Int.reduceLE, Int.reduceEq, Int.reduceToNat, Nat.reduceMul]))
      exact rd_of (j + 1 + 1) (by first | omega | (simp only; omega)) h (subL [] [] (by simp [envS, go_sem, wkV, wkL, AV.ids, idsL, keysOf, ren, stoOf, slTrees, AV.asOwn, rowPart, AV.isNil, shA, rowsT, cellsT, cellT, wkLL] <;> assumption) (by simp [stoS, go_sem, wkV, wkL, wkO, AV.ids, Ob.ids, idsL, keysOf, ren, AV.one, stoOf, slTrees, AV.asOwn, rowPart, AV.isNil, shA, rowsT, cellsT, cellT, wkLL] <;> assumption) (by simp [keysOf, ren]) (by simp [stoOf, keysOf, ren]) (by simp [keysOf, ren]) (by simp [keysOf, ren]))
  · obtain rfl : i = l.length := by omega
    have d1 : decide (l.length < l.length) = false := decide_eq_false (by omega)
    simp only [go_sem, d1, hz, ↓reduceIte, Nat.reduceEqDiff, Nat.reduceAdd, Nat.reduceLeDiff, reduceCtorEq, Nat.reduceLT, Int.reduceLT, Int.reduceLE, Int.reduceEq, Int.reduceToNat, Nat.reduceMul]
    refine wends (by first | exact Or.inl rfl | exact Or.inr rfl) ?_ (by first | rfl | simp [AV.ids, idsL])
    simp only [go_sem, r_law04_FloatsSorts, ↓reduceIte, Nat.reduceEqDiff, Nat.reduceAdd, Nat.reduceLeDiff, reduceCtorEq, Nat.reduceLT, Int.reduceLT, Int.reduceLE, Int.reduceEq, Int.reduceToNat, Nat.reduceMul]

end Go.Proofs.Ytgablplpdocniaa
