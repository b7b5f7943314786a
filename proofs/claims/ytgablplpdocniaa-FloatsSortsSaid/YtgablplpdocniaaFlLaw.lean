/- The laws on floats. No statement of the seat is proved here. -/
import Derived.Test.YtgablplpdocniaaFlTo2
import Derived.Test.YtgablplpdocniaaSxH
set_option linter.unusedSimpArgs false
set_option linter.unusedVariables false
namespace Go.Proofs.Ytgablplpdocniaa
open Go Go.Sx

theorem flFrom_shape (b : Nat) : ∃ x v e, flFrom b = .tp [NV x v, I e] ∧ flFrom b = flFrom b := by
  unfold flFrom flTold
  split
  · exact ⟨_, _, _, rfl, rfl⟩
  · split
    · exact ⟨_, _, _, rfl, rfl⟩
    · exact ⟨_, _, _, rfl, rfl⟩

theorem from_tenth : flFrom 4591870180066957722 = .tp [NV false 100000, I 0] := by
  have h1 : flNaN 4591870180066957722 = false := by decide
  have h2 : ¬ flR 4591870180066957722 = 9218868437227405312 := by decide
  have h3 : flMil 4591870180066957722 = 100000 := by decide
  have h4 : flN 4591870180066957722 = false := by decide
  unfold flFrom
  rw [h1, if_neg (by decide), if_neg h2, h3, h4]; rfl

theorem sort_four : isrt (lt_float64 flCmp) [4607182418800017408, 9221120237041090561, 0, 9223372036854775808] = [9221120237041090561, 9223372036854775808, 0, 4607182418800017408] := by decide

theorem f_law04_alive : Meets Try.prog E0 n_law04_alive [] [] (Bo true) [] := by
  refine m_law04_alive (by simp) (shut0 rfl) (shut0 rfl) (by simp) (by simp [keysOf]) ?_
  have h1 := f_floats_From 4591870180066957722 (by decide)
  rw [from_tenth] at h1
  have h2 := f_math_Float64frombits 9221120237041090561
  have h3 := f_math_Float64frombits 9223372036854775808
  have h4 := f_floats_Sorted [4607182418800017408, 9221120237041090561, 0, 9223372036854775808] (by decide) (by decide)
  rw [sort_four] at h4
  unfold flsT at h4
  simp only [List.map_cons, List.map_nil, row_float64] at h4
  have k1 := f_floats_Kind 9221120237041090561 (by decide)
  have k2 := f_floats_Kind 9223372036854775808 (by decide)
  have k3 := f_floats_Kind 0 (by decide)
  have k4 := f_floats_Kind 4607182418800017408 (by decide)
  rw [show flKind 9221120237041090561 = 0 from by decide] at k1
  rw [show flKind 9223372036854775808 = 3 from by decide] at k2
  rw [show flKind 0 = 4 from by decide] at k3
  rw [show flKind 4607182418800017408 = 5 from by decide] at k4
  have h5 := f_floats_To false (-1) (by decide) (by decide)
  have hb := toB'_range (v := 1) (by decide) (by decide)
  have e5 : toF false (-1) = 9223372036854775808 + toB' 1 := by unfold toF; rw [if_neg (by decide), if_neg (by decide), if_pos (by decide)]; rfl
  rw [e5] at h5
  have k5 := f_floats_Kind (9223372036854775808 + toB' 1) (by omega)
  have e6 : flKind (9223372036854775808 + toB' 1) = 2 := by
    have hr : flR (9223372036854775808 + toB' 1) = toB' 1 := by unfold flR; omega
    have hn : flN (9223372036854775808 + toB' 1) = true := by unfold flN; rw [beq_iff_eq]; omega
    unfold flKind flNaN
    rw [hr, hn, decide_eq_false (by omega), if_neg (by decide), if_pos rfl, if_neg (by omega), if_neg (by omega)]
  rw [e6] at k5
  have d1 : decide ((0 : Int) = 0) = true := rfl
  have d2 : decide ((100000 : Int) = 100000) = true := rfl
  have d3 : decide ((3 : Int) = 3) = true := rfl
  have d4 : decide ((4 : Int) = 4) = true := rfl
  have d5 : decide ((5 : Int) = 5) = true := rfl
  have d6 : decide ((2 : Int) = 2) = true := rfl
  have d44 : decide (((4 : Nat) : Int) = 4) = true := rfl
  have db : (false == false) = true := rfl
  have di : ((100000 : Int) == 100000) = true := rfl
  simp only [go_sem, s_law04_alive, ↓reduceIte, Nat.reduceEqDiff, Nat.reduceAdd, Nat.reduceLeDiff, reduceCtorEq, Nat.reduceLT, Int.reduceLT, Int.reduceLE, Int.reduceEq, Int.reduceToNat, Nat.reduceMul]
  refine Cl_plain h1 ?_
  simp only [go_sem, ↓reduceIte, Nat.reduceEqDiff, Nat.reduceAdd, Nat.reduceLeDiff, reduceCtorEq, Nat.reduceLT, Int.reduceLT, Int.reduceLE, Int.reduceEq, Int.reduceToNat, Nat.reduceMul]
  refine Cl_plain h2 ?_
  simp only [go_sem, ↓reduceIte, Nat.reduceEqDiff, Nat.reduceAdd, Nat.reduceLeDiff, reduceCtorEq, Nat.reduceLT, Int.reduceLT, Int.reduceLE, Int.reduceEq, Int.reduceToNat, Nat.reduceMul]
  refine Cl_plain h3 ?_
  simp only [go_sem, ↓reduceIte, Nat.reduceEqDiff, Nat.reduceAdd, Nat.reduceLeDiff, reduceCtorEq, Nat.reduceLT, Int.reduceLT, Int.reduceLE, Int.reduceEq, Int.reduceToNat, Nat.reduceMul]
  refine Cl_show [110] h4 ?_ (by simp [stoOf]) ?_
  · exact .one (Wk.row (by simp [slTrees, AV.asOwn, rowPart, stoOf]) (by simp)) .nil
  simp only [go_sem, d1, d2, d3, d4, d44, d5, d6, db, di, ↓reduceIte, Nat.reduceEqDiff, Nat.reduceAdd, Nat.reduceLeDiff, reduceCtorEq, Nat.reduceLT, Int.reduceLT, Int.reduceLE, Int.reduceEq, Int.reduceToNat, Nat.reduceMul]
  refine Cl_plain k1 ?_
  simp only [go_sem, d1, d2, d3, d4, d44, d5, d6, db, di, ↓reduceIte, Nat.reduceEqDiff, Nat.reduceAdd, Nat.reduceLeDiff, reduceCtorEq, Nat.reduceLT, Int.reduceLT, Int.reduceLE, Int.reduceEq, Int.reduceToNat, Nat.reduceMul]
  refine Cl_plain k2 ?_
  simp only [go_sem, d1, d2, d3, d4, d44, d5, d6, db, di, ↓reduceIte, Nat.reduceEqDiff, Nat.reduceAdd, Nat.reduceLeDiff, reduceCtorEq, Nat.reduceLT, Int.reduceLT, Int.reduceLE, Int.reduceEq, Int.reduceToNat, Nat.reduceMul]
  refine Cl_plain k3 ?_
  simp only [go_sem, d1, d2, d3, d4, d44, d5, d6, db, di, ↓reduceIte, Nat.reduceEqDiff, Nat.reduceAdd, Nat.reduceLeDiff, reduceCtorEq, Nat.reduceLT, Int.reduceLT, Int.reduceLE, Int.reduceEq, Int.reduceToNat, Nat.reduceMul]
  refine Cl_plain k4 ?_
  simp only [go_sem, d1, d2, d3, d4, d44, d5, d6, db, di, ↓reduceIte, Nat.reduceEqDiff, Nat.reduceAdd, Nat.reduceLeDiff, reduceCtorEq, Nat.reduceLT, Int.reduceLT, Int.reduceLE, Int.reduceEq, Int.reduceToNat, Nat.reduceMul]
  refine Cl_plain h5 ?_
  simp only [go_sem, ↓reduceIte, Nat.reduceEqDiff, Nat.reduceAdd, Nat.reduceLeDiff, reduceCtorEq, Nat.reduceLT, Int.reduceLT, Int.reduceLE, Int.reduceEq, Int.reduceToNat, Nat.reduceMul]
  refine Cl_plain k5 ?_
  simp only [go_sem, d1, d2, d3, d4, d44, d5, d6, db, di, ↓reduceIte, Nat.reduceEqDiff, Nat.reduceAdd, Nat.reduceLeDiff, reduceCtorEq, Nat.reduceLT, Int.reduceLT, Int.reduceLE, Int.reduceEq, Int.reduceToNat, Nat.reduceMul]
  refine wends (by first | exact Or.inl rfl | exact Or.inr rfl) ?_ (by first | rfl | simp [AV.ids, idsL])
  simp only [go_sem, r_law04_alive, ↓reduceIte, Nat.reduceEqDiff, Nat.reduceAdd, Nat.reduceLeDiff, reduceCtorEq, Nat.reduceLT, Int.reduceLT, Int.reduceLE, Int.reduceEq, Int.reduceToNat, Nat.reduceMul]

theorem f_law04_FloatsFrom (b : Nat) (h : b < 18446744073709551616) : Meets Try.prog E0 n_law04_FloatsFrom [Fl b] [] (Bo true) [] := by
  refine m_law04_FloatsFrom (by simp) (shut0 rfl) (shut0 rfl) (by simp) (by simp [keysOf]) ?_
  have h1 := f_floats_From b h
  have h2 := f_ref04_From b h
  have h3 := f_floats_Kind b h
  have h4 := f_ref04_Kind b h
  obtain ⟨x, v, e, hs, _⟩ := flFrom_shape b
  rw [hs] at h1 h2
  have d1 : (x == x) = true := beq_self_eq_true x
  have d2 : (v == v) = true := beq_self_eq_true v
  have d3 : decide (e = e) = true := decide_eq_true rfl
  have d4 : decide (flKind b = flKind b) = true := decide_eq_true rfl
  simp only [go_sem, s_law04_FloatsFrom, ↓reduceIte, Nat.reduceEqDiff, Nat.reduceAdd, Nat.reduceLeDiff, reduceCtorEq, Nat.reduceLT, Int.reduceLT, Int.reduceLE, Int.reduceEq, Int.reduceToNat, Nat.reduceMul]
  refine Cl_plain f_law04_alive ?_
  simp only [go_sem, ↓reduceIte, Nat.reduceEqDiff, Nat.reduceAdd, Nat.reduceLeDiff, reduceCtorEq, Nat.reduceLT, Int.reduceLT, Int.reduceLE, Int.reduceEq, Int.reduceToNat, Nat.reduceMul]
  refine Cl_plain h1 ?_
  simp only [go_sem, ↓reduceIte, Nat.reduceEqDiff, Nat.reduceAdd, Nat.reduceLeDiff, reduceCtorEq, Nat.reduceLT, Int.reduceLT, Int.reduceLE, Int.reduceEq, Int.reduceToNat, Nat.reduceMul]
  refine Cl_plain h2 ?_
  simp only [go_sem, d1, d2, d3, ↓reduceIte, Nat.reduceEqDiff, Nat.reduceAdd, Nat.reduceLeDiff, reduceCtorEq, Nat.reduceLT, Int.reduceLT, Int.reduceLE, Int.reduceEq, Int.reduceToNat, Nat.reduceMul]
  refine Cl_plain h3 ?_
  simp only [go_sem, ↓reduceIte, Nat.reduceEqDiff, Nat.reduceAdd, Nat.reduceLeDiff, reduceCtorEq, Nat.reduceLT, Int.reduceLT, Int.reduceLE, Int.reduceEq, Int.reduceToNat, Nat.reduceMul]
  refine Cl_plain h4 ?_
  simp only [go_sem, d4, ↓reduceIte, Nat.reduceEqDiff, Nat.reduceAdd, Nat.reduceLeDiff, reduceCtorEq, Nat.reduceLT, Int.reduceLT, Int.reduceLE, Int.reduceEq, Int.reduceToNat, Nat.reduceMul]
  refine wends (by first | exact Or.inl rfl | exact Or.inr rfl) ?_ (by first | rfl | simp [AV.ids, idsL])
  simp only [go_sem, r_law04_FloatsFrom, ↓reduceIte, Nat.reduceEqDiff, Nat.reduceAdd, Nat.reduceLeDiff, reduceCtorEq, Nat.reduceLT, Int.reduceLT, Int.reduceLE, Int.reduceEq, Int.reduceToNat, Nat.reduceMul]

theorem toF_lt (x : Bool) (v : Int) (h1 : -9223372036854775808 ≤ v) (h2 : v < 9223372036854775808) : toF x v < 18446744073709551616 := by
  unfold toF
  split
  · decide
  · split
    · decide
    · have := toB'_range (v := v.natAbs) (by omega) (by omega)
      split <;> omega

theorem f_law04_FloatsTo (x : Bool) (v : Int) (h1 : -9223372036854775808 ≤ v) (h2 : v < 9223372036854775808) : Meets Try.prog E0 n_law04_FloatsTo [NV x v] [] (Bo true) [] := by
  refine m_law04_FloatsTo (by simp) (shut0 rfl) (shut0 rfl) (by simp) (by simp [keysOf]) ?_
  have a1 := f_floats_To x v h1 h2
  have a2 := f_ref04_To x v h1 h2
  have hlt := toF_lt x v h1 h2
  have a3 := f_ref04_Kind (toF x v) hlt
  have d4 : decide (toF x v = toF x v) = true := decide_eq_true rfl
  have hn : (x = true ∨ v = -9223372036854775808) → flKind (toF x v) = 0 := fun h => by
    unfold toF; rw [if_pos h]; decide
  have d0 : decide ((0 : Int) = 0) = true := rfl
  cases x
  · have a4 := f_ref02_Right false v h1
    simp only [Bool.false_eq_true, if_false, false_or] at a4 hn
    by_cases hm : v = -9223372036854775808
    · rw [hn hm] at a3
      rw [decide_eq_false (by omega)] at a4
      generalize toF false v = f at *
      simp only [go_sem, s_law04_FloatsTo, ↓reduceIte, Nat.reduceEqDiff, Nat.reduceAdd, Nat.reduceLeDiff, reduceCtorEq, Nat.reduceLT, Int.reduceLT, Int.reduceLE, Int.reduceEq, Int.reduceToNat, Nat.reduceMul]
      refine Cl_plain f_law04_alive ?_
      simp only [go_sem, ↓reduceIte, Nat.reduceEqDiff, Nat.reduceAdd, Nat.reduceLeDiff, reduceCtorEq, Nat.reduceLT, Int.reduceLT, Int.reduceLE, Int.reduceEq, Int.reduceToNat, Nat.reduceMul]
      refine Cl_plain a1 ?_
      simp only [go_sem, ↓reduceIte, Nat.reduceEqDiff, Nat.reduceAdd, Nat.reduceLeDiff, reduceCtorEq, Nat.reduceLT, Int.reduceLT, Int.reduceLE, Int.reduceEq, Int.reduceToNat, Nat.reduceMul]
      refine Cl_plain a2 ?_
      simp only [go_sem, ↓reduceIte, Nat.reduceEqDiff, Nat.reduceAdd, Nat.reduceLeDiff, reduceCtorEq, Nat.reduceLT, Int.reduceLT, Int.reduceLE, Int.reduceEq, Int.reduceToNat, Nat.reduceMul]
      ((try (with_reducible refine R_fin (by repeat' (first | exact okp0 | refine okp rfl rfl rfl ?_)) ?_)); (try simp only [go_sem, ↓reduceIte, Nat.reduceEqDiff, Nat.reduceAdd, Nat.reduceLeDiff, reduceCtorEq, Nat.reduceLT, Int.reduceLT, Int.reduceLE, Int.reduceEq, Int.reduceToNat, Nat.reduceMul]))
      refine Cl_plain a4 ?_
      simp only [go_sem, ↓reduceIte, Nat.reduceEqDiff, Nat.reduceAdd, Nat.reduceLeDiff, reduceCtorEq, Nat.reduceLT, Int.reduceLT, Int.reduceLE, Int.reduceEq, Int.reduceToNat, Nat.reduceMul]
      refine Cl_plain a3 ?_
      simp only [go_sem, d0, ↓reduceIte, Nat.reduceEqDiff, Nat.reduceAdd, Nat.reduceLeDiff, reduceCtorEq, Nat.reduceLT, Int.reduceLT, Int.reduceLE, Int.reduceEq, Int.reduceToNat, Nat.reduceMul]
      refine wends (by first | exact Or.inl rfl | exact Or.inr rfl) ?_ (by first | rfl | simp [AV.ids, idsL])
      simp only [go_sem, r_law04_FloatsTo, ↓reduceIte, Nat.reduceEqDiff, Nat.reduceAdd, Nat.reduceLeDiff, reduceCtorEq, Nat.reduceLT, Int.reduceLT, Int.reduceLE, Int.reduceEq, Int.reduceToNat, Nat.reduceMul]
    · rw [decide_eq_true (by omega)] at a4
      generalize toF false v = f at *
      simp only [go_sem, s_law04_FloatsTo, ↓reduceIte, Nat.reduceEqDiff, Nat.reduceAdd, Nat.reduceLeDiff, reduceCtorEq, Nat.reduceLT, Int.reduceLT, Int.reduceLE, Int.reduceEq, Int.reduceToNat, Nat.reduceMul]
      refine Cl_plain f_law04_alive ?_
      simp only [go_sem, ↓reduceIte, Nat.reduceEqDiff, Nat.reduceAdd, Nat.reduceLeDiff, reduceCtorEq, Nat.reduceLT, Int.reduceLT, Int.reduceLE, Int.reduceEq, Int.reduceToNat, Nat.reduceMul]
      refine Cl_plain a1 ?_
      simp only [go_sem, ↓reduceIte, Nat.reduceEqDiff, Nat.reduceAdd, Nat.reduceLeDiff, reduceCtorEq, Nat.reduceLT, Int.reduceLT, Int.reduceLE, Int.reduceEq, Int.reduceToNat, Nat.reduceMul]
      refine Cl_plain a2 ?_
      simp only [go_sem, ↓reduceIte, Nat.reduceEqDiff, Nat.reduceAdd, Nat.reduceLeDiff, reduceCtorEq, Nat.reduceLT, Int.reduceLT, Int.reduceLE, Int.reduceEq, Int.reduceToNat, Nat.reduceMul]
      ((try (with_reducible refine R_fin (by repeat' (first | exact okp0 | refine okp rfl rfl rfl ?_)) ?_)); (try simp only [go_sem, ↓reduceIte, Nat.reduceEqDiff, Nat.reduceAdd, Nat.reduceLeDiff, reduceCtorEq, Nat.reduceLT, Int.reduceLT, Int.reduceLE, Int.reduceEq, Int.reduceToNat, Nat.reduceMul]))
      refine Cl_plain a4 ?_
      simp only [go_sem, ↓reduceIte, Nat.reduceEqDiff, Nat.reduceAdd, Nat.reduceLeDiff, reduceCtorEq, Nat.reduceLT, Int.reduceLT, Int.reduceLE, Int.reduceEq, Int.reduceToNat, Nat.reduceMul]
      refine Cl_plain (f_math_Float64bits f) ?_
      simp only [go_sem, ↓reduceIte, Nat.reduceEqDiff, Nat.reduceAdd, Nat.reduceLeDiff, reduceCtorEq, Nat.reduceLT, Int.reduceLT, Int.reduceLE, Int.reduceEq, Int.reduceToNat, Nat.reduceMul]
      refine Cl_plain (f_math_Float64bits f) ?_
      simp only [go_sem, d4, ↓reduceIte, Nat.reduceEqDiff, Nat.reduceAdd, Nat.reduceLeDiff, reduceCtorEq, Nat.reduceLT, Int.reduceLT, Int.reduceLE, Int.reduceEq, Int.reduceToNat, Nat.reduceMul]
      refine wends (by first | exact Or.inl rfl | exact Or.inr rfl) ?_ (by first | rfl | simp [AV.ids, idsL])
      simp only [go_sem, r_law04_FloatsTo, ↓reduceIte, Nat.reduceEqDiff, Nat.reduceAdd, Nat.reduceLeDiff, reduceCtorEq, Nat.reduceLT, Int.reduceLT, Int.reduceLE, Int.reduceEq, Int.reduceToNat, Nat.reduceMul]
  · rw [hn (.inl rfl)] at a3
    generalize toF true v = f at *
    simp only [go_sem, s_law04_FloatsTo, ↓reduceIte, Nat.reduceEqDiff, Nat.reduceAdd, Nat.reduceLeDiff, reduceCtorEq, Nat.reduceLT, Int.reduceLT, Int.reduceLE, Int.reduceEq, Int.reduceToNat, Nat.reduceMul]
    refine Cl_plain f_law04_alive ?_
    simp only [go_sem, ↓reduceIte, Nat.reduceEqDiff, Nat.reduceAdd, Nat.reduceLeDiff, reduceCtorEq, Nat.reduceLT, Int.reduceLT, Int.reduceLE, Int.reduceEq, Int.reduceToNat, Nat.reduceMul]
    refine Cl_plain a1 ?_
    simp only [go_sem, ↓reduceIte, Nat.reduceEqDiff, Nat.reduceAdd, Nat.reduceLeDiff, reduceCtorEq, Nat.reduceLT, Int.reduceLT, Int.reduceLE, Int.reduceEq, Int.reduceToNat, Nat.reduceMul]
    refine Cl_plain a2 ?_
    simp only [go_sem, ↓reduceIte, Nat.reduceEqDiff, Nat.reduceAdd, Nat.reduceLeDiff, reduceCtorEq, Nat.reduceLT, Int.reduceLT, Int.reduceLE, Int.reduceEq, Int.reduceToNat, Nat.reduceMul]
    ((try (with_reducible refine R_fin (by repeat' (first | exact okp0 | refine okp rfl rfl rfl ?_)) ?_)); (try simp only [go_sem, ↓reduceIte, Nat.reduceEqDiff, Nat.reduceAdd, Nat.reduceLeDiff, reduceCtorEq, Nat.reduceLT, Int.reduceLT, Int.reduceLE, Int.reduceEq, Int.reduceToNat, Nat.reduceMul]))
    refine Cl_plain a3 ?_
    simp only [go_sem, d0, ↓reduceIte, Nat.reduceEqDiff, Nat.reduceAdd, Nat.reduceLeDiff, reduceCtorEq, Nat.reduceLT, Int.reduceLT, Int.reduceLE, Int.reduceEq, Int.reduceToNat, Nat.reduceMul]
    refine wends (by first | exact Or.inl rfl | exact Or.inr rfl) ?_ (by first | rfl | simp [AV.ids, idsL])
    simp only [go_sem, r_law04_FloatsTo, ↓reduceIte, Nat.reduceEqDiff, Nat.reduceAdd, Nat.reduceLeDiff, reduceCtorEq, Nat.reduceLT, Int.reduceLT, Int.reduceLE, Int.reduceEq, Int.reduceToNat, Nat.reduceMul]

theorem flCmp_cases (a b : Nat) : flCmp a b = -1 ∧ flOrd a < flOrd b ∨ flCmp a b = 0 ∧ flOrd a = flOrd b ∨ flCmp a b = 1 ∧ flOrd b < flOrd a := by
  unfold flCmp
  split
  · exact .inl ⟨rfl, by assumption⟩
  · split
    · exact .inr (.inr ⟨rfl, by assumption⟩)
    · exact .inr (.inl ⟨rfl, by omega⟩)

theorem f_law04_FloatsOrder (a b c : Nat) (ha : a < 18446744073709551616) (hb : b < 18446744073709551616) (hc : c < 18446744073709551616) : Meets Try.prog E0 n_law04_FloatsOrder [Fl a, Fl b, Fl c] [] (Bo true) [] := by
  refine m_law04_FloatsOrder (by simp) (shut0 rfl) (shut0 rfl) (by simp) (by simp [keysOf]) ?_
  have h1 := f_floats_Cmp a b ha hb
  have h2 := f_floats_Cmp b a hb ha
  have h3 := f_floats_Cmp b c hb hc
  have h4 := f_floats_Cmp a c ha hc
  have h5 := f_ref04_Cmp a b ha hb
  have h6 := f_floats_Cmp a a ha ha
  have c1 := flCmp_cases a b
  have c3 := flCmp_cases b c
  have c4 := flCmp_cases a c
  have c6 := flCmp_cases a a
  rw [flCmp_flip b a] at h2
  have e6 : flCmp a a = 0 := by omega
  rw [e6] at h6
  have htr : 0 < flCmp a b ∨ 0 < flCmp b c ∨ flCmp a c ≤ 0 := by omega
  have en : IntKind.i64.wrap (0 - -flCmp a b) = flCmp a b := by rw [wrap_i64_of (by omega) (by omega)]; omega
  have d1 : decide (flCmp a b = flCmp a b) = true := decide_eq_true rfl
  have d0 : decide ((0 : Int) = 0) = true := rfl
  clear c1 c3 c4 c6 e6
  generalize flCmp a b = x at *
  generalize flCmp b c = y at *
  generalize flCmp a c = z at *
  simp only [go_sem, s_law04_FloatsOrder, ↓reduceIte, Nat.reduceEqDiff, Nat.reduceAdd, Nat.reduceLeDiff, reduceCtorEq, Nat.reduceLT, Int.reduceLT, Int.reduceLE, Int.reduceEq, Int.reduceToNat, Nat.reduceMul]
  refine Cl_plain f_law04_alive ?_
  simp only [go_sem, ↓reduceIte, Nat.reduceEqDiff, Nat.reduceAdd, Nat.reduceLeDiff, reduceCtorEq, Nat.reduceLT, Int.reduceLT, Int.reduceLE, Int.reduceEq, Int.reduceToNat, Nat.reduceMul]
  refine Cl_plain h1 ?_
  simp only [go_sem, ↓reduceIte, Nat.reduceEqDiff, Nat.reduceAdd, Nat.reduceLeDiff, reduceCtorEq, Nat.reduceLT, Int.reduceLT, Int.reduceLE, Int.reduceEq, Int.reduceToNat, Nat.reduceMul]
  refine Cl_plain h2 ?_
  simp only [go_sem, ↓reduceIte, Nat.reduceEqDiff, Nat.reduceAdd, Nat.reduceLeDiff, reduceCtorEq, Nat.reduceLT, Int.reduceLT, Int.reduceLE, Int.reduceEq, Int.reduceToNat, Nat.reduceMul]
  refine Cl_plain h3 ?_
  simp only [go_sem, ↓reduceIte, Nat.reduceEqDiff, Nat.reduceAdd, Nat.reduceLeDiff, reduceCtorEq, Nat.reduceLT, Int.reduceLT, Int.reduceLE, Int.reduceEq, Int.reduceToNat, Nat.reduceMul]
  refine Cl_plain h4 ?_
  simp only [go_sem, ↓reduceIte, Nat.reduceEqDiff, Nat.reduceAdd, Nat.reduceLeDiff, reduceCtorEq, Nat.reduceLT, Int.reduceLT, Int.reduceLE, Int.reduceEq, Int.reduceToNat, Nat.reduceMul]
  refine Cl_plain h5 ?_
  simp only [go_sem, d1, en, ↓reduceIte, Nat.reduceEqDiff, Nat.reduceAdd, Nat.reduceLeDiff, reduceCtorEq, Nat.reduceLT, Int.reduceLT, Int.reduceLE, Int.reduceEq, Int.reduceToNat, Nat.reduceMul]
  refine Cl_plain h6 ?_
  by_cases q1 : 0 < x
  · have q : decide (0 < x) = true := decide_eq_true q1
    simp only [go_sem, d0, q, ↓reduceIte, Nat.reduceEqDiff, Nat.reduceAdd, Nat.reduceLeDiff, reduceCtorEq, Nat.reduceLT, Int.reduceLT, Int.reduceLE, Int.reduceEq, Int.reduceToNat, Nat.reduceMul]
    refine wends (by first | exact Or.inl rfl | exact Or.inr rfl) ?_ (by first | rfl | simp [AV.ids, idsL])
    simp only [go_sem, r_law04_FloatsOrder, ↓reduceIte, Nat.reduceEqDiff, Nat.reduceAdd, Nat.reduceLeDiff, reduceCtorEq, Nat.reduceLT, Int.reduceLT, Int.reduceLE, Int.reduceEq, Int.reduceToNat, Nat.reduceMul]
  · have q : decide (0 < x) = false := decide_eq_false q1
    by_cases q2 : 0 < y
    · have q' : decide (0 < y) = true := decide_eq_true q2
      simp only [go_sem, d0, q, q', ↓reduceIte, Nat.reduceEqDiff, Nat.reduceAdd, Nat.reduceLeDiff, reduceCtorEq, Nat.reduceLT, Int.reduceLT, Int.reduceLE, Int.reduceEq, Int.reduceToNat, Nat.reduceMul]
      refine wends (by first | exact Or.inl rfl | exact Or.inr rfl) ?_ (by first | rfl | simp [AV.ids, idsL])
      simp only [go_sem, r_law04_FloatsOrder, ↓reduceIte, Nat.reduceEqDiff, Nat.reduceAdd, Nat.reduceLeDiff, reduceCtorEq, Nat.reduceLT, Int.reduceLT, Int.reduceLE, Int.reduceEq, Int.reduceToNat, Nat.reduceMul]
    · have q' : decide (0 < y) = false := decide_eq_false q2
      have q3 : decide (z ≤ 0) = true := decide_eq_true (by omega)
      simp only [go_sem, d0, q, q', q3, ↓reduceIte, Nat.reduceEqDiff, Nat.reduceAdd, Nat.reduceLeDiff, reduceCtorEq, Nat.reduceLT, Int.reduceLT, Int.reduceLE, Int.reduceEq, Int.reduceToNat, Nat.reduceMul]
      refine wends (by first | exact Or.inl rfl | exact Or.inr rfl) ?_ (by first | rfl | simp [AV.ids, idsL])
      simp only [go_sem, r_law04_FloatsOrder, ↓reduceIte, Nat.reduceEqDiff, Nat.reduceAdd, Nat.reduceLeDiff, reduceCtorEq, Nat.reduceLT, Int.reduceLT, Int.reduceLE, Int.reduceEq, Int.reduceToNat, Nat.reduceMul]

end Go.Proofs.Ytgablplpdocniaa
