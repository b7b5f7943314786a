/- The contracts of the laws on sums, quotients and roots. No statement of the seat is proved here. -/
import Derived.Test.YtolfdpklblepfaaWdLaw
set_option linter.unusedSimpArgs false
set_option linter.unusedVariables false
namespace Go.Proofs.Ytolfdpklblepfaa
open Go Go.Sx

theorem f_law01_WideAdds (a b : Nat) (ha : a < 340282366920938463463374607431768211456) (hb : b < 340282366920938463463374607431768211456) : Meets Try.prog E0 n_law01_WideAdds [WV a, WV b] [] (Bo true) [] := by
  refine m_law01_WideAdds (by simp) (shut0 rfl) (shut0 rfl) (by simp) (by simp [keysOf]) ?_
  simp only [go_sem, s_law01_WideAdds, ↓reduceIte, Nat.reduceEqDiff, Nat.reduceAdd, Nat.reduceLeDiff, reduceCtorEq]
  refine Cl_plain f_law01_alive ?_
  simp only [go_sem, ↓reduceIte, Nat.reduceEqDiff, Nat.reduceAdd, Nat.reduceLeDiff, reduceCtorEq]
  refine Cl_plain (f_wide_Add a b ha hb) ?_
  simp only [go_sem, ↓reduceIte, Nat.reduceEqDiff, Nat.reduceAdd, Nat.reduceLeDiff, reduceCtorEq]
  refine Cl_plain (f_ref01_Add a b ha hb) ?_
  simp only [go_sem, beq_self_eq_true, ↓reduceIte, Nat.reduceEqDiff, Nat.reduceAdd, Nat.reduceLeDiff, reduceCtorEq]
  refine Cl_plain (f_wide_Less a b) ?_
  simp only [go_sem, ↓reduceIte, Nat.reduceEqDiff, Nat.reduceAdd, Nat.reduceLeDiff, reduceCtorEq]
  refine Cl_plain (f_ref01_Less a b) ?_
  simp only [go_sem, beq_self_eq_true, ↓reduceIte, Nat.reduceEqDiff, Nat.reduceAdd, Nat.reduceLeDiff, reduceCtorEq]
  refine R_fin (okp rfl rfl rfl (okp rfl rfl rfl okp0)) ?_
  simp only [go_sem, ↓reduceIte, Nat.reduceEqDiff, Nat.reduceAdd, Nat.reduceLeDiff, reduceCtorEq]
  refine wends (Or.inl rfl) ?_ rfl
  simp only [go_sem, r_law01_WideAdds, ↓reduceIte, Nat.reduceEqDiff, Nat.reduceAdd, Nat.reduceLeDiff, reduceCtorEq]

theorem f_law01_WideDivs (a d : Nat) (ha : a < 340282366920938463463374607431768211456) (hd : d < 18446744073709551616) : Meets Try.prog E0 n_law01_WideDivs [WV a, U d] [] (Bo true) [] := by
  refine m_law01_WideDivs (by simp) (shut0 rfl) (shut0 rfl) (by simp) (by simp [keysOf]) ?_
  simp only [go_sem, s_law01_WideDivs, ↓reduceIte, Nat.reduceEqDiff, Nat.reduceAdd, Nat.reduceLeDiff, reduceCtorEq]
  refine Cl_plain f_law01_alive ?_
  simp only [go_sem, ↓reduceIte, Nat.reduceEqDiff, Nat.reduceAdd, Nat.reduceLeDiff, reduceCtorEq]
  by_cases h0 : d = 0
  · subst h0
    refine Cl_plain (f_wide_Div_z a) ?_
    simp only [go_sem, ↓reduceIte, Nat.reduceEqDiff, Nat.reduceAdd, Nat.reduceLeDiff, reduceCtorEq]
    refine Cl_plain (f_ref01_Div_z a) ?_
    simp only [go_sem, ↓reduceIte, Nat.reduceEqDiff, Nat.reduceAdd, Nat.reduceLeDiff, reduceCtorEq]
    refine Cl_plain (f_wide_Round a 0 ha hd) ?_
    simp only [go_sem, ↓reduceIte, Nat.reduceEqDiff, Nat.reduceAdd, Nat.reduceLeDiff, reduceCtorEq]
    refine Cl_plain (f_ref01_Round a 0 ha hd) ?_
    simp only [go_sem, ↓reduceIte, Nat.reduceEqDiff, Nat.reduceAdd, Nat.reduceLeDiff, reduceCtorEq]
    refine wends (Or.inl rfl) ?_ rfl
    simp only [go_sem, r_law01_WideDivs, ↓reduceIte, Nat.reduceEqDiff, Nat.reduceAdd, Nat.reduceLeDiff, reduceCtorEq]
  · refine Cl_plain (f_wide_Div a d ha hd (by omega)) ?_
    simp only [go_sem, ↓reduceIte, Nat.reduceEqDiff, Nat.reduceAdd, Nat.reduceLeDiff, reduceCtorEq]
    refine Cl_plain (f_ref01_Div a d ha hd (by omega)) ?_
    simp only [go_sem, ↓reduceIte, Nat.reduceEqDiff, Nat.reduceAdd, Nat.reduceLeDiff, reduceCtorEq]
    refine Cl_plain (f_wide_Round a d ha hd) ?_
    simp only [go_sem, ↓reduceIte, Nat.reduceEqDiff, Nat.reduceAdd, Nat.reduceLeDiff, reduceCtorEq]
    refine Cl_plain (f_ref01_Round a d ha hd) ?_
    simp only [go_sem, ↓reduceIte, Nat.reduceEqDiff, Nat.reduceAdd, Nat.reduceLeDiff, reduceCtorEq]
    refine wends (Or.inl rfl) ?_ rfl
    simp only [go_sem, r_law01_WideDivs, ↓reduceIte, Nat.reduceEqDiff, Nat.reduceAdd, Nat.reduceLeDiff, reduceCtorEq]

theorem f_law01_WideRoots (a : Nat) (n : Int) (ha : a < 340282366920938463463374607431768211456) : Meets Try.prog E0 n_law01_WideRoots [WV a, I n] [] (Bo true) [] := by
  refine m_law01_WideRoots (by simp) (shut0 rfl) (shut0 rfl) (by simp) (by simp [keysOf]) ?_
  obtain ⟨m, hm, hm1, hm2⟩ := root_exists a 18446744073709551616 ha
  simp only [go_sem, s_law01_WideRoots, ↓reduceIte, Nat.reduceEqDiff, Nat.reduceAdd, Nat.reduceLeDiff, reduceCtorEq]
  refine Cl_plain f_law01_alive ?_
  simp only [go_sem, ↓reduceIte, Nat.reduceEqDiff, Nat.reduceAdd, Nat.reduceLeDiff, reduceCtorEq]
  by_cases h0 : n < 0 ∨ 127 < n
  · refine Cl_plain (f_wide_Shift_out a n h0) ?_
    simp only [go_sem, ↓reduceIte, Nat.reduceEqDiff, Nat.reduceAdd, Nat.reduceLeDiff, reduceCtorEq]
    refine Cl_plain (f_ref01_Shift_out a n h0) ?_
    simp only [go_sem, ↓reduceIte, Nat.reduceEqDiff, Nat.reduceAdd, Nat.reduceLeDiff, reduceCtorEq]
    refine Cl_plain (f_wide_Root a m ha hm hm1 hm2) ?_
    simp only [go_sem, ↓reduceIte, Nat.reduceEqDiff, Nat.reduceAdd, Nat.reduceLeDiff, reduceCtorEq]
    refine Cl_plain (f_ref01_Root a m ha hm hm1 hm2) ?_
    simp only [go_sem, beq_self_eq_true, ↓reduceIte, Nat.reduceEqDiff, Nat.reduceAdd, Nat.reduceLeDiff, reduceCtorEq]
    refine R_fin (okp rfl rfl rfl okp0) ?_
    simp only [go_sem, ↓reduceIte, Nat.reduceEqDiff, Nat.reduceAdd, Nat.reduceLeDiff, reduceCtorEq]
    refine wends (Or.inl rfl) ?_ rfl
    simp only [go_sem, r_law01_WideRoots, ↓reduceIte, Nat.reduceEqDiff, Nat.reduceAdd, Nat.reduceLeDiff, reduceCtorEq]
  · obtain ⟨k, rfl⟩ := Int.eq_ofNat_of_zero_le (show 0 ≤ n by omega)
    refine Cl_plain (f_wide_Shift a k ha (by omega)) ?_
    simp only [go_sem, ↓reduceIte, Nat.reduceEqDiff, Nat.reduceAdd, Nat.reduceLeDiff, reduceCtorEq]
    refine Cl_plain (f_ref01_Shift a k ha (by omega)) ?_
    simp only [go_sem, ↓reduceIte, Nat.reduceEqDiff, Nat.reduceAdd, Nat.reduceLeDiff, reduceCtorEq]
    refine Cl_plain (f_wide_Root a m ha hm hm1 hm2) ?_
    simp only [go_sem, ↓reduceIte, Nat.reduceEqDiff, Nat.reduceAdd, Nat.reduceLeDiff, reduceCtorEq]
    refine Cl_plain (f_ref01_Root a m ha hm hm1 hm2) ?_
    simp only [go_sem, beq_self_eq_true, ↓reduceIte, Nat.reduceEqDiff, Nat.reduceAdd, Nat.reduceLeDiff, reduceCtorEq]
    refine R_fin (okp rfl rfl rfl okp0) ?_
    simp only [go_sem, ↓reduceIte, Nat.reduceEqDiff, Nat.reduceAdd, Nat.reduceLeDiff, reduceCtorEq]
    refine wends (Or.inl rfl) ?_ rfl
    simp only [go_sem, r_law01_WideRoots, ↓reduceIte, Nat.reduceEqDiff, Nat.reduceAdd, Nat.reduceLeDiff, reduceCtorEq]

theorem f_law01_WideBack (a d : Nat) (ha : a < 340282366920938463463374607431768211456) (hd : d < 18446744073709551616) : Meets Try.prog E0 n_law01_WideBack [WV a, U d] [] (Bo true) [] := by
  refine m_law01_WideBack (by simp) (shut0 rfl) (shut0 rfl) (by simp) (by simp [keysOf]) ?_
  simp only [go_sem, s_law01_WideBack, ↓reduceIte, Nat.reduceEqDiff, Nat.reduceAdd, Nat.reduceLeDiff, reduceCtorEq]
  refine Cl_plain f_law01_alive ?_
  simp only [go_sem, ↓reduceIte, Nat.reduceEqDiff, Nat.reduceAdd, Nat.reduceLeDiff, reduceCtorEq]
  refine Cl_plain (f_wide_Mul d d hd hd) ?_
  simp only [go_sem, ↓reduceIte, Nat.reduceEqDiff, Nat.reduceAdd, Nat.reduceLeDiff, reduceCtorEq]
  refine Cl_plain (f_wide_Root (d * d) d (mul_bound hd (by omega)) hd (Nat.le_refl _) (by rw [Nat.add_mul, Nat.mul_add]; omega)) ?_
  simp only [go_sem, ↓reduceIte, Nat.reduceEqDiff, Nat.reduceAdd, Nat.reduceLeDiff, reduceCtorEq]
  by_cases h0 : d = 0
  · subst h0
    refine Cl_plain (f_wide_Div_z a) ?_
    simp only [go_sem, ↓reduceIte, Nat.reduceEqDiff, Nat.reduceAdd, Nat.reduceLeDiff, reduceCtorEq]
    refine wends (Or.inl rfl) ?_ rfl
    simp only [go_sem, r_law01_WideBack, ↓reduceIte, Nat.reduceEqDiff, Nat.reduceAdd, Nat.reduceLeDiff, reduceCtorEq]
  · refine Cl_plain (f_wide_Div a d ha hd (by omega)) ?_
    have hd0 : decide (d = 0) = false := by simpa using h0
    have hr : a % d < d := Nat.mod_lt _ (by omega)
    have hr0 : decide (d ≤ a % d) = false := by simp; omega
    have hqa : a / d * d + a % d = a := Nat.div_add_mod' a d
    have hq : a / d < 340282366920938463463374607431768211456 := Nat.lt_of_le_of_lt (Nat.div_le_self _ _) ha
    have hsplit : a / d / 18446744073709551616 * d * 18446744073709551616 + a / d % 18446744073709551616 * d = a / d * d := by
      have := Nat.div_add_mod' (a / d) 18446744073709551616
      rw [Nat.mul_right_comm, ← Nat.add_mul, this]
    have h1 : a / d / 18446744073709551616 * d < 18446744073709551616 := by omega
    have hz : decide ((0 : Int) = 0) = true := rfl
    have k1 := f_wide_Add (a / d / 18446744073709551616 * d * 18446744073709551616) (a / d % 18446744073709551616 * d) (by omega) (by omega)
    rw [hsplit, Nat.mod_eq_of_lt (show a / d * d < 340282366920938463463374607431768211456 by omega), show decide (340282366920938463463374607431768211456 ≤ a / d * d) = false by simp; omega] at k1
    have k2 := f_wide_Add (a / d * d) (a % d) (by omega) (by omega)
    rw [hqa, Nat.mod_eq_of_lt ha, show decide (340282366920938463463374607431768211456 ≤ a) = false by simp; omega] at k2
    simp only [WV, Nat.mul_div_cancel _ (show 0 < 18446744073709551616 by decide), Nat.mul_mod_left] at k1
    simp only [WV, Nat.div_eq_of_lt (show a % d < 18446744073709551616 by omega), Nat.mod_eq_of_lt (show a % d < 18446744073709551616 by omega)] at k2
    simp only [go_sem, hd0, hr0, hz, ↓reduceIte, Nat.reduceEqDiff, Nat.reduceAdd, Nat.reduceLeDiff, reduceCtorEq]
    refine Cl_plain (f_wide_Mul (a / d / 18446744073709551616) d (by omega) hd) ?_
    simp only [go_sem, ↓reduceIte, Nat.reduceEqDiff, Nat.reduceAdd, Nat.reduceLeDiff, reduceCtorEq]
    refine Cl_plain (f_wide_Mul (a / d % 18446744073709551616) d (by omega) hd) ?_
    simp only [go_sem, ↓reduceIte, Nat.reduceEqDiff, Nat.reduceAdd, Nat.reduceLeDiff, reduceCtorEq]
    refine R_fin ?_ ?_
    · repeat' (first | exact okp0 | refine okp rfl rfl rfl ?_)
    simp only [go_sem, Nat.mod_eq_of_lt h1, ↓reduceIte, Nat.reduceEqDiff, Nat.reduceAdd, Nat.reduceLeDiff, reduceCtorEq]
    refine Cl_plain k1 ?_
    simp only [go_sem, ↓reduceIte, Nat.reduceEqDiff, Nat.reduceAdd, Nat.reduceLeDiff, reduceCtorEq]
    refine Cl_plain k2 ?_
    simp only [go_sem, Nat.div_eq_of_lt h1, Nat.mod_eq_of_lt h1, ↓reduceIte, Nat.reduceEqDiff, Nat.reduceAdd, Nat.reduceLeDiff, reduceCtorEq]
    refine wends (Or.inl rfl) ?_ rfl
    simp only [go_sem, r_law01_WideBack, ↓reduceIte, Nat.reduceEqDiff, Nat.reduceAdd, Nat.reduceLeDiff, reduceCtorEq]

end Go.Proofs.Ytolfdpklblepfaa
