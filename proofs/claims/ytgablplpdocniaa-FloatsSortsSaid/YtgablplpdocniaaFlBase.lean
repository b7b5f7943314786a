/- Floats as their bits: externs, kinds, parts. No statement of the seat is proved here. -/
import Derived.Test.YtgablplpdocniaaFlMath
import Derived.Test.YtgablplpdocniaaSxH
import Derived.Test.YtgablplpdocniaaSxH
set_option linter.unusedSimpArgs false
set_option linter.unusedVariables false
namespace Go.Proofs.Ytgablplpdocniaa
open Go Go.Sx

/-- A float. -/
abbrev Fl (b : Nat) : AV := .t (.v (.float .f64 b))

theorem f_math_Float64bits (b : Nat) : Meets Try.prog E0 n_math_Float64bits [Fl b] [] (U (b : Nat)) [] := by
  refine meets_now rfl rfl fun A φ w vals hv => ?_
  simp only [CAs] at hv
  obtain ⟨a, _, e1, ha, rfl⟩ := hv
  obtain ⟨rfl, _⟩ := ca_v ha
  have e2 : vals = #[.float .f64 b] := by cases vals; simp_all
  subst e2
  refine ⟨.int .u64 b, ?_, by simp only [CA, CT]; exact ⟨trivial, rfl⟩⟩
  rw [run_callFunc_extern (e := Extern.MathFloatBits.float64bits) Try.func16 (by kernel_rfl) (by kernel_rfl) (by kernel_rfl) (by kernel_rfl)]
  rfl

theorem f_math_Float64frombits (b : Nat) : Meets Try.prog E0 n_math_Float64frombits [U (b : Nat)] [] (Fl b) [] := by
  refine meets_now rfl rfl fun A φ w vals hv => ?_
  simp only [CAs] at hv
  obtain ⟨a, _, e1, ha, rfl⟩ := hv
  obtain ⟨rfl, _⟩ := ca_v ha
  have e2 : vals = #[.int .u64 (b : Nat)] := by cases vals; simp_all
  subst e2
  refine ⟨.float .f64 b, ?_, by simp only [CA, CT]; exact ⟨trivial, rfl⟩⟩
  rw [run_callFunc_extern (e := Extern.MathFloatBits.float64frombits) Try.func25 (by kernel_rfl) (by kernel_rfl) (by kernel_rfl) (by kernel_rfl)]
  rfl

/-- Below; as great. -/
def flLt (a b : Nat) : Bool := !(flNaN a || flNaN b) && decide (flK a < flK b)
def flEq (a b : Nat) : Bool := !(flNaN a || flNaN b) && decide (flK a = flK b)

theorem fl_lss (a b : Nat) : (FloatKind.f64.format.order a b == some .lt) = flLt a b := by
  show (Ieee.double.order a b == some .lt) = _
  rw [order_eq, compare_int]
  unfold flLt
  cases (flNaN a || flNaN b)
  · simp only [Bool.false_eq_true, if_false, Bool.not_false, Bool.true_and]
    by_cases h : flK a < flK b
    · rw [if_pos h, decide_eq_true h]; rfl
    · rw [if_neg h, decide_eq_false h]
      by_cases h2 : flK a = flK b
      · rw [if_pos h2]; rfl
      · rw [if_neg h2]; rfl
  · rfl
theorem fl_gtr (a b : Nat) : (FloatKind.f64.format.order a b == some .gt) = flLt b a := by
  show (Ieee.double.order a b == some .gt) = _
  rw [order_eq, compare_int]
  unfold flLt
  rw [Bool.or_comm (flNaN b)]
  cases (flNaN a || flNaN b)
  · simp only [Bool.false_eq_true, if_false, Bool.not_false, Bool.true_and]
    by_cases h : flK a < flK b
    · rw [if_pos h, decide_eq_false (show ¬ flK b < flK a by omega)]; rfl
    · rw [if_neg h]
      by_cases h2 : flK a = flK b
      · rw [if_pos h2, decide_eq_false (show ¬ flK b < flK a by omega)]; rfl
      · rw [if_neg h2, decide_eq_true (show flK b < flK a by omega)]; rfl
  · rfl
theorem fl_eql (a b : Nat) : (FloatKind.f64.format.order a b == some .eq) = flEq a b := by
  show (Ieee.double.order a b == some .eq) = _
  rw [order_eq, compare_int]
  unfold flEq
  cases (flNaN a || flNaN b)
  · simp only [Bool.false_eq_true, if_false, Bool.not_false, Bool.true_and]
    by_cases h : flK a < flK b
    · rw [if_pos h, decide_eq_false (show ¬ flK a = flK b by omega)]; rfl
    · rw [if_neg h]
      by_cases h2 : flK a = flK b
      · rw [if_pos h2, decide_eq_true h2]; rfl
      · rw [if_neg h2, decide_eq_false h2]; rfl
  · rfl
theorem fl_neq (a b : Nat) : (FloatKind.f64.format.order a b != some .eq) = !flEq a b := by
  rw [bne, fl_eql]

/-- A float's kind. -/
def flKind (b : Nat) : Int := if flNaN b then 0 else if flN b then (if flR b = 9218868437227405312 then 1 else if flR b = 0 then 3 else 2) else (if flR b = 9218868437227405312 then 6 else if flR b = 0 then 4 else 5)

theorem fl_small {b : Nat} (h : b < 18446744073709551616) : (flN b = true ↔ 9223372036854775808 ≤ b) ∧ flR b = (if 9223372036854775808 ≤ b then b - 9223372036854775808 else b) := by
  unfold flN flR
  refine ⟨?_, ?_⟩
  · rw [beq_iff_eq]; omega
  · split <;> omega

theorem flR_lt (b : Nat) : flR b < 9223372036854775808 := Nat.mod_lt _ (by decide)

theorem cvt_neg {b : Nat} (h : b < 18446744073709551616) : decide (IntKind.i64.wrap (b : Int) < 0) = flN b := by
  rw [Bool.eq_iff_iff, (fl_small h).1, decide_eq_true_iff, wrap_i64]
  split <;> omega

theorem f_math_Signbit (b : Nat) (h : b < 18446744073709551616) : Meets Try.prog E0 n_math_Signbit [Fl b] [] (Bo (flN b)) [] := by
  refine m_math_Signbit (by simp) (shut0 rfl) (shut0 rfl) (by simp) (by simp [keysOf]) ?_
  have e := cvt_neg h
  simp only [go_sem, s_math_Signbit, ↓reduceIte, Nat.reduceEqDiff, Nat.reduceAdd, Nat.reduceLeDiff, reduceCtorEq, Nat.reduceLT, Int.reduceLT, Int.reduceLE, Int.reduceEq, Int.reduceToNat, Nat.reduceMul]
  refine Cl_plain (f_math_Float64bits b) ?_
  simp only [go_sem, e, ↓reduceIte, Nat.reduceEqDiff, Nat.reduceAdd, Nat.reduceLeDiff, reduceCtorEq, Nat.reduceLT, Int.reduceLT, Int.reduceLE, Int.reduceEq, Int.reduceToNat, Nat.reduceMul]
  refine wends (by first | exact Or.inl rfl | exact Or.inr rfl) ?_ (by first | rfl | simp [AV.ids, idsL])
  simp only [go_sem, r_math_Signbit, ↓reduceIte, Nat.reduceEqDiff, Nat.reduceAdd, Nat.reduceLeDiff, reduceCtorEq, Nat.reduceLT, Int.reduceLT, Int.reduceLE, Int.reduceEq, Int.reduceToNat, Nat.reduceMul]

set_option maxHeartbeats 1000000 in
theorem f_floats_Kind (b : Nat) (h : b < 18446744073709551616) : Meets Try.prog E0 n_floats_Kind [Fl b] [] (I (flKind b)) [] := by
  refine m_floats_Kind (by simp) (shut0 rfl) (shut0 rfl) (by simp) (by simp [keysOf]) ?_
  have e1 : flEq b b = !flNaN b := by unfold flEq; simp
  have k1 : flNaN 18442240474082181119 = false := by decide
  have k2 : flNaN 9218868437227405311 = false := by decide
  have k3 : flNaN 0 = false := by decide
  have v1 : flK 18442240474082181119 = -9218868437227405311 := by decide
  have v2 : flK 9218868437227405311 = 9218868437227405311 := by decide
  have v3 : flK 0 = 0 := by decide
  have hs := f_math_Signbit b h
  cases hn : flNaN b
  · have hr : ¬ 9218868437227405312 < flR b := by simpa [flNaN] using hn
    have l1 : flLt b 18442240474082181119 = decide (flK b < -9218868437227405311) := by unfold flLt; rw [hn, k1, v1]; rfl
    have l2 : flLt 9218868437227405311 b = decide (9218868437227405311 < flK b) := by unfold flLt; rw [hn, k2, v2]; rfl
    have l3 : flLt b 0 = decide (flK b < 0) := by unfold flLt; rw [hn, k3, v3]; rfl
    have l4 : flLt 0 b = decide (0 < flK b) := by unfold flLt; rw [hn, k3, v3]; rfl
    rw [hn] at e1
    unfold flKind
    rw [hn]
    unfold flK at l1 l2 l3 l4
    cases hg : flN b
    · rw [hg] at l1 l2 l3 l4 hs
      simp only [Bool.false_eq_true, if_false] at l1 l2 l3 l4 ⊢
      rw [decide_eq_false (by omega)] at l1 l3
      by_cases h1 : flR b = 9218868437227405312
      · rw [h1] at l2 ⊢
        have l2 : flLt 9218868437227405311 b = true := l2
        simp only [go_sem, s_floats_Kind, fl_lss, fl_gtr, fl_neq, e1, l1, l2, ↓reduceIte, Nat.reduceEqDiff, Nat.reduceAdd, Nat.reduceLeDiff, reduceCtorEq, Nat.reduceLT, Int.reduceLT, Int.reduceLE, Int.reduceEq, Int.reduceToNat, Nat.reduceMul]
        refine wends (by first | exact Or.inl rfl | exact Or.inr rfl) ?_ (by first | rfl | simp [AV.ids, idsL])
        simp only [go_sem, r_floats_Kind, ↓reduceIte, Nat.reduceEqDiff, Nat.reduceAdd, Nat.reduceLeDiff, reduceCtorEq, Nat.reduceLT, Int.reduceLT, Int.reduceLE, Int.reduceEq, Int.reduceToNat, Nat.reduceMul]
      · rw [decide_eq_false (by omega)] at l2
        by_cases h2 : flR b = 0
        · rw [h2] at l4 ⊢
          have l4 : flLt 0 b = false := l4
          simp only [go_sem, s_floats_Kind, fl_lss, fl_gtr, fl_neq, e1, l1, l2, l3, l4, ↓reduceIte, Nat.reduceEqDiff, Nat.reduceAdd, Nat.reduceLeDiff, reduceCtorEq, Nat.reduceLT, Int.reduceLT, Int.reduceLE, Int.reduceEq, Int.reduceToNat, Nat.reduceMul]
          refine Cl_plain hs ?_
          simp only [go_sem, ↓reduceIte, Nat.reduceEqDiff, Nat.reduceAdd, Nat.reduceLeDiff, reduceCtorEq, Nat.reduceLT, Int.reduceLT, Int.reduceLE, Int.reduceEq, Int.reduceToNat, Nat.reduceMul]
          refine wends (by first | exact Or.inl rfl | exact Or.inr rfl) ?_ (by first | rfl | simp [AV.ids, idsL])
          simp only [go_sem, r_floats_Kind, ↓reduceIte, Nat.reduceEqDiff, Nat.reduceAdd, Nat.reduceLeDiff, reduceCtorEq, Nat.reduceLT, Int.reduceLT, Int.reduceLE, Int.reduceEq, Int.reduceToNat, Nat.reduceMul]
        · rw [decide_eq_true (by omega)] at l4
          rw [if_neg h1, if_neg h2]
          simp only [go_sem, s_floats_Kind, fl_lss, fl_gtr, fl_neq, e1, l1, l2, l3, l4, ↓reduceIte, Nat.reduceEqDiff, Nat.reduceAdd, Nat.reduceLeDiff, reduceCtorEq, Nat.reduceLT, Int.reduceLT, Int.reduceLE, Int.reduceEq, Int.reduceToNat, Nat.reduceMul]
          refine wends (by first | exact Or.inl rfl | exact Or.inr rfl) ?_ (by first | rfl | simp [AV.ids, idsL])
          simp only [go_sem, r_floats_Kind, ↓reduceIte, Nat.reduceEqDiff, Nat.reduceAdd, Nat.reduceLeDiff, reduceCtorEq, Nat.reduceLT, Int.reduceLT, Int.reduceLE, Int.reduceEq, Int.reduceToNat, Nat.reduceMul]
    · rw [hg] at l1 l2 l3 l4 hs
      simp only [Bool.false_eq_true, if_false, if_true] at l1 l2 l3 l4 ⊢
      rw [decide_eq_false (by omega)] at l2 l4
      by_cases h1 : flR b = 9218868437227405312
      · rw [h1] at l1 ⊢
        have l1 : flLt b 18442240474082181119 = true := l1
        simp only [go_sem, s_floats_Kind, fl_lss, fl_gtr, fl_neq, e1, l1, ↓reduceIte, Nat.reduceEqDiff, Nat.reduceAdd, Nat.reduceLeDiff, reduceCtorEq, Nat.reduceLT, Int.reduceLT, Int.reduceLE, Int.reduceEq, Int.reduceToNat, Nat.reduceMul]
        refine wends (by first | exact Or.inl rfl | exact Or.inr rfl) ?_ (by first | rfl | simp [AV.ids, idsL])
        simp only [go_sem, r_floats_Kind, ↓reduceIte, Nat.reduceEqDiff, Nat.reduceAdd, Nat.reduceLeDiff, reduceCtorEq, Nat.reduceLT, Int.reduceLT, Int.reduceLE, Int.reduceEq, Int.reduceToNat, Nat.reduceMul]
      · rw [decide_eq_false (by omega)] at l1
        by_cases h2 : flR b = 0
        · rw [h2] at l3 ⊢
          have l3 : flLt b 0 = false := l3
          simp only [go_sem, s_floats_Kind, fl_lss, fl_gtr, fl_neq, e1, l1, l2, l3, l4, ↓reduceIte, Nat.reduceEqDiff, Nat.reduceAdd, Nat.reduceLeDiff, reduceCtorEq, Nat.reduceLT, Int.reduceLT, Int.reduceLE, Int.reduceEq, Int.reduceToNat, Nat.reduceMul]
          refine Cl_plain hs ?_
          simp only [go_sem, ↓reduceIte, Nat.reduceEqDiff, Nat.reduceAdd, Nat.reduceLeDiff, reduceCtorEq, Nat.reduceLT, Int.reduceLT, Int.reduceLE, Int.reduceEq, Int.reduceToNat, Nat.reduceMul]
          refine wends (by first | exact Or.inl rfl | exact Or.inr rfl) ?_ (by first | rfl | simp [AV.ids, idsL])
          simp only [go_sem, r_floats_Kind, ↓reduceIte, Nat.reduceEqDiff, Nat.reduceAdd, Nat.reduceLeDiff, reduceCtorEq, Nat.reduceLT, Int.reduceLT, Int.reduceLE, Int.reduceEq, Int.reduceToNat, Nat.reduceMul]
        · rw [decide_eq_true (by omega)] at l3
          rw [if_neg h1, if_neg h2]
          simp only [go_sem, s_floats_Kind, fl_lss, fl_gtr, fl_neq, e1, l1, l2, l3, l4, ↓reduceIte, Nat.reduceEqDiff, Nat.reduceAdd, Nat.reduceLeDiff, reduceCtorEq, Nat.reduceLT, Int.reduceLT, Int.reduceLE, Int.reduceEq, Int.reduceToNat, Nat.reduceMul]
          refine wends (by first | exact Or.inl rfl | exact Or.inr rfl) ?_ (by first | rfl | simp [AV.ids, idsL])
          simp only [go_sem, r_floats_Kind, ↓reduceIte, Nat.reduceEqDiff, Nat.reduceAdd, Nat.reduceLeDiff, reduceCtorEq, Nat.reduceLT, Int.reduceLT, Int.reduceLE, Int.reduceEq, Int.reduceToNat, Nat.reduceMul]
  · have hk : flKind b = 0 := by unfold flKind; rw [hn]; rfl
    rw [hn] at e1
    rw [hk]
    simp only [go_sem, s_floats_Kind, fl_lss, fl_gtr, fl_neq, e1, ↓reduceIte, Nat.reduceEqDiff, Nat.reduceAdd, Nat.reduceLeDiff, reduceCtorEq, Nat.reduceLT, Int.reduceLT, Int.reduceLE, Int.reduceEq, Int.reduceToNat, Nat.reduceMul]
    refine wends (by first | exact Or.inl rfl | exact Or.inr rfl) ?_ (by first | rfl | simp [AV.ids, idsL])
    simp only [go_sem, r_floats_Kind, ↓reduceIte, Nat.reduceEqDiff, Nat.reduceAdd, Nat.reduceLeDiff, reduceCtorEq, Nat.reduceLT, Int.reduceLT, Int.reduceLE, Int.reduceEq, Int.reduceToNat, Nat.reduceMul]

end Go.Proofs.Ytgablplpdocniaa
