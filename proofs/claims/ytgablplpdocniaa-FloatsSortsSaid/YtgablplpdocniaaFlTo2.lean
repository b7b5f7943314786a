/- A number as a float, both ways. No statement of the seat is proved here. -/
import Derived.Test.YtgablplpdocniaaFlTo
import Derived.Test.YtgablplpdocniaaFlFrom2
import Derived.Test.YtgablplpdocniaaSxH
set_option linter.unusedSimpArgs false
set_option linter.unusedVariables false
namespace Go.Proofs.Ytgablplpdocniaa
open Go Go.Sx

/-- A number as a float. -/
def toF (x : Bool) (v : Int) : Nat := if x = true ∨ v = -9223372036854775808 then 9221120237041090561 else if v = 0 then 0 else if v < 0 then 9223372036854775808 + toB' v.natAbs else toB' v.natAbs

theorem neg_fl {b : Nat} (h : b < 9223372036854775808) : Op.negFloat .f64 b = 9223372036854775808 + b := by
  show b ^^^ 2 ^ 63 = _
  rw [show 9223372036854775808 + b = 2 ^ 63 * 1 + b from by omega, Nat.two_pow_add_eq_or_of_lt (show b < 2 ^ 63 from h), Nat.mul_one]
  apply Nat.eq_of_testBit_eq
  intro i
  rw [Nat.testBit_xor, Nat.testBit_or, Nat.testBit_two_pow]
  by_cases hi : 63 = i
  · subst hi
    have : b.testBit 63 = false := Nat.testBit_lt_two_pow h
    rw [this]; rfl
  · rw [decide_eq_false hi]; simp

theorem f_math_NaN : Meets Try.prog E0 n_math_NaN [] [] (Fl 9221120237041090561) [] := by
  refine m_math_NaN (by simp) (shut0 rfl) (shut0 rfl) (by simp) (by simp [keysOf]) ?_
  have h := f_math_Float64frombits 9221120237041090561
  simp only [go_sem, s_math_NaN, ↓reduceIte, Nat.reduceEqDiff, Nat.reduceAdd, Nat.reduceLeDiff, reduceCtorEq, Nat.reduceLT, Int.reduceLT, Int.reduceLE, Int.reduceEq, Int.reduceToNat, Nat.reduceMul]
  refine Cl_plain h ?_
  simp only [go_sem, ↓reduceIte, Nat.reduceEqDiff, Nat.reduceAdd, Nat.reduceLeDiff, reduceCtorEq, Nat.reduceLT, Int.reduceLT, Int.reduceLE, Int.reduceEq, Int.reduceToNat, Nat.reduceMul]
  refine wends (by first | exact Or.inl rfl | exact Or.inr rfl) ?_ (by first | rfl | simp [AV.ids, idsL])
  simp only [go_sem, r_math_NaN, ↓reduceIte, Nat.reduceEqDiff, Nat.reduceAdd, Nat.reduceLeDiff, reduceCtorEq, Nat.reduceLT, Int.reduceLT, Int.reduceLE, Int.reduceEq, Int.reduceToNat, Nat.reduceMul]

theorem f_floats_To (x : Bool) (v : Int) (h1 : -9223372036854775808 ≤ v) (h2 : v < 9223372036854775808) : Meets Try.prog E0 n_floats_To [NV x v] [] (Fl (toF x v)) [] := by
  refine m_floats_To (by simp) (shut0 rfl) (shut0 rfl) (by simp) (by simp [keysOf]) ?_
  unfold toF
  cases x
  · have hr := f_fixed_Right false v h1
    simp only [Bool.false_eq_true, if_false, false_or] at hr ⊢
    by_cases hm : v = -9223372036854775808
    · rw [decide_eq_false (by omega)] at hr
      rw [if_pos hm]
      simp only [go_sem, s_floats_To, ↓reduceIte, Nat.reduceEqDiff, Nat.reduceAdd, Nat.reduceLeDiff, reduceCtorEq, Nat.reduceLT, Int.reduceLT, Int.reduceLE, Int.reduceEq, Int.reduceToNat, Nat.reduceMul]
      refine Cl_plain hr ?_
      simp only [go_sem, ↓reduceIte, Nat.reduceEqDiff, Nat.reduceAdd, Nat.reduceLeDiff, reduceCtorEq, Nat.reduceLT, Int.reduceLT, Int.reduceLE, Int.reduceEq, Int.reduceToNat, Nat.reduceMul]
      refine Cl_plain f_math_NaN ?_
      simp only [go_sem, ↓reduceIte, Nat.reduceEqDiff, Nat.reduceAdd, Nat.reduceLeDiff, reduceCtorEq, Nat.reduceLT, Int.reduceLT, Int.reduceLE, Int.reduceEq, Int.reduceToNat, Nat.reduceMul]
      refine wends (by first | exact Or.inl rfl | exact Or.inr rfl) ?_ (by first | rfl | simp [AV.ids, idsL])
      simp only [go_sem, r_floats_To, ↓reduceIte, Nat.reduceEqDiff, Nat.reduceAdd, Nat.reduceLeDiff, reduceCtorEq, Nat.reduceLT, Int.reduceLT, Int.reduceLE, Int.reduceEq, Int.reduceToNat, Nat.reduceMul]
    · rw [decide_eq_true (by omega)] at hr
      rw [if_neg hm]
      by_cases h0 : v = 0
      · have d0 : decide (v = 0) = true := decide_eq_true h0
        rw [if_pos h0]
        simp only [go_sem, s_floats_To, ↓reduceIte, Nat.reduceEqDiff, Nat.reduceAdd, Nat.reduceLeDiff, reduceCtorEq, Nat.reduceLT, Int.reduceLT, Int.reduceLE, Int.reduceEq, Int.reduceToNat, Nat.reduceMul]
        refine Cl_plain hr ?_
        simp only [go_sem, d0, ↓reduceIte, Nat.reduceEqDiff, Nat.reduceAdd, Nat.reduceLeDiff, reduceCtorEq, Nat.reduceLT, Int.reduceLT, Int.reduceLE, Int.reduceEq, Int.reduceToNat, Nat.reduceMul]
        refine wends (by first | exact Or.inl rfl | exact Or.inr rfl) ?_ (by first | rfl | simp [AV.ids, idsL])
        simp only [go_sem, r_floats_To, ↓reduceIte, Nat.reduceEqDiff, Nat.reduceAdd, Nat.reduceLeDiff, reduceCtorEq, Nat.reduceLT, Int.reduceLT, Int.reduceLE, Int.reduceEq, Int.reduceToNat, Nat.reduceMul]
      · have d0 : decide (v = 0) = false := decide_eq_false h0
        rw [if_neg h0]
        have hb := toB'_range (v := v.natAbs) (by omega) (by omega)
        have hq := f_floats_ratio v.natAbs (by omega) (by omega)
        have hng := neg_fl (b := toB' v.natAbs) (by omega)
        by_cases hn : v < 0
        · have dn : decide (v < 0) = true := decide_eq_true hn
          have e1 : IntKind.i64.wrap (0 - v) = (v.natAbs : Int) := by rw [wrap_i64_of (by omega) (by omega)]; omega
          have e2 : IntKind.u64.wrap (v.natAbs : Int) = (v.natAbs : Int) := by rw [wrap_u64]; omega
          rw [if_pos hn]
          simp only [go_sem, s_floats_To, ↓reduceIte, Nat.reduceEqDiff, Nat.reduceAdd, Nat.reduceLeDiff, reduceCtorEq, Nat.reduceLT, Int.reduceLT, Int.reduceLE, Int.reduceEq, Int.reduceToNat, Nat.reduceMul]
          refine Cl_plain hr ?_
          simp only [go_sem, d0, dn, e1, e2, ↓reduceIte, Nat.reduceEqDiff, Nat.reduceAdd, Nat.reduceLeDiff, reduceCtorEq, Nat.reduceLT, Int.reduceLT, Int.reduceLE, Int.reduceEq, Int.reduceToNat, Nat.reduceMul]
          refine Cl_plain hq ?_
          simp only [go_sem, hng, ↓reduceIte, Nat.reduceEqDiff, Nat.reduceAdd, Nat.reduceLeDiff, reduceCtorEq, Nat.reduceLT, Int.reduceLT, Int.reduceLE, Int.reduceEq, Int.reduceToNat, Nat.reduceMul]
          refine wends (by first | exact Or.inl rfl | exact Or.inr rfl) ?_ (by first | rfl | simp [AV.ids, idsL])
          simp only [go_sem, r_floats_To, ↓reduceIte, Nat.reduceEqDiff, Nat.reduceAdd, Nat.reduceLeDiff, reduceCtorEq, Nat.reduceLT, Int.reduceLT, Int.reduceLE, Int.reduceEq, Int.reduceToNat, Nat.reduceMul]
        · have dn : decide (v < 0) = false := decide_eq_false hn
          have e2 : IntKind.u64.wrap v = (v.natAbs : Int) := by rw [wrap_u64]; omega
          rw [if_neg hn]
          simp only [go_sem, s_floats_To, ↓reduceIte, Nat.reduceEqDiff, Nat.reduceAdd, Nat.reduceLeDiff, reduceCtorEq, Nat.reduceLT, Int.reduceLT, Int.reduceLE, Int.reduceEq, Int.reduceToNat, Nat.reduceMul]
          refine Cl_plain hr ?_
          simp only [go_sem, d0, dn, e2, ↓reduceIte, Nat.reduceEqDiff, Nat.reduceAdd, Nat.reduceLeDiff, reduceCtorEq, Nat.reduceLT, Int.reduceLT, Int.reduceLE, Int.reduceEq, Int.reduceToNat, Nat.reduceMul]
          refine Cl_plain hq ?_
          simp only [go_sem, ↓reduceIte, Nat.reduceEqDiff, Nat.reduceAdd, Nat.reduceLeDiff, reduceCtorEq, Nat.reduceLT, Int.reduceLT, Int.reduceLE, Int.reduceEq, Int.reduceToNat, Nat.reduceMul]
          refine wends (by first | exact Or.inl rfl | exact Or.inr rfl) ?_ (by first | rfl | simp [AV.ids, idsL])
          simp only [go_sem, r_floats_To, ↓reduceIte, Nat.reduceEqDiff, Nat.reduceAdd, Nat.reduceLeDiff, reduceCtorEq, Nat.reduceLT, Int.reduceLT, Int.reduceLE, Int.reduceEq, Int.reduceToNat, Nat.reduceMul]
  · rw [if_pos (.inl rfl)]
    simp only [go_sem, s_floats_To, ↓reduceIte, Nat.reduceEqDiff, Nat.reduceAdd, Nat.reduceLeDiff, reduceCtorEq, Nat.reduceLT, Int.reduceLT, Int.reduceLE, Int.reduceEq, Int.reduceToNat, Nat.reduceMul]
    refine Cl_plain f_math_NaN ?_
    simp only [go_sem, ↓reduceIte, Nat.reduceEqDiff, Nat.reduceAdd, Nat.reduceLeDiff, reduceCtorEq, Nat.reduceLT, Int.reduceLT, Int.reduceLE, Int.reduceEq, Int.reduceToNat, Nat.reduceMul]
    refine wends (by first | exact Or.inl rfl | exact Or.inr rfl) ?_ (by first | rfl | simp [AV.ids, idsL])
    simp only [go_sem, r_floats_To, ↓reduceIte, Nat.reduceEqDiff, Nat.reduceAdd, Nat.reduceLeDiff, reduceCtorEq, Nat.reduceLT, Int.reduceLT, Int.reduceLE, Int.reduceEq, Int.reduceToNat, Nat.reduceMul]

theorem f_ref04_twice (a : Nat) (h : a < 340282366920938463463374607431768211456) : Meets Try.prog E0 n_ref04_twice [WV a] [] (WV (2 * a % 340282366920938463463374607431768211456)) [] := by
  refine m_ref04_twice (by simp) (shut0 rfl) (shut0 rfl) (by simp) (by simp [keysOf]) ?_
  simp only [go_sem, s_ref04_twice, ↓reduceIte, Nat.reduceEqDiff, Nat.reduceAdd, Nat.reduceLeDiff, reduceCtorEq, Nat.reduceLT, Int.reduceLT, Int.reduceLE, Int.reduceEq, Int.reduceToNat, Nat.reduceMul]
  refine Cl_plain (f_ref01_Double a h) ?_
  simp only [go_sem, ↓reduceIte, Nat.reduceEqDiff, Nat.reduceAdd, Nat.reduceLeDiff, reduceCtorEq, Nat.reduceLT, Int.reduceLT, Int.reduceLE, Int.reduceEq, Int.reduceToNat, Nat.reduceMul]
  refine wends (by first | exact Or.inl rfl | exact Or.inr rfl) ?_ (by first | rfl | simp [AV.ids, idsL])
  simp only [go_sem, r_ref04_twice, ↓reduceIte, Nat.reduceEqDiff, Nat.reduceAdd, Nat.reduceLeDiff, reduceCtorEq, Nat.reduceLT, Int.reduceLT, Int.reduceLE, Int.reduceEq, Int.reduceToNat, Nat.reduceMul]

theorem f_ref04_less (a b : Nat) (h : b ≤ a) (ha : a < 340282366920938463463374607431768211456) : Meets Try.prog E0 n_ref04_less [WV a, WV b] [] (WV (a - b)) [] := by
  refine m_ref04_less (by simp) (shut0 rfl) (shut0 rfl) (by simp) (by simp [keysOf]) ?_
  by_cases hl : a % 18446744073709551616 < b % 18446744073709551616
  · have d : decide (a % 18446744073709551616 < b % 18446744073709551616) = true := decide_eq_true hl
    simp only [go_sem, s_ref04_less, d, ↓reduceIte, Nat.reduceEqDiff, Nat.reduceAdd, Nat.reduceLeDiff, reduceCtorEq, Nat.reduceLT, Int.reduceLT, Int.reduceLE, Int.reduceEq, Int.reduceToNat, Nat.reduceMul]
    refine wends (by first | exact Or.inl rfl | exact Or.inr rfl) ?_ (by first | rfl | simp [AV.ids, idsL])
    simp only [go_sem, r_ref04_less, ↓reduceIte, Nat.reduceEqDiff, Nat.reduceAdd, Nat.reduceLeDiff, reduceCtorEq, Nat.reduceLT, Int.reduceLT, Int.reduceLE, Int.reduceEq, Int.reduceToNat, Nat.reduceMul]
    simp only [Option.some.injEq, AV.tp.injEq, AV.ag.injEq, List.cons.injEq, AV.t.injEq, T.v.injEq, T.sl.injEq, Value.int.injEq, Value.bool.injEq, Value.string.injEq, decide_eq_decide, true_and, and_true]
    omega
  · have d : decide (a % 18446744073709551616 < b % 18446744073709551616) = false := decide_eq_false hl
    simp only [go_sem, s_ref04_less, d, ↓reduceIte, Nat.reduceEqDiff, Nat.reduceAdd, Nat.reduceLeDiff, reduceCtorEq, Nat.reduceLT, Int.reduceLT, Int.reduceLE, Int.reduceEq, Int.reduceToNat, Nat.reduceMul]
    refine wends (by first | exact Or.inl rfl | exact Or.inr rfl) ?_ (by first | rfl | simp [AV.ids, idsL])
    simp only [go_sem, r_ref04_less, ↓reduceIte, Nat.reduceEqDiff, Nat.reduceAdd, Nat.reduceLeDiff, reduceCtorEq, Nat.reduceLT, Int.reduceLT, Int.reduceLE, Int.reduceEq, Int.reduceToNat, Nat.reduceMul]
    simp only [Option.some.injEq, AV.tp.injEq, AV.ag.injEq, List.cons.injEq, AV.t.injEq, T.v.injEq, T.sl.injEq, Value.int.injEq, Value.bool.injEq, Value.string.injEq, decide_eq_decide, true_and, and_true]
    omega

theorem pack1 {sg x : Nat} (hs : sg < 2) (hx : x < 2048) : ((sg * 2 ^ min 63 64 % 18446744073709551616) % 18446744073709551616) ||| ((x * 2 ^ min 52 64 % 18446744073709551616) % 18446744073709551616) = sg * 9223372036854775808 + x * 4503599627370496 := by
  rw [show 2 ^ min 63 64 = 9223372036854775808 from rfl, show 2 ^ min 52 64 = 4503599627370496 from rfl, Nat.mod_mod, Nat.mod_mod, Nat.mod_eq_of_lt (show sg * 9223372036854775808 < 18446744073709551616 by omega), Nat.mod_eq_of_lt (show x * 4503599627370496 < 18446744073709551616 by omega), Nat.mul_comm sg, show 9223372036854775808 = 2 ^ 63 from rfl, ← Nat.two_pow_add_eq_or_of_lt (show x * 4503599627370496 < 2 ^ 63 by omega)]
theorem pack2 {sg x y : Nat} (hs : sg < 2) (hx : x < 2048) (hy : y < 4503599627370496) : ((sg * 9223372036854775808 + x * 4503599627370496) % 18446744073709551616) ||| (y % 18446744073709551616) = sg * 9223372036854775808 + x * 4503599627370496 + y := by
  rw [Nat.mod_eq_of_lt (show sg * 9223372036854775808 + x * 4503599627370496 < 18446744073709551616 by omega), Nat.mod_eq_of_lt (show y < 18446744073709551616 by omega), show sg * 9223372036854775808 + x * 4503599627370496 = 2 ^ 52 * (sg * 2048 + x) by omega, ← Nat.two_pow_add_eq_or_of_lt (show y < 2 ^ 52 from hy)]
theorem man_mod {m : Nat} (h : m < 18446744073709551616) : (m % 18446744073709551616) &&& (4503599627370495 % 18446744073709551616) = m % 4503599627370496 := by
  rw [Nat.mod_eq_of_lt h, show 4503599627370495 % 18446744073709551616 = 2 ^ 52 - 1 from rfl, Nat.and_two_pow_sub_one_eq_mod]
theorem odd_bit {m : Nat} (h : m < 18446744073709551616) : decide ((m % 18446744073709551616) &&& (1 % 18446744073709551616) = 1) = decide (m % 2 = 1) := by
  rw [Nat.mod_eq_of_lt h, show 1 % 18446744073709551616 = 2 ^ 1 - 1 from rfl, Nat.and_two_pow_sub_one_eq_mod]
theorem wide_zero (n : Nat) : (decide (n / 18446744073709551616 = 0) && decide (n % 18446744073709551616 = 0)) = decide (n = 0) := by
  rw [Bool.eq_iff_iff]; simp only [Bool.and_eq_true, decide_eq_true_eq]; omega

set_option maxHeartbeats 4000000 in
theorem f_ref04_To (x : Bool) (v : Int) (h1 : -9223372036854775808 ≤ v) (h2 : v < 9223372036854775808) : Meets Try.prog E0 n_ref04_To [NV x v] [] (Fl (toF x v)) [] := by
  refine m_ref04_To (by simp) (shut0 rfl) (shut0 rfl) (by simp) (by simp [keysOf]) ?_
  unfold toF
  cases x
  case true =>
    rw [if_pos (.inl rfl)]
    simp only [go_sem, s_ref04_To, ↓reduceIte, Nat.reduceEqDiff, Nat.reduceAdd, Nat.reduceLeDiff, reduceCtorEq, Nat.reduceLT, Int.reduceLT, Int.reduceLE, Int.reduceEq, Int.reduceToNat, Nat.reduceMul]
    refine Cl_plain (f_math_Float64frombits 9221120237041090561) ?_
    simp only [go_sem, ↓reduceIte, Nat.reduceEqDiff, Nat.reduceAdd, Nat.reduceLeDiff, reduceCtorEq, Nat.reduceLT, Int.reduceLT, Int.reduceLE, Int.reduceEq, Int.reduceToNat, Nat.reduceMul]
    refine wends (by first | exact Or.inl rfl | exact Or.inr rfl) ?_ (by first | rfl | simp [AV.ids, idsL])
    simp only [go_sem, r_ref04_To, ↓reduceIte, Nat.reduceEqDiff, Nat.reduceAdd, Nat.reduceLeDiff, reduceCtorEq, Nat.reduceLT, Int.reduceLT, Int.reduceLE, Int.reduceEq, Int.reduceToNat, Nat.reduceMul]
  have hr := f_ref02_Right false v h1
  simp only [Bool.false_eq_true, if_false, false_or] at hr ⊢
  by_cases hm : v = -9223372036854775808
  · rw [decide_eq_false (by omega)] at hr
    rw [if_pos hm]
    simp only [go_sem, s_ref04_To, ↓reduceIte, Nat.reduceEqDiff, Nat.reduceAdd, Nat.reduceLeDiff, reduceCtorEq, Nat.reduceLT, Int.reduceLT, Int.reduceLE, Int.reduceEq, Int.reduceToNat, Nat.reduceMul]
    refine Cl_plain hr ?_
    simp only [go_sem, ↓reduceIte, Nat.reduceEqDiff, Nat.reduceAdd, Nat.reduceLeDiff, reduceCtorEq, Nat.reduceLT, Int.reduceLT, Int.reduceLE, Int.reduceEq, Int.reduceToNat, Nat.reduceMul]
    refine Cl_plain (f_math_Float64frombits 9221120237041090561) ?_
    simp only [go_sem, ↓reduceIte, Nat.reduceEqDiff, Nat.reduceAdd, Nat.reduceLeDiff, reduceCtorEq, Nat.reduceLT, Int.reduceLT, Int.reduceLE, Int.reduceEq, Int.reduceToNat, Nat.reduceMul]
    refine wends (by first | exact Or.inl rfl | exact Or.inr rfl) ?_ (by first | rfl | simp [AV.ids, idsL])
    simp only [go_sem, r_ref04_To, ↓reduceIte, Nat.reduceEqDiff, Nat.reduceAdd, Nat.reduceLeDiff, reduceCtorEq, Nat.reduceLT, Int.reduceLT, Int.reduceLE, Int.reduceEq, Int.reduceToNat, Nat.reduceMul]
  rw [decide_eq_true (by omega)] at hr
  rw [if_neg hm]
  by_cases h0 : v = 0
  · have d0 : decide (v = 0) = true := decide_eq_true h0
    rw [if_pos h0]
    simp only [go_sem, s_ref04_To, ↓reduceIte, Nat.reduceEqDiff, Nat.reduceAdd, Nat.reduceLeDiff, reduceCtorEq, Nat.reduceLT, Int.reduceLT, Int.reduceLE, Int.reduceEq, Int.reduceToNat, Nat.reduceMul]
    refine Cl_plain hr ?_
    simp only [go_sem, d0, ↓reduceIte, Nat.reduceEqDiff, Nat.reduceAdd, Nat.reduceLeDiff, reduceCtorEq, Nat.reduceLT, Int.reduceLT, Int.reduceLE, Int.reduceEq, Int.reduceToNat, Nat.reduceMul]
    refine wends (by first | exact Or.inl rfl | exact Or.inr rfl) ?_ (by first | rfl | simp [AV.ids, idsL])
    simp only [go_sem, r_ref04_To, ↓reduceIte, Nat.reduceEqDiff, Nat.reduceAdd, Nat.reduceLeDiff, reduceCtorEq, Nat.reduceLT, Int.reduceLT, Int.reduceLE, Int.reduceEq, Int.reduceToNat, Nat.reduceMul]
  have d0 : decide (v = 0) = false := decide_eq_false h0
  rw [if_neg h0]
  obtain ⟨a, sg, ha1, ha2, hsg, hout⟩ : ∃ a sg : Nat, 1 ≤ a ∧ a < 9223372036854775808 ∧ (sg = 1 ∧ v < 0 ∧ v = -(a : Int) ∨ sg = 0 ∧ ¬ v < 0 ∧ v = (a : Int)) ∧ (if v < 0 then 9223372036854775808 + toB' v.natAbs else toB' v.natAbs) = sg * 9223372036854775808 + toB' a := by
    by_cases hn : v < 0
    · exact ⟨v.natAbs, 1, by omega, by omega, .inl ⟨rfl, hn, by omega⟩, by rw [if_pos hn, Nat.one_mul]⟩
    · exact ⟨v.natAbs, 0, by omega, by omega, .inr ⟨rfl, hn, by omega⟩, by rw [if_neg hn, Nat.zero_mul, Nat.zero_add]⟩
  rw [hout]
  have eu : IntKind.u64.wrap (a : Int) = (a : Int) := by rw [wrap_u64]; omega
  have hsb : sg < 2 := by omega
  rcases hsg with ⟨hsg, hn, hv⟩ | ⟨hsg, hn, hv⟩
  case' inl =>
    have dn : decide (v < 0) = true := decide_eq_true hn
    have e1 : IntKind.i64.wrap (0 - v) = (a : Int) := by rw [wrap_i64_of (by omega) (by omega)]; omega
    simp only [go_sem, s_ref04_To, ↓reduceIte, Nat.reduceEqDiff, Nat.reduceAdd, Nat.reduceLeDiff, reduceCtorEq, Nat.reduceLT, Int.reduceLT, Int.reduceLE, Int.reduceEq, Int.reduceToNat, Nat.reduceMul]
    refine Cl_plain hr ?_
    simp only [go_sem, d0, ↓reduceIte, Nat.reduceEqDiff, Nat.reduceAdd, Nat.reduceLeDiff, reduceCtorEq, Nat.reduceLT, Int.reduceLT, Int.reduceLE, Int.reduceEq, Int.reduceToNat, Nat.reduceMul]
    ((try (with_reducible refine R_fin (by repeat' (first | exact okp0 | refine okp rfl rfl rfl ?_)) ?_)); (try simp only [go_sem, d0, dn, e1, eu, ↓reduceIte, Nat.reduceEqDiff, Nat.reduceAdd, Nat.reduceLeDiff, reduceCtorEq, Nat.reduceLT, Int.reduceLT, Int.reduceLE, Int.reduceEq, Int.reduceToNat, Nat.reduceMul]))
  case' inr =>
    have dn : decide (v < 0) = false := decide_eq_false hn
    have e1 : v = (a : Int) := hv
    simp only [go_sem, s_ref04_To, ↓reduceIte, Nat.reduceEqDiff, Nat.reduceAdd, Nat.reduceLeDiff, reduceCtorEq, Nat.reduceLT, Int.reduceLT, Int.reduceLE, Int.reduceEq, Int.reduceToNat, Nat.reduceMul]
    refine Cl_plain hr ?_
    simp only [go_sem, d0, ↓reduceIte, Nat.reduceEqDiff, Nat.reduceAdd, Nat.reduceLeDiff, reduceCtorEq, Nat.reduceLT, Int.reduceLT, Int.reduceLE, Int.reduceEq, Int.reduceToNat, Nat.reduceMul]
    ((try (with_reducible refine R_fin (by repeat' (first | exact okp0 | refine okp rfl rfl rfl ?_)) ?_)); (try simp only [go_sem, d0, dn, ↓reduceIte, Nat.reduceEqDiff, Nat.reduceAdd, Nat.reduceLeDiff, reduceCtorEq, Nat.reduceLT, Int.reduceLT, Int.reduceLE, Int.reduceEq, Int.reduceToNat, Nat.reduceMul]))
    rw [e1]
    simp only [go_sem, eu, ↓reduceIte, Nat.reduceEqDiff, Nat.reduceAdd, Nat.reduceLeDiff, reduceCtorEq, Nat.reduceLT, Int.reduceLT, Int.reduceLE, Int.reduceEq, Int.reduceToNat, Nat.reduceMul]
  all_goals
    clear e1 dn hr d0 h0 hn hv hm h1 h2 hout eu
    have hz : ∀ P, a < 18446744073709551616 := fun _ => by omega
    refine W_loop (fun j : Nat => 64 - j) (fun j => j ≤ 63 ∧ (j = 0 ∨ 1000000 * 2 ^ j ≤ a))
      (fun j => [(3, U (sg : Nat)), (5, .ptr 129 0), (6, .ptr 130 0), (7, I j)])
      (fun j => [(129, .box [U (0 : Nat), U (a : Nat)]), (130, .box [U (1000000 * 2 ^ j / 18446744073709551616 : Nat), U (1000000 * 2 ^ j % 18446744073709551616 : Nat)])]) 0 ⟨by decide, .inl rfl⟩ ?_ ?_
  case inl.refine_1 =>
    simp only [hsg]
    exact (subL [] [] (by simp [envS, go_sem, wkV, wkL, AV.ids, idsL, keysOf, ren, stoOf, slTrees, AV.asOwn, rowPart, AV.isNil, shA, rowsT, cellsT, cellT, wkLL] <;> assumption) (by simp [stoS, go_sem, wkV, wkL, wkO, AV.ids, Ob.ids, idsL, keysOf, ren, AV.one, stoOf, slTrees, AV.asOwn, rowPart, AV.isNil, shA, rowsT, cellsT, cellT, wkLL] <;> assumption) (by simp [keysOf, ren]) (by simp [stoOf, keysOf, ren]) (by simp [keysOf, ren]) (by simp [keysOf, ren]))
  case inr.refine_1 =>
    simp only [hsg]
    exact (subL [] [] (by simp [envS, go_sem, wkV, wkL, AV.ids, idsL, keysOf, ren, stoOf, slTrees, AV.asOwn, rowPart, AV.isNil, shA, rowsT, cellsT, cellT, wkLL] <;> assumption) (by simp [stoS, go_sem, wkV, wkL, wkO, AV.ids, Ob.ids, idsL, keysOf, ren, AV.one, stoOf, slTrees, AV.asOwn, rowPart, AV.isNil, shA, rowsT, cellsT, cellT, wkLL] <;> assumption) (by simp [keysOf, ren]) (by simp [stoOf, keysOf, ren]) (by simp [keysOf, ren]) (by simp [keysOf, ren]))
  all_goals
    clear hsg
    rintro j ⟨hj, hja⟩
    have hpj : 1 ≤ 2 ^ j := Nat.two_pow_pos j
    have hD63 : 1000000 * 2 ^ j ≤ 9223372036854775808 := by
      rcases hja with h | h
      · rw [h]; decide
      · omega
    have hj52 : j ≤ 52 := by
      refine Nat.not_lt.1 fun h => ?_
      have : 2 ^ 53 ≤ 2 ^ j := Nat.pow_le_pow_right (by decide) h
      rw [show (2 : Nat) ^ 53 = 9007199254740992 from by decide] at this
      omega
    have hs1 : 1000000 * 2 ^ (j + 1) = 2 * (1000000 * 2 ^ j) := by rw [Nat.pow_succ, Nat.mul_comm (2 ^ j), Nat.mul_left_comm]
    have hwa : WV a = .ag [U (0 : Nat), U (a : Nat)] := by rw [WV, Nat.div_eq_of_lt (by omega), Nat.mod_eq_of_lt (by omega)]
    obtain ⟨D, hD⟩ : ∃ D, 1000000 * 2 ^ j = D := ⟨_, rfl⟩
    rw [hD] at hja hD63 hs1 ⊢
    have hD1 : 1000000 ≤ D := by rw [← hD]; omega
    have htw := f_ref04_twice D (by omega)
    rw [Nat.mod_eq_of_lt (show 2 * D < 340282366920938463463374607431768211456 by omega)] at htw
    have hls := f_ref01_Less a (2 * D)
    rw [hwa] at hls
    by_cases hlt : a < 2 * D
    · rw [decide_eq_true hlt] at hls
      simp only [go_sem, s_ref04_To_b0, ↓reduceIte, Nat.reduceEqDiff, Nat.reduceAdd, Nat.reduceLeDiff, reduceCtorEq, Nat.reduceLT, Int.reduceLT, Int.reduceLE, Int.reduceEq, Int.reduceToNat, Nat.reduceMul]
      refine Cl_plain htw ?_
      simp only [go_sem, ↓reduceIte, Nat.reduceEqDiff, Nat.reduceAdd, Nat.reduceLeDiff, reduceCtorEq, Nat.reduceLT, Int.reduceLT, Int.reduceLE, Int.reduceEq, Int.reduceToNat, Nat.reduceMul]
      refine Cl_plain hls ?_
      simp only [go_sem, ↓reduceIte, Nat.reduceEqDiff, Nat.reduceAdd, Nat.reduceLeDiff, reduceCtorEq, Nat.reduceLT, Int.reduceLT, Int.reduceLE, Int.reduceEq, Int.reduceToNat, Nat.reduceMul]
      ((try (with_reducible refine R_fin (by repeat' (first | exact okp0 | refine okp rfl rfl rfl ?_)) ?_)); (try simp only [go_sem, s_ref04_To_t5, ↓reduceIte, Nat.reduceEqDiff, Nat.reduceAdd, Nat.reduceLeDiff, reduceCtorEq, Nat.reduceLT, Int.reduceLT, Int.reduceLE, Int.reduceEq, Int.reduceToNat, Nat.reduceMul]))
      clear htw hls
      refine W_loop (fun i : Nat => D - a * 2 ^ i) (fun i => i ≤ 70 ∧ (i = 0 ∨ (j = 0 ∧ a * 2 ^ i < 2 * D)))
        (fun i => [(3, U (sg : Nat)), (5, .ptr 129 0), (6, .ptr 130 0), (7, I ((j : Int) - (i : Int)))])
        (fun i => [(129, .box [U (a * 2 ^ i / 18446744073709551616 : Nat), U (a * 2 ^ i % 18446744073709551616 : Nat)]), (130, .box [U (D / 18446744073709551616 : Nat), U (D % 18446744073709551616 : Nat)])]) 0 ⟨by decide, .inl rfl⟩ ?_ ?_
      · simp only [Nat.pow_zero, Nat.mul_one, Int.natCast_zero, Int.sub_zero]
        rw [show a / 18446744073709551616 = 0 from Nat.div_eq_of_lt (by omega), show a % 18446744073709551616 = a from Nat.mod_eq_of_lt (by omega)]
        exact (subL [] [] (by simp [envS, go_sem, wkV, wkL, AV.ids, idsL, keysOf, ren, stoOf, slTrees, AV.asOwn, rowPart, AV.isNil, shA, rowsT, cellsT, cellT, wkLL] <;> assumption) (by simp [stoS, go_sem, wkV, wkL, wkO, AV.ids, Ob.ids, idsL, keysOf, ren, AV.one, stoOf, slTrees, AV.asOwn, rowPart, AV.isNil, shA, rowsT, cellsT, cellT, wkLL] <;> assumption) (by simp [keysOf, ren]) (by simp [stoOf, keysOf, ren]) (by simp [keysOf, ren]) (by simp [keysOf, ren]))
      rintro i ⟨hi70, hi⟩
      have hRD : a * 2 ^ i < 2 * D := by
        rcases hi with h | h
        · rw [h, Nat.pow_zero, Nat.mul_one]; exact hlt
        · exact h.2
      have hs2 : a * 2 ^ (i + 1) = 2 * (a * 2 ^ i) := by rw [Nat.pow_succ, Nat.mul_comm (2 ^ i), Nat.mul_left_comm]
      have hpi : 2 ^ i ≤ a * 2 ^ i := by have := Nat.mul_le_mul_right (2 ^ i) ha1; rwa [Nat.one_mul] at this
      have hi64 : i < 65 := by
        refine Nat.not_le.1 fun h => ?_
        have : 2 ^ 65 ≤ 2 ^ i := Nat.pow_le_pow_right (by decide) h
        rw [show (2 : Nat) ^ 65 = 36893488147419103232 from by decide] at this
        omega
      have hpi1 : 1 ≤ 2 ^ i := Nat.two_pow_pos i
      obtain ⟨R, hR⟩ : ∃ R, a * 2 ^ i = R := ⟨_, rfl⟩
      rw [hR] at hRD hs2 hpi hi ⊢
      have hls := f_ref01_Less R D
      by_cases hrd : R < D
      · rw [decide_eq_true hrd] at hls
        have hj0 : i + 1 = 0 ∨ (j = 0 ∧ a * 2 ^ (i + 1) < 2 * D) := by
          right
          rw [hs2]
          refine ⟨?_, by omega⟩
          rcases hi with h | h
          · subst h
            rw [Nat.pow_zero, Nat.mul_one] at hR
            rcases hja with h | h
            · exact h
            · omega
          · exact h.1
        have htw := f_ref04_twice R (by omega)
        rw [Nat.mod_eq_of_lt (show 2 * R < 340282366920938463463374607431768211456 by omega), ← hs2] at htw
        have es : IntKind.i64.wrap ((j : Int) - (i : Int) - 1) = (j : Int) - ((i + 1 : Nat) : Int) := by rw [wrap_i64_of (by omega) (by omega)]; omega
        have hmeas : D - a * 2 ^ (i + 1) < D - a * 2 ^ i := by rw [hs2, hR]; omega
        simp only [go_sem, s_ref04_To_b1, ↓reduceIte, Nat.reduceEqDiff, Nat.reduceAdd, Nat.reduceLeDiff, reduceCtorEq, Nat.reduceLT, Int.reduceLT, Int.reduceLE, Int.reduceEq, Int.reduceToNat, Nat.reduceMul]
        refine Cl_plain hls ?_
        simp only [go_sem, ↓reduceIte, Nat.reduceEqDiff, Nat.reduceAdd, Nat.reduceLeDiff, reduceCtorEq, Nat.reduceLT, Int.reduceLT, Int.reduceLE, Int.reduceEq, Int.reduceToNat, Nat.reduceMul]
        refine Cl_plain htw ?_
        simp only [go_sem, es, ↓reduceIte, Nat.reduceEqDiff, Nat.reduceAdd, Nat.reduceLeDiff, reduceCtorEq, Nat.reduceLT, Int.reduceLT, Int.reduceLE, Int.reduceEq, Int.reduceToNat, Nat.reduceMul]
        exact rd_of (i + 1) hmeas ⟨by omega, hj0⟩ (subL [] [] (by simp [envS, go_sem, wkV, wkL, AV.ids, idsL, keysOf, ren, stoOf, slTrees, AV.asOwn, rowPart, AV.isNil, shA, rowsT, cellsT, cellT, wkLL] <;> assumption) (by simp [stoS, go_sem, wkV, wkL, wkO, AV.ids, Ob.ids, idsL, keysOf, ren, AV.one, stoOf, slTrees, AV.asOwn, rowPart, AV.isNil, shA, rowsT, cellsT, cellT, wkLL] <;> assumption) (by simp [keysOf, ren]) (by simp [stoOf, keysOf, ren]) (by simp [keysOf, ren]) (by simp [keysOf, ren]))
      · rw [decide_eq_false hrd] at hls
        have hij : i = 0 ∨ j = 0 := hi.imp id (·.1)
        obtain ⟨hk, hrh⟩ := ref_k (v := a) hij hj52 (by rw [hR, hD]; omega) (by rw [hR, hD]; exact hRD)
        have hto := toB'_of ha1 (by omega) hk
        rw [hrh, hR, hD] at hto
        have hrg := rhe_range hk
        rw [hrh, hR, hD] at hrg
        rw [hto]
        simp only [go_sem, s_ref04_To_b1, ↓reduceIte, Nat.reduceEqDiff, Nat.reduceAdd, Nat.reduceLeDiff, reduceCtorEq, Nat.reduceLT, Int.reduceLT, Int.reduceLE, Int.reduceEq, Int.reduceToNat, Nat.reduceMul]
        refine Cl_plain hls ?_
        simp only [go_sem, s_ref04_To_t4, ↓reduceIte, Nat.reduceEqDiff, Nat.reduceAdd, Nat.reduceLeDiff, reduceCtorEq, Nat.reduceLT, Int.reduceLT, Int.reduceLE, Int.reduceEq, Int.reduceToNat, Nat.reduceMul]
        have hRb : R < 18446744073709551616 := by omega
        clear hls hrh hk hto hs1 hs2 hja hi hpj hpi hpi1 hlt hwa
        refine W_loop (fun s : Nat × Nat × Nat => 54 - s.1) (fun s => s.1 ≤ 54 ∧ s.2.1 < 2 ^ s.1 ∧ R * 2 ^ s.1 = 2 * s.2.1 * D + s.2.2 ∧ s.2.2 < 2 * D)
          (fun s => [(3, U (sg : Nat)), (5, .ptr 129 0), (6, .ptr 130 0), (7, I ((j : Int) - (i : Int))), (8, U (s.2.1 : Nat)), (9, I s.1)])
          (fun s => [(129, .box [U (s.2.2 / 18446744073709551616 : Nat), U (s.2.2 % 18446744073709551616 : Nat)]), (130, .box [U (D / 18446744073709551616 : Nat), U (D % 18446744073709551616 : Nat)])]) (0, 0, R) ⟨Nat.zero_le _, by simp, by simp, hRD⟩ (subL [] [] (by simp [envS, go_sem, wkV, wkL, AV.ids, idsL, keysOf, ren, stoOf, slTrees, AV.asOwn, rowPart, AV.isNil, shA, rowsT, cellsT, cellT, wkLL] <;> assumption) (by simp [stoS, go_sem, wkV, wkL, wkO, AV.ids, Ob.ids, idsL, keysOf, ren, AV.one, stoOf, slTrees, AV.asOwn, rowPart, AV.isNil, shA, rowsT, cellsT, cellT, wkLL] <;> assumption) (by simp [keysOf, ren]) (by simp [stoOf, keysOf, ren]) (by simp [keysOf, ren]) (by simp [keysOf, ren])) ?_
        rintro ⟨t, m, n⟩ ⟨ht, hmt, hinv, hnD⟩
        simp only at ht hmt hinv hnD ⊢
        by_cases htl : t < 54
        · have dt : decide ((t : Int) < 54) = true := decide_eq_true (by omega)
          have hm54 : m < 18014398509481984 := Nat.lt_of_lt_of_le hmt (by
            have : 2 ^ t ≤ 2 ^ 54 := Nat.pow_le_pow_right (by decide) ht
            rwa [show (2 : Nat) ^ 54 = 18014398509481984 from by decide] at this)
          have hsl : m * 2 ^ min 1 64 % 18446744073709551616 = m * 2 := by rw [show 2 ^ min 1 64 = 2 from rfl, Nat.mod_eq_of_lt (by omega)]
          have hor := or_one (q := m * 2) (by omega)
          rw [show m * 2 / 2 * 2 + 1 = m * 2 + 1 by omega] at hor
          have hor2 : m * 2 ||| 1 % 18446744073709551616 = m * 2 + 1 := by rw [← hor, Nat.mod_eq_of_lt (show m * 2 < 18446744073709551616 by omega)]
          have et : IntKind.i64.wrap ((t : Int) + 1) = ((t + 1 : Nat) : Int) := wadd1 rfl (by omega)
          have hX : 2 * m * D = 2 * (m * D) := Nat.mul_assoc _ _ _
          have hX2 : 2 * (m * 2) * D = 4 * (m * D) := by rw [← Nat.mul_assoc, Nat.mul_right_comm, Nat.mul_assoc 2, Nat.mul_assoc 2, Nat.mul_comm (m * D) 2, ← Nat.mul_assoc]
          have hX3 : 2 * (m * 2 + 1) * D = 4 * (m * D) + 2 * D := by rw [Nat.mul_add, Nat.add_mul, hX2]
          have hR2 : R * 2 ^ (t + 1) = 2 * (R * 2 ^ t) := by rw [Nat.pow_succ, Nat.mul_comm (2 ^ t), Nat.mul_left_comm]
          have hp2 : (2 : Nat) ^ (t + 1) = 2 * 2 ^ t := by rw [Nat.pow_succ, Nat.mul_comm]
          have hls := f_ref01_Less n D
          by_cases hnd : n < D
          · rw [decide_eq_true hnd] at hls
            have htw := f_ref04_twice n (by omega)
            rw [Nat.mod_eq_of_lt (show 2 * n < 340282366920938463463374607431768211456 by omega)] at htw
            simp only [go_sem, s_ref04_To_b2, dt, hsl, ↓reduceIte, Nat.reduceEqDiff, Nat.reduceAdd, Nat.reduceLeDiff, reduceCtorEq, Nat.reduceLT, Int.reduceLT, Int.reduceLE, Int.reduceEq, Int.reduceToNat, Nat.reduceMul]
            refine Cl_plain hls ?_
            simp only [go_sem, ↓reduceIte, Nat.reduceEqDiff, Nat.reduceAdd, Nat.reduceLeDiff, reduceCtorEq, Nat.reduceLT, Int.reduceLT, Int.reduceLE, Int.reduceEq, Int.reduceToNat, Nat.reduceMul]
            refine Cl_plain htw ?_
            simp only [go_sem, et, ↓reduceIte, Nat.reduceEqDiff, Nat.reduceAdd, Nat.reduceLeDiff, reduceCtorEq, Nat.reduceLT, Int.reduceLT, Int.reduceLE, Int.reduceEq, Int.reduceToNat, Nat.reduceMul]
            exact rd_of (t + 1, m * 2, 2 * n) (by first | omega | (simp only; omega)) ⟨by simp only; omega, by simp only; rw [hp2]; omega, by simp only; rw [hR2, hinv, hX2, hX]; omega, by simp only; omega⟩ (subL [] [] (by simp [envS, go_sem, wkV, wkL, AV.ids, idsL, keysOf, ren, stoOf, slTrees, AV.asOwn, rowPart, AV.isNil, shA, rowsT, cellsT, cellT, wkLL] <;> assumption) (by simp [stoS, go_sem, wkV, wkL, wkO, AV.ids, Ob.ids, idsL, keysOf, ren, AV.one, stoOf, slTrees, AV.asOwn, rowPart, AV.isNil, shA, rowsT, cellsT, cellT, wkLL] <;> assumption) (by simp [keysOf, ren]) (by simp [stoOf, keysOf, ren]) (by simp [keysOf, ren]) (by simp [keysOf, ren]))
          · rw [decide_eq_false hnd] at hls
            have hle := f_ref04_less n D (by omega) (by omega)
            have htw := f_ref04_twice (n - D) (by omega)
            rw [Nat.mod_eq_of_lt (show 2 * (n - D) < 340282366920938463463374607431768211456 by omega)] at htw
            simp only [go_sem, s_ref04_To_b2, dt, hsl, ↓reduceIte, Nat.reduceEqDiff, Nat.reduceAdd, Nat.reduceLeDiff, reduceCtorEq, Nat.reduceLT, Int.reduceLT, Int.reduceLE, Int.reduceEq, Int.reduceToNat, Nat.reduceMul]
            refine Cl_plain hls ?_
            simp only [go_sem, hor, hor2, ↓reduceIte, Nat.reduceEqDiff, Nat.reduceAdd, Nat.reduceLeDiff, reduceCtorEq, Nat.reduceLT, Int.reduceLT, Int.reduceLE, Int.reduceEq, Int.reduceToNat, Nat.reduceMul]
            refine Cl_plain hle ?_
            simp only [go_sem, ↓reduceIte, Nat.reduceEqDiff, Nat.reduceAdd, Nat.reduceLeDiff, reduceCtorEq, Nat.reduceLT, Int.reduceLT, Int.reduceLE, Int.reduceEq, Int.reduceToNat, Nat.reduceMul]
            refine Cl_plain htw ?_
            simp only [go_sem, et, ↓reduceIte, Nat.reduceEqDiff, Nat.reduceAdd, Nat.reduceLeDiff, reduceCtorEq, Nat.reduceLT, Int.reduceLT, Int.reduceLE, Int.reduceEq, Int.reduceToNat, Nat.reduceMul]
            exact rd_of (t + 1, m * 2 + 1, 2 * (n - D)) (by first | omega | (simp only; omega)) ⟨by simp only; omega, by simp only; rw [hp2]; omega, by simp only; rw [hR2, hinv, hX3, hX]; omega, by simp only; omega⟩ (subL [] [] (by simp [envS, go_sem, wkV, wkL, AV.ids, idsL, keysOf, ren, stoOf, slTrees, AV.asOwn, rowPart, AV.isNil, shA, rowsT, cellsT, cellT, wkLL] <;> assumption) (by simp [stoS, go_sem, wkV, wkL, wkO, AV.ids, Ob.ids, idsL, keysOf, ren, AV.one, stoOf, slTrees, AV.asOwn, rowPart, AV.isNil, shA, rowsT, cellsT, cellT, wkLL] <;> assumption) (by simp [keysOf, ren]) (by simp [stoOf, keysOf, ren]) (by simp [keysOf, ren]) (by simp [keysOf, ren]))
        · obtain rfl : t = 54 := by omega
          have dt : decide ((54 : Int) < 54) = false := rfl
          have dt2 : decide (((54 : Nat) : Int) < 54) = false := rfl
          rw [show (2 : Nat) ^ 54 = 18014398509481984 from by decide] at hmt hinv
          have hrr := ref_round rfl hinv hnD
          rw [hrr] at hrg ⊢
          clear hrr hinv hnD hRD hRb hD1 hD63
          have b1 := odd_bit (m := m) (by omega)
          have b2 := odd_bit (m := m / 2) (by omega)
          have b3 : m / 2 ^ min 1 64 = m / 2 := rfl
          have b4 := wide_zero n
          have b5 : (m / 2 + 1) % 18446744073709551616 = m / 2 + 1 := Nat.mod_eq_of_lt (by omega)
          have b6 : (9007199254740992 : Nat) / 2 ^ min 1 64 = 4503599627370496 := rfl
          have ee : IntKind.i64.wrap ((j : Int) - (i : Int) + 1) = (j : Int) - (i : Int) + 1 := wrap_i64_of (by omega) (by omega)
          have ee2 : IntKind.i64.wrap ((j : Int) - (i : Int) + 1 + 1023) = ((j + 1024 - i : Nat) : Int) := by rw [wrap_i64_of (by omega) (by omega)]; omega
          have ee3 : IntKind.i64.wrap ((j : Int) - (i : Int) + 1023) = ((j + 1023 - i : Nat) : Int) := by rw [wrap_i64_of (by omega) (by omega)]; omega
          have eu2 : IntKind.u64.wrap ((j + 1024 - i : Nat) : Int) = ((j + 1024 - i : Nat) : Int) := by rw [wrap_u64]; omega
          have eu3 : IntKind.u64.wrap ((j + 1023 - i : Nat) : Int) = ((j + 1023 - i : Nat) : Int) := by rw [wrap_u64]; omega
          have k1 := pack1 (x := j + 1024 - i) hsb (by omega)
          have k2 := pack1 (x := j + 1023 - i) hsb (by omega)
          have fin : ∀ y : Nat, 4503599627370496 ≤ y → y ≤ 9007199254740992 → y = 9007199254740992 ∧ sg * 9223372036854775808 + (j + 1024 - i) * 4503599627370496 + 0 = sg * 9223372036854775808 + ((1074 - (52 + i - j)) * 4503599627370496 + y) ∨ y ≠ 9007199254740992 ∧ (y % 18446744073709551616) &&& (4503599627370495 % 18446744073709551616) = y - 4503599627370496 ∧ y - 4503599627370496 < 4503599627370496 ∧ sg * 9223372036854775808 + (j + 1023 - i) * 4503599627370496 + (y - 4503599627370496) = sg * 9223372036854775808 + ((1074 - (52 + i - j)) * 4503599627370496 + y) := by
            intro y y1 y2
            by_cases hy : y = 9007199254740992
            · exact .inl ⟨hy, by omega⟩
            · exact .inr ⟨hy, by rw [man_mod (by omega)]; omega, by omega, by omega⟩
          have key : ∀ y : Nat, (if m % 2 = 1 ∧ (n ≠ 0 ∨ m / 2 % 2 = 1) then m / 2 + 1 else m / 2) = y → _ := fun y hy => fin y (hy ▸ hrg.1) (hy ▸ hrg.2)
          by_cases c1 : m % 2 = 1 ∧ (n ≠ 0 ∨ m / 2 % 2 = 1)
          · have key := key (m / 2 + 1) (if_pos c1)
            rw [if_pos c1]
            rw [decide_eq_true c1.1] at b1
            by_cases hn0 : n = 0
            · have qn : decide (n = 0) = true := decide_eq_true hn0
              rw [decide_eq_true (show m / 2 % 2 = 1 by omega)] at b2
              rcases key with ⟨hy, ho⟩ | ⟨hy, hmk, hlt, ho⟩
              · have hdy : decide (m / 2 = 9007199254740991) = true := decide_eq_true (by omega)
                have hdv : (m / 2 + 1) / 2 ^ min 1 64 = 4503599627370496 := by rw [hy]; rfl
                have hmk : (4503599627370496 % 18446744073709551616) &&& (4503599627370495 % 18446744073709551616) = 0 := by decide
                have hpk := pack2 (x := j + 1024 - i) (y := 0) hsb (by omega) (by decide)
                rw [← ho]
                simp only [go_sem, s_ref04_To_b2, s_ref04_To_t3, dt, dt2, b4, b1, b3, qn, b2, b5, hdy, hdv, ee, ee2, eu2, k1, hmk, hpk, ↓reduceIte, Nat.reduceEqDiff, Nat.reduceAdd, Nat.reduceLeDiff, reduceCtorEq, Nat.reduceLT, Int.reduceLT, Int.reduceLE, Int.reduceEq, Int.reduceToNat, Nat.reduceMul]
                refine Cl_plain (f_math_Float64frombits _) ?_
                simp only [go_sem, ↓reduceIte, Nat.reduceEqDiff, Nat.reduceAdd, Nat.reduceLeDiff, reduceCtorEq, Nat.reduceLT, Int.reduceLT, Int.reduceLE, Int.reduceEq, Int.reduceToNat, Nat.reduceMul]
                refine wends (by first | exact Or.inl rfl | exact Or.inr rfl) ?_ (by first | rfl | simp [AV.ids, idsL])
                simp only [go_sem, r_ref04_To, ↓reduceIte, Nat.reduceEqDiff, Nat.reduceAdd, Nat.reduceLeDiff, reduceCtorEq, Nat.reduceLT, Int.reduceLT, Int.reduceLE, Int.reduceEq, Int.reduceToNat, Nat.reduceMul]
              · have hdy : decide (m / 2 = 9007199254740991) = false := decide_eq_false (by omega)
                rw [b5] at hmk
                have hpk := pack2 (x := j + 1023 - i) (y := m / 2 + 1 - 4503599627370496) hsb (by omega) hlt
                rw [← ho]
                simp only [go_sem, s_ref04_To_b2, s_ref04_To_t3, dt, dt2, b4, b1, b3, qn, b2, b5, hdy, ee3, eu3, k2, hmk, hpk, ↓reduceIte, Nat.reduceEqDiff, Nat.reduceAdd, Nat.reduceLeDiff, reduceCtorEq, Nat.reduceLT, Int.reduceLT, Int.reduceLE, Int.reduceEq, Int.reduceToNat, Nat.reduceMul]
                refine Cl_plain (f_math_Float64frombits _) ?_
                simp only [go_sem, ↓reduceIte, Nat.reduceEqDiff, Nat.reduceAdd, Nat.reduceLeDiff, reduceCtorEq, Nat.reduceLT, Int.reduceLT, Int.reduceLE, Int.reduceEq, Int.reduceToNat, Nat.reduceMul]
                refine wends (by first | exact Or.inl rfl | exact Or.inr rfl) ?_ (by first | rfl | simp [AV.ids, idsL])
                simp only [go_sem, r_ref04_To, ↓reduceIte, Nat.reduceEqDiff, Nat.reduceAdd, Nat.reduceLeDiff, reduceCtorEq, Nat.reduceLT, Int.reduceLT, Int.reduceLE, Int.reduceEq, Int.reduceToNat, Nat.reduceMul]
            · have qn : decide (n = 0) = false := decide_eq_false hn0
              rcases key with ⟨hy, ho⟩ | ⟨hy, hmk, hlt, ho⟩
              · have hdy : decide (m / 2 = 9007199254740991) = true := decide_eq_true (by omega)
                have hdv : (m / 2 + 1) / 2 ^ min 1 64 = 4503599627370496 := by rw [hy]; rfl
                have hmk : (4503599627370496 % 18446744073709551616) &&& (4503599627370495 % 18446744073709551616) = 0 := by decide
                have hpk := pack2 (x := j + 1024 - i) (y := 0) hsb (by omega) (by decide)
                rw [← ho]
                simp only [go_sem, s_ref04_To_b2, s_ref04_To_t3, dt, dt2, b4, b1, b3, qn, b5, hdy, hdv, ee, ee2, eu2, k1, hmk, hpk, ↓reduceIte, Nat.reduceEqDiff, Nat.reduceAdd, Nat.reduceLeDiff, reduceCtorEq, Nat.reduceLT, Int.reduceLT, Int.reduceLE, Int.reduceEq, Int.reduceToNat, Nat.reduceMul]
                refine Cl_plain (f_math_Float64frombits _) ?_
                simp only [go_sem, ↓reduceIte, Nat.reduceEqDiff, Nat.reduceAdd, Nat.reduceLeDiff, reduceCtorEq, Nat.reduceLT, Int.reduceLT, Int.reduceLE, Int.reduceEq, Int.reduceToNat, Nat.reduceMul]
                refine wends (by first | exact Or.inl rfl | exact Or.inr rfl) ?_ (by first | rfl | simp [AV.ids, idsL])
                simp only [go_sem, r_ref04_To, ↓reduceIte, Nat.reduceEqDiff, Nat.reduceAdd, Nat.reduceLeDiff, reduceCtorEq, Nat.reduceLT, Int.reduceLT, Int.reduceLE, Int.reduceEq, Int.reduceToNat, Nat.reduceMul]
              · have hdy : decide (m / 2 = 9007199254740991) = false := decide_eq_false (by omega)
                rw [b5] at hmk
                have hpk := pack2 (x := j + 1023 - i) (y := m / 2 + 1 - 4503599627370496) hsb (by omega) hlt
                rw [← ho]
                simp only [go_sem, s_ref04_To_b2, s_ref04_To_t3, dt, dt2, b4, b1, b3, qn, b5, hdy, ee3, eu3, k2, hmk, hpk, ↓reduceIte, Nat.reduceEqDiff, Nat.reduceAdd, Nat.reduceLeDiff, reduceCtorEq, Nat.reduceLT, Int.reduceLT, Int.reduceLE, Int.reduceEq, Int.reduceToNat, Nat.reduceMul]
                refine Cl_plain (f_math_Float64frombits _) ?_
                simp only [go_sem, ↓reduceIte, Nat.reduceEqDiff, Nat.reduceAdd, Nat.reduceLeDiff, reduceCtorEq, Nat.reduceLT, Int.reduceLT, Int.reduceLE, Int.reduceEq, Int.reduceToNat, Nat.reduceMul]
                refine wends (by first | exact Or.inl rfl | exact Or.inr rfl) ?_ (by first | rfl | simp [AV.ids, idsL])
                simp only [go_sem, r_ref04_To, ↓reduceIte, Nat.reduceEqDiff, Nat.reduceAdd, Nat.reduceLeDiff, reduceCtorEq, Nat.reduceLT, Int.reduceLT, Int.reduceLE, Int.reduceEq, Int.reduceToNat, Nat.reduceMul]
          · have key := key (m / 2) (if_neg c1)
            rw [if_neg c1]
            by_cases hm1 : m % 2 = 1
            · rw [decide_eq_true hm1] at b1
              have qn : decide (n = 0) = true := decide_eq_true (by omega)
              rw [decide_eq_false (show ¬ m / 2 % 2 = 1 by omega)] at b2
              rcases key with ⟨hy, ho⟩ | ⟨hy, hmk, hlt, ho⟩
              · have hdy : decide (m / 2 = 9007199254740992) = true := decide_eq_true hy
                have hdv : (m / 2) / 2 ^ min 1 64 = 4503599627370496 := by rw [hy]; rfl
                have hmk : (4503599627370496 % 18446744073709551616) &&& (4503599627370495 % 18446744073709551616) = 0 := by decide
                have hpk := pack2 (x := j + 1024 - i) (y := 0) hsb (by omega) (by decide)
                rw [← ho]
                simp only [go_sem, s_ref04_To_b2, s_ref04_To_t3, dt, dt2, b4, b1, b3, qn, b2, hdy, hdv, ee, ee2, eu2, k1, hmk, hpk, ↓reduceIte, Nat.reduceEqDiff, Nat.reduceAdd, Nat.reduceLeDiff, reduceCtorEq, Nat.reduceLT, Int.reduceLT, Int.reduceLE, Int.reduceEq, Int.reduceToNat, Nat.reduceMul]
                refine Cl_plain (f_math_Float64frombits _) ?_
                simp only [go_sem, ↓reduceIte, Nat.reduceEqDiff, Nat.reduceAdd, Nat.reduceLeDiff, reduceCtorEq, Nat.reduceLT, Int.reduceLT, Int.reduceLE, Int.reduceEq, Int.reduceToNat, Nat.reduceMul]
                refine wends (by first | exact Or.inl rfl | exact Or.inr rfl) ?_ (by first | rfl | simp [AV.ids, idsL])
                simp only [go_sem, r_ref04_To, ↓reduceIte, Nat.reduceEqDiff, Nat.reduceAdd, Nat.reduceLeDiff, reduceCtorEq, Nat.reduceLT, Int.reduceLT, Int.reduceLE, Int.reduceEq, Int.reduceToNat, Nat.reduceMul]
              · have hdy : decide (m / 2 = 9007199254740992) = false := decide_eq_false hy
                have hpk := pack2 (x := j + 1023 - i) (y := m / 2 - 4503599627370496) hsb (by omega) hlt
                rw [← ho]
                simp only [go_sem, s_ref04_To_b2, s_ref04_To_t3, dt, dt2, b4, b1, b3, qn, b2, hdy, ee3, eu3, k2, hmk, hpk, ↓reduceIte, Nat.reduceEqDiff, Nat.reduceAdd, Nat.reduceLeDiff, reduceCtorEq, Nat.reduceLT, Int.reduceLT, Int.reduceLE, Int.reduceEq, Int.reduceToNat, Nat.reduceMul]
                refine Cl_plain (f_math_Float64frombits _) ?_
                simp only [go_sem, ↓reduceIte, Nat.reduceEqDiff, Nat.reduceAdd, Nat.reduceLeDiff, reduceCtorEq, Nat.reduceLT, Int.reduceLT, Int.reduceLE, Int.reduceEq, Int.reduceToNat, Nat.reduceMul]
                refine wends (by first | exact Or.inl rfl | exact Or.inr rfl) ?_ (by first | rfl | simp [AV.ids, idsL])
                simp only [go_sem, r_ref04_To, ↓reduceIte, Nat.reduceEqDiff, Nat.reduceAdd, Nat.reduceLeDiff, reduceCtorEq, Nat.reduceLT, Int.reduceLT, Int.reduceLE, Int.reduceEq, Int.reduceToNat, Nat.reduceMul]
            · rw [decide_eq_false hm1] at b1
              rcases key with ⟨hy, ho⟩ | ⟨hy, hmk, hlt, ho⟩
              · have hdy : decide (m / 2 = 9007199254740992) = true := decide_eq_true hy
                have hdv : (m / 2) / 2 ^ min 1 64 = 4503599627370496 := by rw [hy]; rfl
                have hmk : (4503599627370496 % 18446744073709551616) &&& (4503599627370495 % 18446744073709551616) = 0 := by decide
                have hpk := pack2 (x := j + 1024 - i) (y := 0) hsb (by omega) (by decide)
                rw [← ho]
                simp only [go_sem, s_ref04_To_b2, s_ref04_To_t3, dt, dt2, b4, b1, b3, b2, hdy, hdv, ee, ee2, eu2, k1, hmk, hpk, ↓reduceIte, Nat.reduceEqDiff, Nat.reduceAdd, Nat.reduceLeDiff, reduceCtorEq, Nat.reduceLT, Int.reduceLT, Int.reduceLE, Int.reduceEq, Int.reduceToNat, Nat.reduceMul]
                refine Cl_plain (f_math_Float64frombits _) ?_
                simp only [go_sem, ↓reduceIte, Nat.reduceEqDiff, Nat.reduceAdd, Nat.reduceLeDiff, reduceCtorEq, Nat.reduceLT, Int.reduceLT, Int.reduceLE, Int.reduceEq, Int.reduceToNat, Nat.reduceMul]
                refine wends (by first | exact Or.inl rfl | exact Or.inr rfl) ?_ (by first | rfl | simp [AV.ids, idsL])
                simp only [go_sem, r_ref04_To, ↓reduceIte, Nat.reduceEqDiff, Nat.reduceAdd, Nat.reduceLeDiff, reduceCtorEq, Nat.reduceLT, Int.reduceLT, Int.reduceLE, Int.reduceEq, Int.reduceToNat, Nat.reduceMul]
              · have hdy : decide (m / 2 = 9007199254740992) = false := decide_eq_false hy
                have hpk := pack2 (x := j + 1023 - i) (y := m / 2 - 4503599627370496) hsb (by omega) hlt
                rw [← ho]
                simp only [go_sem, s_ref04_To_b2, s_ref04_To_t3, dt, dt2, b4, b1, b3, b2, hdy, ee3, eu3, k2, hmk, hpk, ↓reduceIte, Nat.reduceEqDiff, Nat.reduceAdd, Nat.reduceLeDiff, reduceCtorEq, Nat.reduceLT, Int.reduceLT, Int.reduceLE, Int.reduceEq, Int.reduceToNat, Nat.reduceMul]
                refine Cl_plain (f_math_Float64frombits _) ?_
                simp only [go_sem, ↓reduceIte, Nat.reduceEqDiff, Nat.reduceAdd, Nat.reduceLeDiff, reduceCtorEq, Nat.reduceLT, Int.reduceLT, Int.reduceLE, Int.reduceEq, Int.reduceToNat, Nat.reduceMul]
                refine wends (by first | exact Or.inl rfl | exact Or.inr rfl) ?_ (by first | rfl | simp [AV.ids, idsL])
                simp only [go_sem, r_ref04_To, ↓reduceIte, Nat.reduceEqDiff, Nat.reduceAdd, Nat.reduceLeDiff, reduceCtorEq, Nat.reduceLT, Int.reduceLT, Int.reduceLE, Int.reduceEq, Int.reduceToNat, Nat.reduceMul]
    · have hja2 : 1000000 * 2 ^ (j + 1) ≤ a := by rw [hs1]; omega
      rw [decide_eq_false hlt] at hls
      have ej : IntKind.i64.wrap ((j : Int) + 1) = ((j + 1 : Nat) : Int) := wadd1 rfl (by omega)
      have hdd : WV (2 * D) = WV (1000000 * 2 ^ (j + 1)) := by rw [hs1]
      rw [← hs1] at htw hls
      simp only [go_sem, s_ref04_To_b0, ↓reduceIte, Nat.reduceEqDiff, Nat.reduceAdd, Nat.reduceLeDiff, reduceCtorEq, Nat.reduceLT, Int.reduceLT, Int.reduceLE, Int.reduceEq, Int.reduceToNat, Nat.reduceMul]
      refine Cl_plain htw ?_
      simp only [go_sem, ↓reduceIte, Nat.reduceEqDiff, Nat.reduceAdd, Nat.reduceLeDiff, reduceCtorEq, Nat.reduceLT, Int.reduceLT, Int.reduceLE, Int.reduceEq, Int.reduceToNat, Nat.reduceMul]
      refine Cl_plain hls ?_
      simp only [go_sem, ↓reduceIte, Nat.reduceEqDiff, Nat.reduceAdd, Nat.reduceLeDiff, reduceCtorEq, Nat.reduceLT, Int.reduceLT, Int.reduceLE, Int.reduceEq, Int.reduceToNat, Nat.reduceMul]
      ((try (with_reducible refine R_fin (by repeat' (first | exact okp0 | refine okp rfl rfl rfl ?_)) ?_)); (try simp only [go_sem, ↓reduceIte, Nat.reduceEqDiff, Nat.reduceAdd, Nat.reduceLeDiff, reduceCtorEq, Nat.reduceLT, Int.reduceLT, Int.reduceLE, Int.reduceEq, Int.reduceToNat, Nat.reduceMul]))
      refine Cl_plain htw ?_
      simp only [go_sem, ej, ↓reduceIte, Nat.reduceEqDiff, Nat.reduceAdd, Nat.reduceLeDiff, reduceCtorEq, Nat.reduceLT, Int.reduceLT, Int.reduceLE, Int.reduceEq, Int.reduceToNat, Nat.reduceMul]
      exact rd_of (j + 1) (by first | omega | (simp only; omega)) ⟨by omega, .inr hja2⟩ (subL [] [] (by simp [envS, go_sem, wkV, wkL, AV.ids, idsL, keysOf, ren, stoOf, slTrees, AV.asOwn, rowPart, AV.isNil, shA, rowsT, cellsT, cellT, wkLL] <;> assumption) (by simp [stoS, go_sem, wkV, wkL, wkO, AV.ids, Ob.ids, idsL, keysOf, ren, AV.one, stoOf, slTrees, AV.asOwn, rowPart, AV.isNil, shA, rowsT, cellsT, cellT, wkLL] <;> assumption) (by simp [keysOf, ren]) (by simp [stoOf, keysOf, ren]) (by simp [keysOf, ren]) (by simp [keysOf, ren]))

end Go.Proofs.Ytgablplpdocniaa
