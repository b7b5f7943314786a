/- A number as a float, the program's way. No statement of the seat is proved here. -/
import Derived.Test.YtgablplpdocniaaFlToM
import Derived.Test.YtgablplpdocniaaFlFrom
import Derived.Test.YtgablplpdocniaaSxH
set_option linter.unusedSimpArgs false
set_option linter.unusedVariables false
namespace Go.Proofs.Ytgablplpdocniaa
open Go Go.Sx

theorem u64_andNot (a b : Nat) : binInt .andNot .u64 a b = some (.int .u64 ((BitVec.ofNat 64 a &&& ~~~(BitVec.ofNat 64 b)).toNat : Nat)) := by
  show some (Value.int .u64 (IntKind.u64.wrap ((BitVec.ofInt 64 (a : Int) &&& ~~~(BitVec.ofInt 64 (b : Int))).toNat))) = _
  rw [bv_nat, bv_nat, u64_wrap_nat]
  congr 3
  exact Nat.mod_eq_of_lt (BitVec.isLt _)

theorem an_sign {a : Nat} (h : a < 9223372036854775808) : (BitVec.ofNat 64 a &&& ~~~(BitVec.ofNat 64 9223372036854775808)).toNat = a := by
  have e : BitVec.ofNat 64 a &&& ~~~(BitVec.ofNat 64 9223372036854775808) = BitVec.ofNat 64 a := by
    apply BitVec.eq_of_getLsbD_eq
    intro i hi
    simp only [BitVec.getLsbD_and, BitVec.getLsbD_not, BitVec.getLsbD_ofNat, hi, decide_true, Bool.true_and]
    by_cases h63 : i = 63
    · subst h63
      have : a.testBit 63 = false := Nat.testBit_lt_two_pow h
      rw [this]; rfl
    · have : (9223372036854775808 : Nat).testBit i = false := by
        rw [show 9223372036854775808 = 2 ^ 63 from rfl, Nat.testBit_two_pow]
        exact decide_eq_false (fun e => h63 e.symm)
      rw [this]; simp
  rw [e, BitVec.toNat_ofNat, Nat.mod_eq_of_lt (by omega)]

theorem an_exp {a : Nat} (h : a < 9223372036854775808) : (BitVec.ofNat 64 a &&& ~~~(BitVec.ofNat 64 9218868437227405312)).toNat = a % 4503599627370496 := by
  have e : BitVec.ofNat 64 a &&& ~~~(BitVec.ofNat 64 9218868437227405312) = BitVec.ofNat 64 (a % 4503599627370496) := by
    apply BitVec.eq_of_getLsbD_eq
    intro i hi
    simp only [BitVec.getLsbD_and, BitVec.getLsbD_not, BitVec.getLsbD_ofNat, hi, decide_true, Bool.true_and]
    rw [show 4503599627370496 = 2 ^ 52 from rfl, Nat.testBit_mod_two_pow]
    have hc : (9218868437227405312 : Nat).testBit i = (decide (52 ≤ i) && decide (i < 63)) := by
      rw [show 9218868437227405312 = 2 ^ 52 * 2047 from rfl, Nat.testBit_two_pow_mul]
      by_cases h52 : 52 ≤ i
      · rw [decide_eq_true h52, show 2047 = 2 ^ 11 - 1 from rfl, Nat.testBit_two_pow_sub_one]
        simp only [ge_iff_le, Bool.true_and, decide_eq_decide]
        omega
      · rw [decide_eq_false h52]; rfl
    rw [hc]
    by_cases h52 : i < 52
    · rw [decide_eq_true h52, decide_eq_false (show ¬ 52 ≤ i by omega)]; simp
    · rw [decide_eq_false h52, decide_eq_true (show 52 ≤ i by omega)]
      by_cases h63 : i < 63
      · rw [decide_eq_true h63]; simp
      · have hi63 : i = 63 := by omega
        subst hi63
        have : a.testBit 63 = false := Nat.testBit_lt_two_pow h
        rw [this]; rfl
  rw [e, BitVec.toNat_ofNat, Nat.mod_eq_of_lt (by omega)]

/-- A float that isn't below zero, isn't great, and isn't tiny. -/
theorem plain_fl {b : Nat} (h1 : 4503599627370496 ≤ b) (h2 : b < 9218868437227405312) : flN b = false ∧ flR b = b ∧ flNaN b = false ∧ flK b = (b : Int) := by
  have hr : flR b = b := by unfold flR; omega
  have hn : flN b = false := by unfold flN; rw [beq_eq_false_iff_ne]; omega
  refine ⟨hn, hr, ?_, ?_⟩
  · unfold flNaN; rw [hr]; exact decide_eq_false (by omega)
  · unfold flK; rw [hn, hr]; rfl

theorem f_math_Abs (b : Nat) (h : b < 9223372036854775808) : Meets Try.prog E0 n_math_Abs [Fl b] [] (Fl b) [] := by
  refine m_math_Abs (by simp) (shut0 rfl) (shut0 rfl) (by simp) (by simp [keysOf]) ?_
  have e := an_sign h
  simp only [go_sem, s_math_Abs, ↓reduceIte, Nat.reduceEqDiff, Nat.reduceAdd, Nat.reduceLeDiff, reduceCtorEq, Nat.reduceLT, Int.reduceLT, Int.reduceLE, Int.reduceEq, Int.reduceToNat, Nat.reduceMul]
  refine Cl_plain (f_math_Float64bits b) ?_
  simp only [go_sem, u64_andNot, e, ↓reduceIte, Nat.reduceEqDiff, Nat.reduceAdd, Nat.reduceLeDiff, reduceCtorEq, Nat.reduceLT, Int.reduceLT, Int.reduceLE, Int.reduceEq, Int.reduceToNat, Nat.reduceMul]
  refine Cl_plain (f_math_Float64frombits b) ?_
  simp only [go_sem, ↓reduceIte, Nat.reduceEqDiff, Nat.reduceAdd, Nat.reduceLeDiff, reduceCtorEq, Nat.reduceLT, Int.reduceLT, Int.reduceLE, Int.reduceEq, Int.reduceToNat, Nat.reduceMul]
  refine wends (by first | exact Or.inl rfl | exact Or.inr rfl) ?_ (by first | rfl | simp [AV.ids, idsL])
  simp only [go_sem, r_math_Abs, ↓reduceIte, Nat.reduceEqDiff, Nat.reduceAdd, Nat.reduceLeDiff, reduceCtorEq, Nat.reduceLT, Int.reduceLT, Int.reduceLE, Int.reduceEq, Int.reduceToNat, Nat.reduceMul]

theorem f_math_IsInf (b : Nat) (h1 : 4503599627370496 ≤ b) (h2 : b < 9218868437227405312) : Meets Try.prog E0 n_math_IsInf [Fl b, I 0] [] (Bo false) [] := by
  refine m_math_IsInf (by simp) (shut0 rfl) (shut0 rfl) (by simp) (by simp [keysOf]) ?_
  obtain ⟨p1, p2, p3, p4⟩ := plain_fl h1 h2
  have l : flLt 9218868437227405311 b = false := by
    unfold flLt
    rw [p3, p4, show flNaN 9218868437227405311 = false by decide, show flK 9218868437227405311 = 9218868437227405311 by decide, decide_eq_false (by omega)]; rfl
  have d1 : decide ((0 : Int) = 0) = true := rfl
  have d2 : decide ((0 : Int) < 0) = false := rfl
  simp only [go_sem, s_math_IsInf, d1, ↓reduceIte, Nat.reduceEqDiff, Nat.reduceAdd, Nat.reduceLeDiff, reduceCtorEq, Nat.reduceLT, Int.reduceLT, Int.reduceLE, Int.reduceEq, Int.reduceToNat, Nat.reduceMul]
  refine Cl_plain (f_math_Abs b (by omega)) ?_
  simp only [go_sem, d2, fl_gtr, l, ↓reduceIte, Nat.reduceEqDiff, Nat.reduceAdd, Nat.reduceLeDiff, reduceCtorEq, Nat.reduceLT, Int.reduceLT, Int.reduceLE, Int.reduceEq, Int.reduceToNat, Nat.reduceMul]
  refine wends (by first | exact Or.inl rfl | exact Or.inr rfl) ?_ (by first | rfl | simp [AV.ids, idsL])
  simp only [go_sem, r_math_IsInf, ↓reduceIte, Nat.reduceEqDiff, Nat.reduceAdd, Nat.reduceLeDiff, reduceCtorEq, Nat.reduceLT, Int.reduceLT, Int.reduceLE, Int.reduceEq, Int.reduceToNat, Nat.reduceMul]

theorem f_math_IsNaN (b : Nat) (h1 : 4503599627370496 ≤ b) (h2 : b < 9218868437227405312) : Meets Try.prog E0 n_math_IsNaN [Fl b] [] (Bo false) [] := by
  refine m_math_IsNaN (by simp) (shut0 rfl) (shut0 rfl) (by simp) (by simp [keysOf]) ?_
  obtain ⟨p1, p2, p3, p4⟩ := plain_fl h1 h2
  have l : flEq b b = true := by unfold flEq; rw [p3]; simp
  simp only [go_sem, s_math_IsNaN, fl_neq, l, ↓reduceIte, Nat.reduceEqDiff, Nat.reduceAdd, Nat.reduceLeDiff, reduceCtorEq, Nat.reduceLT, Int.reduceLT, Int.reduceLE, Int.reduceEq, Int.reduceToNat, Nat.reduceMul]
  refine wends (by first | exact Or.inl rfl | exact Or.inr rfl) ?_ (by first | rfl | simp [AV.ids, idsL])
  simp only [go_sem, r_math_IsNaN, ↓reduceIte, Nat.reduceEqDiff, Nat.reduceAdd, Nat.reduceLeDiff, reduceCtorEq, Nat.reduceLT, Int.reduceLT, Int.reduceLE, Int.reduceEq, Int.reduceToNat, Nat.reduceMul]

theorem f_math_normalize (b : Nat) (h1 : 4503599627370496 ≤ b) (h2 : b < 9218868437227405312) : Meets Try.prog E0 n_math_normalize [Fl b] [] (.tp [Fl b, I 0]) [] := by
  refine m_math_normalize (by simp) (shut0 rfl) (shut0 rfl) (by simp) (by simp [keysOf]) ?_
  obtain ⟨p1, p2, p3, p4⟩ := plain_fl h1 h2
  have l : flLt b 4503599627370496 = false := by
    unfold flLt
    rw [p3, p4, show flNaN 4503599627370496 = false by decide, show flK 4503599627370496 = 4503599627370496 by decide, decide_eq_false (by omega)]; rfl
  simp only [go_sem, s_math_normalize, ↓reduceIte, Nat.reduceEqDiff, Nat.reduceAdd, Nat.reduceLeDiff, reduceCtorEq, Nat.reduceLT, Int.reduceLT, Int.reduceLE, Int.reduceEq, Int.reduceToNat, Nat.reduceMul]
  refine Cl_plain (f_math_Abs b (by omega)) ?_
  simp only [go_sem, fl_lss, l, ↓reduceIte, Nat.reduceEqDiff, Nat.reduceAdd, Nat.reduceLeDiff, reduceCtorEq, Nat.reduceLT, Int.reduceLT, Int.reduceLE, Int.reduceEq, Int.reduceToNat, Nat.reduceMul]
  refine wends (by first | exact Or.inl rfl | exact Or.inr rfl) ?_ (by first | rfl | simp [AV.ids, idsL])
  simp only [go_sem, r_math_normalize, ↓reduceIte, Nat.reduceEqDiff, Nat.reduceAdd, Nat.reduceLeDiff, reduceCtorEq, Nat.reduceLT, Int.reduceLT, Int.reduceLE, Int.reduceEq, Int.reduceToNat, Nat.reduceMul]

/-- A float times a power of two. -/
theorem f_math_ldexp (q m k : Nat) (hm : m < 4503599627370496) (hq : q ≤ 1076) (hk : 75 + k ≤ q) : Meets Try.prog E0 n_math_ldexp [Fl (q * 4503599627370496 + m), I (-(k : Int))] [] (Fl ((q - k) * 4503599627370496 + m)) [] := by
  refine m_math_ldexp (by simp) (shut0 rfl) (shut0 rfl) (by simp) (by simp [keysOf]) ?_
  obtain ⟨b, hb⟩ : ∃ b, q * 4503599627370496 + m = b := ⟨_, rfl⟩
  have b1 : 4503599627370496 ≤ b := by omega
  have b2 : b < 9218868437227405312 := by omega
  have b3 : b / 4503599627370496 = q := by omega
  have b4 : b % 4503599627370496 = m := by omega
  obtain ⟨p1, p2, p3, p4⟩ := plain_fl b1 b2
  have l0 : flEq b 0 = false := by
    unfold flEq
    rw [p3, p4, show flNaN 0 = false by decide, show flK 0 = 0 by decide, decide_eq_false (by omega)]; rfl
  have x1 := an_exp (a := b) (by omega)
  rw [b4] at x1
  have e1 : IntKind.i64.wrap (-(k : Int) + 0) = -(k : Int) := by rw [wrap_i64_of (by omega) (by omega)]; omega
  have e2 : IntKind.i64.wrap ((b / 2 ^ min 52 64 : Nat) : Int) = (q : Int) := by rw [show 2 ^ min 52 64 = 4503599627370496 from rfl, b3, wrap_i64_of (by omega) (by omega)]
  have e3 : binInt .and .i64 (q : Int) 2047 = some (.int .i64 (q : Int)) := by
    have := i64_and_nat (a := q) (b := 2047) (by omega) (by decide)
    rw [show 2047 = 2 ^ 11 - 1 from rfl, Nat.and_two_pow_sub_one_eq_mod, Nat.mod_eq_of_lt (by omega)] at this
    exact this
  have e4 : IntKind.i64.wrap ((q : Int) - 1023) = (q : Int) - 1023 := wrap_i64_of (by omega) (by omega)
  have e5 : IntKind.i64.wrap (-(k : Int) + ((q : Int) - 1023)) = (q : Int) - 1023 - (k : Int) := by rw [wrap_i64_of (by omega) (by omega)]; omega
  have d1 : decide ((q : Int) - 1023 - (k : Int) < -1075) = false := decide_eq_false (by omega)
  have d2 : decide ((1023 : Int) < (q : Int) - 1023 - (k : Int)) = false := decide_eq_false (by omega)
  have d3 : decide ((q : Int) - 1023 - (k : Int) < -1022) = false := decide_eq_false (by omega)
  have e6 : IntKind.i64.wrap ((q : Int) - 1023 - (k : Int) + 1023) = ((q - k : Nat) : Int) := by rw [wrap_i64_of (by omega) (by omega)]; omega
  have e7 : IntKind.u64.wrap ((q - k : Nat) : Int) = ((q - k : Nat) : Int) := by rw [wrap_u64]; omega
  have hor : (m % 18446744073709551616) ||| ((q - k) * 2 ^ min 52 64 % 18446744073709551616 % 18446744073709551616) = (q - k) * 4503599627370496 + m := by
    rw [show 2 ^ min 52 64 = 4503599627370496 from rfl, Nat.mod_eq_of_lt (show m < 18446744073709551616 by omega), Nat.mod_mod, Nat.mod_eq_of_lt (show (q - k) * 4503599627370496 < 18446744073709551616 by omega), Nat.mul_comm, show 4503599627370496 = 2 ^ 52 from rfl, Nat.or_comm, ← Nat.two_pow_add_eq_or_of_lt hm]
  obtain ⟨y, hy⟩ : ∃ y, (q - k) * 4503599627370496 + m = y := ⟨_, rfl⟩
  obtain ⟨qk, hqk⟩ : ∃ qk, q - k = qk := ⟨_, rfl⟩
  have hmul' : FloatKind.f64.format.mul 4607182418800017408 y = some y := mul_one_fl (y := y) (by omega) (by omega)
  rw [hb, hy]
  rw [hy] at hor
  rw [hqk] at e6 e7 hor
  clear hy hqk hb b3 b4
  simp only [go_sem, s_math_ldexp, fl_eql, l0, ↓reduceIte, Nat.reduceEqDiff, Nat.reduceAdd, Nat.reduceLeDiff, reduceCtorEq, Nat.reduceLT, Int.reduceLT, Int.reduceLE, Int.reduceEq, Int.reduceToNat, Nat.reduceMul]
  refine Cl_plain (f_math_IsInf b b1 b2) ?_
  simp only [go_sem, ↓reduceIte, Nat.reduceEqDiff, Nat.reduceAdd, Nat.reduceLeDiff, reduceCtorEq, Nat.reduceLT, Int.reduceLT, Int.reduceLE, Int.reduceEq, Int.reduceToNat, Nat.reduceMul]
  refine Cl_plain (f_math_IsNaN b b1 b2) ?_
  simp only [go_sem, ↓reduceIte, Nat.reduceEqDiff, Nat.reduceAdd, Nat.reduceLeDiff, reduceCtorEq, Nat.reduceLT, Int.reduceLT, Int.reduceLE, Int.reduceEq, Int.reduceToNat, Nat.reduceMul]
  refine Cl_plain (f_math_normalize b b1 b2) ?_
  simp only [go_sem, e1, ↓reduceIte, Nat.reduceEqDiff, Nat.reduceAdd, Nat.reduceLeDiff, reduceCtorEq, Nat.reduceLT, Int.reduceLT, Int.reduceLE, Int.reduceEq, Int.reduceToNat, Nat.reduceMul]
  refine Cl_plain (f_math_Float64bits b) ?_
  simp only [go_sem, e2, e3, e4, e5, d1, d2, d3, e6, e7, u64_andNot, x1, hor, ↓reduceIte, Nat.reduceEqDiff, Nat.reduceAdd, Nat.reduceLeDiff, reduceCtorEq, Nat.reduceLT, Int.reduceLT, Int.reduceLE, Int.reduceEq, Int.reduceToNat, Nat.reduceMul]
  refine Cl_plain (f_math_Float64frombits y) ?_
  simp only [go_sem, hmul', ↓reduceIte, Nat.reduceEqDiff, Nat.reduceAdd, Nat.reduceLeDiff, reduceCtorEq, Nat.reduceLT, Int.reduceLT, Int.reduceLE, Int.reduceEq, Int.reduceToNat, Nat.reduceMul]
  refine wends (by first | exact Or.inl rfl | exact Or.inr rfl) ?_ (by first | rfl | simp [AV.ids, idsL])
  simp only [go_sem, r_math_ldexp, ↓reduceIte, Nat.reduceEqDiff, Nat.reduceAdd, Nat.reduceLeDiff, reduceCtorEq, Nat.reduceLT, Int.reduceLT, Int.reduceLE, Int.reduceEq, Int.reduceToNat, Nat.reduceMul]

theorem f_math_Ldexp (q m k : Nat) (hm : m < 4503599627370496) (hq : q ≤ 1076) (hk : 75 + k ≤ q) : Meets Try.prog E0 n_math_Ldexp [Fl (q * 4503599627370496 + m), I (-(k : Int))] [] (Fl ((q - k) * 4503599627370496 + m)) [] := by
  refine m_math_Ldexp (by simp) (shut0 rfl) (shut0 rfl) (by simp) (by simp [keysOf]) ?_
  simp only [go_sem, s_math_Ldexp, ↓reduceIte, Nat.reduceEqDiff, Nat.reduceAdd, Nat.reduceLeDiff, reduceCtorEq, Nat.reduceLT, Int.reduceLT, Int.reduceLE, Int.reduceEq, Int.reduceToNat, Nat.reduceMul]
  refine Cl_plain (f_math_ldexp q m k hm hq hk) ?_
  simp only [go_sem, ↓reduceIte, Nat.reduceEqDiff, Nat.reduceAdd, Nat.reduceLeDiff, reduceCtorEq, Nat.reduceLT, Int.reduceLT, Int.reduceLE, Int.reduceEq, Int.reduceToNat, Nat.reduceMul]
  refine wends (by first | exact Or.inl rfl | exact Or.inr rfl) ?_ (by first | rfl | simp [AV.ids, idsL])
  simp only [go_sem, r_math_Ldexp, ↓reduceIte, Nat.reduceEqDiff, Nat.reduceAdd, Nat.reduceLeDiff, reduceCtorEq, Nat.reduceLT, Int.reduceLT, Int.reduceLE, Int.reduceEq, Int.reduceToNat, Nat.reduceMul]

theorem or_one {q : Nat} (h : q < 18446744073709551616) : (q % 18446744073709551616) ||| (1 % 18446744073709551616) = q / 2 * 2 + 1 := by
  rw [Nat.mod_eq_of_lt h, show 1 % 18446744073709551616 = 1 from rfl]
  apply Nat.eq_of_testBit_eq
  intro i
  rw [Nat.testBit_or]
  cases i with
  | zero => simp [Nat.testBit_zero]
  | succ i =>
    rw [Nat.testBit_succ, Nat.testBit_succ, Nat.testBit_succ, show (q / 2 * 2 + 1) / 2 = q / 2 by omega]
    simp

theorem bits_ex {v : Nat} (h1 : 1 ≤ v) (h2 : v < 9223372036854775808) : ∃ L, Bits v L ∧ 1 ≤ L ∧ L ≤ 63 := by
  have h0 : v ≠ 0 := by omega
  refine ⟨v.log2 + 1, ⟨Nat.lt_log2_self, .inr (Nat.log2_self_le h0)⟩, by omega, ?_⟩
  have := (Nat.log2_lt h0 (k := 63)).2 h2
  omega

set_option maxHeartbeats 1000000 in
theorem f_floats_ratio (v : Nat) (h1 : 1 ≤ v) (h2 : v < 9223372036854775808) : Meets Try.prog E0 n_floats_ratio [U (v : Nat)] [] (Fl (toB' v)) [] := by
  refine m_floats_ratio (by simp) (shut0 rfl) (shut0 rfl) (by simp) (by simp [keysOf]) ?_
  obtain ⟨L, hL, hL1, hL2⟩ := bits_ex h1 h2
  obtain ⟨s, hs⟩ : ∃ s, 76 = L + s := ⟨76 - L, by omega⟩
  have hlen := f_bits_Len64 v L (by omega) hL
  have es : IntKind.i64.wrap (76 - (L : Int)) = (s : Int) := by rw [wrap_i64_of (by omega) (by omega)]; omega
  have w1 : 37778931862957161709568 ≤ v * 2 ^ s := by
    have hlo := hL.2.resolve_left (by omega)
    have : 2 ^ (L - 1) * 2 ^ s ≤ v * 2 ^ s := Nat.mul_le_mul_right _ hlo
    rwa [← Nat.pow_add, show L - 1 + s = 75 by omega] at this
  have w2 : v * 2 ^ s < 75557863725914323419136 := by
    have : v * 2 ^ s < 2 ^ L * 2 ^ s := Nat.mul_lt_mul_of_pos_right hL.1 (Nat.two_pow_pos s)
    rwa [← Nat.pow_add, ← hs] at this
  obtain ⟨w, hw⟩ : ∃ w, v * 2 ^ s = w := ⟨_, rfl⟩
  rw [hw] at w1 w2
  have hwb : w < 340282366920938463463374607431768211456 := Nat.lt_trans w2 (by decide)
  have hsh := f_wide_Shift v s (by omega) (by omega)
  rw [hw, Nat.mod_eq_of_lt hwb, decide_eq_true hwb] at hsh
  have hv : WV v = .ag [U (0 : Nat), U (v : Nat)] := by rw [WV, Nat.div_eq_of_lt (by omega), Nat.mod_eq_of_lt (by omega)]
  rw [hv] at hsh
  have hdv := f_wide_Div w 1000000 hwb (by decide) (by decide)
  have hqb : w / 1000000 < 18446744073709551616 := by clear hwb hsh hdv; omega
  have hqm : w / 1000000 % 18446744073709551616 = w / 1000000 := Nat.mod_eq_of_lt hqb
  have hor := or_one hqb
  rw [hqm] at hor
  obtain ⟨m, hmd⟩ : ∃ m, m = if w % 1000000 = 0 then w / 1000000 else w / 1000000 / 2 * 2 + 1 := ⟨_, rfl⟩
  obtain ⟨x, p, hxp, hpx, m1, m2, hk, hrh⟩ := ratio_facts hw.symm w1 w2 (by omega) hmd
  have hx3 : 3 ≤ x ∧ x ≤ 4 := by omega
  have hmb : m < 18446744073709551616 := Nat.lt_of_lt_of_le m2 (by
    have : (2 : Nat) ^ (x + 53) ≤ 2 ^ 57 := Nat.pow_le_pow_right (by decide) (by omega)
    exact Nat.le_trans this (by decide))
  have hlm := f_bits_Len64 m (x + 53) hmb ⟨m2, .inr m1⟩
  have hto := toB'_of h1 (by omega) hk
  have hrr := rhe_range hk
  rw [hto]
  rw [hrh] at hrr ⊢
  have ex : IntKind.i64.wrap (((x + 53 : Nat) : Int) - 53) = (x : Int) := by rw [wrap_i64_of (by omega) (by omega)]; omega
  have ex1 : IntKind.i64.wrap ((x : Int) - 1) = ((x - 1 : Nat) : Int) := by rw [wrap_i64_of (by omega) (by omega)]; omega
  have p1 : 2 ^ min x 64 % 18446744073709551616 = p := by rcases hxp with ⟨rfl, rfl⟩ | ⟨rfl, rfl⟩ <;> decide
  have p2 : (p + 18446744073709551616 - 1 % 18446744073709551616) % 18446744073709551616 = p - 1 := by rcases hxp with ⟨rfl, rfl⟩ | ⟨rfl, rfl⟩ <;> decide
  have p3 : (m % 18446744073709551616) &&& ((p - 1) % 18446744073709551616) = m % p := by
    rw [Nat.mod_eq_of_lt hmb]
    rcases hxp with ⟨rfl, rfl⟩ | ⟨rfl, rfl⟩
    · exact Nat.and_two_pow_sub_one_eq_mod m 3
    · exact Nat.and_two_pow_sub_one_eq_mod m 4
  have p4 : 2 ^ min (x - 1) 64 % 18446744073709551616 = p / 2 := by rcases hxp with ⟨rfl, rfl⟩ | ⟨rfl, rfl⟩ <;> decide
  have p5 : m / 2 ^ min x 64 = m / p := by rw [show min x 64 = x by omega, hpx]
  have p6 : decide ((m / p % 18446744073709551616) &&& (1 % 18446744073709551616) = 1) = decide (m / p % 2 = 1) := by
    rw [decide_eq_decide, show 1 % 18446744073709551616 = 2 ^ 1 - 1 from rfl, Nat.and_two_pow_sub_one_eq_mod, Nat.mod_eq_of_lt (Nat.lt_of_le_of_lt (Nat.div_le_self _ _) hmb)]
  have ek : IntKind.i64.wrap ((x : Int) - (s : Int)) = -((s - x : Nat) : Int) := by rw [wrap_i64_of (by omega) (by omega)]; omega
  have p7 : m / p < 9007199254740992 + 1 := by
    generalize m / p = y at *
    revert hrr
    split <;> omega
  have p8 : (m / p + 1) % 18446744073709551616 = m / p + 1 := Nat.mod_eq_of_lt (by omega)
  have last : ∀ y : Nat, 4503599627370496 ≤ y → y ≤ 9007199254740992 → FloatKind.f64.nearest (y : Int) = 1074 * 4503599627370496 + y ∧ Meets Try.prog E0 n_math_Ldexp [Fl (1074 * 4503599627370496 + y), I (-((s - x : Nat) : Int))] [] (Fl ((1074 - (s - x)) * 4503599627370496 + y)) [] := by
    intro y y1 y2
    refine ⟨near_whole y1 y2, ?_⟩
    by_cases hy : y = 9007199254740992
    · have := f_math_Ldexp 1076 0 (s - x) (by decide) (by decide) (by omega)
      rw [show 1074 * 4503599627370496 + y = 1076 * 4503599627370496 + 0 by omega, show (1074 - (s - x)) * 4503599627370496 + y = (1076 - (s - x)) * 4503599627370496 + 0 by omega]
      exact this
    · have := f_math_Ldexp 1075 (y - 4503599627370496) (s - x) (by omega) (by decide) (by omega)
      rw [show 1074 * 4503599627370496 + y = 1075 * 4503599627370496 + (y - 4503599627370496) by omega, show (1074 - (s - x)) * 4503599627370496 + y = (1075 - (s - x)) * 4503599627370496 + (y - 4503599627370496) by omega]
      exact this
  clear hk hto hrh m1 m2 hL w1 w2 hw hwb hqb hmb hpx
  have join : ∀ y : Nat, (if p / 2 < m % p ∨ (m % p = p / 2 ∧ m / p % 2 = 1) then m / p + 1 else m / p) = y → FloatKind.f64.nearest (y : Int) = 1074 * 4503599627370496 + y ∧ Meets Try.prog E0 n_math_Ldexp [Fl (1074 * 4503599627370496 + y), I (-((s - x : Nat) : Int))] [] (Fl ((1074 - (s - x)) * 4503599627370496 + (if p / 2 < m % p ∨ (m % p = p / 2 ∧ m / p % 2 = 1) then m / p + 1 else m / p))) [] := by
    intro y hy
    rw [hy] at hrr ⊢
    exact last y hrr.1 hrr.2
  generalize (1074 - (s - x)) * 4503599627370496 + (if p / 2 < m % p ∨ (m % p = p / 2 ∧ m / p % 2 = 1) then m / p + 1 else m / p) = out at *
  simp only [go_sem, s_floats_ratio, ↓reduceIte, Nat.reduceEqDiff, Nat.reduceAdd, Nat.reduceLeDiff, reduceCtorEq, Nat.reduceLT, Int.reduceLT, Int.reduceLE, Int.reduceEq, Int.reduceToNat, Nat.reduceMul]
  refine Cl_plain hlen ?_
  simp only [go_sem, es, ↓reduceIte, Nat.reduceEqDiff, Nat.reduceAdd, Nat.reduceLeDiff, reduceCtorEq, Nat.reduceLT, Int.reduceLT, Int.reduceLE, Int.reduceEq, Int.reduceToNat, Nat.reduceMul]
  refine Cl_plain hsh ?_
  simp only [go_sem, ↓reduceIte, Nat.reduceEqDiff, Nat.reduceAdd, Nat.reduceLeDiff, reduceCtorEq, Nat.reduceLT, Int.reduceLT, Int.reduceLE, Int.reduceEq, Int.reduceToNat, Nat.reduceMul]
  refine Cl_plain hdv ?_
  have hjoin : (w % 1000000 = 0 ∧ m = w / 1000000) ∨ (¬ w % 1000000 = 0 ∧ m = w / 1000000 / 2 * 2 + 1) := by
    rw [hmd]; by_cases h : w % 1000000 = 0
    · exact .inl ⟨h, if_pos h⟩
    · exact .inr ⟨h, if_neg h⟩
  rcases hjoin with ⟨j1, j2⟩ | ⟨j1, j2⟩
  case' inl =>
    have dl : decide (0 < w % 1000000) = false := decide_eq_false (by omega)
    simp only [go_sem, hqm, dl, ↓reduceIte, Nat.reduceEqDiff, Nat.reduceAdd, Nat.reduceLeDiff, reduceCtorEq, Nat.reduceLT, Int.reduceLT, Int.reduceLE, Int.reduceEq, Int.reduceToNat, Nat.reduceMul]
    rw [← j2]
  case' inr =>
    have dl : decide (0 < w % 1000000) = true := decide_eq_true (by omega)
    simp only [go_sem, hqm, dl, hor, ↓reduceIte, Nat.reduceEqDiff, Nat.reduceAdd, Nat.reduceLeDiff, reduceCtorEq, Nat.reduceLT, Int.reduceLT, Int.reduceLE, Int.reduceEq, Int.reduceToNat, Nat.reduceMul]
    rw [← j2]
  all_goals
    try simp only [go_sem, ↓reduceIte, Nat.reduceEqDiff, Nat.reduceAdd, Nat.reduceLeDiff, reduceCtorEq, Nat.reduceLT, Int.reduceLT, Int.reduceLE, Int.reduceEq, Int.reduceToNat, Nat.reduceMul]
    refine Cl_plain hlm ?_
    clear j1 j2 hmd dl hlen hsh hdv hlm hqm hor
    by_cases c1 : p / 2 < m % p
    · have q1 : decide (p / 2 < m % p) = true := decide_eq_true c1
      obtain ⟨n1, n2⟩ := join (m / p + 1) (if_pos (.inl c1))
      simp only [go_sem, ex, ex1, p1, p2, p3, p4, p5, q1, p8, n1, ek, ↓reduceIte, Nat.reduceEqDiff, Nat.reduceAdd, Nat.reduceLeDiff, reduceCtorEq, Nat.reduceLT, Int.reduceLT, Int.reduceLE, Int.reduceEq, Int.reduceToNat, Nat.reduceMul]
      refine Cl_plain n2 ?_
      simp only [go_sem, ↓reduceIte, Nat.reduceEqDiff, Nat.reduceAdd, Nat.reduceLeDiff, reduceCtorEq, Nat.reduceLT, Int.reduceLT, Int.reduceLE, Int.reduceEq, Int.reduceToNat, Nat.reduceMul]
      refine wends (by first | exact Or.inl rfl | exact Or.inr rfl) ?_ (by first | rfl | simp [AV.ids, idsL])
      simp only [go_sem, r_floats_ratio, ↓reduceIte, Nat.reduceEqDiff, Nat.reduceAdd, Nat.reduceLeDiff, reduceCtorEq, Nat.reduceLT, Int.reduceLT, Int.reduceLE, Int.reduceEq, Int.reduceToNat, Nat.reduceMul]
    · have q1 : decide (p / 2 < m % p) = false := decide_eq_false c1
      by_cases c2 : m % p = p / 2
      · have q2 : decide (m % p = p / 2) = true := decide_eq_true c2
        by_cases c3 : m / p % 2 = 1
        · rw [decide_eq_true c3] at p6
          obtain ⟨n1, n2⟩ := join (m / p + 1) (if_pos (.inr ⟨c2, c3⟩))
          simp only [go_sem, ex, ex1, p1, p2, p3, p4, p5, q1, q2, p6, p8, n1, ek, ↓reduceIte, Nat.reduceEqDiff, Nat.reduceAdd, Nat.reduceLeDiff, reduceCtorEq, Nat.reduceLT, Int.reduceLT, Int.reduceLE, Int.reduceEq, Int.reduceToNat, Nat.reduceMul]
          refine Cl_plain n2 ?_
          simp only [go_sem, ↓reduceIte, Nat.reduceEqDiff, Nat.reduceAdd, Nat.reduceLeDiff, reduceCtorEq, Nat.reduceLT, Int.reduceLT, Int.reduceLE, Int.reduceEq, Int.reduceToNat, Nat.reduceMul]
          refine wends (by first | exact Or.inl rfl | exact Or.inr rfl) ?_ (by first | rfl | simp [AV.ids, idsL])
          simp only [go_sem, r_floats_ratio, ↓reduceIte, Nat.reduceEqDiff, Nat.reduceAdd, Nat.reduceLeDiff, reduceCtorEq, Nat.reduceLT, Int.reduceLT, Int.reduceLE, Int.reduceEq, Int.reduceToNat, Nat.reduceMul]
        · rw [decide_eq_false c3] at p6
          obtain ⟨n1, n2⟩ := join (m / p) (if_neg (by omega))
          simp only [go_sem, ex, ex1, p1, p2, p3, p4, p5, q1, q2, p6, n1, ek, ↓reduceIte, Nat.reduceEqDiff, Nat.reduceAdd, Nat.reduceLeDiff, reduceCtorEq, Nat.reduceLT, Int.reduceLT, Int.reduceLE, Int.reduceEq, Int.reduceToNat, Nat.reduceMul]
          refine Cl_plain n2 ?_
          simp only [go_sem, ↓reduceIte, Nat.reduceEqDiff, Nat.reduceAdd, Nat.reduceLeDiff, reduceCtorEq, Nat.reduceLT, Int.reduceLT, Int.reduceLE, Int.reduceEq, Int.reduceToNat, Nat.reduceMul]
          refine wends (by first | exact Or.inl rfl | exact Or.inr rfl) ?_ (by first | rfl | simp [AV.ids, idsL])
          simp only [go_sem, r_floats_ratio, ↓reduceIte, Nat.reduceEqDiff, Nat.reduceAdd, Nat.reduceLeDiff, reduceCtorEq, Nat.reduceLT, Int.reduceLT, Int.reduceLE, Int.reduceEq, Int.reduceToNat, Nat.reduceMul]
      · have q2 : decide (m % p = p / 2) = false := decide_eq_false c2
        obtain ⟨n1, n2⟩ := join (m / p) (if_neg (by omega))
        simp only [go_sem, ex, ex1, p1, p2, p3, p4, p5, q1, q2, n1, ek, ↓reduceIte, Nat.reduceEqDiff, Nat.reduceAdd, Nat.reduceLeDiff, reduceCtorEq, Nat.reduceLT, Int.reduceLT, Int.reduceLE, Int.reduceEq, Int.reduceToNat, Nat.reduceMul]
        refine Cl_plain n2 ?_
        simp only [go_sem, ↓reduceIte, Nat.reduceEqDiff, Nat.reduceAdd, Nat.reduceLeDiff, reduceCtorEq, Nat.reduceLT, Int.reduceLT, Int.reduceLE, Int.reduceEq, Int.reduceToNat, Nat.reduceMul]
        refine wends (by first | exact Or.inl rfl | exact Or.inr rfl) ?_ (by first | rfl | simp [AV.ids, idsL])
        simp only [go_sem, r_floats_ratio, ↓reduceIte, Nat.reduceEqDiff, Nat.reduceAdd, Nat.reduceLeDiff, reduceCtorEq, Nat.reduceLT, Int.reduceLT, Int.reduceLE, Int.reduceEq, Int.reduceToNat, Nat.reduceMul]

end Go.Proofs.Ytgablplpdocniaa
