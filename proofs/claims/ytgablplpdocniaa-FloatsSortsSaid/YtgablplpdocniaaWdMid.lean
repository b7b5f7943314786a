/- Contracts of products and sums of wide numbers. No statement of the seat is proved here. -/
import Derived.Test.YtgablplpdocniaaWdLow
import Derived.Test.YtgablplpdocniaaSxH
set_option linter.unusedSimpArgs false
set_option linter.unusedVariables false
namespace Go.Proofs.Ytgablplpdocniaa
open Go Go.Sx

theorem f_bits_Add64 (x y c : Nat) (hc : c ≤ 1) : Meets Try.prog E0 n_bits_Add64 [U x, U y, U c] [] (.tp [U ((x + y + c) % 18446744073709551616 : Nat), U ((x + y + c) / 18446744073709551616 : Nat)]) [] :=
  add64_meets Try.func47 (by kernel_rfl) (by kernel_rfl) (by kernel_rfl) (by kernel_rfl) x y c hc

theorem f_wide_Add (a b : Nat) (ha : a < 340282366920938463463374607431768211456) (hb : b < 340282366920938463463374607431768211456) : Meets Try.prog E0 n_wide_Add [WV a, WV b] [] (.tp [WV ((a + b) % 340282366920938463463374607431768211456), Bo (decide (340282366920938463463374607431768211456 ≤ a + b))]) [] := by
  refine m_wide_Add (by simp) (shut0 rfl) (shut0 rfl) (by simp) (by simp [keysOf]) ?_
  simp only [go_sem, s_wide_Add, ↓reduceIte, Nat.reduceEqDiff, Nat.reduceAdd, Nat.reduceLeDiff, reduceCtorEq, Nat.reduceLT, Int.reduceLT, Int.reduceLE, Int.reduceEq, Int.reduceToNat, Nat.reduceMul]
  refine Cl_plain (f_bits_Add64 _ _ _ (by decide)) ?_
  simp only [go_sem, ↓reduceIte, Nat.reduceEqDiff, Nat.reduceAdd, Nat.reduceLeDiff, reduceCtorEq, Nat.reduceLT, Int.reduceLT, Int.reduceLE, Int.reduceEq, Int.reduceToNat, Nat.reduceMul]
  refine Cl_plain (f_bits_Add64 _ _ _ (by omega)) ?_
  simp only [go_sem, ↓reduceIte, Nat.reduceEqDiff, Nat.reduceAdd, Nat.reduceLeDiff, reduceCtorEq, Nat.reduceLT, Int.reduceLT, Int.reduceLE, Int.reduceEq, Int.reduceToNat, Nat.reduceMul]
  refine wends (by first | exact Or.inl rfl | exact Or.inr rfl) ?_ (by first | rfl | simp [AV.ids, idsL])
  simp only [go_sem, r_wide_Add, ↓reduceIte, Nat.reduceEqDiff, Nat.reduceAdd, Nat.reduceLeDiff, reduceCtorEq, Nat.reduceLT, Int.reduceLT, Int.reduceLE, Int.reduceEq, Int.reduceToNat, Nat.reduceMul]
  simp only [Option.some.injEq, AV.tp.injEq, AV.ag.injEq, List.cons.injEq, AV.t.injEq, T.v.injEq, T.sl.injEq, Value.int.injEq, Value.bool.injEq, Value.string.injEq, decide_eq_decide, true_and, and_true]
  omega

theorem f_ref01_Double (a : Nat) (ha : a < 340282366920938463463374607431768211456) : Meets Try.prog E0 n_ref01_Double [WV a] [] (.tp [WV (2 * a % 340282366920938463463374607431768211456), Bo (decide (340282366920938463463374607431768211456 ≤ 2 * a))]) [] := by
  refine m_ref01_Double (by simp) (shut0 rfl) (shut0 rfl) (by simp) (by simp [keysOf]) ?_
  simp only [go_sem, s_ref01_Double, ↓reduceIte, Nat.reduceEqDiff, Nat.reduceAdd, Nat.reduceLeDiff, reduceCtorEq, Nat.reduceLT, Int.reduceLT, Int.reduceLE, Int.reduceEq, Int.reduceToNat, Nat.reduceMul]
  refine R_fin (okp rfl rfl rfl okp0) ?_
  simp only [go_sem, ↓reduceIte, Nat.reduceEqDiff, Nat.reduceAdd, Nat.reduceLeDiff, reduceCtorEq, Nat.reduceLT, Int.reduceLT, Int.reduceLE, Int.reduceEq, Int.reduceToNat, Nat.reduceMul]
  refine wends (by first | exact Or.inl rfl | exact Or.inr rfl) ?_ (by first | rfl | simp [AV.ids, idsL])
  simp only [go_sem, r_ref01_Double, ↓reduceIte, Nat.reduceEqDiff, Nat.reduceAdd, Nat.reduceLeDiff, reduceCtorEq, Nat.reduceLT, Int.reduceLT, Int.reduceLE, Int.reduceEq, Int.reduceToNat, Nat.reduceMul]
  have e1 : (a / 18446744073709551616 * 2 ^ (min 1 64) % 18446744073709551616) % 18446744073709551616 ||| (a % 18446744073709551616 / 2 ^ (min 63 64)) % 18446744073709551616 = a / 18446744073709551616 * 2 % 18446744073709551616 + a % 18446744073709551616 / 9223372036854775808 := by
    have h1 : a % 18446744073709551616 / 2 ^ (min 63 64) < 2 ^ 1 := by
      rw [show 2 ^ (min 63 64) = 9223372036854775808 from rfl]; omega
    have h2 : (a / 18446744073709551616 * 2 ^ (min 1 64) % 18446744073709551616) % 18446744073709551616 = 2 ^ 1 * (a / 18446744073709551616 % 9223372036854775808) := by
      rw [show 2 ^ (min 1 64) = 2 from rfl]; omega
    rw [h2, Nat.mod_eq_of_lt (show a % 18446744073709551616 / 2 ^ (min 63 64) < 18446744073709551616 by omega), ← Nat.two_pow_add_eq_or_of_lt h1, show 2 ^ (min 63 64) = 9223372036854775808 from rfl]
    omega
  simp only [e1]
  rw [show 2 ^ (min 63 64) = 9223372036854775808 from rfl, show 2 ^ (min 1 64) = 2 from rfl]
  simp only [Option.some.injEq, AV.tp.injEq, AV.ag.injEq, List.cons.injEq, AV.t.injEq, T.v.injEq, T.sl.injEq, Value.int.injEq, Value.bool.injEq, Value.string.injEq, decide_eq_decide, true_and, and_true]
  omega

theorem mul_parts (x0 x1 y0 y1 : Nat) : (x1 * 4294967296 + x0) * (y1 * 4294967296 + y0) = x1 * y1 * 18446744073709551616 + (x1 * y0 + x0 * y1) * 4294967296 + x0 * y0 := by
  have h : x1 * 4294967296 * (y1 * 4294967296) = x1 * y1 * 18446744073709551616 := by rw [Nat.mul_mul_mul_comm]
  have h2 : x1 * 4294967296 * y0 = x1 * y0 * 4294967296 := Nat.mul_right_comm _ _ _
  have h3 : x0 * (y1 * 4294967296) = x0 * y1 * 4294967296 := (Nat.mul_assoc _ _ _).symm
  rw [Nat.add_mul, Nat.mul_add, Nat.mul_add, h, h2, h3]
  omega

theorem and_32 (n : Nat) : (n % 18446744073709551616) &&& (4294967295 % 18446744073709551616) = n % 4294967296 := by
  rw [show 4294967295 % 18446744073709551616 = 2 ^ 32 - 1 from rfl, Nat.and_two_pow_sub_one_eq_mod]; omega

theorem f_bits_Mul64 (x y : Nat) (hx : x < 18446744073709551616) (hy : y < 18446744073709551616) : Meets Try.prog E0 n_bits_Mul64 [U x, U y] [] (.tp [U (x * y / 18446744073709551616 : Nat), U (x * y % 18446744073709551616 : Nat)]) [] := by
  refine m_bits_Mul64 (by simp) (shut0 rfl) (shut0 rfl) (by simp) (by simp [keysOf]) ?_
  simp only [go_sem, s_bits_Mul64, and_32, ↓reduceIte, Nat.reduceEqDiff, Nat.reduceAdd, Nat.reduceLeDiff, reduceCtorEq, Nat.reduceLT, Int.reduceLT, Int.reduceLE, Int.reduceEq, Int.reduceToNat, Nat.reduceMul]
  refine wends (by first | exact Or.inl rfl | exact Or.inr rfl) ?_ (by first | rfl | simp [AV.ids, idsL])
  simp only [go_sem, r_bits_Mul64, ↓reduceIte, Nat.reduceEqDiff, Nat.reduceAdd, Nat.reduceLeDiff, reduceCtorEq, Nat.reduceLT, Int.reduceLT, Int.reduceLE, Int.reduceEq, Int.reduceToNat, Nat.reduceMul]
  rw [show 2 ^ (min 32 64) = 4294967296 from rfl]
  simp only [Option.some.injEq, AV.tp.injEq, AV.ag.injEq, List.cons.injEq, AV.t.injEq, T.v.injEq, T.sl.injEq, Value.int.injEq, Value.bool.injEq, Value.string.injEq, decide_eq_decide, true_and, and_true]
  have hxy := mul_parts (x % 4294967296) (x / 4294967296) (y % 4294967296) (y / 4294967296)
  rw [Nat.div_add_mod' x, Nat.div_add_mod' y] at hxy
  rw [hxy]
  have b1 : x % 4294967296 ≤ 4294967295 := by omega
  have b2 : x / 4294967296 ≤ 4294967295 := by omega
  have b3 : y % 4294967296 ≤ 4294967295 := by omega
  have b4 : y / 4294967296 ≤ 4294967295 := by omega
  have p1 := Nat.mul_le_mul b1 b3
  have p2 := Nat.mul_le_mul b1 b4
  have p3 := Nat.mul_le_mul b2 b3
  have p4 := Nat.mul_le_mul b2 b4
  clear hxy
  generalize x % 4294967296 * (y % 4294967296) = a at *
  generalize x % 4294967296 * (y / 4294967296) = b at *
  generalize x / 4294967296 * (y % 4294967296) = c at *
  generalize x / 4294967296 * (y / 4294967296) = d at *
  omega

theorem f_wide_Mul (x y : Nat) (hx : x < 18446744073709551616) (hy : y < 18446744073709551616) : Meets Try.prog E0 n_wide_Mul [U x, U y] [] (WV (x * y)) [] := by
  refine m_wide_Mul (by simp) (shut0 rfl) (shut0 rfl) (by simp) (by simp [keysOf]) ?_
  simp only [go_sem, s_wide_Mul, ↓reduceIte, Nat.reduceEqDiff, Nat.reduceAdd, Nat.reduceLeDiff, reduceCtorEq, Nat.reduceLT, Int.reduceLT, Int.reduceLE, Int.reduceEq, Int.reduceToNat, Nat.reduceMul]
  refine Cl_plain (f_bits_Mul64 x y hx hy) ?_
  simp only [go_sem, ↓reduceIte, Nat.reduceEqDiff, Nat.reduceAdd, Nat.reduceLeDiff, reduceCtorEq, Nat.reduceLT, Int.reduceLT, Int.reduceLE, Int.reduceEq, Int.reduceToNat, Nat.reduceMul]
  refine wends (by first | exact Or.inl rfl | exact Or.inr rfl) ?_ (by first | rfl | simp [AV.ids, idsL])
  simp only [go_sem, r_wide_Mul, ↓reduceIte, Nat.reduceEqDiff, Nat.reduceAdd, Nat.reduceLeDiff, reduceCtorEq, Nat.reduceLT, Int.reduceLT, Int.reduceLE, Int.reduceEq, Int.reduceToNat, Nat.reduceMul]

theorem mul_bound {x y : Nat} (hx : x < 18446744073709551616) (hy : y ≤ 18446744073709551616) : x * y < 340282366920938463463374607431768211456 := by
  have h := Nat.mul_le_mul (show x ≤ 18446744073709551615 by omega) hy
  omega

theorem f_ref01_Mul (x y : Nat) (hx : x < 18446744073709551616) (hy : y < 18446744073709551616) : Meets Try.prog E0 n_ref01_Mul [U x, U y] [] (WV (x * y)) [] := by
  refine m_ref01_Mul (by simp) (shut0 rfl) (shut0 rfl) (by simp) (by simp [keysOf]) ?_
  simp only [go_sem, s_ref01_Mul, ↓reduceIte, Nat.reduceEqDiff, Nat.reduceAdd, Nat.reduceLeDiff, reduceCtorEq, Nat.reduceLT, Int.reduceLT, Int.reduceLE, Int.reduceEq, Int.reduceToNat, Nat.reduceMul]
  refine W_loop (fun s : Nat × Nat × Nat => 64 - s.1) (fun s => s.1 ≤ 64 ∧ s.2.1 = x * (y % 2 ^ s.1) ∧ s.2.2 = x * 2 ^ s.1)
    (fun s => [(0, U x), (1, U y), (4, .ptr 100 0), (5, .ptr 101 0), (6, .ptr 104 0), (7, I s.1)])
    (fun s => [(104, .box [U (s.2.2 / 18446744073709551616 : Nat), U (s.2.2 % 18446744073709551616 : Nat)]), (101, .box [U (s.2.1 / 18446744073709551616 : Nat), U (s.2.1 % 18446744073709551616 : Nat)]), (100, .box [U (0 : Nat), U (0 : Nat)])])
    (0, 0, x) (by simp [Nat.mod_one]) ?_ ?_
  · refine subL [] [] (by simp [envS, go_sem, wkV, wkL, AV.ids, idsL, keysOf, ren]) ?_ (by simp [keysOf, ren]) (by simp) (by simp [keysOf]) (by simp [keysOf])
    simp [stoS, go_sem, wkV, wkL, wkO, AV.ids, Ob.ids, idsL, keysOf, ren, AV.one]
    omega
  · rintro ⟨i, o, p⟩ ⟨hi, ho, hp⟩
    simp only at hi ho hp
    simp only [go_sem, ↓reduceIte, Nat.reduceEqDiff, Nat.reduceAdd, Nat.reduceLeDiff, reduceCtorEq, Nat.reduceLT, Int.reduceLT, Int.reduceLE, Int.reduceEq, Int.reduceToNat, Nat.reduceMul]
    refine W_split rfl (fun h => ?_) (fun h => ?_)
    · simp at h
      have hmod : y % 2 ^ (i + 1) = y % 2 ^ i + 2 ^ i * (y / 2 ^ i % 2) := mod_next y i
      have e1 : IntKind.u64.wrap (i : Int) = (i : Int) := by rw [wrap_u64]; omega
      have ei : IntKind.i64.wrap ((i : Int) + 1) = ((i + 1 : Nat) : Int) := by rw [wrap_i64_of (by omega) (by omega)]; omega
      have h2i : 2 ^ (i + 1) ≤ 18446744073709551616 := Nat.le_trans (Nat.pow_le_pow_right (by decide) (show i + 1 ≤ 64 by omega)) (by decide)
      have hbo : x * (y % 2 ^ (i + 1)) < 340282366920938463463374607431768211456 := mul_bound hx (Nat.le_trans (Nat.le_of_lt (Nat.mod_lt _ (Nat.two_pow_pos _))) h2i)
      have hbp : x * 2 ^ (i + 1) < 340282366920938463463374607431768211456 := mul_bound hx h2i
      have hpow : x * 2 ^ (i + 1) = 2 * p := by rw [hp, Nat.pow_succ, ← Nat.mul_assoc, Nat.mul_comm]
      rw [hmod, Nat.mul_add, ← Nat.mul_assoc, ← hp, ← ho] at hbo
      rw [hpow] at hbp
      have hob : o < 340282366920938463463374607431768211456 := by omega
      simp only [go_sem, e1, and_one, Nat.min_eq_left (show i ≤ 64 by omega), ↓reduceIte, Nat.reduceEqDiff, Nat.reduceAdd, Nat.reduceLeDiff, reduceCtorEq, Nat.reduceLT, Int.reduceLT, Int.reduceLE, Int.reduceEq, Int.reduceToNat, Nat.reduceMul]
      refine W_split rfl (fun h1 => ?_) (fun h1 => ?_)
      · simp at h1
        rw [h1, Nat.mul_one] at hbo
        simp only [go_sem, ↓reduceIte, Nat.reduceEqDiff, Nat.reduceAdd, Nat.reduceLeDiff, reduceCtorEq, Nat.reduceLT, Int.reduceLT, Int.reduceLE, Int.reduceEq, Int.reduceToNat, Nat.reduceMul]
        refine Cl_plain (f_ref01_Add o p hob (by omega)) ?_
        simp only [go_sem, ↓reduceIte, Nat.reduceEqDiff, Nat.reduceAdd, Nat.reduceLeDiff, reduceCtorEq, Nat.reduceLT, Int.reduceLT, Int.reduceLE, Int.reduceEq, Int.reduceToNat, Nat.reduceMul]
        refine Cl_plain (f_ref01_Double p (by omega)) ?_
        simp only [go_sem, ei, ↓reduceIte, Nat.reduceEqDiff, Nat.reduceAdd, Nat.reduceLeDiff, reduceCtorEq, Nat.reduceLT, Int.reduceLT, Int.reduceLE, Int.reduceEq, Int.reduceToNat, Nat.reduceMul]
        refine rd_of (i + 1, o + p, 2 * p) (by simp only; omega) ⟨by simp only; omega, by simp only; rw [hmod, h1, Nat.mul_one, Nat.mul_add, ← hp, ← ho], by simp only; rw [hpow]⟩ ?_
        rw [Nat.mod_eq_of_lt hbo, Nat.mod_eq_of_lt hbp]
        exact (subL [] [] (by simp [envS, go_sem, wkV, wkL, AV.ids, idsL, keysOf, ren]) (by simp [stoS, go_sem, wkV, wkL, wkO, AV.ids, Ob.ids, idsL, keysOf, ren, AV.one]) (by simp [keysOf, ren]) (by simp) (by simp [keysOf]) (by simp [keysOf]))
      · simp at h1
        simp only [go_sem, ↓reduceIte, Nat.reduceEqDiff, Nat.reduceAdd, Nat.reduceLeDiff, reduceCtorEq, Nat.reduceLT, Int.reduceLT, Int.reduceLE, Int.reduceEq, Int.reduceToNat, Nat.reduceMul]
        refine Cl_plain (f_ref01_Double p (by omega)) ?_
        simp only [go_sem, ei, ↓reduceIte, Nat.reduceEqDiff, Nat.reduceAdd, Nat.reduceLeDiff, reduceCtorEq, Nat.reduceLT, Int.reduceLT, Int.reduceLE, Int.reduceEq, Int.reduceToNat, Nat.reduceMul]
        refine rd_of (i + 1, o, 2 * p) (by simp only; omega) ⟨by simp only; omega, by simp only; rw [hmod, show y / 2 ^ i % 2 = 0 by omega, Nat.mul_zero, Nat.add_zero, ← ho], by simp only; rw [hpow]⟩ ?_
        rw [Nat.mod_eq_of_lt hbp]
        exact (subL [] [] (by simp [envS, go_sem, wkV, wkL, AV.ids, idsL, keysOf, ren]) (by simp [stoS, go_sem, wkV, wkL, wkO, AV.ids, Ob.ids, idsL, keysOf, ren, AV.one]) (by simp [keysOf, ren]) (by simp) (by simp [keysOf]) (by simp [keysOf]))
    · simp at h
      simp only [go_sem, ↓reduceIte, Nat.reduceEqDiff, Nat.reduceAdd, Nat.reduceLeDiff, reduceCtorEq, Nat.reduceLT, Int.reduceLT, Int.reduceLE, Int.reduceEq, Int.reduceToNat, Nat.reduceMul]
      refine wends (by first | exact Or.inl rfl | exact Or.inr rfl) ?_ (by first | rfl | simp [AV.ids, idsL])
      simp only [go_sem, r_ref01_Mul, ↓reduceIte, Nat.reduceEqDiff, Nat.reduceAdd, Nat.reduceLeDiff, reduceCtorEq, Nat.reduceLT, Int.reduceLT, Int.reduceLE, Int.reduceEq, Int.reduceToNat, Nat.reduceMul]
      have e : i = 64 := by omega
      subst e
      rw [Nat.mod_eq_of_lt (show y < 2 ^ 64 from hy)] at ho
      rw [ho]

end Go.Proofs.Ytgablplpdocniaa
