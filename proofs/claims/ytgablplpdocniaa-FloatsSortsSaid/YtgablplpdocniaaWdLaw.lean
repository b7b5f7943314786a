/- The contracts of the program's quotients, and of the laws. No statement of the seat is proved here. -/
import Derived.Test.YtgablplpdocniaaWdDiv
set_option linter.unusedSimpArgs false
set_option linter.unusedVariables false
namespace Go.Proofs.Ytgablplpdocniaa
open Go Go.Sx

theorem f_wide_Div_z (a : Nat) : Meets Try.prog E0 n_wide_Div [WV a, U (0 : Nat)] [] (.tp [WV 0, U (0 : Nat), I 1]) [] := by
  refine m_wide_Div (by simp) (shut0 rfl) (shut0 rfl) (by simp) (by simp [keysOf]) ?_
  simp only [go_sem, s_wide_Div, ↓reduceIte, Nat.reduceEqDiff, Nat.reduceAdd, Nat.reduceLeDiff, reduceCtorEq, Nat.reduceLT, Int.reduceLT, Int.reduceLE, Int.reduceEq, Int.reduceToNat, Nat.reduceMul]
  refine wends (by first | exact Or.inl rfl | exact Or.inr rfl) ?_ (by first | rfl | simp [AV.ids, idsL])
  simp only [go_sem, r_wide_Div, ↓reduceIte, Nat.reduceEqDiff, Nat.reduceAdd, Nat.reduceLeDiff, reduceCtorEq, Nat.reduceLT, Int.reduceLT, Int.reduceLE, Int.reduceEq, Int.reduceToNat, Nat.reduceMul]

theorem f_wide_Div (a d : Nat) (ha : a < 340282366920938463463374607431768211456) (hd : d < 18446744073709551616) (h0 : 0 < d) : Meets Try.prog E0 n_wide_Div [WV a, U d] [] (.tp [WV (a / d), U (a % d : Nat), I 0]) [] := by
  refine m_wide_Div (by simp) (shut0 rfl) (shut0 rfl) (by simp) (by simp [keysOf]) ?_
  have hz : ¬ d = 0 := by omega
  have hd0 : decide (d = 0) = false := by simp; omega
  have hq : a / 18446744073709551616 / d % 18446744073709551616 = a / 18446744073709551616 / d := Nat.mod_eq_of_lt (Nat.lt_of_le_of_lt (Nat.div_le_self _ _) (by omega))
  have hl : a / 18446744073709551616 % d < d := Nat.mod_lt _ h0
  simp only [go_sem, s_wide_Div, hd0, u64_quo hz, u64_rem hz, hq, ↓reduceIte, Nat.reduceEqDiff, Nat.reduceAdd, Nat.reduceLeDiff, reduceCtorEq, Nat.reduceLT, Int.reduceLT, Int.reduceLE, Int.reduceEq, Int.reduceToNat, Nat.reduceMul]
  refine Cl_plain (f_bits_Div64 (a / 18446744073709551616 % d) (a % 18446744073709551616) d (by omega) hd hl) ?_
  simp only [go_sem, ↓reduceIte, Nat.reduceEqDiff, Nat.reduceAdd, Nat.reduceLeDiff, reduceCtorEq, Nat.reduceLT, Int.reduceLT, Int.reduceLE, Int.reduceEq, Int.reduceToNat, Nat.reduceMul]
  refine wends (by first | exact Or.inl rfl | exact Or.inr rfl) ?_ (by first | rfl | simp [AV.ids, idsL])
  simp only [go_sem, r_wide_Div, ↓reduceIte, Nat.reduceEqDiff, Nat.reduceAdd, Nat.reduceLeDiff, reduceCtorEq, Nat.reduceLT, Int.reduceLT, Int.reduceLE, Int.reduceEq, Int.reduceToNat, Nat.reduceMul]
  have e : a = d * (a / 18446744073709551616 / d * 18446744073709551616) + (a / 18446744073709551616 % d * 18446744073709551616 + a % 18446744073709551616) := by
    have h1 := Nat.div_add_mod a 18446744073709551616
    have h2 := Nat.div_add_mod (a / 18446744073709551616) d
    rw [← Nat.mul_assoc, ← Nat.add_assoc, ← Nat.add_mul, h2]
    omega
  have hb : (a / 18446744073709551616 % d * 18446744073709551616 + a % 18446744073709551616) / d < 18446744073709551616 := by
    rw [Nat.div_lt_iff_lt_mul h0]
    have := Nat.mul_le_mul_right 18446744073709551616 (show a / 18446744073709551616 % d + 1 ≤ d by omega)
    omega
  have e1 : a / d = a / 18446744073709551616 / d * 18446744073709551616 + (a / 18446744073709551616 % d * 18446744073709551616 + a % 18446744073709551616) / d := by
    conv => lhs; rw [e]
    rw [Nat.mul_add_div h0]
  have e2 : a % d = (a / 18446744073709551616 % d * 18446744073709551616 + a % 18446744073709551616) % d := by
    conv => lhs; rw [e]
    rw [Nat.mul_add_mod]
  rw [← e2, e1]
  generalize (a / 18446744073709551616 % d * 18446744073709551616 + a % 18446744073709551616) / d = x at *
  generalize a / 18446744073709551616 / d = z at *
  simp only [Option.some.injEq, AV.tp.injEq, AV.ag.injEq, List.cons.injEq, AV.t.injEq, T.v.injEq, T.sl.injEq, Value.int.injEq, Value.bool.injEq, Value.string.injEq, decide_eq_decide, true_and, and_true]
  omega

end Go.Proofs.Ytgablplpdocniaa
