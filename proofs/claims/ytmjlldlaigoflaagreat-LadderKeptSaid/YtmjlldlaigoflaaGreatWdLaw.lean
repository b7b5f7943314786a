/- The contracts of the program's quotients, and of the laws. No statement of the seat is proved here. -/
import Derived.Test.YtmjlldlaigoflaaGreatWdDiv
set_option linter.unusedSimpArgs false
set_option linter.unusedVariables false
namespace Go.Proofs.YtmjlldlaigoflaaGreat
open Go Go.Sx

theorem f_wide_Div_z (a : Nat) : Meets Tryz.prog E0 n_wide_Div [WV a, U (0 : Nat)] [] (.tp [WV 0, U (0 : Nat), I 1]) [] := by
  refine m_wide_Div (by simp) (shut0 rfl) (shut0 rfl) (by simp) (by simp [keysOf]) ?_
  simp only [go_sem, s_wide_Div, ↓reduceIte, Nat.reduceEqDiff, Nat.reduceAdd, Nat.reduceLeDiff, reduceCtorEq, Nat.reduceLT, Int.reduceLT, Int.reduceLE, Int.reduceEq, Int.reduceToNat, Nat.reduceMul]
  refine wends (by first | exact Or.inl rfl | exact Or.inr rfl) ?_ (by first | rfl | simp [AV.ids, idsL])
  simp only [go_sem, r_wide_Div, ↓reduceIte, Nat.reduceEqDiff, Nat.reduceAdd, Nat.reduceLeDiff, reduceCtorEq, Nat.reduceLT, Int.reduceLT, Int.reduceLE, Int.reduceEq, Int.reduceToNat, Nat.reduceMul]

theorem f_wide_Div (a d : Nat) (ha : a < 340282366920938463463374607431768211456) (hd : d < 18446744073709551616) (h0 : 0 < d) : Meets Tryz.prog E0 n_wide_Div [WV a, U d] [] (.tp [WV (a / d), U (a % d : Nat), I 0]) [] := by
  refine m_wide_Div (by simp) (shut0 rfl) (shut0 rfl) (by simp) (by simp [keysOf]) ?_
  have hz : ¬ d = 0 := by omega
  have hd0 : decide (d = 0) = false := by simp; omega
  have hq : a / 18446744073709551616 / d % 18446744073709551616 = a / 18446744073709551616 / d := Nat.mod_eq_of_lt (Nat.lt_of_le_of_lt (Nat.div_le_self _ _) (by omega))
  have hl : a / 18446744073709551616 % d < d := Nat.mod_lt _ h0
  simp only [go_sem, s_wide_Div, hd0, u64_quo hz, u64_rem hz, hq, ↓reduceIte, Nat.reduceEqDiff, Nat.reduceAdd, Nat.reduceLeDiff, reduceCtorEq, Nat.reduceLT, Int.reduceLT, Int.reduceLE, Int.reduceEq, Int.reduceToNat, Nat.reduceMul]
  refine Cl_plain (f_bits_Div64 (a / 18446744073709551616 % d) (a % 18446744073709551616) d (by omega) hd hl) ?_
  simp only [go_sem, ↓reduceIte, Nat.reduceEqDiff, Nat.reduceAdd, Nat.reduceLeDiff, reduceCtorEq, Nat.reduceLT, Int.reduceLT, Int.reduceLE, Int.reduceEq, Int.reduceToNat, Nat.reduceMul]
  refine wends (by first | exact Or.inl rfl | exact Or.inr rfl) ?_ (by first | rfl | simp [AV.ids, idsL])
  simp only [go_sem, r_wide_Div, ↓reduceIte, Nat.reduceEqDiff, Nat.reduceAdd, Nat.reduceLeDiff, reduceCtorEq, Nat.reduceLT, Int.reduceLT, Int.reduceLE, Int.reduceEq, Int.reduceToNat, Nat.reduceMul]
  have e : a = d * (a / 18446744073709551616 / d * 18446744073709551616) + (a / 18446744073709551616 % d * 18446744073709551616 + a % 18446744073709551616) := by
    have h1 := Nat.div_add_mod a 18446744073709551616
    have h2 := Nat.div_add_mod (a / 18446744073709551616) d
    rw [← Nat.mul_assoc, ← Nat.add_assoc, ← Nat.add_mul, h2]
    omega
  have hb : (a / 18446744073709551616 % d * 18446744073709551616 + a % 18446744073709551616) / d < 18446744073709551616 := by
    rw [Nat.div_lt_iff_lt_mul h0]
    have := Nat.mul_le_mul_right 18446744073709551616 (show a / 18446744073709551616 % d + 1 ≤ d by omega)
    omega
  have e1 : a / d = a / 18446744073709551616 / d * 18446744073709551616 + (a / 18446744073709551616 % d * 18446744073709551616 + a % 18446744073709551616) / d := by
    conv => lhs; rw [e]
    rw [Nat.mul_add_div h0]
  have e2 : a % d = (a / 18446744073709551616 % d * 18446744073709551616 + a % 18446744073709551616) % d := by
    conv => lhs; rw [e]
    rw [Nat.mul_add_mod]
  rw [← e2, e1]
  generalize (a / 18446744073709551616 % d * 18446744073709551616 + a % 18446744073709551616) / d = x at *
  generalize a / 18446744073709551616 / d = z at *
  simp only [Option.some.injEq, AV.tp.injEq, AV.ag.injEq, List.cons.injEq, AV.t.injEq, T.v.injEq, T.sl.injEq, Value.int.injEq, Value.bool.injEq, Value.string.injEq, decide_eq_decide, true_and, and_true]
  omega

theorem f_wide_Round (a d : Nat) (ha : a < 340282366920938463463374607431768211456) (hd : d < 18446744073709551616) : Meets Tryz.prog E0 n_wide_Round [WV a, U d] [] (.tp [U (roundV a d), I (roundE a d)]) [] := by
  refine m_wide_Round (by simp) (shut0 rfl) (shut0 rfl) (by simp) (by simp [keysOf]) ?_
  by_cases h0 : d = 0
  · subst h0
    simp only [go_sem, s_wide_Round, ↓reduceIte, Nat.reduceEqDiff, Nat.reduceAdd, Nat.reduceLeDiff, reduceCtorEq, Nat.reduceLT, Int.reduceLT, Int.reduceLE, Int.reduceEq, Int.reduceToNat, Nat.reduceMul]
    refine Cl_plain (f_wide_Div_z a) ?_
    simp only [go_sem, show decide ((1 : Int) = 0) = false from rfl, ↓reduceIte, Nat.reduceEqDiff, Nat.reduceAdd, Nat.reduceLeDiff, reduceCtorEq, Nat.reduceLT, Int.reduceLT, Int.reduceLE, Int.reduceEq, Int.reduceToNat, Nat.reduceMul]
    refine wends (by first | exact Or.inl rfl | exact Or.inr rfl) ?_ (by first | rfl | simp [AV.ids, idsL])
    simp only [go_sem, r_wide_Round, ↓reduceIte, Nat.reduceEqDiff, Nat.reduceAdd, Nat.reduceLeDiff, reduceCtorEq, Nat.reduceLT, Int.reduceLT, Int.reduceLE, Int.reduceEq, Int.reduceToNat, Nat.reduceMul]
    simp [roundV, roundE]
  · have hr : a % d < d := Nat.mod_lt _ (by omega)
    have hq : a / d ≤ a := Nat.div_le_self _ _
    have hsub : (d + 18446744073709551616 - a % d % 18446744073709551616) % 18446744073709551616 = d - a % d := by omega
    have hz : decide ((0 : Int) = 0) = true := rfl
    simp only [go_sem, s_wide_Round, ↓reduceIte, Nat.reduceEqDiff, Nat.reduceAdd, Nat.reduceLeDiff, reduceCtorEq, Nat.reduceLT, Int.reduceLT, Int.reduceLE, Int.reduceEq, Int.reduceToNat, Nat.reduceMul]
    refine Cl_plain (f_wide_Div a d ha hd (by omega)) ?_
    simp only [go_sem, hz, hsub, ↓reduceIte, Nat.reduceEqDiff, Nat.reduceAdd, Nat.reduceLeDiff, reduceCtorEq, Nat.reduceLT, Int.reduceLT, Int.reduceLE, Int.reduceEq, Int.reduceToNat, Nat.reduceMul]
    refine W_split rfl (fun h => ?_) (fun h => ?_)
    · simp at h
      have hr1 : rnd a d = a / d + 1 := if_pos (by omega)
      have hq2 : a / d + 1 < 340282366920938463463374607431768211456 := by
        have hd2 : 2 ≤ d := by omega
        have : a / d ≤ a / 2 := Nat.div_le_div_left hd2 (by decide)
        omega
      simp only [go_sem, ↓reduceIte, Nat.reduceEqDiff, Nat.reduceAdd, Nat.reduceLeDiff, reduceCtorEq, Nat.reduceLT, Int.reduceLT, Int.reduceLE, Int.reduceEq, Int.reduceToNat, Nat.reduceMul]
      refine Cl_plain (f_wide_Add (a / d) 1 (by omega) (by omega)) ?_
      simp only [go_sem, Nat.mod_eq_of_lt hq2, ← hr1, ↓reduceIte, Nat.reduceEqDiff, Nat.reduceAdd, Nat.reduceLeDiff, reduceCtorEq, Nat.reduceLT, Int.reduceLT, Int.reduceLE, Int.reduceEq, Int.reduceToNat, Nat.reduceMul]
      refine W_split rfl (fun h1 => ?_) (fun h1 => ?_)
      · simp at h1
        simp only [go_sem, ↓reduceIte, Nat.reduceEqDiff, Nat.reduceAdd, Nat.reduceLeDiff, reduceCtorEq, Nat.reduceLT, Int.reduceLT, Int.reduceLE, Int.reduceEq, Int.reduceToNat, Nat.reduceMul]
        refine wends (by first | exact Or.inl rfl | exact Or.inr rfl) ?_ (by first | rfl | simp [AV.ids, idsL])
        simp only [go_sem, r_wide_Round, ↓reduceIte, Nat.reduceEqDiff, Nat.reduceAdd, Nat.reduceLeDiff, reduceCtorEq, Nat.reduceLT, Int.reduceLT, Int.reduceLE, Int.reduceEq, Int.reduceToNat, Nat.reduceMul]
        have h2 : 18446744073709551616 ≤ rnd a d := by omega
        simp [roundV, roundE, h0, h2]
      · simp at h1
        simp only [go_sem, ↓reduceIte, Nat.reduceEqDiff, Nat.reduceAdd, Nat.reduceLeDiff, reduceCtorEq, Nat.reduceLT, Int.reduceLT, Int.reduceLE, Int.reduceEq, Int.reduceToNat, Nat.reduceMul]
        refine wends (by first | exact Or.inl rfl | exact Or.inr rfl) ?_ (by first | rfl | simp [AV.ids, idsL])
        simp only [go_sem, r_wide_Round, ↓reduceIte, Nat.reduceEqDiff, Nat.reduceAdd, Nat.reduceLeDiff, reduceCtorEq, Nat.reduceLT, Int.reduceLT, Int.reduceLE, Int.reduceEq, Int.reduceToNat, Nat.reduceMul]
        have h2 : ¬ 18446744073709551616 ≤ rnd a d := by omega
        simp only [roundV, roundE, if_neg h0, if_neg h2]
        simp only [Option.some.injEq, AV.tp.injEq, AV.ag.injEq, List.cons.injEq, AV.t.injEq, T.v.injEq, T.sl.injEq, Value.int.injEq, Value.bool.injEq, Value.string.injEq, decide_eq_decide, true_and, and_true]
        omega
    · simp at h
      have hr1 : rnd a d = a / d := if_neg (by omega)
      simp only [go_sem, ← hr1, ↓reduceIte, Nat.reduceEqDiff, Nat.reduceAdd, Nat.reduceLeDiff, reduceCtorEq, Nat.reduceLT, Int.reduceLT, Int.reduceLE, Int.reduceEq, Int.reduceToNat, Nat.reduceMul]
      refine W_split rfl (fun h1 => ?_) (fun h1 => ?_)
      · simp at h1
        simp only [go_sem, ↓reduceIte, Nat.reduceEqDiff, Nat.reduceAdd, Nat.reduceLeDiff, reduceCtorEq, Nat.reduceLT, Int.reduceLT, Int.reduceLE, Int.reduceEq, Int.reduceToNat, Nat.reduceMul]
        refine wends (by first | exact Or.inl rfl | exact Or.inr rfl) ?_ (by first | rfl | simp [AV.ids, idsL])
        simp only [go_sem, r_wide_Round, ↓reduceIte, Nat.reduceEqDiff, Nat.reduceAdd, Nat.reduceLeDiff, reduceCtorEq, Nat.reduceLT, Int.reduceLT, Int.reduceLE, Int.reduceEq, Int.reduceToNat, Nat.reduceMul]
        have h2 : 18446744073709551616 ≤ rnd a d := by omega
        simp [roundV, roundE, h0, h2]
      · simp at h1
        simp only [go_sem, ↓reduceIte, Nat.reduceEqDiff, Nat.reduceAdd, Nat.reduceLeDiff, reduceCtorEq, Nat.reduceLT, Int.reduceLT, Int.reduceLE, Int.reduceEq, Int.reduceToNat, Nat.reduceMul]
        refine wends (by first | exact Or.inl rfl | exact Or.inr rfl) ?_ (by first | rfl | simp [AV.ids, idsL])
        simp only [go_sem, r_wide_Round, ↓reduceIte, Nat.reduceEqDiff, Nat.reduceAdd, Nat.reduceLeDiff, reduceCtorEq, Nat.reduceLT, Int.reduceLT, Int.reduceLE, Int.reduceEq, Int.reduceToNat, Nat.reduceMul]
        have h2 : ¬ 18446744073709551616 ≤ rnd a d := by omega
        simp only [roundV, roundE, if_neg h0, if_neg h2]
        simp only [Option.some.injEq, AV.tp.injEq, AV.ag.injEq, List.cons.injEq, AV.t.injEq, T.v.injEq, T.sl.injEq, Value.int.injEq, Value.bool.injEq, Value.string.injEq, decide_eq_decide, true_and, and_true]
        omega

end Go.Proofs.YtmjlldlaigoflaaGreat
