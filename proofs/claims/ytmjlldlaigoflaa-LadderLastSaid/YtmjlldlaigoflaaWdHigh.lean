/- Contracts of the document's quotients, roots and shifts of wide numbers. No statement of the seat is proved here. -/
import Derived.Test.YtmjlldlaigoflaaWdMid
set_option linter.unusedSimpArgs false
set_option linter.unusedVariables false
namespace Go.Proofs.Ytmjlldlaigoflaa
open Go Go.Sx

theorem or_bit {r b : Nat} (hb : b < 2) : (r * 2 ^ (min 1 64) % 18446744073709551616) % 18446744073709551616 ||| (b % 18446744073709551616) = 2 * r % 18446744073709551616 + b := by
  have h1 : b < 2 ^ 1 := hb
  have h2 : (r * 2 ^ (min 1 64) % 18446744073709551616) % 18446744073709551616 = 2 ^ 1 * (r % 9223372036854775808) := by
    rw [show 2 ^ (min 1 64) = 2 from rfl]; omega
  rw [h2, Nat.mod_eq_of_lt (show b < 18446744073709551616 by omega), ← Nat.two_pow_add_eq_or_of_lt h1]
  omega

theorem f_ref01_Div_z (a : Nat) : Meets Try.prog E0 n_ref01_Div [WV a, U (0 : Nat)] [] (.tp [WV 0, U (0 : Nat), I 1]) [] := by
  refine m_ref01_Div (by simp) (shut0 rfl) (shut0 rfl) (by simp) (by simp [keysOf]) ?_
  simp only [go_sem, s_ref01_Div, ↓reduceIte, Nat.reduceEqDiff, Nat.reduceAdd, Nat.reduceLeDiff, reduceCtorEq, Nat.reduceLT, Int.reduceLT, Int.reduceLE, Int.reduceEq, Int.reduceToNat, Nat.reduceMul]
  refine wends (by first | exact Or.inl rfl | exact Or.inr rfl) ?_ (by first | rfl | simp [AV.ids, idsL])
  simp only [go_sem, r_ref01_Div, ↓reduceIte, Nat.reduceEqDiff, Nat.reduceAdd, Nat.reduceLeDiff, reduceCtorEq, Nat.reduceLT, Int.reduceLT, Int.reduceLE, Int.reduceEq, Int.reduceToNat, Nat.reduceMul]

theorem div_step {a d j qq r : Nat} (hA : a / 2 ^ (j + 1) = qq * d + r) : a / 2 ^ j = 2 * (qq * d) + 2 * r + a / 2 ^ j % 2 := by
  have : a / 2 ^ (j + 1) = a / 2 ^ j / 2 := by rw [Nat.pow_succ, Nat.div_div_eq_div_mul]
  omega

theorem q_le {a d k qq r : Nat} (hd : 0 < d) (hA : a / 2 ^ k = qq * d + r) : qq * 2 ^ k ≤ a := by
  have h1 : qq ≤ a / 2 ^ k := by rw [hA]; exact Nat.le_trans (Nat.le_mul_of_pos_right qq hd) (Nat.le_add_right _ _)
  exact Nat.le_trans (Nat.mul_le_mul_right _ h1) (Nat.div_mul_le_self _ _)

theorem f_ref01_Div (a d : Nat) (ha : a < 340282366920938463463374607431768211456) (hd : d < 18446744073709551616) (h0 : 0 < d) : Meets Try.prog E0 n_ref01_Div [WV a, U d] [] (.tp [WV (a / d), U (a % d : Nat), I 0]) [] := by
  refine m_ref01_Div (by simp) (shut0 rfl) (shut0 rfl) (by simp) (by simp [keysOf]) ?_
  have hd0 : decide (d = 0) = false := by simp; omega
  simp only [go_sem, s_ref01_Div, hd0, ↓reduceIte, Nat.reduceEqDiff, Nat.reduceAdd, Nat.reduceLeDiff, reduceCtorEq, Nat.reduceLT, Int.reduceLT, Int.reduceLE, Int.reduceEq, Int.reduceToNat, Nat.reduceMul]
  refine W_loop (fun s : Nat × Nat × Nat => s.1) (fun s => s.1 ≤ 128 ∧ a / 2 ^ s.1 = s.2.1 * d + s.2.2 ∧ s.2.2 < d)
    (fun s => [(0, .undef), (1, U d), (2, .ptr 100 0), (4, .ptr 101 0), (5, U (0 : Nat)), (6, I 0), (7, .ptr 110 0), (8, U s.2.2), (9, I ((s.1 : Int) - 1))])
    (fun s => [(110, .box [U (s.2.1 * 2 ^ s.1 / 18446744073709551616 : Nat), U (s.2.1 * 2 ^ s.1 % 18446744073709551616 : Nat)]), (101, .box [U (0 : Nat), U (0 : Nat)]), (100, .box [U (a / 18446744073709551616 : Nat), U (a % 18446744073709551616 : Nat)])])
    (128, 0, 0) ⟨by decide, by simp only [Nat.zero_mul, Nat.zero_add]; exact Nat.div_eq_of_lt ha, h0⟩ ?_ ?_
  · exact (subL [] [] (by simp [envS, go_sem, wkV, wkL, AV.ids, idsL, keysOf, ren]) (by simp [stoS, go_sem, wkV, wkL, wkO, AV.ids, Ob.ids, idsL, keysOf, ren, AV.one]) (by simp [keysOf, ren]) (by simp) (by simp [keysOf]) (by simp [keysOf]))
  · rintro ⟨k, qq, r⟩ ⟨hk, hA, hr⟩
    simp only at hk hA hr
    simp only [go_sem, ↓reduceIte, Nat.reduceEqDiff, Nat.reduceAdd, Nat.reduceLeDiff, reduceCtorEq, Nat.reduceLT, Int.reduceLT, Int.reduceLE, Int.reduceEq, Int.reduceToNat, Nat.reduceMul]
    refine W_split rfl (fun h => ?_) (fun h => ?_)
    · simp at h
      obtain ⟨j, rfl⟩ : ∃ j, k = j + 1 := ⟨k - 1, by omega⟩
      have e1 : ((j + 1 : Nat) : Int) - 1 = (j : Int) := by omega
      have e2 : IntKind.i64.wrap ((j : Int) - 1) = (j : Int) - 1 := wrap_i64_of (by omega) (by omega)
      have hb := bit_lt a j
      have hstep := div_step hA
      have hq := q_le h0 hA
      simp only [go_sem, e1, ↓reduceIte, Nat.reduceEqDiff, Nat.reduceAdd, Nat.reduceLeDiff, reduceCtorEq, Nat.reduceLT, Int.reduceLT, Int.reduceLE, Int.reduceEq, Int.reduceToNat, Nat.reduceMul]
      refine Cl_plain (f_ref01_bit a j (by omega)) ?_
      simp only [go_sem, or_bit hb, ↓reduceIte, Nat.reduceEqDiff, Nat.reduceAdd, Nat.reduceLeDiff, reduceCtorEq, Nat.reduceLT, Int.reduceLT, Int.reduceLE, Int.reduceEq, Int.reduceToNat, Nat.reduceMul]
      generalize a / 2 ^ j % 2 = b at *
      have hq0 : qq * 2 ^ (j + 1) / 2 ^ j % 2 = 0 := by
        rw [Nat.pow_succ, Nat.mul_comm (2 ^ j), ← Nat.mul_assoc, Nat.mul_div_cancel _ (Nat.two_pow_pos j)]; omega
      have hqn : qq * 2 ^ (j + 1) + 2 ^ j = (2 * qq + 1) * 2 ^ j := by
        rw [Nat.add_mul, Nat.one_mul, Nat.pow_succ, Nat.mul_comm (2 ^ j), ← Nat.mul_assoc, Nat.mul_comm 2 qq]
      have hqm : qq * 2 ^ (j + 1) = (2 * qq) * 2 ^ j := by
        rw [Nat.pow_succ, Nat.mul_comm (2 ^ j), ← Nat.mul_assoc, Nat.mul_comm 2 qq]
      have hm1 : (2 * qq + 1) * d = 2 * (qq * d) + d := by rw [Nat.add_mul, Nat.one_mul, Nat.mul_assoc]
      have hm2 : (2 * qq) * d = 2 * (qq * d) := by rw [Nat.mul_assoc]
      have h63 : r / 2 ^ (min 63 64) = r / 9223372036854775808 := by rw [show 2 ^ (min 63 64) = 9223372036854775808 from rfl]
      cases ht : decide (r / 9223372036854775808 = 1)
      · simp at ht
        have ht' : decide (r / 9223372036854775808 = 1) = false := by simpa using ht
        simp only [go_sem, h63, ht', ↓reduceIte, Nat.reduceEqDiff, Nat.reduceAdd, Nat.reduceLeDiff, reduceCtorEq, Nat.reduceLT, Int.reduceLT, Int.reduceLE, Int.reduceEq, Int.reduceToNat, Nat.reduceMul]
        refine W_split rfl (fun h1 => ?_) (fun h1 => ?_)
        · simp at h1
          simp only [go_sem, ↓reduceIte, Nat.reduceEqDiff, Nat.reduceAdd, Nat.reduceLeDiff, reduceCtorEq, Nat.reduceLT, Int.reduceLT, Int.reduceLE, Int.reduceEq, Int.reduceToNat, Nat.reduceMul]
          refine Cl_plain (f_ref01_with (qq * 2 ^ (j + 1)) j (by omega) (by omega) hq0) ?_
          simp only [go_sem, e1, e2, ↓reduceIte, Nat.reduceEqDiff, Nat.reduceAdd, Nat.reduceLeDiff, reduceCtorEq, Nat.reduceLT, Int.reduceLT, Int.reduceLE, Int.reduceEq, Int.reduceToNat, Nat.reduceMul]
          refine rd_of (j, 2 * qq + 1, 2 * r + b - d) (by simp only; omega) ⟨by simp only; omega, by simp only; rw [hm1]; omega, by simp only; omega⟩ ?_
          rw [hqn, show (2 * r % 18446744073709551616 + b + 18446744073709551616 - d % 18446744073709551616) % 18446744073709551616 = 2 * r + b - d by omega]
          exact (subL [] [] (by simp [envS, go_sem, wkV, wkL, AV.ids, idsL, keysOf, ren]) (by simp [stoS, go_sem, wkV, wkL, wkO, AV.ids, Ob.ids, idsL, keysOf, ren, AV.one]) (by simp [keysOf, ren]) (by simp) (by simp [keysOf]) (by simp [keysOf]))
        · simp at h1
          simp only [go_sem, e1, e2, ↓reduceIte, Nat.reduceEqDiff, Nat.reduceAdd, Nat.reduceLeDiff, reduceCtorEq, Nat.reduceLT, Int.reduceLT, Int.reduceLE, Int.reduceEq, Int.reduceToNat, Nat.reduceMul]
          refine rd_of (j, 2 * qq, 2 * r + b) (by simp only; omega) ⟨by simp only; omega, by simp only; rw [hm2]; omega, by simp only; omega⟩ ?_
          rw [hqm, show 2 * r % 18446744073709551616 + b = 2 * r + b by omega]
          exact (subL [] [] (by simp [envS, go_sem, wkV, wkL, AV.ids, idsL, keysOf, ren]) (by simp [stoS, go_sem, wkV, wkL, wkO, AV.ids, Ob.ids, idsL, keysOf, ren, AV.one]) (by simp [keysOf, ren]) (by simp) (by simp [keysOf]) (by simp [keysOf]))
      · simp at ht
        have ht' : decide (r / 9223372036854775808 = 1) = true := by simpa using ht
        simp only [go_sem, h63, ht', ↓reduceIte, Nat.reduceEqDiff, Nat.reduceAdd, Nat.reduceLeDiff, reduceCtorEq, Nat.reduceLT, Int.reduceLT, Int.reduceLE, Int.reduceEq, Int.reduceToNat, Nat.reduceMul]
        refine Cl_plain (f_ref01_with (qq * 2 ^ (j + 1)) j (by omega) (by omega) hq0) ?_
        simp only [go_sem, e1, e2, ↓reduceIte, Nat.reduceEqDiff, Nat.reduceAdd, Nat.reduceLeDiff, reduceCtorEq, Nat.reduceLT, Int.reduceLT, Int.reduceLE, Int.reduceEq, Int.reduceToNat, Nat.reduceMul]
        refine rd_of (j, 2 * qq + 1, 2 * r + b - d) (by simp only; omega) ⟨by simp only; omega, by simp only; rw [hm1]; omega, by simp only; omega⟩ ?_
        rw [hqn, show (2 * r % 18446744073709551616 + b + 18446744073709551616 - d % 18446744073709551616) % 18446744073709551616 = 2 * r + b - d by omega]
        exact (subL [] [] (by simp [envS, go_sem, wkV, wkL, AV.ids, idsL, keysOf, ren]) (by simp [stoS, go_sem, wkV, wkL, wkO, AV.ids, Ob.ids, idsL, keysOf, ren, AV.one]) (by simp [keysOf, ren]) (by simp) (by simp [keysOf]) (by simp [keysOf]))
    · simp at h
      simp only [go_sem, ↓reduceIte, Nat.reduceEqDiff, Nat.reduceAdd, Nat.reduceLeDiff, reduceCtorEq, Nat.reduceLT, Int.reduceLT, Int.reduceLE, Int.reduceEq, Int.reduceToNat, Nat.reduceMul]
      refine wends (by first | exact Or.inl rfl | exact Or.inr rfl) ?_ (by first | rfl | simp [AV.ids, idsL])
      simp only [go_sem, r_ref01_Div, ↓reduceIte, Nat.reduceEqDiff, Nat.reduceAdd, Nat.reduceLeDiff, reduceCtorEq, Nat.reduceLT, Int.reduceLT, Int.reduceLE, Int.reduceEq, Int.reduceToNat, Nat.reduceMul]
      have e : k = 0 := by omega
      subst e
      simp only [Nat.pow_zero, Nat.div_one, Nat.mul_one] at hA ⊢
      have e1 : a / d = qq := by rw [hA, Nat.mul_comm, Nat.mul_add_div h0, Nat.div_eq_of_lt hr, Nat.add_zero]
      have e2 : a % d = r := by rw [hA, Nat.mul_comm, Nat.mul_add_mod, Nat.mod_eq_of_lt hr]
      rw [e1, e2]

end Go.Proofs.Ytmjlldlaigoflaa
