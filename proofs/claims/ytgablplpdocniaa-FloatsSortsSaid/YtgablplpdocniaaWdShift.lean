/- Contracts of the program's shifts and roots of wide numbers. No statement of the seat is proved here. -/
import Derived.Test.YtgablplpdocniaaWdLen
set_option linter.unusedSimpArgs false
set_option linter.unusedVariables false
namespace Go.Proofs.Ytgablplpdocniaa
open Go Go.Sx

theorem bits_le {x L m : Nat} (h : Bits x L) : L ≤ m ↔ x < 2 ^ m := by
  constructor
  · intro hl
    exact Nat.lt_of_lt_of_le h.1 (Nat.pow_le_pow_right (by decide) hl)
  · intro hx
    rcases h.2 with h2 | h2
    · omega
    · have := (Nat.pow_lt_pow_iff_right (show 1 < 2 by decide)).1 (Nat.lt_of_le_of_lt h2 hx)
      omega

theorem bits_exists (x : Nat) : ∃ L, Bits x L := by
  by_cases h : x = 0
  · exact ⟨0, by subst h; simp [Bits]⟩
  · exact ⟨x.log2 + 1, Nat.lt_log2_self, Or.inr (by simpa using Nat.log2_self_le h)⟩

theorem f_wide_Shift_out (a : Nat) (n : Int) (h : n < 0 ∨ 127 < n) : Meets Try.prog E0 n_wide_Shift [WV a, I n] [] (.tp [WV a, Bo false]) [] := by
  refine m_wide_Shift (by simp) (shut0 rfl) (shut0 rfl) (by simp) (by simp [keysOf]) ?_
  cases h1 : decide (n < 0)
  · simp at h1
    have h1' : decide (n < 0) = false := by simpa using h1
    have h2' : decide (127 < n) = true := by simp; omega
    simp only [go_sem, s_wide_Shift, h1', h2', ↓reduceIte, Nat.reduceEqDiff, Nat.reduceAdd, Nat.reduceLeDiff, reduceCtorEq, Nat.reduceLT, Int.reduceLT, Int.reduceLE, Int.reduceEq, Int.reduceToNat, Nat.reduceMul]
    refine wends (by first | exact Or.inl rfl | exact Or.inr rfl) ?_ (by first | rfl | simp [AV.ids, idsL])
    simp only [go_sem, r_wide_Shift, ↓reduceIte, Nat.reduceEqDiff, Nat.reduceAdd, Nat.reduceLeDiff, reduceCtorEq, Nat.reduceLT, Int.reduceLT, Int.reduceLE, Int.reduceEq, Int.reduceToNat, Nat.reduceMul]
  · simp only [go_sem, s_wide_Shift, h1, ↓reduceIte, Nat.reduceEqDiff, Nat.reduceAdd, Nat.reduceLeDiff, reduceCtorEq, Nat.reduceLT, Int.reduceLT, Int.reduceLE, Int.reduceEq, Int.reduceToNat, Nat.reduceMul]
    refine wends (by first | exact Or.inl rfl | exact Or.inr rfl) ?_ (by first | rfl | simp [AV.ids, idsL])
    simp only [go_sem, r_wide_Shift, ↓reduceIte, Nat.reduceEqDiff, Nat.reduceAdd, Nat.reduceLeDiff, reduceCtorEq, Nat.reduceLT, Int.reduceLT, Int.reduceLE, Int.reduceEq, Int.reduceToNat, Nat.reduceMul]

theorem f_wide_Shift_zero (a : Nat) : Meets Try.prog E0 n_wide_Shift [WV a, I 0] [] (.tp [WV a, Bo true]) [] := by
  refine m_wide_Shift (by simp) (shut0 rfl) (shut0 rfl) (by simp) (by simp [keysOf]) ?_
  have h1' : decide ((0 : Int) < 0) = false := rfl
  have h2' : decide ((127 : Int) < 0) = false := rfl
  have h3' : decide ((0 : Int) = 0) = true := rfl
  simp only [go_sem, s_wide_Shift, h1', h2', h3', ↓reduceIte, Nat.reduceEqDiff, Nat.reduceAdd, Nat.reduceLeDiff, reduceCtorEq, Nat.reduceLT, Int.reduceLT, Int.reduceLE, Int.reduceEq, Int.reduceToNat, Nat.reduceMul]
  refine wends (by first | exact Or.inl rfl | exact Or.inr rfl) ?_ (by first | rfl | simp [AV.ids, idsL])
  simp only [go_sem, r_wide_Shift, ↓reduceIte, Nat.reduceEqDiff, Nat.reduceAdd, Nat.reduceLeDiff, reduceCtorEq, Nat.reduceLT, Int.reduceLT, Int.reduceLE, Int.reduceEq, Int.reduceToNat, Nat.reduceMul]

theorem mod_join {h t P Q : Nat} (ht : t < P) : (h * P + t) % (P * Q) = h * P % (P * Q) + t := by
  have hP : 0 < P := by omega
  rw [Nat.mod_mul, Nat.mul_comm h P, Nat.mul_mod_mul_left, Nat.mul_add_mod, Nat.mod_eq_of_lt ht, Nat.mul_add_div hP, Nat.div_eq_of_lt ht, Nat.add_zero]
  omega

theorem shl_or {h t n : Nat} (hn : n ≤ 64) (ht : t < 2 ^ n) : (h * 2 ^ n % 18446744073709551616) % 18446744073709551616 ||| t % 18446744073709551616 = h * 2 ^ n % 18446744073709551616 + t := by
  have hPQ : 2 ^ n * 2 ^ (64 - n) = 18446744073709551616 := by rw [← Nat.pow_add, show n + (64 - n) = 64 by omega]
  have hle : 2 ^ n ≤ 18446744073709551616 := by rw [← hPQ]; exact Nat.le_mul_of_pos_right _ (Nat.two_pow_pos _)
  rw [Nat.mod_mod, Nat.mod_eq_of_lt (show t < 18446744073709551616 by omega), ← hPQ, Nat.mul_comm h, Nat.mul_mod_mul_left, ← Nat.two_pow_add_eq_or_of_lt ht]

theorem f_wide_Shift (a n : Nat) (ha : a < 340282366920938463463374607431768211456) (hn : n ≤ 127) : Meets Try.prog E0 n_wide_Shift [WV a, I n] [] (.tp [WV (a * 2 ^ n % 340282366920938463463374607431768211456), Bo (decide (a * 2 ^ n < 340282366920938463463374607431768211456))]) [] := by
  by_cases h0 : n = 0
  · subst h0
    simp only [Nat.pow_zero, Nat.mul_one, Nat.mod_eq_of_lt ha, ha, decide_true]
    exact f_wide_Shift_zero a
  refine m_wide_Shift (by simp) (shut0 rfl) (shut0 rfl) (by simp) (by simp [keysOf]) ?_
  have h1' : decide ((n : Int) < 0) = false := by simp
  have h2' : decide (127 < (n : Int)) = false := by simp; omega
  have h3' : decide ((n : Int) = 0) = false := by simp; omega
  cases h4 : decide (64 ≤ (n : Int))
  · simp at h4
    have h4' : decide (64 ≤ (n : Int)) = false := by simp; omega
    obtain ⟨L, hL⟩ := bits_exists (a / 18446744073709551616)
    have hL64 : L ≤ 64 := (bits_le hL).2 (by rw [show 2 ^ 64 = 18446744073709551616 from rfl]; omega)
    have e1 : IntKind.i64.wrap (64 - (n : Int)) = ((64 - n : Nat) : Int) := by rw [wrap_i64_of (by omega) (by omega)]; omega
    have hPQ : 2 ^ n * 2 ^ (64 - n) = 18446744073709551616 := by rw [← Nat.pow_add, show n + (64 - n) = 64 by omega]
    have ht : a % 18446744073709551616 / 2 ^ (64 - n) < 2 ^ n := by
      rw [Nat.div_lt_iff_lt_mul (Nat.two_pow_pos _), hPQ]; exact Nat.mod_lt _ (by decide)
    have eo := shl_or (h := a / 18446744073709551616) (t := a % 18446744073709551616 / 2 ^ (64 - n)) (n := n) (by omega) ht
    simp only [go_sem, s_wide_Shift, h1', h2', h3', h4', e1, Nat.min_eq_left (show n ≤ 64 by omega), Nat.min_eq_left (show 64 - n ≤ 64 by omega), eo, ↓reduceIte, Nat.reduceEqDiff, Nat.reduceAdd, Nat.reduceLeDiff, reduceCtorEq, Nat.reduceLT, Int.reduceLT, Int.reduceLE, Int.reduceEq, Int.reduceToNat, Nat.reduceMul]
    refine Cl_plain (f_bits_Len64 (a / 18446744073709551616) L (by omega) hL) ?_
    simp only [go_sem, e1, ↓reduceIte, Nat.reduceEqDiff, Nat.reduceAdd, Nat.reduceLeDiff, reduceCtorEq, Nat.reduceLT, Int.reduceLT, Int.reduceLE, Int.reduceEq, Int.reduceToNat, Nat.reduceMul]
    refine R_fin (okp rfl rfl rfl (okp rfl rfl rfl (okp rfl rfl rfl okp0))) ?_
    simp only [go_sem, ↓reduceIte, Nat.reduceEqDiff, Nat.reduceAdd, Nat.reduceLeDiff, reduceCtorEq, Nat.reduceLT, Int.reduceLT, Int.reduceLE, Int.reduceEq, Int.reduceToNat, Nat.reduceMul]
    refine wends (by first | exact Or.inl rfl | exact Or.inr rfl) ?_ (by first | rfl | simp [AV.ids, idsL])
    simp only [go_sem, r_wide_Shift, ↓reduceIte, Nat.reduceEqDiff, Nat.reduceAdd, Nat.reduceLeDiff, reduceCtorEq, Nat.reduceLT, Int.reduceLT, Int.reduceLE, Int.reduceEq, Int.reduceToNat, Nat.reduceMul]
    have hx : a * 2 ^ n = a / 18446744073709551616 * 2 ^ n * 18446744073709551616 + a % 18446744073709551616 * 2 ^ n := by
      conv => lhs; rw [← Nat.div_add_mod a 18446744073709551616]
      rw [Nat.add_mul, Nat.mul_comm 18446744073709551616, Nat.mul_right_comm]
    have hlo0 : ∀ l : Nat, l * 2 ^ n / 18446744073709551616 = l / 2 ^ (64 - n) := by
      intro l
      rw [← hPQ, Nat.mul_comm l, Nat.mul_div_mul_left _ _ (Nat.two_pow_pos n)]
    have hlo := hlo0 (a % 18446744073709551616)
    have hj := mod_join (h := a / 18446744073709551616) (Q := 2 ^ (64 - n)) ht
    rw [hPQ] at hj
    have hok : a * 2 ^ n < 340282366920938463463374607431768211456 ↔ L ≤ 64 - n := by
      rw [bits_le hL, Nat.div_lt_iff_lt_mul (by decide)]
      have : 340282366920938463463374607431768211456 = 2 ^ (64 - n) * 18446744073709551616 * 2 ^ n := by
        rw [Nat.mul_right_comm, Nat.mul_comm (2 ^ (64 - n)), hPQ]
      rw [this, Nat.mul_lt_mul_right (Nat.two_pow_pos n)]
    simp only [Option.some.injEq, AV.tp.injEq, AV.ag.injEq, List.cons.injEq, AV.t.injEq, T.v.injEq, T.sl.injEq, Value.int.injEq, Value.bool.injEq, Value.string.injEq, decide_eq_decide, true_and, and_true]
    refine ⟨⟨?_, ?_⟩, ?_⟩
    · rw [← hj, hx]
      omega
    · rw [hx]; omega
    · rw [hok]
  · simp at h4
    have h4' : decide (64 ≤ (n : Int)) = true := by simp; omega
    obtain ⟨L, hL⟩ := bits_exists (a % 18446744073709551616)
    have hL64 : L ≤ 64 := (bits_le hL).2 (by rw [show 2 ^ 64 = 18446744073709551616 from rfl]; omega)
    have e1 : IntKind.i64.wrap ((n : Int) - 64) = ((n - 64 : Nat) : Int) := by rw [wrap_i64_of (by omega) (by omega)]; omega
    have e2 : IntKind.i64.wrap (128 - (n : Int)) = ((128 - n : Nat) : Int) := by rw [wrap_i64_of (by omega) (by omega)]; omega
    have hP : 2 ^ n = 18446744073709551616 * 2 ^ (n - 64) := by rw [show 18446744073709551616 = 2 ^ 64 from rfl, ← Nat.pow_add, show 64 + (n - 64) = n by omega]
    have hPQ : 2 ^ (n - 64) * 2 ^ (128 - n) = 18446744073709551616 := by rw [← Nat.pow_add, show n - 64 + (128 - n) = 64 by omega]
    have hQ : 2 ^ (128 - n) ≤ 18446744073709551616 := by rw [← hPQ]; exact Nat.le_mul_of_pos_left _ (Nat.two_pow_pos _)
    have hx : a * 2 ^ n % 340282366920938463463374607431768211456 = a % 18446744073709551616 * 2 ^ (n - 64) % 18446744073709551616 * 18446744073709551616 := by
      rw [hP, Nat.mul_left_comm, show 340282366920938463463374607431768211456 = 18446744073709551616 * 18446744073709551616 from rfl, Nat.mul_mod_mul_left, Nat.mul_comm 18446744073709551616]
      congr 1
      rw [Nat.mod_mul_mod]
    have hok : a * 2 ^ n < 340282366920938463463374607431768211456 ↔ a < 2 ^ (128 - n) := by
      have : 340282366920938463463374607431768211456 = 2 ^ (128 - n) * 2 ^ n := by rw [← Nat.pow_add, show 128 - n + n = 128 by omega]
      rw [this, Nat.mul_lt_mul_right (Nat.two_pow_pos n)]
    have hb := bits_le (m := 128 - n) hL
    have fin : ∀ ok : Bool, (ok = true ↔ a < 2 ^ (128 - n)) → some (AV.tp [AV.ag [U (a % 18446744073709551616 * 2 ^ (n - 64) % 18446744073709551616 : Nat), U (0 : Nat)], Bo ok]) = some (AV.tp [WV (a * 2 ^ n % 340282366920938463463374607431768211456), Bo (decide (a * 2 ^ n < 340282366920938463463374607431768211456))]) := by
      intro ok hk
      rw [hx]
      have : ok = decide (a * 2 ^ n < 340282366920938463463374607431768211456) := by
        rw [Bool.eq_iff_iff, hk, decide_eq_true_eq, hok]
      rw [this]
      simp only [Option.some.injEq, AV.tp.injEq, AV.ag.injEq, List.cons.injEq, AV.t.injEq, T.v.injEq, T.sl.injEq, Value.int.injEq, Value.bool.injEq, Value.string.injEq, decide_eq_decide, true_and, and_true]
      omega
    cases h5 : decide (a / 18446744073709551616 = 0)
    · simp only [go_sem, s_wide_Shift, h1', h2', h3', h4', e1, e2, h5, Nat.min_eq_left (show n - 64 ≤ 64 by omega), ↓reduceIte, Nat.reduceEqDiff, Nat.reduceAdd, Nat.reduceLeDiff, reduceCtorEq, Nat.reduceLT, Int.reduceLT, Int.reduceLE, Int.reduceEq, Int.reduceToNat, Nat.reduceMul]
      refine R_fin (okp rfl rfl rfl okp0) ?_
      simp only [go_sem, ↓reduceIte, Nat.reduceEqDiff, Nat.reduceAdd, Nat.reduceLeDiff, reduceCtorEq, Nat.reduceLT, Int.reduceLT, Int.reduceLE, Int.reduceEq, Int.reduceToNat, Nat.reduceMul]
      refine wends (by first | exact Or.inl rfl | exact Or.inr rfl) ?_ (by first | rfl | simp [AV.ids, idsL])
      simp only [go_sem, r_wide_Shift, ↓reduceIte, Nat.reduceEqDiff, Nat.reduceAdd, Nat.reduceLeDiff, reduceCtorEq, Nat.reduceLT, Int.reduceLT, Int.reduceLE, Int.reduceEq, Int.reduceToNat, Nat.reduceMul]
      refine fin false ?_
      simp at h5
      simp
      omega
    · simp only [go_sem, s_wide_Shift, h1', h2', h3', h4', e1, e2, h5, Nat.min_eq_left (show n - 64 ≤ 64 by omega), ↓reduceIte, Nat.reduceEqDiff, Nat.reduceAdd, Nat.reduceLeDiff, reduceCtorEq, Nat.reduceLT, Int.reduceLT, Int.reduceLE, Int.reduceEq, Int.reduceToNat, Nat.reduceMul]
      refine Cl_plain (f_bits_Len64 (a % 18446744073709551616) L (by omega) hL) ?_
      simp only [go_sem, e2, ↓reduceIte, Nat.reduceEqDiff, Nat.reduceAdd, Nat.reduceLeDiff, reduceCtorEq, Nat.reduceLT, Int.reduceLT, Int.reduceLE, Int.reduceEq, Int.reduceToNat, Nat.reduceMul]
      refine R_fin (okp rfl rfl rfl okp0) ?_
      simp only [go_sem, ↓reduceIte, Nat.reduceEqDiff, Nat.reduceAdd, Nat.reduceLeDiff, reduceCtorEq, Nat.reduceLT, Int.reduceLT, Int.reduceLE, Int.reduceEq, Int.reduceToNat, Nat.reduceMul]
      refine wends (by first | exact Or.inl rfl | exact Or.inr rfl) ?_ (by first | rfl | simp [AV.ids, idsL])
      simp only [go_sem, r_wide_Shift, ↓reduceIte, Nat.reduceEqDiff, Nat.reduceAdd, Nat.reduceLeDiff, reduceCtorEq, Nat.reduceLT, Int.reduceLT, Int.reduceLE, Int.reduceEq, Int.reduceToNat, Nat.reduceMul]
      refine fin _ ?_
      simp at h5
      simp
      omega

end Go.Proofs.Ytgablplpdocniaa
