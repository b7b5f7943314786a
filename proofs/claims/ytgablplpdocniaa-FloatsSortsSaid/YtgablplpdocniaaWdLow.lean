/- Contracts of the small functions on wide numbers. No statement of the seat is proved here. -/
import Derived.Test.YtgablplpdocniaaSlim
set_option linter.unusedSimpArgs false
set_option linter.unusedVariables false
namespace Go.Proofs.Ytgablplpdocniaa
open Go Go.Sx

/-- A wide number. -/
abbrev WV (n : Nat) : AV := .ag [U ((n / 18446744073709551616 : Nat) : Int), U ((n % 18446744073709551616 : Nat) : Int)]

theorem f_ref01_Less (a b : Nat) : Meets Try.prog E0 n_ref01_Less [WV a, WV b] [] (Bo (decide (a < b))) [] := by
  refine m_ref01_Less (by simp) (shut0 rfl) (shut0 rfl) (by simp) (by simp [keysOf]) ?_
  cases h1 : decide (a / 18446744073709551616 < b / 18446744073709551616) <;> cases h2 : decide (a / 18446744073709551616 = b / 18446744073709551616) <;>
    simp only [s_ref01_Less, go_sem, h1, h2, ↓reduceIte, Nat.reduceEqDiff, Nat.reduceAdd, Nat.reduceLeDiff, reduceCtorEq]
  all_goals
    simp at h1 h2
    refine wends (Or.inl rfl) ?_ rfl
    simp only [r_ref01_Less, go_sem, ↓reduceIte, Nat.reduceEqDiff]
    congr 4
    simp only [Bool.false_eq, Bool.true_eq, decide_eq_true_eq, decide_eq_false_iff_not, decide_eq_decide]
    omega

theorem and_one (n : Nat) : (n % 18446744073709551616) &&& (1 % 18446744073709551616) = n % 2 := by
  rw [show 1 % 18446744073709551616 = 2 ^ 1 - 1 from rfl, Nat.and_two_pow_sub_one_eq_mod]; omega

theorem f_ref01_bit (a i : Nat) (hi : i < 128) : Meets Try.prog E0 n_ref01_bit [WV a, I i] [] (U (a / 2 ^ i % 2 : Nat)) [] := by
  refine m_ref01_bit (by simp) (shut0 rfl) (shut0 rfl) (by simp) (by simp [keysOf]) ?_
  simp only [s_ref01_bit, go_sem, ↓reduceIte, Nat.reduceEqDiff, Nat.reduceAdd, Nat.reduceLeDiff, reduceCtorEq]
  refine W_split rfl (fun h => ?_) (fun h => ?_)
  · simp at h
    have e : IntKind.u64.wrap (IntKind.i64.wrap ((i : Int) - 64)) = ((i - 64 : Nat) : Int) := by rw [wrap_i64_of (by omega) (by omega), wrap_u64]; omega
    simp only [go_sem, e, ↓reduceIte, Nat.reduceEqDiff, Nat.reduceAdd, Nat.reduceLeDiff, reduceCtorEq]
    refine wends (Or.inl rfl) ?_ rfl
    simp only [r_ref01_bit, go_sem, ↓reduceIte, Nat.reduceEqDiff, and_one]
    rw [Nat.min_eq_left (by omega), show 18446744073709551616 = 2 ^ 64 from rfl, Nat.div_div_eq_div_mul, ← Nat.pow_add, show 64 + (i - 64) = i by omega]
  · simp at h
    have e : IntKind.u64.wrap (i : Int) = (i : Int) := by rw [wrap_u64]; omega
    simp only [go_sem, e, ↓reduceIte, Nat.reduceEqDiff, Nat.reduceAdd, Nat.reduceLeDiff, reduceCtorEq]
    refine wends (Or.inl rfl) ?_ rfl
    simp only [r_ref01_bit, go_sem, ↓reduceIte, Nat.reduceEqDiff, and_one]
    rw [Nat.min_eq_left (by omega)]
    congr 5
    have h64 : (2 : Nat) ^ 64 = 2 ^ i * 2 ^ (64 - i) := by rw [← Nat.pow_add]; congr 1; omega
    have h2 : (2 : Nat) ^ (64 - i) = 2 * 2 ^ (63 - i) := by rw [← Nat.pow_succ']; congr 1; omega
    rw [show 18446744073709551616 = 2 ^ 64 from rfl, h64, Nat.mod_mul_right_div_self, h2, Nat.mod_mul_right_mod]

theorem or_pow {x j : Nat} (h : x / 2 ^ j % 2 = 0) : x ||| 2 ^ j = x + 2 ^ j := by
  have hp : 0 < 2 ^ j := Nat.two_pow_pos j
  have hx : x = 2 ^ (j + 1) * (x / 2 ^ (j + 1)) + x % 2 ^ j := by
    have h1 := Nat.div_add_mod x (2 ^ j)
    have h2 : x / 2 ^ j = 2 * (x / 2 ^ (j + 1)) := by
      rw [Nat.pow_succ, ← Nat.div_div_eq_div_mul]; omega
    rw [Nat.pow_succ, Nat.mul_assoc, ← Nat.pow_succ, ← h2]; exact h1.symm
  have hr : x % 2 ^ j < 2 ^ j := Nat.mod_lt _ hp
  generalize x / 2 ^ (j + 1) = q at hx
  generalize x % 2 ^ j = r at hx hr
  subst hx
  have hr1 : r < 2 ^ (j + 1) := by rw [Nat.pow_succ]; omega
  have hr2 : 2 ^ j + r < 2 ^ (j + 1) := by rw [Nat.pow_succ]; omega
  rw [Nat.two_pow_add_eq_or_of_lt hr1, Nat.or_assoc, Nat.or_comm r, ← Nat.mul_one (2 ^ j), ← Nat.two_pow_add_eq_or_of_lt hr, Nat.mul_one, ← Nat.two_pow_add_eq_or_of_lt hr2, ← Nat.two_pow_add_eq_or_of_lt hr1]
  omega

theorem shl_one {j : Nat} (h : j < 64) : 2 ^ (min j 64) % 18446744073709551616 % 18446744073709551616 = 2 ^ j := by
  rw [Nat.min_eq_left (by omega), Nat.mod_mod, show 18446744073709551616 = 2 ^ 64 from rfl]
  exact Nat.mod_eq_of_lt (Nat.pow_lt_pow_right (by decide) h)

theorem low_bit {a i : Nat} (h : i < 64) : a % 18446744073709551616 / 2 ^ i % 2 = a / 2 ^ i % 2 := by
  have h64 : (2 : Nat) ^ 64 = 2 ^ i * 2 ^ (64 - i) := by rw [← Nat.pow_add]; congr 1; omega
  have h2 : (2 : Nat) ^ (64 - i) = 2 * 2 ^ (63 - i) := by rw [← Nat.pow_succ']; congr 1; omega
  rw [show 18446744073709551616 = 2 ^ 64 from rfl, h64, Nat.mod_mul_right_div_self, h2, Nat.mod_mul_right_mod]

theorem f_ref01_with (a i : Nat) (hi : i < 128) (ha : a < 340282366920938463463374607431768211456) (h0 : a / 2 ^ i % 2 = 0) : Meets Try.prog E0 n_ref01_with [WV a, I i] [] (WV (a + 2 ^ i)) [] := by
  refine m_ref01_with (by simp) (shut0 rfl) (shut0 rfl) (by simp) (by simp [keysOf]) ?_
  simp only [s_ref01_with, go_sem, ↓reduceIte, Nat.reduceEqDiff, Nat.reduceAdd, Nat.reduceLeDiff, reduceCtorEq]
  refine W_split rfl (fun h => ?_) (fun h => ?_)
  · simp at h
    have e : IntKind.u64.wrap (IntKind.i64.wrap ((i : Int) - 64)) = ((i - 64 : Nat) : Int) := by rw [wrap_i64_of (by omega) (by omega), wrap_u64]; omega
    simp only [go_sem, e, ↓reduceIte, Nat.reduceEqDiff, Nat.reduceAdd, Nat.reduceLeDiff, reduceCtorEq]
    refine wends (Or.inl rfl) ?_ rfl
    simp only [r_ref01_with, go_sem, ↓reduceIte, Nat.reduceEqDiff, Nat.reduceAdd, Nat.reduceLeDiff, reduceCtorEq]
    have e1 : a / 18446744073709551616 % 18446744073709551616 = a / 18446744073709551616 := by omega
    have hb : a / 18446744073709551616 / 2 ^ (i - 64) % 2 = 0 := by
      rw [show 18446744073709551616 = 2 ^ 64 from rfl, Nat.div_div_eq_div_mul, ← Nat.pow_add, show 64 + (i - 64) = i by omega]; exact h0
    have hp : 2 ^ i = 18446744073709551616 * 2 ^ (i - 64) := by rw [show 18446744073709551616 = 2 ^ 64 from rfl, ← Nat.pow_add]; congr 1; omega
    rw [e1, shl_one (by omega), or_pow hb, hp]
    simp only [Option.some.injEq, AV.ag.injEq, List.cons.injEq, AV.t.injEq, T.v.injEq, Value.int.injEq, true_and, and_true]
    omega
  · simp at h
    have e : IntKind.u64.wrap (i : Int) = (i : Int) := by rw [wrap_u64]; omega
    simp only [go_sem, e, ↓reduceIte, Nat.reduceEqDiff, Nat.reduceAdd, Nat.reduceLeDiff, reduceCtorEq]
    refine wends (Or.inl rfl) ?_ rfl
    simp only [r_ref01_with, go_sem, ↓reduceIte, Nat.reduceEqDiff, Nat.reduceAdd, Nat.reduceLeDiff, reduceCtorEq]
    have hb : a % 18446744073709551616 / 2 ^ i % 2 = 0 := by rw [low_bit (by omega)]; exact h0
    have hlt : a % 18446744073709551616 + 2 ^ i < 18446744073709551616 := by
      rw [← or_pow hb]
      exact Nat.or_lt_two_pow (n := 64) (Nat.mod_lt _ (by decide)) (Nat.pow_lt_pow_right (by decide) (by omega))
    rw [Nat.mod_mod, shl_one (by omega), or_pow hb]
    generalize 2 ^ i = x at *
    simp only [Option.some.injEq, AV.ag.injEq, List.cons.injEq, AV.t.injEq, T.v.injEq, Value.int.injEq, true_and, and_true]
    omega

theorem bit_lt (a i : Nat) : a / 2 ^ i % 2 < 2 := Nat.mod_lt _ (by decide)

theorem mod_next (a i : Nat) : a % 2 ^ (i + 1) = a % 2 ^ i + 2 ^ i * (a / 2 ^ i % 2) := by
  rw [Nat.pow_succ, Nat.mod_mul]

theorem small_bit {s i : Nat} (h : s < 2 ^ i) : s / 2 ^ i % 2 = 0 := by rw [Nat.div_eq_of_lt h]

theorem pow_le {i : Nat} (h : i ≤ 128) : 2 ^ i ≤ 340282366920938463463374607431768211456 :=
  Nat.le_trans (Nat.pow_le_pow_right (by decide) h) (by decide)

theorem add_step {a b i c s t : Nat} (h : a % 2 ^ i + b % 2 ^ i = c * 2 ^ i + s) (hs : s < 2 ^ i) (ht : t = a / 2 ^ i % 2 + b / 2 ^ i % 2 + c) (hc : c ≤ 1) :
    t ≤ 3 ∧ (t % 2 = 1 → a % 2 ^ (i + 1) + b % 2 ^ (i + 1) = t / 2 * 2 ^ (i + 1) + (s + 2 ^ i)) ∧ (t % 2 = 0 → a % 2 ^ (i + 1) + b % 2 ^ (i + 1) = t / 2 * 2 ^ (i + 1) + s) := by
  have h1 := bit_lt a i
  have h2 := bit_lt b i
  rw [mod_next, mod_next, Nat.pow_succ]
  generalize a / 2 ^ i % 2 = x at *
  generalize b / 2 ^ i % 2 = y at *
  generalize a % 2 ^ i = A at *
  generalize b % 2 ^ i = B at *
  generalize 2 ^ i = P at *
  have hx : x = 0 ∨ x = 1 := by omega
  have hy : y = 0 ∨ y = 1 := by omega
  have hc : c = 0 ∨ c = 1 := by omega
  rcases hx with rfl | rfl <;> rcases hy with rfl | rfl <;> rcases hc with rfl | rfl <;> subst ht <;> simp at * <;> omega

theorem f_ref01_Add (a b : Nat) (ha : a < 340282366920938463463374607431768211456) (hb : b < 340282366920938463463374607431768211456) :
    Meets Try.prog E0 n_ref01_Add [WV a, WV b] [] (.tp [WV ((a + b) % 340282366920938463463374607431768211456), Bo (decide (340282366920938463463374607431768211456 ≤ a + b))]) [] := by
  refine m_ref01_Add (by simp) (shut0 rfl) (shut0 rfl) (by simp) (by simp [keysOf]) ?_
  simp only [s_ref01_Add, go_sem, ↓reduceIte, Nat.reduceEqDiff, Nat.reduceAdd, Nat.reduceLeDiff, reduceCtorEq]
  refine W_loop (fun x : Nat × Nat × Nat => 128 - x.1) (fun x => x.1 ≤ 128 ∧ a % 2 ^ x.1 + b % 2 ^ x.1 = x.2.1 * 2 ^ x.1 + x.2.2 ∧ x.2.2 < 2 ^ x.1 ∧ x.2.1 ≤ 1)
    (fun x => [(2, .ptr 100 0), (3, .ptr 101 0), (4, .ptr 102 0), (5, Bo false), (6, .ptr 104 0), (7, U x.2.1), (8, I x.1)])
    (fun x => [(104, .box [U (x.2.2 / 18446744073709551616 : Nat), U (x.2.2 % 18446744073709551616 : Nat)]), (102, .box [U (0 : Nat), U (0 : Nat)]),
      (101, .box [U (b / 18446744073709551616 : Nat), U (b % 18446744073709551616 : Nat)]), (100, .box [U (a / 18446744073709551616 : Nat), U (a % 18446744073709551616 : Nat)])])
    (0, 0, 0) (by simp [Nat.mod_one]) ?_ ?_
  · refine subL [] [] ?_ ?_ ?_ (by simp) (by simp [keysOf]) (by simp [keysOf])
    · simp [envS, go_sem, wkV, AV.ids, keysOf, ren]
    · simp [stoS, go_sem, wkV, wkL, wkO, AV.ids, Ob.ids, idsL, keysOf, ren, AV.one]
    · simp [keysOf, ren]
  · rintro ⟨i, c, s⟩ ⟨hi, hA, hs, hc⟩
    simp only at hi hA hs hc
    simp only [go_sem, ↓reduceIte, Nat.reduceEqDiff, Nat.reduceAdd, Nat.reduceLeDiff, reduceCtorEq]
    refine W_split rfl (fun h => ?_) (fun h => ?_)
    · simp at h
      have hstep := add_step hA hs rfl hc
      have e : ((a / 2 ^ i % 2 + b / 2 ^ i % 2) % 18446744073709551616 + c) % 18446744073709551616 = a / 2 ^ i % 2 + b / 2 ^ i % 2 + c := by omega
      have ei : IntKind.i64.wrap ((i : Int) + 1) = ((i + 1 : Nat) : Int) := by rw [wrap_i64_of (by omega) (by omega)]; omega
      have hsP : s < 340282366920938463463374607431768211456 := Nat.lt_of_lt_of_le hs (pow_le hi)
      generalize ht : a / 2 ^ i % 2 + b / 2 ^ i % 2 + c = t at *
      simp only [go_sem, ↓reduceIte, Nat.reduceEqDiff, Nat.reduceAdd, Nat.reduceLeDiff, reduceCtorEq]
      refine Cl_plain (f_ref01_bit a i (by omega)) ?_
      simp only [go_sem, ↓reduceIte, Nat.reduceEqDiff, Nat.reduceAdd, Nat.reduceLeDiff, reduceCtorEq]
      refine Cl_plain (f_ref01_bit b i (by omega)) ?_
      simp only [go_sem, e, ↓reduceIte, Nat.reduceEqDiff, Nat.reduceAdd, Nat.reduceLeDiff, reduceCtorEq]
      refine R_fin (okp rfl rfl rfl okp0) ?_
      simp only [go_sem, and_one, ↓reduceIte, Nat.reduceEqDiff, Nat.reduceAdd, Nat.reduceLeDiff, reduceCtorEq]
      refine W_split rfl (fun h1 => ?_) (fun h1 => ?_)
      · simp at h1
        simp only [go_sem, ↓reduceIte, Nat.reduceEqDiff, Nat.reduceAdd, Nat.reduceLeDiff, reduceCtorEq]
        refine Cl_plain (f_ref01_with s i (by omega) hsP (small_bit hs)) ?_
        simp only [go_sem, ei, ↓reduceIte, Nat.reduceEqDiff, Nat.reduceAdd, Nat.reduceLeDiff, reduceCtorEq]
        refine rd_of (i + 1, t / 2, s + 2 ^ i) (by simp only; omega) ⟨by simp only; omega, hstep.2.1 h1, by simp only [Nat.pow_succ]; omega, by simp only; omega⟩ ?_
        refine subL [] [] ?_ ?_ ?_ (by simp) (by simp [keysOf]) (by simp [keysOf])
        · simp [envS, go_sem, wkV, AV.ids, keysOf, ren]
        · simp [stoS, go_sem, wkV, wkL, wkO, AV.ids, Ob.ids, idsL, keysOf, ren, AV.one]
        · simp [keysOf, ren]
      · simp at h1
        simp only [go_sem, ei, ↓reduceIte, Nat.reduceEqDiff, Nat.reduceAdd, Nat.reduceLeDiff, reduceCtorEq]
        refine rd_of (i + 1, t / 2, s) (by simp only; omega) ⟨by simp only; omega, hstep.2.2 (by omega), by simp only [Nat.pow_succ]; omega, by simp only; omega⟩ ?_
        refine subL [] [] ?_ ?_ ?_ (by simp) (by simp [keysOf]) (by simp [keysOf])
        · simp [envS, go_sem, wkV, AV.ids, keysOf, ren]
        · simp [stoS, go_sem, wkV, wkL, wkO, AV.ids, Ob.ids, idsL, keysOf, ren, AV.one]
        · simp [keysOf, ren]
    · simp only [go_sem, ↓reduceIte, Nat.reduceEqDiff, Nat.reduceAdd, Nat.reduceLeDiff, reduceCtorEq]
      refine wends (Or.inl rfl) ?_ rfl
      simp only [r_ref01_Add, go_sem, ↓reduceIte, Nat.reduceEqDiff, Nat.reduceAdd, Nat.reduceLeDiff, reduceCtorEq]
      simp at h
      have e : i = 128 := by omega
      subst e
      rw [Nat.mod_eq_of_lt (show a < 2 ^ 128 from ha), Nat.mod_eq_of_lt (show b < 2 ^ 128 from hb), show 2 ^ 128 = 340282366920938463463374607431768211456 from rfl] at hA
      rw [show 2 ^ 128 = 340282366920938463463374607431768211456 from rfl] at hs
      simp only [Option.some.injEq, AV.tp.injEq, AV.ag.injEq, List.cons.injEq, AV.t.injEq, T.v.injEq, Value.int.injEq, Value.bool.injEq, decide_eq_decide, true_and, and_true]
      omega

end Go.Proofs.Ytgablplpdocniaa
