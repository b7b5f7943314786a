/- Contracts of the small functions on wide numbers. No statement of the seat is proved here. -/
import Derived.Test.YtmjlldlaigoflaaGreatSlim
set_option linter.unusedSimpArgs false
set_option linter.unusedVariables false
namespace Go.Proofs.YtmjlldlaigoflaaGreat
open Go Go.Sx

/-- A wide number. -/
abbrev WV (n : Nat) : AV := .ag [U ((n / 18446744073709551616 : Nat) : Int), U ((n % 18446744073709551616 : Nat) : Int)]

theorem and_one (n : Nat) : (n % 18446744073709551616) &&& (1 % 18446744073709551616) = n % 2 := by
  rw [show 1 % 18446744073709551616 = 2 ^ 1 - 1 from rfl, Nat.and_two_pow_sub_one_eq_mod]; omega

theorem or_pow {x j : Nat} (h : x / 2 ^ j % 2 = 0) : x ||| 2 ^ j = x + 2 ^ j := by
  have hp : 0 < 2 ^ j := Nat.two_pow_pos j
  have hx : x = 2 ^ (j + 1) * (x / 2 ^ (j + 1)) + x % 2 ^ j := by
    have h1 := Nat.div_add_mod x (2 ^ j)
    have h2 : x / 2 ^ j = 2 * (x / 2 ^ (j + 1)) := by
      rw [Nat.pow_succ, ← Nat.div_div_eq_div_mul]; omega
    rw [Nat.pow_succ, Nat.mul_assoc, ← Nat.pow_succ, ← h2]; exact h1.symm
  have hr : x % 2 ^ j < 2 ^ j := Nat.mod_lt _ hp
  generalize x / 2 ^ (j + 1) = q at hx
  generalize x % 2 ^ j = r at hx hr
  subst hx
  have hr1 : r < 2 ^ (j + 1) := by rw [Nat.pow_succ]; omega
  have hr2 : 2 ^ j + r < 2 ^ (j + 1) := by rw [Nat.pow_succ]; omega
  rw [Nat.two_pow_add_eq_or_of_lt hr1, Nat.or_assoc, Nat.or_comm r, ← Nat.mul_one (2 ^ j), ← Nat.two_pow_add_eq_or_of_lt hr, Nat.mul_one, ← Nat.two_pow_add_eq_or_of_lt hr2, ← Nat.two_pow_add_eq_or_of_lt hr1]
  omega

theorem shl_one {j : Nat} (h : j < 64) : 2 ^ (min j 64) % 18446744073709551616 % 18446744073709551616 = 2 ^ j := by
  rw [Nat.min_eq_left (by omega), Nat.mod_mod, show 18446744073709551616 = 2 ^ 64 from rfl]
  exact Nat.mod_eq_of_lt (Nat.pow_lt_pow_right (by decide) h)

theorem low_bit {a i : Nat} (h : i < 64) : a % 18446744073709551616 / 2 ^ i % 2 = a / 2 ^ i % 2 := by
  have h64 : (2 : Nat) ^ 64 = 2 ^ i * 2 ^ (64 - i) := by rw [← Nat.pow_add]; congr 1; omega
  have h2 : (2 : Nat) ^ (64 - i) = 2 * 2 ^ (63 - i) := by rw [← Nat.pow_succ']; congr 1; omega
  rw [show 18446744073709551616 = 2 ^ 64 from rfl, h64, Nat.mod_mul_right_div_self, h2, Nat.mod_mul_right_mod]

theorem bit_lt (a i : Nat) : a / 2 ^ i % 2 < 2 := Nat.mod_lt _ (by decide)

theorem mod_next (a i : Nat) : a % 2 ^ (i + 1) = a % 2 ^ i + 2 ^ i * (a / 2 ^ i % 2) := by
  rw [Nat.pow_succ, Nat.mod_mul]

theorem small_bit {s i : Nat} (h : s < 2 ^ i) : s / 2 ^ i % 2 = 0 := by rw [Nat.div_eq_of_lt h]

theorem pow_le {i : Nat} (h : i ≤ 128) : 2 ^ i ≤ 340282366920938463463374607431768211456 :=
  Nat.le_trans (Nat.pow_le_pow_right (by decide) h) (by decide)

theorem add_step {a b i c s t : Nat} (h : a % 2 ^ i + b % 2 ^ i = c * 2 ^ i + s) (hs : s < 2 ^ i) (ht : t = a / 2 ^ i % 2 + b / 2 ^ i % 2 + c) (hc : c ≤ 1) :
    t ≤ 3 ∧ (t % 2 = 1 → a % 2 ^ (i + 1) + b % 2 ^ (i + 1) = t / 2 * 2 ^ (i + 1) + (s + 2 ^ i)) ∧ (t % 2 = 0 → a % 2 ^ (i + 1) + b % 2 ^ (i + 1) = t / 2 * 2 ^ (i + 1) + s) := by
  have h1 := bit_lt a i
  have h2 := bit_lt b i
  rw [mod_next, mod_next, Nat.pow_succ]
  generalize a / 2 ^ i % 2 = x at *
  generalize b / 2 ^ i % 2 = y at *
  generalize a % 2 ^ i = A at *
  generalize b % 2 ^ i = B at *
  generalize 2 ^ i = P at *
  have hx : x = 0 ∨ x = 1 := by omega
  have hy : y = 0 ∨ y = 1 := by omega
  have hc : c = 0 ∨ c = 1 := by omega
  rcases hx with rfl | rfl <;> rcases hy with rfl | rfl <;> rcases hc with rfl | rfl <;> subst ht <;> simp at * <;> omega

end Go.Proofs.YtmjlldlaigoflaaGreat
