/- Contracts of rounding to some decimals. No statement of the seat is proved here. -/
import Derived.Test.YtmjlldlaigoflaaGreatFxRef
set_option linter.unusedSimpArgs false
set_option linter.unusedVariables false
namespace Go.Proofs.YtmjlldlaigoflaaGreat
open Go Go.Sx

theorem unit_le (k : Nat) : 10 ^ (6 - k) ≤ 1000000 := Nat.le_trans (Nat.pow_le_pow_right (by decide) (show 6 - k ≤ 6 by omega)) (by decide)

theorem unit_div {j : Nat} (h : j < 6) : 10 ^ (6 - j) / 10 = 10 ^ (6 - (j + 1)) := by
  rw [show 6 - j = (6 - (j + 1)) + 1 by omega, Nat.pow_succ, Nat.mul_div_cancel _ (by decide)]

theorem pow6_cases {k : Nat} (h : k ≤ 6) : k = 0 ∨ k = 1 ∨ k = 2 ∨ k = 3 ∨ k = 4 ∨ k = 5 ∨ k = 6 := by omega

theorem rnd_le {n d : Nat} (hd : 0 < d) (hn : n < 9223372036854775808) (hd2 : d ≤ 1000000) : rnd n d * d < 18446744073709551616 := by
  have h1 := Nat.div_add_mod' n d
  have h2 := Nat.mod_lt n hd
  unfold rnd
  split
  · rw [Nat.add_mul, Nat.one_mul]; omega
  · omega

end Go.Proofs.YtmjlldlaigoflaaGreat
