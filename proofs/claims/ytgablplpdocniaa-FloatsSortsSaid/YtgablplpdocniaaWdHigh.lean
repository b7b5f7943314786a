/- Contracts of the document's quotients, roots and shifts of wide numbers. No statement of the seat is proved here. -/
import Derived.Test.YtgablplpdocniaaWdMid
set_option linter.unusedSimpArgs false
set_option linter.unusedVariables false
namespace Go.Proofs.Ytgablplpdocniaa
open Go Go.Sx

theorem or_bit {r b : Nat} (hb : b < 2) : (r * 2 ^ (min 1 64) % 18446744073709551616) % 18446744073709551616 ||| (b % 18446744073709551616) = 2 * r % 18446744073709551616 + b := by
  have h1 : b < 2 ^ 1 := hb
  have h2 : (r * 2 ^ (min 1 64) % 18446744073709551616) % 18446744073709551616 = 2 ^ 1 * (r % 9223372036854775808) := by
    rw [show 2 ^ (min 1 64) = 2 from rfl]; omega
  rw [h2, Nat.mod_eq_of_lt (show b < 18446744073709551616 by omega), ← Nat.two_pow_add_eq_or_of_lt h1]
  omega

theorem div_step {a d j qq r : Nat} (hA : a / 2 ^ (j + 1) = qq * d + r) : a / 2 ^ j = 2 * (qq * d) + 2 * r + a / 2 ^ j % 2 := by
  have : a / 2 ^ (j + 1) = a / 2 ^ j / 2 := by rw [Nat.pow_succ, Nat.div_div_eq_div_mul]
  omega

theorem q_le {a d k qq r : Nat} (hd : 0 < d) (hA : a / 2 ^ k = qq * d + r) : qq * 2 ^ k ≤ a := by
  have h1 : qq ≤ a / 2 ^ k := by rw [hA]; exact Nat.le_trans (Nat.le_mul_of_pos_right qq hd) (Nat.le_add_right _ _)
  exact Nat.le_trans (Nat.mul_le_mul_right _ h1) (Nat.div_mul_le_self _ _)

end Go.Proofs.Ytgablplpdocniaa
