/- Contracts of the program's shifts and roots of wide numbers. No statement of the seat is proved here. -/
import Derived.Test.YtmjlldlaigoflaaGreatWdLen
set_option linter.unusedSimpArgs false
set_option linter.unusedVariables false
namespace Go.Proofs.YtmjlldlaigoflaaGreat
open Go Go.Sx

theorem bits_le {x L m : Nat} (h : Bits x L) : L ≤ m ↔ x < 2 ^ m := by
  constructor
  · intro hl
    exact Nat.lt_of_lt_of_le h.1 (Nat.pow_le_pow_right (by decide) hl)
  · intro hx
    rcases h.2 with h2 | h2
    · omega
    · have := (Nat.pow_lt_pow_iff_right (show 1 < 2 by decide)).1 (Nat.lt_of_le_of_lt h2 hx)
      omega

theorem bits_exists (x : Nat) : ∃ L, Bits x L := by
  by_cases h : x = 0
  · exact ⟨0, by subst h; simp [Bits]⟩
  · exact ⟨x.log2 + 1, Nat.lt_log2_self, Or.inr (by simpa using Nat.log2_self_le h)⟩

theorem mod_join {h t P Q : Nat} (ht : t < P) : (h * P + t) % (P * Q) = h * P % (P * Q) + t := by
  have hP : 0 < P := by omega
  rw [Nat.mod_mul, Nat.mul_comm h P, Nat.mul_mod_mul_left, Nat.mul_add_mod, Nat.mod_eq_of_lt ht, Nat.mul_add_div hP, Nat.div_eq_of_lt ht, Nat.add_zero]
  omega

theorem shl_or {h t n : Nat} (hn : n ≤ 64) (ht : t < 2 ^ n) : (h * 2 ^ n % 18446744073709551616) % 18446744073709551616 ||| t % 18446744073709551616 = h * 2 ^ n % 18446744073709551616 + t := by
  have hPQ : 2 ^ n * 2 ^ (64 - n) = 18446744073709551616 := by rw [← Nat.pow_add, show n + (64 - n) = 64 by omega]
  have hle : 2 ^ n ≤ 18446744073709551616 := by rw [← hPQ]; exact Nat.le_mul_of_pos_right _ (Nat.two_pow_pos _)
  rw [Nat.mod_mod, Nat.mod_eq_of_lt (show t < 18446744073709551616 by omega), ← hPQ, Nat.mul_comm h, Nat.mul_mod_mul_left, ← Nat.two_pow_add_eq_or_of_lt ht]

end Go.Proofs.YtmjlldlaigoflaaGreat
