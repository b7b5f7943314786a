/- Contracts of the document's roundings, shifts and roots of wide numbers. No statement of the seat is proved here. -/
import Derived.Test.YtgablplpdocniaaWdHigh
set_option linter.unusedSimpArgs false
set_option linter.unusedVariables false
namespace Go.Proofs.Ytgablplpdocniaa
open Go Go.Sx

/-- A quotient, to the nearest number. -/
def rnd (a d : Nat) : Nat := if d ≤ 2 * (a % d) then a / d + 1 else a / d
def roundV (a d : Nat) : Nat := if d = 0 then 0 else if 18446744073709551616 ≤ rnd a d then 0 else rnd a d
def roundE (a d : Nat) : Int := if d = 0 then 1 else if 18446744073709551616 ≤ rnd a d then 3 else 0

theorem root_exists (a : Nat) : ∀ b, a < b * b → ∃ n, n < b ∧ n * n ≤ a ∧ a < (n + 1) * (n + 1)
  | 0, h => by simp at h
  | b + 1, h => by
    by_cases hb : a < b * b
    · obtain ⟨n, h1, h2⟩ := root_exists a b hb
      exact ⟨n, by omega, h2⟩
    · exact ⟨b, by omega, by omega, h⟩

theorem root_le {a n m : Nat} (h1 : n * n ≤ a) (h2 : a < (n + 1) * (n + 1)) : m * m ≤ a ↔ m ≤ n := by
  constructor
  · intro h
    apply Decidable.byContradiction
    intro hc
    have := Nat.mul_le_mul (show n + 1 ≤ m by omega) (show n + 1 ≤ m by omega)
    omega
  · intro h
    exact Nat.le_trans (Nat.mul_le_mul h h) h1

end Go.Proofs.Ytgablplpdocniaa
