/- Long division by two digits: the plain law. No statement of the seat is proved here. -/
import Derived.Test.YtgablplpdocniaaWdShift
set_option linter.unusedSimpArgs false
set_option linter.unusedVariables false
namespace Go.Proofs.Ytgablplpdocniaa
open Go Go.Sx

/-- A guess at a digit: not below the true one. -/
structure Guess (u u1 y1 y0 q r : Nat) : Prop where
  e : u = q * y1 + r
  r : r < 4294967296
  up : (u * 4294967296 + u1) / (y1 * 4294967296 + y0) ≤ q
  le : q ≤ 4294967297

section
variable {u u1 y1 y0 q r : Nat}

theorem guess_eq (e : u = q * y1 + r) : u * 4294967296 + u1 + q * y0 = q * (y1 * 4294967296 + y0) + (4294967296 * r + u1) := by
  rw [e, Nat.add_mul, Nat.mul_add, Nat.mul_assoc]; omega

theorem digit_lt (hu : u < y1 * 4294967296 + y0) (h1 : u1 < 4294967296) : (u * 4294967296 + u1) / (y1 * 4294967296 + y0) < 4294967296 := by
  rw [Nat.div_lt_iff_lt_mul (by omega)]
  omega

theorem guess_first (hu : u < y1 * 4294967296 + y0) (h1 : u1 < 4294967296) (hy0 : y0 < 4294967296) (hy1 : y1 < 4294967296) (hn : 4294967296 ≤ 2 * y1) : Guess u u1 y1 y0 (u / y1) (u % y1) where
  e := (Nat.div_add_mod' u y1).symm
  r := Nat.lt_trans (Nat.mod_lt _ (by omega)) hy1
  up := by
    apply Decidable.byContradiction
    intro hc
    have hQ : (u / y1 + 1) * (y1 * 4294967296 + y0) ≤ u * 4294967296 + u1 := (Nat.le_div_iff_mul_le (by omega)).1 (by omega)
    have h2 := Nat.lt_div_mul_add (a := u) (show 0 < y1 by omega)
    rw [Nat.add_mul, Nat.mul_add, ← Nat.mul_assoc, Nat.one_mul] at hQ
    have h3 : 0 ≤ u / y1 * y0 := Nat.zero_le _
    omega
  le := by
    have : u / y1 < 4294967298 := by
      rw [Nat.div_lt_iff_lt_mul (by omega)]
      omega
    omega

theorem guess_next (hu : u < y1 * 4294967296 + y0) (h1 : u1 < 4294967296) (g : Guess u u1 y1 y0 q r) (h : 4294967296 ≤ q ∨ 4294967296 * r + u1 < q * y0) : (u * 4294967296 + u1) / (y1 * 4294967296 + y0) ≤ q - 1 ∧ 0 < q ∧ u = (q - 1) * y1 + (r + y1) := by
  have hd := digit_lt hu h1
  have hup := g.up
  have hlt : (u * 4294967296 + u1) / (y1 * 4294967296 + y0) < q := by
    rcases h with h | h
    · omega
    · rw [Nat.div_lt_iff_lt_mul (by omega)]
      have := guess_eq (u1 := u1) (y0 := y0) g.e
      omega
  clear hup hd
  have hq : 0 < q := by
    rcases Nat.eq_zero_or_pos q with rfl | h'
    · exact absurd hlt (Nat.not_lt_zero _)
    · exact h'
  refine ⟨Nat.le_sub_one_of_lt hlt, hq, ?_⟩
  clear hlt
  obtain ⟨k, rfl⟩ : ∃ k, q = k + 1 := ⟨q - 1, by omega⟩
  have := g.e
  rw [Nat.add_mul, Nat.one_mul] at this
  simp only [Nat.add_sub_cancel]
  omega

theorem guess_done (hy : 0 < y1 * 4294967296 + y0) (g : Guess u u1 y1 y0 q r) (h : q * y0 ≤ 4294967296 * r + u1) : q = (u * 4294967296 + u1) / (y1 * 4294967296 + y0) := by
  refine Nat.le_antisymm ?_ g.up
  rw [Nat.le_div_iff_mul_le hy]
  have := guess_eq (u1 := u1) (y0 := y0) g.e
  omega

theorem guess_broke (hy : 0 < y1 * 4294967296 + y0) (hy0 : y0 < 4294967296) (e : u = q * y1 + r) (hup : (u * 4294967296 + u1) / (y1 * 4294967296 + y0) ≤ q) (hq : q ≤ 4294967296) (hr : 4294967296 ≤ r) : q = (u * 4294967296 + u1) / (y1 * 4294967296 + y0) := by
  refine Nat.le_antisymm ?_ hup
  rw [Nat.le_div_iff_mul_le hy]
  have h1 := guess_eq (u1 := u1) (y0 := y0) e
  have h2 := Nat.mul_le_mul hq (Nat.le_of_lt hy0)
  omega
end

/-- The two digits together. -/
theorem two_digits {n un0 Y : Nat} (hY : 0 < Y) : (n * 4294967296 + un0) / Y = n / Y * 4294967296 + (n % Y * 4294967296 + un0) / Y ∧
    (n * 4294967296 + un0) % Y = (n % Y * 4294967296 + un0) % Y := by
  have e : n * 4294967296 + un0 = Y * (n / Y * 4294967296) + (n % Y * 4294967296 + un0) := by
    have := Nat.div_add_mod n Y
    rw [← Nat.mul_assoc, ← Nat.add_assoc, ← Nat.add_mul, this]
  rw [e, Nat.mul_add_div hY, Nat.mul_add_mod]
  exact ⟨rfl, rfl⟩

end Go.Proofs.Ytgablplpdocniaa
