/- Floats: their order, by their bits. No statement of the seat is proved here. -/
import Derived.Test.YtgablplpdocniaaSlim
set_option linter.unusedSimpArgs false
set_option linter.unusedVariables false
namespace Go.Proofs.Ytgablplpdocniaa
open Go Go.Sx

/-- A float's bits without the sign; its sign. -/
def flR (b : Nat) : Nat := b % 9223372036854775808
def flN (b : Nat) : Bool := b / 9223372036854775808 % 2 == 1
/-- What a magnitude is, in units of the least one. -/
def flV (r : Nat) : Nat := if r < 4503599627370496 then r else (4503599627370496 + r % 4503599627370496) * 2 ^ (r / 4503599627370496 - 1)

theorem flV_succ (r : Nat) : flV r < flV (r + 1) := by
  unfold flV
  by_cases h1 : r + 1 < 4503599627370496
  · rw [if_pos h1, if_pos (by omega)]; omega
  by_cases h2 : r < 4503599627370496
  · obtain rfl : r = 4503599627370495 := by omega
    decide
  · rw [if_neg h1, if_neg h2]
    by_cases h3 : r % 4503599627370496 = 4503599627370495
    · have e1 : (r + 1) % 4503599627370496 = 0 := by omega
      have e2 : (r + 1) / 4503599627370496 = r / 4503599627370496 + 1 := by omega
      rw [e1, e2, h3]
      obtain ⟨k, hk⟩ : ∃ k, r / 4503599627370496 = k + 1 := ⟨r / 4503599627370496 - 1, by omega⟩
      rw [hk, show k + 1 + 1 - 1 = k + 1 by omega, show k + 1 - 1 = k by omega, Nat.pow_succ]
      have := Nat.two_pow_pos k
      generalize 2 ^ k = p at *
      omega
    · have e1 : (r + 1) % 4503599627370496 = r % 4503599627370496 + 1 := by omega
      have e2 : (r + 1) / 4503599627370496 = r / 4503599627370496 := by omega
      rw [e1, e2]
      exact Nat.mul_lt_mul_of_pos_right (by omega) (Nat.two_pow_pos _)

theorem flV_mono {r s : Nat} (h : r < s) : flV r < flV s := by
  induction s with
  | zero => omega
  | succ s ih =>
    by_cases e : r = s
    · rw [e]; exact flV_succ s
    · exact Nat.lt_trans (ih (by omega)) (flV_succ s)

theorem flV_cmp (r s : Nat) : (flV r < flV s ↔ r < s) ∧ (flV r = flV s ↔ r = s) := by
  rcases Nat.lt_trichotomy r s with h | h | h
  · have := flV_mono h; exact ⟨⟨fun _ => h, fun _ => this⟩, ⟨fun e => by omega, fun e => by omega⟩⟩
  · subst h; simp
  · have := flV_mono h; exact ⟨⟨fun e => by omega, fun e => by omega⟩, ⟨fun e => by omega, fun e => by omega⟩⟩

/-- By which floats that are numbers stand in order. -/
def flK (b : Nat) : Int := if flN b then -(flR b : Int) else flR b

def flNaN (b : Nat) : Bool := decide (9218868437227405312 < flR b)

def sgnI (n : Bool) (m : Nat) : Int := if n then -(m : Int) else m

theorem read_small {b : Nat} (h : flR b < 4503599627370496) : Ieee.double.read b = .number (flN b) (flR b) (-1074) := by
  unfold Ieee.Format.read
  have e1 : Ieee.double.signWeight = 9223372036854775808 := by decide
  have e2 : Ieee.double.binade = 4503599627370496 := by decide
  have e3 : Ieee.double.leastPlace = -1074 := by decide
  simp only [e1, e2, e3]
  unfold flR at h
  rw [if_pos h]; rfl
theorem read_norm {b : Nat} (h : ¬ flR b < 4503599627370496) (h2 : flR b < 9218868437227405312) : Ieee.double.read b = .number (flN b) (4503599627370496 + flR b % 4503599627370496) (-1074 + ((flR b / 4503599627370496 - 1 : Nat) : Int)) := by
  unfold Ieee.Format.read
  have e1 : Ieee.double.signWeight = 9223372036854775808 := by decide
  have e2 : Ieee.double.binade = 4503599627370496 := by decide
  have e3 : Ieee.double.leastPlace = -1074 := by decide
  have e4 : Ieee.double.infRung = 9218868437227405312 := by decide
  simp only [e1, e2, e3, e4]
  unfold flR at h h2
  rw [if_neg h, if_pos h2]; rfl
theorem read_inf {b : Nat} (h : flR b = 9218868437227405312) : Ieee.double.read b = .infinity (flN b) := by
  unfold Ieee.Format.read
  have e1 : Ieee.double.signWeight = 9223372036854775808 := by decide
  have e2 : Ieee.double.binade = 4503599627370496 := by decide
  have e3 : Ieee.double.leastPlace = -1074 := by decide
  have e4 : Ieee.double.infRung = 9218868437227405312 := by decide
  simp only [e1, e2, e3, e4]
  unfold flR at h
  rw [if_neg (by omega), if_neg (by omega), if_pos h]; rfl
theorem read_nan {b : Nat} (h : 9218868437227405312 < flR b) : ∃ t, Ieee.double.read b = .nan (flN b) t := by
  unfold Ieee.Format.read
  have e1 : Ieee.double.signWeight = 9223372036854775808 := by decide
  have e2 : Ieee.double.binade = 4503599627370496 := by decide
  have e3 : Ieee.double.leastPlace = -1074 := by decide
  have e4 : Ieee.double.infRung = 9218868437227405312 := by decide
  simp only [e1, e2, e3, e4]
  unfold flR at h
  rw [if_neg (by omega), if_neg (by omega), if_neg (by omega)]
  exact ⟨_, rfl⟩

/-- A finite float: what it is, at a place at which it is whole. -/
theorem read_fin {b : Nat} (h : flR b < 9218868437227405312) : ∃ (m : Nat) (k : Nat), Ieee.double.read b = .number (flN b) m (-1074 + (k : Int)) ∧ m * 2 ^ k = flV (flR b) := by
  by_cases h1 : flR b < 4503599627370496
  · refine ⟨flR b, 0, by rw [read_small h1]; rfl, ?_⟩
    unfold flV; rw [if_pos h1]; simp
  · exact ⟨_, _, read_norm h1 h, by unfold flV; rw [if_neg h1]⟩

theorem signed_eq (n : Bool) (m k : Nat) : Ieee.signed n m k = sgnI n (m * 2 ^ k) := by
  unfold Ieee.signed sgnI
  simp only [Nat.shiftLeft_eq]

theorem compare_int (a b : Int) : compare a b = if a < b then .lt else if a = b then .eq else .gt := by
  rw [compare, instOrdInt]
  rfl

theorem sgn_scale (n t : Bool) (a b p : Nat) (hp : 0 < p) : compare (sgnI n (a * p)) (sgnI t (b * p)) = compare (sgnI n a) (sgnI t b) := by
  have e : ∀ (n : Bool) (a : Nat), sgnI n (a * p) = sgnI n a * p := by
    intro n a; unfold sgnI; cases n <;> simp [Int.neg_mul]
  rw [e, e, compare_int, compare_int]
  have hp' : (0 : Int) < p := by omega
  have h1 : (sgnI n a * (p : Int) < sgnI t b * (p : Int)) ↔ sgnI n a < sgnI t b := ⟨fun h => Int.lt_of_mul_lt_mul_right h (Int.le_of_lt hp'), fun h => Int.mul_lt_mul_of_pos_right h hp'⟩
  have h2 : (sgnI n a * (p : Int) = sgnI t b * (p : Int)) ↔ sgnI n a = sgnI t b := ⟨fun h => Int.eq_of_mul_eq_mul_right (by omega) h, fun h => by rw [h]⟩
  simp only [h1, h2]

/-- How finite floats are held against each other. -/
theorem order_fin {x y : Nat} (hx : flR x < 9218868437227405312) (hy : flR y < 9218868437227405312) : Ieee.double.order x y = some (compare (flK x) (flK y)) := by
  obtain ⟨m, i, rx, vx⟩ := read_fin hx
  obtain ⟨n, j, ry, vy⟩ := read_fin hy
  unfold Ieee.Format.order
  rw [rx, ry]
  simp only [Ieee.Datum.order, signed_eq]
  congr 1
  -- to the units of the least one
  have key : ∀ (base : Nat), base ≤ i → base ≤ j → compare (sgnI (flN x) (m * 2 ^ (i - base))) (sgnI (flN y) (n * 2 ^ (j - base))) = compare (sgnI (flN x) (flV (flR x))) (sgnI (flN y) (flV (flR y))) := by
    intro base h1 h2
    rw [← sgn_scale _ _ _ _ (2 ^ base) (Nat.two_pow_pos _), Nat.mul_assoc, Nat.mul_assoc, ← Nat.pow_add, ← Nat.pow_add, Nat.sub_add_cancel h1, Nat.sub_add_cancel h2, vx, vy]
  have hb : ∃ base : Nat, min (-1074 + (i : Int)) (-1074 + (j : Int)) = -1074 + (base : Int) ∧ base ≤ i ∧ base ≤ j := ⟨min i j, by omega, by omega, by omega⟩
  obtain ⟨base, hb, hi, hj⟩ := hb
  rw [hb, show (-1074 + (i : Int) - (-1074 + (base : Int))).toNat = i - base by omega, show (-1074 + (j : Int) - (-1074 + (base : Int))).toNat = j - base by omega, key base hi hj]
  obtain ⟨c1, c2⟩ := flV_cmp (flR x) (flR y)
  obtain ⟨d1, d2⟩ := flV_cmp (flR y) (flR x)
  have z : ∀ r, flV r = 0 ↔ r = 0 := fun r => by
    have := (flV_cmp r 0).2
    rwa [show flV 0 = 0 from rfl] at this
  have zx := z (flR x)
  have zy := z (flR y)
  unfold flK
  rw [compare_int, compare_int]
  unfold sgnI
  generalize flR x = a at *
  generalize flR y = b at *
  generalize flV a = va at *
  generalize flV b = vb at *
  clear key hb hi hj rx ry vx vy z hx hy
  cases flN x <;> cases flN y <;> simp only [if_true, if_false, Bool.false_eq_true]
  · have e1 : ((va : Int) < (vb : Int)) ↔ ((a : Int) < (b : Int)) := by omega
    have e2 : ((va : Int) = (vb : Int)) ↔ ((a : Int) = (b : Int)) := by omega
    simp only [e1, e2]
  · have e1 : ((va : Int) < -(vb : Int)) ↔ ((a : Int) < -(b : Int)) := by omega
    have e2 : ((va : Int) = -(vb : Int)) ↔ ((a : Int) = -(b : Int)) := by omega
    simp only [e1, e2]
  · have e1 : (-(va : Int) < (vb : Int)) ↔ (-(a : Int) < (b : Int)) := by omega
    have e2 : (-(va : Int) = (vb : Int)) ↔ (-(a : Int) = (b : Int)) := by omega
    simp only [e1, e2]
  · have e1 : (-(va : Int) < -(vb : Int)) ↔ (-(a : Int) < -(b : Int)) := by omega
    have e2 : (-(va : Int) = -(vb : Int)) ↔ (-(a : Int) = -(b : Int)) := by omega
    simp only [e1, e2]

/-- How any two floats are held against each other. -/
theorem order_eq (x y : Nat) : Ieee.double.order x y = if flNaN x || flNaN y then none else some (compare (flK x) (flK y)) := by
  unfold flNaN
  by_cases hx : 9218868437227405312 < flR x
  · obtain ⟨t, rx⟩ := read_nan hx
    unfold Ieee.Format.order
    rw [rx]
    have : (decide (9218868437227405312 < flR x) || decide (9218868437227405312 < flR y)) = true := by simp [hx]
    rw [if_pos this]
    cases Ieee.double.read y <;> rfl
  by_cases hy : 9218868437227405312 < flR y
  · obtain ⟨t, ry⟩ := read_nan hy
    unfold Ieee.Format.order
    rw [ry]
    have : (decide (9218868437227405312 < flR x) || decide (9218868437227405312 < flR y)) = true := by simp [hy]
    rw [if_pos this]
    cases Ieee.double.read x <;> rfl
  have : (decide (9218868437227405312 < flR x) || decide (9218868437227405312 < flR y)) = false := by simp [hx, hy]
  rw [this, if_neg (by decide)]
  by_cases hx1 : flR x = 9218868437227405312
  · have rx := read_inf hx1
    by_cases hy1 : flR y = 9218868437227405312
    · have ry := read_inf hy1
      unfold Ieee.Format.order
      rw [rx, ry]
      simp only [Ieee.Datum.order]
      congr 1
      unfold flK
      rw [hx1, hy1]
      cases flN x <;> cases flN y <;> decide
    · obtain ⟨m, k, ry, _⟩ := read_fin (b := y) (by omega)
      unfold Ieee.Format.order
      rw [rx, ry]
      simp only [Ieee.Datum.order]
      congr 1
      unfold flK
      rw [hx1, compare_int]
      cases flN x <;> cases flN y <;> simp only [if_true, if_false, Bool.false_eq_true]
      · rw [if_neg (by omega), if_neg (by omega)]
      · rw [if_neg (by omega), if_neg (by omega)]
      · rw [if_pos (by omega)]
      · rw [if_pos (by omega)]
  · by_cases hy1 : flR y = 9218868437227405312
    · have ry := read_inf hy1
      obtain ⟨m, k, rx, _⟩ := read_fin (b := x) (by omega)
      unfold Ieee.Format.order
      rw [rx, ry]
      simp only [Ieee.Datum.order]
      congr 1
      unfold flK
      rw [hy1, compare_int]
      cases flN x <;> cases flN y <;> simp only [if_true, if_false, Bool.false_eq_true]
      · rw [if_pos (by omega)]
      · rw [if_neg (by omega), if_neg (by omega)]
      · rw [if_pos (by omega)]
      · rw [if_neg (by omega), if_neg (by omega)]
    · exact order_fin (by omega) (by omega)

end Go.Proofs.Ytgablplpdocniaa
