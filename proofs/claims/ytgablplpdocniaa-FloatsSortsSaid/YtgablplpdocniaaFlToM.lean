/- Numbers as floats: rounding. No statement of the seat is proved here. -/
import Derived.Test.YtgablplpdocniaaFlMath
set_option linter.unusedSimpArgs false
set_option linter.unusedVariables false
namespace Go.Proofs.Ytgablplpdocniaa
open Go Go.Sx

/-- A quotient, rounded to the nearest, of two as near to the even one. -/
def rhe (a d : Nat) : Nat := if d < 2 * (a % d) ∨ (d = 2 * (a % d) ∧ a / d % 2 = 1) then a / d + 1 else a / d

theorem rhe_scale (a d c : Nat) (hc : 0 < c) : rhe (a * c) (d * c) = rhe a d := by
  unfold rhe
  rw [Nat.mul_mod_mul_right, Nat.mul_div_mul_right _ _ hc]
  have e1 : (d * c < 2 * (a % d * c)) ↔ (d < 2 * (a % d)) := by
    rw [← Nat.mul_assoc]; exact ⟨fun h => Nat.lt_of_mul_lt_mul_right h, fun h => Nat.mul_lt_mul_of_pos_right h hc⟩
  have e2 : (d * c = 2 * (a % d * c)) ↔ (d = 2 * (a % d)) := by
    rw [← Nat.mul_assoc]; exact ⟨fun h => Nat.eq_of_mul_eq_mul_right hc h, fun h => by rw [← h]⟩
  simp only [e1, e2]

/-- A quotient and what is left say how it is rounded. -/
theorem rhe_of {a d q r : Nat} (h : a = q * d + r) (hr : r < d) : rhe a d = if d < 2 * r ∨ (d = 2 * r ∧ q % 2 = 1) then q + 1 else q := by
  have h1 : a / d = q := by rw [h, Nat.add_comm, Nat.add_mul_div_right _ _ (by omega), Nat.div_eq_of_lt hr]; omega
  have h2 : a % d = r := by rw [h, Nat.add_comm, Nat.add_mul_mod_self_right, Nat.mod_eq_of_lt hr]
  unfold rhe; rw [h1, h2]

/-- By which power of two a count of millionths is brought to 53 digits. -/
def kOf (v : Nat) : Nat := 72 - Nat.log2 (v * 1048576 / 1000000)

def kOk (v k : Nat) : Prop := 4503599627370496 * 1000000 ≤ v * 2 ^ k ∧ v * 2 ^ k < 9007199254740992 * 1000000

theorem kOk_unique {v k l : Nat} (h : kOk v k) (g : kOk v l) : k = l := by
  have key : ∀ {k l}, kOk v k → kOk v l → ¬ k < l := by
    intro k l h g hlt
    obtain ⟨t, rfl⟩ : ∃ t, l = k + 1 + t := ⟨l - k - 1, by omega⟩
    have h1 := h.1
    have g2 := g.2
    rw [Nat.pow_add, Nat.pow_succ, ← Nat.mul_assoc, ← Nat.mul_assoc] at g2
    have ht := Nat.two_pow_pos t
    have : v * 2 ^ k * 2 * 1 ≤ v * 2 ^ k * 2 * 2 ^ t := Nat.mul_le_mul_left _ ht
    omega
  have a := key h g
  have b := key g h
  omega

theorem kOf_ok {v : Nat} (h1 : 1 ≤ v) (h2 : v < 18446744073709551616) : kOk v (kOf v) ∧ 8 ≤ kOf v ∧ kOf v ≤ 72 := by
  have ht : v * 1048576 / 1000000 ≠ 0 := by omega
  have hl := Nat.log2_self_le ht
  have hu := @Nat.lt_log2_self (v * 1048576 / 1000000)
  have hub : v * 1048576 / 1000000 < 2 ^ 65 := by
    rw [show (2 : Nat) ^ 65 = 36893488147419103232 from by decide]; omega
  have hlu : Nat.log2 (v * 1048576 / 1000000) < 65 := (Nat.log2_lt ht).2 hub
  unfold kOf kOk
  generalize Nat.log2 (v * 1048576 / 1000000) = l at *
  have hp := Nat.two_pow_pos l
  have e : 2 ^ (72 - l) * 2 ^ l = 4722366482869645213696 := by
    rw [← Nat.pow_add, Nat.sub_add_cancel (by omega)]
  refine ⟨⟨?_, ?_⟩, by omega, by omega⟩
  · refine Nat.le_of_mul_le_mul_right ?_ hp
    rw [Nat.mul_assoc v, e]
    rw [Nat.le_div_iff_mul_le (by decide)] at hl
    generalize 2 ^ l = p at *
    have e1 : v * 4722366482869645213696 = v * 1048576 * 4503599627370496 := by rw [Nat.mul_assoc]
    have e2 : 4503599627370496 * 1000000 * p = p * 1000000 * 4503599627370496 := by rw [Nat.mul_comm p, Nat.mul_right_comm, Nat.mul_comm (4503599627370496 * p), Nat.mul_comm 4503599627370496 p, Nat.mul_assoc]
    rw [e1, e2]
    exact Nat.mul_le_mul_right _ hl
  · refine Nat.lt_of_mul_lt_mul_right (a := 2 ^ l) ?_
    rw [Nat.mul_assoc v, e]
    rw [Nat.pow_succ] at hu
    rw [Nat.div_lt_iff_lt_mul (by decide)] at hu
    generalize 2 ^ l = p at *
    have e1 : v * 4722366482869645213696 = v * 1048576 * 4503599627370496 := by rw [Nat.mul_assoc]
    have e2 : 9007199254740992 * 1000000 * p = p * 2 * 1000000 * 4503599627370496 := by
      rw [show 9007199254740992 = 2 * 4503599627370496 from rfl, Nat.mul_comm p 2, Nat.mul_comm _ p, Nat.mul_comm (2 * p)]
      simp only [Nat.mul_assoc, Nat.mul_comm, Nat.mul_left_comm]
    rw [e1, e2]
    exact Nat.mul_lt_mul_of_pos_right hu (by decide)

theorem rhe_range {v k : Nat} (h : kOk v k) : 4503599627370496 ≤ rhe (v * 2 ^ k) 1000000 ∧ rhe (v * 2 ^ k) 1000000 ≤ 9007199254740992 := by
  obtain ⟨h1, h2⟩ := h
  unfold rhe
  generalize v * 2 ^ k = a at *
  split <;> omega

/-- A size of so many millionths as a float. -/
def toB' (v : Nat) : Nat := (1074 - kOf v) * 4503599627370496 + rhe (v * 2 ^ kOf v) 1000000

theorem toB'_of {v k : Nat} (h1 : 1 ≤ v) (h2 : v < 18446744073709551616) (h : kOk v k) : toB' v = (1074 - k) * 4503599627370496 + rhe (v * 2 ^ k) 1000000 := by
  rw [toB', kOk_unique (kOf_ok h1 h2).1 h]

theorem toB'_range {v : Nat} (h1 : 1 ≤ v) (h2 : v < 18446744073709551616) : 4503599627370496 ≤ toB' v ∧ toB' v < 9218868437227405312 := by
  obtain ⟨a, b, c⟩ := kOf_ok h1 h2
  have := rhe_range a
  unfold toB'
  generalize rhe (v * 2 ^ kOf v) 1000000 = r at *
  generalize kOf v = k at *
  omega

/-- Sizes rise, and so do their floats. -/
theorem rhe_mono {a b d : Nat} (hd : 0 < d) (h : a ≤ b) : rhe a d ≤ rhe b d := by
  have ha := Nat.div_add_mod a d
  have hb := Nat.div_add_mod b d
  have la := Nat.mod_lt a hd
  have lb := Nat.mod_lt b hd
  have hq : a / d ≤ b / d := Nat.div_le_div_right h
  unfold rhe
  rcases Nat.lt_or_eq_of_le hq with hq | hq
  · split <;> split <;> omega
  · rw [hq] at ha ⊢
    have : a % d ≤ b % d := by
      have e : d * (b / d) + a % d ≤ d * (b / d) + b % d := by rw [ha, hb]; exact h
      omega
    split <;> split <;> omega

theorem toB'_mono {v w : Nat} (h1 : 1 ≤ v) (h : v ≤ w) (h2 : w < 18446744073709551616) : toB' v ≤ toB' w := by
  obtain ⟨a, a2, a3⟩ := kOf_ok h1 (by omega : v < 18446744073709551616)
  obtain ⟨b, b2, b3⟩ := kOf_ok (by omega : 1 ≤ w) h2
  have ra := rhe_range a
  have rb := rhe_range b
  have hk : kOf w ≤ kOf v := by
    refine Nat.not_lt.1 fun hlt => ?_
    obtain ⟨t, ht⟩ : ∃ t, kOf w = kOf v + 1 + t := ⟨kOf w - kOf v - 1, by omega⟩
    have a1 := a.1
    have b1 := b.2
    rw [ht, Nat.pow_add, Nat.pow_succ, ← Nat.mul_assoc, ← Nat.mul_assoc] at b1
    have hp := Nat.two_pow_pos t
    have : w * 2 ^ kOf v * 2 * 1 ≤ w * 2 ^ kOf v * 2 * 2 ^ t := Nat.mul_le_mul_left _ hp
    have : v * 2 ^ kOf v ≤ w * 2 ^ kOf v := Nat.mul_le_mul_right _ h
    omega
  unfold toB'
  rcases Nat.lt_or_eq_of_le hk with hk | hk
  · generalize rhe (v * 2 ^ kOf v) 1000000 = x at *
    generalize rhe (w * 2 ^ kOf w) 1000000 = y at *
    omega
  · rw [hk]
    have : rhe (v * 2 ^ kOf v) 1000000 ≤ rhe (w * 2 ^ kOf v) 1000000 := rhe_mono (by decide) (Nat.mul_le_mul_right _ h)
    omega

/-- A whole number of 53 digits is a float. -/
theorem near_whole {m : Nat} (h1 : 4503599627370496 ≤ m) (h2 : m ≤ 9007199254740992) : FloatKind.f64.nearest (m : Int) = 1074 * 4503599627370496 + m := by
  unfold FloatKind.nearest FloatKind.encode
  show Ieee.double.write (.number (decide ((m : Int) < 0)) (m : Int).natAbs 0) = _
  rw [decide_eq_false (by omega), Int.natAbs_natCast]
  unfold Ieee.Format.write Ieee.Format.nearest
  simp only
  rw [if_neg (by omega)]
  have e1 : Ieee.double.fractionBits = 52 := rfl
  have e2 : Ieee.double.binade = 4503599627370496 := by decide
  have e3 : Ieee.double.leastPlace = -1074 := by decide
  have e4 : Ieee.double.infRung = 9218868437227405312 := by decide
  by_cases hm : m = 9007199254740992
  · subst hm; decide
  · have hl : m.log2 = 52 := by
      rw [Nat.log2_eq_iff (by omega)]
      exact ⟨by omega, by omega⟩
    rw [hl, e1, e2, e3, e4]
    have el : max ((0 : Int) + (52 : Nat) - (52 : Nat)) (-1074) = 0 := by omega
    rw [el]
    unfold Ieee.Toward.cut
    simp only [Int.sub_self, Int.toNat_zero, Nat.shiftLeft_zero, Nat.zero_min, Nat.div_one, Nat.mod_one]
    unfold Ieee.Format.word
    simp only [Bool.false_eq_true, if_false]
    have : (decide (1 < 2 * 0) || (1 == 2 * 0 && m % 2 == 1)) = false := by rfl
    rw [this]
    simp only [Bool.toNat_false, Nat.add_zero]
    have ez : ((0 : Int) - (-1074)).toNat = 1074 := by decide
    rw [ez]
    omega

/-- One times a float. -/
theorem mul_one_fl {y : Nat} (h1 : 4503599627370496 ≤ y) (h2 : y < 9218868437227405312) : Ieee.double.mul 4607182418800017408 y = some y := by
  have hy : flR y = y := by unfold flR; omega
  have hn : flN y = false := by unfold flN; rw [beq_eq_false_iff_ne]; omega
  have r1 : Ieee.double.read 4607182418800017408 = .number false 4503599627370496 (-52) := by
    rw [read_norm (by decide) (by decide)]; decide
  have r2 := read_norm (b := y) (by omega) (by omega)
  rw [hn, hy] at r2
  unfold Ieee.Format.mul
  rw [r1, r2]
  simp only [Ieee.Datum.product, Option.map_some, Option.some.injEq, Bool.xor_self]
  have hd := Nat.div_add_mod y 4503599627370496
  have hm := Nat.mod_lt y (show 0 < 4503599627370496 by decide)
  generalize y % 4503599627370496 = m at *
  obtain ⟨q, hq⟩ : ∃ q, y / 4503599627370496 = q + 1 := ⟨y / 4503599627370496 - 1, by omega⟩
  rw [hq] at hd ⊢
  have hq2 : q < 2046 := by omega
  rw [show q + 1 - 1 = q by omega]
  unfold Ieee.Format.write Ieee.Format.nearest
  simp only
  rw [if_neg (by omega)]
  have e1 : Ieee.double.fractionBits = 52 := rfl
  have e2 : Ieee.double.binade = 4503599627370496 := by decide
  have e3 : Ieee.double.leastPlace = -1074 := by decide
  have e4 : Ieee.double.infRung = 9218868437227405312 := by decide
  have hl : (4503599627370496 * (4503599627370496 + m)).log2 = 104 := by
    rw [Nat.log2_eq_iff (by omega)]
    rw [show (2 : Nat) ^ 104 = 4503599627370496 * 4503599627370496 by decide, show (2 : Nat) ^ (104 + 1) = 4503599627370496 * 9007199254740992 by decide]
    exact ⟨Nat.mul_le_mul_left _ (by omega), Nat.mul_lt_mul_of_pos_left (by omega) (by decide)⟩
  rw [hl, e1, e2, e3, e4]
  have el : max (-52 + (-1074 + (q : Int)) + (104 : Nat) - (52 : Nat)) (-1074) = -1074 + (q : Int) := by omega
  rw [el]
  have d1 : (-52 + (-1074 + (q : Int)) - (-1074 + (q : Int))).toNat = 0 := by omega
  have d2 : (-1074 + (q : Int) - (-52 + (-1074 + (q : Int)))).toNat = 52 := by omega
  have d3 : (-1074 + (q : Int) - -1074).toNat = q := by omega
  rw [d1, d2, d3]
  unfold Ieee.Toward.cut
  simp only [Nat.shiftLeft_zero, hl]
  have d4 : 1 <<< min 52 (104 + 2) = 4503599627370496 := by decide
  have d6 : 4503599627370496 * (4503599627370496 + m) / 4503599627370496 = 4503599627370496 + m := Nat.mul_div_cancel_left _ (by decide)
  have d7 : 4503599627370496 * (4503599627370496 + m) % 4503599627370496 = 0 := Nat.mul_mod_right _ _
  rw [d4, d6, d7]
  have d5 : (decide (4503599627370496 < 2 * 0) || (4503599627370496 == 2 * 0 && (4503599627370496 + m) % 2 == 1)) = false := by simp
  rw [d5]
  unfold Ieee.Format.word
  rw [if_neg (by decide), Bool.toNat_false, Nat.add_zero]
  have hle : q * 4503599627370496 + (4503599627370496 + m) = y := by clear d6 d7 d5 hl; omega
  rw [hle]
  exact Nat.min_eq_left (Nat.le_of_lt h2)

theorem ratio8 {A q r0 m : Nat} (hA : A * 8 = q * 1000000 + r0) (hr : r0 < 1000000) (hm : m = if r0 = 0 then q else q / 2 * 2 + 1) : rhe A 1000000 = if 4 < m % 8 ∨ (m % 8 = 4 ∧ m / 8 % 2 = 1) then m / 8 + 1 else m / 8 := by
  have h1 : A = q / 8 * 1000000 + (A - q / 8 * 1000000) := by omega
  rw [rhe_of h1 (by omega)]
  have e1 : m / 8 = q / 8 := by rw [hm]; split <;> omega
  have e2 : (1000000 < 2 * (A - q / 8 * 1000000) ∨ (1000000 = 2 * (A - q / 8 * 1000000) ∧ q / 8 % 2 = 1)) ↔ (4 < m % 8 ∨ (m % 8 = 4 ∧ m / 8 % 2 = 1)) := by
    rw [e1, hm]; split <;> omega
  simp only [e2, e1]

theorem ratio16 {A q r0 m : Nat} (hA : A * 16 = q * 1000000 + r0) (hr : r0 < 1000000) (hm : m = if r0 = 0 then q else q / 2 * 2 + 1) : rhe A 1000000 = if 8 < m % 16 ∨ (m % 16 = 8 ∧ m / 16 % 2 = 1) then m / 16 + 1 else m / 16 := by
  have h1 : A = q / 16 * 1000000 + (A - q / 16 * 1000000) := by omega
  rw [rhe_of h1 (by omega)]
  have e1 : m / 16 = q / 16 := by rw [hm]; split <;> omega
  have e2 : (1000000 < 2 * (A - q / 16 * 1000000) ∨ (1000000 = 2 * (A - q / 16 * 1000000) ∧ q / 16 % 2 = 1)) ↔ (8 < m % 16 ∨ (m % 16 = 8 ∧ m / 16 % 2 = 1)) := by
    rw [e1, hm]; split <;> omega
  simp only [e2, e1]

/-- What the program's digits come to: how many fall off, and how the rest is rounded. -/
theorem ratio_facts {v s w m : Nat} (hw : w = v * 2 ^ s) (h1 : 37778931862957161709568 ≤ w) (h2 : w < 75557863725914323419136) (hs : 13 ≤ s) (hm : m = if w % 1000000 = 0 then w / 1000000 else w / 1000000 / 2 * 2 + 1) :
    ∃ x p : Nat, (x = 3 ∧ p = 8 ∨ x = 4 ∧ p = 16) ∧ p = 2 ^ x ∧ 2 ^ (x + 52) ≤ m ∧ m < 2 ^ (x + 53) ∧ kOk v (s - x) ∧ rhe (v * 2 ^ (s - x)) 1000000 = if p / 2 < m % p ∨ (m % p = p / 2 ∧ m / p % 2 = 1) then m / p + 1 else m / p := by
  have hd := Nat.div_add_mod w 1000000
  have hml := Nat.mod_lt w (show 0 < 1000000 by decide)
  by_cases hq : w / 1000000 < 72057594037927936
  · refine ⟨3, 8, .inl ⟨rfl, rfl⟩, rfl, ?_, ?_, ?_, ?_⟩
    · rw [hm, show (2 : Nat) ^ (3 + 52) = 36028797018963968 from by decide]; split <;> omega
    · rw [hm, show (2 : Nat) ^ (3 + 53) = 72057594037927936 from by decide]; split <;> omega
    · have hA : v * 2 ^ (s - 3) * 8 = w := by rw [hw, Nat.mul_assoc, show 8 = 2 ^ 3 from rfl, ← Nat.pow_add, Nat.sub_add_cancel (by omega)]
      unfold kOk
      generalize v * 2 ^ (s - 3) = A at *
      omega
    · have hA : v * 2 ^ (s - 3) * 8 = w := by rw [hw, Nat.mul_assoc, show 8 = 2 ^ 3 from rfl, ← Nat.pow_add, Nat.sub_add_cancel (by omega)]
      exact ratio8 (hA.trans (by omega)) hml hm
  · refine ⟨4, 16, .inr ⟨rfl, rfl⟩, rfl, ?_, ?_, ?_, ?_⟩
    · rw [hm, show (2 : Nat) ^ (4 + 52) = 72057594037927936 from by decide]; split <;> omega
    · rw [hm, show (2 : Nat) ^ (4 + 53) = 144115188075855872 from by decide]; split <;> omega
    · have hA : v * 2 ^ (s - 4) * 16 = w := by rw [hw, Nat.mul_assoc, show 16 = 2 ^ 4 from rfl, ← Nat.pow_add, Nat.sub_add_cancel (by omega)]
      unfold kOk
      generalize v * 2 ^ (s - 4) = A at *
      omega
    · have hA : v * 2 ^ (s - 4) * 16 = w := by rw [hw, Nat.mul_assoc, show 16 = 2 ^ 4 from rfl, ← Nat.pow_add, Nat.sub_add_cancel (by omega)]
      exact ratio16 (hA.trans (by omega)) hml hm

/-- What the document's digits come to. -/
theorem ref_round {A D R m num : Nat} (hA : A = R * 4503599627370496) (h : R * 18014398509481984 = 2 * m * D + num) (hn : num < 2 * D) : rhe A D = if m % 2 = 1 ∧ (num ≠ 0 ∨ m / 2 % 2 = 1) then m / 2 + 1 else m / 2 := by
  have h4 : A * 4 = 2 * m * D + num := by rw [← h, hA]; omega
  obtain ⟨b, hb, hm⟩ : ∃ b, b = m % 2 ∧ m = 2 * (m / 2) + b := ⟨m % 2, rfl, by omega⟩
  have hX : 2 * m * D = 4 * (m / 2 * D) + 2 * (b * D) := by
    conv => lhs; rw [hm]
    rw [Nat.mul_add, Nat.add_mul, ← Nat.mul_assoc, Nat.mul_assoc, Nat.mul_assoc 2 b D]
  rw [hX] at h4
  have hbb : b = 0 ∧ b * D = 0 ∨ b = 1 ∧ b * D = D := by
    rcases Nat.mod_two_eq_zero_or_one m with e | e
    · left; rw [hb, e]; simp
    · right; rw [hb, e]; simp
  have h1 : A = m / 2 * D + (A - m / 2 * D) := by omega
  rw [rhe_of h1 (by omega), ← hb]
  have e2 : (D < 2 * (A - m / 2 * D) ∨ (D = 2 * (A - m / 2 * D) ∧ m / 2 % 2 = 1)) ↔ (b = 1 ∧ (num ≠ 0 ∨ m / 2 % 2 = 1)) := by
    generalize m / 2 * D = X at *
    generalize b * D = Y at *
    omega
  simp only [e2]

theorem ref_k {v i j : Nat} (hij : i = 0 ∨ j = 0) (hj : j ≤ 52) (h1 : 1000000 * 2 ^ j ≤ v * 2 ^ i) (h2 : v * 2 ^ i < 2 * (1000000 * 2 ^ j)) : kOk v (52 + i - j) ∧ rhe (v * 2 ^ (52 + i - j)) 1000000 = rhe (v * 2 ^ i * 4503599627370496) (1000000 * 2 ^ j) := by
  have hA : v * 2 ^ (52 + i - j) * 2 ^ j = v * 2 ^ i * 4503599627370496 := by
    rw [Nat.mul_assoc, ← Nat.pow_add, Nat.sub_add_cancel (by omega), Nat.pow_add, show (2 : Nat) ^ 52 = 4503599627370496 from by decide, Nat.mul_comm 4503599627370496, Nat.mul_assoc]
  have hp := Nat.two_pow_pos j
  refine ⟨⟨?_, ?_⟩, ?_⟩
  · refine Nat.le_of_mul_le_mul_right ?_ hp
    rw [hA]
    generalize 2 ^ j = P at *
    generalize v * 2 ^ i = R at *
    omega
  · refine Nat.lt_of_mul_lt_mul_right (a := 2 ^ j) ?_
    rw [hA]
    generalize 2 ^ j = P at *
    generalize v * 2 ^ i = R at *
    omega
  · rw [← hA, rhe_scale _ _ _ hp]

end Go.Proofs.Ytgablplpdocniaa
