/- The laws on floats there and back, and sorted. No statement of the seat is proved here. -/
import Derived.Test.YtgablplpdocniaaFlLaw
import Derived.Test.YtgablplpdocniaaSxH
set_option linter.unusedSimpArgs false
set_option linter.unusedVariables false
namespace Go.Proofs.Ytgablplpdocniaa
open Go Go.Sx

theorem rhe_near (a d : Nat) (hd : 0 < d) : 2 * (rhe a d * d) ≤ 2 * a + d ∧ 2 * a ≤ 2 * (rhe a d * d) + d := by
  have h := Nat.div_add_mod a d
  have hm := Nat.mod_lt a hd
  rw [Nat.mul_comm] at h
  unfold rhe
  split
  · rw [Nat.add_mul, Nat.one_mul]
    generalize a / d * d = X at *
    omega
  · generalize a / d * d = X at *
    omega

theorem double_div (x y c : Nat) : (2 * x + 2 * y) / (2 * c) = (x + y) / c := by
  rw [← Nat.mul_add, Nat.mul_div_mul_left _ _ (by decide)]

/-- A float of a size: its parts give it back. -/
theorem mil_toB {a : Nat} (h1 : 1 ≤ a) (h2 : a < 18446744073709551616) (b : Nat) (hb : flR b = toB' a) : flMil b = (rhe (a * 2 ^ kOf a) 1000000 * 1000000 + 2 ^ (kOf a - 1)) / 2 ^ kOf a := by
  obtain ⟨hk, k1, k2⟩ := kOf_ok h1 h2
  obtain ⟨r1, r2⟩ := rhe_range hk
  unfold toB' at hb
  unfold flMil flM flE
  rw [hb]
  generalize rhe (a * 2 ^ kOf a) 1000000 = m at *
  generalize kOf a = k at *
  by_cases hm : m = 9007199254740992
  · have e1 : ((1074 - k) * 4503599627370496 + m) / 4503599627370496 = 1076 - k := by omega
    have e2 : ((1074 - k) * 4503599627370496 + m) % 4503599627370496 = 0 := by omega
    rw [e1, e2, if_neg (by omega), if_neg (by omega), if_neg (by omega), if_neg (by omega)]
    have e3 : (-(((1076 - k : Nat) : Int) - 1075)).toNat = k - 1 := by omega
    rw [e3, hm]
    obtain ⟨t, rfl⟩ : ∃ t, k = t + 2 := ⟨k - 2, by omega⟩
    rw [show t + 2 - 1 = t + 1 by omega, show t + 1 - 1 = t by omega, Nat.pow_succ, Nat.mul_comm _ 2, Nat.pow_succ, Nat.mul_comm _ 2, Nat.add_zero, show 9007199254740992 * 1000000 = 2 * (4503599627370496 * 1000000) from rfl, double_div, Nat.pow_succ, Nat.mul_comm _ 2]
  · have e1 : ((1074 - k) * 4503599627370496 + m) / 4503599627370496 = 1075 - k := by omega
    have e2 : 4503599627370496 + ((1074 - k) * 4503599627370496 + m) % 4503599627370496 = m := by omega
    rw [e1, e2, if_neg (by omega), if_neg (by omega), if_neg (by omega), if_neg (by omega)]
    have e3 : (-(((1075 - k : Nat) : Int) - 1075)).toNat = k := by omega
    rw [e3]

theorem mil_back {a : Nat} (h1 : 1 ≤ a) (h2 : a ≤ 2251799813685248) (b : Nat) (hb : flR b = toB' a) : flMil b = a := by
  rw [mil_toB h1 (by omega) b hb]
  obtain ⟨hk, k1, k2⟩ := kOf_ok h1 (show a < 18446744073709551616 by omega)
  obtain ⟨n1, n2⟩ := rhe_near (a * 2 ^ kOf a) 1000000 (by decide)
  obtain ⟨hk1, hk2⟩ := hk
  generalize rhe (a * 2 ^ kOf a) 1000000 = m at *
  clear hb
  generalize kOf a = kk at *
  obtain ⟨t, rfl⟩ : ∃ t, kk = t + 1 := ⟨kk - 1, by omega⟩
  rw [show t + 1 - 1 = t by omega]
  have hp : 2 ^ (t + 1) = 2 ^ t + 2 ^ t := by rw [Nat.pow_succ, Nat.mul_two]
  have hbig : 1000000 ≤ 2 ^ t := by
    refine Nat.not_lt.1 fun hlt => ?_
    have h3 : a * 2 ^ (t + 1) ≤ 2251799813685248 * 2 ^ (t + 1) := Nat.mul_le_mul_right _ h2
    rw [hp] at h3 hk1
    generalize a * (2 ^ t + 2 ^ t) = A at *
    generalize 2 ^ t = P at *
    omega
  have hu : a * 2 ^ (t + 1) ≤ m * 1000000 + 2 ^ t := by
    generalize a * 2 ^ (t + 1) = A at *
    generalize 2 ^ t = P at *
    omega
  have hl : m * 1000000 + 2 ^ t < (a + 1) * 2 ^ (t + 1) := by
    rw [Nat.add_mul, Nat.one_mul]
    generalize a * 2 ^ (t + 1) = A at *
    rw [hp]
    generalize 2 ^ t = P at *
    omega
  rw [Nat.div_eq_iff (Nat.two_pow_pos _)]
  constructor
  · exact hu
  · rw [Nat.add_mul, Nat.one_mul] at hl
    have := Nat.two_pow_pos (t + 1)
    omega

theorem fl_pos {B : Nat} (h : B < 9218868437227405312) : flNaN B = false ∧ flR B = B ∧ flN B = false ∧ flOrd B = B := by
  have hr : flR B = B := by unfold flR; omega
  have hn : flN B = false := by unfold flN; rw [beq_eq_false_iff_ne]; omega
  have hnan : flNaN B = false := by unfold flNaN; rw [hr]; exact decide_eq_false (by omega)
  exact ⟨hnan, hr, hn, by unfold flOrd; rw [hnan, hn, hr]; rfl⟩

theorem fl_neg {B : Nat} (h : B < 9218868437227405312) : flNaN (9223372036854775808 + B) = false ∧ flR (9223372036854775808 + B) = B ∧ flN (9223372036854775808 + B) = true ∧ flOrd (9223372036854775808 + B) = -1 - (B : Int) := by
  have hr : flR (9223372036854775808 + B) = B := by unfold flR; omega
  have hn : flN (9223372036854775808 + B) = true := by unfold flN; rw [beq_iff_eq]; omega
  have hnan : flNaN (9223372036854775808 + B) = false := by unfold flNaN; rw [hr]; exact decide_eq_false (by omega)
  exact ⟨hnan, hr, hn, by unfold flOrd; rw [hnan, hn, hr]; rfl⟩

theorem toF_zero : toF false 0 = 0 := by unfold toF; rw [if_neg (by simp), if_pos rfl]
theorem toF_neg {v : Int} (h1 : -9223372036854775808 < v) (h : v < 0) : toF false v = 9223372036854775808 + toB' v.natAbs := by unfold toF; rw [if_neg (by simp; omega), if_neg (by omega), if_pos h]
theorem toF_pos {v : Int} (h : 0 < v) : toF false v = toB' v.natAbs := by unfold toF; rw [if_neg (by simp; omega), if_neg (by omega), if_neg (by omega)]
theorem toB'_lt {v : Int} (h1 : -9223372036854775808 < v) (h2 : v < 9223372036854775808) (h : v ≠ 0) : toB' v.natAbs < 9218868437227405312 ∧ 4503599627370496 ≤ toB' v.natAbs := by
  have := toB'_range (v := v.natAbs) (by omega) (by omega)
  exact ⟨this.2, this.1⟩

/-- What is known of a number's float. -/
theorem toF_facts {v : Int} (h1 : -9223372036854775808 < v) (h2 : v < 9223372036854775808) : flNaN (toF false v) = false ∧ flR (toF false v) < 9218868437227405312 ∧ (v = 0 → flOrd (toF false v) = 0) ∧ (0 < v → flOrd (toF false v) = toB' v.natAbs ∧ flN (toF false v) = false ∧ flR (toF false v) = toB' v.natAbs) ∧ (v < 0 → flOrd (toF false v) = -1 - (toB' v.natAbs : Int) ∧ flN (toF false v) = true ∧ flR (toF false v) = toB' v.natAbs) := by
  rcases Int.lt_trichotomy v 0 with h | h | h
  · have hb := (toB'_lt h1 h2 (by omega)).1
    rw [toF_neg h1 h]
    obtain ⟨a, b, c, d⟩ := fl_neg hb
    exact ⟨a, by rw [b]; exact hb, fun h0 => absurd h0 (by omega), fun h0 => absurd h0 (by omega), fun _ => ⟨d, c, b⟩⟩
  · subst h
    rw [toF_zero]
    obtain ⟨a, b, c, d⟩ := fl_pos (B := 0) (by decide)
    exact ⟨a, by rw [b]; decide, fun _ => d, fun h0 => absurd h0 (by omega), fun h0 => absurd h0 (by omega)⟩
  · have hb := (toB'_lt h1 h2 (by omega)).1
    rw [toF_pos h]
    obtain ⟨a, b, c, d⟩ := fl_pos hb
    exact ⟨a, by rw [b]; exact hb, fun h0 => absurd h0 (by omega), fun _ => ⟨d, c, b⟩, fun h0 => absurd h0 (by omega)⟩

theorem toF_mono {v u : Int} (h1 : -9223372036854775808 < v) (h2 : v ≤ u) (h3 : u < 9223372036854775808) : flCmp (toF false v) (toF false u) ≤ 0 := by
  obtain ⟨_, _, v0, vp, vn⟩ := toF_facts h1 (show v < 9223372036854775808 by omega)
  obtain ⟨_, _, u0, up, un⟩ := toF_facts (show -9223372036854775808 < u by omega) h3
  have hc := flCmp_cases (toF false v) (toF false u)
  have : flOrd (toF false v) ≤ flOrd (toF false u) := by
    rcases Int.lt_trichotomy v 0 with h | h | h
    · have a := (vn h).1
      rcases Int.lt_trichotomy u 0 with g | g | g
      · have b := (un g).1
        have := toB'_mono (v := u.natAbs) (w := v.natAbs) (by omega) (by omega) (by omega)
        omega
      · have b := u0 g; omega
      · have b := (up g).1; omega
    · have a := v0 h
      rcases Int.lt_trichotomy u 0 with g | g | g
      · omega
      · have b := u0 g; omega
      · have b := (up g).1; omega
    · have a := (vp h).1
      have b := (up (by omega)).1
      have := toB'_mono (v := v.natAbs) (w := u.natAbs) (by omega) (by omega) (by omega)
      omega
  omega

theorem from_back {v : Int} (h1 : -9223372036854775808 < v) (h2 : v < 9223372036854775808) : ∃ w e, flFrom (toF false v) = .tp [NV false w, I e] ∧ (v ≤ 2251799813685248 → -2251799813685248 ≤ v → w = v ∧ e = 0) := by
  obtain ⟨hn, hr, v0, vp, vn⟩ := toF_facts h1 h2
  unfold flFrom
  rw [hn, if_neg (by decide), if_neg (by omega)]
  unfold flTold
  refine ⟨_, _, rfl, fun a b => ?_⟩
  rcases Int.lt_trichotomy v 0 with h | h | h
  · obtain ⟨_, n1, n2⟩ := vn h
    rw [mil_back (a := v.natAbs) (by omega) (by omega) _ n2, n1, if_pos (show v.natAbs < 9223372036854775808 by omega), if_pos (show v.natAbs < 9223372036854775808 by omega), if_pos rfl]
    exact ⟨by omega, rfl⟩
  · subst h
    rw [toF_zero, mil_zero (b := 0) (by decide) (by decide)]
    exact ⟨by decide, rfl⟩
  · obtain ⟨_, n1, n2⟩ := vp h
    rw [mil_back (a := v.natAbs) (by omega) (by omega) _ n2, n1, if_pos (show v.natAbs < 9223372036854775808 by omega), if_pos (show v.natAbs < 9223372036854775808 by omega), if_neg (by decide)]
    exact ⟨by omega, rfl⟩

theorem from_nan {x : Bool} {v : Int} (h : x = true ∨ v = -9223372036854775808) : flFrom (toF x v) = .tp [NO none, I 0] := by
  have e : toF x v = 9221120237041090561 := by unfold toF; rw [if_pos h]
  have hn : flNaN 9221120237041090561 = true := by decide
  rw [e]; unfold flFrom; rw [hn]; rfl

set_option maxHeartbeats 1000000 in
theorem f_law04_FloatsBack (x y : Bool) (v u : Int) (h1 : -9223372036854775808 ≤ v) (h2 : v < 9223372036854775808) (h3 : -9223372036854775808 ≤ u) (h4 : u < 9223372036854775808) : Meets Try.prog E0 n_law04_FloatsBack [NV x v, NV y u] [] (Bo true) [] := by
  refine m_law04_FloatsBack (by simp) (shut0 rfl) (shut0 rfl) (by simp) (by simp [keysOf]) ?_
  have a1 := f_floats_To x v h1 h2
  have a2 := f_floats_To y u h3 h4
  have a3 := f_floats_From (toF x v) (toF_lt x v h1 h2)
  have a4 := f_floats_Cmp (toF x v) (toF y u) (toF_lt x v h1 h2) (toF_lt y u h3 h4)
  have r1 := f_ref02_Right x v h1
  have r2 := f_ref02_Right y u h3
  have dz : decide ((0 : Int) = 0) = true := rfl
  have db : (true == true) = true := rfl
  have di : ((0 : Int) == 0) = true := rfl
  by_cases hbad : x = true ∨ v = -9223372036854775808
  · rw [from_nan hbad] at a3
    generalize toF x v = f at *
    generalize toF y u = g at *
    cases x
    · have hv : v = -9223372036854775808 := by rcases hbad with h | h; cases h; exact h
      simp only [Bool.false_eq_true, if_false] at r1
      rw [decide_eq_false (by omega)] at r1
      simp only [go_sem, s_law04_FloatsBack, ↓reduceIte, Nat.reduceEqDiff, Nat.reduceAdd, Nat.reduceLeDiff, reduceCtorEq, Nat.reduceLT, Int.reduceLT, Int.reduceLE, Int.reduceEq, Int.reduceToNat, Nat.reduceMul]
      refine Cl_plain f_law04_alive ?_
      simp only [go_sem, ↓reduceIte, Nat.reduceEqDiff, Nat.reduceAdd, Nat.reduceLeDiff, reduceCtorEq, Nat.reduceLT, Int.reduceLT, Int.reduceLE, Int.reduceEq, Int.reduceToNat, Nat.reduceMul]
      refine Cl_plain a1 ?_
      simp only [go_sem, ↓reduceIte, Nat.reduceEqDiff, Nat.reduceAdd, Nat.reduceLeDiff, reduceCtorEq, Nat.reduceLT, Int.reduceLT, Int.reduceLE, Int.reduceEq, Int.reduceToNat, Nat.reduceMul]
      refine Cl_plain a2 ?_
      simp only [go_sem, ↓reduceIte, Nat.reduceEqDiff, Nat.reduceAdd, Nat.reduceLeDiff, reduceCtorEq, Nat.reduceLT, Int.reduceLT, Int.reduceLE, Int.reduceEq, Int.reduceToNat, Nat.reduceMul]
      ((try (with_reducible refine R_fin (by repeat' (first | exact okp0 | refine okp rfl rfl rfl ?_)) ?_)); (try simp only [go_sem, ↓reduceIte, Nat.reduceEqDiff, Nat.reduceAdd, Nat.reduceLeDiff, reduceCtorEq, Nat.reduceLT, Int.reduceLT, Int.reduceLE, Int.reduceEq, Int.reduceToNat, Nat.reduceMul]))
      refine Cl_plain a3 ?_
      simp only [go_sem, ↓reduceIte, Nat.reduceEqDiff, Nat.reduceAdd, Nat.reduceLeDiff, reduceCtorEq, Nat.reduceLT, Int.reduceLT, Int.reduceLE, Int.reduceEq, Int.reduceToNat, Nat.reduceMul]
      refine Cl_plain r1 ?_
      simp only [go_sem, dz, ↓reduceIte, Nat.reduceEqDiff, Nat.reduceAdd, Nat.reduceLeDiff, reduceCtorEq, Nat.reduceLT, Int.reduceLT, Int.reduceLE, Int.reduceEq, Int.reduceToNat, Nat.reduceMul]
      refine Cl_plain f_ref02_Nothing ?_
      simp only [go_sem, ↓reduceIte, Nat.reduceEqDiff, Nat.reduceAdd, Nat.reduceLeDiff, reduceCtorEq, Nat.reduceLT, Int.reduceLT, Int.reduceLE, Int.reduceEq, Int.reduceToNat, Nat.reduceMul]
      ((try (with_reducible refine R_fin (by repeat' (first | exact okp0 | refine okp rfl rfl rfl ?_)) ?_)); (try simp only [go_sem, db, di, ↓reduceIte, Nat.reduceEqDiff, Nat.reduceAdd, Nat.reduceLeDiff, reduceCtorEq, Nat.reduceLT, Int.reduceLT, Int.reduceLE, Int.reduceEq, Int.reduceToNat, Nat.reduceMul]))
      refine wends (by first | exact Or.inl rfl | exact Or.inr rfl) ?_ (by first | rfl | simp [AV.ids, idsL])
      simp only [go_sem, r_law04_FloatsBack, ↓reduceIte, Nat.reduceEqDiff, Nat.reduceAdd, Nat.reduceLeDiff, reduceCtorEq, Nat.reduceLT, Int.reduceLT, Int.reduceLE, Int.reduceEq, Int.reduceToNat, Nat.reduceMul]
      rfl
    · simp only [go_sem, s_law04_FloatsBack, ↓reduceIte, Nat.reduceEqDiff, Nat.reduceAdd, Nat.reduceLeDiff, reduceCtorEq, Nat.reduceLT, Int.reduceLT, Int.reduceLE, Int.reduceEq, Int.reduceToNat, Nat.reduceMul]
      refine Cl_plain f_law04_alive ?_
      simp only [go_sem, ↓reduceIte, Nat.reduceEqDiff, Nat.reduceAdd, Nat.reduceLeDiff, reduceCtorEq, Nat.reduceLT, Int.reduceLT, Int.reduceLE, Int.reduceEq, Int.reduceToNat, Nat.reduceMul]
      refine Cl_plain a1 ?_
      simp only [go_sem, ↓reduceIte, Nat.reduceEqDiff, Nat.reduceAdd, Nat.reduceLeDiff, reduceCtorEq, Nat.reduceLT, Int.reduceLT, Int.reduceLE, Int.reduceEq, Int.reduceToNat, Nat.reduceMul]
      refine Cl_plain a2 ?_
      simp only [go_sem, ↓reduceIte, Nat.reduceEqDiff, Nat.reduceAdd, Nat.reduceLeDiff, reduceCtorEq, Nat.reduceLT, Int.reduceLT, Int.reduceLE, Int.reduceEq, Int.reduceToNat, Nat.reduceMul]
      ((try (with_reducible refine R_fin (by repeat' (first | exact okp0 | refine okp rfl rfl rfl ?_)) ?_)); (try simp only [go_sem, ↓reduceIte, Nat.reduceEqDiff, Nat.reduceAdd, Nat.reduceLeDiff, reduceCtorEq, Nat.reduceLT, Int.reduceLT, Int.reduceLE, Int.reduceEq, Int.reduceToNat, Nat.reduceMul]))
      refine Cl_plain a3 ?_
      simp only [go_sem, dz, ↓reduceIte, Nat.reduceEqDiff, Nat.reduceAdd, Nat.reduceLeDiff, reduceCtorEq, Nat.reduceLT, Int.reduceLT, Int.reduceLE, Int.reduceEq, Int.reduceToNat, Nat.reduceMul]
      refine Cl_plain f_ref02_Nothing ?_
      simp only [go_sem, ↓reduceIte, Nat.reduceEqDiff, Nat.reduceAdd, Nat.reduceLeDiff, reduceCtorEq, Nat.reduceLT, Int.reduceLT, Int.reduceLE, Int.reduceEq, Int.reduceToNat, Nat.reduceMul]
      ((try (with_reducible refine R_fin (by repeat' (first | exact okp0 | refine okp rfl rfl rfl ?_)) ?_)); (try simp only [go_sem, db, di, ↓reduceIte, Nat.reduceEqDiff, Nat.reduceAdd, Nat.reduceLeDiff, reduceCtorEq, Nat.reduceLT, Int.reduceLT, Int.reduceLE, Int.reduceEq, Int.reduceToNat, Nat.reduceMul]))
      refine wends (by first | exact Or.inl rfl | exact Or.inr rfl) ?_ (by first | rfl | simp [AV.ids, idsL])
      simp only [go_sem, r_law04_FloatsBack, ↓reduceIte, Nat.reduceEqDiff, Nat.reduceAdd, Nat.reduceLeDiff, reduceCtorEq, Nat.reduceLT, Int.reduceLT, Int.reduceLE, Int.reduceEq, Int.reduceToNat, Nat.reduceMul]
      rfl
  · have hx : x = false := by cases x; rfl; exact absurd (.inl rfl) hbad
    subst hx
    have hv : -9223372036854775808 < v := by have : v ≠ -9223372036854775808 := fun h => hbad (.inr h); omega
    obtain ⟨w, e, hw, hwe⟩ := from_back hv h2
    rw [hw] at a3
    have hmono : y = false → v ≤ u → flCmp (toF false v) (toF y u) ≤ 0 := fun hy hvu => by rw [hy]; exact toF_mono hv hvu h4
    generalize flCmp (toF false v) (toF y u) = cc at *
    generalize toF false v = f at *
    generalize toF y u = g at *
    simp only [Bool.false_eq_true, if_false] at r1
    rw [decide_eq_true hv] at r1
    simp only [go_sem, s_law04_FloatsBack, ↓reduceIte, Nat.reduceEqDiff, Nat.reduceAdd, Nat.reduceLeDiff, reduceCtorEq, Nat.reduceLT, Int.reduceLT, Int.reduceLE, Int.reduceEq, Int.reduceToNat, Nat.reduceMul]
    refine Cl_plain f_law04_alive ?_
    simp only [go_sem, ↓reduceIte, Nat.reduceEqDiff, Nat.reduceAdd, Nat.reduceLeDiff, reduceCtorEq, Nat.reduceLT, Int.reduceLT, Int.reduceLE, Int.reduceEq, Int.reduceToNat, Nat.reduceMul]
    refine Cl_plain a1 ?_
    simp only [go_sem, ↓reduceIte, Nat.reduceEqDiff, Nat.reduceAdd, Nat.reduceLeDiff, reduceCtorEq, Nat.reduceLT, Int.reduceLT, Int.reduceLE, Int.reduceEq, Int.reduceToNat, Nat.reduceMul]
    refine Cl_plain a2 ?_
    simp only [go_sem, ↓reduceIte, Nat.reduceEqDiff, Nat.reduceAdd, Nat.reduceLeDiff, reduceCtorEq, Nat.reduceLT, Int.reduceLT, Int.reduceLE, Int.reduceEq, Int.reduceToNat, Nat.reduceMul]
    ((try (with_reducible refine R_fin (by repeat' (first | exact okp0 | refine okp rfl rfl rfl ?_)) ?_)); (try simp only [go_sem, ↓reduceIte, Nat.reduceEqDiff, Nat.reduceAdd, Nat.reduceLeDiff, reduceCtorEq, Nat.reduceLT, Int.reduceLT, Int.reduceLE, Int.reduceEq, Int.reduceToNat, Nat.reduceMul]))
    refine Cl_plain a3 ?_
    simp only [go_sem, ↓reduceIte, Nat.reduceEqDiff, Nat.reduceAdd, Nat.reduceLeDiff, reduceCtorEq, Nat.reduceLT, Int.reduceLT, Int.reduceLE, Int.reduceEq, Int.reduceToNat, Nat.reduceMul]
    refine Cl_plain r1 ?_
    have key : (decide (v ≤ 2251799813685248) = true ∧ decide (-2251799813685248 ≤ v) = true ∧ w = v ∧ e = 0) ∨ (decide (v ≤ 2251799813685248) = true ∧ decide (-2251799813685248 ≤ v) = false) ∨ decide (v ≤ 2251799813685248) = false := by
      by_cases q1 : v ≤ 2251799813685248
      · by_cases q2 : -2251799813685248 ≤ v
        · exact .inl ⟨decide_eq_true q1, decide_eq_true q2, hwe q1 q2⟩
        · exact .inr (.inl ⟨decide_eq_true q1, decide_eq_false q2⟩)
      · exact .inr (.inr (decide_eq_false q1))
    have dff : (false == false) = true := rfl
    have dvv : (v == v) = true := beq_self_eq_true v
    have last : decide (v ≤ u) = true → y = false → decide (cc ≤ 0) = true := fun p hy => decide_eq_true (hmono hy (of_decide_eq_true p))
    rcases key with ⟨q1, q2, hw2, he2⟩ | ⟨q1, q2⟩ | q1
    case' inl =>
      rw [hw2, he2]
      simp only [go_sem, q1, q2, dz, dff, dvv, ↓reduceIte, Nat.reduceEqDiff, Nat.reduceAdd, Nat.reduceLeDiff, reduceCtorEq, Nat.reduceLT, Int.reduceLT, Int.reduceLE, Int.reduceEq, Int.reduceToNat, Nat.reduceMul]
    case' inr.inl => simp only [go_sem, q1, q2, ↓reduceIte, Nat.reduceEqDiff, Nat.reduceAdd, Nat.reduceLeDiff, reduceCtorEq, Nat.reduceLT, Int.reduceLT, Int.reduceLE, Int.reduceEq, Int.reduceToNat, Nat.reduceMul]
    case' inr.inr => simp only [go_sem, q1, ↓reduceIte, Nat.reduceEqDiff, Nat.reduceAdd, Nat.reduceLeDiff, reduceCtorEq, Nat.reduceLT, Int.reduceLT, Int.reduceLE, Int.reduceEq, Int.reduceToNat, Nat.reduceMul]
    all_goals
      cases y
      · simp only [Bool.false_eq_true, if_false] at r2
        by_cases hu : u = -9223372036854775808
        · rw [decide_eq_false (by omega)] at r2
          simp only [go_sem, ↓reduceIte, Nat.reduceEqDiff, Nat.reduceAdd, Nat.reduceLeDiff, reduceCtorEq, Nat.reduceLT, Int.reduceLT, Int.reduceLE, Int.reduceEq, Int.reduceToNat, Nat.reduceMul]
          refine Cl_plain r2 ?_
          simp only [go_sem, ↓reduceIte, Nat.reduceEqDiff, Nat.reduceAdd, Nat.reduceLeDiff, reduceCtorEq, Nat.reduceLT, Int.reduceLT, Int.reduceLE, Int.reduceEq, Int.reduceToNat, Nat.reduceMul]
          refine wends (by first | exact Or.inl rfl | exact Or.inr rfl) ?_ (by first | rfl | simp [AV.ids, idsL])
          simp only [go_sem, r_law04_FloatsBack, ↓reduceIte, Nat.reduceEqDiff, Nat.reduceAdd, Nat.reduceLeDiff, reduceCtorEq, Nat.reduceLT, Int.reduceLT, Int.reduceLE, Int.reduceEq, Int.reduceToNat, Nat.reduceMul]
        · rw [decide_eq_true (by omega)] at r2
          simp only [go_sem, ↓reduceIte, Nat.reduceEqDiff, Nat.reduceAdd, Nat.reduceLeDiff, reduceCtorEq, Nat.reduceLT, Int.reduceLT, Int.reduceLE, Int.reduceEq, Int.reduceToNat, Nat.reduceMul]
          refine Cl_plain r2 ?_
          by_cases hvu : v ≤ u
          · have c1 : decide (u < v) = false := decide_eq_false (by omega)
            have c2 := last (decide_eq_true hvu) rfl
            simp only [go_sem, c1, ↓reduceIte, Nat.reduceEqDiff, Nat.reduceAdd, Nat.reduceLeDiff, reduceCtorEq, Nat.reduceLT, Int.reduceLT, Int.reduceLE, Int.reduceEq, Int.reduceToNat, Nat.reduceMul]
            refine Cl_plain a4 ?_
            simp only [go_sem, c2, ↓reduceIte, Nat.reduceEqDiff, Nat.reduceAdd, Nat.reduceLeDiff, reduceCtorEq, Nat.reduceLT, Int.reduceLT, Int.reduceLE, Int.reduceEq, Int.reduceToNat, Nat.reduceMul]
            refine wends (by first | exact Or.inl rfl | exact Or.inr rfl) ?_ (by first | rfl | simp [AV.ids, idsL])
            simp only [go_sem, r_law04_FloatsBack, ↓reduceIte, Nat.reduceEqDiff, Nat.reduceAdd, Nat.reduceLeDiff, reduceCtorEq, Nat.reduceLT, Int.reduceLT, Int.reduceLE, Int.reduceEq, Int.reduceToNat, Nat.reduceMul]
          · have c1 : decide (u < v) = true := decide_eq_true (by omega)
            simp only [go_sem, c1, ↓reduceIte, Nat.reduceEqDiff, Nat.reduceAdd, Nat.reduceLeDiff, reduceCtorEq, Nat.reduceLT, Int.reduceLT, Int.reduceLE, Int.reduceEq, Int.reduceToNat, Nat.reduceMul]
            refine wends (by first | exact Or.inl rfl | exact Or.inr rfl) ?_ (by first | rfl | simp [AV.ids, idsL])
            simp only [go_sem, r_law04_FloatsBack, ↓reduceIte, Nat.reduceEqDiff, Nat.reduceAdd, Nat.reduceLeDiff, reduceCtorEq, Nat.reduceLT, Int.reduceLT, Int.reduceLE, Int.reduceEq, Int.reduceToNat, Nat.reduceMul]
      · simp only [go_sem, ↓reduceIte, Nat.reduceEqDiff, Nat.reduceAdd, Nat.reduceLeDiff, reduceCtorEq, Nat.reduceLT, Int.reduceLT, Int.reduceLE, Int.reduceEq, Int.reduceToNat, Nat.reduceMul]
        refine wends (by first | exact Or.inl rfl | exact Or.inr rfl) ?_ (by first | rfl | simp [AV.ids, idsL])
        simp only [go_sem, r_law04_FloatsBack, ↓reduceIte, Nat.reduceEqDiff, Nat.reduceAdd, Nat.reduceLeDiff, reduceCtorEq, Nat.reduceLT, Int.reduceLT, Int.reduceLE, Int.reduceEq, Int.reduceToNat, Nat.reduceMul]

end Go.Proofs.Ytgablplpdocniaa
