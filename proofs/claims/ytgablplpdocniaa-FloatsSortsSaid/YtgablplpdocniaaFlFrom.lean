/- A float as a number, both ways. No statement of the seat is proved here. -/
import Derived.Test.YtgablplpdocniaaFlSort
import Derived.Test.YtgablplpdocniaaFxRef
import Derived.Test.YtgablplpdocniaaSxH
set_option linter.unusedSimpArgs false
set_option linter.unusedVariables false
namespace Go.Proofs.Ytgablplpdocniaa
open Go Go.Sx

theorem flM_lt (b : Nat) : flM b < 9007199254740992 := by
  unfold flM
  have := Nat.mod_lt (flR b) (show 0 < 4503599627370496 by decide)
  split <;> omega

theorem flE_fin {b : Nat} (h : flR b < 9218868437227405312) : -1074 ≤ flE b ∧ flE b ≤ 971 ∧ (0 ≤ flE b → 4503599627370496 ≤ flM b) ∧ (flM b = 0 ↔ flR b = 0) := by
  unfold flE flM
  have hd := Nat.div_add_mod (flR b) 4503599627370496
  have hm := Nat.mod_lt (flR b) (show 0 < 4503599627370496 by decide)
  generalize flR b / 4503599627370496 = x at *
  generalize flR b % 4503599627370496 = y at *
  by_cases h1 : x = 0
  · rw [if_neg (by omega), if_pos h1, if_pos (.inr h1)]; omega
  · rw [if_neg (by omega), if_neg h1, if_neg (by omega)]; omega

theorem f_floats_digits (b : Nat) (h : b < 18446744073709551616) (hf : flR b < 9218868437227405312) : Meets Try.prog E0 n_floats_digits [Fl b] [] (.tp [U (flM b : Nat), I (flE b)]) [] := by
  refine m_floats_digits (by simp) (shut0 rfl) (shut0 rfl) (by simp) (by simp [keysOf]) ?_
  have e1 := fl_exp h
  have e2 := fl_man h
  have e4 := fl_hid (flR b % 4503599627370496) (Nat.mod_lt _ (by decide))
  have hlt : flR b / 4503599627370496 < 2047 := by omega
  unfold flM flE
  generalize flR b / 4503599627370496 = x at *
  generalize flR b % 4503599627370496 = y at *
  have e5 : IntKind.i64.wrap (x : Int) = (x : Int) := wrap_i64_of (by omega) (by omega)
  have e6 : IntKind.i64.wrap ((x : Int) - 1075) = (x : Int) - 1075 := wrap_i64_of (by omega) (by omega)
  simp only [go_sem, s_floats_digits, ↓reduceIte, Nat.reduceEqDiff, Nat.reduceAdd, Nat.reduceLeDiff, reduceCtorEq, Nat.reduceLT, Int.reduceLT, Int.reduceLE, Int.reduceEq, Int.reduceToNat, Nat.reduceMul]
  refine Cl_plain (f_math_Float64bits b) ?_
  by_cases h2 : x = 0
  · have d2 : decide ((x : Int) = 0) = true := decide_eq_true (by omega)
    rw [if_pos (.inr h2), if_neg (by omega), if_pos h2]
    simp only [go_sem, e1, e2, e5, d2, ↓reduceIte, Nat.reduceEqDiff, Nat.reduceAdd, Nat.reduceLeDiff, reduceCtorEq, Nat.reduceLT, Int.reduceLT, Int.reduceLE, Int.reduceEq, Int.reduceToNat, Nat.reduceMul]
    refine wends (by first | exact Or.inl rfl | exact Or.inr rfl) ?_ (by first | rfl | simp [AV.ids, idsL])
    simp only [go_sem, r_floats_digits, ↓reduceIte, Nat.reduceEqDiff, Nat.reduceAdd, Nat.reduceLeDiff, reduceCtorEq, Nat.reduceLT, Int.reduceLT, Int.reduceLE, Int.reduceEq, Int.reduceToNat, Nat.reduceMul]
  · have d2 : decide ((x : Int) = 0) = false := decide_eq_false (by omega)
    rw [if_neg (by omega), if_neg (by omega), if_neg h2]
    simp only [go_sem, e1, e2, e4, e5, e6, d2, ↓reduceIte, Nat.reduceEqDiff, Nat.reduceAdd, Nat.reduceLeDiff, reduceCtorEq, Nat.reduceLT, Int.reduceLT, Int.reduceLE, Int.reduceEq, Int.reduceToNat, Nat.reduceMul]
    refine wends (by first | exact Or.inl rfl | exact Or.inr rfl) ?_ (by first | rfl | simp [AV.ids, idsL])
    simp only [go_sem, r_floats_digits, ↓reduceIte, Nat.reduceEqDiff, Nat.reduceAdd, Nat.reduceLeDiff, reduceCtorEq, Nat.reduceLT, Int.reduceLT, Int.reduceLE, Int.reduceEq, Int.reduceToNat, Nat.reduceMul]

/-- A size with a float's sign. -/
def flTold (n : Nat) (s : Bool) : AV := .tp [NV false (if n < 9223372036854775808 then (if s then -(n : Int) else n) else 0), I (if n < 9223372036854775808 then 0 else 3)]

theorem f_floats_signed (n b : Nat) (hn : n < 340282366920938463463374607431768211456) (hf : flR b < 9218868437227405312) (h0 : flR b = 0 → n = 0) : Meets Try.prog E0 n_floats_signed [WV n, Fl b] [] (flTold n (flN b)) [] := by
  refine m_floats_signed (by simp) (shut0 rfl) (shut0 rfl) (by simp) (by simp [keysOf]) ?_
  have hnan : flNaN b = false := by unfold flNaN; exact decide_eq_false (by omega)
  have k3 : flNaN 0 = false := by decide
  have v3 : flK 0 = 0 := by decide
  have l3 : flLt b 0 = (flN b && decide (0 < flR b)) := by
    unfold flLt; rw [hnan, k3, v3]; unfold flK
    cases flN b <;> simp <;> omega
  unfold flTold
  by_cases h1 : n < 9223372036854775808
  · rw [if_pos h1, if_pos h1]
    have d1 : decide (0 < n / 18446744073709551616) = false := decide_eq_false (by omega)
    have d2 : decide (9223372036854775807 < n % 18446744073709551616) = false := decide_eq_false (by omega)
    have e1 : IntKind.i64.wrap ((n % 18446744073709551616 : Nat) : Int) = (n : Int) := by rw [wrap_i64_of (by omega) (by omega)]; omega
    have e2 : IntKind.i64.wrap (0 - (n : Int)) = -(n : Int) := by rw [wrap_i64_of (by omega) (by omega)]; omega
    cases hs : flN b
    · rw [hs] at l3
      simp only [go_sem, s_floats_signed, d1, d2, e1, fl_lss, l3, ↓reduceIte, Nat.reduceEqDiff, Nat.reduceAdd, Nat.reduceLeDiff, reduceCtorEq, Nat.reduceLT, Int.reduceLT, Int.reduceLE, Int.reduceEq, Int.reduceToNat, Nat.reduceMul]
      refine wends (by first | exact Or.inl rfl | exact Or.inr rfl) ?_ (by first | rfl | simp [AV.ids, idsL])
      simp only [go_sem, r_floats_signed, ↓reduceIte, Nat.reduceEqDiff, Nat.reduceAdd, Nat.reduceLeDiff, reduceCtorEq, Nat.reduceLT, Int.reduceLT, Int.reduceLE, Int.reduceEq, Int.reduceToNat, Nat.reduceMul]
    · rw [hs] at l3
      by_cases hr : flR b = 0
      · have hn0 := h0 hr
        rw [hr] at l3
        have l3 : flLt b 0 = false := l3
        simp only [go_sem, s_floats_signed, d1, d2, e1, fl_lss, l3, ↓reduceIte, Nat.reduceEqDiff, Nat.reduceAdd, Nat.reduceLeDiff, reduceCtorEq, Nat.reduceLT, Int.reduceLT, Int.reduceLE, Int.reduceEq, Int.reduceToNat, Nat.reduceMul]
        refine wends (by first | exact Or.inl rfl | exact Or.inr rfl) ?_ (by first | rfl | simp [AV.ids, idsL])
        simp only [go_sem, r_floats_signed, hn0, ↓reduceIte, Nat.reduceEqDiff, Nat.reduceAdd, Nat.reduceLeDiff, reduceCtorEq, Nat.reduceLT, Int.reduceLT, Int.reduceLE, Int.reduceEq, Int.reduceToNat, Nat.reduceMul]
        rfl
      · rw [decide_eq_true (show 0 < flR b by omega)] at l3
        simp only [go_sem, s_floats_signed, d1, d2, e1, e2, fl_lss, l3, ↓reduceIte, Nat.reduceEqDiff, Nat.reduceAdd, Nat.reduceLeDiff, reduceCtorEq, Nat.reduceLT, Int.reduceLT, Int.reduceLE, Int.reduceEq, Int.reduceToNat, Nat.reduceMul]
        refine wends (by first | exact Or.inl rfl | exact Or.inr rfl) ?_ (by first | rfl | simp [AV.ids, idsL])
        simp only [go_sem, r_floats_signed, ↓reduceIte, Nat.reduceEqDiff, Nat.reduceAdd, Nat.reduceLeDiff, reduceCtorEq, Nat.reduceLT, Int.reduceLT, Int.reduceLE, Int.reduceEq, Int.reduceToNat, Nat.reduceMul]
  · rw [if_neg h1, if_neg h1]
    by_cases h2 : n / 18446744073709551616 = 0
    · have d1 : decide (0 < n / 18446744073709551616) = false := decide_eq_false (by omega)
      have d2 : decide (9223372036854775807 < n % 18446744073709551616) = true := decide_eq_true (by omega)
      simp only [go_sem, s_floats_signed, d1, d2, ↓reduceIte, Nat.reduceEqDiff, Nat.reduceAdd, Nat.reduceLeDiff, reduceCtorEq, Nat.reduceLT, Int.reduceLT, Int.reduceLE, Int.reduceEq, Int.reduceToNat, Nat.reduceMul]
      refine wends (by first | exact Or.inl rfl | exact Or.inr rfl) ?_ (by first | rfl | simp [AV.ids, idsL])
      simp only [go_sem, r_floats_signed, ↓reduceIte, Nat.reduceEqDiff, Nat.reduceAdd, Nat.reduceLeDiff, reduceCtorEq, Nat.reduceLT, Int.reduceLT, Int.reduceLE, Int.reduceEq, Int.reduceToNat, Nat.reduceMul]
    · have d1 : decide (0 < n / 18446744073709551616) = true := decide_eq_true (by omega)
      simp only [go_sem, s_floats_signed, d1, ↓reduceIte, Nat.reduceEqDiff, Nat.reduceAdd, Nat.reduceLeDiff, reduceCtorEq, Nat.reduceLT, Int.reduceLT, Int.reduceLE, Int.reduceEq, Int.reduceToNat, Nat.reduceMul]
      refine wends (by first | exact Or.inl rfl | exact Or.inr rfl) ?_ (by first | rfl | simp [AV.ids, idsL])
      simp only [go_sem, r_floats_signed, ↓reduceIte, Nat.reduceEqDiff, Nat.reduceAdd, Nat.reduceLeDiff, reduceCtorEq, Nat.reduceLT, Int.reduceLT, Int.reduceLE, Int.reduceEq, Int.reduceToNat, Nat.reduceMul]

theorem cut_hi (w n : Nat) (h1 : 64 ≤ n) : w / 18446744073709551616 / 2 ^ (n - 64) = w / 2 ^ n := by
  rw [Nat.div_div_eq_div_mul, show 18446744073709551616 = 2 ^ 64 from rfl, ← Nat.pow_add, show 64 + (n - 64) = n by omega]

theorem cut_lo (h l n : Nat) (hl : l < 18446744073709551616) (h1 : 1 ≤ n) (h2 : n < 64) : (h * 18446744073709551616 + l) / 2 ^ n / 18446744073709551616 = h / 2 ^ n ∧ (h * 18446744073709551616 + l) / 2 ^ n % 18446744073709551616 = (h * 2 ^ (64 - n)) % 18446744073709551616 + l / 2 ^ n ∧ l / 2 ^ n < 2 ^ (64 - n) := by
  have hp : 0 < 2 ^ n := Nat.two_pow_pos _
  have hs : (2 : Nat) ^ 64 = 2 ^ (64 - n) * 2 ^ n := by rw [← Nat.pow_add, Nat.sub_add_cancel (Nat.le_of_lt h2)]
  have hlt : l / 2 ^ n < 2 ^ (64 - n) := by
    rw [Nat.div_lt_iff_lt_mul hp, ← hs]; exact hl
  have e : (h * 18446744073709551616 + l) / 2 ^ n = h * 2 ^ (64 - n) + l / 2 ^ n := by
    rw [show 18446744073709551616 = 2 ^ (64 - n) * 2 ^ n from hs, ← Nat.mul_assoc, Nat.add_comm, Nat.add_mul_div_right _ _ hp, Nat.add_comm]
  have e2 : h * 2 ^ (64 - n) / 18446744073709551616 = h / 2 ^ n := by
    rw [show 18446744073709551616 = 2 ^ n * 2 ^ (64 - n) from by rw [Nat.mul_comm]; exact hs, Nat.mul_div_mul_right _ _ (Nat.two_pow_pos _)]
  have e3 : h * 2 ^ (64 - n) % 18446744073709551616 = (h % 2 ^ n) * 2 ^ (64 - n) := by
    rw [show 18446744073709551616 = 2 ^ n * 2 ^ (64 - n) from by rw [Nat.mul_comm]; exact hs, Nat.mul_mod_mul_right]
  have e4 : (h % 2 ^ n) * 2 ^ (64 - n) + l / 2 ^ n < 18446744073709551616 := by
    have h5 : h % 2 ^ n + 1 ≤ 2 ^ n := Nat.mod_lt _ hp
    have h6 : (h % 2 ^ n + 1) * 2 ^ (64 - n) ≤ 2 ^ n * 2 ^ (64 - n) := Nat.mul_le_mul_right _ h5
    rw [Nat.add_mul, Nat.one_mul, Nat.mul_comm (2 ^ n), ← hs] at h6
    have : 18446744073709551616 = 2 ^ 64 := rfl
    omega
  refine ⟨?_, ?_, hlt⟩
  · rw [e]
    have hd := Nat.div_add_mod (h * 2 ^ (64 - n)) 18446744073709551616
    rw [e3] at hd
    rw [← e2]
    generalize h * 2 ^ (64 - n) / 18446744073709551616 = q at *
    generalize h % 2 ^ n * 2 ^ (64 - n) = r at *
    generalize l / 2 ^ n = x at *
    omega
  · rw [e, Nat.add_mod, e3]
    rw [Nat.mod_eq_of_lt (show l / 2 ^ n < 18446744073709551616 by generalize h % 2 ^ n * 2 ^ (64 - n) = r at *; omega), Nat.mod_eq_of_lt e4]

theorem f_floats_cut (w n : Nat) (hw : w < 340282366920938463463374607431768211456) (h1 : 1 ≤ n) (h2 : n ≤ 127) : Meets Try.prog E0 n_floats_cut [WV w, I n] [] (WV (w / 2 ^ n)) [] := by
  refine m_floats_cut (by simp) (shut0 rfl) (shut0 rfl) (by simp) (by simp [keysOf]) ?_
  by_cases h : 64 ≤ n
  · have d1 : decide ((64 : Int) ≤ (n : Int)) = true := decide_eq_true (by omega)
    have e1 : IntKind.i64.wrap ((n : Int) - 64) = ((n - 64 : Nat) : Int) := by rw [wrap_i64_of (by omega) (by omega)]; omega
    have em : min (n - 64) 64 = n - 64 := by omega
    have hq := cut_hi w n h
    have hlt : w / 2 ^ n < 18446744073709551616 := by
      rw [← hq]
      exact Nat.lt_of_le_of_lt (Nat.div_le_self _ _) (by omega)
    have z1 : w / 2 ^ n / 18446744073709551616 = 0 := Nat.div_eq_of_lt hlt
    have z2 : w / 2 ^ n % 18446744073709551616 = w / 2 ^ n := Nat.mod_eq_of_lt hlt
    have zw : WV (w / 2 ^ n) = .ag [U (0 : Nat), U (w / 2 ^ n : Nat)] := by rw [WV, z1, z2]
    rw [zw]
    simp only [go_sem, s_floats_cut, d1, e1, em, hq, ↓reduceIte, Nat.reduceEqDiff, Nat.reduceAdd, Nat.reduceLeDiff, reduceCtorEq, Nat.reduceLT, Int.reduceLT, Int.reduceLE, Int.reduceEq, Int.reduceToNat, Nat.reduceMul]
    refine wends (by first | exact Or.inl rfl | exact Or.inr rfl) ?_ (by first | rfl | simp [AV.ids, idsL])
    simp only [go_sem, r_floats_cut, ↓reduceIte, Nat.reduceEqDiff, Nat.reduceAdd, Nat.reduceLeDiff, reduceCtorEq, Nat.reduceLT, Int.reduceLT, Int.reduceLE, Int.reduceEq, Int.reduceToNat, Nat.reduceMul]
    try rfl
  · have d1 : decide ((64 : Int) ≤ (n : Int)) = false := decide_eq_false (by omega)
    have e1 : IntKind.i64.wrap (64 - (n : Int)) = ((64 - n : Nat) : Int) := by rw [wrap_i64_of (by omega) (by omega)]; omega
    have em : min n 64 = n := by omega
    have em2 : min (64 - n) 64 = 64 - n := by omega
    obtain ⟨c1, c2, c3⟩ := cut_lo (w / 18446744073709551616) (w % 18446744073709551616) n (Nat.mod_lt _ (by decide)) h1 (by omega)
    rw [Nat.div_add_mod'] at c1 c2
    have hor : (w % 18446744073709551616 / 2 ^ n % 18446744073709551616) ||| (w / 18446744073709551616 * 2 ^ (64 - n) % 18446744073709551616 % 18446744073709551616) = w / 2 ^ n % 18446744073709551616 := by
      rw [c2, Nat.mod_mod, Nat.or_comm]
      have hs : (18446744073709551616 : Nat) = 2 ^ (64 - n) * 2 ^ n := by rw [← Nat.pow_add, Nat.sub_add_cancel (by omega)]
      have e3 : w / 18446744073709551616 * 2 ^ (64 - n) % 18446744073709551616 = 2 ^ (64 - n) * (w / 18446744073709551616 % 2 ^ n) := by
        generalize w / 18446744073709551616 = a
        rw [hs, Nat.mul_comm a, Nat.mul_mod_mul_left]
      rw [Nat.mod_eq_of_lt (show w % 18446744073709551616 / 2 ^ n < 18446744073709551616 from Nat.lt_of_le_of_lt (Nat.div_le_self _ _) (Nat.mod_lt _ (by decide))), e3, ← Nat.two_pow_add_eq_or_of_lt c3]
    simp only [go_sem, s_floats_cut, d1, e1, em, em2, hor, ↓reduceIte, Nat.reduceEqDiff, Nat.reduceAdd, Nat.reduceLeDiff, reduceCtorEq, Nat.reduceLT, Int.reduceLT, Int.reduceLE, Int.reduceEq, Int.reduceToNat, Nat.reduceMul]
    refine wends (by first | exact Or.inl rfl | exact Or.inr rfl) ?_ (by first | rfl | simp [AV.ids, idsL])
    simp only [go_sem, r_floats_cut, ↓reduceIte, Nat.reduceEqDiff, Nat.reduceAdd, Nat.reduceLeDiff, reduceCtorEq, Nat.reduceLT, Int.reduceLT, Int.reduceLE, Int.reduceEq, Int.reduceToNat, Nat.reduceMul]
    rw [WV, c1]

/-- How many millionths a finite float is, rounded half away. -/
def flMil (b : Nat) : Nat := if 0 ≤ flE b then flM b * 1000000 * 2 ^ (flE b).toNat else (flM b * 1000000 + 2 ^ ((-flE b).toNat - 1)) / 2 ^ (-flE b).toNat

/-- A float as a number. -/
def flFrom (b : Nat) : AV := if flNaN b then .tp [NO none, I 0] else if flR b = 9218868437227405312 then .tp [NV false 0, I 3] else flTold (flMil b) (flN b)

theorem flTold_big {n : Nat} (s : Bool) (h : 9223372036854775808 ≤ n) : flTold n s = .tp [NV false 0, I 3] := by
  unfold flTold; rw [if_neg (by omega), if_neg (by omega)]

theorem mil_zero {b : Nat} (h : flM b = 0) (he : flE b < 0) : flMil b = 0 := by
  unfold flMil
  rw [if_neg (by omega), h, Nat.zero_mul, Nat.zero_add]
  obtain ⟨n, hn, h0⟩ : ∃ n, (-flE b).toNat = n ∧ 0 < n := ⟨_, rfl, by omega⟩
  rw [hn]
  have : 2 ^ (n - 1) < 2 ^ n := Nat.pow_lt_pow_right (by decide) (by omega)
  exact Nat.div_eq_of_lt this

theorem pow_big {n : Nat} (h : 101 ≤ n) (m : Nat) (hm : m < 9007199254740992) : (m * 1000000 + 2 ^ (n - 1)) / 2 ^ n = 0 := by
  refine Nat.div_eq_of_lt ?_
  obtain ⟨k, rfl⟩ : ∃ k, n = k + 1 := ⟨n - 1, by omega⟩
  rw [show k + 1 - 1 = k by omega, Nat.pow_succ]
  have h1 : (2 : Nat) ^ 100 ≤ 2 ^ k := Nat.pow_le_pow_right (by decide) (by omega)
  have h2 : (2 : Nat) ^ 100 = 1267650600228229401496703205376 := by decide
  rw [h2] at h1
  clear h2
  generalize 2 ^ k = X at *
  omega

set_option maxHeartbeats 1000000 in
theorem f_floats_From (b : Nat) (h : b < 18446744073709551616) : Meets Try.prog E0 n_floats_From [Fl b] [] (flFrom b) [] := by
  have hk := f_floats_Kind b h
  have hkc := flKind_cases b
  unfold flFrom
  by_cases hnan : flNaN b = true
  · rw [hnan, if_pos rfl]
    refine m_floats_From (by simp) (shut0 rfl) (shut0 rfl) (by simp) (by simp [keysOf]) ?_
    have k0 : flKind b = 0 := by rcases hkc with c | ⟨c, _⟩; exact c.2.1; rw [hnan] at c; cases c
    rw [k0] at hk
    simp only [go_sem, s_floats_From, ↓reduceIte, Nat.reduceEqDiff, Nat.reduceAdd, Nat.reduceLeDiff, reduceCtorEq, Nat.reduceLT, Int.reduceLT, Int.reduceLE, Int.reduceEq, Int.reduceToNat, Nat.reduceMul]
    refine Cl_plain hk ?_
    simp only [go_sem, ↓reduceIte, Nat.reduceEqDiff, Nat.reduceAdd, Nat.reduceLeDiff, reduceCtorEq, Nat.reduceLT, Int.reduceLT, Int.reduceLE, Int.reduceEq, Int.reduceToNat, Nat.reduceMul]
    refine wends (by first | exact Or.inl rfl | exact Or.inr rfl) ?_ (by first | rfl | simp [AV.ids, idsL])
    simp only [go_sem, r_floats_From, ↓reduceIte, Nat.reduceEqDiff, Nat.reduceAdd, Nat.reduceLeDiff, reduceCtorEq, Nat.reduceLT, Int.reduceLT, Int.reduceLE, Int.reduceEq, Int.reduceToNat, Nat.reduceMul]
    try rfl
  have hnan' : flNaN b = false := by simpa using hnan
  rw [hnan', if_neg (by decide)]
  by_cases hinf : flR b = 9218868437227405312
  · rw [if_pos hinf]
    refine m_floats_From (by simp) (shut0 rfl) (shut0 rfl) (by simp) (by simp [keysOf]) ?_
    have k0 : flKind b = 1 ∨ flKind b = 6 := by
      rcases hkc with c | ⟨c, _, ⟨_, _, _, d⟩ | ⟨_, _, _, d⟩⟩
      · exact absurd c.1 hnan
      · rcases d with d | d | d <;> omega
      · rcases d with d | d | d <;> omega
    rcases k0 with k0 | k0
    · rw [k0] at hk
      simp only [go_sem, s_floats_From, ↓reduceIte, Nat.reduceEqDiff, Nat.reduceAdd, Nat.reduceLeDiff, reduceCtorEq, Nat.reduceLT, Int.reduceLT, Int.reduceLE, Int.reduceEq, Int.reduceToNat, Nat.reduceMul]
      refine Cl_plain hk ?_
      simp only [go_sem, ↓reduceIte, Nat.reduceEqDiff, Nat.reduceAdd, Nat.reduceLeDiff, reduceCtorEq, Nat.reduceLT, Int.reduceLT, Int.reduceLE, Int.reduceEq, Int.reduceToNat, Nat.reduceMul]
      refine wends (by first | exact Or.inl rfl | exact Or.inr rfl) ?_ (by first | rfl | simp [AV.ids, idsL])
      simp only [go_sem, r_floats_From, ↓reduceIte, Nat.reduceEqDiff, Nat.reduceAdd, Nat.reduceLeDiff, reduceCtorEq, Nat.reduceLT, Int.reduceLT, Int.reduceLE, Int.reduceEq, Int.reduceToNat, Nat.reduceMul]
    · rw [k0] at hk
      simp only [go_sem, s_floats_From, ↓reduceIte, Nat.reduceEqDiff, Nat.reduceAdd, Nat.reduceLeDiff, reduceCtorEq, Nat.reduceLT, Int.reduceLT, Int.reduceLE, Int.reduceEq, Int.reduceToNat, Nat.reduceMul]
      refine Cl_plain hk ?_
      simp only [go_sem, ↓reduceIte, Nat.reduceEqDiff, Nat.reduceAdd, Nat.reduceLeDiff, reduceCtorEq, Nat.reduceLT, Int.reduceLT, Int.reduceLE, Int.reduceEq, Int.reduceToNat, Nat.reduceMul]
      refine wends (by first | exact Or.inl rfl | exact Or.inr rfl) ?_ (by first | rfl | simp [AV.ids, idsL])
      simp only [go_sem, r_floats_From, ↓reduceIte, Nat.reduceEqDiff, Nat.reduceAdd, Nat.reduceLeDiff, reduceCtorEq, Nat.reduceLT, Int.reduceLT, Int.reduceLE, Int.reduceEq, Int.reduceToNat, Nat.reduceMul]
  rw [if_neg hinf]
  refine m_floats_From (by simp) (shut0 rfl) (shut0 rfl) (by simp) (by simp [keysOf]) ?_
  have hf : flR b < 9218868437227405312 := by
    have : ¬ 9218868437227405312 < flR b := fun h => hnan ((nan_iff b).2 h)
    omega
  have d0 : decide (flKind b = 0) = false ∧ decide (flKind b = 1) = false ∧ decide (flKind b = 6) = false := by
    have : flKind b = 2 ∨ flKind b = 3 ∨ flKind b = 4 ∨ flKind b = 5 := by
      rcases hkc with c | ⟨c, _, ⟨_, _, _, d⟩ | ⟨_, _, _, d⟩⟩
      · exact absurd c.1 hnan
      · rcases d with d | d | d <;> omega
      · rcases d with d | d | d <;> omega
    refine ⟨decide_eq_false (by omega), decide_eq_false (by omega), decide_eq_false (by omega)⟩
  obtain ⟨d0, d1, d6⟩ := d0
  have hd := f_floats_digits b h hf
  obtain ⟨e1, e2, e3, e4⟩ := flE_fin hf
  have hm := flM_lt b
  have hs : ∀ n : Nat, n < 340282366920938463463374607431768211456 → (flR b = 0 → n = 0) → _ := fun n h1 h2 => f_floats_signed n b h1 hf h2
  have hmz : flM b = 0 → flE b < 0 → flMil b = 0 := mil_zero
  have hmd : flMil b = if 0 ≤ flE b then flM b * 1000000 * 2 ^ (flE b).toNat else (flM b * 1000000 + 2 ^ ((-flE b).toNat - 1)) / 2 ^ (-flE b).toNat := rfl
  generalize hM : flM b = m at *
  generalize flE b = e at *
  generalize flMil b = N at *
  generalize flKind b = k at *
  generalize flN b = sg at *
  have hw := f_wide_Mul m 1000000 (by omega) (by decide)
  have hw1 : m * 1000000 < 340282366920938463463374607431768211456 := by omega
  by_cases he : 0 ≤ e
  · obtain ⟨n, rfl⟩ : ∃ n : Nat, e = n := ⟨e.toNat, by omega⟩
    rw [if_pos he, Int.toNat_natCast] at hmd
    have dge : decide ((0 : Int) ≤ (n : Int)) = true := decide_eq_true he
    have hm0 : 0 < m := by have := e3 he; omega
    by_cases hn : n ≤ 127
    · have emin : min (n : Int) 127 = (n : Int) := by omega
      have hsh := f_wide_Shift (m * 1000000) n hw1 hn
      rw [← hmd] at hsh
      have dgt : decide ((127 : Int) < (n : Int)) = false := decide_eq_false (by omega)
      by_cases hN : N < 340282366920938463463374607431768211456
      · rw [decide_eq_true hN, Nat.mod_eq_of_lt hN] at hsh
        have hss := hs N hN (fun h0 => by have := e4.2 h0; omega)
        simp only [go_sem, s_floats_From, ↓reduceIte, Nat.reduceEqDiff, Nat.reduceAdd, Nat.reduceLeDiff, reduceCtorEq, Nat.reduceLT, Int.reduceLT, Int.reduceLE, Int.reduceEq, Int.reduceToNat, Nat.reduceMul]
        refine Cl_plain hk ?_
        simp only [go_sem, d0, d1, d6, ↓reduceIte, Nat.reduceEqDiff, Nat.reduceAdd, Nat.reduceLeDiff, reduceCtorEq, Nat.reduceLT, Int.reduceLT, Int.reduceLE, Int.reduceEq, Int.reduceToNat, Nat.reduceMul]
        refine Cl_plain hd ?_
        simp only [go_sem, ↓reduceIte, Nat.reduceEqDiff, Nat.reduceAdd, Nat.reduceLeDiff, reduceCtorEq, Nat.reduceLT, Int.reduceLT, Int.reduceLE, Int.reduceEq, Int.reduceToNat, Nat.reduceMul]
        refine Cl_plain hw ?_
        simp only [go_sem, dge, emin, ↓reduceIte, Nat.reduceEqDiff, Nat.reduceAdd, Nat.reduceLeDiff, reduceCtorEq, Nat.reduceLT, Int.reduceLT, Int.reduceLE, Int.reduceEq, Int.reduceToNat, Nat.reduceMul]
        refine Cl_plain hsh ?_
        simp only [go_sem, dgt, ↓reduceIte, Nat.reduceEqDiff, Nat.reduceAdd, Nat.reduceLeDiff, reduceCtorEq, Nat.reduceLT, Int.reduceLT, Int.reduceLE, Int.reduceEq, Int.reduceToNat, Nat.reduceMul]
        refine Cl_plain hss ?_
        unfold flTold
        simp only [go_sem, ↓reduceIte, Nat.reduceEqDiff, Nat.reduceAdd, Nat.reduceLeDiff, reduceCtorEq, Nat.reduceLT, Int.reduceLT, Int.reduceLE, Int.reduceEq, Int.reduceToNat, Nat.reduceMul]
        refine wends (by first | exact Or.inl rfl | exact Or.inr rfl) ?_ (by first | rfl | simp [AV.ids, idsL])
        simp only [go_sem, r_floats_From, ↓reduceIte, Nat.reduceEqDiff, Nat.reduceAdd, Nat.reduceLeDiff, reduceCtorEq, Nat.reduceLT, Int.reduceLT, Int.reduceLE, Int.reduceEq, Int.reduceToNat, Nat.reduceMul]
      · rw [decide_eq_false hN] at hsh
        rw [flTold_big sg (by omega)]
        simp only [go_sem, s_floats_From, ↓reduceIte, Nat.reduceEqDiff, Nat.reduceAdd, Nat.reduceLeDiff, reduceCtorEq, Nat.reduceLT, Int.reduceLT, Int.reduceLE, Int.reduceEq, Int.reduceToNat, Nat.reduceMul]
        refine Cl_plain hk ?_
        simp only [go_sem, d0, d1, d6, ↓reduceIte, Nat.reduceEqDiff, Nat.reduceAdd, Nat.reduceLeDiff, reduceCtorEq, Nat.reduceLT, Int.reduceLT, Int.reduceLE, Int.reduceEq, Int.reduceToNat, Nat.reduceMul]
        refine Cl_plain hd ?_
        simp only [go_sem, ↓reduceIte, Nat.reduceEqDiff, Nat.reduceAdd, Nat.reduceLeDiff, reduceCtorEq, Nat.reduceLT, Int.reduceLT, Int.reduceLE, Int.reduceEq, Int.reduceToNat, Nat.reduceMul]
        refine Cl_plain hw ?_
        simp only [go_sem, dge, emin, ↓reduceIte, Nat.reduceEqDiff, Nat.reduceAdd, Nat.reduceLeDiff, reduceCtorEq, Nat.reduceLT, Int.reduceLT, Int.reduceLE, Int.reduceEq, Int.reduceToNat, Nat.reduceMul]
        refine Cl_plain hsh ?_
        simp only [go_sem, dgt, ↓reduceIte, Nat.reduceEqDiff, Nat.reduceAdd, Nat.reduceLeDiff, reduceCtorEq, Nat.reduceLT, Int.reduceLT, Int.reduceLE, Int.reduceEq, Int.reduceToNat, Nat.reduceMul]
        refine wends (by first | exact Or.inl rfl | exact Or.inr rfl) ?_ (by first | rfl | simp [AV.ids, idsL])
        simp only [go_sem, r_floats_From, ↓reduceIte, Nat.reduceEqDiff, Nat.reduceAdd, Nat.reduceLeDiff, reduceCtorEq, Nat.reduceLT, Int.reduceLT, Int.reduceLE, Int.reduceEq, Int.reduceToNat, Nat.reduceMul]
    · have emin : min (n : Int) 127 = ((127 : Nat) : Int) := by omega
      have hsh := f_wide_Shift (m * 1000000) 127 hw1 (by decide)
      have dgt : decide ((127 : Int) < (n : Int)) = true := decide_eq_true (by omega)
      have dm : decide (0 < m) = true := decide_eq_true hm0
      have hbig : 9223372036854775808 ≤ N := by
        rw [hmd]
        have h1 : (2 : Nat) ^ 127 ≤ 2 ^ n := Nat.pow_le_pow_right (by decide) (by omega)
        have h2 : 1 * 2 ^ 127 ≤ m * 1000000 * 2 ^ n := Nat.mul_le_mul (by omega) h1
        have h3 : 9223372036854775808 ≤ 1 * 2 ^ 127 := by decide
        omega
      rw [flTold_big sg hbig]
      generalize decide (m * 1000000 * 2 ^ 127 < 340282366920938463463374607431768211456) = q at *
      cases q
      · simp only [go_sem, s_floats_From, ↓reduceIte, Nat.reduceEqDiff, Nat.reduceAdd, Nat.reduceLeDiff, reduceCtorEq, Nat.reduceLT, Int.reduceLT, Int.reduceLE, Int.reduceEq, Int.reduceToNat, Nat.reduceMul]
        refine Cl_plain hk ?_
        simp only [go_sem, d0, d1, d6, ↓reduceIte, Nat.reduceEqDiff, Nat.reduceAdd, Nat.reduceLeDiff, reduceCtorEq, Nat.reduceLT, Int.reduceLT, Int.reduceLE, Int.reduceEq, Int.reduceToNat, Nat.reduceMul]
        refine Cl_plain hd ?_
        simp only [go_sem, ↓reduceIte, Nat.reduceEqDiff, Nat.reduceAdd, Nat.reduceLeDiff, reduceCtorEq, Nat.reduceLT, Int.reduceLT, Int.reduceLE, Int.reduceEq, Int.reduceToNat, Nat.reduceMul]
        refine Cl_plain hw ?_
        simp only [go_sem, dge, emin, ↓reduceIte, Nat.reduceEqDiff, Nat.reduceAdd, Nat.reduceLeDiff, reduceCtorEq, Nat.reduceLT, Int.reduceLT, Int.reduceLE, Int.reduceEq, Int.reduceToNat, Nat.reduceMul]
        refine Cl_plain hsh ?_
        simp only [go_sem, dgt, dm, ↓reduceIte, Nat.reduceEqDiff, Nat.reduceAdd, Nat.reduceLeDiff, reduceCtorEq, Nat.reduceLT, Int.reduceLT, Int.reduceLE, Int.reduceEq, Int.reduceToNat, Nat.reduceMul]
        refine wends (by first | exact Or.inl rfl | exact Or.inr rfl) ?_ (by first | rfl | simp [AV.ids, idsL])
        simp only [go_sem, r_floats_From, ↓reduceIte, Nat.reduceEqDiff, Nat.reduceAdd, Nat.reduceLeDiff, reduceCtorEq, Nat.reduceLT, Int.reduceLT, Int.reduceLE, Int.reduceEq, Int.reduceToNat, Nat.reduceMul]
      · simp only [go_sem, s_floats_From, ↓reduceIte, Nat.reduceEqDiff, Nat.reduceAdd, Nat.reduceLeDiff, reduceCtorEq, Nat.reduceLT, Int.reduceLT, Int.reduceLE, Int.reduceEq, Int.reduceToNat, Nat.reduceMul]
        refine Cl_plain hk ?_
        simp only [go_sem, d0, d1, d6, ↓reduceIte, Nat.reduceEqDiff, Nat.reduceAdd, Nat.reduceLeDiff, reduceCtorEq, Nat.reduceLT, Int.reduceLT, Int.reduceLE, Int.reduceEq, Int.reduceToNat, Nat.reduceMul]
        refine Cl_plain hd ?_
        simp only [go_sem, ↓reduceIte, Nat.reduceEqDiff, Nat.reduceAdd, Nat.reduceLeDiff, reduceCtorEq, Nat.reduceLT, Int.reduceLT, Int.reduceLE, Int.reduceEq, Int.reduceToNat, Nat.reduceMul]
        refine Cl_plain hw ?_
        simp only [go_sem, dge, emin, ↓reduceIte, Nat.reduceEqDiff, Nat.reduceAdd, Nat.reduceLeDiff, reduceCtorEq, Nat.reduceLT, Int.reduceLT, Int.reduceLE, Int.reduceEq, Int.reduceToNat, Nat.reduceMul]
        refine Cl_plain hsh ?_
        simp only [go_sem, dgt, dm, ↓reduceIte, Nat.reduceEqDiff, Nat.reduceAdd, Nat.reduceLeDiff, reduceCtorEq, Nat.reduceLT, Int.reduceLT, Int.reduceLE, Int.reduceEq, Int.reduceToNat, Nat.reduceMul]
        refine wends (by first | exact Or.inl rfl | exact Or.inr rfl) ?_ (by first | rfl | simp [AV.ids, idsL])
        simp only [go_sem, r_floats_From, ↓reduceIte, Nat.reduceEqDiff, Nat.reduceAdd, Nat.reduceLeDiff, reduceCtorEq, Nat.reduceLT, Int.reduceLT, Int.reduceLE, Int.reduceEq, Int.reduceToNat, Nat.reduceMul]
  · have dge : decide ((0 : Int) ≤ e) = false := decide_eq_false he
    obtain ⟨n, hn, hne⟩ : ∃ n : Nat, e = -(n : Int) ∧ 0 < n := ⟨(-e).toNat, by omega, by omega⟩
    rw [if_neg he, hn, Int.neg_neg, Int.toNat_natCast] at hmd
    by_cases hlow : n ≤ 100
    · have dlow : decide (e < -100) = false := decide_eq_false (by omega)
      have ee : IntKind.i64.wrap (IntKind.i64.wrap (0 - e) - 1) = ((n - 1 : Nat) : Int) := by rw [wrap_i64_of (n := 0 - e) (by omega) (by omega), wrap_i64_of (by omega) (by omega)]; omega
      have ee2 : IntKind.i64.wrap (0 - e) = (n : Int) := by rw [wrap_i64_of (by omega) (by omega)]; omega
      have ee3 : IntKind.i64.wrap ((n : Int) - 1) = ((n - 1 : Nat) : Int) := by rw [wrap_i64_of (by omega) (by omega)]; omega
      have hp : 2 ^ (n - 1) ≤ 2 ^ 99 := Nat.pow_le_pow_right (by decide) (by omega)
      have hp9 : (2 : Nat) ^ 99 = 633825300114114700748351602688 := by decide
      rw [hp9] at hp
      clear hp9
      have hsh := f_wide_Shift 1 (n - 1) (by decide) (by omega)
      generalize 2 ^ (n - 1) = X at *
      have hX : X < 340282366920938463463374607431768211456 := by clear hmd hs hmz hkc hk hd hw hsh; omega
      have hX2 : m * 1000000 + X < 340282366920938463463374607431768211456 := Nat.lt_of_lt_of_le (Nat.add_lt_add_of_lt_of_le (Nat.mul_lt_mul_of_pos_right hm (by decide)) hp) (by decide)
      rw [Nat.one_mul, Nat.mod_eq_of_lt hX] at hsh
      have had := f_wide_Add (m * 1000000) X hw1 hX
      rw [Nat.mod_eq_of_lt hX2] at had
      have hcu := f_floats_cut (m * 1000000 + X) n hX2 hne (by omega)
      rw [← hmd] at hcu
      have hNb : N < 340282366920938463463374607431768211456 := by rw [hmd]; exact Nat.lt_of_le_of_lt (Nat.div_le_self _ _) hX2
      have hss := hs N hNb (fun h0 => hmz (e4.2 h0) (by omega))
      have h1v : WV 1 = .ag [U (0 : Nat), U (1 : Nat)] := rfl
      rw [h1v] at hsh
      simp only [go_sem, s_floats_From, ↓reduceIte, Nat.reduceEqDiff, Nat.reduceAdd, Nat.reduceLeDiff, reduceCtorEq, Nat.reduceLT, Int.reduceLT, Int.reduceLE, Int.reduceEq, Int.reduceToNat, Nat.reduceMul]
      refine Cl_plain hk ?_
      simp only [go_sem, d0, d1, d6, ↓reduceIte, Nat.reduceEqDiff, Nat.reduceAdd, Nat.reduceLeDiff, reduceCtorEq, Nat.reduceLT, Int.reduceLT, Int.reduceLE, Int.reduceEq, Int.reduceToNat, Nat.reduceMul]
      refine Cl_plain hd ?_
      simp only [go_sem, ↓reduceIte, Nat.reduceEqDiff, Nat.reduceAdd, Nat.reduceLeDiff, reduceCtorEq, Nat.reduceLT, Int.reduceLT, Int.reduceLE, Int.reduceEq, Int.reduceToNat, Nat.reduceMul]
      refine Cl_plain hw ?_
      simp only [go_sem, dge, dlow, ee2, ee3, ↓reduceIte, Nat.reduceEqDiff, Nat.reduceAdd, Nat.reduceLeDiff, reduceCtorEq, Nat.reduceLT, Int.reduceLT, Int.reduceLE, Int.reduceEq, Int.reduceToNat, Nat.reduceMul]
      refine Cl_plain hsh ?_
      simp only [go_sem, ↓reduceIte, Nat.reduceEqDiff, Nat.reduceAdd, Nat.reduceLeDiff, reduceCtorEq, Nat.reduceLT, Int.reduceLT, Int.reduceLE, Int.reduceEq, Int.reduceToNat, Nat.reduceMul]
      refine Cl_plain had ?_
      simp only [go_sem, ee2, ↓reduceIte, Nat.reduceEqDiff, Nat.reduceAdd, Nat.reduceLeDiff, reduceCtorEq, Nat.reduceLT, Int.reduceLT, Int.reduceLE, Int.reduceEq, Int.reduceToNat, Nat.reduceMul]
      refine Cl_plain hcu ?_
      simp only [go_sem, ↓reduceIte, Nat.reduceEqDiff, Nat.reduceAdd, Nat.reduceLeDiff, reduceCtorEq, Nat.reduceLT, Int.reduceLT, Int.reduceLE, Int.reduceEq, Int.reduceToNat, Nat.reduceMul]
      refine Cl_plain hss ?_
      unfold flTold
      simp only [go_sem, ↓reduceIte, Nat.reduceEqDiff, Nat.reduceAdd, Nat.reduceLeDiff, reduceCtorEq, Nat.reduceLT, Int.reduceLT, Int.reduceLE, Int.reduceEq, Int.reduceToNat, Nat.reduceMul]
      refine wends (by first | exact Or.inl rfl | exact Or.inr rfl) ?_ (by first | rfl | simp [AV.ids, idsL])
      simp only [go_sem, r_floats_From, ↓reduceIte, Nat.reduceEqDiff, Nat.reduceAdd, Nat.reduceLeDiff, reduceCtorEq, Nat.reduceLT, Int.reduceLT, Int.reduceLE, Int.reduceEq, Int.reduceToNat, Nat.reduceMul]
    · have dlow : decide (e < -100) = true := decide_eq_true (by omega)
      have hN0 : N = 0 := by rw [hmd]; exact pow_big (by omega) m hm
      rw [hN0]
      unfold flTold
      simp only [go_sem, s_floats_From, ↓reduceIte, Nat.reduceEqDiff, Nat.reduceAdd, Nat.reduceLeDiff, reduceCtorEq, Nat.reduceLT, Int.reduceLT, Int.reduceLE, Int.reduceEq, Int.reduceToNat, Nat.reduceMul]
      refine Cl_plain hk ?_
      simp only [go_sem, d0, d1, d6, ↓reduceIte, Nat.reduceEqDiff, Nat.reduceAdd, Nat.reduceLeDiff, reduceCtorEq, Nat.reduceLT, Int.reduceLT, Int.reduceLE, Int.reduceEq, Int.reduceToNat, Nat.reduceMul]
      refine Cl_plain hd ?_
      simp only [go_sem, ↓reduceIte, Nat.reduceEqDiff, Nat.reduceAdd, Nat.reduceLeDiff, reduceCtorEq, Nat.reduceLT, Int.reduceLT, Int.reduceLE, Int.reduceEq, Int.reduceToNat, Nat.reduceMul]
      refine Cl_plain hw ?_
      simp only [go_sem, dge, dlow, ↓reduceIte, Nat.reduceEqDiff, Nat.reduceAdd, Nat.reduceLeDiff, reduceCtorEq, Nat.reduceLT, Int.reduceLT, Int.reduceLE, Int.reduceEq, Int.reduceToNat, Nat.reduceMul]
      refine wends (by first | exact Or.inl rfl | exact Or.inr rfl) ?_ (by first | rfl | simp [AV.ids, idsL])
      simp only [go_sem, r_floats_From, ↓reduceIte, Nat.reduceEqDiff, Nat.reduceAdd, Nat.reduceLeDiff, reduceCtorEq, Nat.reduceLT, Int.reduceLT, Int.reduceLE, Int.reduceEq, Int.reduceToNat, Nat.reduceMul]
      cases sg <;> rfl

end Go.Proofs.Ytgablplpdocniaa
