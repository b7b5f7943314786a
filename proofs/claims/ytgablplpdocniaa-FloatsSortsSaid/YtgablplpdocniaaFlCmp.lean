/- Floats: their parts, kinds and order, both ways. No statement of the seat is proved here. -/
import Derived.Test.YtgablplpdocniaaFlBase
import Derived.Test.YtgablplpdocniaaSxH
import Derived.Test.YtgablplpdocniaaSxH
set_option linter.unusedSimpArgs false
set_option linter.unusedVariables false
namespace Go.Proofs.Ytgablplpdocniaa
open Go Go.Sx

/-- By which all floats stand in order. -/
def flOrd (b : Nat) : Int := if flNaN b then -18446744073709551616 else if flN b then -1 - (flR b : Int) else flR b
def flCmp (a b : Nat) : Int := if flOrd a < flOrd b then -1 else if flOrd b < flOrd a then 1 else 0

theorem nan_iff (b : Nat) : (flNaN b = true ↔ 9218868437227405312 < flR b) := by unfold flNaN; simp

theorem flKind_cases (b : Nat) : (flNaN b = true ∧ flKind b = 0 ∧ flOrd b = -18446744073709551616) ∨ (flNaN b = false ∧ flR b ≤ 9218868437227405312 ∧
    ((flN b = true ∧ flOrd b = -1 - (flR b : Int) ∧ flK b = -(flR b : Int) ∧ ((flR b = 9218868437227405312 ∧ flKind b = 1) ∨ (flR b = 0 ∧ flKind b = 3) ∨ (0 < flR b ∧ flR b < 9218868437227405312 ∧ flKind b = 2))) ∨
     (flN b = false ∧ flOrd b = flR b ∧ flK b = flR b ∧ ((flR b = 9218868437227405312 ∧ flKind b = 6) ∨ (flR b = 0 ∧ flKind b = 4) ∨ (0 < flR b ∧ flR b < 9218868437227405312 ∧ flKind b = 5))))) := by
  unfold flKind flOrd flK
  cases hn : flNaN b
  · have hr : ¬ 9218868437227405312 < flR b := fun h => by rw [(nan_iff b).2 h] at hn; cases hn
    refine .inr ⟨rfl, by omega, ?_⟩
    cases flN b
    · refine .inr ⟨rfl, rfl, rfl, ?_⟩
      simp only [Bool.false_eq_true, if_false]
      by_cases h1 : flR b = 9218868437227405312
      · exact .inl ⟨h1, by rw [if_pos h1]⟩
      · by_cases h2 : flR b = 0
        · exact .inr (.inl ⟨h2, by rw [if_neg h1, if_pos h2]⟩)
        · exact .inr (.inr ⟨by omega, by omega, by rw [if_neg h1, if_neg h2]⟩)
    · refine .inl ⟨rfl, rfl, rfl, ?_⟩
      simp only [Bool.false_eq_true, if_false, if_true]
      by_cases h1 : flR b = 9218868437227405312
      · exact .inl ⟨h1, by rw [if_pos h1]⟩
      · by_cases h2 : flR b = 0
        · exact .inr (.inl ⟨h2, by rw [if_neg h1, if_pos h2]⟩)
        · exact .inr (.inr ⟨by omega, by omega, by rw [if_neg h1, if_neg h2]⟩)
  · exact .inl ⟨rfl, rfl, rfl⟩

theorem kind_ord (a b : Nat) : (flKind a < flKind b → flOrd a < flOrd b) ∧ (flKind b < flKind a → flOrd b < flOrd a) ∧ (flKind a = flKind b → (flLt a b = decide (flOrd a < flOrd b)) ∧ (flLt b a = decide (flOrd b < flOrd a))) := by
  unfold flLt
  have ha := flKind_cases a
  have hb := flKind_cases b
  have ra := flR_lt a
  have rb := flR_lt b
  refine ⟨fun h => ?_, fun h => ?_, fun h => ?_⟩
  · omega
  · omega
  · rcases ha with ⟨na, ka, oa⟩ | ⟨na, ra', ha⟩ <;> rcases hb with ⟨nb, kb, ob⟩ | ⟨nb, rb', hb⟩
    · rw [na, nb, oa, ob]; exact ⟨rfl, rfl⟩
    · omega
    · omega
    · rw [na, nb]
      simp only [Bool.or_self, Bool.not_false, Bool.true_and, decide_eq_decide]
      omega

theorem f_floats_Cmp (a b : Nat) (ha : a < 18446744073709551616) (hb : b < 18446744073709551616) : Meets Try.prog E0 n_floats_Cmp [Fl a, Fl b] [] (I (flCmp a b)) [] := by
  refine m_floats_Cmp (by simp) (shut0 rfl) (shut0 rfl) (by simp) (by simp [keysOf]) ?_
  obtain ⟨o1, o2, o3⟩ := kind_ord a b
  have h1 := f_floats_Kind a ha
  have h2 := f_floats_Kind b hb
  unfold flCmp
  simp only [go_sem, s_floats_Cmp, ↓reduceIte, Nat.reduceEqDiff, Nat.reduceAdd, Nat.reduceLeDiff, reduceCtorEq, Nat.reduceLT, Int.reduceLT, Int.reduceLE, Int.reduceEq, Int.reduceToNat, Nat.reduceMul]
  refine Cl_plain h1 ?_
  simp only [go_sem, ↓reduceIte, Nat.reduceEqDiff, Nat.reduceAdd, Nat.reduceLeDiff, reduceCtorEq, Nat.reduceLT, Int.reduceLT, Int.reduceLE, Int.reduceEq, Int.reduceToNat, Nat.reduceMul]
  refine Cl_plain h2 ?_
  rcases Int.lt_trichotomy (flKind a) (flKind b) with h | h | h
  · have d1 : decide (flKind a < flKind b) = true := decide_eq_true h
    rw [if_pos (o1 h)]
    simp only [go_sem, d1, ↓reduceIte, Nat.reduceEqDiff, Nat.reduceAdd, Nat.reduceLeDiff, reduceCtorEq, Nat.reduceLT, Int.reduceLT, Int.reduceLE, Int.reduceEq, Int.reduceToNat, Nat.reduceMul]
    refine wends (by first | exact Or.inl rfl | exact Or.inr rfl) ?_ (by first | rfl | simp [AV.ids, idsL])
    simp only [go_sem, r_floats_Cmp, ↓reduceIte, Nat.reduceEqDiff, Nat.reduceAdd, Nat.reduceLeDiff, reduceCtorEq, Nat.reduceLT, Int.reduceLT, Int.reduceLE, Int.reduceEq, Int.reduceToNat, Nat.reduceMul]
  · have d1 : decide (flKind a < flKind b) = false := decide_eq_false (by omega)
    have d2 : decide (flKind b < flKind a) = false := decide_eq_false (by omega)
    obtain ⟨l1, l2⟩ := o3 h
    by_cases g1 : flOrd a < flOrd b
    · rw [decide_eq_true g1] at l1
      rw [if_pos g1]
      simp only [go_sem, d1, d2, fl_lss, fl_gtr, l1, ↓reduceIte, Nat.reduceEqDiff, Nat.reduceAdd, Nat.reduceLeDiff, reduceCtorEq, Nat.reduceLT, Int.reduceLT, Int.reduceLE, Int.reduceEq, Int.reduceToNat, Nat.reduceMul]
      refine wends (by first | exact Or.inl rfl | exact Or.inr rfl) ?_ (by first | rfl | simp [AV.ids, idsL])
      simp only [go_sem, r_floats_Cmp, ↓reduceIte, Nat.reduceEqDiff, Nat.reduceAdd, Nat.reduceLeDiff, reduceCtorEq, Nat.reduceLT, Int.reduceLT, Int.reduceLE, Int.reduceEq, Int.reduceToNat, Nat.reduceMul]
    · rw [decide_eq_false g1] at l1
      rw [if_neg g1]
      by_cases g2 : flOrd b < flOrd a
      · rw [decide_eq_true g2] at l2
        rw [if_pos g2]
        simp only [go_sem, d1, d2, fl_lss, fl_gtr, l1, l2, ↓reduceIte, Nat.reduceEqDiff, Nat.reduceAdd, Nat.reduceLeDiff, reduceCtorEq, Nat.reduceLT, Int.reduceLT, Int.reduceLE, Int.reduceEq, Int.reduceToNat, Nat.reduceMul]
        refine wends (by first | exact Or.inl rfl | exact Or.inr rfl) ?_ (by first | rfl | simp [AV.ids, idsL])
        simp only [go_sem, r_floats_Cmp, ↓reduceIte, Nat.reduceEqDiff, Nat.reduceAdd, Nat.reduceLeDiff, reduceCtorEq, Nat.reduceLT, Int.reduceLT, Int.reduceLE, Int.reduceEq, Int.reduceToNat, Nat.reduceMul]
      · rw [decide_eq_false g2] at l2
        rw [if_neg g2]
        simp only [go_sem, d1, d2, fl_lss, fl_gtr, l1, l2, ↓reduceIte, Nat.reduceEqDiff, Nat.reduceAdd, Nat.reduceLeDiff, reduceCtorEq, Nat.reduceLT, Int.reduceLT, Int.reduceLE, Int.reduceEq, Int.reduceToNat, Nat.reduceMul]
        refine wends (by first | exact Or.inl rfl | exact Or.inr rfl) ?_ (by first | rfl | simp [AV.ids, idsL])
        simp only [go_sem, r_floats_Cmp, ↓reduceIte, Nat.reduceEqDiff, Nat.reduceAdd, Nat.reduceLeDiff, reduceCtorEq, Nat.reduceLT, Int.reduceLT, Int.reduceLE, Int.reduceEq, Int.reduceToNat, Nat.reduceMul]
  · have d1 : decide (flKind a < flKind b) = false := decide_eq_false (by omega)
    have d2 : decide (flKind b < flKind a) = true := decide_eq_true h
    have := o2 h
    rw [if_neg (by omega), if_pos this]
    simp only [go_sem, d1, d2, ↓reduceIte, Nat.reduceEqDiff, Nat.reduceAdd, Nat.reduceLeDiff, reduceCtorEq, Nat.reduceLT, Int.reduceLT, Int.reduceLE, Int.reduceEq, Int.reduceToNat, Nat.reduceMul]
    refine wends (by first | exact Or.inl rfl | exact Or.inr rfl) ?_ (by first | rfl | simp [AV.ids, idsL])
    simp only [go_sem, r_floats_Cmp, ↓reduceIte, Nat.reduceEqDiff, Nat.reduceAdd, Nat.reduceLeDiff, reduceCtorEq, Nat.reduceLT, Int.reduceLT, Int.reduceLE, Int.reduceEq, Int.reduceToNat, Nat.reduceMul]

theorem fl_exp {b : Nat} (h : b < 18446744073709551616) : (b / 2 ^ min 52 64 % 18446744073709551616) &&& (2047 % 18446744073709551616) = flR b / 4503599627370496 := by
  rw [show 2 ^ min 52 64 = 4503599627370496 from rfl, show 2047 % 18446744073709551616 = 2 ^ 11 - 1 from rfl, Nat.and_two_pow_sub_one_eq_mod]
  unfold flR; omega
theorem fl_man {b : Nat} (h : b < 18446744073709551616) : (b % 18446744073709551616) &&& (4503599627370495 % 18446744073709551616) = flR b % 4503599627370496 := by
  rw [show 4503599627370495 % 18446744073709551616 = 2 ^ 52 - 1 from rfl, Nat.and_two_pow_sub_one_eq_mod]
  unfold flR; omega
theorem fl_sgn {b : Nat} (h : b < 18446744073709551616) : decide (b / 2 ^ min 63 64 = 1) = flN b := by
  rw [Bool.eq_iff_iff, (fl_small h).1, decide_eq_true_iff, show 2 ^ min 63 64 = 9223372036854775808 from rfl]
  omega
theorem fl_hid (m : Nat) (h : m < 4503599627370496) : (m % 18446744073709551616) ||| (4503599627370496 % 18446744073709551616) = 4503599627370496 + m := by
  rw [Nat.mod_eq_of_lt (by omega), show 4503599627370496 % 18446744073709551616 = 2 ^ 52 * 1 from rfl, Nat.or_comm, ← Nat.two_pow_add_eq_or_of_lt h]

/-- A float's m, and e. -/
def flM (b : Nat) : Nat := if flR b / 4503599627370496 = 2047 ∨ flR b / 4503599627370496 = 0 then flR b % 4503599627370496 else 4503599627370496 + flR b % 4503599627370496
def flE (b : Nat) : Int := if flR b / 4503599627370496 = 2047 then 1000 else if flR b / 4503599627370496 = 0 then -1074 else (flR b / 4503599627370496 : Nat) - 1075

theorem f_ref04_parts (b : Nat) (h : b < 18446744073709551616) : Meets Try.prog E0 n_ref04_parts [Fl b] [] (.tp [Bo (flN b), U (flM b : Nat), I (flE b)]) [] := by
  refine m_ref04_parts (by simp) (shut0 rfl) (shut0 rfl) (by simp) (by simp [keysOf]) ?_
  have e1 := fl_exp h
  have e2 := fl_man h
  have e3 := fl_sgn h
  have e4 := fl_hid (flR b % 4503599627370496) (Nat.mod_lt _ (by decide))
  have hr := flR_lt b
  have hlt : flR b / 4503599627370496 < 2048 := by omega
  unfold flM flE
  generalize flR b / 4503599627370496 = x at *
  generalize flR b % 4503599627370496 = y at *
  have e5 : IntKind.i64.wrap (x : Int) = (x : Int) := wrap_i64_of (by omega) (by omega)
  have e6 : IntKind.i64.wrap ((x : Int) - 1075) = (x : Int) - 1075 := wrap_i64_of (by omega) (by omega)
  simp only [go_sem, s_ref04_parts, ↓reduceIte, Nat.reduceEqDiff, Nat.reduceAdd, Nat.reduceLeDiff, reduceCtorEq, Nat.reduceLT, Int.reduceLT, Int.reduceLE, Int.reduceEq, Int.reduceToNat, Nat.reduceMul]
  refine Cl_plain (f_math_Float64bits b) ?_
  by_cases h1 : x = 2047
  · have d1 : decide ((x : Int) = 2047) = true := decide_eq_true (by omega)
    rw [if_pos (.inl h1), if_pos h1]
    simp only [go_sem, e1, e2, e3, e5, d1, ↓reduceIte, Nat.reduceEqDiff, Nat.reduceAdd, Nat.reduceLeDiff, reduceCtorEq, Nat.reduceLT, Int.reduceLT, Int.reduceLE, Int.reduceEq, Int.reduceToNat, Nat.reduceMul]
    refine wends (by first | exact Or.inl rfl | exact Or.inr rfl) ?_ (by first | rfl | simp [AV.ids, idsL])
    simp only [go_sem, r_ref04_parts, ↓reduceIte, Nat.reduceEqDiff, Nat.reduceAdd, Nat.reduceLeDiff, reduceCtorEq, Nat.reduceLT, Int.reduceLT, Int.reduceLE, Int.reduceEq, Int.reduceToNat, Nat.reduceMul]
  · have d1 : decide ((x : Int) = 2047) = false := decide_eq_false (by omega)
    by_cases h2 : x = 0
    · have d2 : decide ((x : Int) = 0) = true := decide_eq_true (by omega)
      rw [if_pos (.inr h2), if_neg h1, if_pos h2]
      simp only [go_sem, e1, e2, e3, e5, d1, d2, ↓reduceIte, Nat.reduceEqDiff, Nat.reduceAdd, Nat.reduceLeDiff, reduceCtorEq, Nat.reduceLT, Int.reduceLT, Int.reduceLE, Int.reduceEq, Int.reduceToNat, Nat.reduceMul]
      refine wends (by first | exact Or.inl rfl | exact Or.inr rfl) ?_ (by first | rfl | simp [AV.ids, idsL])
      simp only [go_sem, r_ref04_parts, ↓reduceIte, Nat.reduceEqDiff, Nat.reduceAdd, Nat.reduceLeDiff, reduceCtorEq, Nat.reduceLT, Int.reduceLT, Int.reduceLE, Int.reduceEq, Int.reduceToNat, Nat.reduceMul]
    · have d2 : decide ((x : Int) = 0) = false := decide_eq_false (by omega)
      rw [if_neg (by omega), if_neg h1, if_neg h2]
      simp only [go_sem, e1, e2, e3, e4, e5, e6, d1, d2, ↓reduceIte, Nat.reduceEqDiff, Nat.reduceAdd, Nat.reduceLeDiff, reduceCtorEq, Nat.reduceLT, Int.reduceLT, Int.reduceLE, Int.reduceEq, Int.reduceToNat, Nat.reduceMul]
      refine wends (by first | exact Or.inl rfl | exact Or.inr rfl) ?_ (by first | rfl | simp [AV.ids, idsL])
      simp only [go_sem, r_ref04_parts, ↓reduceIte, Nat.reduceEqDiff, Nat.reduceAdd, Nat.reduceLeDiff, reduceCtorEq, Nat.reduceLT, Int.reduceLT, Int.reduceLE, Int.reduceEq, Int.reduceToNat, Nat.reduceMul]

theorem kind_parts (b : Nat) (h : b < 18446744073709551616) : flKind b = if flE b = 1000 ∧ flM b ≠ 0 then 0 else if flE b = 1000 ∧ flN b = true then 1 else if flE b = 1000 then 6 else if flM b = 0 ∧ flN b = true then 3 else if flM b = 0 then 4 else if flN b = true then 2 else 5 := by
  have hr := flR_lt b
  have hd := Nat.div_add_mod (flR b) 4503599627370496
  have hm := Nat.mod_lt (flR b) (show 0 < 4503599627370496 by decide)
  have hk := flKind_cases b
  have hnan := nan_iff b
  have hE : (flE b = 1000 ↔ 9218868437227405312 ≤ flR b) ∧ (flM b = 0 ↔ (flR b = 0 ∨ flR b = 9218868437227405312)) := by
    unfold flE flM
    generalize flR b / 4503599627370496 = x at *
    generalize flR b % 4503599627370496 = y at *
    by_cases h1 : x = 2047
    · rw [if_pos h1, if_pos (.inl h1)]
      refine ⟨⟨fun _ => by omega, fun _ => rfl⟩, by omega⟩
    · by_cases h2 : x = 0
      · rw [if_neg h1, if_pos h2, if_pos (.inr h2)]; omega
      · rw [if_neg h1, if_neg h2, if_neg (by omega)]; omega
  obtain ⟨hE, hM⟩ := hE
  simp only [ne_eq, hE, hM]
  cases hn : flN b
  · rw [hn] at hk
    simp only [Bool.false_eq_true, false_and, true_and, false_or, and_false, if_false] at hk ⊢
    rcases hk with ⟨k1, k2, k3⟩ | ⟨k1, k2, k3, k4, k5⟩
    · rw [hnan] at k1
      rw [if_pos ⟨by omega, by omega⟩]; exact k2
    · rcases k5 with ⟨k5, k6⟩ | ⟨k5, k6⟩ | ⟨k5, k6, k7⟩
      · rw [if_neg (by omega), if_pos (by omega)]; exact k6
      · rw [if_neg (by omega), if_neg (by omega), if_pos (.inl k5)]; exact k6
      · rw [if_neg (by omega), if_neg (by omega), if_neg (by omega)]; exact k7
  · rw [hn] at hk
    simp only [Bool.true_eq_false, false_and, true_and, or_false, and_true, if_true] at hk ⊢
    rcases hk with ⟨k1, k2, k3⟩ | ⟨k1, k2, k3, k4, k5⟩
    · rw [hnan] at k1
      rw [if_pos ⟨by omega, by omega⟩]; exact k2
    · rcases k5 with ⟨k5, k6⟩ | ⟨k5, k6⟩ | ⟨k5, k6, k7⟩
      · rw [if_neg (by omega), if_pos (by omega)]; exact k6
      · rw [if_neg (by omega), if_neg (by omega), if_neg (by omega), if_pos (.inl k5)]; exact k6
      · rw [if_neg (by omega), if_neg (by omega), if_neg (by omega), if_neg (by omega), if_neg (by omega)]; exact k7

theorem f_ref04_Kind (b : Nat) (h : b < 18446744073709551616) : Meets Try.prog E0 n_ref04_Kind [Fl b] [] (I (flKind b)) [] := by
  refine m_ref04_Kind (by simp) (shut0 rfl) (shut0 rfl) (by simp) (by simp [keysOf]) ?_
  have hp := f_ref04_parts b h
  rw [kind_parts b h]
  generalize flE b = e at *
  generalize flM b = m at *
  generalize flN b = n at *
  simp only [go_sem, s_ref04_Kind, ↓reduceIte, Nat.reduceEqDiff, Nat.reduceAdd, Nat.reduceLeDiff, reduceCtorEq, Nat.reduceLT, Int.reduceLT, Int.reduceLE, Int.reduceEq, Int.reduceToNat, Nat.reduceMul]
  refine Cl_plain hp ?_
  by_cases h1 : e = 1000
  · have d1 : decide (e = 1000) = true := decide_eq_true h1
    by_cases h2 : m = 0
    · have d2 : decide (m = 0) = true := decide_eq_true h2
      rw [if_neg (by omega)]
      cases n
      · rw [if_neg (by simp), if_pos h1]
        simp only [go_sem, d1, d2, ↓reduceIte, Nat.reduceEqDiff, Nat.reduceAdd, Nat.reduceLeDiff, reduceCtorEq, Nat.reduceLT, Int.reduceLT, Int.reduceLE, Int.reduceEq, Int.reduceToNat, Nat.reduceMul]
        refine wends (by first | exact Or.inl rfl | exact Or.inr rfl) ?_ (by first | rfl | simp [AV.ids, idsL])
        simp only [go_sem, r_ref04_Kind, ↓reduceIte, Nat.reduceEqDiff, Nat.reduceAdd, Nat.reduceLeDiff, reduceCtorEq, Nat.reduceLT, Int.reduceLT, Int.reduceLE, Int.reduceEq, Int.reduceToNat, Nat.reduceMul]
      · rw [if_pos ⟨h1, rfl⟩]
        simp only [go_sem, d1, d2, ↓reduceIte, Nat.reduceEqDiff, Nat.reduceAdd, Nat.reduceLeDiff, reduceCtorEq, Nat.reduceLT, Int.reduceLT, Int.reduceLE, Int.reduceEq, Int.reduceToNat, Nat.reduceMul]
        refine wends (by first | exact Or.inl rfl | exact Or.inr rfl) ?_ (by first | rfl | simp [AV.ids, idsL])
        simp only [go_sem, r_ref04_Kind, ↓reduceIte, Nat.reduceEqDiff, Nat.reduceAdd, Nat.reduceLeDiff, reduceCtorEq, Nat.reduceLT, Int.reduceLT, Int.reduceLE, Int.reduceEq, Int.reduceToNat, Nat.reduceMul]
    · have d2 : decide (m = 0) = false := decide_eq_false h2
      rw [if_pos ⟨h1, h2⟩]
      simp only [go_sem, d1, d2, ↓reduceIte, Nat.reduceEqDiff, Nat.reduceAdd, Nat.reduceLeDiff, reduceCtorEq, Nat.reduceLT, Int.reduceLT, Int.reduceLE, Int.reduceEq, Int.reduceToNat, Nat.reduceMul]
      refine wends (by first | exact Or.inl rfl | exact Or.inr rfl) ?_ (by first | rfl | simp [AV.ids, idsL])
      simp only [go_sem, r_ref04_Kind, ↓reduceIte, Nat.reduceEqDiff, Nat.reduceAdd, Nat.reduceLeDiff, reduceCtorEq, Nat.reduceLT, Int.reduceLT, Int.reduceLE, Int.reduceEq, Int.reduceToNat, Nat.reduceMul]
  · have d1 : decide (e = 1000) = false := decide_eq_false h1
    rw [if_neg (by omega), if_neg (by omega), if_neg h1]
    by_cases h2 : m = 0
    · have d2 : decide (m = 0) = true := decide_eq_true h2
      cases n
      · rw [if_neg (by simp), if_pos h2]
        simp only [go_sem, d1, d2, ↓reduceIte, Nat.reduceEqDiff, Nat.reduceAdd, Nat.reduceLeDiff, reduceCtorEq, Nat.reduceLT, Int.reduceLT, Int.reduceLE, Int.reduceEq, Int.reduceToNat, Nat.reduceMul]
        refine wends (by first | exact Or.inl rfl | exact Or.inr rfl) ?_ (by first | rfl | simp [AV.ids, idsL])
        simp only [go_sem, r_ref04_Kind, ↓reduceIte, Nat.reduceEqDiff, Nat.reduceAdd, Nat.reduceLeDiff, reduceCtorEq, Nat.reduceLT, Int.reduceLT, Int.reduceLE, Int.reduceEq, Int.reduceToNat, Nat.reduceMul]
      · rw [if_pos ⟨h2, rfl⟩]
        simp only [go_sem, d1, d2, ↓reduceIte, Nat.reduceEqDiff, Nat.reduceAdd, Nat.reduceLeDiff, reduceCtorEq, Nat.reduceLT, Int.reduceLT, Int.reduceLE, Int.reduceEq, Int.reduceToNat, Nat.reduceMul]
        refine wends (by first | exact Or.inl rfl | exact Or.inr rfl) ?_ (by first | rfl | simp [AV.ids, idsL])
        simp only [go_sem, r_ref04_Kind, ↓reduceIte, Nat.reduceEqDiff, Nat.reduceAdd, Nat.reduceLeDiff, reduceCtorEq, Nat.reduceLT, Int.reduceLT, Int.reduceLE, Int.reduceEq, Int.reduceToNat, Nat.reduceMul]
    · have d2 : decide (m = 0) = false := decide_eq_false h2
      rw [if_neg (by omega), if_neg h2]
      cases n
      · rw [if_neg (by decide)]
        simp only [go_sem, d1, d2, ↓reduceIte, Nat.reduceEqDiff, Nat.reduceAdd, Nat.reduceLeDiff, reduceCtorEq, Nat.reduceLT, Int.reduceLT, Int.reduceLE, Int.reduceEq, Int.reduceToNat, Nat.reduceMul]
        refine wends (by first | exact Or.inl rfl | exact Or.inr rfl) ?_ (by first | rfl | simp [AV.ids, idsL])
        simp only [go_sem, r_ref04_Kind, ↓reduceIte, Nat.reduceEqDiff, Nat.reduceAdd, Nat.reduceLeDiff, reduceCtorEq, Nat.reduceLT, Int.reduceLT, Int.reduceLE, Int.reduceEq, Int.reduceToNat, Nat.reduceMul]
      · rw [if_pos rfl]
        simp only [go_sem, d1, d2, ↓reduceIte, Nat.reduceEqDiff, Nat.reduceAdd, Nat.reduceLeDiff, reduceCtorEq, Nat.reduceLT, Int.reduceLT, Int.reduceLE, Int.reduceEq, Int.reduceToNat, Nat.reduceMul]
        refine wends (by first | exact Or.inl rfl | exact Or.inr rfl) ?_ (by first | rfl | simp [AV.ids, idsL])
        simp only [go_sem, r_ref04_Kind, ↓reduceIte, Nat.reduceEqDiff, Nat.reduceAdd, Nat.reduceLeDiff, reduceCtorEq, Nat.reduceLT, Int.reduceLT, Int.reduceLE, Int.reduceEq, Int.reduceToNat, Nat.reduceMul]

theorem ref_ord (a b : Nat) (ha : a < 18446744073709551616) (hb : b < 18446744073709551616) (h : flKind a = flKind b) : flCmp a b = if (flKind a ≠ 2 ∧ flKind a ≠ 5) ∨ a = b then 0 else if decide (a < b) = decide (flKind a = 5) then -1 else 1 := by
  have ca := flKind_cases a
  have cb := flKind_cases b
  obtain ⟨sa, va⟩ := fl_small ha
  obtain ⟨sb, vb⟩ := fl_small hb
  have ta : flN a = false ↔ a < 9223372036854775808 := by rw [← Bool.not_eq_true, sa]; omega
  have tb : flN b = false ↔ b < 9223372036854775808 := by rw [← Bool.not_eq_true, sb]; omega
  unfold flCmp
  by_cases h1 : (flKind a ≠ 2 ∧ flKind a ≠ 5) ∨ a = b
  · rw [if_pos h1]
    rcases h1 with ⟨h1, h2⟩ | rfl
    · rw [if_neg (by omega), if_neg (by omega)]
    · rw [if_neg (by omega), if_neg (by omega)]
  · rw [if_neg h1]
    have hk : flKind a = 2 ∨ flKind a = 5 := by omega
    rcases hk with hk | hk
    · have e2 : decide (flKind a = 5) = false := decide_eq_false (by omega)
      have n1 : flN a = true ∧ flOrd a = -1 - (flR a : Int) := by
        rcases ca with ⟨_, c, _⟩ | ⟨_, _, ⟨c, d, _⟩ | ⟨_, _, _, c⟩⟩
        · omega
        · exact ⟨c, d⟩
        · omega
      have n2 : flN b = true ∧ flOrd b = -1 - (flR b : Int) := by
        rcases cb with ⟨_, c, _⟩ | ⟨_, _, ⟨c, d, _⟩ | ⟨_, _, _, c⟩⟩
        · omega
        · exact ⟨c, d⟩
        · omega
      obtain ⟨n1, ea⟩ := n1
      obtain ⟨n2, eb⟩ := n2
      clear ca cb
      have m1 := sa.1 n1
      have m2 := sb.1 n2
      rw [if_pos m1] at va
      rw [if_pos m2] at vb
      rw [e2]
      by_cases hl : a < b
      · rw [if_neg (by omega), if_pos (by omega), decide_eq_true hl, if_neg (by decide)]
      · rw [if_pos (by omega), decide_eq_false hl, if_pos rfl]
    · have e2 : decide (flKind a = 5) = true := decide_eq_true hk
      have n1 : flN a = false ∧ flOrd a = flR a := by
        rcases ca with ⟨_, c, _⟩ | ⟨_, _, ⟨_, _, _, c⟩ | ⟨c, d, _⟩⟩
        · omega
        · omega
        · exact ⟨c, d⟩
      have n2 : flN b = false ∧ flOrd b = flR b := by
        rcases cb with ⟨_, c, _⟩ | ⟨_, _, ⟨_, _, _, c⟩ | ⟨c, d, _⟩⟩
        · omega
        · omega
        · exact ⟨c, d⟩
      obtain ⟨n1, ea⟩ := n1
      obtain ⟨n2, eb⟩ := n2
      clear ca cb
      have m1 := ta.1 n1
      have m2 := tb.1 n2
      rw [if_neg (by omega)] at va vb
      rw [e2]
      by_cases hl : a < b
      · rw [if_pos (by omega), decide_eq_true hl, if_pos rfl]
      · rw [if_neg (by omega), if_pos (by omega), decide_eq_false hl, if_neg (by decide)]

theorem f_ref04_Cmp (a b : Nat) (ha : a < 18446744073709551616) (hb : b < 18446744073709551616) : Meets Try.prog E0 n_ref04_Cmp [Fl a, Fl b] [] (I (flCmp a b)) [] := by
  refine m_ref04_Cmp (by simp) (shut0 rfl) (shut0 rfl) (by simp) (by simp [keysOf]) ?_
  obtain ⟨o1, o2, o3⟩ := kind_ord a b
  have h1 := f_ref04_Kind a ha
  have h2 := f_ref04_Kind b hb
  simp only [go_sem, s_ref04_Cmp, ↓reduceIte, Nat.reduceEqDiff, Nat.reduceAdd, Nat.reduceLeDiff, reduceCtorEq, Nat.reduceLT, Int.reduceLT, Int.reduceLE, Int.reduceEq, Int.reduceToNat, Nat.reduceMul]
  refine Cl_plain h1 ?_
  simp only [go_sem, ↓reduceIte, Nat.reduceEqDiff, Nat.reduceAdd, Nat.reduceLeDiff, reduceCtorEq, Nat.reduceLT, Int.reduceLT, Int.reduceLE, Int.reduceEq, Int.reduceToNat, Nat.reduceMul]
  refine Cl_plain h2 ?_
  by_cases h : flKind a = flKind b
  · rw [ref_ord a b ha hb h]
    have d0 : decide (flKind a = flKind b) = true := decide_eq_true h
    clear o1 o2 o3 h1 h2
    generalize flKind a = k at *
    generalize flKind b = l at *
    subst h
    simp only [go_sem, d0, ↓reduceIte, Nat.reduceEqDiff, Nat.reduceAdd, Nat.reduceLeDiff, reduceCtorEq, Nat.reduceLT, Int.reduceLT, Int.reduceLE, Int.reduceEq, Int.reduceToNat, Nat.reduceMul]
    refine Cl_plain (f_math_Float64bits a) ?_
    simp only [go_sem, ↓reduceIte, Nat.reduceEqDiff, Nat.reduceAdd, Nat.reduceLeDiff, reduceCtorEq, Nat.reduceLT, Int.reduceLT, Int.reduceLE, Int.reduceEq, Int.reduceToNat, Nat.reduceMul]
    refine Cl_plain (f_math_Float64bits b) ?_
    by_cases k2 : k = 2
    · have q2 : decide (k = 2) = true := decide_eq_true k2
      have q5 : decide (k = 5) = false := decide_eq_false (by omega)
      by_cases hab : a = b
      · have q0 : decide (a = b) = true := decide_eq_true hab
        rw [if_pos (.inr hab)]
        simp only [go_sem, q2, q5, q0, ↓reduceIte, Nat.reduceEqDiff, Nat.reduceAdd, Nat.reduceLeDiff, reduceCtorEq, Nat.reduceLT, Int.reduceLT, Int.reduceLE, Int.reduceEq, Int.reduceToNat, Nat.reduceMul]
        refine wends (by first | exact Or.inl rfl | exact Or.inr rfl) ?_ (by first | rfl | simp [AV.ids, idsL])
        simp only [go_sem, r_ref04_Cmp, ↓reduceIte, Nat.reduceEqDiff, Nat.reduceAdd, Nat.reduceLeDiff, reduceCtorEq, Nat.reduceLT, Int.reduceLT, Int.reduceLE, Int.reduceEq, Int.reduceToNat, Nat.reduceMul]
      · have q0 : decide (a = b) = false := decide_eq_false hab
        rw [if_neg (by omega), q5]
        cases q6 : decide (a < b)
        · rw [if_pos rfl]
          simp only [go_sem, q2, q5, q0, q6, beq_self_eq_true, ↓reduceIte, Nat.reduceEqDiff, Nat.reduceAdd, Nat.reduceLeDiff, reduceCtorEq, Nat.reduceLT, Int.reduceLT, Int.reduceLE, Int.reduceEq, Int.reduceToNat, Nat.reduceMul]
          refine wends (by first | exact Or.inl rfl | exact Or.inr rfl) ?_ (by first | rfl | simp [AV.ids, idsL])
          simp only [go_sem, r_ref04_Cmp, ↓reduceIte, Nat.reduceEqDiff, Nat.reduceAdd, Nat.reduceLeDiff, reduceCtorEq, Nat.reduceLT, Int.reduceLT, Int.reduceLE, Int.reduceEq, Int.reduceToNat, Nat.reduceMul]
        · rw [if_neg (by decide)]
          simp only [go_sem, q2, q5, q0, q6, show (true == false) = false from rfl, ↓reduceIte, Nat.reduceEqDiff, Nat.reduceAdd, Nat.reduceLeDiff, reduceCtorEq, Nat.reduceLT, Int.reduceLT, Int.reduceLE, Int.reduceEq, Int.reduceToNat, Nat.reduceMul]
          refine wends (by first | exact Or.inl rfl | exact Or.inr rfl) ?_ (by first | rfl | simp [AV.ids, idsL])
          simp only [go_sem, r_ref04_Cmp, ↓reduceIte, Nat.reduceEqDiff, Nat.reduceAdd, Nat.reduceLeDiff, reduceCtorEq, Nat.reduceLT, Int.reduceLT, Int.reduceLE, Int.reduceEq, Int.reduceToNat, Nat.reduceMul]
    · have q2 : decide (k = 2) = false := decide_eq_false k2
      by_cases k5 : k = 5
      · have q5 : decide (k = 5) = true := decide_eq_true k5
        by_cases hab : a = b
        · have q0 : decide (a = b) = true := decide_eq_true hab
          rw [if_pos (.inr hab)]
          simp only [go_sem, q2, q5, q0, ↓reduceIte, Nat.reduceEqDiff, Nat.reduceAdd, Nat.reduceLeDiff, reduceCtorEq, Nat.reduceLT, Int.reduceLT, Int.reduceLE, Int.reduceEq, Int.reduceToNat, Nat.reduceMul]
          refine wends (by first | exact Or.inl rfl | exact Or.inr rfl) ?_ (by first | rfl | simp [AV.ids, idsL])
          simp only [go_sem, r_ref04_Cmp, ↓reduceIte, Nat.reduceEqDiff, Nat.reduceAdd, Nat.reduceLeDiff, reduceCtorEq, Nat.reduceLT, Int.reduceLT, Int.reduceLE, Int.reduceEq, Int.reduceToNat, Nat.reduceMul]
        · have q0 : decide (a = b) = false := decide_eq_false hab
          rw [if_neg (by omega), q5]
          cases q6 : decide (a < b)
          · rw [if_neg (by decide)]
            simp only [go_sem, q2, q5, q0, q6, show (false == true) = false from rfl, ↓reduceIte, Nat.reduceEqDiff, Nat.reduceAdd, Nat.reduceLeDiff, reduceCtorEq, Nat.reduceLT, Int.reduceLT, Int.reduceLE, Int.reduceEq, Int.reduceToNat, Nat.reduceMul]
            refine wends (by first | exact Or.inl rfl | exact Or.inr rfl) ?_ (by first | rfl | simp [AV.ids, idsL])
            simp only [go_sem, r_ref04_Cmp, ↓reduceIte, Nat.reduceEqDiff, Nat.reduceAdd, Nat.reduceLeDiff, reduceCtorEq, Nat.reduceLT, Int.reduceLT, Int.reduceLE, Int.reduceEq, Int.reduceToNat, Nat.reduceMul]
          · rw [if_pos rfl]
            simp only [go_sem, q2, q5, q0, q6, beq_self_eq_true, ↓reduceIte, Nat.reduceEqDiff, Nat.reduceAdd, Nat.reduceLeDiff, reduceCtorEq, Nat.reduceLT, Int.reduceLT, Int.reduceLE, Int.reduceEq, Int.reduceToNat, Nat.reduceMul]
            refine wends (by first | exact Or.inl rfl | exact Or.inr rfl) ?_ (by first | rfl | simp [AV.ids, idsL])
            simp only [go_sem, r_ref04_Cmp, ↓reduceIte, Nat.reduceEqDiff, Nat.reduceAdd, Nat.reduceLeDiff, reduceCtorEq, Nat.reduceLT, Int.reduceLT, Int.reduceLE, Int.reduceEq, Int.reduceToNat, Nat.reduceMul]
      · have q5 : decide (k = 5) = false := decide_eq_false k5
        rw [if_pos (.inl ⟨k2, k5⟩)]
        simp only [go_sem, q2, q5, ↓reduceIte, Nat.reduceEqDiff, Nat.reduceAdd, Nat.reduceLeDiff, reduceCtorEq, Nat.reduceLT, Int.reduceLT, Int.reduceLE, Int.reduceEq, Int.reduceToNat, Nat.reduceMul]
        refine wends (by first | exact Or.inl rfl | exact Or.inr rfl) ?_ (by first | rfl | simp [AV.ids, idsL])
        simp only [go_sem, r_ref04_Cmp, ↓reduceIte, Nat.reduceEqDiff, Nat.reduceAdd, Nat.reduceLeDiff, reduceCtorEq, Nat.reduceLT, Int.reduceLT, Int.reduceLE, Int.reduceEq, Int.reduceToNat, Nat.reduceMul]
  · have d0 : decide (flKind a = flKind b) = false := decide_eq_false h
    unfold flCmp
    by_cases hl : flKind a < flKind b
    · have d1 : decide (flKind a < flKind b) = true := decide_eq_true hl
      rw [if_pos (o1 hl)]
      simp only [go_sem, d0, d1, ↓reduceIte, Nat.reduceEqDiff, Nat.reduceAdd, Nat.reduceLeDiff, reduceCtorEq, Nat.reduceLT, Int.reduceLT, Int.reduceLE, Int.reduceEq, Int.reduceToNat, Nat.reduceMul]
      refine wends (by first | exact Or.inl rfl | exact Or.inr rfl) ?_ (by first | rfl | simp [AV.ids, idsL])
      simp only [go_sem, r_ref04_Cmp, ↓reduceIte, Nat.reduceEqDiff, Nat.reduceAdd, Nat.reduceLeDiff, reduceCtorEq, Nat.reduceLT, Int.reduceLT, Int.reduceLE, Int.reduceEq, Int.reduceToNat, Nat.reduceMul]
    · have d1 : decide (flKind a < flKind b) = false := decide_eq_false hl
      have := o2 (by omega)
      rw [if_neg (by omega), if_pos this]
      simp only [go_sem, d0, d1, ↓reduceIte, Nat.reduceEqDiff, Nat.reduceAdd, Nat.reduceLeDiff, reduceCtorEq, Nat.reduceLT, Int.reduceLT, Int.reduceLE, Int.reduceEq, Int.reduceToNat, Nat.reduceMul]
      refine wends (by first | exact Or.inl rfl | exact Or.inr rfl) ?_ (by first | rfl | simp [AV.ids, idsL])
      simp only [go_sem, r_ref04_Cmp, ↓reduceIte, Nat.reduceEqDiff, Nat.reduceAdd, Nat.reduceLeDiff, reduceCtorEq, Nat.reduceLT, Int.reduceLT, Int.reduceLE, Int.reduceEq, Int.reduceToNat, Nat.reduceMul]

end Go.Proofs.Ytgablplpdocniaa
