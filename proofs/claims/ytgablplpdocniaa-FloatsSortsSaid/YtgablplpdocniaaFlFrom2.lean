/- A float as a number, the document's way. No statement of the seat is proved here. -/
import Derived.Test.YtgablplpdocniaaFlFrom
import Derived.Test.YtgablplpdocniaaSxH
set_option linter.unusedSimpArgs false
set_option linter.unusedVariables false
namespace Go.Proofs.Ytgablplpdocniaa
open Go Go.Sx

theorem mil_half (w n : Nat) : (w + 2 ^ n) / 2 ^ (n + 1) = w / 2 ^ (n + 1) + w / 2 ^ n % 2 := by
  have hp := Nat.two_pow_pos n
  rw [Nat.pow_succ, ← Nat.div_div_eq_div_mul, ← Nat.div_div_eq_div_mul, Nat.add_div_right _ hp]
  omega

theorem half_lo (w : Nat) : (w % 18446744073709551616 / 2 ^ min 1 64 % 18446744073709551616) ||| (w / 18446744073709551616 * 2 ^ min 63 64 % 18446744073709551616 % 18446744073709551616) = w / 2 % 18446744073709551616 ∧ w / 18446744073709551616 / 2 ^ min 1 64 = w / 2 / 18446744073709551616 := by
  obtain ⟨c1, c2, c3⟩ := cut_lo (w / 18446744073709551616) (w % 18446744073709551616) 1 (Nat.mod_lt _ (by decide)) (by decide) (by decide)
  rw [Nat.div_add_mod'] at c1 c2
  rw [show min 1 64 = 1 from rfl, show min 63 64 = 63 from rfl]
  rw [show 64 - 1 = 63 from rfl] at c2 c3
  rw [show (2 : Nat) ^ 1 = 2 from rfl] at *
  refine ⟨?_, c1.symm⟩
  rw [c2, Nat.mod_mod, Nat.or_comm]
  have e3 : w / 18446744073709551616 * 2 ^ 63 % 18446744073709551616 = 2 ^ 63 * (w / 18446744073709551616 % 2) := by
    generalize w / 18446744073709551616 = a
    rw [show 18446744073709551616 = 2 ^ 63 * 2 from rfl, Nat.mul_comm a, Nat.mul_mod_mul_left]
  rw [Nat.mod_eq_of_lt (show w % 18446744073709551616 / 2 < 18446744073709551616 by omega), e3, ← Nat.two_pow_add_eq_or_of_lt c3]

/-- The last bit that fell off. -/
def upB (w j : Nat) : Bool := if j = 0 then false else decide (w / 2 ^ (j - 1) % 2 = 1)

set_option maxHeartbeats 2000000 in
theorem f_ref04_From (b : Nat) (h : b < 18446744073709551616) : Meets Try.prog E0 n_ref04_From [Fl b] [] (flFrom b) [] := by
  have hk := f_ref04_Kind b h
  have hp := f_ref04_parts b h
  have hkc := flKind_cases b
  unfold flFrom
  by_cases hnan : flNaN b = true
  · rw [hnan, if_pos rfl]
    refine m_ref04_From (by simp) (shut0 rfl) (shut0 rfl) (by simp) (by simp [keysOf]) ?_
    have k0 : flKind b = 0 := by rcases hkc with c | ⟨c, _⟩; exact c.2.1; rw [hnan] at c; cases c
    rw [k0] at hk
    simp only [go_sem, s_ref04_From, ↓reduceIte, Nat.reduceEqDiff, Nat.reduceAdd, Nat.reduceLeDiff, reduceCtorEq, Nat.reduceLT, Int.reduceLT, Int.reduceLE, Int.reduceEq, Int.reduceToNat, Nat.reduceMul]
    refine Cl_plain hp ?_
    simp only [go_sem, ↓reduceIte, Nat.reduceEqDiff, Nat.reduceAdd, Nat.reduceLeDiff, reduceCtorEq, Nat.reduceLT, Int.reduceLT, Int.reduceLE, Int.reduceEq, Int.reduceToNat, Nat.reduceMul]
    refine Cl_plain hk ?_
    simp only [go_sem, ↓reduceIte, Nat.reduceEqDiff, Nat.reduceAdd, Nat.reduceLeDiff, reduceCtorEq, Nat.reduceLT, Int.reduceLT, Int.reduceLE, Int.reduceEq, Int.reduceToNat, Nat.reduceMul]
    refine Cl_plain f_ref02_Nothing ?_
    simp only [go_sem, ↓reduceIte, Nat.reduceEqDiff, Nat.reduceAdd, Nat.reduceLeDiff, reduceCtorEq, Nat.reduceLT, Int.reduceLT, Int.reduceLE, Int.reduceEq, Int.reduceToNat, Nat.reduceMul]
    refine wends (by first | exact Or.inl rfl | exact Or.inr rfl) ?_ (by first | rfl | simp [AV.ids, idsL])
    simp only [go_sem, r_ref04_From, ↓reduceIte, Nat.reduceEqDiff, Nat.reduceAdd, Nat.reduceLeDiff, reduceCtorEq, Nat.reduceLT, Int.reduceLT, Int.reduceLE, Int.reduceEq, Int.reduceToNat, Nat.reduceMul]
    try rfl
  have hnan' : flNaN b = false := by simpa using hnan
  rw [hnan', if_neg (by decide)]
  by_cases hinf : flR b = 9218868437227405312
  · rw [if_pos hinf]
    refine m_ref04_From (by simp) (shut0 rfl) (shut0 rfl) (by simp) (by simp [keysOf]) ?_
    have k0 : flKind b = 1 ∨ flKind b = 6 := by
      rcases hkc with c | ⟨c, _, ⟨_, _, _, d⟩ | ⟨_, _, _, d⟩⟩
      · exact absurd c.1 hnan
      · rcases d with d | d | d <;> omega
      · rcases d with d | d | d <;> omega
    rcases k0 with k0 | k0
    · rw [k0] at hk
      simp only [go_sem, s_ref04_From, ↓reduceIte, Nat.reduceEqDiff, Nat.reduceAdd, Nat.reduceLeDiff, reduceCtorEq, Nat.reduceLT, Int.reduceLT, Int.reduceLE, Int.reduceEq, Int.reduceToNat, Nat.reduceMul]
      refine Cl_plain hp ?_
      simp only [go_sem, ↓reduceIte, Nat.reduceEqDiff, Nat.reduceAdd, Nat.reduceLeDiff, reduceCtorEq, Nat.reduceLT, Int.reduceLT, Int.reduceLE, Int.reduceEq, Int.reduceToNat, Nat.reduceMul]
      refine Cl_plain hk ?_
      simp only [go_sem, ↓reduceIte, Nat.reduceEqDiff, Nat.reduceAdd, Nat.reduceLeDiff, reduceCtorEq, Nat.reduceLT, Int.reduceLT, Int.reduceLE, Int.reduceEq, Int.reduceToNat, Nat.reduceMul]
      refine wends (by first | exact Or.inl rfl | exact Or.inr rfl) ?_ (by first | rfl | simp [AV.ids, idsL])
      simp only [go_sem, r_ref04_From, ↓reduceIte, Nat.reduceEqDiff, Nat.reduceAdd, Nat.reduceLeDiff, reduceCtorEq, Nat.reduceLT, Int.reduceLT, Int.reduceLE, Int.reduceEq, Int.reduceToNat, Nat.reduceMul]
    · rw [k0] at hk
      simp only [go_sem, s_ref04_From, ↓reduceIte, Nat.reduceEqDiff, Nat.reduceAdd, Nat.reduceLeDiff, reduceCtorEq, Nat.reduceLT, Int.reduceLT, Int.reduceLE, Int.reduceEq, Int.reduceToNat, Nat.reduceMul]
      refine Cl_plain hp ?_
      simp only [go_sem, ↓reduceIte, Nat.reduceEqDiff, Nat.reduceAdd, Nat.reduceLeDiff, reduceCtorEq, Nat.reduceLT, Int.reduceLT, Int.reduceLE, Int.reduceEq, Int.reduceToNat, Nat.reduceMul]
      refine Cl_plain hk ?_
      simp only [go_sem, ↓reduceIte, Nat.reduceEqDiff, Nat.reduceAdd, Nat.reduceLeDiff, reduceCtorEq, Nat.reduceLT, Int.reduceLT, Int.reduceLE, Int.reduceEq, Int.reduceToNat, Nat.reduceMul]
      refine wends (by first | exact Or.inl rfl | exact Or.inr rfl) ?_ (by first | rfl | simp [AV.ids, idsL])
      simp only [go_sem, r_ref04_From, ↓reduceIte, Nat.reduceEqDiff, Nat.reduceAdd, Nat.reduceLeDiff, reduceCtorEq, Nat.reduceLT, Int.reduceLT, Int.reduceLE, Int.reduceEq, Int.reduceToNat, Nat.reduceMul]
  rw [if_neg hinf]
  refine m_ref04_From (by simp) (shut0 rfl) (shut0 rfl) (by simp) (by simp [keysOf]) ?_
  have hf : flR b < 9218868437227405312 := by
    have : ¬ 9218868437227405312 < flR b := fun h => hnan ((nan_iff b).2 h)
    omega
  have d0 : decide (flKind b = 0) = false ∧ decide (flKind b = 1) = false ∧ decide (flKind b = 6) = false := by
    have : flKind b = 2 ∨ flKind b = 3 ∨ flKind b = 4 ∨ flKind b = 5 := by
      rcases hkc with c | ⟨c, _, ⟨_, _, _, d⟩ | ⟨_, _, _, d⟩⟩
      · exact absurd c.1 hnan
      · rcases d with d | d | d <;> omega
      · rcases d with d | d | d <;> omega
    refine ⟨decide_eq_false (by omega), decide_eq_false (by omega), decide_eq_false (by omega)⟩
  obtain ⟨d0, d1, d6⟩ := d0
  obtain ⟨e1, e2, e3, e4⟩ := flE_fin hf
  have hm := flM_lt b
  have hmd : flMil b = if 0 ≤ flE b then flM b * 1000000 * 2 ^ (flE b).toNat else (flM b * 1000000 + 2 ^ ((-flE b).toNat - 1)) / 2 ^ (-flE b).toNat := rfl
  clear e3 e4 hkc hnan hnan' hinf
  generalize hM : flM b = m at *
  generalize flE b = e at *
  generalize flMil b = N at *
  generalize flKind b = k at *
  generalize flN b = sg at *
  have hw := f_ref01_Mul m 1000000 (by omega) (by decide)
  have hW : m * 1000000 < 9007199254740992000000 := by omega
  generalize m * 1000000 = Wd at *
  obtain ⟨n1, n2, hen, hn2, hor⟩ : ∃ n1 n2 : Nat, e = (n1 : Int) - (n2 : Int) ∧ n2 ≤ 1074 ∧ (n1 = 0 ∨ n2 = 0) := ⟨e.toNat, (-e).toNat, by omega, by omega, by omega⟩
  simp only [go_sem, s_ref04_From, ↓reduceIte, Nat.reduceEqDiff, Nat.reduceAdd, Nat.reduceLeDiff, reduceCtorEq, Nat.reduceLT, Int.reduceLT, Int.reduceLE, Int.reduceEq, Int.reduceToNat, Nat.reduceMul]
  refine Cl_plain hp ?_
  simp only [go_sem, ↓reduceIte, Nat.reduceEqDiff, Nat.reduceAdd, Nat.reduceLeDiff, reduceCtorEq, Nat.reduceLT, Int.reduceLT, Int.reduceLE, Int.reduceEq, Int.reduceToNat, Nat.reduceMul]
  refine Cl_plain hk ?_
  simp only [go_sem, d0, d1, d6, ↓reduceIte, Nat.reduceEqDiff, Nat.reduceAdd, Nat.reduceLeDiff, reduceCtorEq, Nat.reduceLT, Int.reduceLT, Int.reduceLE, Int.reduceEq, Int.reduceToNat, Nat.reduceMul]
  refine Cl_plain hw ?_
  simp only [go_sem, ↓reduceIte, Nat.reduceEqDiff, Nat.reduceAdd, Nat.reduceLeDiff, reduceCtorEq, Nat.reduceLT, Int.reduceLT, Int.reduceLE, Int.reduceEq, Int.reduceToNat, Nat.reduceMul]
  refine W_loop (fun j : Nat => n1 - j) (fun j => j ≤ n1 ∧ Wd * 2 ^ j < 340282366920938463463374607431768211456)
    (fun j => [(2, .ptr 100 0), (4, Bo sg), (6, I ((n1 : Int) - (j : Int) - (n2 : Int))), (7, .ptr 127 0)])
    (fun j => [(100, .box [Bo false, I 0]), (127, .box [U (Wd * 2 ^ j / 18446744073709551616 : Nat), U (Wd * 2 ^ j % 18446744073709551616 : Nat)])]) 0 ⟨Nat.zero_le _, by rw [Nat.pow_zero, Nat.mul_one]; omega⟩ ?_ ?_
  · rw [hen]
    simp only [Nat.pow_zero, Nat.mul_one, Int.sub_zero, Int.ofNat_eq_natCast, Int.natCast_zero]
    exact (subL [] [] (by simp [envS, go_sem, wkV, wkL, AV.ids, idsL, keysOf, ren, stoOf, slTrees, AV.asOwn, rowPart, AV.isNil, shA, rowsT, cellsT, cellT, wkLL] <;> assumption) (by simp [stoS, go_sem, wkV, wkL, wkO, AV.ids, Ob.ids, idsL, keysOf, ren, AV.one, stoOf, slTrees, AV.asOwn, rowPart, AV.isNil, shA, rowsT, cellsT, cellT, wkLL] <;> assumption) (by simp [keysOf, ren]) (by simp [stoOf, keysOf, ren]) (by simp [keysOf, ren]) (by simp [keysOf, ren]))
  rintro j ⟨hj, hlt⟩
  by_cases hjn : j < n1
  · have hn20 : n2 = 0 := by omega
    have dg : decide ((0 : Int) < (n1 : Int) - (j : Int) - (n2 : Int)) = true := decide_eq_true (by omega)
    have hD := f_ref01_Double (Wd * 2 ^ j) hlt
    have e2j : 2 * (Wd * 2 ^ j) = Wd * 2 ^ (j + 1) := by rw [Nat.mul_left_comm, Nat.pow_succ, Nat.mul_comm (2 ^ j) 2]
    rw [e2j] at hD
    have es : IntKind.i64.wrap ((n1 : Int) - (j : Int) - (n2 : Int) - 1) = (n1 : Int) - ((j + 1 : Nat) : Int) - (n2 : Int) := by rw [wrap_i64_of (by omega) (by omega)]; omega
    by_cases hl2 : Wd * 2 ^ (j + 1) < 340282366920938463463374607431768211456
    · rw [Nat.mod_eq_of_lt hl2, decide_eq_false (by omega)] at hD
      simp only [go_sem, s_ref04_From_b0, dg, ↓reduceIte, Nat.reduceEqDiff, Nat.reduceAdd, Nat.reduceLeDiff, reduceCtorEq, Nat.reduceLT, Int.reduceLT, Int.reduceLE, Int.reduceEq, Int.reduceToNat, Nat.reduceMul]
      refine Cl_plain hD ?_
      simp only [go_sem, es, ↓reduceIte, Nat.reduceEqDiff, Nat.reduceAdd, Nat.reduceLeDiff, reduceCtorEq, Nat.reduceLT, Int.reduceLT, Int.reduceLE, Int.reduceEq, Int.reduceToNat, Nat.reduceMul]
      exact rd_of (j + 1) (by first | omega | (simp only; omega)) ⟨hjn, hl2⟩ (subL [] [] (by simp [envS, go_sem, wkV, wkL, AV.ids, idsL, keysOf, ren, stoOf, slTrees, AV.asOwn, rowPart, AV.isNil, shA, rowsT, cellsT, cellT, wkLL] <;> assumption) (by simp [stoS, go_sem, wkV, wkL, wkO, AV.ids, Ob.ids, idsL, keysOf, ren, AV.one, stoOf, slTrees, AV.asOwn, rowPart, AV.isNil, shA, rowsT, cellsT, cellT, wkLL] <;> assumption) (by simp [keysOf, ren]) (by simp [stoOf, keysOf, ren]) (by simp [keysOf, ren]) (by simp [keysOf, ren]))
    · rw [decide_eq_true (by omega)] at hD
      have hbig : 9223372036854775808 ≤ N := by
        rw [if_pos (by omega), show e.toNat = n1 by omega] at hmd
        have : Wd * 2 ^ (j + 1) ≤ Wd * 2 ^ n1 := Nat.mul_le_mul_left _ (Nat.pow_le_pow_right (by decide) hjn)
        rw [← hmd] at this
        clear hmd
        omega
      rw [flTold_big sg hbig]
      simp only [go_sem, s_ref04_From_b0, dg, ↓reduceIte, Nat.reduceEqDiff, Nat.reduceAdd, Nat.reduceLeDiff, reduceCtorEq, Nat.reduceLT, Int.reduceLT, Int.reduceLE, Int.reduceEq, Int.reduceToNat, Nat.reduceMul]
      refine Cl_plain hD ?_
      simp only [go_sem, ↓reduceIte, Nat.reduceEqDiff, Nat.reduceAdd, Nat.reduceLeDiff, reduceCtorEq, Nat.reduceLT, Int.reduceLT, Int.reduceLE, Int.reduceEq, Int.reduceToNat, Nat.reduceMul]
      refine wends (by first | exact Or.inl rfl | exact Or.inr rfl) ?_ (by first | rfl | simp [AV.ids, idsL])
      simp only [go_sem, r_ref04_From, ↓reduceIte, Nat.reduceEqDiff, Nat.reduceAdd, Nat.reduceLeDiff, reduceCtorEq, Nat.reduceLT, Int.reduceLT, Int.reduceLE, Int.reduceEq, Int.reduceToNat, Nat.reduceMul]
  · obtain rfl : j = n1 := by omega
    have dg : decide ((0 : Int) < (j : Int) - (j : Int) - (n2 : Int)) = false := decide_eq_false (by omega)
    have dg2 : decide ((0 : Int) < 0 - (n2 : Int)) = false := decide_eq_false (by omega)
    have hV : Wd * 2 ^ j < 340282366920938463463374607431768211456 := hlt
    have hNv : N = Wd * 2 ^ j / 2 ^ n2 + (upB (Wd * 2 ^ j) n2).toNat := by
      rcases hor with rfl | rfl
      · rw [Nat.pow_zero, Nat.mul_one]
        by_cases h0 : n2 = 0
        · subst h0
          rw [if_pos (by omega), show e.toNat = 0 by omega] at hmd
          rw [hmd]; simp [upB]
        · rw [if_neg (by omega), show (-e).toNat = n2 by omega] at hmd
          obtain ⟨t, rfl⟩ : ∃ t, n2 = t + 1 := ⟨n2 - 1, by omega⟩
          rw [show t + 1 - 1 = t by omega, mil_half] at hmd
          rw [hmd]
          congr 1
          unfold upB
          rw [if_neg h0, show t + 1 - 1 = t by omega]
          have := Nat.mod_two_eq_zero_or_one (Wd / 2 ^ t)
          rcases this with h | h <;> rw [h] <;> rfl
      · rw [if_pos (by omega), show e.toNat = j by omega] at hmd
        rw [hmd]; simp [upB]
    clear hmd
    generalize Wd * 2 ^ j = V at *
    clear hlt hj hjn hor hen hw hk hp hW hM hm d0 d1 d6
    have hinit : IntKind.i64.wrap 0 = 0 := by decide
    simp only [go_sem, s_ref04_From_b0, s_ref04_From_t3, dg, dg2, ↓reduceIte, Nat.reduceEqDiff, Nat.reduceAdd, Nat.reduceLeDiff, reduceCtorEq, Nat.reduceLT, Int.reduceLT, Int.reduceLE, Int.reduceEq, Int.reduceToNat, Nat.reduceMul]
    refine W_loop (fun i : Nat => n2 - i) (fun i => i ≤ n2)
      (fun i => [(2, .ptr 100 0), (4, Bo sg), (6, I ((i : Int) - (n2 : Int))), (7, .ptr 127 0), (10, Bo (upB V i))])
      (fun i => [(100, .box [Bo false, I 0]), (127, .box [U (V / 2 ^ i / 18446744073709551616 : Nat), U (V / 2 ^ i % 18446744073709551616 : Nat)])]) 0 (Nat.zero_le _) ?_ ?_
    · simp only [Nat.pow_zero, Nat.div_one, Int.sub_self, Int.natCast_zero, upB, if_true]
      exact (subL [] [] (by simp [envS, go_sem, wkV, wkL, AV.ids, idsL, keysOf, ren, stoOf, slTrees, AV.asOwn, rowPart, AV.isNil, shA, rowsT, cellsT, cellT, wkLL] <;> assumption) (by simp [stoS, go_sem, wkV, wkL, wkO, AV.ids, Ob.ids, idsL, keysOf, ren, AV.one, stoOf, slTrees, AV.asOwn, rowPart, AV.isNil, shA, rowsT, cellsT, cellT, wkLL] <;> assumption) (by simp [keysOf, ren]) (by simp [stoOf, keysOf, ren]) (by simp [keysOf, ren]) (by simp [keysOf, ren]))
    intro i hi
    by_cases hin : i < n2
    · have dl : decide ((i : Int) - (n2 : Int) < 0) = true := decide_eq_true (by omega)
      have es : IntKind.i64.wrap ((i : Int) - (n2 : Int) + 1) = ((i + 1 : Nat) : Int) - (n2 : Int) := by rw [wrap_i64_of (by omega) (by omega)]; omega
      obtain ⟨o1, o2⟩ := half_lo (V / 2 ^ i)
      have hdd : V / 2 ^ i / 2 = V / 2 ^ (i + 1) := by rw [Nat.div_div_eq_div_mul, Nat.pow_succ]
      rw [hdd] at o1 o2
      have hup : decide ((V / 2 ^ i % 18446744073709551616 % 18446744073709551616) &&& (1 % 18446744073709551616) = 1) = upB V (i + 1) := by
        unfold upB
        rw [if_neg (by omega), show i + 1 - 1 = i by omega, decide_eq_decide, show 1 % 18446744073709551616 = 2 ^ 1 - 1 from rfl, Nat.and_two_pow_sub_one_eq_mod]
        omega
      simp only [go_sem, s_ref04_From_b1, dl, es, o1, o2, hup, ↓reduceIte, Nat.reduceEqDiff, Nat.reduceAdd, Nat.reduceLeDiff, reduceCtorEq, Nat.reduceLT, Int.reduceLT, Int.reduceLE, Int.reduceEq, Int.reduceToNat, Nat.reduceMul]
      exact rd_of (i + 1) (by first | omega | (simp only; omega)) hin (subL [] [] (by simp [envS, go_sem, wkV, wkL, AV.ids, idsL, keysOf, ren, stoOf, slTrees, AV.asOwn, rowPart, AV.isNil, shA, rowsT, cellsT, cellT, wkLL] <;> assumption) (by simp [stoS, go_sem, wkV, wkL, wkO, AV.ids, Ob.ids, idsL, keysOf, ren, AV.one, stoOf, slTrees, AV.asOwn, rowPart, AV.isNil, shA, rowsT, cellsT, cellT, wkLL] <;> assumption) (by simp [keysOf, ren]) (by simp [stoOf, keysOf, ren]) (by simp [keysOf, ren]) (by simp [keysOf, ren]))
    · obtain rfl : i = n2 := by omega
      have dl : decide ((i : Int) - (i : Int) < 0) = false := decide_eq_false (by omega)
      have hVq : V / 2 ^ i < 340282366920938463463374607431768211456 := Nat.lt_of_le_of_lt (Nat.div_le_self _ _) hV
      have hqb : i ≠ 0 → V / 2 ^ i + 1 < 340282366920938463463374607431768211456 := by
        intro h0
        obtain ⟨t, rfl⟩ : ∃ t, i = t + 1 := ⟨i - 1, by omega⟩
        rw [Nat.pow_succ, Nat.mul_comm, ← Nat.div_div_eq_div_mul]
        exact Nat.lt_of_le_of_lt (Nat.add_le_add_right (Nat.div_le_self _ _) 1) (by clear hVq hNv; omega)
      generalize V / 2 ^ i = q at *
      have e63 : ∀ {N : Nat}, N < 9223372036854775808 → IntKind.i64.wrap ((N % 18446744073709551616 : Nat) : Int) = (N : Int) := fun h => by rw [wrap_i64_of (by omega) (by omega)]; omega
      have eng : ∀ {N : Nat}, N < 9223372036854775808 → IntKind.i64.wrap (0 - (N : Int)) = -(N : Int) := fun h => by rw [wrap_i64_of (by omega) (by omega)]; omega
      have dz : decide ((0 : Int) < 0) = false := rfl
      have hb : N < 340282366920938463463374607431768211456 → decide (N / 18446744073709551616 = 0) = true ∧ decide (9223372036854775808 - 1 < N % 18446744073709551616) = false ∧ N < 9223372036854775808 ∨ decide (N / 18446744073709551616 = 0) = false ∧ 9223372036854775808 ≤ N ∨ decide (N / 18446744073709551616 = 0) = true ∧ decide (9223372036854775808 - 1 < N % 18446744073709551616) = true ∧ 9223372036854775808 ≤ N := by
        intro hN
        by_cases h1 : N / 18446744073709551616 = 0
        · by_cases h2 : N < 9223372036854775808
          · exact .inl ⟨decide_eq_true h1, decide_eq_false (by omega), h2⟩
          · exact .inr (.inr ⟨decide_eq_true h1, decide_eq_true (by omega), by omega⟩)
        · exact .inr (.inl ⟨decide_eq_false h1, by omega⟩)
      rw [show 9223372036854775808 - 1 = 9223372036854775807 from rfl] at hb
      cases hup : upB V i
      · rw [hup, Bool.toNat_false, Nat.add_zero] at hNv
        subst hNv
        rcases hb hVq with ⟨b1, b2, b3⟩ | ⟨b1, b2⟩ | ⟨b1, b2, b3⟩
        · unfold flTold
          rw [if_pos b3, if_pos b3]
          cases sg
          · simp only [go_sem, s_ref04_From_b1, s_ref04_From_t2, dl, dz, b1, b2, e63 b3, ↓reduceIte, Nat.reduceEqDiff, Nat.reduceAdd, Nat.reduceLeDiff, reduceCtorEq, Nat.reduceLT, Int.reduceLT, Int.reduceLE, Int.reduceEq, Int.reduceToNat, Nat.reduceMul]
            refine wends (by first | exact Or.inl rfl | exact Or.inr rfl) ?_ (by first | rfl | simp [AV.ids, idsL])
            simp only [go_sem, r_ref04_From, ↓reduceIte, Nat.reduceEqDiff, Nat.reduceAdd, Nat.reduceLeDiff, reduceCtorEq, Nat.reduceLT, Int.reduceLT, Int.reduceLE, Int.reduceEq, Int.reduceToNat, Nat.reduceMul]
          · simp only [go_sem, s_ref04_From_b1, s_ref04_From_t2, dl, dz, b1, b2, e63 b3, eng b3, ↓reduceIte, Nat.reduceEqDiff, Nat.reduceAdd, Nat.reduceLeDiff, reduceCtorEq, Nat.reduceLT, Int.reduceLT, Int.reduceLE, Int.reduceEq, Int.reduceToNat, Nat.reduceMul]
            refine wends (by first | exact Or.inl rfl | exact Or.inr rfl) ?_ (by first | rfl | simp [AV.ids, idsL])
            simp only [go_sem, r_ref04_From, ↓reduceIte, Nat.reduceEqDiff, Nat.reduceAdd, Nat.reduceLeDiff, reduceCtorEq, Nat.reduceLT, Int.reduceLT, Int.reduceLE, Int.reduceEq, Int.reduceToNat, Nat.reduceMul]
        · rw [flTold_big sg b2]
          simp only [go_sem, s_ref04_From_b1, s_ref04_From_t2, dl, dz, b1, ↓reduceIte, Nat.reduceEqDiff, Nat.reduceAdd, Nat.reduceLeDiff, reduceCtorEq, Nat.reduceLT, Int.reduceLT, Int.reduceLE, Int.reduceEq, Int.reduceToNat, Nat.reduceMul]
          refine wends (by first | exact Or.inl rfl | exact Or.inr rfl) ?_ (by first | rfl | simp [AV.ids, idsL])
          simp only [go_sem, r_ref04_From, ↓reduceIte, Nat.reduceEqDiff, Nat.reduceAdd, Nat.reduceLeDiff, reduceCtorEq, Nat.reduceLT, Int.reduceLT, Int.reduceLE, Int.reduceEq, Int.reduceToNat, Nat.reduceMul]
        · rw [flTold_big sg b3]
          simp only [go_sem, s_ref04_From_b1, s_ref04_From_t2, dl, dz, b1, b2, ↓reduceIte, Nat.reduceEqDiff, Nat.reduceAdd, Nat.reduceLeDiff, reduceCtorEq, Nat.reduceLT, Int.reduceLT, Int.reduceLE, Int.reduceEq, Int.reduceToNat, Nat.reduceMul]
          refine wends (by first | exact Or.inl rfl | exact Or.inr rfl) ?_ (by first | rfl | simp [AV.ids, idsL])
          simp only [go_sem, r_ref04_From, ↓reduceIte, Nat.reduceEqDiff, Nat.reduceAdd, Nat.reduceLeDiff, reduceCtorEq, Nat.reduceLT, Int.reduceLT, Int.reduceLE, Int.reduceEq, Int.reduceToNat, Nat.reduceMul]
      · rw [hup, Bool.toNat_true] at hNv
        have hi0 : i ≠ 0 := fun h0 => by unfold upB at hup; rw [if_pos h0] at hup; cases hup
        have hq1 : N < 340282366920938463463374607431768211456 := by rw [hNv]; exact hqb hi0
        have hA := f_ref01_Add q 1 hVq (by decide)
        rw [← hNv, Nat.mod_eq_of_lt hq1] at hA
        have h1v : WV 1 = .ag [U (0 : Nat), U (1 : Nat)] := rfl
        rw [h1v] at hA
        rcases hb hq1 with ⟨b1, b2, b3⟩ | ⟨b1, b2⟩ | ⟨b1, b2, b3⟩
        · unfold flTold
          rw [if_pos b3, if_pos b3]
          cases sg
          · simp only [go_sem, s_ref04_From_b1, s_ref04_From_t2, dl, dz, ↓reduceIte, Nat.reduceEqDiff, Nat.reduceAdd, Nat.reduceLeDiff, reduceCtorEq, Nat.reduceLT, Int.reduceLT, Int.reduceLE, Int.reduceEq, Int.reduceToNat, Nat.reduceMul]
            refine Cl_plain hA ?_
            simp only [go_sem, b1, b2, e63 b3, ↓reduceIte, Nat.reduceEqDiff, Nat.reduceAdd, Nat.reduceLeDiff, reduceCtorEq, Nat.reduceLT, Int.reduceLT, Int.reduceLE, Int.reduceEq, Int.reduceToNat, Nat.reduceMul]
            refine wends (by first | exact Or.inl rfl | exact Or.inr rfl) ?_ (by first | rfl | simp [AV.ids, idsL])
            simp only [go_sem, r_ref04_From, ↓reduceIte, Nat.reduceEqDiff, Nat.reduceAdd, Nat.reduceLeDiff, reduceCtorEq, Nat.reduceLT, Int.reduceLT, Int.reduceLE, Int.reduceEq, Int.reduceToNat, Nat.reduceMul]
          · simp only [go_sem, s_ref04_From_b1, s_ref04_From_t2, dl, dz, ↓reduceIte, Nat.reduceEqDiff, Nat.reduceAdd, Nat.reduceLeDiff, reduceCtorEq, Nat.reduceLT, Int.reduceLT, Int.reduceLE, Int.reduceEq, Int.reduceToNat, Nat.reduceMul]
            refine Cl_plain hA ?_
            simp only [go_sem, b1, b2, e63 b3, eng b3, ↓reduceIte, Nat.reduceEqDiff, Nat.reduceAdd, Nat.reduceLeDiff, reduceCtorEq, Nat.reduceLT, Int.reduceLT, Int.reduceLE, Int.reduceEq, Int.reduceToNat, Nat.reduceMul]
            refine wends (by first | exact Or.inl rfl | exact Or.inr rfl) ?_ (by first | rfl | simp [AV.ids, idsL])
            simp only [go_sem, r_ref04_From, ↓reduceIte, Nat.reduceEqDiff, Nat.reduceAdd, Nat.reduceLeDiff, reduceCtorEq, Nat.reduceLT, Int.reduceLT, Int.reduceLE, Int.reduceEq, Int.reduceToNat, Nat.reduceMul]
        · rw [flTold_big sg b2]
          simp only [go_sem, s_ref04_From_b1, s_ref04_From_t2, dl, dz, ↓reduceIte, Nat.reduceEqDiff, Nat.reduceAdd, Nat.reduceLeDiff, reduceCtorEq, Nat.reduceLT, Int.reduceLT, Int.reduceLE, Int.reduceEq, Int.reduceToNat, Nat.reduceMul]
          refine Cl_plain hA ?_
          simp only [go_sem, b1, ↓reduceIte, Nat.reduceEqDiff, Nat.reduceAdd, Nat.reduceLeDiff, reduceCtorEq, Nat.reduceLT, Int.reduceLT, Int.reduceLE, Int.reduceEq, Int.reduceToNat, Nat.reduceMul]
          refine wends (by first | exact Or.inl rfl | exact Or.inr rfl) ?_ (by first | rfl | simp [AV.ids, idsL])
          simp only [go_sem, r_ref04_From, ↓reduceIte, Nat.reduceEqDiff, Nat.reduceAdd, Nat.reduceLeDiff, reduceCtorEq, Nat.reduceLT, Int.reduceLT, Int.reduceLE, Int.reduceEq, Int.reduceToNat, Nat.reduceMul]
        · rw [flTold_big sg b3]
          simp only [go_sem, s_ref04_From_b1, s_ref04_From_t2, dl, dz, ↓reduceIte, Nat.reduceEqDiff, Nat.reduceAdd, Nat.reduceLeDiff, reduceCtorEq, Nat.reduceLT, Int.reduceLT, Int.reduceLE, Int.reduceEq, Int.reduceToNat, Nat.reduceMul]
          refine Cl_plain hA ?_
          simp only [go_sem, b1, b2, ↓reduceIte, Nat.reduceEqDiff, Nat.reduceAdd, Nat.reduceLeDiff, reduceCtorEq, Nat.reduceLT, Int.reduceLT, Int.reduceLE, Int.reduceEq, Int.reduceToNat, Nat.reduceMul]
          refine wends (by first | exact Or.inl rfl | exact Or.inr rfl) ?_ (by first | rfl | simp [AV.ids, idsL])
          simp only [go_sem, r_ref04_From, ↓reduceIte, Nat.reduceEqDiff, Nat.reduceAdd, Nat.reduceLeDiff, reduceCtorEq, Nat.reduceLT, Int.reduceLT, Int.reduceLE, Int.reduceEq, Int.reduceToNat, Nat.reduceMul]

end Go.Proofs.Ytgablplpdocniaa
