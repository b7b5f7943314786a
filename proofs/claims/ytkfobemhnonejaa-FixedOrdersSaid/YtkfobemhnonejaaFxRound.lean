/- Contracts of rounding to some decimals. No statement of the seat is proved here. -/
import Derived.Test.YtkfobemhnonejaaFxRef
set_option linter.unusedSimpArgs false
set_option linter.unusedVariables false
namespace Go.Proofs.Ytkfobemhnonejaa
open Go Go.Sx

theorem unit_le (k : Nat) : 10 ^ (6 - k) ≤ 1000000 := Nat.le_trans (Nat.pow_le_pow_right (by decide) (show 6 - k ≤ 6 by omega)) (by decide)

theorem unit_div {j : Nat} (h : j < 6) : 10 ^ (6 - j) / 10 = 10 ^ (6 - (j + 1)) := by
  rw [show 6 - j = (6 - (j + 1)) + 1 by omega, Nat.pow_succ, Nat.mul_div_cancel _ (by decide)]

theorem pow6_cases {k : Nat} (h : k ≤ 6) : k = 0 ∨ k = 1 ∨ k = 2 ∨ k = 3 ∨ k = 4 ∨ k = 5 ∨ k = 6 := by omega

theorem rnd_le {n d : Nat} (hd : 0 < d) (hn : n < 9223372036854775808) (hd2 : d ≤ 1000000) : rnd n d * d < 18446744073709551616 := by
  have h1 := Nat.div_add_mod' n d
  have h2 := Nat.mod_lt n hd
  unfold rnd
  split
  · rw [Nat.add_mul, Nat.one_mul]; omega
  · omega

theorem f_fixed_Round (x : Bool) (v k : Int) (h1 : -9223372036854775808 ≤ v) (h2 : v < 9223372036854775808) : Meets Try.prog E0 n_fixed_Round [NV x v, I k] [] (NO (roundM (valM x v) k)) [] := by
  refine m_fixed_Round (by simp) (shut0 rfl) (shut0 rfl) (by simp) (by simp [keysOf]) ?_
  cases ha : okN x v
  · rw [okN_f ha]
    repeat' (first | (with_reducible refine Cl_plain (f_fixed_there _ _) ?_) | (with_reducible refine Cl_plain (f_fixed_nothing) ?_) | (simp only [go_sem, s_fixed_Round, ↓reduceIte, Nat.reduceEqDiff, Nat.reduceAdd, Nat.reduceLeDiff, reduceCtorEq, Int.natCast_nonneg, List.getElem?_map, Int.toNat_natCast, List.length_map, List.replicate_zero, Bool.bne_false, Bool.bne_true, Nat.reduceLT, Int.reduceLT, Int.reduceLE, Int.reduceEq, Int.reduceToNat, List.length_replicate, List.isEmpty_cons, List.isEmpty_nil, Nat.le_refl, Int.le_refl, Int.sub_zero, Int.sub_self, ne_eq, List.length_append, Int.toNat_zero, Nat.zero_mul, Nat.mul_one, Nat.one_mul, Nat.reduceMul, *]) | (simp (disch := omega) only [s_fixed_Round, wrap_i64_of, i64_quo, i64_rem, sdiv, smod]) | ((with_reducible refine W_split (by with_unfolding_all exact rfl) (fun hsp => ?_) (fun hsp => ?_)) <;> (try simp only [Bool.not_true, Bool.not_false, decide_eq_true_eq, decide_eq_false_iff_not, Bool.not_eq_true', Bool.not_eq_false', not_false_eq_true] at hsp)) | ((with_reducible refine R_split (by with_unfolding_all exact rfl) (fun hsp => ?_) (fun hsp => ?_)) <;> (try simp only [Bool.not_true, Bool.not_false, decide_eq_true_eq, decide_eq_false_iff_not, Bool.not_eq_true', Bool.not_eq_false', not_false_eq_true] at hsp)) | (with_reducible refine R_fin (by repeat' (first | exact okp0 | refine okp rfl rfl rfl ?_)) ?_))
    all_goals
      refine wends (by first | exact Or.inl rfl | exact Or.inr rfl) ?_ (by first | rfl | simp [AV.ids, idsL])
      simp only [go_sem, r_fixed_Round, ↓reduceIte, Nat.reduceEqDiff, Nat.reduceAdd, Nat.reduceLeDiff, reduceCtorEq, Int.natCast_nonneg, List.getElem?_map, Int.toNat_natCast, List.length_map, List.replicate_zero, Bool.bne_false, Bool.bne_true, Nat.reduceLT, Int.reduceLT, Int.reduceLE, Int.reduceEq, Int.reduceToNat, List.length_replicate, List.isEmpty_cons, List.isEmpty_nil, Nat.le_refl, Int.le_refl, Int.sub_zero, Int.sub_self, ne_eq, List.length_append, Int.toNat_zero, Nat.zero_mul, Nat.mul_one, Nat.one_mul, Nat.reduceMul]
      rfl
  · obtain ⟨e1, rfl, e3⟩ := okN_t ha
    rw [e1]
    clear e1
    by_cases hk : k < 0 ∨ 6 < k
    · rw [show roundM (some v) k = none from if_pos hk]
      rcases hk with hk | hk
      · have d0 := decide_eq_true hk
        clear hk
        repeat' (first | (with_reducible refine Cl_plain (f_fixed_there _ _) ?_) | (with_reducible refine Cl_plain (f_fixed_nothing) ?_) | (simp only [go_sem, s_fixed_Round, ↓reduceIte, Nat.reduceEqDiff, Nat.reduceAdd, Nat.reduceLeDiff, reduceCtorEq, Int.natCast_nonneg, List.getElem?_map, Int.toNat_natCast, List.length_map, List.replicate_zero, Bool.bne_false, Bool.bne_true, Nat.reduceLT, Int.reduceLT, Int.reduceLE, Int.reduceEq, Int.reduceToNat, List.length_replicate, List.isEmpty_cons, List.isEmpty_nil, Nat.le_refl, Int.le_refl, Int.sub_zero, Int.sub_self, ne_eq, List.length_append, Int.toNat_zero, Nat.zero_mul, Nat.mul_one, Nat.one_mul, Nat.reduceMul, *]) | (simp (disch := omega) only [s_fixed_Round, wrap_i64_of, i64_quo, i64_rem, sdiv, smod]) | ((with_reducible refine W_split (by with_unfolding_all exact rfl) (fun hsp => ?_) (fun hsp => ?_)) <;> (try simp only [Bool.not_true, Bool.not_false, decide_eq_true_eq, decide_eq_false_iff_not, Bool.not_eq_true', Bool.not_eq_false', not_false_eq_true] at hsp)) | ((with_reducible refine R_split (by with_unfolding_all exact rfl) (fun hsp => ?_) (fun hsp => ?_)) <;> (try simp only [Bool.not_true, Bool.not_false, decide_eq_true_eq, decide_eq_false_iff_not, Bool.not_eq_true', Bool.not_eq_false', not_false_eq_true] at hsp)) | (with_reducible refine R_fin (by repeat' (first | exact okp0 | refine okp rfl rfl rfl ?_)) ?_))
        refine wends (by first | exact Or.inl rfl | exact Or.inr rfl) ?_ (by first | rfl | simp [AV.ids, idsL])
        simp only [go_sem, r_fixed_Round, ↓reduceIte, Nat.reduceEqDiff, Nat.reduceAdd, Nat.reduceLeDiff, reduceCtorEq, Int.natCast_nonneg, List.getElem?_map, Int.toNat_natCast, List.length_map, List.replicate_zero, Bool.bne_false, Bool.bne_true, Nat.reduceLT, Int.reduceLT, Int.reduceLE, Int.reduceEq, Int.reduceToNat, List.length_replicate, List.isEmpty_cons, List.isEmpty_nil, Nat.le_refl, Int.le_refl, Int.sub_zero, Int.sub_self, ne_eq, List.length_append, Int.toNat_zero, Nat.zero_mul, Nat.mul_one, Nat.one_mul, Nat.reduceMul]
        rfl
      · have d0 := decide_eq_true hk
        have d1 : decide (k < 0) = false := decide_eq_false (by omega)
        clear hk
        repeat' (first | (with_reducible refine Cl_plain (f_fixed_there _ _) ?_) | (with_reducible refine Cl_plain (f_fixed_nothing) ?_) | (simp only [go_sem, s_fixed_Round, ↓reduceIte, Nat.reduceEqDiff, Nat.reduceAdd, Nat.reduceLeDiff, reduceCtorEq, Int.natCast_nonneg, List.getElem?_map, Int.toNat_natCast, List.length_map, List.replicate_zero, Bool.bne_false, Bool.bne_true, Nat.reduceLT, Int.reduceLT, Int.reduceLE, Int.reduceEq, Int.reduceToNat, List.length_replicate, List.isEmpty_cons, List.isEmpty_nil, Nat.le_refl, Int.le_refl, Int.sub_zero, Int.sub_self, ne_eq, List.length_append, Int.toNat_zero, Nat.zero_mul, Nat.mul_one, Nat.one_mul, Nat.reduceMul, *]) | (simp (disch := omega) only [s_fixed_Round, wrap_i64_of, i64_quo, i64_rem, sdiv, smod]) | ((with_reducible refine W_split (by with_unfolding_all exact rfl) (fun hsp => ?_) (fun hsp => ?_)) <;> (try simp only [Bool.not_true, Bool.not_false, decide_eq_true_eq, decide_eq_false_iff_not, Bool.not_eq_true', Bool.not_eq_false', not_false_eq_true] at hsp)) | ((with_reducible refine R_split (by with_unfolding_all exact rfl) (fun hsp => ?_) (fun hsp => ?_)) <;> (try simp only [Bool.not_true, Bool.not_false, decide_eq_true_eq, decide_eq_false_iff_not, Bool.not_eq_true', Bool.not_eq_false', not_false_eq_true] at hsp)) | (with_reducible refine R_fin (by repeat' (first | exact okp0 | refine okp rfl rfl rfl ?_)) ?_))
        refine wends (by first | exact Or.inl rfl | exact Or.inr rfl) ?_ (by first | rfl | simp [AV.ids, idsL])
        simp only [go_sem, r_fixed_Round, ↓reduceIte, Nat.reduceEqDiff, Nat.reduceAdd, Nat.reduceLeDiff, reduceCtorEq, Int.natCast_nonneg, List.getElem?_map, Int.toNat_natCast, List.length_map, List.replicate_zero, Bool.bne_false, Bool.bne_true, Nat.reduceLT, Int.reduceLT, Int.reduceLE, Int.reduceEq, Int.reduceToNat, List.length_replicate, List.isEmpty_cons, List.isEmpty_nil, Nat.le_refl, Int.le_refl, Int.sub_zero, Int.sub_self, ne_eq, List.length_append, Int.toNat_zero, Nat.zero_mul, Nat.mul_one, Nat.one_mul, Nat.reduceMul]
        rfl
    · obtain ⟨k, rfl⟩ := Int.eq_ofNat_of_zero_le (show 0 ≤ k by omega)
      have d0 : decide ((k : Int) < 0) = false := decide_eq_false (by omega)
      have d1 : decide (6 < (k : Int)) = false := decide_eq_false (by omega)
      have hu := unit_le k
      have hup : 0 < 10 ^ (6 - k) := Nat.pow_pos (by decide)
      have hrl := rnd_le (n := v.natAbs) hup (by omega) hu
      rw [show roundM (some v) k = sgnM (rnd v.natAbs (10 ^ (6 - k)) * 10 ^ (6 - k)) (neg v) from by
        unfold roundM unitM; simp only [Int.toNat_natCast]; rw [if_neg hk, if_neg (by omega)]]
      have hkk : k ≤ 6 := by omega
      clear hk
      simp only [go_sem, s_fixed_Round, ↓reduceIte, Nat.reduceEqDiff, Nat.reduceAdd, Nat.reduceLeDiff, reduceCtorEq, Int.natCast_nonneg, List.getElem?_map, Int.toNat_natCast, List.length_map, List.replicate_zero, Bool.bne_false, Bool.bne_true, Nat.reduceLT, Int.reduceLT, Int.reduceLE, Int.reduceEq, Int.reduceToNat, List.length_replicate, List.isEmpty_cons, List.isEmpty_nil, Nat.le_refl, Int.le_refl, Int.sub_zero, Int.sub_self, ne_eq, List.length_append, Int.toNat_zero, Nat.zero_mul, Nat.mul_one, Nat.one_mul, Nat.reduceMul]
      refine Cl_plain (f_fixed_there _ _) ?_
      simp only [go_sem, ha, d0, d1, ↓reduceIte, Nat.reduceEqDiff, Nat.reduceAdd, Nat.reduceLeDiff, reduceCtorEq, Int.natCast_nonneg, List.getElem?_map, Int.toNat_natCast, List.length_map, List.replicate_zero, Bool.bne_false, Bool.bne_true, Nat.reduceLT, Int.reduceLT, Int.reduceLE, Int.reduceEq, Int.reduceToNat, List.length_replicate, List.isEmpty_cons, List.isEmpty_nil, Nat.le_refl, Int.le_refl, Int.sub_zero, Int.sub_self, ne_eq, List.length_append, Int.toNat_zero, Nat.zero_mul, Nat.mul_one, Nat.one_mul, Nat.reduceMul]
      refine W_loop (fun j : Nat => k - j) (fun j => j ≤ k)
        (fun j => [(0, NV false v), (1, I k), (2, .ptr 100 0), (4, .ptr 101 0), (5, U ((10 ^ (6 - j) : Nat) : Int)), (23, I k), (24, I j)])
        (fun j => [(100, .box [Bo false, I v]), (101, .box [Bo false, I 0])]) 0 (Nat.zero_le _) (subL [] [] (by simp [envS, go_sem, wkV, wkL, AV.ids, idsL, keysOf, ren]) (by simp [stoS, go_sem, wkV, wkL, wkO, AV.ids, Ob.ids, idsL, keysOf, ren, AV.one]) (by simp [keysOf, ren]) (by simp) (by simp [keysOf]) (by simp [keysOf])) ?_
      intro j hj
      simp only [go_sem, ↓reduceIte, Nat.reduceEqDiff, Nat.reduceAdd, Nat.reduceLeDiff, reduceCtorEq, Int.natCast_nonneg, List.getElem?_map, Int.toNat_natCast, List.length_map, List.replicate_zero, Bool.bne_false, Bool.bne_true, Nat.reduceLT, Int.reduceLT, Int.reduceLE, Int.reduceEq, Int.reduceToNat, List.length_replicate, List.isEmpty_cons, List.isEmpty_nil, Nat.le_refl, Int.le_refl, Int.sub_zero, Int.sub_self, ne_eq, List.length_append, Int.toNat_zero, Nat.zero_mul, Nat.mul_one, Nat.one_mul, Nat.reduceMul]
      refine W_split rfl (fun h => ?_) (fun h => ?_)
      · simp at h
        have ej : IntKind.i64.wrap ((j : Int) + 1) = ((j + 1 : Nat) : Int) := by rw [wrap_i64_of (by omega) (by omega)]; omega
        have hul := unit_le j
        have hq : 10 ^ (6 - j) / 10 % 18446744073709551616 = 10 ^ (6 - (j + 1)) := by rw [unit_div (by omega)]; exact Nat.mod_eq_of_lt (Nat.lt_of_le_of_lt (unit_le (j + 1)) (by decide))
        simp only [go_sem, u64_quo (show ¬ (10 : Nat) = 0 by decide), hq, ej, ↓reduceIte, Nat.reduceEqDiff, Nat.reduceAdd, Nat.reduceLeDiff, reduceCtorEq, Int.natCast_nonneg, List.getElem?_map, Int.toNat_natCast, List.length_map, List.replicate_zero, Bool.bne_false, Bool.bne_true, Nat.reduceLT, Int.reduceLT, Int.reduceLE, Int.reduceEq, Int.reduceToNat, List.length_replicate, List.isEmpty_cons, List.isEmpty_nil, Nat.le_refl, Int.le_refl, Int.sub_zero, Int.sub_self, ne_eq, List.length_append, Int.toNat_zero, Nat.zero_mul, Nat.mul_one, Nat.one_mul, Nat.reduceMul]
        exact rd_of (j + 1) (by first | omega | (simp only; omega)) (by first | omega | (simp only; omega)) (subL [] [] (by simp [envS, go_sem, wkV, wkL, AV.ids, idsL, keysOf, ren]) (by simp [stoS, go_sem, wkV, wkL, wkO, AV.ids, Ob.ids, idsL, keysOf, ren, AV.one]) (by simp [keysOf, ren]) (by simp) (by simp [keysOf]) (by simp [keysOf]))
      · have e : j = k := by simp at h; omega
        subst e
        generalize 10 ^ (6 - j) = d at *
        have hz : ¬ d = 0 := by omega
        have hm := Nat.mod_lt v.natAbs hup
        have hqd : v.natAbs / d % 18446744073709551616 = v.natAbs / d := Nat.mod_eq_of_lt (Nat.lt_of_le_of_lt (Nat.div_le_self _ _) (by omega))
        have hsub : (d + 18446744073709551616 - v.natAbs % d % 18446744073709551616) % 18446744073709551616 = d - v.natAbs % d := by omega
        have hdl : v.natAbs / d ≤ v.natAbs := Nat.div_le_self _ _
        have hq1 : (v.natAbs / d + 1) % 18446744073709551616 = v.natAbs / d + 1 := by omega
        simp only [go_sem, ↓reduceIte, Nat.reduceEqDiff, Nat.reduceAdd, Nat.reduceLeDiff, reduceCtorEq, Int.natCast_nonneg, List.getElem?_map, Int.toNat_natCast, List.length_map, List.replicate_zero, Bool.bne_false, Bool.bne_true, Nat.reduceLT, Int.reduceLT, Int.reduceLE, Int.reduceEq, Int.reduceToNat, List.length_replicate, List.isEmpty_cons, List.isEmpty_nil, Nat.le_refl, Int.le_refl, Int.sub_zero, Int.sub_self, ne_eq, List.length_append, Int.toNat_zero, Nat.zero_mul, Nat.mul_one, Nat.one_mul, Nat.reduceMul]
        refine Cl_plain (f_fixed_size _ _ h1 h2) ?_
        simp only [go_sem, u64_quo hz, u64_rem hz, hqd, hsub, ↓reduceIte, Nat.reduceEqDiff, Nat.reduceAdd, Nat.reduceLeDiff, reduceCtorEq, Int.natCast_nonneg, List.getElem?_map, Int.toNat_natCast, List.length_map, List.replicate_zero, Bool.bne_false, Bool.bne_true, Nat.reduceLT, Int.reduceLT, Int.reduceLE, Int.reduceEq, Int.reduceToNat, List.length_replicate, List.isEmpty_cons, List.isEmpty_nil, Nat.le_refl, Int.le_refl, Int.sub_zero, Int.sub_self, ne_eq, List.length_append, Int.toNat_zero, Nat.zero_mul, Nat.mul_one, Nat.one_mul, Nat.reduceMul]
        have hw : rnd v.natAbs d * d / 18446744073709551616 = 0 := by omega
        have hw2 : rnd v.natAbs d * d % 18446744073709551616 = rnd v.natAbs d * d := by omega
        cases hc : decide (d - v.natAbs % d ≤ v.natAbs % d)
        · have hc' := of_decide_eq_false hc
          have hr : v.natAbs / d = rnd v.natAbs d := (if_neg (by omega)).symm
          simp only [go_sem, hc, ↓reduceIte, Nat.reduceEqDiff, Nat.reduceAdd, Nat.reduceLeDiff, reduceCtorEq, Int.natCast_nonneg, List.getElem?_map, Int.toNat_natCast, List.length_map, List.replicate_zero, Bool.bne_false, Bool.bne_true, Nat.reduceLT, Int.reduceLT, Int.reduceLE, Int.reduceEq, Int.reduceToNat, List.length_replicate, List.isEmpty_cons, List.isEmpty_nil, Nat.le_refl, Int.le_refl, Int.sub_zero, Int.sub_self, ne_eq, List.length_append, Int.toNat_zero, Nat.zero_mul, Nat.mul_one, Nat.one_mul, Nat.reduceMul]
          refine Cl_plain (f_wide_Mul _ d (by omega) (by omega)) ?_
          rw [hr]
          have dz : decide (0 < rnd v.natAbs d * d / 18446744073709551616) = false := decide_eq_false (by omega)
          simp only [go_sem, dz, hw2, ↓reduceIte, Nat.reduceEqDiff, Nat.reduceAdd, Nat.reduceLeDiff, reduceCtorEq, Int.natCast_nonneg, List.getElem?_map, Int.toNat_natCast, List.length_map, List.replicate_zero, Bool.bne_false, Bool.bne_true, Nat.reduceLT, Int.reduceLT, Int.reduceLE, Int.reduceEq, Int.reduceToNat, List.length_replicate, List.isEmpty_cons, List.isEmpty_nil, Nat.le_refl, Int.le_refl, Int.sub_zero, Int.sub_self, ne_eq, List.length_append, Int.toNat_zero, Nat.zero_mul, Nat.mul_one, Nat.one_mul, Nat.reduceMul]
          refine Cl_plain (f_fixed_told _ _ (by omega)) ?_
          simp only [go_sem, ↓reduceIte, Nat.reduceEqDiff, Nat.reduceAdd, Nat.reduceLeDiff, reduceCtorEq, Int.natCast_nonneg, List.getElem?_map, Int.toNat_natCast, List.length_map, List.replicate_zero, Bool.bne_false, Bool.bne_true, Nat.reduceLT, Int.reduceLT, Int.reduceLE, Int.reduceEq, Int.reduceToNat, List.length_replicate, List.isEmpty_cons, List.isEmpty_nil, Nat.le_refl, Int.le_refl, Int.sub_zero, Int.sub_self, ne_eq, List.length_append, Int.toNat_zero, Nat.zero_mul, Nat.mul_one, Nat.one_mul, Nat.reduceMul]
          refine wends (by first | exact Or.inl rfl | exact Or.inr rfl) ?_ (by first | rfl | simp [AV.ids, idsL])
          simp only [go_sem, r_fixed_Round, ↓reduceIte, Nat.reduceEqDiff, Nat.reduceAdd, Nat.reduceLeDiff, reduceCtorEq, Int.natCast_nonneg, List.getElem?_map, Int.toNat_natCast, List.length_map, List.replicate_zero, Bool.bne_false, Bool.bne_true, Nat.reduceLT, Int.reduceLT, Int.reduceLE, Int.reduceEq, Int.reduceToNat, List.length_replicate, List.isEmpty_cons, List.isEmpty_nil, Nat.le_refl, Int.le_refl, Int.sub_zero, Int.sub_self, ne_eq, List.length_append, Int.toNat_zero, Nat.zero_mul, Nat.mul_one, Nat.one_mul, Nat.reduceMul]
        · have hc' := of_decide_eq_true hc
          have hr : v.natAbs / d + 1 = rnd v.natAbs d := (if_pos (by omega)).symm
          simp only [go_sem, hc, hq1, ↓reduceIte, Nat.reduceEqDiff, Nat.reduceAdd, Nat.reduceLeDiff, reduceCtorEq, Int.natCast_nonneg, List.getElem?_map, Int.toNat_natCast, List.length_map, List.replicate_zero, Bool.bne_false, Bool.bne_true, Nat.reduceLT, Int.reduceLT, Int.reduceLE, Int.reduceEq, Int.reduceToNat, List.length_replicate, List.isEmpty_cons, List.isEmpty_nil, Nat.le_refl, Int.le_refl, Int.sub_zero, Int.sub_self, ne_eq, List.length_append, Int.toNat_zero, Nat.zero_mul, Nat.mul_one, Nat.one_mul, Nat.reduceMul]
          refine Cl_plain (f_wide_Mul _ d (by omega) (by omega)) ?_
          rw [hr]
          have dz : decide (0 < rnd v.natAbs d * d / 18446744073709551616) = false := decide_eq_false (by omega)
          simp only [go_sem, dz, hw2, ↓reduceIte, Nat.reduceEqDiff, Nat.reduceAdd, Nat.reduceLeDiff, reduceCtorEq, Int.natCast_nonneg, List.getElem?_map, Int.toNat_natCast, List.length_map, List.replicate_zero, Bool.bne_false, Bool.bne_true, Nat.reduceLT, Int.reduceLT, Int.reduceLE, Int.reduceEq, Int.reduceToNat, List.length_replicate, List.isEmpty_cons, List.isEmpty_nil, Nat.le_refl, Int.le_refl, Int.sub_zero, Int.sub_self, ne_eq, List.length_append, Int.toNat_zero, Nat.zero_mul, Nat.mul_one, Nat.one_mul, Nat.reduceMul]
          refine Cl_plain (f_fixed_told _ _ (by omega)) ?_
          simp only [go_sem, ↓reduceIte, Nat.reduceEqDiff, Nat.reduceAdd, Nat.reduceLeDiff, reduceCtorEq, Int.natCast_nonneg, List.getElem?_map, Int.toNat_natCast, List.length_map, List.replicate_zero, Bool.bne_false, Bool.bne_true, Nat.reduceLT, Int.reduceLT, Int.reduceLE, Int.reduceEq, Int.reduceToNat, List.length_replicate, List.isEmpty_cons, List.isEmpty_nil, Nat.le_refl, Int.le_refl, Int.sub_zero, Int.sub_self, ne_eq, List.length_append, Int.toNat_zero, Nat.zero_mul, Nat.mul_one, Nat.one_mul, Nat.reduceMul]
          refine wends (by first | exact Or.inl rfl | exact Or.inr rfl) ?_ (by first | rfl | simp [AV.ids, idsL])
          simp only [go_sem, r_fixed_Round, ↓reduceIte, Nat.reduceEqDiff, Nat.reduceAdd, Nat.reduceLeDiff, reduceCtorEq, Int.natCast_nonneg, List.getElem?_map, Int.toNat_natCast, List.length_map, List.replicate_zero, Bool.bne_false, Bool.bne_true, Nat.reduceLT, Int.reduceLT, Int.reduceLE, Int.reduceEq, Int.reduceToNat, List.length_replicate, List.isEmpty_cons, List.isEmpty_nil, Nat.le_refl, Int.le_refl, Int.sub_zero, Int.sub_self, ne_eq, List.length_append, Int.toNat_zero, Nat.zero_mul, Nat.mul_one, Nat.one_mul, Nat.reduceMul]

theorem f_ref02_Round (x : Bool) (v k : Int) (h1 : -9223372036854775808 ≤ v) (h2 : v < 9223372036854775808) : Meets Try.prog E0 n_ref02_Round [NV x v, I k] [] (NO (roundM (valM x v) k)) [] := by
  refine m_ref02_Round (by simp) (shut0 rfl) (shut0 rfl) (by simp) (by simp [keysOf]) ?_
  cases ha : okN x v
  · rw [okN_f ha]
    repeat' (first | (with_reducible refine Cl_plain (f_ref02_is _ _ (by omega)) ?_) | (with_reducible refine Cl_plain (f_ref02_Nothing) ?_) | (simp only [go_sem, s_ref02_Round, ↓reduceIte, Nat.reduceEqDiff, Nat.reduceAdd, Nat.reduceLeDiff, reduceCtorEq, Int.natCast_nonneg, List.getElem?_map, Int.toNat_natCast, List.length_map, List.replicate_zero, Bool.bne_false, Bool.bne_true, Nat.reduceLT, Int.reduceLT, Int.reduceLE, Int.reduceEq, Int.reduceToNat, List.length_replicate, List.isEmpty_cons, List.isEmpty_nil, Nat.le_refl, Int.le_refl, Int.sub_zero, Int.sub_self, ne_eq, List.length_append, Int.toNat_zero, Nat.zero_mul, Nat.mul_one, Nat.one_mul, Nat.reduceMul, *]) | (simp (disch := omega) only [s_ref02_Round, wrap_i64_of, i64_quo, i64_rem, sdiv, smod]) | ((with_reducible refine W_split (by with_unfolding_all exact rfl) (fun hsp => ?_) (fun hsp => ?_)) <;> (try simp only [Bool.not_true, Bool.not_false, decide_eq_true_eq, decide_eq_false_iff_not, Bool.not_eq_true', Bool.not_eq_false', not_false_eq_true] at hsp)) | ((with_reducible refine R_split (by with_unfolding_all exact rfl) (fun hsp => ?_) (fun hsp => ?_)) <;> (try simp only [Bool.not_true, Bool.not_false, decide_eq_true_eq, decide_eq_false_iff_not, Bool.not_eq_true', Bool.not_eq_false', not_false_eq_true] at hsp)) | (with_reducible refine R_fin (by repeat' (first | exact okp0 | refine okp rfl rfl rfl ?_)) ?_))
    all_goals
      refine wends (by first | exact Or.inl rfl | exact Or.inr rfl) ?_ (by first | rfl | simp [AV.ids, idsL])
      simp only [go_sem, r_ref02_Round, ↓reduceIte, Nat.reduceEqDiff, Nat.reduceAdd, Nat.reduceLeDiff, reduceCtorEq, Int.natCast_nonneg, List.getElem?_map, Int.toNat_natCast, List.length_map, List.replicate_zero, Bool.bne_false, Bool.bne_true, Nat.reduceLT, Int.reduceLT, Int.reduceLE, Int.reduceEq, Int.reduceToNat, List.length_replicate, List.isEmpty_cons, List.isEmpty_nil, Nat.le_refl, Int.le_refl, Int.sub_zero, Int.sub_self, ne_eq, List.length_append, Int.toNat_zero, Nat.zero_mul, Nat.mul_one, Nat.one_mul, Nat.reduceMul]
      rfl
  · obtain ⟨e1, rfl, e3⟩ := okN_t ha
    rw [e1]
    clear e1
    by_cases hk : k < 0 ∨ 6 < k
    · rw [show roundM (some v) k = none from if_pos hk]
      rcases hk with hk | hk
      · have d0 := decide_eq_true hk
        clear hk
        repeat' (first | (with_reducible refine Cl_plain (f_ref02_is _ _ (by omega)) ?_) | (with_reducible refine Cl_plain (f_ref02_Nothing) ?_) | (simp only [go_sem, s_ref02_Round, ↓reduceIte, Nat.reduceEqDiff, Nat.reduceAdd, Nat.reduceLeDiff, reduceCtorEq, Int.natCast_nonneg, List.getElem?_map, Int.toNat_natCast, List.length_map, List.replicate_zero, Bool.bne_false, Bool.bne_true, Nat.reduceLT, Int.reduceLT, Int.reduceLE, Int.reduceEq, Int.reduceToNat, List.length_replicate, List.isEmpty_cons, List.isEmpty_nil, Nat.le_refl, Int.le_refl, Int.sub_zero, Int.sub_self, ne_eq, List.length_append, Int.toNat_zero, Nat.zero_mul, Nat.mul_one, Nat.one_mul, Nat.reduceMul, *]) | (simp (disch := omega) only [s_ref02_Round, wrap_i64_of, i64_quo, i64_rem, sdiv, smod]) | ((with_reducible refine W_split (by with_unfolding_all exact rfl) (fun hsp => ?_) (fun hsp => ?_)) <;> (try simp only [Bool.not_true, Bool.not_false, decide_eq_true_eq, decide_eq_false_iff_not, Bool.not_eq_true', Bool.not_eq_false', not_false_eq_true] at hsp)) | ((with_reducible refine R_split (by with_unfolding_all exact rfl) (fun hsp => ?_) (fun hsp => ?_)) <;> (try simp only [Bool.not_true, Bool.not_false, decide_eq_true_eq, decide_eq_false_iff_not, Bool.not_eq_true', Bool.not_eq_false', not_false_eq_true] at hsp)) | (with_reducible refine R_fin (by repeat' (first | exact okp0 | refine okp rfl rfl rfl ?_)) ?_))
        refine wends (by first | exact Or.inl rfl | exact Or.inr rfl) ?_ (by first | rfl | simp [AV.ids, idsL])
        simp only [go_sem, r_ref02_Round, ↓reduceIte, Nat.reduceEqDiff, Nat.reduceAdd, Nat.reduceLeDiff, reduceCtorEq, Int.natCast_nonneg, List.getElem?_map, Int.toNat_natCast, List.length_map, List.replicate_zero, Bool.bne_false, Bool.bne_true, Nat.reduceLT, Int.reduceLT, Int.reduceLE, Int.reduceEq, Int.reduceToNat, List.length_replicate, List.isEmpty_cons, List.isEmpty_nil, Nat.le_refl, Int.le_refl, Int.sub_zero, Int.sub_self, ne_eq, List.length_append, Int.toNat_zero, Nat.zero_mul, Nat.mul_one, Nat.one_mul, Nat.reduceMul]
        rfl
      · have d0 := decide_eq_true hk
        have d1 : decide (k < 0) = false := decide_eq_false (by omega)
        clear hk
        repeat' (first | (with_reducible refine Cl_plain (f_ref02_is _ _ (by omega)) ?_) | (with_reducible refine Cl_plain (f_ref02_Nothing) ?_) | (simp only [go_sem, s_ref02_Round, ↓reduceIte, Nat.reduceEqDiff, Nat.reduceAdd, Nat.reduceLeDiff, reduceCtorEq, Int.natCast_nonneg, List.getElem?_map, Int.toNat_natCast, List.length_map, List.replicate_zero, Bool.bne_false, Bool.bne_true, Nat.reduceLT, Int.reduceLT, Int.reduceLE, Int.reduceEq, Int.reduceToNat, List.length_replicate, List.isEmpty_cons, List.isEmpty_nil, Nat.le_refl, Int.le_refl, Int.sub_zero, Int.sub_self, ne_eq, List.length_append, Int.toNat_zero, Nat.zero_mul, Nat.mul_one, Nat.one_mul, Nat.reduceMul, *]) | (simp (disch := omega) only [s_ref02_Round, wrap_i64_of, i64_quo, i64_rem, sdiv, smod]) | ((with_reducible refine W_split (by with_unfolding_all exact rfl) (fun hsp => ?_) (fun hsp => ?_)) <;> (try simp only [Bool.not_true, Bool.not_false, decide_eq_true_eq, decide_eq_false_iff_not, Bool.not_eq_true', Bool.not_eq_false', not_false_eq_true] at hsp)) | ((with_reducible refine R_split (by with_unfolding_all exact rfl) (fun hsp => ?_) (fun hsp => ?_)) <;> (try simp only [Bool.not_true, Bool.not_false, decide_eq_true_eq, decide_eq_false_iff_not, Bool.not_eq_true', Bool.not_eq_false', not_false_eq_true] at hsp)) | (with_reducible refine R_fin (by repeat' (first | exact okp0 | refine okp rfl rfl rfl ?_)) ?_))
        refine wends (by first | exact Or.inl rfl | exact Or.inr rfl) ?_ (by first | rfl | simp [AV.ids, idsL])
        simp only [go_sem, r_ref02_Round, ↓reduceIte, Nat.reduceEqDiff, Nat.reduceAdd, Nat.reduceLeDiff, reduceCtorEq, Int.natCast_nonneg, List.getElem?_map, Int.toNat_natCast, List.length_map, List.replicate_zero, Bool.bne_false, Bool.bne_true, Nat.reduceLT, Int.reduceLT, Int.reduceLE, Int.reduceEq, Int.reduceToNat, List.length_replicate, List.isEmpty_cons, List.isEmpty_nil, Nat.le_refl, Int.le_refl, Int.sub_zero, Int.sub_self, ne_eq, List.length_append, Int.toNat_zero, Nat.zero_mul, Nat.mul_one, Nat.one_mul, Nat.reduceMul]
        rfl
    · obtain ⟨k, rfl⟩ := Int.eq_ofNat_of_zero_le (show 0 ≤ k by omega)
      have d0 : decide ((k : Int) < 0) = false := decide_eq_false (by omega)
      have d1 : decide (6 < (k : Int)) = false := decide_eq_false (by omega)
      have hu := unit_le k
      have hup : 0 < 10 ^ (6 - k) := Nat.pow_pos (by decide)
      have hrl := rnd_le (n := v.natAbs) hup (by omega) hu
      rw [show roundM (some v) k = sgnM (rnd v.natAbs (10 ^ (6 - k)) * 10 ^ (6 - k)) (neg v) from by
        unfold roundM unitM; simp only [Int.toNat_natCast]; rw [if_neg hk, if_neg (by omega)]]
      have hkk : k ≤ 6 := by omega
      clear hk
      simp only [go_sem, s_ref02_Round, ↓reduceIte, Nat.reduceEqDiff, Nat.reduceAdd, Nat.reduceLeDiff, reduceCtorEq, Int.natCast_nonneg, List.getElem?_map, Int.toNat_natCast, List.length_map, List.replicate_zero, Bool.bne_false, Bool.bne_true, Nat.reduceLT, Int.reduceLT, Int.reduceLE, Int.reduceEq, Int.reduceToNat, List.length_replicate, List.isEmpty_cons, List.isEmpty_nil, Nat.le_refl, Int.le_refl, Int.sub_zero, Int.sub_self, ne_eq, List.length_append, Int.toNat_zero, Nat.zero_mul, Nat.mul_one, Nat.one_mul, Nat.reduceMul]
      refine Cl_plain (f_ref02_is _ _ h1) ?_
      simp only [go_sem, ha, d0, d1, ↓reduceIte, Nat.reduceEqDiff, Nat.reduceAdd, Nat.reduceLeDiff, reduceCtorEq, Int.natCast_nonneg, List.getElem?_map, Int.toNat_natCast, List.length_map, List.replicate_zero, Bool.bne_false, Bool.bne_true, Nat.reduceLT, Int.reduceLT, Int.reduceLE, Int.reduceEq, Int.reduceToNat, List.length_replicate, List.isEmpty_cons, List.isEmpty_nil, Nat.le_refl, Int.le_refl, Int.sub_zero, Int.sub_self, ne_eq, List.length_append, Int.toNat_zero, Nat.zero_mul, Nat.mul_one, Nat.one_mul, Nat.reduceMul]
      refine W_loop (fun j : Nat => 6 - k - j) (fun j => j ≤ 6 - k)
        (fun j => [(0, NV false v), (1, I k), (2, .ptr 100 0), (4, .ptr 101 0), (5, U ((10 ^ j : Nat) : Int)), (6, I ((k + j : Nat) : Int))])
        (fun j => [(100, .box [Bo false, I v]), (101, .box [Bo false, I 0])]) 0 (Nat.zero_le _) (subL [] [] (by simp [envS, go_sem, wkV, wkL, AV.ids, idsL, keysOf, ren]) (by simp [stoS, go_sem, wkV, wkL, wkO, AV.ids, Ob.ids, idsL, keysOf, ren, AV.one]) (by simp [keysOf, ren]) (by simp) (by simp [keysOf]) (by simp [keysOf])) ?_
      intro j hj
      simp only [go_sem, ↓reduceIte, Nat.reduceEqDiff, Nat.reduceAdd, Nat.reduceLeDiff, reduceCtorEq, Int.natCast_nonneg, List.getElem?_map, Int.toNat_natCast, List.length_map, List.replicate_zero, Bool.bne_false, Bool.bne_true, Nat.reduceLT, Int.reduceLT, Int.reduceLE, Int.reduceEq, Int.reduceToNat, List.length_replicate, List.isEmpty_cons, List.isEmpty_nil, Nat.le_refl, Int.le_refl, Int.sub_zero, Int.sub_self, ne_eq, List.length_append, Int.toNat_zero, Nat.zero_mul, Nat.mul_one, Nat.one_mul, Nat.reduceMul]
      refine W_split rfl (fun h => ?_) (fun h => ?_)
      · simp at h
        have ej : IntKind.i64.wrap (((k + j : Nat) : Int) + 1) = ((k + (j + 1) : Nat) : Int) := by rw [wrap_i64_of (by omega) (by omega)]; omega
        have hul : 10 ^ j ≤ 1000000 := Nat.le_trans (Nat.pow_le_pow_right (by decide) (show j ≤ 6 by omega)) (by decide)
        have hq : 10 ^ j * 10 % 18446744073709551616 = 10 ^ (j + 1) := by rw [Nat.pow_succ]; omega
        simp only [go_sem, hq, ej, ↓reduceIte, Nat.reduceEqDiff, Nat.reduceAdd, Nat.reduceLeDiff, reduceCtorEq, Int.natCast_nonneg, List.getElem?_map, Int.toNat_natCast, List.length_map, List.replicate_zero, Bool.bne_false, Bool.bne_true, Nat.reduceLT, Int.reduceLT, Int.reduceLE, Int.reduceEq, Int.reduceToNat, List.length_replicate, List.isEmpty_cons, List.isEmpty_nil, Nat.le_refl, Int.le_refl, Int.sub_zero, Int.sub_self, ne_eq, List.length_append, Int.toNat_zero, Nat.zero_mul, Nat.mul_one, Nat.one_mul, Nat.reduceMul]
        exact rd_of (j + 1) (by first | omega | (simp only; omega)) (by first | omega | (simp only; omega)) (subL [] [] (by simp [envS, go_sem, wkV, wkL, AV.ids, idsL, keysOf, ren]) (by simp [stoS, go_sem, wkV, wkL, wkO, AV.ids, Ob.ids, idsL, keysOf, ren, AV.one]) (by simp [keysOf, ren]) (by simp) (by simp [keysOf]) (by simp [keysOf]))
      · have e : j = 6 - k := by simp at h; omega
        subst e
        generalize 10 ^ (6 - k) = d at *
        have hz : ¬ d = 0 := by omega
        have hdl : v.natAbs / d ≤ v.natAbs := Nat.div_le_self _ _
        have hrs : rnd v.natAbs d < 18446744073709551616 := by unfold rnd; split <;> omega
        have hv64 : v.natAbs < 18446744073709551616 := by omega
        have hv1 : v.natAbs / 18446744073709551616 = 0 := by omega
        have hv2 : v.natAbs % 18446744073709551616 = v.natAbs := by omega
        have hE : roundE v.natAbs d = 0 := by simp only [roundE, if_neg hz]; rw [if_neg (by omega)]
        have hV : roundV v.natAbs d = rnd v.natAbs d := by simp only [roundV, if_neg hz]; rw [if_neg (by omega)]
        have hR := f_ref01_Round v.natAbs d (by omega) (by omega)
        rw [hE, hV, WV, hv1, hv2] at hR
        have hw : rnd v.natAbs d * d / 18446744073709551616 = 0 := by omega
        have hw2 : rnd v.natAbs d * d % 18446744073709551616 = rnd v.natAbs d * d := by omega
        simp only [go_sem, ↓reduceIte, Nat.reduceEqDiff, Nat.reduceAdd, Nat.reduceLeDiff, reduceCtorEq, Int.natCast_nonneg, List.getElem?_map, Int.toNat_natCast, List.length_map, List.replicate_zero, Bool.bne_false, Bool.bne_true, Nat.reduceLT, Int.reduceLT, Int.reduceLE, Int.reduceEq, Int.reduceToNat, List.length_replicate, List.isEmpty_cons, List.isEmpty_nil, Nat.le_refl, Int.le_refl, Int.sub_zero, Int.sub_self, ne_eq, List.length_append, Int.toNat_zero, Nat.zero_mul, Nat.mul_one, Nat.one_mul, Nat.reduceMul]
        refine Cl_plain (f_ref02_size _ h1 h2) ?_
        simp only [go_sem, ↓reduceIte, Nat.reduceEqDiff, Nat.reduceAdd, Nat.reduceLeDiff, reduceCtorEq, Int.natCast_nonneg, List.getElem?_map, Int.toNat_natCast, List.length_map, List.replicate_zero, Bool.bne_false, Bool.bne_true, Nat.reduceLT, Int.reduceLT, Int.reduceLE, Int.reduceEq, Int.reduceToNat, List.length_replicate, List.isEmpty_cons, List.isEmpty_nil, Nat.le_refl, Int.le_refl, Int.sub_zero, Int.sub_self, ne_eq, List.length_append, Int.toNat_zero, Nat.zero_mul, Nat.mul_one, Nat.one_mul, Nat.reduceMul]
        refine Cl_plain hR ?_
        simp only [go_sem, ↓reduceIte, Nat.reduceEqDiff, Nat.reduceAdd, Nat.reduceLeDiff, reduceCtorEq, Int.natCast_nonneg, List.getElem?_map, Int.toNat_natCast, List.length_map, List.replicate_zero, Bool.bne_false, Bool.bne_true, Nat.reduceLT, Int.reduceLT, Int.reduceLE, Int.reduceEq, Int.reduceToNat, List.length_replicate, List.isEmpty_cons, List.isEmpty_nil, Nat.le_refl, Int.le_refl, Int.sub_zero, Int.sub_self, ne_eq, List.length_append, Int.toNat_zero, Nat.zero_mul, Nat.mul_one, Nat.one_mul, Nat.reduceMul]
        refine Cl_plain (f_ref01_Mul _ d hrs (by omega)) ?_
        simp only [go_sem, hw, hw2, ↓reduceIte, Nat.reduceEqDiff, Nat.reduceAdd, Nat.reduceLeDiff, reduceCtorEq, Int.natCast_nonneg, List.getElem?_map, Int.toNat_natCast, List.length_map, List.replicate_zero, Bool.bne_false, Bool.bne_true, Nat.reduceLT, Int.reduceLT, Int.reduceLE, Int.reduceEq, Int.reduceToNat, List.length_replicate, List.isEmpty_cons, List.isEmpty_nil, Nat.le_refl, Int.le_refl, Int.sub_zero, Int.sub_self, ne_eq, List.length_append, Int.toNat_zero, Nat.zero_mul, Nat.mul_one, Nat.one_mul, Nat.reduceMul]
        refine Cl_plain (f_ref02_signed _ _ hrl) ?_
        simp only [go_sem, ↓reduceIte, Nat.reduceEqDiff, Nat.reduceAdd, Nat.reduceLeDiff, reduceCtorEq, Int.natCast_nonneg, List.getElem?_map, Int.toNat_natCast, List.length_map, List.replicate_zero, Bool.bne_false, Bool.bne_true, Nat.reduceLT, Int.reduceLT, Int.reduceLE, Int.reduceEq, Int.reduceToNat, List.length_replicate, List.isEmpty_cons, List.isEmpty_nil, Nat.le_refl, Int.le_refl, Int.sub_zero, Int.sub_self, ne_eq, List.length_append, Int.toNat_zero, Nat.zero_mul, Nat.mul_one, Nat.one_mul, Nat.reduceMul]
        refine wends (by first | exact Or.inl rfl | exact Or.inr rfl) ?_ (by first | rfl | simp [AV.ids, idsL])
        simp only [go_sem, r_ref02_Round, neg, ↓reduceIte, Nat.reduceEqDiff, Nat.reduceAdd, Nat.reduceLeDiff, reduceCtorEq, Int.natCast_nonneg, List.getElem?_map, Int.toNat_natCast, List.length_map, List.replicate_zero, Bool.bne_false, Bool.bne_true, Nat.reduceLT, Int.reduceLT, Int.reduceLE, Int.reduceEq, Int.reduceToNat, List.length_replicate, List.isEmpty_cons, List.isEmpty_nil, Nat.le_refl, Int.le_refl, Int.sub_zero, Int.sub_self, ne_eq, List.length_append, Int.toNat_zero, Nat.zero_mul, Nat.mul_one, Nat.one_mul, Nat.reduceMul]

end Go.Proofs.Ytkfobemhnonejaa
