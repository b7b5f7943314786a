/- Contracts of the laws on products and roots with six decimals. No statement of the seat is proved here. -/
import Derived.Test.YtkfobemhnonejaaFxLaw
set_option linter.unusedSimpArgs false
set_option linter.unusedVariables false
namespace Go.Proofs.Ytkfobemhnonejaa
open Go Go.Sx

theorem f_law02_size (v : Int) (h1 : -9223372036854775808 ≤ v) (h2 : v < 9223372036854775808) : Meets Try.prog E0 n_law02_size [I v] [] (U ((v.natAbs : Nat) : Int)) [] := by
  refine m_law02_size (by simp) (shut0 rfl) (shut0 rfl) (by simp) (by simp [keysOf]) ?_
  by_cases h : v < 0
  · have g1 : IntKind.u64.wrap (IntKind.i64.wrap (0 - v)) = ((v.natAbs : Nat) : Int) := by rw [wrap_i64, wrap_u64]; split <;> omega
    repeat' (first | (simp only [go_sem, s_law02_size, g1, ↓reduceIte, Nat.reduceEqDiff, Nat.reduceAdd, Nat.reduceLeDiff, reduceCtorEq, Int.natCast_nonneg, List.getElem?_map, Int.toNat_natCast, List.length_map, List.replicate_zero, Bool.bne_false, Bool.bne_true, Nat.reduceLT, Int.reduceLT, Int.reduceLE, Int.reduceEq, Int.reduceToNat, List.length_replicate, List.isEmpty_cons, List.isEmpty_nil, Nat.le_refl, Int.le_refl, Int.sub_zero, Int.sub_self, ne_eq, List.length_append, Int.toNat_zero, Nat.zero_mul, Nat.mul_one, Nat.one_mul, Nat.reduceMul, *]) | (simp (disch := omega) only [s_law02_size, g1, wrap_i64_of, i64_quo, i64_rem, sdiv, smod]) | ((with_reducible refine W_split (by with_unfolding_all exact rfl) (fun hsp => ?_) (fun hsp => ?_)) <;> (try simp only [Bool.not_true, Bool.not_false, decide_eq_true_eq, decide_eq_false_iff_not, Bool.not_eq_true', Bool.not_eq_false', not_false_eq_true] at hsp)) | ((with_reducible refine R_split (by with_unfolding_all exact rfl) (fun hsp => ?_) (fun hsp => ?_)) <;> (try simp only [Bool.not_true, Bool.not_false, decide_eq_true_eq, decide_eq_false_iff_not, Bool.not_eq_true', Bool.not_eq_false', not_false_eq_true] at hsp)) | (with_reducible refine R_fin (by repeat' (first | exact okp0 | refine okp rfl rfl rfl ?_)) ?_))
    refine wends (by first | exact Or.inl rfl | exact Or.inr rfl) ?_ (by first | rfl | simp [AV.ids, idsL])
    simp only [go_sem, r_law02_size, g1, ↓reduceIte, Nat.reduceEqDiff, Nat.reduceAdd, Nat.reduceLeDiff, reduceCtorEq, Int.natCast_nonneg, List.getElem?_map, Int.toNat_natCast, List.length_map, List.replicate_zero, Bool.bne_false, Bool.bne_true, Nat.reduceLT, Int.reduceLT, Int.reduceLE, Int.reduceEq, Int.reduceToNat, List.length_replicate, List.isEmpty_cons, List.isEmpty_nil, Nat.le_refl, Int.le_refl, Int.sub_zero, Int.sub_self, ne_eq, List.length_append, Int.toNat_zero, Nat.zero_mul, Nat.mul_one, Nat.one_mul, Nat.reduceMul]
  · have g1 : IntKind.u64.wrap v = ((v.natAbs : Nat) : Int) := by rw [wrap_u64]; omega
    repeat' (first | (simp only [go_sem, s_law02_size, g1, ↓reduceIte, Nat.reduceEqDiff, Nat.reduceAdd, Nat.reduceLeDiff, reduceCtorEq, Int.natCast_nonneg, List.getElem?_map, Int.toNat_natCast, List.length_map, List.replicate_zero, Bool.bne_false, Bool.bne_true, Nat.reduceLT, Int.reduceLT, Int.reduceLE, Int.reduceEq, Int.reduceToNat, List.length_replicate, List.isEmpty_cons, List.isEmpty_nil, Nat.le_refl, Int.le_refl, Int.sub_zero, Int.sub_self, ne_eq, List.length_append, Int.toNat_zero, Nat.zero_mul, Nat.mul_one, Nat.one_mul, Nat.reduceMul, *]) | (simp (disch := omega) only [s_law02_size, g1, wrap_i64_of, i64_quo, i64_rem, sdiv, smod]) | ((with_reducible refine W_split (by with_unfolding_all exact rfl) (fun hsp => ?_) (fun hsp => ?_)) <;> (try simp only [Bool.not_true, Bool.not_false, decide_eq_true_eq, decide_eq_false_iff_not, Bool.not_eq_true', Bool.not_eq_false', not_false_eq_true] at hsp)) | ((with_reducible refine R_split (by with_unfolding_all exact rfl) (fun hsp => ?_) (fun hsp => ?_)) <;> (try simp only [Bool.not_true, Bool.not_false, decide_eq_true_eq, decide_eq_false_iff_not, Bool.not_eq_true', Bool.not_eq_false', not_false_eq_true] at hsp)) | (with_reducible refine R_fin (by repeat' (first | exact okp0 | refine okp rfl rfl rfl ?_)) ?_))
    refine wends (by first | exact Or.inl rfl | exact Or.inr rfl) ?_ (by first | rfl | simp [AV.ids, idsL])
    simp only [go_sem, r_law02_size, *, ↓reduceIte, Nat.reduceEqDiff, Nat.reduceAdd, Nat.reduceLeDiff, reduceCtorEq, Int.natCast_nonneg, List.getElem?_map, Int.toNat_natCast, List.length_map, List.replicate_zero, Bool.bne_false, Bool.bne_true, Nat.reduceLT, Int.reduceLT, Int.reduceLE, Int.reduceEq, Int.reduceToNat, List.length_replicate, List.isEmpty_cons, List.isEmpty_nil, Nat.le_refl, Int.le_refl, Int.sub_zero, Int.sub_self, ne_eq, List.length_append, Int.toNat_zero, Nat.zero_mul, Nat.mul_one, Nat.one_mul, Nat.reduceMul]

theorem rnd_bd (n : Nat) : n < 500000 + rnd n 1000000 * 1000000 ∧ rnd n 1000000 * 1000000 ≤ 500000 + n := by
  unfold rnd
  split <;> omega

theorem sgn_none {r n : Nat} {b : Bool} (h : sgnM r b = none) (h2 : r * 1000000 ≤ 500000 + n) : 9223372036854775807500000 ≤ n := by
  unfold sgnM at h
  by_cases hr : r < 9223372036854775808
  · rw [if_pos hr] at h; cases h
  · omega

theorem sgn_some {r n : Nat} {b : Bool} {z : Int} (h : sgnM r b = some z) (h1 : n < 500000 + r * 1000000) (h2 : r * 1000000 ≤ 500000 + n) : n < 500000 + z.natAbs * 1000000 ∧ z.natAbs * 1000000 ≤ 500000 + n ∧ (z = 0 ∨ neg z = b) := by
  unfold sgnM at h
  by_cases hr : r < 9223372036854775808
  · rw [if_pos hr] at h
    injection h with h
    cases b
    · rw [if_neg (by decide)] at h
      have hz : z.natAbs = r := by omega
      rw [hz]
      refine ⟨h1, h2, Or.inr ?_⟩
      simp only [neg, decide_eq_false_iff_not]; omega
    · rw [if_pos rfl] at h
      have hz : z.natAbs = r := by omega
      rw [hz]
      refine ⟨h1, h2, ?_⟩
      by_cases h0 : r = 0
      · exact Or.inl (by omega)
      · exact Or.inr (by simp only [neg, decide_eq_true_eq]; omega)
  · rw [if_neg hr] at h; cases h

theorem mul_none {v u : Int} (h : mulM (some v) (some u) = none) : 9223372036854775807500000 ≤ v.natAbs * u.natAbs := by
  simp only [mulM, quoM] at h
  rw [if_neg (by decide)] at h
  exact sgn_none h (rnd_bd _).2

theorem mul_some {v u z : Int} (h : mulM (some v) (some u) = some z) : v.natAbs * u.natAbs < 500000 + z.natAbs * 1000000 ∧ z.natAbs * 1000000 ≤ 500000 + v.natAbs * u.natAbs ∧ (z = 0 ∨ neg z = (neg v != neg u)) := by
  simp only [mulM, quoM] at h
  rw [if_neg (by decide)] at h
  exact sgn_some h (rnd_bd _).1 (rnd_bd _).2

theorem wv_small {n : Nat} (h : n < 18446744073709551616) : WV n = .ag [U ((0 : Nat) : Int), U ((n : Nat) : Int)] := by
  simp only [WV]; rw [Nat.div_eq_of_lt h, Nat.mod_eq_of_lt h]

theorem f_law02_FixedNear (x y : Bool) (v u : Int) (h1 : -9223372036854775808 ≤ v) (h2 : v < 9223372036854775808) (h3 : -9223372036854775808 ≤ u) (h4 : u < 9223372036854775808) : Meets Try.prog E0 n_law02_FixedNear [NV x v, NV y u] [] (Bo true) [] := by
  refine m_law02_FixedNear (by simp) (shut0 rfl) (shut0 rfl) (by simp) (by simp [keysOf]) ?_
  have b1 := f_fixed_Mul x y v u h1 h2 h3 h4
  have b2 := f_ref02_Right x v h1
  have b3 := f_ref02_Right y u h3
  cases ha : okN x v
  · have hR := right_f x v (okN_f ha)
    rw [okN_f ha, show mulM none (valM y u) = none from rfl] at b1
    generalize (if x then decide (v = 0) else decide (-9223372036854775808 < v)) = R at *
    generalize (if y then decide (u = 0) else decide (-9223372036854775808 < u)) = S at *
    clear h1 h2 h3 h4 ha
    cases x <;> cases R <;> first | (simp at hR; done) | skip
    all_goals
      cases S <;> cases y
    all_goals
      repeat' (first | (with_reducible refine Cl_plain (f_law02_alive) ?_) | (with_reducible refine Cl_plain (b1) ?_) | (with_reducible refine Cl_plain (b2) ?_) | (with_reducible refine Cl_plain (b3) ?_) | (simp only [go_sem, s_law02_FixedNear, NO_none, ↓reduceIte, Nat.reduceEqDiff, Nat.reduceAdd, Nat.reduceLeDiff, reduceCtorEq, Int.natCast_nonneg, List.getElem?_map, Int.toNat_natCast, List.length_map, List.replicate_zero, Bool.bne_false, Bool.bne_true, Nat.reduceLT, Int.reduceLT, Int.reduceLE, Int.reduceEq, Int.reduceToNat, List.length_replicate, List.isEmpty_cons, List.isEmpty_nil, Nat.le_refl, Int.le_refl, Int.sub_zero, Int.sub_self, ne_eq, List.length_append, Int.toNat_zero, Nat.zero_mul, Nat.mul_one, Nat.one_mul, Nat.reduceMul, *]) | (simp (disch := omega) only [s_law02_FixedNear, NO_none, wrap_i64_of, i64_quo, i64_rem, sdiv, smod]) | ((with_reducible refine W_split (by with_unfolding_all exact rfl) (fun hsp => ?_) (fun hsp => ?_)) <;> (try simp only [Bool.not_true, Bool.not_false, decide_eq_true_eq, decide_eq_false_iff_not, Bool.not_eq_true', Bool.not_eq_false', not_false_eq_true] at hsp)) | ((with_reducible refine R_split (by with_unfolding_all exact rfl) (fun hsp => ?_) (fun hsp => ?_)) <;> (try simp only [Bool.not_true, Bool.not_false, decide_eq_true_eq, decide_eq_false_iff_not, Bool.not_eq_true', Bool.not_eq_false', not_false_eq_true] at hsp)) | (with_reducible refine R_fin (by repeat' (first | exact okp0 | refine okp rfl rfl rfl ?_)) ?_))
      refine wends (by first | exact Or.inl rfl | exact Or.inr rfl) ?_ (by first | rfl | simp [AV.ids, idsL])
      simp only [go_sem, r_law02_FixedNear, ↓reduceIte, Nat.reduceEqDiff, Nat.reduceAdd, Nat.reduceLeDiff, reduceCtorEq, Int.natCast_nonneg, List.getElem?_map, Int.toNat_natCast, List.length_map, List.replicate_zero, Bool.bne_false, Bool.bne_true, Nat.reduceLT, Int.reduceLT, Int.reduceLE, Int.reduceEq, Int.reduceToNat, List.length_replicate, List.isEmpty_cons, List.isEmpty_nil, Nat.le_refl, Int.le_refl, Int.sub_zero, Int.sub_self, ne_eq, List.length_append, Int.toNat_zero, Nat.zero_mul, Nat.mul_one, Nat.one_mul, Nat.reduceMul]
  · obtain ⟨e1, rfl, e3⟩ := okN_t ha
    simp only [Bool.false_eq_true, if_false, decide_eq_true e3] at b2
    cases hb : okN y u
    · have hR := right_f y u (okN_f hb)
      rw [e1, okN_f hb, show mulM (some v) none = none from rfl] at b1
      generalize (if y then decide (u = 0) else decide (-9223372036854775808 < u)) = S at *
      clear h1 h2 h3 h4 ha hb e1
      cases y <;> cases S <;> first | (simp at hR; done) | skip
      all_goals
        repeat' (first | (with_reducible refine Cl_plain (f_law02_alive) ?_) | (with_reducible refine Cl_plain (b1) ?_) | (with_reducible refine Cl_plain (b2) ?_) | (with_reducible refine Cl_plain (b3) ?_) | (simp only [go_sem, s_law02_FixedNear, NO_none, ↓reduceIte, Nat.reduceEqDiff, Nat.reduceAdd, Nat.reduceLeDiff, reduceCtorEq, Int.natCast_nonneg, List.getElem?_map, Int.toNat_natCast, List.length_map, List.replicate_zero, Bool.bne_false, Bool.bne_true, Nat.reduceLT, Int.reduceLT, Int.reduceLE, Int.reduceEq, Int.reduceToNat, List.length_replicate, List.isEmpty_cons, List.isEmpty_nil, Nat.le_refl, Int.le_refl, Int.sub_zero, Int.sub_self, ne_eq, List.length_append, Int.toNat_zero, Nat.zero_mul, Nat.mul_one, Nat.one_mul, Nat.reduceMul, *]) | (simp (disch := omega) only [s_law02_FixedNear, NO_none, wrap_i64_of, i64_quo, i64_rem, sdiv, smod]) | ((with_reducible refine W_split (by with_unfolding_all exact rfl) (fun hsp => ?_) (fun hsp => ?_)) <;> (try simp only [Bool.not_true, Bool.not_false, decide_eq_true_eq, decide_eq_false_iff_not, Bool.not_eq_true', Bool.not_eq_false', not_false_eq_true] at hsp)) | ((with_reducible refine R_split (by with_unfolding_all exact rfl) (fun hsp => ?_) (fun hsp => ?_)) <;> (try simp only [Bool.not_true, Bool.not_false, decide_eq_true_eq, decide_eq_false_iff_not, Bool.not_eq_true', Bool.not_eq_false', not_false_eq_true] at hsp)) | (with_reducible refine R_fin (by repeat' (first | exact okp0 | refine okp rfl rfl rfl ?_)) ?_))
        refine wends (by first | exact Or.inl rfl | exact Or.inr rfl) ?_ (by first | rfl | simp [AV.ids, idsL])
        simp only [go_sem, r_law02_FixedNear, ↓reduceIte, Nat.reduceEqDiff, Nat.reduceAdd, Nat.reduceLeDiff, reduceCtorEq, Int.natCast_nonneg, List.getElem?_map, Int.toNat_natCast, List.length_map, List.replicate_zero, Bool.bne_false, Bool.bne_true, Nat.reduceLT, Int.reduceLT, Int.reduceLE, Int.reduceEq, Int.reduceToNat, List.length_replicate, List.isEmpty_cons, List.isEmpty_nil, Nat.le_refl, Int.le_refl, Int.sub_zero, Int.sub_self, ne_eq, List.length_append, Int.toNat_zero, Nat.zero_mul, Nat.mul_one, Nat.one_mul, Nat.reduceMul]
    · obtain ⟨g1, rfl, g3⟩ := okN_t hb
      simp only [Bool.false_eq_true, if_false, decide_eq_true g3] at b3
      rw [e1, g1] at b1
      have s1 := f_law02_size v h1 h2
      have s2 := f_law02_size u h3 h4
      have v1 : v.natAbs ≤ 9223372036854775808 := by omega
      have v2 : u.natAbs ≤ 9223372036854775808 := by omega
      have hn := Nat.mul_le_mul v1 v2
      have m1 := f_ref01_Mul v.natAbs u.natAbs (by omega) (by omega)
      have w5 : WV 500000 = .ag [U ((0 : Nat) : Int), U ((500000 : Nat) : Int)] := wv_small (by decide)
      cases hm : mulM (some v) (some u) with
      | none =>
        have hl := mul_none hm
        rw [hm] at b1
        generalize v.natAbs * u.natAbs = n at *
        have m2 := f_ref01_Mul 9223372036854775807 1000000 (by decide) (by decide)
        obtain ⟨h, hh⟩ : ∃ h, h = 500000 := ⟨_, rfl⟩
        obtain ⟨k, hk⟩ : ∃ k, k = 9223372036854775807 * 1000000 := ⟨_, rfl⟩
        rw [← hk] at m2
        have m3 := f_ref01_Add k h (by omega) (by omega)
        have m4 := f_ref01_Less n ((k + h) % 340282366920938463463374607431768211456)
        rw [decide_eq_false (by omega)] at m4
        rw [hh, w5] at m3
        rw [hh] at m4
        clear h1 h2 h3 h4 hm hl e1 g1 hn v1 v2 ha hb hk hh
        repeat' (first | (with_reducible refine Cl_plain (f_law02_alive) ?_) | (with_reducible refine Cl_plain (b1) ?_) | (with_reducible refine Cl_plain (b2) ?_) | (with_reducible refine Cl_plain (b3) ?_) | (with_reducible refine Cl_plain (s1) ?_) | (with_reducible refine Cl_plain (s2) ?_) | (with_reducible refine Cl_plain (m1) ?_) | (with_reducible refine Cl_plain (m2) ?_) | (with_reducible refine Cl_plain (m3) ?_) | (with_reducible refine Cl_plain (m4) ?_) | (simp only [go_sem, s_law02_FixedNear, NO_none, ↓reduceIte, Nat.reduceEqDiff, Nat.reduceAdd, Nat.reduceLeDiff, reduceCtorEq, Int.natCast_nonneg, List.getElem?_map, Int.toNat_natCast, List.length_map, List.replicate_zero, Bool.bne_false, Bool.bne_true, Nat.reduceLT, Int.reduceLT, Int.reduceLE, Int.reduceEq, Int.reduceToNat, List.length_replicate, List.isEmpty_cons, List.isEmpty_nil, Nat.le_refl, Int.le_refl, Int.sub_zero, Int.sub_self, ne_eq, List.length_append, Int.toNat_zero, Nat.zero_mul, Nat.mul_one, Nat.one_mul, Nat.reduceMul, *]) | (simp (disch := omega) only [s_law02_FixedNear, NO_none, wrap_i64_of, i64_quo, i64_rem, sdiv, smod]) | ((with_reducible refine W_split (by with_unfolding_all exact rfl) (fun hsp => ?_) (fun hsp => ?_)) <;> (try simp only [Bool.not_true, Bool.not_false, decide_eq_true_eq, decide_eq_false_iff_not, Bool.not_eq_true', Bool.not_eq_false', not_false_eq_true] at hsp)) | ((with_reducible refine R_split (by with_unfolding_all exact rfl) (fun hsp => ?_) (fun hsp => ?_)) <;> (try simp only [Bool.not_true, Bool.not_false, decide_eq_true_eq, decide_eq_false_iff_not, Bool.not_eq_true', Bool.not_eq_false', not_false_eq_true] at hsp)) | (with_reducible refine R_fin (by repeat' (first | exact okp0 | refine okp rfl rfl rfl ?_)) ?_))
        refine wends (by first | exact Or.inl rfl | exact Or.inr rfl) ?_ (by first | rfl | simp [AV.ids, idsL])
        simp only [go_sem, r_law02_FixedNear, ↓reduceIte, Nat.reduceEqDiff, Nat.reduceAdd, Nat.reduceLeDiff, reduceCtorEq, Int.natCast_nonneg, List.getElem?_map, Int.toNat_natCast, List.length_map, List.replicate_zero, Bool.bne_false, Bool.bne_true, Nat.reduceLT, Int.reduceLT, Int.reduceLE, Int.reduceEq, Int.reduceToNat, List.length_replicate, List.isEmpty_cons, List.isEmpty_nil, Nat.le_refl, Int.le_refl, Int.sub_zero, Int.sub_self, ne_eq, List.length_append, Int.toNat_zero, Nat.zero_mul, Nat.mul_one, Nat.one_mul, Nat.reduceMul]
      | some z =>
        obtain ⟨q1, q2, q3⟩ := mul_some hm
        have hz := mulM_rt _ _ z hm
        have s3 := f_law02_size z (by omega) hz.2
        have z1 : z.natAbs < 9223372036854775808 := by omega
        rw [hm] at b1
        generalize v.natAbs * u.natAbs = n at *
        have m2 := f_ref01_Mul z.natAbs 1000000 (by omega) (by decide)
        obtain ⟨h, hh⟩ : ∃ h, h = 500000 := ⟨_, rfl⟩
        obtain ⟨k, hk⟩ : ∃ k, z.natAbs * 1000000 = k := ⟨_, rfl⟩
        rw [hk] at m2 q1 q2
        rw [← hh] at q1 q2
        have m3 := f_ref01_Add k h (by omega) (by omega)
        have m4 := f_ref01_Add n h (by omega) (by omega)
        rw [Nat.mod_eq_of_lt (by omega)] at m3 m4
        have m5 := f_ref01_Less n (k + h)
        rw [decide_eq_true (by omega)] at m5
        have m6 := f_ref01_Less (n + h) k
        rw [decide_eq_false (by omega)] at m6
        rw [hh] at m3 m4 m5 m6
        rw [w5] at m3 m4
        have hq : (decide (z = 0) || decide (z < 0) == !(decide (v < 0) == decide (u < 0))) = true := by
          rcases q3 with q3 | q3
          · simp [q3]
          · have : decide (z < 0) = !(decide (v < 0) == decide (u < 0)) := q3
            rw [this]; simp
        clear hk hh
        cases hz0 : decide (z = 0)
        · rw [hz0, Bool.false_or] at hq
          clear h1 h2 h3 h4 hm e1 g1 hn v1 v2 ha hb q1 q2 q3 hz z1
          repeat' (first | (with_reducible refine Cl_plain (f_law02_alive) ?_) | (with_reducible refine Cl_plain (b1) ?_) | (with_reducible refine Cl_plain (b2) ?_) | (with_reducible refine Cl_plain (b3) ?_) | (with_reducible refine Cl_plain (s1) ?_) | (with_reducible refine Cl_plain (s2) ?_) | (with_reducible refine Cl_plain (s3) ?_) | (with_reducible refine Cl_plain (m1) ?_) | (with_reducible refine Cl_plain (m2) ?_) | (with_reducible refine Cl_plain (m3) ?_) | (with_reducible refine Cl_plain (m4) ?_) | (with_reducible refine Cl_plain (m5) ?_) | (with_reducible refine Cl_plain (m6) ?_) | (simp only [go_sem, s_law02_FixedNear, NO_some, hq, ↓reduceIte, Nat.reduceEqDiff, Nat.reduceAdd, Nat.reduceLeDiff, reduceCtorEq, Int.natCast_nonneg, List.getElem?_map, Int.toNat_natCast, List.length_map, List.replicate_zero, Bool.bne_false, Bool.bne_true, Nat.reduceLT, Int.reduceLT, Int.reduceLE, Int.reduceEq, Int.reduceToNat, List.length_replicate, List.isEmpty_cons, List.isEmpty_nil, Nat.le_refl, Int.le_refl, Int.sub_zero, Int.sub_self, ne_eq, List.length_append, Int.toNat_zero, Nat.zero_mul, Nat.mul_one, Nat.one_mul, Nat.reduceMul, *]) | (simp (disch := omega) only [s_law02_FixedNear, NO_some, hq, wrap_i64_of, i64_quo, i64_rem, sdiv, smod]) | ((with_reducible refine W_split (by with_unfolding_all exact rfl) (fun hsp => ?_) (fun hsp => ?_)) <;> (try simp only [Bool.not_true, Bool.not_false, decide_eq_true_eq, decide_eq_false_iff_not, Bool.not_eq_true', Bool.not_eq_false', not_false_eq_true] at hsp)) | ((with_reducible refine R_split (by with_unfolding_all exact rfl) (fun hsp => ?_) (fun hsp => ?_)) <;> (try simp only [Bool.not_true, Bool.not_false, decide_eq_true_eq, decide_eq_false_iff_not, Bool.not_eq_true', Bool.not_eq_false', not_false_eq_true] at hsp)) | (with_reducible refine R_fin (by repeat' (first | exact okp0 | refine okp rfl rfl rfl ?_)) ?_))
          refine wends (by first | exact Or.inl rfl | exact Or.inr rfl) ?_ (by first | rfl | simp [AV.ids, idsL])
          simp only [go_sem, r_law02_FixedNear, ↓reduceIte, Nat.reduceEqDiff, Nat.reduceAdd, Nat.reduceLeDiff, reduceCtorEq, Int.natCast_nonneg, List.getElem?_map, Int.toNat_natCast, List.length_map, List.replicate_zero, Bool.bne_false, Bool.bne_true, Nat.reduceLT, Int.reduceLT, Int.reduceLE, Int.reduceEq, Int.reduceToNat, List.length_replicate, List.isEmpty_cons, List.isEmpty_nil, Nat.le_refl, Int.le_refl, Int.sub_zero, Int.sub_self, ne_eq, List.length_append, Int.toNat_zero, Nat.zero_mul, Nat.mul_one, Nat.one_mul, Nat.reduceMul]
        · clear h1 h2 h3 h4 hm e1 g1 hn v1 v2 ha hb q1 q2 q3 hz z1 hq
          repeat' (first | (with_reducible refine Cl_plain (f_law02_alive) ?_) | (with_reducible refine Cl_plain (b1) ?_) | (with_reducible refine Cl_plain (b2) ?_) | (with_reducible refine Cl_plain (b3) ?_) | (with_reducible refine Cl_plain (s1) ?_) | (with_reducible refine Cl_plain (s2) ?_) | (with_reducible refine Cl_plain (s3) ?_) | (with_reducible refine Cl_plain (m1) ?_) | (with_reducible refine Cl_plain (m2) ?_) | (with_reducible refine Cl_plain (m3) ?_) | (with_reducible refine Cl_plain (m4) ?_) | (with_reducible refine Cl_plain (m5) ?_) | (with_reducible refine Cl_plain (m6) ?_) | (simp only [go_sem, s_law02_FixedNear, NO_some, ↓reduceIte, Nat.reduceEqDiff, Nat.reduceAdd, Nat.reduceLeDiff, reduceCtorEq, Int.natCast_nonneg, List.getElem?_map, Int.toNat_natCast, List.length_map, List.replicate_zero, Bool.bne_false, Bool.bne_true, Nat.reduceLT, Int.reduceLT, Int.reduceLE, Int.reduceEq, Int.reduceToNat, List.length_replicate, List.isEmpty_cons, List.isEmpty_nil, Nat.le_refl, Int.le_refl, Int.sub_zero, Int.sub_self, ne_eq, List.length_append, Int.toNat_zero, Nat.zero_mul, Nat.mul_one, Nat.one_mul, Nat.reduceMul, *]) | (simp (disch := omega) only [s_law02_FixedNear, NO_some, wrap_i64_of, i64_quo, i64_rem, sdiv, smod]) | ((with_reducible refine W_split (by with_unfolding_all exact rfl) (fun hsp => ?_) (fun hsp => ?_)) <;> (try simp only [Bool.not_true, Bool.not_false, decide_eq_true_eq, decide_eq_false_iff_not, Bool.not_eq_true', Bool.not_eq_false', not_false_eq_true] at hsp)) | ((with_reducible refine R_split (by with_unfolding_all exact rfl) (fun hsp => ?_) (fun hsp => ?_)) <;> (try simp only [Bool.not_true, Bool.not_false, decide_eq_true_eq, decide_eq_false_iff_not, Bool.not_eq_true', Bool.not_eq_false', not_false_eq_true] at hsp)) | (with_reducible refine R_fin (by repeat' (first | exact okp0 | refine okp rfl rfl rfl ?_)) ?_))
          refine wends (by first | exact Or.inl rfl | exact Or.inr rfl) ?_ (by first | rfl | simp [AV.ids, idsL])
          simp only [go_sem, r_law02_FixedNear, ↓reduceIte, Nat.reduceEqDiff, Nat.reduceAdd, Nat.reduceLeDiff, reduceCtorEq, Int.natCast_nonneg, List.getElem?_map, Int.toNat_natCast, List.length_map, List.replicate_zero, Bool.bne_false, Bool.bne_true, Nat.reduceLT, Int.reduceLT, Int.reduceLE, Int.reduceEq, Int.reduceToNat, List.length_replicate, List.isEmpty_cons, List.isEmpty_nil, Nat.le_refl, Int.le_refl, Int.sub_zero, Int.sub_self, ne_eq, List.length_append, Int.toNat_zero, Nat.zero_mul, Nat.mul_one, Nat.one_mul, Nat.reduceMul]

theorem f_law02_FixedRoot (x : Bool) (v : Int) (h1 : -9223372036854775808 ≤ v) (h2 : v < 9223372036854775808) : Meets Try.prog E0 n_law02_FixedRoot [NV x v] [] (Bo true) [] := by
  refine m_law02_FixedRoot (by simp) (shut0 rfl) (shut0 rfl) (by simp) (by simp [keysOf]) ?_
  have b1 := f_fixed_Root x v h1 h2
  have b2 := f_ref02_Right x v h1
  cases ha : okN x v
  · have hR := right_f x v (okN_f ha)
    rw [okN_f ha, show rootM none = none from rfl] at b1
    generalize (if x then decide (v = 0) else decide (-9223372036854775808 < v)) = R at *
    clear h1 h2 ha
    cases x <;> cases R <;> first | (simp at hR; done) | skip
    all_goals
      repeat' (first | (with_reducible refine Cl_plain (f_law02_alive) ?_) | (with_reducible refine Cl_plain (b1) ?_) | (with_reducible refine Cl_plain (b2) ?_) | (simp only [go_sem, s_law02_FixedRoot, NO_none, ↓reduceIte, Nat.reduceEqDiff, Nat.reduceAdd, Nat.reduceLeDiff, reduceCtorEq, Int.natCast_nonneg, List.getElem?_map, Int.toNat_natCast, List.length_map, List.replicate_zero, Bool.bne_false, Bool.bne_true, Nat.reduceLT, Int.reduceLT, Int.reduceLE, Int.reduceEq, Int.reduceToNat, List.length_replicate, List.isEmpty_cons, List.isEmpty_nil, Nat.le_refl, Int.le_refl, Int.sub_zero, Int.sub_self, ne_eq, List.length_append, Int.toNat_zero, Nat.zero_mul, Nat.mul_one, Nat.one_mul, Nat.reduceMul, *]) | (simp (disch := omega) only [s_law02_FixedRoot, NO_none, wrap_i64_of, i64_quo, i64_rem, sdiv, smod]) | ((with_reducible refine W_split (by with_unfolding_all exact rfl) (fun hsp => ?_) (fun hsp => ?_)) <;> (try simp only [Bool.not_true, Bool.not_false, decide_eq_true_eq, decide_eq_false_iff_not, Bool.not_eq_true', Bool.not_eq_false', not_false_eq_true] at hsp)) | ((with_reducible refine R_split (by with_unfolding_all exact rfl) (fun hsp => ?_) (fun hsp => ?_)) <;> (try simp only [Bool.not_true, Bool.not_false, decide_eq_true_eq, decide_eq_false_iff_not, Bool.not_eq_true', Bool.not_eq_false', not_false_eq_true] at hsp)) | (with_reducible refine R_fin (by repeat' (first | exact okp0 | refine okp rfl rfl rfl ?_)) ?_))
      refine wends (by first | exact Or.inl rfl | exact Or.inr rfl) ?_ (by first | rfl | simp [AV.ids, idsL])
      simp only [go_sem, r_law02_FixedRoot, ↓reduceIte, Nat.reduceEqDiff, Nat.reduceAdd, Nat.reduceLeDiff, reduceCtorEq, Int.natCast_nonneg, List.getElem?_map, Int.toNat_natCast, List.length_map, List.replicate_zero, Bool.bne_false, Bool.bne_true, Nat.reduceLT, Int.reduceLT, Int.reduceLE, Int.reduceEq, Int.reduceToNat, List.length_replicate, List.isEmpty_cons, List.isEmpty_nil, Nat.le_refl, Int.le_refl, Int.sub_zero, Int.sub_self, ne_eq, List.length_append, Int.toNat_zero, Nat.zero_mul, Nat.mul_one, Nat.one_mul, Nat.reduceMul]
  · obtain ⟨e1, rfl, e3⟩ := okN_t ha
    simp only [Bool.false_eq_true, if_false, decide_eq_true e3] at b2
    rw [e1] at b1
    by_cases h0 : v < 0
    · rw [show rootM (some v) = none from if_pos h0] at b1
      have d0 := decide_eq_true h0
      clear h1 h2 ha e1 h0
      repeat' (first | (with_reducible refine Cl_plain (f_law02_alive) ?_) | (with_reducible refine Cl_plain (b1) ?_) | (with_reducible refine Cl_plain (b2) ?_) | (simp only [go_sem, s_law02_FixedRoot, NO_none, ↓reduceIte, Nat.reduceEqDiff, Nat.reduceAdd, Nat.reduceLeDiff, reduceCtorEq, Int.natCast_nonneg, List.getElem?_map, Int.toNat_natCast, List.length_map, List.replicate_zero, Bool.bne_false, Bool.bne_true, Nat.reduceLT, Int.reduceLT, Int.reduceLE, Int.reduceEq, Int.reduceToNat, List.length_replicate, List.isEmpty_cons, List.isEmpty_nil, Nat.le_refl, Int.le_refl, Int.sub_zero, Int.sub_self, ne_eq, List.length_append, Int.toNat_zero, Nat.zero_mul, Nat.mul_one, Nat.one_mul, Nat.reduceMul, *]) | (simp (disch := omega) only [s_law02_FixedRoot, NO_none, wrap_i64_of, i64_quo, i64_rem, sdiv, smod]) | ((with_reducible refine W_split (by with_unfolding_all exact rfl) (fun hsp => ?_) (fun hsp => ?_)) <;> (try simp only [Bool.not_true, Bool.not_false, decide_eq_true_eq, decide_eq_false_iff_not, Bool.not_eq_true', Bool.not_eq_false', not_false_eq_true] at hsp)) | ((with_reducible refine R_split (by with_unfolding_all exact rfl) (fun hsp => ?_) (fun hsp => ?_)) <;> (try simp only [Bool.not_true, Bool.not_false, decide_eq_true_eq, decide_eq_false_iff_not, Bool.not_eq_true', Bool.not_eq_false', not_false_eq_true] at hsp)) | (with_reducible refine R_fin (by repeat' (first | exact okp0 | refine okp rfl rfl rfl ?_)) ?_))
      refine wends (by first | exact Or.inl rfl | exact Or.inr rfl) ?_ (by first | rfl | simp [AV.ids, idsL])
      simp only [go_sem, r_law02_FixedRoot, ↓reduceIte, Nat.reduceEqDiff, Nat.reduceAdd, Nat.reduceLeDiff, reduceCtorEq, Int.natCast_nonneg, List.getElem?_map, Int.toNat_natCast, List.length_map, List.replicate_zero, Bool.bne_false, Bool.bne_true, Nat.reduceLT, Int.reduceLT, Int.reduceLE, Int.reduceEq, Int.reduceToNat, List.length_replicate, List.isEmpty_cons, List.isEmpty_nil, Nat.le_refl, Int.le_refl, Int.sub_zero, Int.sub_self, ne_eq, List.length_append, Int.toNat_zero, Nat.zero_mul, Nat.mul_one, Nat.one_mul, Nat.reduceMul]
    · have hlt : Nat.sqrt (v.natAbs * 1000000) < 4611686018427387904 := sqrt_lt (by omega)
      rw [show rootM (some v) = some ((Nat.sqrt (v.natAbs * 1000000) : Nat) : Int) from by
        unfold rootM; simp only; rw [if_neg h0, sgn_pos (by omega)]] at b1
      have l1 := Nat.sqrt_le (v.natAbs * 1000000)
      have l2 : v.natAbs * 1000000 < (Nat.sqrt (v.natAbs * 1000000) + 1) * (Nat.sqrt (v.natAbs * 1000000) + 1) := Nat.lt_succ_sqrt _
      have m1 := f_ref01_Mul v.natAbs 1000000 (by omega) (by decide)
      generalize Nat.sqrt (v.natAbs * 1000000) = r at *
      have m2 := f_ref01_Mul r r (by omega) (by omega)
      have m3 := f_ref01_Mul (r + 1) (r + 1) (by omega) (by omega)
      have m4 := f_ref01_Less (v.natAbs * 1000000) (r * r)
      rw [decide_eq_false (by omega)] at m4
      have m5 := f_ref01_Less (v.natAbs * 1000000) ((r + 1) * (r + 1))
      rw [decide_eq_true l2] at m5
      have d0 := decide_eq_false h0
      have d1 : decide ((r : Int) < 0) = false := decide_eq_false (by omega)
      have w1 : IntKind.u64.wrap (r : Int) = r := by rw [wrap_u64]; omega
      have w2 : IntKind.u64.wrap v = ((v.natAbs : Nat) : Int) := by rw [wrap_u64]; omega
      have w3 : (r + 1) % 18446744073709551616 = r + 1 := by omega
      generalize v.natAbs = n at *
      clear h1 h2 ha e1 h0 l1 l2 hlt
      repeat' (first | (with_reducible refine Cl_plain (f_law02_alive) ?_) | (with_reducible refine Cl_plain (b1) ?_) | (with_reducible refine Cl_plain (b2) ?_) | (with_reducible refine Cl_plain (m1) ?_) | (with_reducible refine Cl_plain (m2) ?_) | (with_reducible refine Cl_plain (m3) ?_) | (with_reducible refine Cl_plain (m4) ?_) | (with_reducible refine Cl_plain (m5) ?_) | (simp only [go_sem, s_law02_FixedRoot, NO_some, w1, w2, w3, ↓reduceIte, Nat.reduceEqDiff, Nat.reduceAdd, Nat.reduceLeDiff, reduceCtorEq, Int.natCast_nonneg, List.getElem?_map, Int.toNat_natCast, List.length_map, List.replicate_zero, Bool.bne_false, Bool.bne_true, Nat.reduceLT, Int.reduceLT, Int.reduceLE, Int.reduceEq, Int.reduceToNat, List.length_replicate, List.isEmpty_cons, List.isEmpty_nil, Nat.le_refl, Int.le_refl, Int.sub_zero, Int.sub_self, ne_eq, List.length_append, Int.toNat_zero, Nat.zero_mul, Nat.mul_one, Nat.one_mul, Nat.reduceMul, *]) | (simp (disch := omega) only [s_law02_FixedRoot, NO_some, w1, w2, w3, wrap_i64_of, i64_quo, i64_rem, sdiv, smod]) | ((with_reducible refine W_split (by with_unfolding_all exact rfl) (fun hsp => ?_) (fun hsp => ?_)) <;> (try simp only [Bool.not_true, Bool.not_false, decide_eq_true_eq, decide_eq_false_iff_not, Bool.not_eq_true', Bool.not_eq_false', not_false_eq_true] at hsp)) | ((with_reducible refine R_split (by with_unfolding_all exact rfl) (fun hsp => ?_) (fun hsp => ?_)) <;> (try simp only [Bool.not_true, Bool.not_false, decide_eq_true_eq, decide_eq_false_iff_not, Bool.not_eq_true', Bool.not_eq_false', not_false_eq_true] at hsp)) | (with_reducible refine R_fin (by repeat' (first | exact okp0 | refine okp rfl rfl rfl ?_)) ?_))
      refine wends (by first | exact Or.inl rfl | exact Or.inr rfl) ?_ (by first | rfl | simp [AV.ids, idsL])
      simp only [go_sem, r_law02_FixedRoot, ↓reduceIte, Nat.reduceEqDiff, Nat.reduceAdd, Nat.reduceLeDiff, reduceCtorEq, Int.natCast_nonneg, List.getElem?_map, Int.toNat_natCast, List.length_map, List.replicate_zero, Bool.bne_false, Bool.bne_true, Nat.reduceLT, Int.reduceLT, Int.reduceLE, Int.reduceEq, Int.reduceToNat, List.length_replicate, List.isEmpty_cons, List.isEmpty_nil, Nat.le_refl, Int.le_refl, Int.sub_zero, Int.sub_self, ne_eq, List.length_append, Int.toNat_zero, Nat.zero_mul, Nat.mul_one, Nat.one_mul, Nat.reduceMul]

end Go.Proofs.Ytkfobemhnonejaa
