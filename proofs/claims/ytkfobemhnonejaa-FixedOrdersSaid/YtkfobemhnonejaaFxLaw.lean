/- Contracts of the laws on numbers with six decimals. No statement of the seat is proved here. -/
import Derived.Test.YtkfobemhnonejaaFxRound
set_option linter.unusedSimpArgs false
set_option linter.unusedVariables false
namespace Go.Proofs.Ytkfobemhnonejaa
open Go Go.Sx

theorem addM_rt (a b : Option Int) : Rt (addM a b) := by
  intro z h
  cases a <;> cases b <;> simp only [addM] at h
  all_goals first | exact tell_range h | cases h

theorem quo_rt (x y d : Nat) (b : Bool) : Rt (quoM x y d b) := by
  intro z h
  simp only [quoM] at h
  split at h
  · cases h
  · exact sgn_range h

theorem mulM_rt (a b : Option Int) : Rt (mulM a b) := by
  intro z h
  cases a <;> cases b <;> simp only [mulM] at h
  all_goals first | exact quo_rt _ _ _ _ z h | cases h

theorem divM_rt (a b : Option Int) : Rt (divM a b) := by
  intro z h
  cases a <;> cases b <;> simp only [divM] at h
  all_goals first | exact quo_rt _ _ _ _ z h | cases h

theorem valM_rt {x : Bool} {v : Int} (h2 : v < 9223372036854775808) : Rt (valM x v) := fun _ h => val_range h2 h

theorem negM_rt {a : Option Int} (h : Rt a) : Rt (negM a) := by
  intro z hz
  simp only [negM, Option.map_eq_some_iff] at hz
  obtain ⟨y, hy, rfl⟩ := hz
  have := h y hy
  omega

theorem addM_comm (a b : Option Int) : addM a b = addM b a := by
  cases a <;> cases b <;> simp only [addM]
  rw [Int.add_comm]

theorem quo_comm (x y d : Nat) (b : Bool) : quoM x y d b = quoM y x d b := by
  unfold quoM; rw [Nat.mul_comm]

theorem mulM_comm (a b : Option Int) : mulM a b = mulM b a := by
  cases a <;> cases b <;> simp only [mulM]
  rename_i x y
  rw [quo_comm, show (neg x != neg y) = (neg y != neg x) from by cases neg x <;> cases neg y <;> rfl]

theorem sub_swap (a b : Option Int) : addM a (negM b) = negM (addM b (negM a)) := by
  cases a <;> cases b <;> simp only [addM, negM, Option.map_none, Option.map_some]
  rename_i x y
  simp only [tellM]
  split
  · rw [if_pos (by omega), Option.map_some]; congr 1; omega
  · rw [if_neg (by omega)]; rfl

theorem rnd_one (n : Nat) : rnd (n * 1000000) 1000000 = n := by
  unfold rnd
  rw [if_neg (by omega)]; omega

theorem sgn_self {z : Int} (h : -9223372036854775808 < z ∧ z < 9223372036854775808) (b : Bool) (hb : b = neg z) : sgnM z.natAbs b = some z := by
  rw [sgn_tell (z := z), tell_in h.1 h.2]
  subst hb
  by_cases h0 : z < 0
  · simp only [neg, decide_eq_true h0, if_true]; omega
  · simp only [neg, decide_eq_false h0, Bool.false_eq_true, if_false]; omega

theorem mul_one' {z : Int} (h : -9223372036854775808 < z ∧ z < 9223372036854775808) : mulM (some z) (some 1000000) = some z := by
  show (if (1000000 : Nat) = 0 then none else sgnM (rnd (z.natAbs * 1000000) 1000000) (neg z != neg 1000000)) = _
  rw [if_neg (by decide), rnd_one, sgn_self h]
  cases neg z <;> rfl

theorem div_one' {z : Int} (h : -9223372036854775808 < z ∧ z < 9223372036854775808) : divM (some z) (some 1000000) = some z := by
  show (if (1000000 : Nat) = 0 then none else sgnM (rnd (z.natAbs * 1000000) 1000000) (neg z != neg 1000000)) = _
  rw [if_neg (by decide), rnd_one, sgn_self h]
  cases neg z <;> rfl

theorem add_sub {z : Int} {b : Option Int} {s : Int} (h : -9223372036854775808 < z ∧ z < 9223372036854775808) (he : addM (some z) b = some s) : addM (some s) (negM b) = some z := by
  cases b with
  | none => simp [addM] at he
  | some y =>
    simp only [addM, tellM] at he
    split at he
    · injection he with he; subst he
      simp only [negM, Option.map_some, addM]
      rw [tell_in (by omega) (by omega)]
      congr 1; omega
    · cases he

theorem add_assoc' (a b c : Option Int) (h1 : (addM (addM a b) c).isNone = false) (h2 : (addM a (addM b c)).isNone = false) : addM (addM a b) c = addM a (addM b c) := by
  cases a with
  | none => simp [addM] at h1
  | some x =>
    cases b with
    | none => simp [addM] at h1
    | some y =>
      cases c with
      | none => cases hxy : addM (some x) (some y) <;> simp [hxy, addM] at h1
      | some w =>
        simp only [addM, tellM] at h1 h2 ⊢
        by_cases a1 : -9223372036854775808 < x + y ∧ x + y < 9223372036854775808
        · by_cases a2 : -9223372036854775808 < y + w ∧ y + w < 9223372036854775808
          · simp only [if_pos a1, if_pos a2]; rw [Int.add_assoc]
          · rw [if_neg a2] at h2; simp at h2
        · rw [if_neg a1] at h1; simp at h1

theorem root_is {n m : Nat} (h1 : m * m ≤ n) (h2 : n < (m + 1) * (m + 1)) : n.sqrt = m := by
  have a1 := (root_le (m := m) (Nat.sqrt_le n) (Nat.lt_succ_sqrt n)).1 h1
  have a2 : ¬ (m + 1 ≤ n.sqrt) := by
    rw [← root_le (m := m + 1) (Nat.sqrt_le n) (Nat.lt_succ_sqrt n)]; omega
  omega

theorem f_law02_alive : Meets Try.prog E0 n_law02_alive [] [] (Bo true) [] := by
  refine m_law02_alive (by simp) (shut0 rfl) (shut0 rfl) (by simp) (by simp [keysOf]) ?_
  have a1 := f_fixed_Of 3 (by decide) (by decide)
  have a2 := f_fixed_Of 500000 (by decide) (by decide)
  have a3 := f_fixed_Mul false false 3 500000 (by decide) (by decide) (by decide) (by decide)
  have a4 := f_fixed_Int (-1) (by decide) (by decide)
  have a5 := f_fixed_Int 3 (by decide) (by decide)
  have a6 := f_fixed_Div false false (-1000000) 3000000 (by decide) (by decide) (by decide) (by decide)
  have a7 := f_fixed_Int 2 (by decide) (by decide)
  have a8 := f_fixed_Root false 2000000 (by decide) (by decide)
  have a9 := f_fixed_Of (-2500000) (by decide) (by decide)
  have a10 := f_fixed_Round false (-2500000) 0 (by decide) (by decide)
  rw [show valM false 3 = some 3 from by decide] at a1 a3
  rw [show valM false 500000 = some 500000 from by decide] at a2 a3
  rw [show mulM (some 3) (some 500000) = some 2 from by decide] at a3
  rw [show tellM (-1 * 1000000) = some (-1000000) from by decide] at a4
  rw [show tellM (3 * 1000000) = some 3000000 from by decide] at a5
  rw [show divM (valM false (-1000000)) (valM false 3000000) = some (-333333) from by decide] at a6
  rw [show tellM (2 * 1000000) = some 2000000 from by decide] at a7
  rw [show rootM (valM false 2000000) = some 1414213 from by
    rw [show valM false 2000000 = some 2000000 from by decide]
    unfold rootM; simp only
    rw [if_neg (by decide), root_is (m := 1414213) (by decide) (by decide)]; rfl] at a8
  rw [show valM false (-2500000) = some (-2500000) from by decide] at a9 a10
  rw [show roundM (some (-2500000)) 0 = some (-3000000) from by decide] at a10
  repeat' (first | (with_reducible refine Cl_plain (a1) ?_) | (with_reducible refine Cl_plain (a2) ?_) | (with_reducible refine Cl_plain (a3) ?_) | (with_reducible refine Cl_plain (a4) ?_) | (with_reducible refine Cl_plain (a5) ?_) | (with_reducible refine Cl_plain (a6) ?_) | (with_reducible refine Cl_plain (a7) ?_) | (with_reducible refine Cl_plain (a8) ?_) | (with_reducible refine Cl_plain (a9) ?_) | (with_reducible refine Cl_plain (a10) ?_) | (simp only [go_sem, s_law02_alive, NO_some, beq_self_eq_true, eq_self, ↓reduceIte, Nat.reduceEqDiff, Nat.reduceAdd, Nat.reduceLeDiff, reduceCtorEq, Int.natCast_nonneg, List.getElem?_map, Int.toNat_natCast, List.length_map, List.replicate_zero, Bool.bne_false, Bool.bne_true, Nat.reduceLT, Int.reduceLT, Int.reduceLE, Int.reduceEq, Int.reduceToNat, List.length_replicate, List.isEmpty_cons, List.isEmpty_nil, Nat.le_refl, Int.le_refl, Int.sub_zero, Int.sub_self, ne_eq, List.length_append, Int.toNat_zero, Nat.zero_mul, Nat.mul_one, Nat.one_mul, Nat.reduceMul, *]) | (simp (disch := omega) only [s_law02_alive, NO_some, beq_self_eq_true, eq_self, wrap_i64_of, i64_quo, i64_rem, sdiv, smod]) | ((with_reducible refine W_split (by with_unfolding_all exact rfl) (fun hsp => ?_) (fun hsp => ?_)) <;> (try simp only [Bool.not_true, Bool.not_false, decide_eq_true_eq, decide_eq_false_iff_not, Bool.not_eq_true', Bool.not_eq_false', not_false_eq_true] at hsp)) | ((with_reducible refine R_split (by with_unfolding_all exact rfl) (fun hsp => ?_) (fun hsp => ?_)) <;> (try simp only [Bool.not_true, Bool.not_false, decide_eq_true_eq, decide_eq_false_iff_not, Bool.not_eq_true', Bool.not_eq_false', not_false_eq_true] at hsp)) | (with_reducible refine R_fin (by repeat' (first | exact okp0 | refine okp rfl rfl rfl ?_)) ?_))
  refine wends (by first | exact Or.inl rfl | exact Or.inr rfl) ?_ (by first | rfl | simp [AV.ids, idsL])
  simp only [go_sem, r_law02_alive, ↓reduceIte, Nat.reduceEqDiff, Nat.reduceAdd, Nat.reduceLeDiff, reduceCtorEq, Int.natCast_nonneg, List.getElem?_map, Int.toNat_natCast, List.length_map, List.replicate_zero, Bool.bne_false, Bool.bne_true, Nat.reduceLT, Int.reduceLT, Int.reduceLE, Int.reduceEq, Int.reduceToNat, List.length_replicate, List.isEmpty_cons, List.isEmpty_nil, Nat.le_refl, Int.le_refl, Int.sub_zero, Int.sub_self, ne_eq, List.length_append, Int.toNat_zero, Nat.zero_mul, Nat.mul_one, Nat.one_mul, Nat.reduceMul]

theorem f_law02_FixedMakes (x : Bool) (v u i : Int) (h1 : -9223372036854775808 ≤ v) (h2 : v < 9223372036854775808) (h3 : -9223372036854775808 ≤ u) (h4 : u < 9223372036854775808) (h5 : -9223372036854775808 ≤ i) (h6 : i < 9223372036854775808) : Meets Try.prog E0 n_law02_FixedMakes [NV x v, I u, I i] [] (Bo true) [] := by
  refine m_law02_FixedMakes (by simp) (shut0 rfl) (shut0 rfl) (by simp) (by simp [keysOf]) ?_
  repeat' (first | (with_reducible refine Cl_plain (f_law02_alive) ?_) | (with_reducible refine Cl_plain (f_fixed_Right _ _ (by omega)) ?_) | (with_reducible refine Cl_plain (f_ref02_Right _ _ (by omega)) ?_) | (with_reducible refine Cl_plain (f_fixed_Of u h3 h4) ?_) | (with_reducible refine Cl_plain (f_ref02_Of u h3 h4) ?_) | (with_reducible refine Cl_plain (f_fixed_Int i h5 h6) ?_) | (with_reducible refine Cl_plain (f_ref02_Int i h5 h6) ?_) | (simp only [go_sem, s_law02_FixedMakes, beq_self_eq_true, eq_self, ↓reduceIte, Nat.reduceEqDiff, Nat.reduceAdd, Nat.reduceLeDiff, reduceCtorEq, Int.natCast_nonneg, List.getElem?_map, Int.toNat_natCast, List.length_map, List.replicate_zero, Bool.bne_false, Bool.bne_true, Nat.reduceLT, Int.reduceLT, Int.reduceLE, Int.reduceEq, Int.reduceToNat, List.length_replicate, List.isEmpty_cons, List.isEmpty_nil, Nat.le_refl, Int.le_refl, Int.sub_zero, Int.sub_self, ne_eq, List.length_append, Int.toNat_zero, Nat.zero_mul, Nat.mul_one, Nat.one_mul, Nat.reduceMul, *]) | (simp (disch := omega) only [s_law02_FixedMakes, beq_self_eq_true, eq_self, wrap_i64_of, i64_quo, i64_rem, sdiv, smod]) | ((with_reducible refine W_split (by with_unfolding_all exact rfl) (fun hsp => ?_) (fun hsp => ?_)) <;> (try simp only [Bool.not_true, Bool.not_false, decide_eq_true_eq, decide_eq_false_iff_not, Bool.not_eq_true', Bool.not_eq_false', not_false_eq_true] at hsp)) | ((with_reducible refine R_split (by with_unfolding_all exact rfl) (fun hsp => ?_) (fun hsp => ?_)) <;> (try simp only [Bool.not_true, Bool.not_false, decide_eq_true_eq, decide_eq_false_iff_not, Bool.not_eq_true', Bool.not_eq_false', not_false_eq_true] at hsp)) | (with_reducible refine R_fin (by repeat' (first | exact okp0 | refine okp rfl rfl rfl ?_)) ?_))
  refine wends (by first | exact Or.inl rfl | exact Or.inr rfl) ?_ (by first | rfl | simp [AV.ids, idsL])
  simp only [go_sem, r_law02_FixedMakes, ↓reduceIte, Nat.reduceEqDiff, Nat.reduceAdd, Nat.reduceLeDiff, reduceCtorEq, Int.natCast_nonneg, List.getElem?_map, Int.toNat_natCast, List.length_map, List.replicate_zero, Bool.bne_false, Bool.bne_true, Nat.reduceLT, Int.reduceLT, Int.reduceLE, Int.reduceEq, Int.reduceToNat, List.length_replicate, List.isEmpty_cons, List.isEmpty_nil, Nat.le_refl, Int.le_refl, Int.sub_zero, Int.sub_self, ne_eq, List.length_append, Int.toNat_zero, Nat.zero_mul, Nat.mul_one, Nat.one_mul, Nat.reduceMul]

theorem f_law02_FixedAdds (x y : Bool) (v u : Int) (h1 : -9223372036854775808 ≤ v) (h2 : v < 9223372036854775808) (h3 : -9223372036854775808 ≤ u) (h4 : u < 9223372036854775808) : Meets Try.prog E0 n_law02_FixedAdds [NV x v, NV y u] [] (Bo true) [] := by
  refine m_law02_FixedAdds (by simp) (shut0 rfl) (shut0 rfl) (by simp) (by simp [keysOf]) ?_
  repeat' (first | (with_reducible refine Cl_plain (f_law02_alive) ?_) | (with_reducible refine Cl_plain (f_fixed_Add x y v u h1 h2 h3 h4) ?_) | (with_reducible refine Cl_plain (f_ref02_Add x y v u h1 h2 h3 h4) ?_) | (with_reducible refine Cl_plain (f_fixed_Sub x y v u h1 h2 h3 h4) ?_) | (with_reducible refine Cl_plain (f_ref02_Sub x y v u h1 h2 h3 h4) ?_) | (with_reducible refine Cl_plain (f_fixed_Neg x v h1 h2) ?_) | (with_reducible refine Cl_plain (f_ref02_Neg x v h1 h2) ?_) | (with_reducible refine Cl_plain (f_fixed_Abs x v h1 h2) ?_) | (with_reducible refine Cl_plain (f_ref02_Abs x v h1 h2) ?_) | (simp only [go_sem, s_law02_FixedAdds, beq_self_eq_true, eq_self, ↓reduceIte, Nat.reduceEqDiff, Nat.reduceAdd, Nat.reduceLeDiff, reduceCtorEq, Int.natCast_nonneg, List.getElem?_map, Int.toNat_natCast, List.length_map, List.replicate_zero, Bool.bne_false, Bool.bne_true, Nat.reduceLT, Int.reduceLT, Int.reduceLE, Int.reduceEq, Int.reduceToNat, List.length_replicate, List.isEmpty_cons, List.isEmpty_nil, Nat.le_refl, Int.le_refl, Int.sub_zero, Int.sub_self, ne_eq, List.length_append, Int.toNat_zero, Nat.zero_mul, Nat.mul_one, Nat.one_mul, Nat.reduceMul, *]) | (simp (disch := omega) only [s_law02_FixedAdds, beq_self_eq_true, eq_self, wrap_i64_of, i64_quo, i64_rem, sdiv, smod]) | ((with_reducible refine W_split (by with_unfolding_all exact rfl) (fun hsp => ?_) (fun hsp => ?_)) <;> (try simp only [Bool.not_true, Bool.not_false, decide_eq_true_eq, decide_eq_false_iff_not, Bool.not_eq_true', Bool.not_eq_false', not_false_eq_true] at hsp)) | ((with_reducible refine R_split (by with_unfolding_all exact rfl) (fun hsp => ?_) (fun hsp => ?_)) <;> (try simp only [Bool.not_true, Bool.not_false, decide_eq_true_eq, decide_eq_false_iff_not, Bool.not_eq_true', Bool.not_eq_false', not_false_eq_true] at hsp)) | (with_reducible refine R_fin (by repeat' (first | exact okp0 | refine okp rfl rfl rfl ?_)) ?_))
  refine wends (by first | exact Or.inl rfl | exact Or.inr rfl) ?_ (by first | rfl | simp [AV.ids, idsL])
  simp only [go_sem, r_law02_FixedAdds, ↓reduceIte, Nat.reduceEqDiff, Nat.reduceAdd, Nat.reduceLeDiff, reduceCtorEq, Int.natCast_nonneg, List.getElem?_map, Int.toNat_natCast, List.length_map, List.replicate_zero, Bool.bne_false, Bool.bne_true, Nat.reduceLT, Int.reduceLT, Int.reduceLE, Int.reduceEq, Int.reduceToNat, List.length_replicate, List.isEmpty_cons, List.isEmpty_nil, Nat.le_refl, Int.le_refl, Int.sub_zero, Int.sub_self, ne_eq, List.length_append, Int.toNat_zero, Nat.zero_mul, Nat.mul_one, Nat.one_mul, Nat.reduceMul]

theorem f_law02_FixedMuls (x y : Bool) (v u : Int) (h1 : -9223372036854775808 ≤ v) (h2 : v < 9223372036854775808) (h3 : -9223372036854775808 ≤ u) (h4 : u < 9223372036854775808) : Meets Try.prog E0 n_law02_FixedMuls [NV x v, NV y u] [] (Bo true) [] := by
  refine m_law02_FixedMuls (by simp) (shut0 rfl) (shut0 rfl) (by simp) (by simp [keysOf]) ?_
  repeat' (first | (with_reducible refine Cl_plain (f_law02_alive) ?_) | (with_reducible refine Cl_plain (f_fixed_Mul x y v u h1 h2 h3 h4) ?_) | (with_reducible refine Cl_plain (f_ref02_Mul x y v u h1 h2 h3 h4) ?_) | (with_reducible refine Cl_plain (f_fixed_Div x y v u h1 h2 h3 h4) ?_) | (with_reducible refine Cl_plain (f_ref02_Div x y v u h1 h2 h3 h4) ?_) | (simp only [go_sem, s_law02_FixedMuls, beq_self_eq_true, eq_self, ↓reduceIte, Nat.reduceEqDiff, Nat.reduceAdd, Nat.reduceLeDiff, reduceCtorEq, Int.natCast_nonneg, List.getElem?_map, Int.toNat_natCast, List.length_map, List.replicate_zero, Bool.bne_false, Bool.bne_true, Nat.reduceLT, Int.reduceLT, Int.reduceLE, Int.reduceEq, Int.reduceToNat, List.length_replicate, List.isEmpty_cons, List.isEmpty_nil, Nat.le_refl, Int.le_refl, Int.sub_zero, Int.sub_self, ne_eq, List.length_append, Int.toNat_zero, Nat.zero_mul, Nat.mul_one, Nat.one_mul, Nat.reduceMul, *]) | (simp (disch := omega) only [s_law02_FixedMuls, beq_self_eq_true, eq_self, wrap_i64_of, i64_quo, i64_rem, sdiv, smod]) | ((with_reducible refine W_split (by with_unfolding_all exact rfl) (fun hsp => ?_) (fun hsp => ?_)) <;> (try simp only [Bool.not_true, Bool.not_false, decide_eq_true_eq, decide_eq_false_iff_not, Bool.not_eq_true', Bool.not_eq_false', not_false_eq_true] at hsp)) | ((with_reducible refine R_split (by with_unfolding_all exact rfl) (fun hsp => ?_) (fun hsp => ?_)) <;> (try simp only [Bool.not_true, Bool.not_false, decide_eq_true_eq, decide_eq_false_iff_not, Bool.not_eq_true', Bool.not_eq_false', not_false_eq_true] at hsp)) | (with_reducible refine R_fin (by repeat' (first | exact okp0 | refine okp rfl rfl rfl ?_)) ?_))
  refine wends (by first | exact Or.inl rfl | exact Or.inr rfl) ?_ (by first | rfl | simp [AV.ids, idsL])
  simp only [go_sem, r_law02_FixedMuls, ↓reduceIte, Nat.reduceEqDiff, Nat.reduceAdd, Nat.reduceLeDiff, reduceCtorEq, Int.natCast_nonneg, List.getElem?_map, Int.toNat_natCast, List.length_map, List.replicate_zero, Bool.bne_false, Bool.bne_true, Nat.reduceLT, Int.reduceLT, Int.reduceLE, Int.reduceEq, Int.reduceToNat, List.length_replicate, List.isEmpty_cons, List.isEmpty_nil, Nat.le_refl, Int.le_refl, Int.sub_zero, Int.sub_self, ne_eq, List.length_append, Int.toNat_zero, Nat.zero_mul, Nat.mul_one, Nat.one_mul, Nat.reduceMul]

theorem f_law02_FixedRoots (x : Bool) (v k : Int) (h1 : -9223372036854775808 ≤ v) (h2 : v < 9223372036854775808) : Meets Try.prog E0 n_law02_FixedRoots [NV x v, I k] [] (Bo true) [] := by
  refine m_law02_FixedRoots (by simp) (shut0 rfl) (shut0 rfl) (by simp) (by simp [keysOf]) ?_
  repeat' (first | (with_reducible refine Cl_plain (f_law02_alive) ?_) | (with_reducible refine Cl_plain (f_fixed_Root x v h1 h2) ?_) | (with_reducible refine Cl_plain (f_ref02_Root x v h1 h2) ?_) | (with_reducible refine Cl_plain (f_fixed_Round x v k h1 h2) ?_) | (with_reducible refine Cl_plain (f_ref02_Round x v k h1 h2) ?_) | (simp only [go_sem, s_law02_FixedRoots, beq_self_eq_true, eq_self, ↓reduceIte, Nat.reduceEqDiff, Nat.reduceAdd, Nat.reduceLeDiff, reduceCtorEq, Int.natCast_nonneg, List.getElem?_map, Int.toNat_natCast, List.length_map, List.replicate_zero, Bool.bne_false, Bool.bne_true, Nat.reduceLT, Int.reduceLT, Int.reduceLE, Int.reduceEq, Int.reduceToNat, List.length_replicate, List.isEmpty_cons, List.isEmpty_nil, Nat.le_refl, Int.le_refl, Int.sub_zero, Int.sub_self, ne_eq, List.length_append, Int.toNat_zero, Nat.zero_mul, Nat.mul_one, Nat.one_mul, Nat.reduceMul, *]) | (simp (disch := omega) only [s_law02_FixedRoots, beq_self_eq_true, eq_self, wrap_i64_of, i64_quo, i64_rem, sdiv, smod]) | ((with_reducible refine W_split (by with_unfolding_all exact rfl) (fun hsp => ?_) (fun hsp => ?_)) <;> (try simp only [Bool.not_true, Bool.not_false, decide_eq_true_eq, decide_eq_false_iff_not, Bool.not_eq_true', Bool.not_eq_false', not_false_eq_true] at hsp)) | ((with_reducible refine R_split (by with_unfolding_all exact rfl) (fun hsp => ?_) (fun hsp => ?_)) <;> (try simp only [Bool.not_true, Bool.not_false, decide_eq_true_eq, decide_eq_false_iff_not, Bool.not_eq_true', Bool.not_eq_false', not_false_eq_true] at hsp)) | (with_reducible refine R_fin (by repeat' (first | exact okp0 | refine okp rfl rfl rfl ?_)) ?_))
  refine wends (by first | exact Or.inl rfl | exact Or.inr rfl) ?_ (by first | rfl | simp [AV.ids, idsL])
  simp only [go_sem, r_law02_FixedRoots, ↓reduceIte, Nat.reduceEqDiff, Nat.reduceAdd, Nat.reduceLeDiff, reduceCtorEq, Int.natCast_nonneg, List.getElem?_map, Int.toNat_natCast, List.length_map, List.replicate_zero, Bool.bne_false, Bool.bne_true, Nat.reduceLT, Int.reduceLT, Int.reduceLE, Int.reduceEq, Int.reduceToNat, List.length_replicate, List.isEmpty_cons, List.isEmpty_nil, Nat.le_refl, Int.le_refl, Int.sub_zero, Int.sub_self, ne_eq, List.length_append, Int.toNat_zero, Nat.zero_mul, Nat.mul_one, Nat.one_mul, Nat.reduceMul]

theorem f_law02_FixedOrders (x y : Bool) (v u : Int) (h1 : -9223372036854775808 ≤ v) (h2 : v < 9223372036854775808) (h3 : -9223372036854775808 ≤ u) (h4 : u < 9223372036854775808) : Meets Try.prog E0 n_law02_FixedOrders [NV x v, NV y u] [] (Bo true) [] := by
  refine m_law02_FixedOrders (by simp) (shut0 rfl) (shut0 rfl) (by simp) (by simp [keysOf]) ?_
  repeat' (first | (with_reducible refine Cl_plain (f_law02_alive) ?_) | (with_reducible refine Cl_plain (f_fixed_Cmp x y v u) ?_) | (with_reducible refine Cl_plain (f_ref02_Cmp x y v u h1 h3) ?_) | (with_reducible refine Cl_plain (f_fixed_Less x y v u) ?_) | (with_reducible refine Cl_plain (f_ref02_Less x y v u h1 h3) ?_) | (with_reducible refine Cl_plain (f_fixed_More x y v u) ?_) | (with_reducible refine Cl_plain (f_ref02_More x y v u h1 h3) ?_) | (simp only [go_sem, s_law02_FixedOrders, beq_self_eq_true, eq_self, ↓reduceIte, Nat.reduceEqDiff, Nat.reduceAdd, Nat.reduceLeDiff, reduceCtorEq, Int.natCast_nonneg, List.getElem?_map, Int.toNat_natCast, List.length_map, List.replicate_zero, Bool.bne_false, Bool.bne_true, Nat.reduceLT, Int.reduceLT, Int.reduceLE, Int.reduceEq, Int.reduceToNat, List.length_replicate, List.isEmpty_cons, List.isEmpty_nil, Nat.le_refl, Int.le_refl, Int.sub_zero, Int.sub_self, ne_eq, List.length_append, Int.toNat_zero, Nat.zero_mul, Nat.mul_one, Nat.one_mul, Nat.reduceMul, *]) | (simp (disch := omega) only [s_law02_FixedOrders, beq_self_eq_true, eq_self, wrap_i64_of, i64_quo, i64_rem, sdiv, smod]) | ((with_reducible refine W_split (by with_unfolding_all exact rfl) (fun hsp => ?_) (fun hsp => ?_)) <;> (try simp only [Bool.not_true, Bool.not_false, decide_eq_true_eq, decide_eq_false_iff_not, Bool.not_eq_true', Bool.not_eq_false', not_false_eq_true] at hsp)) | ((with_reducible refine R_split (by with_unfolding_all exact rfl) (fun hsp => ?_) (fun hsp => ?_)) <;> (try simp only [Bool.not_true, Bool.not_false, decide_eq_true_eq, decide_eq_false_iff_not, Bool.not_eq_true', Bool.not_eq_false', not_false_eq_true] at hsp)) | (with_reducible refine R_fin (by repeat' (first | exact okp0 | refine okp rfl rfl rfl ?_)) ?_))
  refine wends (by first | exact Or.inl rfl | exact Or.inr rfl) ?_ (by first | rfl | simp [AV.ids, idsL])
  simp only [go_sem, r_law02_FixedOrders, ↓reduceIte, Nat.reduceEqDiff, Nat.reduceAdd, Nat.reduceLeDiff, reduceCtorEq, Int.natCast_nonneg, List.getElem?_map, Int.toNat_natCast, List.length_map, List.replicate_zero, Bool.bne_false, Bool.bne_true, Nat.reduceLT, Int.reduceLT, Int.reduceLE, Int.reduceEq, Int.reduceToNat, List.length_replicate, List.isEmpty_cons, List.isEmpty_nil, Nat.le_refl, Int.le_refl, Int.sub_zero, Int.sub_self, ne_eq, List.length_append, Int.toNat_zero, Nat.zero_mul, Nat.mul_one, Nat.one_mul, Nat.reduceMul]

theorem f_law02_FixedThree (x y z : Bool) (v u w : Int) (h1 : -9223372036854775808 ≤ v) (h2 : v < 9223372036854775808) (h3 : -9223372036854775808 ≤ u) (h4 : u < 9223372036854775808) (h5 : -9223372036854775808 ≤ w) (h6 : w < 9223372036854775808) : Meets Try.prog E0 n_law02_FixedThree [NV x v, NV y u, NV z w] [] (Bo true) [] := by
  refine m_law02_FixedThree (by simp) (shut0 rfl) (shut0 rfl) (by simp) (by simp [keysOf]) ?_
  have r1 := addM_rt (valM x v) (valM y u)
  have r2 := addM_rt (valM y u) (valM z w)
  have b1 := f_fixed_Add x y v u h1 h2 h3 h4
  have b2 := f_fixed_Add (addM (valM x v) (valM y u)).isNone z _ w r1.lo r1.hi h5 h6
  have b3 := f_fixed_Add y z u w h3 h4 h5 h6
  have b4 := f_fixed_Add x (addM (valM y u) (valM z w)).isNone v _ h1 h2 r2.lo r2.hi
  rw [r1.val] at b2
  rw [r2.val] at b4
  have ha := add_assoc' (valM x v) (valM y u) (valM z w)
  generalize addM (valM x v) (valM y u) = p at *
  generalize addM (valM y u) (valM z w) = q at *
  generalize addM p (valM z w) = s at *
  generalize addM (valM x v) q = t at *
  clear r1 r2
  cases hs : s.isNone
  · cases ht : t.isNone
    · have := ha hs ht
      subst this
      clear ha
      repeat' (first | (with_reducible refine Cl_plain (f_law02_alive) ?_) | (with_reducible refine Cl_plain (b1) ?_) | (with_reducible refine Cl_plain (b2) ?_) | (with_reducible refine Cl_plain (b3) ?_) | (with_reducible refine Cl_plain (b4) ?_) | (simp only [go_sem, s_law02_FixedThree, beq_self_eq_true, eq_self, ↓reduceIte, Nat.reduceEqDiff, Nat.reduceAdd, Nat.reduceLeDiff, reduceCtorEq, Int.natCast_nonneg, List.getElem?_map, Int.toNat_natCast, List.length_map, List.replicate_zero, Bool.bne_false, Bool.bne_true, Nat.reduceLT, Int.reduceLT, Int.reduceLE, Int.reduceEq, Int.reduceToNat, List.length_replicate, List.isEmpty_cons, List.isEmpty_nil, Nat.le_refl, Int.le_refl, Int.sub_zero, Int.sub_self, ne_eq, List.length_append, Int.toNat_zero, Nat.zero_mul, Nat.mul_one, Nat.one_mul, Nat.reduceMul, *]) | (simp (disch := omega) only [s_law02_FixedThree, beq_self_eq_true, eq_self, wrap_i64_of, i64_quo, i64_rem, sdiv, smod]) | ((with_reducible refine W_split (by with_unfolding_all exact rfl) (fun hsp => ?_) (fun hsp => ?_)) <;> (try simp only [Bool.not_true, Bool.not_false, decide_eq_true_eq, decide_eq_false_iff_not, Bool.not_eq_true', Bool.not_eq_false', not_false_eq_true] at hsp)) | ((with_reducible refine R_split (by with_unfolding_all exact rfl) (fun hsp => ?_) (fun hsp => ?_)) <;> (try simp only [Bool.not_true, Bool.not_false, decide_eq_true_eq, decide_eq_false_iff_not, Bool.not_eq_true', Bool.not_eq_false', not_false_eq_true] at hsp)) | (with_reducible refine R_fin (by repeat' (first | exact okp0 | refine okp rfl rfl rfl ?_)) ?_))
      refine wends (by first | exact Or.inl rfl | exact Or.inr rfl) ?_ (by first | rfl | simp [AV.ids, idsL])
      simp only [go_sem, r_law02_FixedThree, ↓reduceIte, Nat.reduceEqDiff, Nat.reduceAdd, Nat.reduceLeDiff, reduceCtorEq, Int.natCast_nonneg, List.getElem?_map, Int.toNat_natCast, List.length_map, List.replicate_zero, Bool.bne_false, Bool.bne_true, Nat.reduceLT, Int.reduceLT, Int.reduceLE, Int.reduceEq, Int.reduceToNat, List.length_replicate, List.isEmpty_cons, List.isEmpty_nil, Nat.le_refl, Int.le_refl, Int.sub_zero, Int.sub_self, ne_eq, List.length_append, Int.toNat_zero, Nat.zero_mul, Nat.mul_one, Nat.one_mul, Nat.reduceMul]
    · clear ha
      repeat' (first | (with_reducible refine Cl_plain (f_law02_alive) ?_) | (with_reducible refine Cl_plain (b1) ?_) | (with_reducible refine Cl_plain (b2) ?_) | (with_reducible refine Cl_plain (b3) ?_) | (with_reducible refine Cl_plain (b4) ?_) | (simp only [go_sem, s_law02_FixedThree, beq_self_eq_true, eq_self, ↓reduceIte, Nat.reduceEqDiff, Nat.reduceAdd, Nat.reduceLeDiff, reduceCtorEq, Int.natCast_nonneg, List.getElem?_map, Int.toNat_natCast, List.length_map, List.replicate_zero, Bool.bne_false, Bool.bne_true, Nat.reduceLT, Int.reduceLT, Int.reduceLE, Int.reduceEq, Int.reduceToNat, List.length_replicate, List.isEmpty_cons, List.isEmpty_nil, Nat.le_refl, Int.le_refl, Int.sub_zero, Int.sub_self, ne_eq, List.length_append, Int.toNat_zero, Nat.zero_mul, Nat.mul_one, Nat.one_mul, Nat.reduceMul, *]) | (simp (disch := omega) only [s_law02_FixedThree, beq_self_eq_true, eq_self, wrap_i64_of, i64_quo, i64_rem, sdiv, smod]) | ((with_reducible refine W_split (by with_unfolding_all exact rfl) (fun hsp => ?_) (fun hsp => ?_)) <;> (try simp only [Bool.not_true, Bool.not_false, decide_eq_true_eq, decide_eq_false_iff_not, Bool.not_eq_true', Bool.not_eq_false', not_false_eq_true] at hsp)) | ((with_reducible refine R_split (by with_unfolding_all exact rfl) (fun hsp => ?_) (fun hsp => ?_)) <;> (try simp only [Bool.not_true, Bool.not_false, decide_eq_true_eq, decide_eq_false_iff_not, Bool.not_eq_true', Bool.not_eq_false', not_false_eq_true] at hsp)) | (with_reducible refine R_fin (by repeat' (first | exact okp0 | refine okp rfl rfl rfl ?_)) ?_))
      refine wends (by first | exact Or.inl rfl | exact Or.inr rfl) ?_ (by first | rfl | simp [AV.ids, idsL])
      simp only [go_sem, r_law02_FixedThree, ↓reduceIte, Nat.reduceEqDiff, Nat.reduceAdd, Nat.reduceLeDiff, reduceCtorEq, Int.natCast_nonneg, List.getElem?_map, Int.toNat_natCast, List.length_map, List.replicate_zero, Bool.bne_false, Bool.bne_true, Nat.reduceLT, Int.reduceLT, Int.reduceLE, Int.reduceEq, Int.reduceToNat, List.length_replicate, List.isEmpty_cons, List.isEmpty_nil, Nat.le_refl, Int.le_refl, Int.sub_zero, Int.sub_self, ne_eq, List.length_append, Int.toNat_zero, Nat.zero_mul, Nat.mul_one, Nat.one_mul, Nat.reduceMul]
  · clear ha
    repeat' (first | (with_reducible refine Cl_plain (f_law02_alive) ?_) | (with_reducible refine Cl_plain (b1) ?_) | (with_reducible refine Cl_plain (b2) ?_) | (with_reducible refine Cl_plain (b3) ?_) | (with_reducible refine Cl_plain (b4) ?_) | (simp only [go_sem, s_law02_FixedThree, beq_self_eq_true, eq_self, ↓reduceIte, Nat.reduceEqDiff, Nat.reduceAdd, Nat.reduceLeDiff, reduceCtorEq, Int.natCast_nonneg, List.getElem?_map, Int.toNat_natCast, List.length_map, List.replicate_zero, Bool.bne_false, Bool.bne_true, Nat.reduceLT, Int.reduceLT, Int.reduceLE, Int.reduceEq, Int.reduceToNat, List.length_replicate, List.isEmpty_cons, List.isEmpty_nil, Nat.le_refl, Int.le_refl, Int.sub_zero, Int.sub_self, ne_eq, List.length_append, Int.toNat_zero, Nat.zero_mul, Nat.mul_one, Nat.one_mul, Nat.reduceMul, *]) | (simp (disch := omega) only [s_law02_FixedThree, beq_self_eq_true, eq_self, wrap_i64_of, i64_quo, i64_rem, sdiv, smod]) | ((with_reducible refine W_split (by with_unfolding_all exact rfl) (fun hsp => ?_) (fun hsp => ?_)) <;> (try simp only [Bool.not_true, Bool.not_false, decide_eq_true_eq, decide_eq_false_iff_not, Bool.not_eq_true', Bool.not_eq_false', not_false_eq_true] at hsp)) | ((with_reducible refine R_split (by with_unfolding_all exact rfl) (fun hsp => ?_) (fun hsp => ?_)) <;> (try simp only [Bool.not_true, Bool.not_false, decide_eq_true_eq, decide_eq_false_iff_not, Bool.not_eq_true', Bool.not_eq_false', not_false_eq_true] at hsp)) | (with_reducible refine R_fin (by repeat' (first | exact okp0 | refine okp rfl rfl rfl ?_)) ?_))
    refine wends (by first | exact Or.inl rfl | exact Or.inr rfl) ?_ (by first | rfl | simp [AV.ids, idsL])
    simp only [go_sem, r_law02_FixedThree, ↓reduceIte, Nat.reduceEqDiff, Nat.reduceAdd, Nat.reduceLeDiff, reduceCtorEq, Int.natCast_nonneg, List.getElem?_map, Int.toNat_natCast, List.length_map, List.replicate_zero, Bool.bne_false, Bool.bne_true, Nat.reduceLT, Int.reduceLT, Int.reduceLE, Int.reduceEq, Int.reduceToNat, List.length_replicate, List.isEmpty_cons, List.isEmpty_nil, Nat.le_refl, Int.le_refl, Int.sub_zero, Int.sub_self, ne_eq, List.length_append, Int.toNat_zero, Nat.zero_mul, Nat.mul_one, Nat.one_mul, Nat.reduceMul]

theorem right_f (x : Bool) (v : Int) (h : valM x v = none) : (!(if x then decide (v = 0) else decide (-9223372036854775808 < v)) || x) = true := by
  cases x
  · unfold valM at h
    simp at h
    simp; omega
  · simp

theorem f_law02_FixedLaws (x y : Bool) (v u : Int) (h1 : -9223372036854775808 ≤ v) (h2 : v < 9223372036854775808) (h3 : -9223372036854775808 ≤ u) (h4 : u < 9223372036854775808) : Meets Try.prog E0 n_law02_FixedLaws [NV x v, NV y u] [] (Bo true) [] := by
  refine m_law02_FixedLaws (by simp) (shut0 rfl) (shut0 rfl) (by simp) (by simp [keysOf]) ?_
  have ra := valM_rt (x := x) h2
  have rb := valM_rt (x := y) h4
  have rba := addM_rt (valM y u) (negM (valM x v))
  have rab := addM_rt (valM x v) (valM y u)
  have b0 := f_fixed_Int 1 (by decide) (by decide)
  rw [show tellM (1 * 1000000) = some 1000000 from by decide] at b0
  have b1 := f_fixed_Add x y v u h1 h2 h3 h4
  have b2 := f_fixed_Add y x u v h3 h4 h1 h2
  rw [addM_comm] at b2
  have b3 := f_fixed_Mul x y v u h1 h2 h3 h4
  have b4 := f_fixed_Mul y x u v h3 h4 h1 h2
  rw [mulM_comm] at b4
  have b5 := f_fixed_Sub x y v u h1 h2 h3 h4
  have b6 := f_fixed_Sub y x u v h3 h4 h1 h2
  have b7 := f_fixed_Neg (addM (valM y u) (negM (valM x v))).isNone _ rba.lo rba.hi
  rw [rba.val, ← sub_swap] at b7
  have b8 := f_fixed_Mul x false v 1000000 h1 h2 (by decide) (by decide)
  have b9 := f_fixed_Div x false v 1000000 h1 h2 (by decide) (by decide)
  have b10 := f_fixed_Sub (addM (valM x v) (valM y u)).isNone y _ u rab.lo rab.hi h3 h4
  rw [rab.val] at b10
  rw [show valM false 1000000 = some 1000000 from by decide] at b8 b9
  have bR := f_ref02_Right x v h1
  cases ha : okN x v
  · have hR := right_f x v (okN_f ha)
    rw [okN_f ha, show mulM none (some 1000000) = none from rfl] at b8
    have bn : addM (valM x v) (valM y u) = none := by rw [okN_f ha]; rfl
    generalize (if x then decide (v = 0) else decide (-9223372036854775808 < v)) = R at *
    rw [bn] at b1 b2
    clear b9 b10 ra rb rba rab h1 h2 h3 h4 bn ha
    cases x <;> cases R <;> first | (simp at hR; done) | skip
    all_goals
      repeat' (first | (with_reducible refine Cl_plain (f_law02_alive) ?_) | (with_reducible refine Cl_plain (b0) ?_) | (with_reducible refine Cl_plain (b1) ?_) | (with_reducible refine Cl_plain (b2) ?_) | (with_reducible refine Cl_plain (b3) ?_) | (with_reducible refine Cl_plain (b4) ?_) | (with_reducible refine Cl_plain (b5) ?_) | (with_reducible refine Cl_plain (b6) ?_) | (with_reducible refine Cl_plain (b7) ?_) | (with_reducible refine Cl_plain (b8) ?_) | (with_reducible refine Cl_plain (bR) ?_) | (simp only [go_sem, s_law02_FixedLaws, NO_some, NO_none, beq_self_eq_true, eq_self, ↓reduceIte, Nat.reduceEqDiff, Nat.reduceAdd, Nat.reduceLeDiff, reduceCtorEq, Int.natCast_nonneg, List.getElem?_map, Int.toNat_natCast, List.length_map, List.replicate_zero, Bool.bne_false, Bool.bne_true, Nat.reduceLT, Int.reduceLT, Int.reduceLE, Int.reduceEq, Int.reduceToNat, List.length_replicate, List.isEmpty_cons, List.isEmpty_nil, Nat.le_refl, Int.le_refl, Int.sub_zero, Int.sub_self, ne_eq, List.length_append, Int.toNat_zero, Nat.zero_mul, Nat.mul_one, Nat.one_mul, Nat.reduceMul, *]) | (simp (disch := omega) only [s_law02_FixedLaws, NO_some, NO_none, beq_self_eq_true, eq_self, wrap_i64_of, i64_quo, i64_rem, sdiv, smod]) | ((with_reducible refine W_split (by with_unfolding_all exact rfl) (fun hsp => ?_) (fun hsp => ?_)) <;> (try simp only [Bool.not_true, Bool.not_false, decide_eq_true_eq, decide_eq_false_iff_not, Bool.not_eq_true', Bool.not_eq_false', not_false_eq_true] at hsp)) | ((with_reducible refine R_split (by with_unfolding_all exact rfl) (fun hsp => ?_) (fun hsp => ?_)) <;> (try simp only [Bool.not_true, Bool.not_false, decide_eq_true_eq, decide_eq_false_iff_not, Bool.not_eq_true', Bool.not_eq_false', not_false_eq_true] at hsp)) | (with_reducible refine R_fin (by repeat' (first | exact okp0 | refine okp rfl rfl rfl ?_)) ?_))
      refine wends (by first | exact Or.inl rfl | exact Or.inr rfl) ?_ (by first | rfl | simp [AV.ids, idsL])
      simp only [go_sem, r_law02_FixedLaws, ↓reduceIte, Nat.reduceEqDiff, Nat.reduceAdd, Nat.reduceLeDiff, reduceCtorEq, Int.natCast_nonneg, List.getElem?_map, Int.toNat_natCast, List.length_map, List.replicate_zero, Bool.bne_false, Bool.bne_true, Nat.reduceLT, Int.reduceLT, Int.reduceLE, Int.reduceEq, Int.reduceToNat, List.length_replicate, List.isEmpty_cons, List.isEmpty_nil, Nat.le_refl, Int.le_refl, Int.sub_zero, Int.sub_self, ne_eq, List.length_append, Int.toNat_zero, Nat.zero_mul, Nat.mul_one, Nat.one_mul, Nat.reduceMul]
  · obtain ⟨e1, rfl, e3⟩ := okN_t ha
    rw [e1, mul_one' ⟨e3, h2⟩] at b8
    rw [e1, div_one' ⟨e3, h2⟩] at b9
    simp only [Bool.false_eq_true, if_false, decide_eq_true e3] at bR
    cases hs : addM (valM false v) (valM y u) with
    | none =>
      rw [hs] at b1 b2
      clear b10 ra rb rba rab h1 h2 h3 h4 hs ha e1
      repeat' (first | (with_reducible refine Cl_plain (f_law02_alive) ?_) | (with_reducible refine Cl_plain (b0) ?_) | (with_reducible refine Cl_plain (b1) ?_) | (with_reducible refine Cl_plain (b2) ?_) | (with_reducible refine Cl_plain (b3) ?_) | (with_reducible refine Cl_plain (b4) ?_) | (with_reducible refine Cl_plain (b5) ?_) | (with_reducible refine Cl_plain (b6) ?_) | (with_reducible refine Cl_plain (b7) ?_) | (with_reducible refine Cl_plain (b8) ?_) | (with_reducible refine Cl_plain (b9) ?_) | (with_reducible refine Cl_plain (bR) ?_) | (simp only [go_sem, s_law02_FixedLaws, NO_some, NO_none, beq_self_eq_true, eq_self, ↓reduceIte, Nat.reduceEqDiff, Nat.reduceAdd, Nat.reduceLeDiff, reduceCtorEq, Int.natCast_nonneg, List.getElem?_map, Int.toNat_natCast, List.length_map, List.replicate_zero, Bool.bne_false, Bool.bne_true, Nat.reduceLT, Int.reduceLT, Int.reduceLE, Int.reduceEq, Int.reduceToNat, List.length_replicate, List.isEmpty_cons, List.isEmpty_nil, Nat.le_refl, Int.le_refl, Int.sub_zero, Int.sub_self, ne_eq, List.length_append, Int.toNat_zero, Nat.zero_mul, Nat.mul_one, Nat.one_mul, Nat.reduceMul, *]) | (simp (disch := omega) only [s_law02_FixedLaws, NO_some, NO_none, beq_self_eq_true, eq_self, wrap_i64_of, i64_quo, i64_rem, sdiv, smod]) | ((with_reducible refine W_split (by with_unfolding_all exact rfl) (fun hsp => ?_) (fun hsp => ?_)) <;> (try simp only [Bool.not_true, Bool.not_false, decide_eq_true_eq, decide_eq_false_iff_not, Bool.not_eq_true', Bool.not_eq_false', not_false_eq_true] at hsp)) | ((with_reducible refine R_split (by with_unfolding_all exact rfl) (fun hsp => ?_) (fun hsp => ?_)) <;> (try simp only [Bool.not_true, Bool.not_false, decide_eq_true_eq, decide_eq_false_iff_not, Bool.not_eq_true', Bool.not_eq_false', not_false_eq_true] at hsp)) | (with_reducible refine R_fin (by repeat' (first | exact okp0 | refine okp rfl rfl rfl ?_)) ?_))
      refine wends (by first | exact Or.inl rfl | exact Or.inr rfl) ?_ (by first | rfl | simp [AV.ids, idsL])
      simp only [go_sem, r_law02_FixedLaws, ↓reduceIte, Nat.reduceEqDiff, Nat.reduceAdd, Nat.reduceLeDiff, reduceCtorEq, Int.natCast_nonneg, List.getElem?_map, Int.toNat_natCast, List.length_map, List.replicate_zero, Bool.bne_false, Bool.bne_true, Nat.reduceLT, Int.reduceLT, Int.reduceLE, Int.reduceEq, Int.reduceToNat, List.length_replicate, List.isEmpty_cons, List.isEmpty_nil, Nat.le_refl, Int.le_refl, Int.sub_zero, Int.sub_self, ne_eq, List.length_append, Int.toNat_zero, Nat.zero_mul, Nat.mul_one, Nat.one_mul, Nat.reduceMul]
    | some s =>
      have hs2 := hs
      rw [e1] at hs2
      have hb := add_sub ⟨e3, h2⟩ hs2
      rw [hs] at b1 b2 b10
      rw [hb] at b10
      simp only [Option.isNone_some, Option.getD_some] at b10
      clear ra rb rba rab h1 h2 h3 h4 hs hs2 ha hb e1
      repeat' (first | (with_reducible refine Cl_plain (f_law02_alive) ?_) | (with_reducible refine Cl_plain (b0) ?_) | (with_reducible refine Cl_plain (b1) ?_) | (with_reducible refine Cl_plain (b2) ?_) | (with_reducible refine Cl_plain (b3) ?_) | (with_reducible refine Cl_plain (b4) ?_) | (with_reducible refine Cl_plain (b5) ?_) | (with_reducible refine Cl_plain (b6) ?_) | (with_reducible refine Cl_plain (b7) ?_) | (with_reducible refine Cl_plain (b8) ?_) | (with_reducible refine Cl_plain (b9) ?_) | (with_reducible refine Cl_plain (b10) ?_) | (with_reducible refine Cl_plain (bR) ?_) | (simp only [go_sem, s_law02_FixedLaws, NO_some, NO_none, beq_self_eq_true, eq_self, ↓reduceIte, Nat.reduceEqDiff, Nat.reduceAdd, Nat.reduceLeDiff, reduceCtorEq, Int.natCast_nonneg, List.getElem?_map, Int.toNat_natCast, List.length_map, List.replicate_zero, Bool.bne_false, Bool.bne_true, Nat.reduceLT, Int.reduceLT, Int.reduceLE, Int.reduceEq, Int.reduceToNat, List.length_replicate, List.isEmpty_cons, List.isEmpty_nil, Nat.le_refl, Int.le_refl, Int.sub_zero, Int.sub_self, ne_eq, List.length_append, Int.toNat_zero, Nat.zero_mul, Nat.mul_one, Nat.one_mul, Nat.reduceMul, *]) | (simp (disch := omega) only [s_law02_FixedLaws, NO_some, NO_none, beq_self_eq_true, eq_self, wrap_i64_of, i64_quo, i64_rem, sdiv, smod]) | ((with_reducible refine W_split (by with_unfolding_all exact rfl) (fun hsp => ?_) (fun hsp => ?_)) <;> (try simp only [Bool.not_true, Bool.not_false, decide_eq_true_eq, decide_eq_false_iff_not, Bool.not_eq_true', Bool.not_eq_false', not_false_eq_true] at hsp)) | ((with_reducible refine R_split (by with_unfolding_all exact rfl) (fun hsp => ?_) (fun hsp => ?_)) <;> (try simp only [Bool.not_true, Bool.not_false, decide_eq_true_eq, decide_eq_false_iff_not, Bool.not_eq_true', Bool.not_eq_false', not_false_eq_true] at hsp)) | (with_reducible refine R_fin (by repeat' (first | exact okp0 | refine okp rfl rfl rfl ?_)) ?_))
      refine wends (by first | exact Or.inl rfl | exact Or.inr rfl) ?_ (by first | rfl | simp [AV.ids, idsL])
      simp only [go_sem, r_law02_FixedLaws, ↓reduceIte, Nat.reduceEqDiff, Nat.reduceAdd, Nat.reduceLeDiff, reduceCtorEq, Int.natCast_nonneg, List.getElem?_map, Int.toNat_natCast, List.length_map, List.replicate_zero, Bool.bne_false, Bool.bne_true, Nat.reduceLT, Int.reduceLT, Int.reduceLE, Int.reduceEq, Int.reduceToNat, List.length_replicate, List.isEmpty_cons, List.isEmpty_nil, Nat.le_refl, Int.le_refl, Int.sub_zero, Int.sub_self, ne_eq, List.length_append, Int.toNat_zero, Nat.zero_mul, Nat.mul_one, Nat.one_mul, Nat.reduceMul]

end Go.Proofs.Ytkfobemhnonejaa
