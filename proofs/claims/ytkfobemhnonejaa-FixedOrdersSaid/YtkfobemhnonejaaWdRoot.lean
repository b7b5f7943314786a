/- Contracts of the document's roundings, shifts and roots of wide numbers. No statement of the seat is proved here. -/
import Derived.Test.YtkfobemhnonejaaWdHigh
set_option linter.unusedSimpArgs false
set_option linter.unusedVariables false
namespace Go.Proofs.Ytkfobemhnonejaa
open Go Go.Sx

/-- A quotient, to the nearest number. -/
def rnd (a d : Nat) : Nat := if d ≤ 2 * (a % d) then a / d + 1 else a / d
def roundV (a d : Nat) : Nat := if d = 0 then 0 else if 18446744073709551616 ≤ rnd a d then 0 else rnd a d
def roundE (a d : Nat) : Int := if d = 0 then 1 else if 18446744073709551616 ≤ rnd a d then 3 else 0

theorem f_ref01_Round (a d : Nat) (ha : a < 340282366920938463463374607431768211456) (hd : d < 18446744073709551616) : Meets Try.prog E0 n_ref01_Round [WV a, U d] [] (.tp [U (roundV a d), I (roundE a d)]) [] := by
  refine m_ref01_Round (by simp) (shut0 rfl) (shut0 rfl) (by simp) (by simp [keysOf]) ?_
  by_cases h0 : d = 0
  · subst h0
    simp only [go_sem, s_ref01_Round, ↓reduceIte, Nat.reduceEqDiff, Nat.reduceAdd, Nat.reduceLeDiff, reduceCtorEq, Int.natCast_nonneg, List.getElem?_map, Int.toNat_natCast, List.length_map, List.replicate_zero, Bool.bne_false, Bool.bne_true, Nat.reduceLT, Int.reduceLT, Int.reduceLE, Int.reduceEq, Int.reduceToNat, List.length_replicate, List.isEmpty_cons, List.isEmpty_nil, Nat.le_refl, Int.le_refl, Int.sub_zero, Int.sub_self, ne_eq, List.length_append, Int.toNat_zero, Nat.zero_mul, Nat.mul_one, Nat.one_mul, Nat.reduceMul]
    refine Cl_plain (f_ref01_Div_z a) ?_
    simp only [go_sem, show decide ((1 : Int) = 0) = false from rfl, ↓reduceIte, Nat.reduceEqDiff, Nat.reduceAdd, Nat.reduceLeDiff, reduceCtorEq, Int.natCast_nonneg, List.getElem?_map, Int.toNat_natCast, List.length_map, List.replicate_zero, Bool.bne_false, Bool.bne_true, Nat.reduceLT, Int.reduceLT, Int.reduceLE, Int.reduceEq, Int.reduceToNat, List.length_replicate, List.isEmpty_cons, List.isEmpty_nil, Nat.le_refl, Int.le_refl, Int.sub_zero, Int.sub_self, ne_eq, List.length_append, Int.toNat_zero, Nat.zero_mul, Nat.mul_one, Nat.one_mul, Nat.reduceMul]
    refine wends (by first | exact Or.inl rfl | exact Or.inr rfl) ?_ (by first | rfl | simp [AV.ids, idsL])
    simp only [go_sem, r_ref01_Round, ↓reduceIte, Nat.reduceEqDiff, Nat.reduceAdd, Nat.reduceLeDiff, reduceCtorEq, Int.natCast_nonneg, List.getElem?_map, Int.toNat_natCast, List.length_map, List.replicate_zero, Bool.bne_false, Bool.bne_true, Nat.reduceLT, Int.reduceLT, Int.reduceLE, Int.reduceEq, Int.reduceToNat, List.length_replicate, List.isEmpty_cons, List.isEmpty_nil, Nat.le_refl, Int.le_refl, Int.sub_zero, Int.sub_self, ne_eq, List.length_append, Int.toNat_zero, Nat.zero_mul, Nat.mul_one, Nat.one_mul, Nat.reduceMul]
    simp [roundV, roundE]
  · have hr : a % d < d := Nat.mod_lt _ (by omega)
    have hq : a / d ≤ a := Nat.div_le_self _ _
    have hsub : (d + 18446744073709551616 - a % d % 18446744073709551616) % 18446744073709551616 = d - a % d := by omega
    have hz : decide ((0 : Int) = 0) = true := rfl
    simp only [go_sem, s_ref01_Round, ↓reduceIte, Nat.reduceEqDiff, Nat.reduceAdd, Nat.reduceLeDiff, reduceCtorEq, Int.natCast_nonneg, List.getElem?_map, Int.toNat_natCast, List.length_map, List.replicate_zero, Bool.bne_false, Bool.bne_true, Nat.reduceLT, Int.reduceLT, Int.reduceLE, Int.reduceEq, Int.reduceToNat, List.length_replicate, List.isEmpty_cons, List.isEmpty_nil, Nat.le_refl, Int.le_refl, Int.sub_zero, Int.sub_self, ne_eq, List.length_append, Int.toNat_zero, Nat.zero_mul, Nat.mul_one, Nat.one_mul, Nat.reduceMul]
    refine Cl_plain (f_ref01_Div a d ha hd (by omega)) ?_
    simp only [go_sem, hz, hsub, ↓reduceIte, Nat.reduceEqDiff, Nat.reduceAdd, Nat.reduceLeDiff, reduceCtorEq, Int.natCast_nonneg, List.getElem?_map, Int.toNat_natCast, List.length_map, List.replicate_zero, Bool.bne_false, Bool.bne_true, Nat.reduceLT, Int.reduceLT, Int.reduceLE, Int.reduceEq, Int.reduceToNat, List.length_replicate, List.isEmpty_cons, List.isEmpty_nil, Nat.le_refl, Int.le_refl, Int.sub_zero, Int.sub_self, ne_eq, List.length_append, Int.toNat_zero, Nat.zero_mul, Nat.mul_one, Nat.one_mul, Nat.reduceMul]
    refine W_split rfl (fun h => ?_) (fun h => ?_)
    · simp at h
      have hr1 : rnd a d = a / d + 1 := if_pos (by omega)
      have hq2 : a / d + 1 < 340282366920938463463374607431768211456 := by
        have hd2 : 2 ≤ d := by omega
        have : a / d ≤ a / 2 := Nat.div_le_div_left hd2 (by decide)
        omega
      simp only [go_sem, ↓reduceIte, Nat.reduceEqDiff, Nat.reduceAdd, Nat.reduceLeDiff, reduceCtorEq, Int.natCast_nonneg, List.getElem?_map, Int.toNat_natCast, List.length_map, List.replicate_zero, Bool.bne_false, Bool.bne_true, Nat.reduceLT, Int.reduceLT, Int.reduceLE, Int.reduceEq, Int.reduceToNat, List.length_replicate, List.isEmpty_cons, List.isEmpty_nil, Nat.le_refl, Int.le_refl, Int.sub_zero, Int.sub_self, ne_eq, List.length_append, Int.toNat_zero, Nat.zero_mul, Nat.mul_one, Nat.one_mul, Nat.reduceMul]
      refine Cl_plain (f_ref01_Add (a / d) 1 (by omega) (by omega)) ?_
      simp only [go_sem, Nat.mod_eq_of_lt hq2, ← hr1, ↓reduceIte, Nat.reduceEqDiff, Nat.reduceAdd, Nat.reduceLeDiff, reduceCtorEq, Int.natCast_nonneg, List.getElem?_map, Int.toNat_natCast, List.length_map, List.replicate_zero, Bool.bne_false, Bool.bne_true, Nat.reduceLT, Int.reduceLT, Int.reduceLE, Int.reduceEq, Int.reduceToNat, List.length_replicate, List.isEmpty_cons, List.isEmpty_nil, Nat.le_refl, Int.le_refl, Int.sub_zero, Int.sub_self, ne_eq, List.length_append, Int.toNat_zero, Nat.zero_mul, Nat.mul_one, Nat.one_mul, Nat.reduceMul]
      refine W_split rfl (fun h1 => ?_) (fun h1 => ?_)
      · simp at h1
        simp only [go_sem, ↓reduceIte, Nat.reduceEqDiff, Nat.reduceAdd, Nat.reduceLeDiff, reduceCtorEq, Int.natCast_nonneg, List.getElem?_map, Int.toNat_natCast, List.length_map, List.replicate_zero, Bool.bne_false, Bool.bne_true, Nat.reduceLT, Int.reduceLT, Int.reduceLE, Int.reduceEq, Int.reduceToNat, List.length_replicate, List.isEmpty_cons, List.isEmpty_nil, Nat.le_refl, Int.le_refl, Int.sub_zero, Int.sub_self, ne_eq, List.length_append, Int.toNat_zero, Nat.zero_mul, Nat.mul_one, Nat.one_mul, Nat.reduceMul]
        refine wends (by first | exact Or.inl rfl | exact Or.inr rfl) ?_ (by first | rfl | simp [AV.ids, idsL])
        simp only [go_sem, r_ref01_Round, ↓reduceIte, Nat.reduceEqDiff, Nat.reduceAdd, Nat.reduceLeDiff, reduceCtorEq, Int.natCast_nonneg, List.getElem?_map, Int.toNat_natCast, List.length_map, List.replicate_zero, Bool.bne_false, Bool.bne_true, Nat.reduceLT, Int.reduceLT, Int.reduceLE, Int.reduceEq, Int.reduceToNat, List.length_replicate, List.isEmpty_cons, List.isEmpty_nil, Nat.le_refl, Int.le_refl, Int.sub_zero, Int.sub_self, ne_eq, List.length_append, Int.toNat_zero, Nat.zero_mul, Nat.mul_one, Nat.one_mul, Nat.reduceMul]
        have h2 : 18446744073709551616 ≤ rnd a d := by omega
        simp [roundV, roundE, h0, h2]
      · simp at h1
        simp only [go_sem, ↓reduceIte, Nat.reduceEqDiff, Nat.reduceAdd, Nat.reduceLeDiff, reduceCtorEq, Int.natCast_nonneg, List.getElem?_map, Int.toNat_natCast, List.length_map, List.replicate_zero, Bool.bne_false, Bool.bne_true, Nat.reduceLT, Int.reduceLT, Int.reduceLE, Int.reduceEq, Int.reduceToNat, List.length_replicate, List.isEmpty_cons, List.isEmpty_nil, Nat.le_refl, Int.le_refl, Int.sub_zero, Int.sub_self, ne_eq, List.length_append, Int.toNat_zero, Nat.zero_mul, Nat.mul_one, Nat.one_mul, Nat.reduceMul]
        refine wends (by first | exact Or.inl rfl | exact Or.inr rfl) ?_ (by first | rfl | simp [AV.ids, idsL])
        simp only [go_sem, r_ref01_Round, ↓reduceIte, Nat.reduceEqDiff, Nat.reduceAdd, Nat.reduceLeDiff, reduceCtorEq, Int.natCast_nonneg, List.getElem?_map, Int.toNat_natCast, List.length_map, List.replicate_zero, Bool.bne_false, Bool.bne_true, Nat.reduceLT, Int.reduceLT, Int.reduceLE, Int.reduceEq, Int.reduceToNat, List.length_replicate, List.isEmpty_cons, List.isEmpty_nil, Nat.le_refl, Int.le_refl, Int.sub_zero, Int.sub_self, ne_eq, List.length_append, Int.toNat_zero, Nat.zero_mul, Nat.mul_one, Nat.one_mul, Nat.reduceMul]
        have h2 : ¬ 18446744073709551616 ≤ rnd a d := by omega
        simp only [roundV, roundE, if_neg h0, if_neg h2]
        simp only [Option.some.injEq, AV.tp.injEq, AV.ag.injEq, List.cons.injEq, AV.t.injEq, T.v.injEq, T.sl.injEq, Value.int.injEq, Value.bool.injEq, Value.string.injEq, decide_eq_decide, true_and, and_true]
        omega
    · simp at h
      have hr1 : rnd a d = a / d := if_neg (by omega)
      simp only [go_sem, ← hr1, ↓reduceIte, Nat.reduceEqDiff, Nat.reduceAdd, Nat.reduceLeDiff, reduceCtorEq, Int.natCast_nonneg, List.getElem?_map, Int.toNat_natCast, List.length_map, List.replicate_zero, Bool.bne_false, Bool.bne_true, Nat.reduceLT, Int.reduceLT, Int.reduceLE, Int.reduceEq, Int.reduceToNat, List.length_replicate, List.isEmpty_cons, List.isEmpty_nil, Nat.le_refl, Int.le_refl, Int.sub_zero, Int.sub_self, ne_eq, List.length_append, Int.toNat_zero, Nat.zero_mul, Nat.mul_one, Nat.one_mul, Nat.reduceMul]
      refine W_split rfl (fun h1 => ?_) (fun h1 => ?_)
      · simp at h1
        simp only [go_sem, ↓reduceIte, Nat.reduceEqDiff, Nat.reduceAdd, Nat.reduceLeDiff, reduceCtorEq, Int.natCast_nonneg, List.getElem?_map, Int.toNat_natCast, List.length_map, List.replicate_zero, Bool.bne_false, Bool.bne_true, Nat.reduceLT, Int.reduceLT, Int.reduceLE, Int.reduceEq, Int.reduceToNat, List.length_replicate, List.isEmpty_cons, List.isEmpty_nil, Nat.le_refl, Int.le_refl, Int.sub_zero, Int.sub_self, ne_eq, List.length_append, Int.toNat_zero, Nat.zero_mul, Nat.mul_one, Nat.one_mul, Nat.reduceMul]
        refine wends (by first | exact Or.inl rfl | exact Or.inr rfl) ?_ (by first | rfl | simp [AV.ids, idsL])
        simp only [go_sem, r_ref01_Round, ↓reduceIte, Nat.reduceEqDiff, Nat.reduceAdd, Nat.reduceLeDiff, reduceCtorEq, Int.natCast_nonneg, List.getElem?_map, Int.toNat_natCast, List.length_map, List.replicate_zero, Bool.bne_false, Bool.bne_true, Nat.reduceLT, Int.reduceLT, Int.reduceLE, Int.reduceEq, Int.reduceToNat, List.length_replicate, List.isEmpty_cons, List.isEmpty_nil, Nat.le_refl, Int.le_refl, Int.sub_zero, Int.sub_self, ne_eq, List.length_append, Int.toNat_zero, Nat.zero_mul, Nat.mul_one, Nat.one_mul, Nat.reduceMul]
        have h2 : 18446744073709551616 ≤ rnd a d := by omega
        simp [roundV, roundE, h0, h2]
      · simp at h1
        simp only [go_sem, ↓reduceIte, Nat.reduceEqDiff, Nat.reduceAdd, Nat.reduceLeDiff, reduceCtorEq, Int.natCast_nonneg, List.getElem?_map, Int.toNat_natCast, List.length_map, List.replicate_zero, Bool.bne_false, Bool.bne_true, Nat.reduceLT, Int.reduceLT, Int.reduceLE, Int.reduceEq, Int.reduceToNat, List.length_replicate, List.isEmpty_cons, List.isEmpty_nil, Nat.le_refl, Int.le_refl, Int.sub_zero, Int.sub_self, ne_eq, List.length_append, Int.toNat_zero, Nat.zero_mul, Nat.mul_one, Nat.one_mul, Nat.reduceMul]
        refine wends (by first | exact Or.inl rfl | exact Or.inr rfl) ?_ (by first | rfl | simp [AV.ids, idsL])
        simp only [go_sem, r_ref01_Round, ↓reduceIte, Nat.reduceEqDiff, Nat.reduceAdd, Nat.reduceLeDiff, reduceCtorEq, Int.natCast_nonneg, List.getElem?_map, Int.toNat_natCast, List.length_map, List.replicate_zero, Bool.bne_false, Bool.bne_true, Nat.reduceLT, Int.reduceLT, Int.reduceLE, Int.reduceEq, Int.reduceToNat, List.length_replicate, List.isEmpty_cons, List.isEmpty_nil, Nat.le_refl, Int.le_refl, Int.sub_zero, Int.sub_self, ne_eq, List.length_append, Int.toNat_zero, Nat.zero_mul, Nat.mul_one, Nat.one_mul, Nat.reduceMul]
        have h2 : ¬ 18446744073709551616 ≤ rnd a d := by omega
        simp only [roundV, roundE, if_neg h0, if_neg h2]
        simp only [Option.some.injEq, AV.tp.injEq, AV.ag.injEq, List.cons.injEq, AV.t.injEq, T.v.injEq, T.sl.injEq, Value.int.injEq, Value.bool.injEq, Value.string.injEq, decide_eq_decide, true_and, and_true]
        omega

theorem root_exists (a : Nat) : ∀ b, a < b * b → ∃ n, n < b ∧ n * n ≤ a ∧ a < (n + 1) * (n + 1)
  | 0, h => by simp at h
  | b + 1, h => by
    by_cases hb : a < b * b
    · obtain ⟨n, h1, h2⟩ := root_exists a b hb
      exact ⟨n, by omega, h2⟩
    · exact ⟨b, by omega, by omega, h⟩

theorem root_le {a n m : Nat} (h1 : n * n ≤ a) (h2 : a < (n + 1) * (n + 1)) : m * m ≤ a ↔ m ≤ n := by
  constructor
  · intro h
    apply Decidable.byContradiction
    intro hc
    have := Nat.mul_le_mul (show n + 1 ≤ m by omega) (show n + 1 ≤ m by omega)
    omega
  · intro h
    exact Nat.le_trans (Nat.mul_le_mul h h) h1

theorem f_ref01_Root (a n : Nat) (ha : a < 340282366920938463463374607431768211456) (hn : n < 18446744073709551616) (h1 : n * n ≤ a) (h2 : a < (n + 1) * (n + 1)) : Meets Try.prog E0 n_ref01_Root [WV a] [] (U n) [] := by
  refine m_ref01_Root (by simp) (shut0 rfl) (shut0 rfl) (by simp) (by simp [keysOf]) ?_
  simp only [go_sem, s_ref01_Root, ↓reduceIte, Nat.reduceEqDiff, Nat.reduceAdd, Nat.reduceLeDiff, reduceCtorEq, Int.natCast_nonneg, List.getElem?_map, Int.toNat_natCast, List.length_map, List.replicate_zero, Bool.bne_false, Bool.bne_true, Nat.reduceLT, Int.reduceLT, Int.reduceLE, Int.reduceEq, Int.reduceToNat, List.length_replicate, List.isEmpty_cons, List.isEmpty_nil, Nat.le_refl, Int.le_refl, Int.sub_zero, Int.sub_self, ne_eq, List.length_append, Int.toNat_zero, Nat.zero_mul, Nat.mul_one, Nat.one_mul, Nat.reduceMul]
  refine W_loop (fun k : Nat => k) (fun k => k ≤ 64)
    (fun k => [(1, .ptr 100 0), (2, U (0 : Nat)), (3, U (n / 2 ^ k * 2 ^ k : Nat)), (4, I ((k : Int) - 1))])
    (fun k => [(100, .box [U (a / 18446744073709551616 : Nat), U (a % 18446744073709551616 : Nat)])])
    64 (by omega) ?_ ?_
  · rw [show n / 2 ^ 64 * 2 ^ 64 = 0 by omega]
    exact (subL [] [] (by simp [envS, go_sem, wkV, wkL, AV.ids, idsL, keysOf, ren]) (by simp [stoS, go_sem, wkV, wkL, wkO, AV.ids, Ob.ids, idsL, keysOf, ren, AV.one]) (by simp [keysOf, ren]) (by simp) (by simp [keysOf]) (by simp [keysOf]))
  · intro k hk
    simp only [go_sem, ↓reduceIte, Nat.reduceEqDiff, Nat.reduceAdd, Nat.reduceLeDiff, reduceCtorEq, Int.natCast_nonneg, List.getElem?_map, Int.toNat_natCast, List.length_map, List.replicate_zero, Bool.bne_false, Bool.bne_true, Nat.reduceLT, Int.reduceLT, Int.reduceLE, Int.reduceEq, Int.reduceToNat, List.length_replicate, List.isEmpty_cons, List.isEmpty_nil, Nat.le_refl, Int.le_refl, Int.sub_zero, Int.sub_self, ne_eq, List.length_append, Int.toNat_zero, Nat.zero_mul, Nat.mul_one, Nat.one_mul, Nat.reduceMul]
    refine W_split rfl (fun h => ?_) (fun h => ?_)
    · simp at h
      obtain ⟨j, rfl⟩ : ∃ j, k = j + 1 := ⟨k - 1, by omega⟩
      have e1 : ((j + 1 : Nat) : Int) - 1 = (j : Int) := by omega
      have e2 : IntKind.i64.wrap ((j : Int) - 1) = (j : Int) - 1 := wrap_i64_of (by omega) (by omega)
      have e3 : IntKind.u64.wrap (j : Int) = (j : Int) := by rw [wrap_u64]; omega
      have hp := Nat.two_pow_pos j
      have hx : n / 2 ^ (j + 1) * 2 ^ (j + 1) = n / 2 ^ j / 2 * 2 * 2 ^ j := by rw [Nat.pow_succ, ← Nat.div_div_eq_div_mul, Nat.mul_comm (2 ^ j), ← Nat.mul_assoc]
      have hxn : n / 2 ^ j / 2 * 2 * 2 ^ j + n / 2 ^ j % 2 * 2 ^ j = n / 2 ^ j * 2 ^ j := by rw [← Nat.add_mul, Nat.div_add_mod']
      have hle : n / 2 ^ j * 2 ^ j ≤ n := Nat.div_mul_le_self _ _
      have hgt : n < n / 2 ^ j * 2 ^ j + 2 ^ j := by have := Nat.lt_div_mul_add (a := n) hp; omega
      have hb0 : n / 2 ^ j / 2 * 2 * 2 ^ j / 2 ^ j % 2 = 0 := by rw [Nat.mul_div_cancel _ hp]; omega
      have hbit := bit_lt n j
      have hm : n / 2 ^ j / 2 * 2 * 2 ^ j + 2 ^ j < 18446744073709551616 := by
        rw [← or_pow hb0]
        exact Nat.or_lt_two_pow (n := 64) (by omega) (Nat.pow_lt_pow_right (by decide) (by omega))
      have eo : n / 2 ^ j / 2 * 2 * 2 ^ j % 18446744073709551616 ||| 1 * 2 ^ (min j 64) % 18446744073709551616 % 18446744073709551616 = n / 2 ^ j / 2 * 2 * 2 ^ j + 2 ^ j := by
        rw [shl_one (by omega), Nat.mod_eq_of_lt (show n / 2 ^ j / 2 * 2 * 2 ^ j < 18446744073709551616 by omega), or_pow hb0]
      rw [Nat.one_mul] at eo
      rw [hx]
      simp only [go_sem, e1, e3, eo, ↓reduceIte, Nat.reduceEqDiff, Nat.reduceAdd, Nat.reduceLeDiff, reduceCtorEq, Int.natCast_nonneg, List.getElem?_map, Int.toNat_natCast, List.length_map, List.replicate_zero, Bool.bne_false, Bool.bne_true, Nat.reduceLT, Int.reduceLT, Int.reduceLE, Int.reduceEq, Int.reduceToNat, List.length_replicate, List.isEmpty_cons, List.isEmpty_nil, Nat.le_refl, Int.le_refl, Int.sub_zero, Int.sub_self, ne_eq, List.length_append, Int.toNat_zero, Nat.zero_mul, Nat.mul_one, Nat.one_mul, Nat.reduceMul]
      refine Cl_plain (f_ref01_Mul _ _ hm hm) ?_
      simp only [go_sem, ↓reduceIte, Nat.reduceEqDiff, Nat.reduceAdd, Nat.reduceLeDiff, reduceCtorEq, Int.natCast_nonneg, List.getElem?_map, Int.toNat_natCast, List.length_map, List.replicate_zero, Bool.bne_false, Bool.bne_true, Nat.reduceLT, Int.reduceLT, Int.reduceLE, Int.reduceEq, Int.reduceToNat, List.length_replicate, List.isEmpty_cons, List.isEmpty_nil, Nat.le_refl, Int.le_refl, Int.sub_zero, Int.sub_self, ne_eq, List.length_append, Int.toNat_zero, Nat.zero_mul, Nat.mul_one, Nat.one_mul, Nat.reduceMul]
      refine Cl_plain (f_ref01_Less _ _) ?_
      simp only [go_sem, ↓reduceIte, Nat.reduceEqDiff, Nat.reduceAdd, Nat.reduceLeDiff, reduceCtorEq, Int.natCast_nonneg, List.getElem?_map, Int.toNat_natCast, List.length_map, List.replicate_zero, Bool.bne_false, Bool.bne_true, Nat.reduceLT, Int.reduceLT, Int.reduceLE, Int.reduceEq, Int.reduceToNat, List.length_replicate, List.isEmpty_cons, List.isEmpty_nil, Nat.le_refl, Int.le_refl, Int.sub_zero, Int.sub_self, ne_eq, List.length_append, Int.toNat_zero, Nat.zero_mul, Nat.mul_one, Nat.one_mul, Nat.reduceMul]
      refine R_fin (okp rfl rfl rfl okp0) ?_
      simp only [go_sem, ↓reduceIte, Nat.reduceEqDiff, Nat.reduceAdd, Nat.reduceLeDiff, reduceCtorEq, Int.natCast_nonneg, List.getElem?_map, Int.toNat_natCast, List.length_map, List.replicate_zero, Bool.bne_false, Bool.bne_true, Nat.reduceLT, Int.reduceLT, Int.reduceLE, Int.reduceEq, Int.reduceToNat, List.length_replicate, List.isEmpty_cons, List.isEmpty_nil, Nat.le_refl, Int.le_refl, Int.sub_zero, Int.sub_self, ne_eq, List.length_append, Int.toNat_zero, Nat.zero_mul, Nat.mul_one, Nat.one_mul, Nat.reduceMul]
      refine W_split rfl (fun h3 => ?_) (fun h3 => ?_)
      · simp only [Bool.not_eq_true', decide_eq_false_iff_not, Nat.not_lt] at h3
        rw [root_le h1 h2] at h3
        simp only [go_sem, e1, e2, ↓reduceIte, Nat.reduceEqDiff, Nat.reduceAdd, Nat.reduceLeDiff, reduceCtorEq, Int.natCast_nonneg, List.getElem?_map, Int.toNat_natCast, List.length_map, List.replicate_zero, Bool.bne_false, Bool.bne_true, Nat.reduceLT, Int.reduceLT, Int.reduceLE, Int.reduceEq, Int.reduceToNat, List.length_replicate, List.isEmpty_cons, List.isEmpty_nil, Nat.le_refl, Int.le_refl, Int.sub_zero, Int.sub_self, ne_eq, List.length_append, Int.toNat_zero, Nat.zero_mul, Nat.mul_one, Nat.one_mul, Nat.reduceMul]
        refine rd_of j (by omega) (by omega) ?_
        have e5 : n / 2 ^ j % 2 = 1 := by
          rcases (show n / 2 ^ j % 2 = 0 ∨ n / 2 ^ j % 2 = 1 by omega) with h4 | h4
          · rw [h4] at hxn; omega
          · exact h4
        rw [e5, Nat.one_mul] at hxn
        rw [hxn]
        exact (subL [] [] (by simp [envS, go_sem, wkV, wkL, AV.ids, idsL, keysOf, ren]) (by simp [stoS, go_sem, wkV, wkL, wkO, AV.ids, Ob.ids, idsL, keysOf, ren, AV.one]) (by simp [keysOf, ren]) (by simp) (by simp [keysOf]) (by simp [keysOf]))
      · simp only [Bool.not_eq_false', decide_eq_true_eq] at h3
        have h3' : ¬ (n / 2 ^ j / 2 * 2 * 2 ^ j + 2 ^ j ≤ n) := by rw [← root_le h1 h2]; omega
        simp only [go_sem, e1, e2, ↓reduceIte, Nat.reduceEqDiff, Nat.reduceAdd, Nat.reduceLeDiff, reduceCtorEq, Int.natCast_nonneg, List.getElem?_map, Int.toNat_natCast, List.length_map, List.replicate_zero, Bool.bne_false, Bool.bne_true, Nat.reduceLT, Int.reduceLT, Int.reduceLE, Int.reduceEq, Int.reduceToNat, List.length_replicate, List.isEmpty_cons, List.isEmpty_nil, Nat.le_refl, Int.le_refl, Int.sub_zero, Int.sub_self, ne_eq, List.length_append, Int.toNat_zero, Nat.zero_mul, Nat.mul_one, Nat.one_mul, Nat.reduceMul]
        refine rd_of j (by omega) (by omega) ?_
        have e5 : n / 2 ^ j % 2 = 0 := by
          rcases (show n / 2 ^ j % 2 = 0 ∨ n / 2 ^ j % 2 = 1 by omega) with h4 | h4
          · exact h4
          · rw [h4, Nat.one_mul] at hxn; omega
        rw [e5, Nat.zero_mul, Nat.add_zero] at hxn
        rw [hxn]
        exact (subL [] [] (by simp [envS, go_sem, wkV, wkL, AV.ids, idsL, keysOf, ren]) (by simp [stoS, go_sem, wkV, wkL, wkO, AV.ids, Ob.ids, idsL, keysOf, ren, AV.one]) (by simp [keysOf, ren]) (by simp) (by simp [keysOf]) (by simp [keysOf]))
    · simp at h
      have e : k = 0 := by omega
      subst e
      simp only [go_sem, ↓reduceIte, Nat.reduceEqDiff, Nat.reduceAdd, Nat.reduceLeDiff, reduceCtorEq, Int.natCast_nonneg, List.getElem?_map, Int.toNat_natCast, List.length_map, List.replicate_zero, Bool.bne_false, Bool.bne_true, Nat.reduceLT, Int.reduceLT, Int.reduceLE, Int.reduceEq, Int.reduceToNat, List.length_replicate, List.isEmpty_cons, List.isEmpty_nil, Nat.le_refl, Int.le_refl, Int.sub_zero, Int.sub_self, ne_eq, List.length_append, Int.toNat_zero, Nat.zero_mul, Nat.mul_one, Nat.one_mul, Nat.reduceMul]
      refine wends (by first | exact Or.inl rfl | exact Or.inr rfl) ?_ (by first | rfl | simp [AV.ids, idsL])
      simp only [go_sem, r_ref01_Root, ↓reduceIte, Nat.reduceEqDiff, Nat.reduceAdd, Nat.reduceLeDiff, reduceCtorEq, Int.natCast_nonneg, List.getElem?_map, Int.toNat_natCast, List.length_map, List.replicate_zero, Bool.bne_false, Bool.bne_true, Nat.reduceLT, Int.reduceLT, Int.reduceLE, Int.reduceEq, Int.reduceToNat, List.length_replicate, List.isEmpty_cons, List.isEmpty_nil, Nat.le_refl, Int.le_refl, Int.sub_zero, Int.sub_self, ne_eq, List.length_append, Int.toNat_zero, Nat.zero_mul, Nat.mul_one, Nat.one_mul, Nat.reduceMul]
      simp

end Go.Proofs.Ytkfobemhnonejaa
