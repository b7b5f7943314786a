/- Contracts of the program's numbers with six decimals. No statement of the seat is proved here. -/
import Derived.Test.YtgablplpdocniaaFxMath
set_option linter.unusedSimpArgs false
set_option linter.unusedVariables false
namespace Go.Proofs.Ytgablplpdocniaa
open Go Go.Sx

theorem f_fixed_Right (x : Bool) (v : Int) (h1 : -9223372036854775808 ≤ v) : Meets Try.prog E0 n_fixed_Right [NV x v] [] (Bo (if x then decide (v = 0) else decide (-9223372036854775808 < v))) [] := by
  refine m_fixed_Right (by simp) (shut0 rfl) (shut0 rfl) (by simp) (by simp [keysOf]) ?_
  cases x
  all_goals
    repeat' (first | (simp only [go_sem, s_fixed_Right, ↓reduceIte, Nat.reduceEqDiff, Nat.reduceAdd, Nat.reduceLeDiff, reduceCtorEq, Nat.reduceLT, Int.reduceLT, Int.reduceLE, Int.reduceEq, Int.reduceToNat, Nat.reduceMul, *]) | (simp (disch := omega) only [s_fixed_Right, wrap_i64_of, i64_quo, i64_rem, sdiv, smod]) | ((with_reducible refine W_split (by with_unfolding_all exact rfl) (fun hsp => ?_) (fun hsp => ?_)) <;> (try simp only [Bool.not_true, Bool.not_false, decide_eq_true_eq, decide_eq_false_iff_not, Bool.not_eq_true', Bool.not_eq_false', not_false_eq_true] at hsp)) | ((with_reducible refine R_split (by with_unfolding_all exact rfl) (fun hsp => ?_) (fun hsp => ?_)) <;> (try simp only [Bool.not_true, Bool.not_false, decide_eq_true_eq, decide_eq_false_iff_not, Bool.not_eq_true', Bool.not_eq_false', not_false_eq_true] at hsp)) | (with_reducible refine R_fin (by repeat' (first | exact okp0 | refine okp rfl rfl rfl ?_)) ?_))
    refine wends (by first | exact Or.inl rfl | exact Or.inr rfl) ?_ (by first | rfl | simp [AV.ids, idsL])
    simp only [go_sem, r_fixed_Right, ↓reduceIte, Nat.reduceEqDiff, Nat.reduceAdd, Nat.reduceLeDiff, reduceCtorEq, Nat.reduceLT, Int.reduceLT, Int.reduceLE, Int.reduceEq, Int.reduceToNat, Nat.reduceMul]
    try (simp only [Option.some.injEq, AV.tp.injEq, AV.ag.injEq, List.cons.injEq, AV.t.injEq, T.v.injEq, T.sl.injEq, Value.int.injEq, Value.bool.injEq, Value.string.injEq, decide_eq_decide, true_and, and_true]; omega)

theorem neg_range {x : Bool} {v : Int} (h2 : v < 9223372036854775808) : Rt (negM (valM x v)) := by
  intro z hz
  simp only [negM, Option.map_eq_some_iff] at hz
  obtain ⟨y, hy, rfl⟩ := hz
  have := val_range h2 hy
  omega

theorem sqrt_lt {n b : Nat} (h : n < b * b) : n.sqrt < b := by
  have h1 := Nat.sqrt_le n
  apply Decidable.byContradiction
  intro hc
  have := Nat.mul_le_mul (show b ≤ n.sqrt by omega) (show b ≤ n.sqrt by omega)
  omega

/-- The one of two that is wanted, where both count; else the one that counts. -/
def pickM (a b : Option Int) (w : Bool) : Option Int := match a, b with
  | some x, some y => if w then some x else some y
  | some x, none => some x
  | none, y => y

theorem pick_less (x y : Bool) (v u : Int) : pickM (valM x v) (valM y u) (decide (v ≤ u)) = lessM (valM x v) (valM y u) := by
  cases ha : okN x v <;> cases hb : okN y u
  · rw [okN_f ha, okN_f hb]; rfl
  · rw [okN_f ha, (okN_t hb).1]; rfl
  · rw [(okN_t ha).1, okN_f hb]; rfl
  · rw [(okN_t ha).1, (okN_t hb).1]; simp [pickM, lessM]

theorem pick_more (x y : Bool) (v u : Int) : pickM (valM x v) (valM y u) (decide (u ≤ v)) = moreM (valM x v) (valM y u) := by
  cases ha : okN x v <;> cases hb : okN y u
  · rw [okN_f ha, okN_f hb]; rfl
  · rw [okN_f ha, (okN_t hb).1]; rfl
  · rw [(okN_t ha).1, okN_f hb]; rfl
  · rw [(okN_t ha).1, (okN_t hb).1]; simp [pickM, moreM]

end Go.Proofs.Ytgablplpdocniaa
