/- Contracts of the document's roundings, shifts and roots of wide numbers. No statement of the seat is proved here. -/
import Derived.Test.YtmjlldlaigoflaaWdHigh
set_option linter.unusedSimpArgs false
set_option linter.unusedVariables false
namespace Go.Proofs.Ytmjlldlaigoflaa
open Go Go.Sx

/-- A quotient, to the nearest number. -/
def rnd (a d : Nat) : Nat := if d ≤ 2 * (a % d) then a / d + 1 else a / d
def roundV (a d : Nat) : Nat := if d = 0 then 0 else if 18446744073709551616 ≤ rnd a d then 0 else rnd a d
def roundE (a d : Nat) : Int := if d = 0 then 1 else if 18446744073709551616 ≤ rnd a d then 3 else 0

theorem f_ref01_Round (a d : Nat) (ha : a < 340282366920938463463374607431768211456) (hd : d < 18446744073709551616) : Meets Try.prog E0 n_ref01_Round [WV a, U d] [] (.tp [U (roundV a d), I (roundE a d)]) [] := by
  refine m_ref01_Round (by simp) (shut0 rfl) (shut0 rfl) (by simp) (by simp [keysOf]) ?_
  by_cases h0 : d = 0
  · subst h0
    simp only [go_sem, s_ref01_Round, ↓reduceIte, Nat.reduceEqDiff, Nat.reduceAdd, Nat.reduceLeDiff, reduceCtorEq, Nat.reduceLT, Int.reduceLT, Int.reduceLE, Int.reduceEq, Int.reduceToNat, Nat.reduceMul]
    refine Cl_plain (f_ref01_Div_z a) ?_
    simp only [go_sem, show decide ((1 : Int) = 0) = false from rfl, ↓reduceIte, Nat.reduceEqDiff, Nat.reduceAdd, Nat.reduceLeDiff, reduceCtorEq, Nat.reduceLT, Int.reduceLT, Int.reduceLE, Int.reduceEq, Int.reduceToNat, Nat.reduceMul]
    refine wends (by first | exact Or.inl rfl | exact Or.inr rfl) ?_ (by first | rfl | simp [AV.ids, idsL])
    simp only [go_sem, r_ref01_Round, ↓reduceIte, Nat.reduceEqDiff, Nat.reduceAdd, Nat.reduceLeDiff, reduceCtorEq, Nat.reduceLT, Int.reduceLT, Int.reduceLE, Int.reduceEq, Int.reduceToNat, Nat.reduceMul]
    simp [roundV, roundE]
  · have hr : a % d < d := Nat.mod_lt _ (by omega)
    have hq : a / d ≤ a := Nat.div_le_self _ _
    have hsub : (d + 18446744073709551616 - a % d % 18446744073709551616) % 18446744073709551616 = d - a % d := by omega
    have hz : decide ((0 : Int) = 0) = true := rfl
    simp only [go_sem, s_ref01_Round, ↓reduceIte, Nat.reduceEqDiff, Nat.reduceAdd, Nat.reduceLeDiff, reduceCtorEq, Nat.reduceLT, Int.reduceLT, Int.reduceLE, Int.reduceEq, Int.reduceToNat, Nat.reduceMul]
    refine Cl_plain (f_ref01_Div a d ha hd (by omega)) ?_
    simp only [go_sem, hz, hsub, ↓reduceIte, Nat.reduceEqDiff, Nat.reduceAdd, Nat.reduceLeDiff, reduceCtorEq, Nat.reduceLT, Int.reduceLT, Int.reduceLE, Int.reduceEq, Int.reduceToNat, Nat.reduceMul]
    refine W_split rfl (fun h => ?_) (fun h => ?_)
    · simp at h
      have hr1 : rnd a d = a / d + 1 := if_pos (by omega)
      have hq2 : a / d + 1 < 340282366920938463463374607431768211456 := by
        have hd2 : 2 ≤ d := by omega
        have : a / d ≤ a / 2 := Nat.div_le_div_left hd2 (by decide)
        omega
      simp only [go_sem, ↓reduceIte, Nat.reduceEqDiff, Nat.reduceAdd, Nat.reduceLeDiff, reduceCtorEq, Nat.reduceLT, Int.reduceLT, Int.reduceLE, Int.reduceEq, Int.reduceToNat, Nat.reduceMul]
      refine Cl_plain (f_ref01_Add (a / d) 1 (by omega) (by omega)) ?_
      simp only [go_sem, Nat.mod_eq_of_lt hq2, ← hr1, ↓reduceIte, Nat.reduceEqDiff, Nat.reduceAdd, Nat.reduceLeDiff, reduceCtorEq, Nat.reduceLT, Int.reduceLT, Int.reduceLE, Int.reduceEq, Int.reduceToNat, Nat.reduceMul]
      refine W_split rfl (fun h1 => ?_) (fun h1 => ?_)
      · simp at h1
        simp only [go_sem, ↓reduceIte, Nat.reduceEqDiff, Nat.reduceAdd, Nat.reduceLeDiff, reduceCtorEq, Nat.reduceLT, Int.reduceLT, Int.reduceLE, Int.reduceEq, Int.reduceToNat, Nat.reduceMul]
        refine wends (by first | exact Or.inl rfl | exact Or.inr rfl) ?_ (by first | rfl | simp [AV.ids, idsL])
        simp only [go_sem, r_ref01_Round, ↓reduceIte, Nat.reduceEqDiff, Nat.reduceAdd, Nat.reduceLeDiff, reduceCtorEq, Nat.reduceLT, Int.reduceLT, Int.reduceLE, Int.reduceEq, Int.reduceToNat, Nat.reduceMul]
        have h2 : 18446744073709551616 ≤ rnd a d := by omega
        simp [roundV, roundE, h0, h2]
      · simp at h1
        simp only [go_sem, ↓reduceIte, Nat.reduceEqDiff, Nat.reduceAdd, Nat.reduceLeDiff, reduceCtorEq, Nat.reduceLT, Int.reduceLT, Int.reduceLE, Int.reduceEq, Int.reduceToNat, Nat.reduceMul]
        refine wends (by first | exact Or.inl rfl | exact Or.inr rfl) ?_ (by first | rfl | simp [AV.ids, idsL])
        simp only [go_sem, r_ref01_Round, ↓reduceIte, Nat.reduceEqDiff, Nat.reduceAdd, Nat.reduceLeDiff, reduceCtorEq, Nat.reduceLT, Int.reduceLT, Int.reduceLE, Int.reduceEq, Int.reduceToNat, Nat.reduceMul]
        have h2 : ¬ 18446744073709551616 ≤ rnd a d := by omega
        simp only [roundV, roundE, if_neg h0, if_neg h2]
        simp only [Option.some.injEq, AV.tp.injEq, AV.ag.injEq, List.cons.injEq, AV.t.injEq, T.v.injEq, T.sl.injEq, Value.int.injEq, Value.bool.injEq, Value.string.injEq, decide_eq_decide, true_and, and_true]
        omega
    · simp at h
      have hr1 : rnd a d = a / d := if_neg (by omega)
      simp only [go_sem, ← hr1, ↓reduceIte, Nat.reduceEqDiff, Nat.reduceAdd, Nat.reduceLeDiff, reduceCtorEq, Nat.reduceLT, Int.reduceLT, Int.reduceLE, Int.reduceEq, Int.reduceToNat, Nat.reduceMul]
      refine W_split rfl (fun h1 => ?_) (fun h1 => ?_)
      · simp at h1
        simp only [go_sem, ↓reduceIte, Nat.reduceEqDiff, Nat.reduceAdd, Nat.reduceLeDiff, reduceCtorEq, Nat.reduceLT, Int.reduceLT, Int.reduceLE, Int.reduceEq, Int.reduceToNat, Nat.reduceMul]
        refine wends (by first | exact Or.inl rfl | exact Or.inr rfl) ?_ (by first | rfl | simp [AV.ids, idsL])
        simp only [go_sem, r_ref01_Round, ↓reduceIte, Nat.reduceEqDiff, Nat.reduceAdd, Nat.reduceLeDiff, reduceCtorEq, Nat.reduceLT, Int.reduceLT, Int.reduceLE, Int.reduceEq, Int.reduceToNat, Nat.reduceMul]
        have h2 : 18446744073709551616 ≤ rnd a d := by omega
        simp [roundV, roundE, h0, h2]
      · simp at h1
        simp only [go_sem, ↓reduceIte, Nat.reduceEqDiff, Nat.reduceAdd, Nat.reduceLeDiff, reduceCtorEq, Nat.reduceLT, Int.reduceLT, Int.reduceLE, Int.reduceEq, Int.reduceToNat, Nat.reduceMul]
        refine wends (by first | exact Or.inl rfl | exact Or.inr rfl) ?_ (by first | rfl | simp [AV.ids, idsL])
        simp only [go_sem, r_ref01_Round, ↓reduceIte, Nat.reduceEqDiff, Nat.reduceAdd, Nat.reduceLeDiff, reduceCtorEq, Nat.reduceLT, Int.reduceLT, Int.reduceLE, Int.reduceEq, Int.reduceToNat, Nat.reduceMul]
        have h2 : ¬ 18446744073709551616 ≤ rnd a d := by omega
        simp only [roundV, roundE, if_neg h0, if_neg h2]
        simp only [Option.some.injEq, AV.tp.injEq, AV.ag.injEq, List.cons.injEq, AV.t.injEq, T.v.injEq, T.sl.injEq, Value.int.injEq, Value.bool.injEq, Value.string.injEq, decide_eq_decide, true_and, and_true]
        omega

theorem root_exists (a : Nat) : ∀ b, a < b * b → ∃ n, n < b ∧ n * n ≤ a ∧ a < (n + 1) * (n + 1)
  | 0, h => by simp at h
  | b + 1, h => by
    by_cases hb : a < b * b
    · obtain ⟨n, h1, h2⟩ := root_exists a b hb
      exact ⟨n, by omega, h2⟩
    · exact ⟨b, by omega, by omega, h⟩

theorem root_le {a n m : Nat} (h1 : n * n ≤ a) (h2 : a < (n + 1) * (n + 1)) : m * m ≤ a ↔ m ≤ n := by
  constructor
  · intro h
    apply Decidable.byContradiction
    intro hc
    have := Nat.mul_le_mul (show n + 1 ≤ m by omega) (show n + 1 ≤ m by omega)
    omega
  · intro h
    exact Nat.le_trans (Nat.mul_le_mul h h) h1

end Go.Proofs.Ytmjlldlaigoflaa
