/- Contracts of what says whether archives go together. No statement of the seat is proved here. -/
import Derived.Test.YtcadhlakhdndjaaDoorLdMath
import Derived.Test.YtcadhlakhdndjaaDoorSxH
set_option linter.unusedSimpArgs false
set_option linter.unusedVariables false
namespace Go.Proofs.YtcadhlakhdndjaaDoor
open Go Go.Sx

theorem f_retention_single (a b : Int) : Meets Tryd.prog E0 n_retention_single [.ag [I a, I b]] [] (Bo (sizedB a b)) [] := by
  refine m_retention_single (by simp) (shut0 rfl) (shut0 rfl) (by simp) (by simp [keysOf]) ?_
  repeat' (first | (simp only [go_sem, s_retention_single, ↓reduceIte, Nat.reduceEqDiff, Nat.reduceAdd, Nat.reduceLeDiff, reduceCtorEq, Nat.reduceLT, Int.reduceLT, Int.reduceLE, Int.reduceEq, Int.reduceToNat, Nat.reduceMul, *]) | (simp (disch := omega) only [s_retention_single, wrap_i64_of, i64_quo, i64_rem, sdiv, smod]) | ((with_reducible refine W_split (by with_unfolding_all exact rfl) (fun hsp => ?_) (fun hsp => ?_)) <;> (try simp only [Bool.not_true, Bool.not_false, decide_eq_true_eq, decide_eq_false_iff_not, Bool.not_eq_true', Bool.not_eq_false', not_false_eq_true] at hsp)) | ((with_reducible refine R_split (by with_unfolding_all exact rfl) (fun hsp => ?_) (fun hsp => ?_)) <;> (try simp only [Bool.not_true, Bool.not_false, decide_eq_true_eq, decide_eq_false_iff_not, Bool.not_eq_true', Bool.not_eq_false', not_false_eq_true] at hsp)) | (with_reducible refine R_fin (by repeat' (first | exact okp0 | refine okp rfl rfl rfl ?_)) ?_))
  all_goals
    refine wends (by first | exact Or.inl rfl | exact Or.inr rfl) ?_ (by first | rfl | simp [AV.ids, idsL])
    simp only [go_sem, r_retention_single, ↓reduceIte, Nat.reduceEqDiff, Nat.reduceAdd, Nat.reduceLeDiff, reduceCtorEq, Nat.reduceLT, Int.reduceLT, Int.reduceLE, Int.reduceEq, Int.reduceToNat, Nat.reduceMul]
    simp [sizedB, *]

theorem f_ref10_Single (a b : Int) : Meets Tryd.prog E0 n_ref10_Single [.ag [I a, I b]] [] (Bo (sizedB a b)) [] := by
  refine m_ref10_Single (by simp) (shut0 rfl) (shut0 rfl) (by simp) (by simp [keysOf]) ?_
  repeat' (first | (simp only [go_sem, s_ref10_Single, ↓reduceIte, Nat.reduceEqDiff, Nat.reduceAdd, Nat.reduceLeDiff, reduceCtorEq, Nat.reduceLT, Int.reduceLT, Int.reduceLE, Int.reduceEq, Int.reduceToNat, Nat.reduceMul, *]) | (simp (disch := omega) only [s_ref10_Single, wrap_i64_of, i64_quo, i64_rem, sdiv, smod]) | ((with_reducible refine W_split (by with_unfolding_all exact rfl) (fun hsp => ?_) (fun hsp => ?_)) <;> (try simp only [Bool.not_true, Bool.not_false, decide_eq_true_eq, decide_eq_false_iff_not, Bool.not_eq_true', Bool.not_eq_false', not_false_eq_true] at hsp)) | ((with_reducible refine R_split (by with_unfolding_all exact rfl) (fun hsp => ?_) (fun hsp => ?_)) <;> (try simp only [Bool.not_true, Bool.not_false, decide_eq_true_eq, decide_eq_false_iff_not, Bool.not_eq_true', Bool.not_eq_false', not_false_eq_true] at hsp)) | (with_reducible refine R_fin (by repeat' (first | exact okp0 | refine okp rfl rfl rfl ?_)) ?_))
  all_goals
    refine wends (by first | exact Or.inl rfl | exact Or.inr rfl) ?_ (by first | rfl | simp [AV.ids, idsL])
    simp only [go_sem, r_ref10_Single, ↓reduceIte, Nat.reduceEqDiff, Nat.reduceAdd, Nat.reduceLeDiff, reduceCtorEq, Nat.reduceLT, Int.reduceLT, Int.reduceLE, Int.reduceEq, Int.reduceToNat, Nat.reduceMul]
    simp [sizedB, *]

theorem f_retention_Reach (a b : Int) : Meets Tryd.prog E0 n_retention_Reach [.ag [I a, I b]] [] (I (rchM (a, b))) [] := by
  refine m_retention_Reach (by simp) (shut0 rfl) (shut0 rfl) (by simp) (by simp [keysOf]) ?_
  cases h : sizedB a b
  · repeat' (first | (with_reducible refine Cl_plain (f_retention_single a b) ?_) | (simp only [go_sem, s_retention_Reach, ↓reduceIte, Nat.reduceEqDiff, Nat.reduceAdd, Nat.reduceLeDiff, reduceCtorEq, Nat.reduceLT, Int.reduceLT, Int.reduceLE, Int.reduceEq, Int.reduceToNat, Nat.reduceMul, *]) | (simp (disch := omega) only [s_retention_Reach, wrap_i64_of, i64_quo, i64_rem, sdiv, smod]) | ((with_reducible refine W_split (by with_unfolding_all exact rfl) (fun hsp => ?_) (fun hsp => ?_)) <;> (try simp only [Bool.not_true, Bool.not_false, decide_eq_true_eq, decide_eq_false_iff_not, Bool.not_eq_true', Bool.not_eq_false', not_false_eq_true] at hsp)) | ((with_reducible refine R_split (by with_unfolding_all exact rfl) (fun hsp => ?_) (fun hsp => ?_)) <;> (try simp only [Bool.not_true, Bool.not_false, decide_eq_true_eq, decide_eq_false_iff_not, Bool.not_eq_true', Bool.not_eq_false', not_false_eq_true] at hsp)) | (with_reducible refine R_fin (by repeat' (first | exact okp0 | refine okp rfl rfl rfl ?_)) ?_))
    refine wends (by first | exact Or.inl rfl | exact Or.inr rfl) ?_ (by first | rfl | simp [AV.ids, idsL])
    simp only [go_sem, r_retention_Reach, ↓reduceIte, Nat.reduceEqDiff, Nat.reduceAdd, Nat.reduceLeDiff, reduceCtorEq, Nat.reduceLT, Int.reduceLT, Int.reduceLE, Int.reduceEq, Int.reduceToNat, Nat.reduceMul]
    simp [rchM, szB, h]
  · have h' := sizedB_iff.1 h
    have hb := mul_bd h'.1 h'.2.1 h'.2.2.1 h'.2.2.2
    have hw : IntKind.i64.wrap (a * b) = a * b := wrap_i64_of (by omega) (by omega)
    clear h' hb
    repeat' (first | (with_reducible refine Cl_plain (f_retention_single a b) ?_) | (simp only [go_sem, s_retention_Reach, hw, ↓reduceIte, Nat.reduceEqDiff, Nat.reduceAdd, Nat.reduceLeDiff, reduceCtorEq, Nat.reduceLT, Int.reduceLT, Int.reduceLE, Int.reduceEq, Int.reduceToNat, Nat.reduceMul, *]) | (simp (disch := omega) only [s_retention_Reach, hw, wrap_i64_of, i64_quo, i64_rem, sdiv, smod]) | ((with_reducible refine W_split (by with_unfolding_all exact rfl) (fun hsp => ?_) (fun hsp => ?_)) <;> (try simp only [Bool.not_true, Bool.not_false, decide_eq_true_eq, decide_eq_false_iff_not, Bool.not_eq_true', Bool.not_eq_false', not_false_eq_true] at hsp)) | ((with_reducible refine R_split (by with_unfolding_all exact rfl) (fun hsp => ?_) (fun hsp => ?_)) <;> (try simp only [Bool.not_true, Bool.not_false, decide_eq_true_eq, decide_eq_false_iff_not, Bool.not_eq_true', Bool.not_eq_false', not_false_eq_true] at hsp)) | (with_reducible refine R_fin (by repeat' (first | exact okp0 | refine okp rfl rfl rfl ?_)) ?_))
    refine wends (by first | exact Or.inl rfl | exact Or.inr rfl) ?_ (by first | rfl | simp [AV.ids, idsL])
    simp only [go_sem, r_retention_Reach, ↓reduceIte, Nat.reduceEqDiff, Nat.reduceAdd, Nat.reduceLeDiff, reduceCtorEq, Nat.reduceLT, Int.reduceLT, Int.reduceLE, Int.reduceEq, Int.reduceToNat, Nat.reduceMul]
    simp [rchM, szB, h]

theorem f_ref10_Reach (a b : Int) : Meets Tryd.prog E0 n_ref10_Reach [.ag [I a, I b]] [] (I (rchM (a, b))) [] := by
  refine m_ref10_Reach (by simp) (shut0 rfl) (shut0 rfl) (by simp) (by simp [keysOf]) ?_
  cases h : sizedB a b
  · repeat' (first | (with_reducible refine Cl_plain (f_ref10_Single a b) ?_) | (simp only [go_sem, s_ref10_Reach, ↓reduceIte, Nat.reduceEqDiff, Nat.reduceAdd, Nat.reduceLeDiff, reduceCtorEq, Nat.reduceLT, Int.reduceLT, Int.reduceLE, Int.reduceEq, Int.reduceToNat, Nat.reduceMul, *]) | (simp (disch := omega) only [s_ref10_Reach, wrap_i64_of, i64_quo, i64_rem, sdiv, smod]) | ((with_reducible refine W_split (by with_unfolding_all exact rfl) (fun hsp => ?_) (fun hsp => ?_)) <;> (try simp only [Bool.not_true, Bool.not_false, decide_eq_true_eq, decide_eq_false_iff_not, Bool.not_eq_true', Bool.not_eq_false', not_false_eq_true] at hsp)) | ((with_reducible refine R_split (by with_unfolding_all exact rfl) (fun hsp => ?_) (fun hsp => ?_)) <;> (try simp only [Bool.not_true, Bool.not_false, decide_eq_true_eq, decide_eq_false_iff_not, Bool.not_eq_true', Bool.not_eq_false', not_false_eq_true] at hsp)) | (with_reducible refine R_fin (by repeat' (first | exact okp0 | refine okp rfl rfl rfl ?_)) ?_))
    refine wends (by first | exact Or.inl rfl | exact Or.inr rfl) ?_ (by first | rfl | simp [AV.ids, idsL])
    simp only [go_sem, r_ref10_Reach, ↓reduceIte, Nat.reduceEqDiff, Nat.reduceAdd, Nat.reduceLeDiff, reduceCtorEq, Nat.reduceLT, Int.reduceLT, Int.reduceLE, Int.reduceEq, Int.reduceToNat, Nat.reduceMul]
    simp [rchM, szB, h]
  · have h' := sizedB_iff.1 h
    have hb := mul_bd h'.1 h'.2.1 h'.2.2.1 h'.2.2.2
    have hw : IntKind.i64.wrap (a * b) = a * b := wrap_i64_of (by omega) (by omega)
    clear h' hb
    repeat' (first | (with_reducible refine Cl_plain (f_ref10_Single a b) ?_) | (simp only [go_sem, s_ref10_Reach, hw, ↓reduceIte, Nat.reduceEqDiff, Nat.reduceAdd, Nat.reduceLeDiff, reduceCtorEq, Nat.reduceLT, Int.reduceLT, Int.reduceLE, Int.reduceEq, Int.reduceToNat, Nat.reduceMul, *]) | (simp (disch := omega) only [s_ref10_Reach, hw, wrap_i64_of, i64_quo, i64_rem, sdiv, smod]) | ((with_reducible refine W_split (by with_unfolding_all exact rfl) (fun hsp => ?_) (fun hsp => ?_)) <;> (try simp only [Bool.not_true, Bool.not_false, decide_eq_true_eq, decide_eq_false_iff_not, Bool.not_eq_true', Bool.not_eq_false', not_false_eq_true] at hsp)) | ((with_reducible refine R_split (by with_unfolding_all exact rfl) (fun hsp => ?_) (fun hsp => ?_)) <;> (try simp only [Bool.not_true, Bool.not_false, decide_eq_true_eq, decide_eq_false_iff_not, Bool.not_eq_true', Bool.not_eq_false', not_false_eq_true] at hsp)) | (with_reducible refine R_fin (by repeat' (first | exact okp0 | refine okp rfl rfl rfl ?_)) ?_))
    refine wends (by first | exact Or.inl rfl | exact Or.inr rfl) ?_ (by first | rfl | simp [AV.ids, idsL])
    simp only [go_sem, r_ref10_Reach, ↓reduceIte, Nat.reduceEqDiff, Nat.reduceAdd, Nat.reduceLeDiff, reduceCtorEq, Nat.reduceLT, Int.reduceLT, Int.reduceLE, Int.reduceEq, Int.reduceToNat, Nat.reduceMul]
    simp [rchM, szB, h]

theorem f_retention_follows (a b c d : Int) (ha : szB (a, b) = true) (hb : szB (c, d) = true) : Meets Tryd.prog E0 n_retention_follows [.ag [I a, I b], .ag [I c, I d]] [] (Bo (flwB (a, b) (c, d))) [] := by
  refine m_retention_follows (by simp) (shut0 rfl) (shut0 rfl) (by simp) (by simp [keysOf]) ?_
  have h1 := szB_iff.1 ha
  have h2 := szB_iff.1 hb
  simp only at h1 h2
  have a0 : ¬ a = 0 := by omega
  have q1 : c.tmod a = c % a := smod (by omega)
  have q2 : c.tdiv a = c / a := sdiv (by omega)
  have q3 : 0 ≤ c / a := Int.ediv_nonneg (by omega) (by omega)
  have q4 : c / a ≤ c := Int.ediv_le_self _ (by omega)
  have q5 : IntKind.i64.wrap (c / a) = c / a := wrap_i64_of (by omega) (by omega)
  have q6 := Int.emod_nonneg c a0
  cases k1 : decide (c ≤ a)
  · have k1' := of_decide_eq_false k1
    cases k2 : decide (0 < c % a)
    · have k2' := of_decide_eq_false k2
      cases k3 : decide (rchM (c, d) ≤ rchM (a, b))
      · have k3' := of_decide_eq_false k3
        have e : flwB (a, b) (c, d) = decide (c / a ≤ b) := by
          simp only [flwB]
          rw [decide_eq_true (show a < c by omega), decide_eq_true (show c % a = 0 by omega), decide_eq_true (show rchM (a, b) < rchM (c, d) by omega)]; simp
        rw [e]
        clear e h1 h2 ha hb
        simp only [go_sem, s_retention_follows, k1, i64_rem a0, q1, k2, ↓reduceIte, Nat.reduceEqDiff, Nat.reduceAdd, Nat.reduceLeDiff, reduceCtorEq, Nat.reduceLT, Int.reduceLT, Int.reduceLE, Int.reduceEq, Int.reduceToNat, Nat.reduceMul]
        refine Cl_plain (f_retention_Reach c d) ?_
        simp only [go_sem, ↓reduceIte, Nat.reduceEqDiff, Nat.reduceAdd, Nat.reduceLeDiff, reduceCtorEq, Nat.reduceLT, Int.reduceLT, Int.reduceLE, Int.reduceEq, Int.reduceToNat, Nat.reduceMul]
        refine Cl_plain (f_retention_Reach a b) ?_
        simp only [go_sem, k3, ↓reduceIte, Nat.reduceEqDiff, Nat.reduceAdd, Nat.reduceLeDiff, reduceCtorEq, Nat.reduceLT, Int.reduceLT, Int.reduceLE, Int.reduceEq, Int.reduceToNat, Nat.reduceMul]
        ((try (with_reducible refine R_fin (by repeat' (first | exact okp0 | refine okp rfl rfl rfl ?_)) ?_)); (try simp only [go_sem, i64_quo a0, q2, q5, ↓reduceIte, Nat.reduceEqDiff, Nat.reduceAdd, Nat.reduceLeDiff, reduceCtorEq, Nat.reduceLT, Int.reduceLT, Int.reduceLE, Int.reduceEq, Int.reduceToNat, Nat.reduceMul]))
        refine wends (by first | exact Or.inl rfl | exact Or.inr rfl) ?_ (by first | rfl | simp [AV.ids, idsL])
        simp only [go_sem, r_retention_follows, ↓reduceIte, Nat.reduceEqDiff, Nat.reduceAdd, Nat.reduceLeDiff, reduceCtorEq, Nat.reduceLT, Int.reduceLT, Int.reduceLE, Int.reduceEq, Int.reduceToNat, Nat.reduceMul]
      · have k3' := of_decide_eq_true k3
        have e : flwB (a, b) (c, d) = false := by
          simp only [flwB]
          rw [decide_eq_false (show ¬ rchM (a, b) < rchM (c, d) by omega)]; simp
        rw [e]
        simp only [go_sem, s_retention_follows, k1, i64_rem a0, q1, k2, ↓reduceIte, Nat.reduceEqDiff, Nat.reduceAdd, Nat.reduceLeDiff, reduceCtorEq, Nat.reduceLT, Int.reduceLT, Int.reduceLE, Int.reduceEq, Int.reduceToNat, Nat.reduceMul]
        refine Cl_plain (f_retention_Reach c d) ?_
        simp only [go_sem, ↓reduceIte, Nat.reduceEqDiff, Nat.reduceAdd, Nat.reduceLeDiff, reduceCtorEq, Nat.reduceLT, Int.reduceLT, Int.reduceLE, Int.reduceEq, Int.reduceToNat, Nat.reduceMul]
        refine Cl_plain (f_retention_Reach a b) ?_
        simp only [go_sem, k3, ↓reduceIte, Nat.reduceEqDiff, Nat.reduceAdd, Nat.reduceLeDiff, reduceCtorEq, Nat.reduceLT, Int.reduceLT, Int.reduceLE, Int.reduceEq, Int.reduceToNat, Nat.reduceMul]
        ((try (with_reducible refine R_fin (by repeat' (first | exact okp0 | refine okp rfl rfl rfl ?_)) ?_)); (try simp only [go_sem, ↓reduceIte, Nat.reduceEqDiff, Nat.reduceAdd, Nat.reduceLeDiff, reduceCtorEq, Nat.reduceLT, Int.reduceLT, Int.reduceLE, Int.reduceEq, Int.reduceToNat, Nat.reduceMul]))
        refine wends (by first | exact Or.inl rfl | exact Or.inr rfl) ?_ (by first | rfl | simp [AV.ids, idsL])
        simp only [go_sem, r_retention_follows, ↓reduceIte, Nat.reduceEqDiff, Nat.reduceAdd, Nat.reduceLeDiff, reduceCtorEq, Nat.reduceLT, Int.reduceLT, Int.reduceLE, Int.reduceEq, Int.reduceToNat, Nat.reduceMul]
    · have k2' := of_decide_eq_true k2
      have e : flwB (a, b) (c, d) = false := by
        simp only [flwB]
        rw [decide_eq_false (show ¬ c % a = 0 by omega)]; simp
      rw [e]
      simp only [go_sem, s_retention_follows, k1, i64_rem a0, q1, k2, ↓reduceIte, Nat.reduceEqDiff, Nat.reduceAdd, Nat.reduceLeDiff, reduceCtorEq, Nat.reduceLT, Int.reduceLT, Int.reduceLE, Int.reduceEq, Int.reduceToNat, Nat.reduceMul]
      refine wends (by first | exact Or.inl rfl | exact Or.inr rfl) ?_ (by first | rfl | simp [AV.ids, idsL])
      simp only [go_sem, r_retention_follows, ↓reduceIte, Nat.reduceEqDiff, Nat.reduceAdd, Nat.reduceLeDiff, reduceCtorEq, Nat.reduceLT, Int.reduceLT, Int.reduceLE, Int.reduceEq, Int.reduceToNat, Nat.reduceMul]
  · have k1' := of_decide_eq_true k1
    have e : flwB (a, b) (c, d) = false := by
      simp only [flwB]
      rw [decide_eq_false (show ¬ a < c by omega)]; simp
    rw [e]
    simp only [go_sem, s_retention_follows, k1, ↓reduceIte, Nat.reduceEqDiff, Nat.reduceAdd, Nat.reduceLeDiff, reduceCtorEq, Nat.reduceLT, Int.reduceLT, Int.reduceLE, Int.reduceEq, Int.reduceToNat, Nat.reduceMul]
    refine wends (by first | exact Or.inl rfl | exact Or.inr rfl) ?_ (by first | rfl | simp [AV.ids, idsL])
    simp only [go_sem, r_retention_follows, ↓reduceIte, Nat.reduceEqDiff, Nat.reduceAdd, Nat.reduceLeDiff, reduceCtorEq, Nat.reduceLT, Int.reduceLT, Int.reduceLE, Int.reduceEq, Int.reduceToNat, Nat.reduceMul]

theorem all_drop {l : List Rung} {i : Nat} {r : Rung} (hs : l[i]? = some r) : (l.drop i).all szB = (szB r && (l.drop (i + 1)).all szB) := by
  rw [drop_get hs, List.all_cons]

theorem f_retention_Together (l : List Rung) : Meets Tryd.prog E0 n_retention_Together [slL l] [] (Bo (togB l)) [] := by
  refine m_retention_Together (by simp) (shut0 rfl) (shut0 rfl) (by simp) (by simp [keysOf]) ?_
  cases h0 : decide (1 ≤ l.length)
  · have h0' := of_decide_eq_false h0
    have e : togB l = false := by simp [togB, h0]
    have d0 : decide ((l.length : Int) = 0) = true := decide_eq_true (by omega)
    rw [e]
    simp only [go_sem, s_retention_Together, d0, ↓reduceIte, Nat.reduceEqDiff, Nat.reduceAdd, Nat.reduceLeDiff, reduceCtorEq, Nat.reduceLT, Int.reduceLT, Int.reduceLE, Int.reduceEq, Int.reduceToNat, Nat.reduceMul]
    refine wends (by first | exact Or.inl rfl | exact Or.inr rfl) ?_ (by first | rfl | simp [AV.ids, idsL])
    simp only [go_sem, r_retention_Together, ↓reduceIte, Nat.reduceEqDiff, Nat.reduceAdd, Nat.reduceLeDiff, reduceCtorEq, Nat.reduceLT, Int.reduceLT, Int.reduceLE, Int.reduceEq, Int.reduceToNat, Nat.reduceMul]
  · have h0' := of_decide_eq_true h0
    have d0 : decide ((l.length : Int) = 0) = false := decide_eq_false (by omega)
    cases h4 : decide (l.length ≤ 4)
    · have h4' := of_decide_eq_false h4
      have e : togB l = false := by simp [togB, h4]
      have d4 : decide (4 < (l.length : Int)) = true := decide_eq_true (by omega)
      rw [e]
      simp only [go_sem, s_retention_Together, d0, d4, ↓reduceIte, Nat.reduceEqDiff, Nat.reduceAdd, Nat.reduceLeDiff, reduceCtorEq, Nat.reduceLT, Int.reduceLT, Int.reduceLE, Int.reduceEq, Int.reduceToNat, Nat.reduceMul]
      refine wends (by first | exact Or.inl rfl | exact Or.inr rfl) ?_ (by first | rfl | simp [AV.ids, idsL])
      simp only [go_sem, r_retention_Together, ↓reduceIte, Nat.reduceEqDiff, Nat.reduceAdd, Nat.reduceLeDiff, reduceCtorEq, Nat.reduceLT, Int.reduceLT, Int.reduceLE, Int.reduceEq, Int.reduceToNat, Nat.reduceMul]
    · have h4' := of_decide_eq_true h4
      have d4 : decide (4 < (l.length : Int)) = false := decide_eq_false (by omega)
      have e : togB l = (l.all szB && chainB l) := by simp [togB, h0, h4]
      rw [e]
      generalize hout : (l.all szB && chainB l) = out
      simp only [go_sem, s_retention_Together, d0, d4, ↓reduceIte, Nat.reduceEqDiff, Nat.reduceAdd, Nat.reduceLeDiff, reduceCtorEq, Nat.reduceLT, Int.reduceLT, Int.reduceLE, Int.reduceEq, Int.reduceToNat, Nat.reduceMul]
      refine W_loop (fun i : Nat => l.length - i) (fun i => i ≤ l.length ∧ ((l.drop i).all szB && chainB (l.drop (i - 1))) = out ∧ ∀ j r, j < i → l[j]? = some r → szB r = true)
        (fun i => [(0, slL l), (2, Bo false), (13, slL l), (14, I l.length), (15, I i)])
        (fun i => []) 0 ⟨Nat.zero_le _, by simpa using hout, by omega⟩ (subL [] [] (by simp [envS, go_sem, wkV, wkL, AV.ids, idsL, keysOf, ren]) (by simp [stoS, go_sem, wkV, wkL, wkO, AV.ids, Ob.ids, idsL, keysOf, ren, AV.one]) (by simp [keysOf, ren]) (by simp) (by simp [keysOf]) (by simp [keysOf])) ?_
      rintro i ⟨hi, hr, hp⟩
      simp only [go_sem, ↓reduceIte, Nat.reduceEqDiff, Nat.reduceAdd, Nat.reduceLeDiff, reduceCtorEq, Nat.reduceLT, Int.reduceLT, Int.reduceLE, Int.reduceEq, Int.reduceToNat, Nat.reduceMul]
      refine W_split rfl (fun h => ?_) (fun h => ?_)
      · simp at h
        obtain ⟨r, hs⟩ := get_of_lt h
        have ei : IntKind.i64.wrap ((i : Int) + 1) = ((i + 1 : Nat) : Int) := by rw [wrap_i64_of (by omega) (by omega)]; omega
        rw [all_drop hs] at hr
        cases hz : szB r
        · rw [hz, Bool.false_and, Bool.false_and] at hr
          subst hr
          simp only [go_sem, hs, slT, ↓reduceIte, Nat.reduceEqDiff, Nat.reduceAdd, Nat.reduceLeDiff, reduceCtorEq, Nat.reduceLT, Int.reduceLT, Int.reduceLE, Int.reduceEq, Int.reduceToNat, Nat.reduceMul]
          refine Cl_plain (f_retention_single r.1 r.2) ?_
          have hz' : sizedB r.1 r.2 = false := hz
          simp only [go_sem, hz', ↓reduceIte, Nat.reduceEqDiff, Nat.reduceAdd, Nat.reduceLeDiff, reduceCtorEq, Nat.reduceLT, Int.reduceLT, Int.reduceLE, Int.reduceEq, Int.reduceToNat, Nat.reduceMul]
          ((try (with_reducible refine R_fin (by repeat' (first | exact okp0 | refine okp rfl rfl rfl ?_)) ?_)); (try simp only [go_sem, ↓reduceIte, Nat.reduceEqDiff, Nat.reduceAdd, Nat.reduceLeDiff, reduceCtorEq, Nat.reduceLT, Int.reduceLT, Int.reduceLE, Int.reduceEq, Int.reduceToNat, Nat.reduceMul]))
          refine wends (by first | exact Or.inl rfl | exact Or.inr rfl) ?_ (by first | rfl | simp [AV.ids, idsL])
          simp only [go_sem, r_retention_Together, ↓reduceIte, Nat.reduceEqDiff, Nat.reduceAdd, Nat.reduceLeDiff, reduceCtorEq, Nat.reduceLT, Int.reduceLT, Int.reduceLE, Int.reduceEq, Int.reduceToNat, Nat.reduceMul]
        · rw [hz, Bool.true_and] at hr
          have hz' : sizedB r.1 r.2 = true := hz
          have hp' : ∀ j s, j < i + 1 → l[j]? = some s → szB s = true := by
            intro j s hj hg
            by_cases hji : j = i
            · subst hji; rw [hs] at hg; injection hg with hg; subst hg; exact hz
            · exact hp j s (by omega) hg
          simp only [go_sem, hs, slT, ↓reduceIte, Nat.reduceEqDiff, Nat.reduceAdd, Nat.reduceLeDiff, reduceCtorEq, Nat.reduceLT, Int.reduceLT, Int.reduceLE, Int.reduceEq, Int.reduceToNat, Nat.reduceMul]
          refine Cl_plain (f_retention_single r.1 r.2) ?_
          simp only [go_sem, hz', ↓reduceIte, Nat.reduceEqDiff, Nat.reduceAdd, Nat.reduceLeDiff, reduceCtorEq, Nat.reduceLT, Int.reduceLT, Int.reduceLE, Int.reduceEq, Int.reduceToNat, Nat.reduceMul]
          cases i with
          | zero =>
            simp only [go_sem, show decide ((0 : Int) < ((0 : Nat) : Int)) = false from rfl, show decide ((0 : Nat) < 0) = false from rfl, ↓reduceIte, Nat.reduceEqDiff, Nat.reduceAdd, Nat.reduceLeDiff, reduceCtorEq, Nat.reduceLT, Int.reduceLT, Int.reduceLE, Int.reduceEq, Int.reduceToNat, Nat.reduceMul]
            ((try (with_reducible refine R_fin (by repeat' (first | exact okp0 | refine okp rfl rfl rfl ?_)) ?_)); (try simp only [go_sem, ei, ↓reduceIte, Nat.reduceEqDiff, Nat.reduceAdd, Nat.reduceLeDiff, reduceCtorEq, Nat.reduceLT, Int.reduceLT, Int.reduceLE, Int.reduceEq, Int.reduceToNat, Nat.reduceMul]))
            exact rd_of 1 (by first | omega | (simp only; omega)) ⟨by first | omega | (simp only; omega), hr, hp'⟩ (subL [] [] (by simp [envS, go_sem, wkV, wkL, AV.ids, idsL, keysOf, ren]) (by simp [stoS, go_sem, wkV, wkL, wkO, AV.ids, Ob.ids, idsL, keysOf, ren, AV.one]) (by simp [keysOf, ren]) (by simp) (by simp [keysOf]) (by simp [keysOf]))
          | succ j =>
            obtain ⟨p, hpj⟩ := get_of_lt (l := l) (i := j) (by omega)
            have hzp := hp j p (by omega) hpj
            have hd : l.drop j = p :: r :: l.drop (j + 2) := by rw [drop_get hpj, drop_get hs]
            have hc : chainB (l.drop j) = (flwB p r && chainB (l.drop (j + 1))) := by rw [hd, drop_get hs]; rfl
            rw [Nat.add_sub_cancel, hc] at hr
            have dj : decide ((0 : Int) < ((j + 1 : Nat) : Int)) = true := decide_eq_true (by omega)
            have dj2 : decide (0 < j + 1) = true := decide_eq_true (by omega)
            have ej : IntKind.i64.wrap (((j + 1 : Nat) : Int) - 1) = (j : Int) := by rw [wrap_i64_of (by omega) (by omega)]; omega
            simp only [go_sem, dj, dj2, ej, hpj, slT, ↓reduceIte, Nat.reduceEqDiff, Nat.reduceAdd, Nat.reduceLeDiff, reduceCtorEq, Nat.reduceLT, Int.reduceLT, Int.reduceLE, Int.reduceEq, Int.reduceToNat, Nat.reduceMul]
            refine Cl_plain (f_retention_follows p.1 p.2 r.1 r.2 hzp hz) ?_
            have hpp : ((p.1, p.2) : Rung) = p := rfl
            have hrr : ((r.1, r.2) : Rung) = r := rfl
            cases hf : flwB p r
            · rw [hf, Bool.false_and, Bool.and_false] at hr
              subst hr
              simp only [go_sem, hpp, hrr, hf, ↓reduceIte, Nat.reduceEqDiff, Nat.reduceAdd, Nat.reduceLeDiff, reduceCtorEq, Nat.reduceLT, Int.reduceLT, Int.reduceLE, Int.reduceEq, Int.reduceToNat, Nat.reduceMul]
              ((try (with_reducible refine R_fin (by repeat' (first | exact okp0 | refine okp rfl rfl rfl ?_)) ?_)); (try simp only [go_sem, ↓reduceIte, Nat.reduceEqDiff, Nat.reduceAdd, Nat.reduceLeDiff, reduceCtorEq, Nat.reduceLT, Int.reduceLT, Int.reduceLE, Int.reduceEq, Int.reduceToNat, Nat.reduceMul]))
              refine wends (by first | exact Or.inl rfl | exact Or.inr rfl) ?_ (by first | rfl | simp [AV.ids, idsL])
              simp only [go_sem, r_retention_Together, ↓reduceIte, Nat.reduceEqDiff, Nat.reduceAdd, Nat.reduceLeDiff, reduceCtorEq, Nat.reduceLT, Int.reduceLT, Int.reduceLE, Int.reduceEq, Int.reduceToNat, Nat.reduceMul]
            · rw [hf, Bool.true_and] at hr
              simp only [go_sem, hpp, hrr, hf, ↓reduceIte, Nat.reduceEqDiff, Nat.reduceAdd, Nat.reduceLeDiff, reduceCtorEq, Nat.reduceLT, Int.reduceLT, Int.reduceLE, Int.reduceEq, Int.reduceToNat, Nat.reduceMul]
              ((try (with_reducible refine R_fin (by repeat' (first | exact okp0 | refine okp rfl rfl rfl ?_)) ?_)); (try simp only [go_sem, ei, ↓reduceIte, Nat.reduceEqDiff, Nat.reduceAdd, Nat.reduceLeDiff, reduceCtorEq, Nat.reduceLT, Int.reduceLT, Int.reduceLE, Int.reduceEq, Int.reduceToNat, Nat.reduceMul]))
              exact rd_of (j + 1 + 1) (by first | omega | (simp only; omega)) ⟨by first | omega | (simp only; omega), hr, hp'⟩ (subL [] [] (by simp [envS, go_sem, wkV, wkL, AV.ids, idsL, keysOf, ren]) (by simp [stoS, go_sem, wkV, wkL, wkO, AV.ids, Ob.ids, idsL, keysOf, ren, AV.one]) (by simp [keysOf, ren]) (by simp) (by simp [keysOf]) (by simp [keysOf]))
      · have e : i = l.length := by simp at h; omega
        subst e
        have hd : l.drop (l.length - 1) = [l[l.length - 1]'(by omega)] := by
          rw [List.drop_eq_getElem_cons (by omega), List.drop_eq_nil_of_le (by omega)]
        rw [List.drop_length, hd] at hr
        simp [chainB] at hr
        simp only [go_sem, ↓reduceIte, Nat.reduceEqDiff, Nat.reduceAdd, Nat.reduceLeDiff, reduceCtorEq, Nat.reduceLT, Int.reduceLT, Int.reduceLE, Int.reduceEq, Int.reduceToNat, Nat.reduceMul]
        refine wends (by first | exact Or.inl rfl | exact Or.inr rfl) ?_ (by first | rfl | simp [AV.ids, idsL])
        simp only [go_sem, r_retention_Together, hr, ↓reduceIte, Nat.reduceEqDiff, Nat.reduceAdd, Nat.reduceLeDiff, reduceCtorEq, Nat.reduceLT, Int.reduceLT, Int.reduceLE, Int.reduceEq, Int.reduceToNat, Nat.reduceMul]

theorem f_ref10_Together (l : List Rung) (hl : l.length ≤ 9223372036854775807) : Meets Tryd.prog E0 n_ref10_Together [slL l] [] (Bo (togB l)) [] := by
  refine m_ref10_Together (by simp) (shut0 rfl) (shut0 rfl) (by simp) (by simp [keysOf]) ?_
  cases h0 : decide (1 ≤ l.length)
  · have h0' := of_decide_eq_false h0
    have e : togB l = false := by simp [togB, h0]
    have d0 : decide ((l.length : Int) < 1) = true := decide_eq_true (by omega)
    rw [e]
    simp only [go_sem, s_ref10_Together, d0, ↓reduceIte, Nat.reduceEqDiff, Nat.reduceAdd, Nat.reduceLeDiff, reduceCtorEq, Nat.reduceLT, Int.reduceLT, Int.reduceLE, Int.reduceEq, Int.reduceToNat, Nat.reduceMul]
    refine wends (by first | exact Or.inl rfl | exact Or.inr rfl) ?_ (by first | rfl | simp [AV.ids, idsL])
    simp only [go_sem, r_ref10_Together, ↓reduceIte, Nat.reduceEqDiff, Nat.reduceAdd, Nat.reduceLeDiff, reduceCtorEq, Nat.reduceLT, Int.reduceLT, Int.reduceLE, Int.reduceEq, Int.reduceToNat, Nat.reduceMul]
  · have h0' := of_decide_eq_true h0
    have d0 : decide ((l.length : Int) < 1) = false := decide_eq_false (by omega)
    cases h4 : decide (l.length ≤ 4)
    · have h4' := of_decide_eq_false h4
      have e : togB l = false := by simp [togB, h4]
      have d4 : decide (4 < (l.length : Int)) = true := decide_eq_true (by omega)
      rw [e]
      simp only [go_sem, s_ref10_Together, d0, d4, ↓reduceIte, Nat.reduceEqDiff, Nat.reduceAdd, Nat.reduceLeDiff, reduceCtorEq, Nat.reduceLT, Int.reduceLT, Int.reduceLE, Int.reduceEq, Int.reduceToNat, Nat.reduceMul]
      refine wends (by first | exact Or.inl rfl | exact Or.inr rfl) ?_ (by first | rfl | simp [AV.ids, idsL])
      simp only [go_sem, r_ref10_Together, ↓reduceIte, Nat.reduceEqDiff, Nat.reduceAdd, Nat.reduceLeDiff, reduceCtorEq, Nat.reduceLT, Int.reduceLT, Int.reduceLE, Int.reduceEq, Int.reduceToNat, Nat.reduceMul]
    · have h4' := of_decide_eq_true h4
      have d4 : decide (4 < (l.length : Int)) = false := decide_eq_false (by omega)
      have e : togB l = (l.all szB && chainB l) := by simp [togB, h0, h4]
      rw [e]
      generalize hout : (l.all szB && chainB l) = out
      simp only [go_sem, s_ref10_Together, d0, d4, ↓reduceIte, Nat.reduceEqDiff, Nat.reduceAdd, Nat.reduceLeDiff, reduceCtorEq, Nat.reduceLT, Int.reduceLT, Int.reduceLE, Int.reduceEq, Int.reduceToNat, Nat.reduceMul]
      refine W_loop (fun i : Nat => l.length - i) (fun i => i ≤ l.length ∧ ((l.drop i).all szB && chainB l) = out ∧ ∀ j r, j < i → l[j]? = some r → szB r = true)
        (fun i => [(0, slL l), (2, Bo false), (3, I i)])
        (fun i => []) 0 ⟨Nat.zero_le _, by simpa using hout, by omega⟩ (subL [] [] (by simp [envS, go_sem, wkV, wkL, AV.ids, idsL, keysOf, ren]) (by simp [stoS, go_sem, wkV, wkL, wkO, AV.ids, Ob.ids, idsL, keysOf, ren, AV.one]) (by simp [keysOf, ren]) (by simp) (by simp [keysOf]) (by simp [keysOf])) ?_
      rintro i ⟨hi, hr, hp⟩
      simp only [go_sem, ↓reduceIte, Nat.reduceEqDiff, Nat.reduceAdd, Nat.reduceLeDiff, reduceCtorEq, Nat.reduceLT, Int.reduceLT, Int.reduceLE, Int.reduceEq, Int.reduceToNat, Nat.reduceMul]
      refine W_split rfl (fun h => ?_) (fun h => ?_)
      · simp at h
        obtain ⟨r, hs⟩ := get_of_lt h
        have ei : IntKind.i64.wrap ((i : Int) + 1) = ((i + 1 : Nat) : Int) := by rw [wrap_i64_of (by omega) (by omega)]; omega
        rw [all_drop hs] at hr
        simp only [go_sem, hs, slT, ↓reduceIte, Nat.reduceEqDiff, Nat.reduceAdd, Nat.reduceLeDiff, reduceCtorEq, Nat.reduceLT, Int.reduceLT, Int.reduceLE, Int.reduceEq, Int.reduceToNat, Nat.reduceMul]
        refine Cl_plain (f_ref10_Single r.1 r.2) ?_
        cases hz : szB r
        · have hz' : sizedB r.1 r.2 = false := hz
          rw [hz, Bool.false_and, Bool.false_and] at hr
          subst hr
          simp only [go_sem, hz', ↓reduceIte, Nat.reduceEqDiff, Nat.reduceAdd, Nat.reduceLeDiff, reduceCtorEq, Nat.reduceLT, Int.reduceLT, Int.reduceLE, Int.reduceEq, Int.reduceToNat, Nat.reduceMul]
          refine wends (by first | exact Or.inl rfl | exact Or.inr rfl) ?_ (by first | rfl | simp [AV.ids, idsL])
          simp only [go_sem, r_ref10_Together, ↓reduceIte, Nat.reduceEqDiff, Nat.reduceAdd, Nat.reduceLeDiff, reduceCtorEq, Nat.reduceLT, Int.reduceLT, Int.reduceLE, Int.reduceEq, Int.reduceToNat, Nat.reduceMul]
        · have hz' : sizedB r.1 r.2 = true := hz
          rw [hz, Bool.true_and] at hr
          simp only [go_sem, hz', ei, ↓reduceIte, Nat.reduceEqDiff, Nat.reduceAdd, Nat.reduceLeDiff, reduceCtorEq, Nat.reduceLT, Int.reduceLT, Int.reduceLE, Int.reduceEq, Int.reduceToNat, Nat.reduceMul]
          refine rd_of (i + 1) (by first | omega | (simp only; omega)) ⟨by first | omega | (simp only; omega), hr, ?_⟩ (subL [] [] (by simp [envS, go_sem, wkV, wkL, AV.ids, idsL, keysOf, ren]) (by simp [stoS, go_sem, wkV, wkL, wkO, AV.ids, Ob.ids, idsL, keysOf, ren, AV.one]) (by simp [keysOf, ren]) (by simp) (by simp [keysOf]) (by simp [keysOf]))
          intro j s hj hg
          by_cases hji : j = i
          · subst hji; rw [hs] at hg; injection hg with hg; subst hg; exact hz
          · exact hp j s (by omega) hg
      · have e : i = l.length := by simp at h; omega
        subst e
        rw [List.drop_length, List.all_nil, Bool.true_and] at hr
        simp only [go_sem, ↓reduceIte, Nat.reduceEqDiff, Nat.reduceAdd, Nat.reduceLeDiff, reduceCtorEq, Nat.reduceLT, Int.reduceLT, Int.reduceLE, Int.reduceEq, Int.reduceToNat, Nat.reduceMul]
        refine W_loop (fun i : Nat => l.length - i) (fun i => 1 ≤ i ∧ i ≤ l.length ∧ chainB (l.drop (i - 1)) = out)
          (fun i => [(0, slL l), (2, Bo false), (4, I i)])
          (fun i => []) 1 ⟨Nat.le_refl _, h0', hr⟩ (subL [] [] (by simp [envS, go_sem, wkV, wkL, AV.ids, idsL, keysOf, ren]) (by simp [stoS, go_sem, wkV, wkL, wkO, AV.ids, Ob.ids, idsL, keysOf, ren, AV.one]) (by simp [keysOf, ren]) (by simp) (by simp [keysOf]) (by simp [keysOf])) ?_
        rintro i ⟨h1, hi, hr⟩
        simp only [go_sem, ↓reduceIte, Nat.reduceEqDiff, Nat.reduceAdd, Nat.reduceLeDiff, reduceCtorEq, Nat.reduceLT, Int.reduceLT, Int.reduceLE, Int.reduceEq, Int.reduceToNat, Nat.reduceMul]
        refine W_split rfl (fun h => ?_) (fun h => ?_)
        · simp at h
          obtain ⟨j, rfl⟩ : ∃ j, i = j + 1 := ⟨i - 1, by omega⟩
          obtain ⟨r, hs⟩ := get_of_lt h
          obtain ⟨p, hpj⟩ := get_of_lt (l := l) (i := j) (by omega)
          have ei : IntKind.i64.wrap (((j + 1 : Nat) : Int) + 1) = ((j + 2 : Nat) : Int) := by rw [wrap_i64_of (by omega) (by omega)]; omega
          have ej : IntKind.i64.wrap (((j + 1 : Nat) : Int) - 1) = (j : Int) := by rw [wrap_i64_of (by omega) (by omega)]; omega
          have hzp := hp j p (by omega) hpj
          have hzr := hp (j + 1) r h hs
          have g1 := szB_iff.1 hzp
          have g2 := szB_iff.1 hzr
          have hd : l.drop j = p :: r :: l.drop (j + 2) := by rw [drop_get hpj, drop_get hs]
          have hc : chainB (l.drop j) = (flwB p r && chainB (l.drop (j + 1))) := by rw [hd, drop_get hs]; rfl
          rw [Nat.add_sub_cancel, hc] at hr
          have a0 : ¬ p.1 = 0 := by omega
          have q1 : r.1.tmod p.1 = r.1 % p.1 := smod (by omega)
          have q2 : r.1.tdiv p.1 = r.1 / p.1 := sdiv (by omega)
          have q3 : 0 ≤ r.1 / p.1 := Int.ediv_nonneg (by omega) (by omega)
          have q4 : r.1 / p.1 ≤ r.1 := Int.ediv_le_self _ (by omega)
          have q5 : IntKind.i64.wrap (r.1 / p.1) = r.1 / p.1 := wrap_i64_of (by omega) (by omega)
          simp only [go_sem, ej, hs, hpj, slT, ↓reduceIte, Nat.reduceEqDiff, Nat.reduceAdd, Nat.reduceLeDiff, reduceCtorEq, Nat.reduceLT, Int.reduceLT, Int.reduceLE, Int.reduceEq, Int.reduceToNat, Nat.reduceMul]
          ((try (with_reducible refine R_fin (by repeat' (first | exact okp0 | refine okp rfl rfl rfl ?_)) ?_)); (try simp only [go_sem, ↓reduceIte, Nat.reduceEqDiff, Nat.reduceAdd, Nat.reduceLeDiff, reduceCtorEq, Nat.reduceLT, Int.reduceLT, Int.reduceLE, Int.reduceEq, Int.reduceToNat, Nat.reduceMul]))
          cases k1 : decide (r.1 ≤ p.1)
          · have k1' := of_decide_eq_false k1
            cases k2 : decide (r.1 % p.1 = 0)
            · have k2' := of_decide_eq_false k2
              have e : flwB p r = false := by
                simp only [flwB]
                rw [k2]; simp
              rw [e, Bool.false_and] at hr
              subst hr
              simp only [go_sem, k1, i64_rem a0, q1, k2, ↓reduceIte, Nat.reduceEqDiff, Nat.reduceAdd, Nat.reduceLeDiff, reduceCtorEq, Nat.reduceLT, Int.reduceLT, Int.reduceLE, Int.reduceEq, Int.reduceToNat, Nat.reduceMul]
              ((try (with_reducible refine R_fin (by repeat' (first | exact okp0 | refine okp rfl rfl rfl ?_)) ?_)); (try simp only [go_sem, ↓reduceIte, Nat.reduceEqDiff, Nat.reduceAdd, Nat.reduceLeDiff, reduceCtorEq, Nat.reduceLT, Int.reduceLT, Int.reduceLE, Int.reduceEq, Int.reduceToNat, Nat.reduceMul]))
              refine wends (by first | exact Or.inl rfl | exact Or.inr rfl) ?_ (by first | rfl | simp [AV.ids, idsL])
              simp only [go_sem, r_ref10_Together, ↓reduceIte, Nat.reduceEqDiff, Nat.reduceAdd, Nat.reduceLeDiff, reduceCtorEq, Nat.reduceLT, Int.reduceLT, Int.reduceLE, Int.reduceEq, Int.reduceToNat, Nat.reduceMul]
            · have k2' := of_decide_eq_true k2
              cases k3 : decide (rchM r ≤ rchM p)
              · have k3' := of_decide_eq_false k3
                have e : flwB p r = decide (r.1 / p.1 ≤ p.2) := by
                  simp only [flwB]
                  rw [decide_eq_true (show p.1 < r.1 by omega), k2, decide_eq_true (show rchM p < rchM r by omega)]; simp
                rw [e] at hr
                simp only [go_sem, k1, i64_rem a0, q1, k2, ↓reduceIte, Nat.reduceEqDiff, Nat.reduceAdd, Nat.reduceLeDiff, reduceCtorEq, Nat.reduceLT, Int.reduceLT, Int.reduceLE, Int.reduceEq, Int.reduceToNat, Nat.reduceMul]
                refine Cl_plain (f_ref10_Reach r.1 r.2) ?_
                simp only [go_sem, ↓reduceIte, Nat.reduceEqDiff, Nat.reduceAdd, Nat.reduceLeDiff, reduceCtorEq, Nat.reduceLT, Int.reduceLT, Int.reduceLE, Int.reduceEq, Int.reduceToNat, Nat.reduceMul]
                refine Cl_plain (f_ref10_Reach p.1 p.2) ?_
                cases k4 : decide (r.1 / p.1 ≤ p.2)
                · have k5 : decide (p.2 < r.1 / p.1) = true := decide_eq_true (by have := of_decide_eq_false k4; omega)
                  rw [k4, Bool.false_and] at hr
                  subst hr
                  simp only [go_sem, k3, i64_quo a0, q2, q5, k5, ↓reduceIte, Nat.reduceEqDiff, Nat.reduceAdd, Nat.reduceLeDiff, reduceCtorEq, Nat.reduceLT, Int.reduceLT, Int.reduceLE, Int.reduceEq, Int.reduceToNat, Nat.reduceMul]
                  ((try (with_reducible refine R_fin (by repeat' (first | exact okp0 | refine okp rfl rfl rfl ?_)) ?_)); (try simp only [go_sem, ↓reduceIte, Nat.reduceEqDiff, Nat.reduceAdd, Nat.reduceLeDiff, reduceCtorEq, Nat.reduceLT, Int.reduceLT, Int.reduceLE, Int.reduceEq, Int.reduceToNat, Nat.reduceMul]))
                  refine wends (by first | exact Or.inl rfl | exact Or.inr rfl) ?_ (by first | rfl | simp [AV.ids, idsL])
                  simp only [go_sem, r_ref10_Together, ↓reduceIte, Nat.reduceEqDiff, Nat.reduceAdd, Nat.reduceLeDiff, reduceCtorEq, Nat.reduceLT, Int.reduceLT, Int.reduceLE, Int.reduceEq, Int.reduceToNat, Nat.reduceMul]
                · have k5 : decide (p.2 < r.1 / p.1) = false := decide_eq_false (by have := of_decide_eq_true k4; omega)
                  rw [k4, Bool.true_and] at hr
                  simp only [go_sem, k3, i64_quo a0, q2, q5, k5, ↓reduceIte, Nat.reduceEqDiff, Nat.reduceAdd, Nat.reduceLeDiff, reduceCtorEq, Nat.reduceLT, Int.reduceLT, Int.reduceLE, Int.reduceEq, Int.reduceToNat, Nat.reduceMul]
                  ((try (with_reducible refine R_fin (by repeat' (first | exact okp0 | refine okp rfl rfl rfl ?_)) ?_)); (try simp only [go_sem, ei, ↓reduceIte, Nat.reduceEqDiff, Nat.reduceAdd, Nat.reduceLeDiff, reduceCtorEq, Nat.reduceLT, Int.reduceLT, Int.reduceLE, Int.reduceEq, Int.reduceToNat, Nat.reduceMul]))
                  exact rd_of (j + 2) (by first | omega | (simp only; omega)) ⟨by omega, by first | omega | (simp only; omega), hr⟩ (subL [] [] (by simp [envS, go_sem, wkV, wkL, AV.ids, idsL, keysOf, ren]) (by simp [stoS, go_sem, wkV, wkL, wkO, AV.ids, Ob.ids, idsL, keysOf, ren, AV.one]) (by simp [keysOf, ren]) (by simp) (by simp [keysOf]) (by simp [keysOf]))
              · have k3' := of_decide_eq_true k3
                have e : flwB p r = false := by
                  simp only [flwB]
                  rw [decide_eq_false (show ¬ rchM p < rchM r by omega)]; simp
                rw [e, Bool.false_and] at hr
                subst hr
                simp only [go_sem, k1, i64_rem a0, q1, k2, ↓reduceIte, Nat.reduceEqDiff, Nat.reduceAdd, Nat.reduceLeDiff, reduceCtorEq, Nat.reduceLT, Int.reduceLT, Int.reduceLE, Int.reduceEq, Int.reduceToNat, Nat.reduceMul]
                refine Cl_plain (f_ref10_Reach r.1 r.2) ?_
                simp only [go_sem, ↓reduceIte, Nat.reduceEqDiff, Nat.reduceAdd, Nat.reduceLeDiff, reduceCtorEq, Nat.reduceLT, Int.reduceLT, Int.reduceLE, Int.reduceEq, Int.reduceToNat, Nat.reduceMul]
                refine Cl_plain (f_ref10_Reach p.1 p.2) ?_
                simp only [go_sem, k3, ↓reduceIte, Nat.reduceEqDiff, Nat.reduceAdd, Nat.reduceLeDiff, reduceCtorEq, Nat.reduceLT, Int.reduceLT, Int.reduceLE, Int.reduceEq, Int.reduceToNat, Nat.reduceMul]
                ((try (with_reducible refine R_fin (by repeat' (first | exact okp0 | refine okp rfl rfl rfl ?_)) ?_)); (try simp only [go_sem, ↓reduceIte, Nat.reduceEqDiff, Nat.reduceAdd, Nat.reduceLeDiff, reduceCtorEq, Nat.reduceLT, Int.reduceLT, Int.reduceLE, Int.reduceEq, Int.reduceToNat, Nat.reduceMul]))
                refine wends (by first | exact Or.inl rfl | exact Or.inr rfl) ?_ (by first | rfl | simp [AV.ids, idsL])
                simp only [go_sem, r_ref10_Together, ↓reduceIte, Nat.reduceEqDiff, Nat.reduceAdd, Nat.reduceLeDiff, reduceCtorEq, Nat.reduceLT, Int.reduceLT, Int.reduceLE, Int.reduceEq, Int.reduceToNat, Nat.reduceMul]
          · have k1' := of_decide_eq_true k1
            have e : flwB p r = false := by
              simp only [flwB]
              rw [decide_eq_false (show ¬ p.1 < r.1 by omega)]; simp
            rw [e, Bool.false_and] at hr
            subst hr
            simp only [go_sem, k1, ↓reduceIte, Nat.reduceEqDiff, Nat.reduceAdd, Nat.reduceLeDiff, reduceCtorEq, Nat.reduceLT, Int.reduceLT, Int.reduceLE, Int.reduceEq, Int.reduceToNat, Nat.reduceMul]
            ((try (with_reducible refine R_fin (by repeat' (first | exact okp0 | refine okp rfl rfl rfl ?_)) ?_)); (try simp only [go_sem, ↓reduceIte, Nat.reduceEqDiff, Nat.reduceAdd, Nat.reduceLeDiff, reduceCtorEq, Nat.reduceLT, Int.reduceLT, Int.reduceLE, Int.reduceEq, Int.reduceToNat, Nat.reduceMul]))
            refine wends (by first | exact Or.inl rfl | exact Or.inr rfl) ?_ (by first | rfl | simp [AV.ids, idsL])
            simp only [go_sem, r_ref10_Together, ↓reduceIte, Nat.reduceEqDiff, Nat.reduceAdd, Nat.reduceLeDiff, reduceCtorEq, Nat.reduceLT, Int.reduceLT, Int.reduceLE, Int.reduceEq, Int.reduceToNat, Nat.reduceMul]
        · have e : i = l.length := by simp at h; omega
          subst e
          have hd : l.drop (l.length - 1) = [l[l.length - 1]'(by omega)] := by
            rw [List.drop_eq_getElem_cons (by omega), List.drop_eq_nil_of_le (by omega)]
          rw [hd] at hr
          simp [chainB] at hr
          simp only [go_sem, ↓reduceIte, Nat.reduceEqDiff, Nat.reduceAdd, Nat.reduceLeDiff, reduceCtorEq, Nat.reduceLT, Int.reduceLT, Int.reduceLE, Int.reduceEq, Int.reduceToNat, Nat.reduceMul]
          refine wends (by first | exact Or.inl rfl | exact Or.inr rfl) ?_ (by first | rfl | simp [AV.ids, idsL])
          simp only [go_sem, r_ref10_Together, hr, ↓reduceIte, Nat.reduceEqDiff, Nat.reduceAdd, Nat.reduceLeDiff, reduceCtorEq, Nat.reduceLT, Int.reduceLT, Int.reduceLE, Int.reduceEq, Int.reduceToNat, Nat.reduceMul]

end Go.Proofs.YtcadhlakhdndjaaDoor
