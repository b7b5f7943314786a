/- Contracts of what a ladder is. No statement of the seat is proved here. -/
import Derived.Test.YtmjlldlaigoflaaGreatLdBlend
set_option linter.unusedSimpArgs false
set_option linter.unusedVariables false
namespace Go.Proofs.YtmjlldlaigoflaaGreat
open Go Go.Sx

theorem f_ladder_timed (t : Int) : Meets Tryz.prog E0 n_ladder_timed [I t] [] (Bo (timedB t)) [] := by
  refine m_ladder_timed (by simp) (shut0 rfl) (shut0 rfl) (by simp) (by simp [keysOf]) ?_
  repeat' (first | (simp only [go_sem, s_ladder_timed, ↓reduceIte, Nat.reduceEqDiff, Nat.reduceAdd, Nat.reduceLeDiff, reduceCtorEq, Nat.reduceLT, Int.reduceLT, Int.reduceLE, Int.reduceEq, Int.reduceToNat, Nat.reduceMul, *]) | (simp (disch := omega) only [s_ladder_timed, wrap_i64_of, i64_quo, i64_rem, sdiv, smod]) | ((with_reducible refine W_split (by with_unfolding_all exact rfl) (fun hsp => ?_) (fun hsp => ?_)) <;> (try simp only [Bool.not_true, Bool.not_false, decide_eq_true_eq, decide_eq_false_iff_not, Bool.not_eq_true', Bool.not_eq_false', not_false_eq_true] at hsp)) | ((with_reducible refine R_split (by with_unfolding_all exact rfl) (fun hsp => ?_) (fun hsp => ?_)) <;> (try simp only [Bool.not_true, Bool.not_false, decide_eq_true_eq, decide_eq_false_iff_not, Bool.not_eq_true', Bool.not_eq_false', not_false_eq_true] at hsp)) | (with_reducible refine R_fin (by repeat' (first | exact okp0 | refine okp rfl rfl rfl ?_)) ?_))
  all_goals
    refine wends (by first | exact Or.inl rfl | exact Or.inr rfl) ?_ (by first | rfl | simp [AV.ids, idsL])
    simp only [go_sem, r_ladder_timed, ↓reduceIte, Nat.reduceEqDiff, Nat.reduceAdd, Nat.reduceLeDiff, reduceCtorEq, Nat.reduceLT, Int.reduceLT, Int.reduceLE, Int.reduceEq, Int.reduceToNat, Nat.reduceMul]
    simp [timedB, *]

theorem f_ladder_how (m f : Int) : Meets Tryz.prog E0 n_ladder_how [I m, I f] [] (Bo (howB m f)) [] := by
  refine m_ladder_how (by simp) (shut0 rfl) (shut0 rfl) (by simp) (by simp [keysOf]) ?_
  repeat' (first | (simp only [go_sem, s_ladder_how, ↓reduceIte, Nat.reduceEqDiff, Nat.reduceAdd, Nat.reduceLeDiff, reduceCtorEq, Nat.reduceLT, Int.reduceLT, Int.reduceLE, Int.reduceEq, Int.reduceToNat, Nat.reduceMul, *]) | (simp (disch := omega) only [s_ladder_how, wrap_i64_of, i64_quo, i64_rem, sdiv, smod]) | ((with_reducible refine W_split (by with_unfolding_all exact rfl) (fun hsp => ?_) (fun hsp => ?_)) <;> (try simp only [Bool.not_true, Bool.not_false, decide_eq_true_eq, decide_eq_false_iff_not, Bool.not_eq_true', Bool.not_eq_false', not_false_eq_true] at hsp)) | ((with_reducible refine R_split (by with_unfolding_all exact rfl) (fun hsp => ?_) (fun hsp => ?_)) <;> (try simp only [Bool.not_true, Bool.not_false, decide_eq_true_eq, decide_eq_false_iff_not, Bool.not_eq_true', Bool.not_eq_false', not_false_eq_true] at hsp)) | (with_reducible refine R_fin (by repeat' (first | exact okp0 | refine okp rfl rfl rfl ?_)) ?_))
  all_goals
    refine wends (by first | exact Or.inl rfl | exact Or.inr rfl) ?_ (by first | rfl | simp [AV.ids, idsL])
    simp only [go_sem, r_ladder_how, ↓reduceIte, Nat.reduceEqDiff, Nat.reduceAdd, Nat.reduceLeDiff, reduceCtorEq, Nat.reduceLT, Int.reduceLT, Int.reduceLE, Int.reduceEq, Int.reduceToNat, Nat.reduceMul]
    simp [howB, *]

theorem f_ref14_how (m f : Int) : Meets Tryz.prog E0 n_ref14_how [I m, I f] [] (Bo (howB m f)) [] := by
  refine m_ref14_how (by simp) (shut0 rfl) (shut0 rfl) (by simp) (by simp [keysOf]) ?_
  repeat' (first | (simp only [go_sem, s_ref14_how, ↓reduceIte, Nat.reduceEqDiff, Nat.reduceAdd, Nat.reduceLeDiff, reduceCtorEq, Nat.reduceLT, Int.reduceLT, Int.reduceLE, Int.reduceEq, Int.reduceToNat, Nat.reduceMul, *]) | (simp (disch := omega) only [s_ref14_how, wrap_i64_of, i64_quo, i64_rem, sdiv, smod]) | ((with_reducible refine W_split (by with_unfolding_all exact rfl) (fun hsp => ?_) (fun hsp => ?_)) <;> (try simp only [Bool.not_true, Bool.not_false, decide_eq_true_eq, decide_eq_false_iff_not, Bool.not_eq_true', Bool.not_eq_false', not_false_eq_true] at hsp)) | ((with_reducible refine R_split (by with_unfolding_all exact rfl) (fun hsp => ?_) (fun hsp => ?_)) <;> (try simp only [Bool.not_true, Bool.not_false, decide_eq_true_eq, decide_eq_false_iff_not, Bool.not_eq_true', Bool.not_eq_false', not_false_eq_true] at hsp)) | (with_reducible refine R_fin (by repeat' (first | exact okp0 | refine okp rfl rfl rfl ?_)) ?_))
  all_goals
    refine wends (by first | exact Or.inl rfl | exact Or.inr rfl) ?_ (by first | rfl | simp [AV.ids, idsL])
    simp only [go_sem, r_ref14_how, ↓reduceIte, Nat.reduceEqDiff, Nat.reduceAdd, Nat.reduceLeDiff, reduceCtorEq, Nat.reduceLT, Int.reduceLT, Int.reduceLE, Int.reduceEq, Int.reduceToNat, Nat.reduceMul]
    simp [howB, *]

theorem f_ladder_rung (w : Int) (l : List Slot) : Meets Tryz.prog E0 n_ladder_rung [ringV w l] [] (.ag [I w, I l.length]) [] := by
  refine m_ladder_rung (by simp) (shut0 rfl) (shut0 rfl) (by simp) (by simp [keysOf]) ?_
  repeat' (first | (simp only [go_sem, s_ladder_rung, ↓reduceIte, Nat.reduceEqDiff, Nat.reduceAdd, Nat.reduceLeDiff, reduceCtorEq, Nat.reduceLT, Int.reduceLT, Int.reduceLE, Int.reduceEq, Int.reduceToNat, Nat.reduceMul, *]) | (simp (disch := omega) only [s_ladder_rung, wrap_i64_of, i64_quo, i64_rem, sdiv, smod]) | ((with_reducible refine W_split (by with_unfolding_all exact rfl) (fun hsp => ?_) (fun hsp => ?_)) <;> (try simp only [Bool.not_true, Bool.not_false, decide_eq_true_eq, decide_eq_false_iff_not, Bool.not_eq_true', Bool.not_eq_false', not_false_eq_true] at hsp)) | ((with_reducible refine R_split (by with_unfolding_all exact rfl) (fun hsp => ?_) (fun hsp => ?_)) <;> (try simp only [Bool.not_true, Bool.not_false, decide_eq_true_eq, decide_eq_false_iff_not, Bool.not_eq_true', Bool.not_eq_false', not_false_eq_true] at hsp)) | (with_reducible refine R_fin (by repeat' (first | exact okp0 | refine okp rfl rfl rfl ?_)) ?_))
  refine wends (by first | exact Or.inl rfl | exact Or.inr rfl) ?_ (by first | rfl | simp [AV.ids, idsL])
  simp only [go_sem, r_ladder_rung, ↓reduceIte, Nat.reduceEqDiff, Nat.reduceAdd, Nat.reduceLeDiff, reduceCtorEq, Nat.reduceLT, Int.reduceLT, Int.reduceLE, Int.reduceEq, Int.reduceToNat, Nat.reduceMul]

theorem f_ladder_reach (w : Int) (l : List Slot) : Meets Tryz.prog E0 n_ladder_reach [ringV w l] [] (I (rchM (rungM (w, l)))) [] := by
  refine m_ladder_reach (by simp) (shut0 rfl) (shut0 rfl) (by simp) (by simp [keysOf]) ?_
  repeat' (first | (with_reducible refine Cl_plain (f_ladder_rung w l) ?_) | (with_reducible refine Cl_plain (f_retention_Reach w l.length) ?_) | (simp only [go_sem, s_ladder_reach, ↓reduceIte, Nat.reduceEqDiff, Nat.reduceAdd, Nat.reduceLeDiff, reduceCtorEq, Nat.reduceLT, Int.reduceLT, Int.reduceLE, Int.reduceEq, Int.reduceToNat, Nat.reduceMul, *]) | (simp (disch := omega) only [s_ladder_reach, wrap_i64_of, i64_quo, i64_rem, sdiv, smod]) | ((with_reducible refine W_split (by with_unfolding_all exact rfl) (fun hsp => ?_) (fun hsp => ?_)) <;> (try simp only [Bool.not_true, Bool.not_false, decide_eq_true_eq, decide_eq_false_iff_not, Bool.not_eq_true', Bool.not_eq_false', not_false_eq_true] at hsp)) | ((with_reducible refine R_split (by with_unfolding_all exact rfl) (fun hsp => ?_) (fun hsp => ?_)) <;> (try simp only [Bool.not_true, Bool.not_false, decide_eq_true_eq, decide_eq_false_iff_not, Bool.not_eq_true', Bool.not_eq_false', not_false_eq_true] at hsp)) | (with_reducible refine R_fin (by repeat' (first | exact okp0 | refine okp rfl rfl rfl ?_)) ?_))
  refine wends (by first | exact Or.inl rfl | exact Or.inr rfl) ?_ (by first | rfl | simp [AV.ids, idsL])
  simp only [go_sem, r_ladder_reach, ↓reduceIte, Nat.reduceEqDiff, Nat.reduceAdd, Nat.reduceLeDiff, reduceCtorEq, Nat.reduceLT, Int.reduceLT, Int.reduceLE, Int.reduceEq, Int.reduceToNat, Nat.reduceMul]
  rfl

theorem all_dropR {l : List Ring} {i : Nat} {r : Ring} (hs : l[i]? = some r) : (l.drop i).all rgB = (rgB r && (l.drop (i + 1)).all rgB) := by
  rw [drop_get hs, List.all_cons]

theorem map_take_succ {α β : Type} (f : α → β) {l : List α} {i : Nat} {r : α} (h : l[i]? = some r) : (l.take i).map f ++ [f r] = (l.take (i + 1)).map f := by
  obtain ⟨hi, rfl⟩ := List.getElem?_eq_some_iff.1 h
  rw [List.take_succ_eq_append_getElem hi, List.map_append]; rfl

theorem take_empty {α : Type} {l : List α} {i : Nat} (h : i ≤ l.length) : (l.take i).isEmpty = decide (i = 0) := by
  cases i with
  | zero => simp
  | succ i => cases l with
    | nil => simp at h
    | cons a l => simp

theorem f_ladder_Right (m f : Int) (l : List Ring) (hn : l.length ≤ maxLen) : Meets Tryz.prog E0 n_ladder_Right [ladV m f l] [] (Bo (ladB m f l)) [] := by
  refine m_ladder_Right (by simp) (shut0 rfl) (shut0 rfl) (by simp) (by simp [keysOf]) ?_
  have hn2 : l.length ≤ 9223372036854775807 := hn
  cases h4 : decide (4 < (l.length : Int))
  · have h4' := of_decide_eq_false h4
    cases hw : howB m f
    · have e : ladB m f l = false := by simp [ladB, hw]
      rw [e]
      repeat' (first | (with_reducible refine Cl_plain (f_ladder_how m f) ?_) | (simp only [go_sem, s_ladder_Right, ↓reduceIte, Nat.reduceEqDiff, Nat.reduceAdd, Nat.reduceLeDiff, reduceCtorEq, Nat.reduceLT, Int.reduceLT, Int.reduceLE, Int.reduceEq, Int.reduceToNat, Nat.reduceMul, *]) | (simp (disch := omega) only [s_ladder_Right, wrap_i64_of, i64_quo, i64_rem, sdiv, smod]) | ((with_reducible refine W_split (by with_unfolding_all exact rfl) (fun hsp => ?_) (fun hsp => ?_)) <;> (try simp only [Bool.not_true, Bool.not_false, decide_eq_true_eq, decide_eq_false_iff_not, Bool.not_eq_true', Bool.not_eq_false', not_false_eq_true] at hsp)) | ((with_reducible refine R_split (by with_unfolding_all exact rfl) (fun hsp => ?_) (fun hsp => ?_)) <;> (try simp only [Bool.not_true, Bool.not_false, decide_eq_true_eq, decide_eq_false_iff_not, Bool.not_eq_true', Bool.not_eq_false', not_false_eq_true] at hsp)) | (with_reducible refine R_fin (by repeat' (first | exact okp0 | refine okp rfl rfl rfl ?_)) ?_))
      refine wends (by first | exact Or.inl rfl | exact Or.inr rfl) ?_ (by first | rfl | simp [AV.ids, idsL])
      simp only [go_sem, r_ladder_Right, ↓reduceIte, Nat.reduceEqDiff, Nat.reduceAdd, Nat.reduceLeDiff, reduceCtorEq, Nat.reduceLT, Int.reduceLT, Int.reduceLE, Int.reduceEq, Int.reduceToNat, Nat.reduceMul]
    · have e : ladB m f l = (l.all rgB && togB (l.map rungM)) := by simp [ladB, hw]
      rw [e]
      generalize hout : (l.all rgB && togB (l.map rungM)) = out
      simp only [go_sem, s_ladder_Right, h4, ↓reduceIte, Nat.reduceEqDiff, Nat.reduceAdd, Nat.reduceLeDiff, reduceCtorEq, Nat.reduceLT, Int.reduceLT, Int.reduceLE, Int.reduceEq, Int.reduceToNat, Nat.reduceMul]
      refine Cl_plain (f_ladder_how m f) ?_
      simp only [go_sem, hw, ↓reduceIte, Nat.reduceEqDiff, Nat.reduceAdd, Nat.reduceLeDiff, reduceCtorEq, Nat.reduceLT, Int.reduceLT, Int.reduceLE, Int.reduceEq, Int.reduceToNat, Nat.reduceMul]
      refine W_loop (fun i : Nat => l.length - i) (fun i => i ≤ l.length ∧ ((l.drop i).all rgB && togB (l.map rungM)) = out)
        (fun i => [(1, .ptr 100 0), (2, Bo false), (3, .own 999 2 0 i (!decide (i = 0))), (19, rgL l), (20, I l.length), (21, I i)])
        (fun i => [(100, .box [I m, I f, rgL l]), (999, .row 2 (!decide (i = 0)) (((l.take i).map rungM).map slT))])
        0 ⟨Nat.zero_le _, by simpa using hout⟩ (subL [(999, 888)] [] (by simp [envS, go_sem, wkV, wkL, AV.ids, idsL, keysOf, ren, stoOf, slTrees, AV.asOwn, rowPart, AV.isNil] <;> assumption) (by simp [stoS, go_sem, wkV, wkL, wkO, AV.ids, Ob.ids, idsL, keysOf, ren, AV.one, stoOf, slTrees, AV.asOwn, rowPart, AV.isNil] <;> assumption) (by simp [keysOf, ren]) (by simp [stoOf, keysOf, ren]) (by simp [keysOf, ren]) (by simp [keysOf, ren])) ?_
      rintro i ⟨hi, hr⟩
      simp only [go_sem, ↓reduceIte, Nat.reduceEqDiff, Nat.reduceAdd, Nat.reduceLeDiff, reduceCtorEq, Nat.reduceLT, Int.reduceLT, Int.reduceLE, Int.reduceEq, Int.reduceToNat, Nat.reduceMul]
      refine W_split rfl (fun h => ?_) (fun h => ?_)
      · simp at h
        obtain ⟨r, hs⟩ := get_of_lt h
        have ei : IntKind.i64.wrap ((i : Int) + 1) = ((i + 1 : Nat) : Int) := by rw [wrap_i64_of (by omega) (by omega)]; omega
        rw [all_dropR hs] at hr
        have hra : rgB r = ringB r.1 r.2 := rfl
        simp only [go_sem, hs, rgT, ↓reduceIte, Nat.reduceEqDiff, Nat.reduceAdd, Nat.reduceLeDiff, reduceCtorEq, Nat.reduceLT, Int.reduceLT, Int.reduceLE, Int.reduceEq, Int.reduceToNat, Nat.reduceMul]
        refine Cl_plain (f_ring_Right r.1 r.2) ?_
        cases hz : rgB r
        · rw [hz, Bool.false_and, Bool.false_and] at hr
          subst hr
          rw [hz] at hra
          simp only [go_sem, ← hra, ↓reduceIte, Nat.reduceEqDiff, Nat.reduceAdd, Nat.reduceLeDiff, reduceCtorEq, Nat.reduceLT, Int.reduceLT, Int.reduceLE, Int.reduceEq, Int.reduceToNat, Nat.reduceMul]
          refine wends (by first | exact Or.inl rfl | exact Or.inr rfl) ?_ (by first | rfl | simp [AV.ids, idsL])
          simp only [go_sem, r_ladder_Right, ↓reduceIte, Nat.reduceEqDiff, Nat.reduceAdd, Nat.reduceLeDiff, reduceCtorEq, Nat.reduceLT, Int.reduceLT, Int.reduceLE, Int.reduceEq, Int.reduceToNat, Nat.reduceMul]
        · rw [hz, Bool.true_and] at hr
          rw [hz] at hra
          simp only [go_sem, ← hra, ↓reduceIte, Nat.reduceEqDiff, Nat.reduceAdd, Nat.reduceLeDiff, reduceCtorEq, Nat.reduceLT, Int.reduceLT, Int.reduceLE, Int.reduceEq, Int.reduceToNat, Nat.reduceMul]
          refine Cl_plain (f_ladder_rung r.1 r.2) ?_
          have b1 : (i + 1) * 16 ≤ 2 ^ 47 := by omega
          have b2 : i + 1 < 2 ^ 47 := by omega
          have em : ((l.take i).map rungM).map slT ++ [[.v (.int .i64 r.1), .v (.int .i64 (r.2.length : Int))]] = ((l.take (i + 1)).map rungM).map slT := by
            rw [← map_take_succ rungM hs, List.map_append]; rfl
          have hlen : (((l.take i).map rungM).map slT).length = i := by simp; omega
          simp only [go_sem, b1, b2, em, hlen, ei, ↓reduceIte, Nat.reduceEqDiff, Nat.reduceAdd, Nat.reduceLeDiff, reduceCtorEq, Nat.reduceLT, Int.reduceLT, Int.reduceLE, Int.reduceEq, Int.reduceToNat, Nat.reduceMul]
          refine rd_of (i + 1) (by first | omega | (simp only; omega)) ⟨by first | omega | (simp only; omega), hr⟩ ?_
          rw [show (!decide (i + 1 = 0)) = true from by simp]
          exact (subL [(999, 133)] [] (by simp [envS, go_sem, wkV, wkL, AV.ids, idsL, keysOf, ren, stoOf, slTrees, AV.asOwn, rowPart, AV.isNil] <;> assumption) (by simp [stoS, go_sem, wkV, wkL, wkO, AV.ids, Ob.ids, idsL, keysOf, ren, AV.one, stoOf, slTrees, AV.asOwn, rowPart, AV.isNil] <;> assumption) (by simp [keysOf, ren]) (by simp [stoOf, keysOf, ren]) (by simp [keysOf, ren]) (by simp [keysOf, ren]))
      · have e : i = l.length := by simp at h; omega
        subst e
        rw [List.drop_length, List.all_nil, Bool.true_and] at hr
        cases l with
        | nil =>
          simp only [go_sem, List.length_nil, ↓reduceIte, Nat.reduceEqDiff, Nat.reduceAdd, Nat.reduceLeDiff, reduceCtorEq, Nat.reduceLT, Int.reduceLT, Int.reduceLE, Int.reduceEq, Int.reduceToNat, Nat.reduceMul]
          refine Cl_keep [] (f_retention_Together []) ?_ (by simp) rfl ?_
          · exact .one (Wk.gone (by simp [slTrees, AV.asOwn, rowPart, stoOf]) (by simp [stoOf]; rfl)) .nil
          rw [show togB [] = out from hr]
          simp only [go_sem, ↓reduceIte, Nat.reduceEqDiff, Nat.reduceAdd, Nat.reduceLeDiff, reduceCtorEq, Nat.reduceLT, Int.reduceLT, Int.reduceLE, Int.reduceEq, Int.reduceToNat, Nat.reduceMul]
          refine wends (by first | exact Or.inl rfl | exact Or.inr rfl) ?_ (by first | rfl | simp [AV.ids, idsL])
          simp only [go_sem, r_ladder_Right, ↓reduceIte, Nat.reduceEqDiff, Nat.reduceAdd, Nat.reduceLeDiff, reduceCtorEq, Nat.reduceLT, Int.reduceLT, Int.reduceLE, Int.reduceEq, Int.reduceToNat, Nat.reduceMul]
        | cons r0 l0 =>
          rw [List.take_length]
          simp only [go_sem, ↓reduceIte, Nat.reduceEqDiff, Nat.reduceAdd, Nat.reduceLeDiff, reduceCtorEq, Nat.reduceLT, Int.reduceLT, Int.reduceLE, Int.reduceEq, Int.reduceToNat, Nat.reduceMul]
          refine Cl_keep [999] (f_retention_Together ((r0 :: l0).map rungM)) ?_ (by simp [stoOf]) rfl ?_
          · exact .one (Wk.row (by simp [slTrees, AV.asOwn, rowPart, stoOf, List.take_of_length_le]) (by simp)) .nil
          rw [hr]
          simp only [go_sem, ↓reduceIte, Nat.reduceEqDiff, Nat.reduceAdd, Nat.reduceLeDiff, reduceCtorEq, Nat.reduceLT, Int.reduceLT, Int.reduceLE, Int.reduceEq, Int.reduceToNat, Nat.reduceMul]
          refine wends (by first | exact Or.inl rfl | exact Or.inr rfl) ?_ (by first | rfl | simp [AV.ids, idsL])
          simp only [go_sem, r_ladder_Right, ↓reduceIte, Nat.reduceEqDiff, Nat.reduceAdd, Nat.reduceLeDiff, reduceCtorEq, Nat.reduceLT, Int.reduceLT, Int.reduceLE, Int.reduceEq, Int.reduceToNat, Nat.reduceMul]
  · have h4' := of_decide_eq_true h4
    have e : ladB m f l = false := by
      cases hh : ladB m f l
      · rfl
      · have := (lad_parts hh).2.2.2.2; omega
    rw [e]
    repeat' (first | (with_reducible refine Cl_plain (f_ladder_how m f) ?_) | (simp only [go_sem, s_ladder_Right, ↓reduceIte, Nat.reduceEqDiff, Nat.reduceAdd, Nat.reduceLeDiff, reduceCtorEq, Nat.reduceLT, Int.reduceLT, Int.reduceLE, Int.reduceEq, Int.reduceToNat, Nat.reduceMul, *]) | (simp (disch := omega) only [s_ladder_Right, wrap_i64_of, i64_quo, i64_rem, sdiv, smod]) | ((with_reducible refine W_split (by with_unfolding_all exact rfl) (fun hsp => ?_) (fun hsp => ?_)) <;> (try simp only [Bool.not_true, Bool.not_false, decide_eq_true_eq, decide_eq_false_iff_not, Bool.not_eq_true', Bool.not_eq_false', not_false_eq_true] at hsp)) | ((with_reducible refine R_split (by with_unfolding_all exact rfl) (fun hsp => ?_) (fun hsp => ?_)) <;> (try simp only [Bool.not_true, Bool.not_false, decide_eq_true_eq, decide_eq_false_iff_not, Bool.not_eq_true', Bool.not_eq_false', not_false_eq_true] at hsp)) | (with_reducible refine R_fin (by repeat' (first | exact okp0 | refine okp rfl rfl rfl ?_)) ?_))
    refine wends (by first | exact Or.inl rfl | exact Or.inr rfl) ?_ (by first | rfl | simp [AV.ids, idsL])
    simp only [go_sem, r_ladder_Right, ↓reduceIte, Nat.reduceEqDiff, Nat.reduceAdd, Nat.reduceLeDiff, reduceCtorEq, Nat.reduceLT, Int.reduceLT, Int.reduceLE, Int.reduceEq, Int.reduceToNat, Nat.reduceMul]

theorem f_ref14_Rungs (m f : Int) (l : List Ring) (hn : l.length ≤ maxLen) : Meets Tryz.prog E0 n_ref14_Rungs [ladV m f l] [] (slL ((l.take 10).map rungM)) [] := by
  refine m_ref14_Rungs (by simp) (shut0 rfl) (shut0 rfl) (by simp) (by simp [keysOf]) ?_
  have hn2 : l.length ≤ 9223372036854775807 := hn
  simp only [go_sem, s_ref14_Rungs, ↓reduceIte, Nat.reduceEqDiff, Nat.reduceAdd, Nat.reduceLeDiff, reduceCtorEq, Nat.reduceLT, Int.reduceLT, Int.reduceLE, Int.reduceEq, Int.reduceToNat, Nat.reduceMul]
  refine W_loop (fun i : Nat => l.length - i) (fun i => i ≤ l.length ∧ i ≤ 10)
    (fun i => [(1, .ptr 100 0), (3, .own 999 2 0 i (!decide (i = 0))), (4, I i)])
    (fun i => [(100, .box [I m, I f, rgL l]), (999, .row 2 (!decide (i = 0)) (((l.take i).map rungM).map slT))])
    0 ⟨Nat.zero_le _, Nat.zero_le _⟩ (subL [(999, 888)] [] (by simp [envS, go_sem, wkV, wkL, AV.ids, idsL, keysOf, ren, stoOf, slTrees, AV.asOwn, rowPart, AV.isNil] <;> assumption) (by simp [stoS, go_sem, wkV, wkL, wkO, AV.ids, Ob.ids, idsL, keysOf, ren, AV.one, stoOf, slTrees, AV.asOwn, rowPart, AV.isNil] <;> assumption) (by simp [keysOf, ren]) (by simp [stoOf, keysOf, ren]) (by simp [keysOf, ren]) (by simp [keysOf, ren])) ?_
  rintro i ⟨hi, h10⟩
  by_cases h : i < l.length ∧ i < 10
  · obtain ⟨r, hs⟩ := get_of_lt h.1
    have d1 : decide (i < l.length) = true := decide_eq_true h.1
    have d2 : decide ((i : Int) < 10) = true := decide_eq_true (by omega)
    have ei : IntKind.i64.wrap ((i : Int) + 1) = ((i + 1 : Nat) : Int) := by rw [wrap_i64_of (by omega) (by omega)]; omega
    have b1 : (i + 1) * 16 ≤ 2 ^ 47 := by omega
    have b2 : i + 1 < 2 ^ 47 := by omega
    have em : ((l.take i).map rungM).map slT ++ [[.v (.int .i64 r.1), .v (.int .i64 (r.2.length : Int))]] = ((l.take (i + 1)).map rungM).map slT := by
      rw [← map_take_succ rungM hs, List.map_append]; rfl
    have hlen : (((l.take i).map rungM).map slT).length = i := by simp; omega
    simp only [go_sem, d1, d2, hs, rgT, b1, b2, em, hlen, ei, ↓reduceIte, Nat.reduceEqDiff, Nat.reduceAdd, Nat.reduceLeDiff, reduceCtorEq, Nat.reduceLT, Int.reduceLT, Int.reduceLE, Int.reduceEq, Int.reduceToNat, Nat.reduceMul]
    refine rd_of (i + 1) (by first | omega | (simp only; omega)) ⟨by first | omega | (simp only; omega), by first | omega | (simp only; omega)⟩ ?_
    rw [show (!decide (i + 1 = 0)) = true from by simp]
    exact (subL [(999, 129)] [] (by simp [envS, go_sem, wkV, wkL, AV.ids, idsL, keysOf, ren, stoOf, slTrees, AV.asOwn, rowPart, AV.isNil] <;> assumption) (by simp [stoS, go_sem, wkV, wkL, wkO, AV.ids, Ob.ids, idsL, keysOf, ren, AV.one, stoOf, slTrees, AV.asOwn, rowPart, AV.isNil] <;> assumption) (by simp [keysOf, ren]) (by simp [stoOf, keysOf, ren]) (by simp [keysOf, ren]) (by simp [keysOf, ren]))
  · have ht : l.take 10 = l.take i := by
      by_cases h2 : i < l.length
      · rw [show i = 10 by omega]
      · rw [List.take_of_length_le (by omega), List.take_of_length_le (by omega)]
    have hlt : (((l.take i).map rungM).map slT).length = i := by simp; omega
    have fin : ∀ env sto, W Tryz.prog E0 (keysOf []) (SEnds (keysOf []) r_ref14_Rungs (slL ((l.take 10).map rungM)) []) s_ref14_Rungs [] env sto → True := fun _ _ _ => trivial
    clear fin
    cases d1 : decide (i < l.length)
    · simp only [go_sem, d1, ↓reduceIte, Nat.reduceEqDiff, Nat.reduceAdd, Nat.reduceLeDiff, reduceCtorEq, Nat.reduceLT, Int.reduceLT, Int.reduceLE, Int.reduceEq, Int.reduceToNat, Nat.reduceMul]
      rw [ht]
      cases i with
      | zero =>
        refine wends2 [] [] (by first | exact Or.inl rfl | exact Or.inr rfl) ?_ (by simp [AV.ids, idsL]) (by simp [stoS]) (by simp [keysOf]) (by simp [stoOf, keysOf] <;> assumption) (by simp [keysOf]) (by simp [keysOf])
        simp only [go_sem, r_ref14_Rungs, exists_eq_left', Option.some.injEq, ↓reduceIte, Nat.reduceEqDiff, Nat.reduceAdd, Nat.reduceLeDiff, reduceCtorEq, Nat.reduceLT, Int.reduceLT, Int.reduceLE, Int.reduceEq, Int.reduceToNat, Nat.reduceMul]
        simp [wkV, wkL, slTrees, AV.asOwn, rowPart, stoOf, AV.isNil]
      | succ i =>
        refine wends2 [] [999] (by first | exact Or.inl rfl | exact Or.inr rfl) ?_ (by simp [AV.ids, idsL]) (by simp [stoS]) (by simp [keysOf]) (by simp [stoOf, keysOf] <;> assumption) (by simp [keysOf]) (by simp [keysOf])
        simp only [go_sem, r_ref14_Rungs, exists_eq_left', Option.some.injEq, ↓reduceIte, Nat.reduceEqDiff, Nat.reduceAdd, Nat.reduceLeDiff, reduceCtorEq, Nat.reduceLT, Int.reduceLT, Int.reduceLE, Int.reduceEq, Int.reduceToNat, Nat.reduceMul]
        simp [wkV, wkL, slTrees, AV.asOwn, rowPart, stoOf, AV.isNil]
        exact ⟨by omega, by rw [List.take_take, Nat.min_self]⟩
    · have d2 : decide ((i : Int) < 10) = false := decide_eq_false (by have := of_decide_eq_true d1; omega)
      simp only [go_sem, d1, d2, ↓reduceIte, Nat.reduceEqDiff, Nat.reduceAdd, Nat.reduceLeDiff, reduceCtorEq, Nat.reduceLT, Int.reduceLT, Int.reduceLE, Int.reduceEq, Int.reduceToNat, Nat.reduceMul]
      rw [ht]
      cases i with
      | zero =>
        refine wends2 [] [] (by first | exact Or.inl rfl | exact Or.inr rfl) ?_ (by simp [AV.ids, idsL]) (by simp [stoS]) (by simp [keysOf]) (by simp [stoOf, keysOf] <;> assumption) (by simp [keysOf]) (by simp [keysOf])
        simp only [go_sem, r_ref14_Rungs, exists_eq_left', Option.some.injEq, ↓reduceIte, Nat.reduceEqDiff, Nat.reduceAdd, Nat.reduceLeDiff, reduceCtorEq, Nat.reduceLT, Int.reduceLT, Int.reduceLE, Int.reduceEq, Int.reduceToNat, Nat.reduceMul]
        simp [wkV, wkL, slTrees, AV.asOwn, rowPart, stoOf, AV.isNil]
      | succ i =>
        refine wends2 [] [999] (by first | exact Or.inl rfl | exact Or.inr rfl) ?_ (by simp [AV.ids, idsL]) (by simp [stoS]) (by simp [keysOf]) (by simp [stoOf, keysOf] <;> assumption) (by simp [keysOf]) (by simp [keysOf])
        simp only [go_sem, r_ref14_Rungs, exists_eq_left', Option.some.injEq, ↓reduceIte, Nat.reduceEqDiff, Nat.reduceAdd, Nat.reduceLeDiff, reduceCtorEq, Nat.reduceLT, Int.reduceLT, Int.reduceLE, Int.reduceEq, Int.reduceToNat, Nat.reduceMul]
        simp [wkV, wkL, slTrees, AV.asOwn, rowPart, stoOf, AV.isNil]
        exact ⟨by omega, by rw [List.take_take, Nat.min_self]⟩

theorem tog_take {l : List Ring} : togB ((l.take 10).map rungM) = togB (l.map rungM) := by
  by_cases h : l.length ≤ 10
  · rw [List.take_of_length_le h]
  · have a1 : togB ((l.take 10).map rungM) = false := by
      cases hh : togB ((l.take 10).map rungM)
      · rfl
      · have := (tog_len hh).2; simp at this; omega
    have a2 : togB (l.map rungM) = false := by
      cases hh : togB (l.map rungM)
      · rfl
      · have := (tog_len hh).2; simp at this; omega
    rw [a1, a2]

theorem f_ref14_Right (m f : Int) (l : List Ring) (hn : l.length ≤ maxLen) : Meets Tryz.prog E0 n_ref14_Right [ladV m f l] [] (Bo (ladB m f l)) [] := by
  refine m_ref14_Right (by simp) (shut0 rfl) (shut0 rfl) (by simp) (by simp [keysOf]) ?_
  have hn2 : l.length ≤ 9223372036854775807 := hn
  have b0 := f_ref14_how m f
  have b1 := f_ref14_Rungs m f l hn
  have b2 := f_ref10_Together ((l.take 10).map rungM) (by simp; omega)
  rw [tog_take] at b2
  cases hw : howB m f
  · have e : ladB m f l = false := by simp [ladB, hw]
    rw [hw] at b0
    rw [e]
    repeat' (first | (with_reducible refine Cl_plain (b0) ?_) | (with_reducible refine Cl_plain (b1) ?_) | (with_reducible refine Cl_plain (b2) ?_) | (simp only [go_sem, s_ref14_Right, ↓reduceIte, Nat.reduceEqDiff, Nat.reduceAdd, Nat.reduceLeDiff, reduceCtorEq, Nat.reduceLT, Int.reduceLT, Int.reduceLE, Int.reduceEq, Int.reduceToNat, Nat.reduceMul, *]) | (simp (disch := omega) only [s_ref14_Right, wrap_i64_of, i64_quo, i64_rem, sdiv, smod]) | ((with_reducible refine W_split (by with_unfolding_all exact rfl) (fun hsp => ?_) (fun hsp => ?_)) <;> (try simp only [Bool.not_true, Bool.not_false, decide_eq_true_eq, decide_eq_false_iff_not, Bool.not_eq_true', Bool.not_eq_false', not_false_eq_true] at hsp)) | ((with_reducible refine R_split (by with_unfolding_all exact rfl) (fun hsp => ?_) (fun hsp => ?_)) <;> (try simp only [Bool.not_true, Bool.not_false, decide_eq_true_eq, decide_eq_false_iff_not, Bool.not_eq_true', Bool.not_eq_false', not_false_eq_true] at hsp)) | (with_reducible refine R_fin (by repeat' (first | exact okp0 | refine okp rfl rfl rfl ?_)) ?_))
    refine wends (by first | exact Or.inl rfl | exact Or.inr rfl) ?_ (by first | rfl | simp [AV.ids, idsL])
    simp only [go_sem, r_ref14_Right, ↓reduceIte, Nat.reduceEqDiff, Nat.reduceAdd, Nat.reduceLeDiff, reduceCtorEq, Nat.reduceLT, Int.reduceLT, Int.reduceLE, Int.reduceEq, Int.reduceToNat, Nat.reduceMul]
  · rw [hw] at b0
    cases ht : togB (l.map rungM)
    · have e : ladB m f l = false := by simp [ladB, ht]
      rw [ht] at b2
      rw [e]
      repeat' (first | (with_reducible refine Cl_plain (b0) ?_) | (with_reducible refine Cl_plain (b1) ?_) | (with_reducible refine Cl_plain (b2) ?_) | (simp only [go_sem, s_ref14_Right, ↓reduceIte, Nat.reduceEqDiff, Nat.reduceAdd, Nat.reduceLeDiff, reduceCtorEq, Nat.reduceLT, Int.reduceLT, Int.reduceLE, Int.reduceEq, Int.reduceToNat, Nat.reduceMul, *]) | (simp (disch := omega) only [s_ref14_Right, wrap_i64_of, i64_quo, i64_rem, sdiv, smod]) | ((with_reducible refine W_split (by with_unfolding_all exact rfl) (fun hsp => ?_) (fun hsp => ?_)) <;> (try simp only [Bool.not_true, Bool.not_false, decide_eq_true_eq, decide_eq_false_iff_not, Bool.not_eq_true', Bool.not_eq_false', not_false_eq_true] at hsp)) | ((with_reducible refine R_split (by with_unfolding_all exact rfl) (fun hsp => ?_) (fun hsp => ?_)) <;> (try simp only [Bool.not_true, Bool.not_false, decide_eq_true_eq, decide_eq_false_iff_not, Bool.not_eq_true', Bool.not_eq_false', not_false_eq_true] at hsp)) | (with_reducible refine R_fin (by repeat' (first | exact okp0 | refine okp rfl rfl rfl ?_)) ?_))
      refine wends (by first | exact Or.inl rfl | exact Or.inr rfl) ?_ (by first | rfl | simp [AV.ids, idsL])
      simp only [go_sem, r_ref14_Right, ↓reduceIte, Nat.reduceEqDiff, Nat.reduceAdd, Nat.reduceLeDiff, reduceCtorEq, Nat.reduceLT, Int.reduceLT, Int.reduceLE, Int.reduceEq, Int.reduceToNat, Nat.reduceMul]
    · have e : ladB m f l = l.all rgB := by simp [ladB, ht, hw]
      rw [ht] at b2
      rw [e]
      generalize hout : l.all rgB = out
      simp only [go_sem, s_ref14_Right, ↓reduceIte, Nat.reduceEqDiff, Nat.reduceAdd, Nat.reduceLeDiff, reduceCtorEq, Nat.reduceLT, Int.reduceLT, Int.reduceLE, Int.reduceEq, Int.reduceToNat, Nat.reduceMul]
      refine Cl_plain b0 ?_
      simp only [go_sem, ↓reduceIte, Nat.reduceEqDiff, Nat.reduceAdd, Nat.reduceLeDiff, reduceCtorEq, Nat.reduceLT, Int.reduceLT, Int.reduceLE, Int.reduceEq, Int.reduceToNat, Nat.reduceMul]
      refine Cl_plain b1 ?_
      simp only [go_sem, ↓reduceIte, Nat.reduceEqDiff, Nat.reduceAdd, Nat.reduceLeDiff, reduceCtorEq, Nat.reduceLT, Int.reduceLT, Int.reduceLE, Int.reduceEq, Int.reduceToNat, Nat.reduceMul]
      refine Cl_plain b2 ?_
      simp only [go_sem, ↓reduceIte, Nat.reduceEqDiff, Nat.reduceAdd, Nat.reduceLeDiff, reduceCtorEq, Nat.reduceLT, Int.reduceLT, Int.reduceLE, Int.reduceEq, Int.reduceToNat, Nat.reduceMul]
      refine W_loop (fun i : Nat => l.length - i) (fun i => i ≤ l.length ∧ (l.drop i).all rgB = out)
        (fun i => [(1, .ptr 100 0), (2, Bo false), (3, I i)])
        (fun i => [(100, .box [I m, I f, rgL l])])
        0 ⟨Nat.zero_le _, by simpa using hout⟩ (subL [] [] (by simp [envS, go_sem, wkV, wkL, AV.ids, idsL, keysOf, ren]) (by simp [stoS, go_sem, wkV, wkL, wkO, AV.ids, Ob.ids, idsL, keysOf, ren, AV.one]) (by simp [keysOf, ren]) (by simp) (by simp [keysOf]) (by simp [keysOf])) ?_
      rintro i ⟨hi, hr⟩
      simp only [go_sem, ↓reduceIte, Nat.reduceEqDiff, Nat.reduceAdd, Nat.reduceLeDiff, reduceCtorEq, Nat.reduceLT, Int.reduceLT, Int.reduceLE, Int.reduceEq, Int.reduceToNat, Nat.reduceMul]
      refine W_split rfl (fun h => ?_) (fun h => ?_)
      · simp at h
        obtain ⟨r, hs⟩ := get_of_lt h
        have ei : IntKind.i64.wrap ((i : Int) + 1) = ((i + 1 : Nat) : Int) := by rw [wrap_i64_of (by omega) (by omega)]; omega
        rw [all_dropR hs] at hr
        have hra : rgB r = ringB r.1 r.2 := rfl
        simp only [go_sem, hs, rgT, ↓reduceIte, Nat.reduceEqDiff, Nat.reduceAdd, Nat.reduceLeDiff, reduceCtorEq, Nat.reduceLT, Int.reduceLT, Int.reduceLE, Int.reduceEq, Int.reduceToNat, Nat.reduceMul]
        refine Cl_plain (f_ref13_Right r.1 r.2) ?_
        rw [← hra]
        cases hz : rgB r
        · rw [hz, Bool.false_and] at hr
          subst hr
          simp only [go_sem, ↓reduceIte, Nat.reduceEqDiff, Nat.reduceAdd, Nat.reduceLeDiff, reduceCtorEq, Nat.reduceLT, Int.reduceLT, Int.reduceLE, Int.reduceEq, Int.reduceToNat, Nat.reduceMul]
          refine wends (by first | exact Or.inl rfl | exact Or.inr rfl) ?_ (by first | rfl | simp [AV.ids, idsL])
          simp only [go_sem, r_ref14_Right, ↓reduceIte, Nat.reduceEqDiff, Nat.reduceAdd, Nat.reduceLeDiff, reduceCtorEq, Nat.reduceLT, Int.reduceLT, Int.reduceLE, Int.reduceEq, Int.reduceToNat, Nat.reduceMul]
        · rw [hz, Bool.true_and] at hr
          simp only [go_sem, ei, ↓reduceIte, Nat.reduceEqDiff, Nat.reduceAdd, Nat.reduceLeDiff, reduceCtorEq, Nat.reduceLT, Int.reduceLT, Int.reduceLE, Int.reduceEq, Int.reduceToNat, Nat.reduceMul]
          exact rd_of (i + 1) (by first | omega | (simp only; omega)) ⟨by first | omega | (simp only; omega), hr⟩ (subL [] [] (by simp [envS, go_sem, wkV, wkL, AV.ids, idsL, keysOf, ren]) (by simp [stoS, go_sem, wkV, wkL, wkO, AV.ids, Ob.ids, idsL, keysOf, ren, AV.one]) (by simp [keysOf, ren]) (by simp) (by simp [keysOf]) (by simp [keysOf]))
      · have e : i = l.length := by simp at h; omega
        subst e
        rw [List.drop_length, List.all_nil] at hr
        subst hr
        simp only [go_sem, ↓reduceIte, Nat.reduceEqDiff, Nat.reduceAdd, Nat.reduceLeDiff, reduceCtorEq, Nat.reduceLT, Int.reduceLT, Int.reduceLE, Int.reduceEq, Int.reduceToNat, Nat.reduceMul]
        refine wends (by first | exact Or.inl rfl | exact Or.inr rfl) ?_ (by first | rfl | simp [AV.ids, idsL])
        simp only [go_sem, r_ref14_Right, ↓reduceIte, Nat.reduceEqDiff, Nat.reduceAdd, Nat.reduceLeDiff, reduceCtorEq, Nat.reduceLT, Int.reduceLT, Int.reduceLE, Int.reduceEq, Int.reduceToNat, Nat.reduceMul]

end Go.Proofs.YtmjlldlaigoflaaGreat
