/- The contracts of what is fetched of a ladder. No statement of the seat is proved here. -/
import Derived.Test.YtmjlldlaigoflaaLdFetchM
set_option linter.unusedSimpArgs false
set_option linter.unusedVariables false
namespace Go.Proofs.Ytmjlldlaigoflaa
open Go Go.Sx

theorem abv_ceil {w fr : Int} (hw : 0 < w) (h : 0 ≤ fr) : abvM (fr - 1) w = ceilM w fr := by
  unfold abvM ceilM
  by_cases h0 : fr = 0
  · subst h0
    rw [if_pos (by omega)]
    exact (Int.ediv_eq_zero_of_lt (by omega) (by omega)).symm
  · rw [if_neg (by omega), show fr + w - 1 = (fr - 1) + 1 * w by omega, Int.add_mul_ediv_right _ _ (by omega)]

theorem abv_bd {t w : Int} (hw : 0 < w) (h1 : t ≤ 1099511627776) : 0 ≤ abvM t w ∧ 0 ≤ abvM t w * w ∧ (abvM t w * w ≤ t + w ∨ abvM t w = 0) := by
  unfold abvM
  split
  · simp
  · rename_i h
    have h2 : 0 ≤ t / w := Int.ediv_nonneg (by omega) (by omega)
    have h3 : t / w * w ≤ t := Int.ediv_mul_le _ (by omega)
    have h4 : 0 ≤ (t / w + 1) * w := Int.mul_nonneg (by omega) (by omega)
    refine ⟨by omega, h4, Or.inl ?_⟩
    rw [Int.add_mul, Int.one_mul]; omega

theorem f_ladder_above (t w : Int) (hw : 1 ≤ w) (hw2 : w ≤ 86400) (h1 : -1099511627776 ≤ t) (h2 : t ≤ 1099511627776) : Meets Try.prog E0 n_ladder_above [I t, I w] [] (I (abvM t w * w)) [] := by
  refine m_ladder_above (by simp) (shut0 rfl) (shut0 rfl) (by simp) (by simp [keysOf]) ?_
  cases hd : decide (t < 0)
  · have h0 := of_decide_eq_false hd
    have hw0 : ¬ w = 0 := by omega
    have q1 : t.tdiv w = t / w := sdiv (by omega)
    have q2 : 0 ≤ t / w := Int.ediv_nonneg (by omega) (by omega)
    have q3 : t / w ≤ t := Int.ediv_le_self _ (by omega)
    have q4 : IntKind.i64.wrap (t / w) = t / w := wrap_i64_of (by omega) (by omega)
    have q5 : IntKind.i64.wrap (t / w + 1) = t / w + 1 := wrap_i64_of (by omega) (by omega)
    have hb := abv_bd (t := t) (w := w) (by omega) h2
    have e : abvM t w = t / w + 1 := if_neg h0
    rw [e] at hb ⊢
    have q6 : IntKind.i64.wrap ((t / w + 1) * w) = (t / w + 1) * w := wrap_i64_of (by omega) (by omega)
    simp only [go_sem, s_ladder_above, hd, i64_quo hw0, q1, q4, q5, q6, ↓reduceIte, Nat.reduceEqDiff, Nat.reduceAdd, Nat.reduceLeDiff, reduceCtorEq, Nat.reduceLT, Int.reduceLT, Int.reduceLE, Int.reduceEq, Int.reduceToNat, Nat.reduceMul]
    refine wends (by first | exact Or.inl rfl | exact Or.inr rfl) ?_ (by first | rfl | simp [AV.ids, idsL])
    simp only [go_sem, r_ladder_above, ↓reduceIte, Nat.reduceEqDiff, Nat.reduceAdd, Nat.reduceLeDiff, reduceCtorEq, Nat.reduceLT, Int.reduceLT, Int.reduceLE, Int.reduceEq, Int.reduceToNat, Nat.reduceMul]
  · have e : abvM t w = 0 := if_pos (of_decide_eq_true hd)
    rw [e, Int.zero_mul]
    simp only [go_sem, s_ladder_above, hd, ↓reduceIte, Nat.reduceEqDiff, Nat.reduceAdd, Nat.reduceLeDiff, reduceCtorEq, Nat.reduceLT, Int.reduceLT, Int.reduceLE, Int.reduceEq, Int.reduceToNat, Nat.reduceMul]
    refine wends (by first | exact Or.inl rfl | exact Or.inr rfl) ?_ (by first | rfl | simp [AV.ids, idsL])
    simp only [go_sem, r_ladder_above, ↓reduceIte, Nat.reduceEqDiff, Nat.reduceAdd, Nat.reduceLeDiff, reduceCtorEq, Nat.reduceLT, Int.reduceLT, Int.reduceLE, Int.reduceEq, Int.reduceToNat, Nat.reduceMul]

theorem f_ladder_pick (m f : Int) (rs : List Ring) (fr now : Int) (hn : rs.length ≤ maxLen) (hg : ∀ r ∈ rs, ringB r.1 r.2 = true) (h1 : timedB fr = true) (h2 : timedB now = true) :
    Meets Try.prog E0 n_ladder_pick [ladV m f rs, I fr, I now] [] (I (pickL rs fr now)) [] := by
  refine m_ladder_pick (by simp) (shut0 rfl) (shut0 rfl) (by simp) (by simp [keysOf]) ?_
  have hn2 : rs.length ≤ 9223372036854775807 := hn
  have bI : Meets Try.prog E0 n_slices_IndexFunc_Sapi_Ring_api_Ring [rgL rs, .fn n_ladder_pick_1 [] [.ptr 102 0, .ptr 101 0]] [(102, .box [I now]), (101, .box [I fr])] (I (idxF (fun r => decide (now - fr ≤ r.1 * (r.2.length : Int))) rs 0)) [(102, .box [I now]), (101, .box [I fr])] := by
    have := (f_IndexFunc_B n_ladder_pick_1 (fun r => decide (now - fr ≤ r.1 * (r.2.length : Int))) now fr rs hn (fun r hr => f_ladder_pick_1 r.1 r.2 fr now (hg r hr) h1 h2)).ren (fun i => 102 - i) (by simp [keysOf])
    simpa [renL, renA, renS, renO] using this
  unfold pickL
  generalize idxF (fun r => decide (now - fr ≤ r.1 * (r.2.length : Int))) rs 0 = i at *
  have ew : IntKind.i64.wrap ((rs.length : Int) - 1) = (rs.length : Int) - 1 := wrap_i64_of (by omega) (by omega)
  simp only [go_sem, s_ladder_pick, ↓reduceIte, Nat.reduceEqDiff, Nat.reduceAdd, Nat.reduceLeDiff, reduceCtorEq, Nat.reduceLT, Int.reduceLT, Int.reduceLE, Int.reduceEq, Int.reduceToNat, Nat.reduceMul]
  refine Cl_obj (ins := _) (hin := by simp [keysOf, stoOf]) (hk := by simp [keysOf]) (nd := by simp [keysOf]) (h := bI) ?_
  cases hd : decide (i < 0)
  · rw [if_neg (of_decide_eq_false hd)]
    simp only [go_sem, hd, ↓reduceIte, Nat.reduceEqDiff, Nat.reduceAdd, Nat.reduceLeDiff, reduceCtorEq, Nat.reduceLT, Int.reduceLT, Int.reduceLE, Int.reduceEq, Int.reduceToNat, Nat.reduceMul]
    refine wends (by first | exact Or.inl rfl | exact Or.inr rfl) ?_ (by first | rfl | simp [AV.ids, idsL])
    simp only [go_sem, r_ladder_pick, ↓reduceIte, Nat.reduceEqDiff, Nat.reduceAdd, Nat.reduceLeDiff, reduceCtorEq, Nat.reduceLT, Int.reduceLT, Int.reduceLE, Int.reduceEq, Int.reduceToNat, Nat.reduceMul]
  · rw [if_pos (of_decide_eq_true hd)]
    simp only [go_sem, hd, ew, ↓reduceIte, Nat.reduceEqDiff, Nat.reduceAdd, Nat.reduceLeDiff, reduceCtorEq, Nat.reduceLT, Int.reduceLT, Int.reduceLE, Int.reduceEq, Int.reduceToNat, Nat.reduceMul]
    refine wends (by first | exact Or.inl rfl | exact Or.inr rfl) ?_ (by first | rfl | simp [AV.ids, idsL])
    simp only [go_sem, r_ladder_pick, ↓reduceIte, Nat.reduceEqDiff, Nat.reduceAdd, Nat.reduceLeDiff, reduceCtorEq, Nat.reduceLT, Int.reduceLT, Int.reduceLE, Int.reduceEq, Int.reduceToNat, Nat.reduceMul]

theorem f_ladder_Pick (m f : Int) (rs : List Ring) (fr now : Int) (hn : rs.length ≤ maxLen) : Meets Try.prog E0 n_ladder_Pick [ladV m f rs, I fr, I now] [] (I (pickA m f rs fr now)) [] := by
  refine m_ladder_Pick (by simp) (shut0 rfl) (shut0 rfl) (by simp) (by simp [keysOf]) ?_
  have b1 := f_ladder_timed fr
  have b2 := f_ladder_timed now
  have b3 := f_ladder_Right m f rs hn
  unfold pickA
  cases h1 : timedB fr
  · rw [h1] at b1
    repeat' (first | (with_reducible refine Cl_plain (b1) ?_) | (with_reducible refine Cl_plain (b2) ?_) | (with_reducible refine Cl_plain (b3) ?_) | (simp only [go_sem, s_ladder_Pick, ↓reduceIte, Nat.reduceEqDiff, Nat.reduceAdd, Nat.reduceLeDiff, reduceCtorEq, Nat.reduceLT, Int.reduceLT, Int.reduceLE, Int.reduceEq, Int.reduceToNat, Nat.reduceMul, *]) | (simp (disch := omega) only [s_ladder_Pick, wrap_i64_of, i64_quo, i64_rem, sdiv, smod]) | ((with_reducible refine W_split (by with_unfolding_all exact rfl) (fun hsp => ?_) (fun hsp => ?_)) <;> (try simp only [Bool.not_true, Bool.not_false, decide_eq_true_eq, decide_eq_false_iff_not, Bool.not_eq_true', Bool.not_eq_false', not_false_eq_true] at hsp)) | ((with_reducible refine R_split (by with_unfolding_all exact rfl) (fun hsp => ?_) (fun hsp => ?_)) <;> (try simp only [Bool.not_true, Bool.not_false, decide_eq_true_eq, decide_eq_false_iff_not, Bool.not_eq_true', Bool.not_eq_false', not_false_eq_true] at hsp)) | (with_reducible refine R_fin (by repeat' (first | exact okp0 | refine okp rfl rfl rfl ?_)) ?_))
    refine wends (by first | exact Or.inl rfl | exact Or.inr rfl) ?_ (by first | rfl | simp [AV.ids, idsL])
    simp only [go_sem, r_ladder_Pick, ↓reduceIte, Nat.reduceEqDiff, Nat.reduceAdd, Nat.reduceLeDiff, reduceCtorEq, Nat.reduceLT, Int.reduceLT, Int.reduceLE, Int.reduceEq, Int.reduceToNat, Nat.reduceMul]
  cases h2 : timedB now
  · rw [h1] at b1
    rw [h2] at b2
    repeat' (first | (with_reducible refine Cl_plain (b1) ?_) | (with_reducible refine Cl_plain (b2) ?_) | (with_reducible refine Cl_plain (b3) ?_) | (simp only [go_sem, s_ladder_Pick, ↓reduceIte, Nat.reduceEqDiff, Nat.reduceAdd, Nat.reduceLeDiff, reduceCtorEq, Nat.reduceLT, Int.reduceLT, Int.reduceLE, Int.reduceEq, Int.reduceToNat, Nat.reduceMul, *]) | (simp (disch := omega) only [s_ladder_Pick, wrap_i64_of, i64_quo, i64_rem, sdiv, smod]) | ((with_reducible refine W_split (by with_unfolding_all exact rfl) (fun hsp => ?_) (fun hsp => ?_)) <;> (try simp only [Bool.not_true, Bool.not_false, decide_eq_true_eq, decide_eq_false_iff_not, Bool.not_eq_true', Bool.not_eq_false', not_false_eq_true] at hsp)) | ((with_reducible refine R_split (by with_unfolding_all exact rfl) (fun hsp => ?_) (fun hsp => ?_)) <;> (try simp only [Bool.not_true, Bool.not_false, decide_eq_true_eq, decide_eq_false_iff_not, Bool.not_eq_true', Bool.not_eq_false', not_false_eq_true] at hsp)) | (with_reducible refine R_fin (by repeat' (first | exact okp0 | refine okp rfl rfl rfl ?_)) ?_))
    refine wends (by first | exact Or.inl rfl | exact Or.inr rfl) ?_ (by first | rfl | simp [AV.ids, idsL])
    simp only [go_sem, r_ladder_Pick, ↓reduceIte, Nat.reduceEqDiff, Nat.reduceAdd, Nat.reduceLeDiff, reduceCtorEq, Nat.reduceLT, Int.reduceLT, Int.reduceLE, Int.reduceEq, Int.reduceToNat, Nat.reduceMul]
  cases hl : ladB m f rs
  · rw [h1] at b1
    rw [h2] at b2
    rw [hl] at b3
    repeat' (first | (with_reducible refine Cl_plain (b1) ?_) | (with_reducible refine Cl_plain (b2) ?_) | (with_reducible refine Cl_plain (b3) ?_) | (simp only [go_sem, s_ladder_Pick, ↓reduceIte, Nat.reduceEqDiff, Nat.reduceAdd, Nat.reduceLeDiff, reduceCtorEq, Nat.reduceLT, Int.reduceLT, Int.reduceLE, Int.reduceEq, Int.reduceToNat, Nat.reduceMul, *]) | (simp (disch := omega) only [s_ladder_Pick, wrap_i64_of, i64_quo, i64_rem, sdiv, smod]) | ((with_reducible refine W_split (by with_unfolding_all exact rfl) (fun hsp => ?_) (fun hsp => ?_)) <;> (try simp only [Bool.not_true, Bool.not_false, decide_eq_true_eq, decide_eq_false_iff_not, Bool.not_eq_true', Bool.not_eq_false', not_false_eq_true] at hsp)) | ((with_reducible refine R_split (by with_unfolding_all exact rfl) (fun hsp => ?_) (fun hsp => ?_)) <;> (try simp only [Bool.not_true, Bool.not_false, decide_eq_true_eq, decide_eq_false_iff_not, Bool.not_eq_true', Bool.not_eq_false', not_false_eq_true] at hsp)) | (with_reducible refine R_fin (by repeat' (first | exact okp0 | refine okp rfl rfl rfl ?_)) ?_))
    refine wends (by first | exact Or.inl rfl | exact Or.inr rfl) ?_ (by first | rfl | simp [AV.ids, idsL])
    simp only [go_sem, r_ladder_Pick, ↓reduceIte, Nat.reduceEqDiff, Nat.reduceAdd, Nat.reduceLeDiff, reduceCtorEq, Nat.reduceLT, Int.reduceLT, Int.reduceLE, Int.reduceEq, Int.reduceToNat, Nat.reduceMul]
  · rw [h1] at b1
    rw [h2] at b2
    rw [hl] at b3
    have b4 := f_ladder_pick m f rs fr now hn (fun r hr => List.all_eq_true.1 (lad_parts hl).2.1 r hr) h1 h2
    repeat' (first | (with_reducible refine Cl_plain (b1) ?_) | (with_reducible refine Cl_plain (b2) ?_) | (with_reducible refine Cl_plain (b3) ?_) | (with_reducible refine Cl_plain (b4) ?_) | (simp only [go_sem, s_ladder_Pick, ↓reduceIte, Nat.reduceEqDiff, Nat.reduceAdd, Nat.reduceLeDiff, reduceCtorEq, Nat.reduceLT, Int.reduceLT, Int.reduceLE, Int.reduceEq, Int.reduceToNat, Nat.reduceMul, *]) | (simp (disch := omega) only [s_ladder_Pick, wrap_i64_of, i64_quo, i64_rem, sdiv, smod]) | ((with_reducible refine W_split (by with_unfolding_all exact rfl) (fun hsp => ?_) (fun hsp => ?_)) <;> (try simp only [Bool.not_true, Bool.not_false, decide_eq_true_eq, decide_eq_false_iff_not, Bool.not_eq_true', Bool.not_eq_false', not_false_eq_true] at hsp)) | ((with_reducible refine R_split (by with_unfolding_all exact rfl) (fun hsp => ?_) (fun hsp => ?_)) <;> (try simp only [Bool.not_true, Bool.not_false, decide_eq_true_eq, decide_eq_false_iff_not, Bool.not_eq_true', Bool.not_eq_false', not_false_eq_true] at hsp)) | (with_reducible refine R_fin (by repeat' (first | exact okp0 | refine okp rfl rfl rfl ?_)) ?_))
    refine wends (by first | exact Or.inl rfl | exact Or.inr rfl) ?_ (by first | rfl | simp [AV.ids, idsL])
    simp only [go_sem, r_ladder_Pick, ↓reduceIte, Nat.reduceEqDiff, Nat.reduceAdd, Nat.reduceLeDiff, reduceCtorEq, Nat.reduceLT, Int.reduceLT, Int.reduceLE, Int.reduceEq, Int.reduceToNat, Nat.reduceMul]

theorem f_ref14_Pick (m f : Int) (rs : List Ring) (fr now : Int) (hn : rs.length ≤ maxLen) : Meets Try.prog E0 n_ref14_Pick [ladV m f rs, I fr, I now] [] (I (pickA m f rs fr now)) [] := by
  refine m_ref14_Pick (by simp) (shut0 rfl) (shut0 rfl) (by simp) (by simp [keysOf]) ?_
  have hn2 : rs.length ≤ 9223372036854775807 := hn
  have b1 := f_ref13_Timed fr
  have b2 := f_ref13_Timed now
  have b3 := f_ref14_Right m f rs hn
  unfold pickA
  cases hl : ladB m f rs
  · rw [hl] at b3
    repeat' (first | (with_reducible refine Cl_plain (b1) ?_) | (with_reducible refine Cl_plain (b2) ?_) | (with_reducible refine Cl_plain (b3) ?_) | (simp only [go_sem, s_ref14_Pick, ↓reduceIte, Nat.reduceEqDiff, Nat.reduceAdd, Nat.reduceLeDiff, reduceCtorEq, Nat.reduceLT, Int.reduceLT, Int.reduceLE, Int.reduceEq, Int.reduceToNat, Nat.reduceMul, *]) | (simp (disch := omega) only [s_ref14_Pick, wrap_i64_of, i64_quo, i64_rem, sdiv, smod]) | ((with_reducible refine W_split (by with_unfolding_all exact rfl) (fun hsp => ?_) (fun hsp => ?_)) <;> (try simp only [Bool.not_true, Bool.not_false, decide_eq_true_eq, decide_eq_false_iff_not, Bool.not_eq_true', Bool.not_eq_false', not_false_eq_true] at hsp)) | ((with_reducible refine R_split (by with_unfolding_all exact rfl) (fun hsp => ?_) (fun hsp => ?_)) <;> (try simp only [Bool.not_true, Bool.not_false, decide_eq_true_eq, decide_eq_false_iff_not, Bool.not_eq_true', Bool.not_eq_false', not_false_eq_true] at hsp)) | (with_reducible refine R_fin (by repeat' (first | exact okp0 | refine okp rfl rfl rfl ?_)) ?_))
    refine wends (by first | exact Or.inl rfl | exact Or.inr rfl) ?_ (by first | rfl | simp [AV.ids, idsL])
    simp only [go_sem, r_ref14_Pick, ↓reduceIte, Nat.reduceEqDiff, Nat.reduceAdd, Nat.reduceLeDiff, reduceCtorEq, Nat.reduceLT, Int.reduceLT, Int.reduceLE, Int.reduceEq, Int.reduceToNat, Nat.reduceMul]
  rw [hl] at b3
  cases h1 : timedB fr
  · rw [h1] at b1
    repeat' (first | (with_reducible refine Cl_plain (b1) ?_) | (with_reducible refine Cl_plain (b2) ?_) | (with_reducible refine Cl_plain (b3) ?_) | (simp only [go_sem, s_ref14_Pick, ↓reduceIte, Nat.reduceEqDiff, Nat.reduceAdd, Nat.reduceLeDiff, reduceCtorEq, Nat.reduceLT, Int.reduceLT, Int.reduceLE, Int.reduceEq, Int.reduceToNat, Nat.reduceMul, *]) | (simp (disch := omega) only [s_ref14_Pick, wrap_i64_of, i64_quo, i64_rem, sdiv, smod]) | ((with_reducible refine W_split (by with_unfolding_all exact rfl) (fun hsp => ?_) (fun hsp => ?_)) <;> (try simp only [Bool.not_true, Bool.not_false, decide_eq_true_eq, decide_eq_false_iff_not, Bool.not_eq_true', Bool.not_eq_false', not_false_eq_true] at hsp)) | ((with_reducible refine R_split (by with_unfolding_all exact rfl) (fun hsp => ?_) (fun hsp => ?_)) <;> (try simp only [Bool.not_true, Bool.not_false, decide_eq_true_eq, decide_eq_false_iff_not, Bool.not_eq_true', Bool.not_eq_false', not_false_eq_true] at hsp)) | (with_reducible refine R_fin (by repeat' (first | exact okp0 | refine okp rfl rfl rfl ?_)) ?_))
    refine wends (by first | exact Or.inl rfl | exact Or.inr rfl) ?_ (by first | rfl | simp [AV.ids, idsL])
    simp only [go_sem, r_ref14_Pick, ↓reduceIte, Nat.reduceEqDiff, Nat.reduceAdd, Nat.reduceLeDiff, reduceCtorEq, Nat.reduceLT, Int.reduceLT, Int.reduceLE, Int.reduceEq, Int.reduceToNat, Nat.reduceMul]
  rw [h1] at b1
  cases h2 : timedB now
  · rw [h2] at b2
    repeat' (first | (with_reducible refine Cl_plain (b1) ?_) | (with_reducible refine Cl_plain (b2) ?_) | (with_reducible refine Cl_plain (b3) ?_) | (simp only [go_sem, s_ref14_Pick, ↓reduceIte, Nat.reduceEqDiff, Nat.reduceAdd, Nat.reduceLeDiff, reduceCtorEq, Nat.reduceLT, Int.reduceLT, Int.reduceLE, Int.reduceEq, Int.reduceToNat, Nat.reduceMul, *]) | (simp (disch := omega) only [s_ref14_Pick, wrap_i64_of, i64_quo, i64_rem, sdiv, smod]) | ((with_reducible refine W_split (by with_unfolding_all exact rfl) (fun hsp => ?_) (fun hsp => ?_)) <;> (try simp only [Bool.not_true, Bool.not_false, decide_eq_true_eq, decide_eq_false_iff_not, Bool.not_eq_true', Bool.not_eq_false', not_false_eq_true] at hsp)) | ((with_reducible refine R_split (by with_unfolding_all exact rfl) (fun hsp => ?_) (fun hsp => ?_)) <;> (try simp only [Bool.not_true, Bool.not_false, decide_eq_true_eq, decide_eq_false_iff_not, Bool.not_eq_true', Bool.not_eq_false', not_false_eq_true] at hsp)) | (with_reducible refine R_fin (by repeat' (first | exact okp0 | refine okp rfl rfl rfl ?_)) ?_))
    refine wends (by first | exact Or.inl rfl | exact Or.inr rfl) ?_ (by first | rfl | simp [AV.ids, idsL])
    simp only [go_sem, r_ref14_Pick, ↓reduceIte, Nat.reduceEqDiff, Nat.reduceAdd, Nat.reduceLeDiff, reduceCtorEq, Nat.reduceLT, Int.reduceLT, Int.reduceLE, Int.reduceEq, Int.reduceToNat, Nat.reduceMul]
  rw [h2] at b2
  have t1 := timedB_iff.1 h1
  have t2 := timedB_iff.1 h2
  have ed : IntKind.i64.wrap (now - fr) = now - fr := wrap_i64_of (by omega) (by omega)
  have ew : IntKind.i64.wrap ((rs.length : Int) - 1) = (rs.length : Int) - 1 := wrap_i64_of (by omega) (by omega)
  generalize hout : (if (true && true && true) = true then pickL rs fr now else 0) = out
  have hout : pickL rs fr now = out := by simpa using hout
  simp only [go_sem, s_ref14_Pick, ↓reduceIte, Nat.reduceEqDiff, Nat.reduceAdd, Nat.reduceLeDiff, reduceCtorEq, Nat.reduceLT, Int.reduceLT, Int.reduceLE, Int.reduceEq, Int.reduceToNat, Nat.reduceMul]
  refine Cl_plain b3 ?_
  simp only [go_sem, ↓reduceIte, Nat.reduceEqDiff, Nat.reduceAdd, Nat.reduceLeDiff, reduceCtorEq, Nat.reduceLT, Int.reduceLT, Int.reduceLE, Int.reduceEq, Int.reduceToNat, Nat.reduceMul]
  refine Cl_plain b1 ?_
  simp only [go_sem, ↓reduceIte, Nat.reduceEqDiff, Nat.reduceAdd, Nat.reduceLeDiff, reduceCtorEq, Nat.reduceLT, Int.reduceLT, Int.reduceLE, Int.reduceEq, Int.reduceToNat, Nat.reduceMul]
  refine Cl_plain b2 ?_
  simp only [go_sem, ↓reduceIte, Nat.reduceEqDiff, Nat.reduceAdd, Nat.reduceLeDiff, reduceCtorEq, Nat.reduceLT, Int.reduceLT, Int.reduceLE, Int.reduceEq, Int.reduceToNat, Nat.reduceMul]
  refine W_loop (fun i : Nat => rs.length - i) (fun i => i ≤ rs.length ∧ idxF (fun r => decide (now - fr ≤ r.1 * (r.2.length : Int))) (rs.drop i) i = idxF (fun r => decide (now - fr ≤ r.1 * (r.2.length : Int))) rs 0)
    (fun i => [(1, I fr), (2, I now), (3, .ptr 100 0), (6, I 0), (7, I i)])
    (fun i => [(100, .box [I m, I f, rgL rs])]) 0 ⟨Nat.zero_le _, by simp⟩ (subL [] [] (by simp [envS, go_sem, wkV, wkL, AV.ids, idsL, keysOf, ren]) (by simp [stoS, go_sem, wkV, wkL, wkO, AV.ids, Ob.ids, idsL, keysOf, ren, AV.one]) (by simp [keysOf, ren]) (by simp) (by simp [keysOf]) (by simp [keysOf])) ?_
  rintro i ⟨hi, hr⟩
  simp only [go_sem, ↓reduceIte, Nat.reduceEqDiff, Nat.reduceAdd, Nat.reduceLeDiff, reduceCtorEq, Nat.reduceLT, Int.reduceLT, Int.reduceLE, Int.reduceEq, Int.reduceToNat, Nat.reduceMul]
  refine W_split rfl (fun h => ?_) (fun h => ?_)
  · simp at h
    obtain ⟨r, hs⟩ := get_of_lt h
    have ei : IntKind.i64.wrap ((i : Int) + 1) = ((i + 1 : Nat) : Int) := by rw [wrap_i64_of (by omega) (by omega)]; omega
    have hgr : ringB r.1 r.2 = true := List.all_eq_true.1 (lad_parts hl).2.1 r (List.mem_of_getElem? hs)
    rw [drop_get hs] at hr
    simp only [idxF] at hr
    simp only [go_sem, hs, rgT, ed, ↓reduceIte, Nat.reduceEqDiff, Nat.reduceAdd, Nat.reduceLeDiff, reduceCtorEq, Nat.reduceLT, Int.reduceLT, Int.reduceLE, Int.reduceEq, Int.reduceToNat, Nat.reduceMul]
    refine Cl_plain (f_ref14_reach r.1 r.2 hgr) ?_
    cases hp : decide (now - fr ≤ r.1 * (r.2.length : Int))
    · rw [if_neg (by simp only [hp]; decide)] at hr
      simp only [go_sem, hp, ei, ↓reduceIte, Nat.reduceEqDiff, Nat.reduceAdd, Nat.reduceLeDiff, reduceCtorEq, Nat.reduceLT, Int.reduceLT, Int.reduceLE, Int.reduceEq, Int.reduceToNat, Nat.reduceMul]
      exact rd_of (i + 1) (by first | omega | (simp only; omega)) ⟨by first | omega | (simp only; omega), hr⟩ (subL [] [] (by simp [envS, go_sem, wkV, wkL, AV.ids, idsL, keysOf, ren]) (by simp [stoS, go_sem, wkV, wkL, wkO, AV.ids, Ob.ids, idsL, keysOf, ren, AV.one]) (by simp [keysOf, ren]) (by simp) (by simp [keysOf]) (by simp [keysOf]))
    · rw [if_pos (by simp only [hp])] at hr
      simp only [go_sem, hp, ↓reduceIte, Nat.reduceEqDiff, Nat.reduceAdd, Nat.reduceLeDiff, reduceCtorEq, Nat.reduceLT, Int.reduceLT, Int.reduceLE, Int.reduceEq, Int.reduceToNat, Nat.reduceMul]
      refine wends (by first | exact Or.inl rfl | exact Or.inr rfl) ?_ (by first | rfl | simp [AV.ids, idsL])
      simp only [go_sem, r_ref14_Pick, ↓reduceIte, Nat.reduceEqDiff, Nat.reduceAdd, Nat.reduceLeDiff, reduceCtorEq, Nat.reduceLT, Int.reduceLT, Int.reduceLE, Int.reduceEq, Int.reduceToNat, Nat.reduceMul]
      rw [← hout]
      unfold pickL
      rw [← hr, if_neg (by omega)]
  · have e : i = rs.length := by simp at h; omega
    subst e
    rw [List.drop_length] at hr
    simp only [idxF] at hr
    simp only [go_sem, ew, ↓reduceIte, Nat.reduceEqDiff, Nat.reduceAdd, Nat.reduceLeDiff, reduceCtorEq, Nat.reduceLT, Int.reduceLT, Int.reduceLE, Int.reduceEq, Int.reduceToNat, Nat.reduceMul]
    refine wends (by first | exact Or.inl rfl | exact Or.inr rfl) ?_ (by first | rfl | simp [AV.ids, idsL])
    simp only [go_sem, r_ref14_Pick, ↓reduceIte, Nat.reduceEqDiff, Nat.reduceAdd, Nat.reduceLeDiff, reduceCtorEq, Nat.reduceLT, Int.reduceLT, Int.reduceLE, Int.reduceEq, Int.reduceToNat, Nat.reduceMul]
    rw [← hout]
    unfold pickL
    rw [← hr, if_pos (by decide)]

end Go.Proofs.Ytmjlldlaigoflaa
