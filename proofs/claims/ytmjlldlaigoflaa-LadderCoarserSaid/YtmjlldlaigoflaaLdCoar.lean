/- The contract of the law on coarser slots. No statement of the seat is proved here. -/
import Derived.Test.YtmjlldlaigoflaaLdCoarM
set_option linter.unusedSimpArgs false
set_option linter.unusedVariables false
namespace Go.Proofs.Ytmjlldlaigoflaa
open Go Go.Sx

set_option maxHeartbeats 1000000 in
theorem f_law14_LadderCoarser (rs : List Rung) (m f : Int) (vs : List Int) (hn : rs.length ≤ reachBytes) (hv : InL vs) (hvn : vs.length ≤ reachBytes) : Meets Try.prog E0 n_law14_LadderCoarser [schV rs m f, intL vs] [] (Bo true) [] := by
  refine m_law14_LadderCoarser (by simp) (shut0 rfl) (shut0 rfl) (by simp) (by simp [keysOf]) ?_
  have hrb : reachBytes = 140737488351232 := rfl
  have b1 := f_ref10_Together rs (by omega)
  cases d1 : decide ((rs.length : Int) < 2)
  case true =>
    clear hv hvn hn
    repeat' (first | (with_reducible refine Cl_plain (f_law14_alive) ?_) | (simp only [go_sem, s_law14_LadderCoarser, ↓reduceIte, Nat.reduceEqDiff, Nat.reduceAdd, Nat.reduceLeDiff, reduceCtorEq, Nat.reduceLT, Int.reduceLT, Int.reduceLE, Int.reduceEq, Int.reduceToNat, Nat.reduceMul, *]) | (simp (disch := omega) only [s_law14_LadderCoarser, wrap_i64_of, i64_quo, i64_rem, sdiv, smod]) | ((with_reducible refine W_split (by with_unfolding_all exact rfl) (fun hsp => ?_) (fun hsp => ?_)) <;> (try simp only [Bool.not_true, Bool.not_false, decide_eq_true_eq, decide_eq_false_iff_not, Bool.not_eq_true', Bool.not_eq_false', not_false_eq_true] at hsp)) | ((with_reducible refine R_split (by with_unfolding_all exact rfl) (fun hsp => ?_) (fun hsp => ?_)) <;> (try simp only [Bool.not_true, Bool.not_false, decide_eq_true_eq, decide_eq_false_iff_not, Bool.not_eq_true', Bool.not_eq_false', not_false_eq_true] at hsp)) | (with_reducible refine R_fin (by repeat' (first | exact okp0 | refine okp rfl rfl rfl ?_)) ?_))
    refine wends (by first | exact Or.inl rfl | exact Or.inr rfl) ?_ (by first | rfl | simp [AV.ids, idsL])
    simp only [go_sem, r_law14_LadderCoarser, ↓reduceIte, Nat.reduceEqDiff, Nat.reduceAdd, Nat.reduceLeDiff, reduceCtorEq, Nat.reduceLT, Int.reduceLT, Int.reduceLE, Int.reduceEq, Int.reduceToNat, Nat.reduceMul]
  cases ht : togB rs
  case false =>
    rw [ht] at b1
    clear hv hvn hn
    repeat' (first | (with_reducible refine Cl_plain (f_law14_alive) ?_) | (with_reducible refine Cl_plain (b1) ?_) | (simp only [go_sem, s_law14_LadderCoarser, ↓reduceIte, Nat.reduceEqDiff, Nat.reduceAdd, Nat.reduceLeDiff, reduceCtorEq, Nat.reduceLT, Int.reduceLT, Int.reduceLE, Int.reduceEq, Int.reduceToNat, Nat.reduceMul, *]) | (simp (disch := omega) only [s_law14_LadderCoarser, wrap_i64_of, i64_quo, i64_rem, sdiv, smod]) | ((with_reducible refine W_split (by with_unfolding_all exact rfl) (fun hsp => ?_) (fun hsp => ?_)) <;> (try simp only [Bool.not_true, Bool.not_false, decide_eq_true_eq, decide_eq_false_iff_not, Bool.not_eq_true', Bool.not_eq_false', not_false_eq_true] at hsp)) | ((with_reducible refine R_split (by with_unfolding_all exact rfl) (fun hsp => ?_) (fun hsp => ?_)) <;> (try simp only [Bool.not_true, Bool.not_false, decide_eq_true_eq, decide_eq_false_iff_not, Bool.not_eq_true', Bool.not_eq_false', not_false_eq_true] at hsp)) | (with_reducible refine R_fin (by repeat' (first | exact okp0 | refine okp rfl rfl rfl ?_)) ?_))
    refine wends (by first | exact Or.inl rfl | exact Or.inr rfl) ?_ (by first | rfl | simp [AV.ids, idsL])
    simp only [go_sem, r_law14_LadderCoarser, ↓reduceIte, Nat.reduceEqDiff, Nat.reduceAdd, Nat.reduceLeDiff, reduceCtorEq, Nat.reduceLT, Int.reduceLT, Int.reduceLE, Int.reduceEq, Int.reduceToNat, Nat.reduceMul]
  rw [ht] at b1
  cases d2 : decide (m < 1)
  case true =>
    clear hv hvn hn
    repeat' (first | (with_reducible refine Cl_plain (f_law14_alive) ?_) | (with_reducible refine Cl_plain (b1) ?_) | (simp only [go_sem, s_law14_LadderCoarser, ↓reduceIte, Nat.reduceEqDiff, Nat.reduceAdd, Nat.reduceLeDiff, reduceCtorEq, Nat.reduceLT, Int.reduceLT, Int.reduceLE, Int.reduceEq, Int.reduceToNat, Nat.reduceMul, *]) | (simp (disch := omega) only [s_law14_LadderCoarser, wrap_i64_of, i64_quo, i64_rem, sdiv, smod]) | ((with_reducible refine W_split (by with_unfolding_all exact rfl) (fun hsp => ?_) (fun hsp => ?_)) <;> (try simp only [Bool.not_true, Bool.not_false, decide_eq_true_eq, decide_eq_false_iff_not, Bool.not_eq_true', Bool.not_eq_false', not_false_eq_true] at hsp)) | ((with_reducible refine R_split (by with_unfolding_all exact rfl) (fun hsp => ?_) (fun hsp => ?_)) <;> (try simp only [Bool.not_true, Bool.not_false, decide_eq_true_eq, decide_eq_false_iff_not, Bool.not_eq_true', Bool.not_eq_false', not_false_eq_true] at hsp)) | (with_reducible refine R_fin (by repeat' (first | exact okp0 | refine okp rfl rfl rfl ?_)) ?_))
    refine wends (by first | exact Or.inl rfl | exact Or.inr rfl) ?_ (by first | rfl | simp [AV.ids, idsL])
    simp only [go_sem, r_law14_LadderCoarser, ↓reduceIte, Nat.reduceEqDiff, Nat.reduceAdd, Nat.reduceLeDiff, reduceCtorEq, Nat.reduceLT, Int.reduceLT, Int.reduceLE, Int.reduceEq, Int.reduceToNat, Nat.reduceMul]
  cases d3 : decide (5 < m)
  case true =>
    clear hv hvn hn
    repeat' (first | (with_reducible refine Cl_plain (f_law14_alive) ?_) | (with_reducible refine Cl_plain (b1) ?_) | (simp only [go_sem, s_law14_LadderCoarser, ↓reduceIte, Nat.reduceEqDiff, Nat.reduceAdd, Nat.reduceLeDiff, reduceCtorEq, Nat.reduceLT, Int.reduceLT, Int.reduceLE, Int.reduceEq, Int.reduceToNat, Nat.reduceMul, *]) | (simp (disch := omega) only [s_law14_LadderCoarser, wrap_i64_of, i64_quo, i64_rem, sdiv, smod]) | ((with_reducible refine W_split (by with_unfolding_all exact rfl) (fun hsp => ?_) (fun hsp => ?_)) <;> (try simp only [Bool.not_true, Bool.not_false, decide_eq_true_eq, decide_eq_false_iff_not, Bool.not_eq_true', Bool.not_eq_false', not_false_eq_true] at hsp)) | ((with_reducible refine R_split (by with_unfolding_all exact rfl) (fun hsp => ?_) (fun hsp => ?_)) <;> (try simp only [Bool.not_true, Bool.not_false, decide_eq_true_eq, decide_eq_false_iff_not, Bool.not_eq_true', Bool.not_eq_false', not_false_eq_true] at hsp)) | (with_reducible refine R_fin (by repeat' (first | exact okp0 | refine okp rfl rfl rfl ?_)) ?_))
    refine wends (by first | exact Or.inl rfl | exact Or.inr rfl) ?_ (by first | rfl | simp [AV.ids, idsL])
    simp only [go_sem, r_law14_LadderCoarser, ↓reduceIte, Nat.reduceEqDiff, Nat.reduceAdd, Nat.reduceLeDiff, reduceCtorEq, Nat.reduceLT, Int.reduceLT, Int.reduceLE, Int.reduceEq, Int.reduceToNat, Nat.reduceMul]
  cases d4 : decide (f < 0)
  case true =>
    clear hv hvn hn
    repeat' (first | (with_reducible refine Cl_plain (f_law14_alive) ?_) | (with_reducible refine Cl_plain (b1) ?_) | (simp only [go_sem, s_law14_LadderCoarser, ↓reduceIte, Nat.reduceEqDiff, Nat.reduceAdd, Nat.reduceLeDiff, reduceCtorEq, Nat.reduceLT, Int.reduceLT, Int.reduceLE, Int.reduceEq, Int.reduceToNat, Nat.reduceMul, *]) | (simp (disch := omega) only [s_law14_LadderCoarser, wrap_i64_of, i64_quo, i64_rem, sdiv, smod]) | ((with_reducible refine W_split (by with_unfolding_all exact rfl) (fun hsp => ?_) (fun hsp => ?_)) <;> (try simp only [Bool.not_true, Bool.not_false, decide_eq_true_eq, decide_eq_false_iff_not, Bool.not_eq_true', Bool.not_eq_false', not_false_eq_true] at hsp)) | ((with_reducible refine R_split (by with_unfolding_all exact rfl) (fun hsp => ?_) (fun hsp => ?_)) <;> (try simp only [Bool.not_true, Bool.not_false, decide_eq_true_eq, decide_eq_false_iff_not, Bool.not_eq_true', Bool.not_eq_false', not_false_eq_true] at hsp)) | (with_reducible refine R_fin (by repeat' (first | exact okp0 | refine okp rfl rfl rfl ?_)) ?_))
    refine wends (by first | exact Or.inl rfl | exact Or.inr rfl) ?_ (by first | rfl | simp [AV.ids, idsL])
    simp only [go_sem, r_law14_LadderCoarser, ↓reduceIte, Nat.reduceEqDiff, Nat.reduceAdd, Nat.reduceLeDiff, reduceCtorEq, Nat.reduceLT, Int.reduceLT, Int.reduceLE, Int.reduceEq, Int.reduceToNat, Nat.reduceMul]
  cases d5 : decide (1000000 < f)
  case true =>
    clear hv hvn hn
    repeat' (first | (with_reducible refine Cl_plain (f_law14_alive) ?_) | (with_reducible refine Cl_plain (b1) ?_) | (simp only [go_sem, s_law14_LadderCoarser, ↓reduceIte, Nat.reduceEqDiff, Nat.reduceAdd, Nat.reduceLeDiff, reduceCtorEq, Nat.reduceLT, Int.reduceLT, Int.reduceLE, Int.reduceEq, Int.reduceToNat, Nat.reduceMul, *]) | (simp (disch := omega) only [s_law14_LadderCoarser, wrap_i64_of, i64_quo, i64_rem, sdiv, smod]) | ((with_reducible refine W_split (by with_unfolding_all exact rfl) (fun hsp => ?_) (fun hsp => ?_)) <;> (try simp only [Bool.not_true, Bool.not_false, decide_eq_true_eq, decide_eq_false_iff_not, Bool.not_eq_true', Bool.not_eq_false', not_false_eq_true] at hsp)) | ((with_reducible refine R_split (by with_unfolding_all exact rfl) (fun hsp => ?_) (fun hsp => ?_)) <;> (try simp only [Bool.not_true, Bool.not_false, decide_eq_true_eq, decide_eq_false_iff_not, Bool.not_eq_true', Bool.not_eq_false', not_false_eq_true] at hsp)) | (with_reducible refine R_fin (by repeat' (first | exact okp0 | refine okp rfl rfl rfl ?_)) ?_))
    refine wends (by first | exact Or.inl rfl | exact Or.inr rfl) ?_ (by first | rfl | simp [AV.ids, idsL])
    simp only [go_sem, r_law14_LadderCoarser, ↓reduceIte, Nat.reduceEqDiff, Nat.reduceAdd, Nat.reduceLeDiff, reduceCtorEq, Nat.reduceLT, Int.reduceLT, Int.reduceLE, Int.reduceEq, Int.reduceToNat, Nat.reduceMul]
  have c1 := of_decide_eq_false d1
  have c2 := of_decide_eq_false d2
  have c3 := of_decide_eq_false d3
  have c4 := of_decide_eq_false d4
  have c5 := of_decide_eq_false d5
  have hh : howB m f = true := by simp [howB]; omega
  obtain ⟨a, ha⟩ := get_of_lt (l := rs) (i := 0) (by omega)
  obtain ⟨b, hb⟩ := get_of_lt (l := rs) (i := 1) (by omega)
  have h2 : Two m f rs a b := ⟨hh, ht, ha, hb⟩
  obtain ⟨w1, w2, w3, w4, k1, k2, k3, k4, q1, q2, q3, q4⟩ := h2.facts
  have b2 := f_ladder_New rs m f
  have e2 : newLM rs m f = ((m, f, rs.map newR), 0) := by simp [newLM, hh, ht]
  rw [e2] at b2
  have hw0 : ¬ a.1 = 0 := by omega
  have x1 : b.1.tdiv a.1 = b.1 / a.1 := sdiv (by omega)
  have x2 : b.1 / a.1 ≤ b.1 := Int.ediv_le_self _ (by omega)
  have x3 : IntKind.i64.wrap (b.1 / a.1) = b.1 / a.1 := wrap_i64_of (by omega) (by omega)
  have hz0 : decide ((0 : Int) = 0) = true := rfl
  simp only [go_sem, s_law14_LadderCoarser, ↓reduceIte, Nat.reduceEqDiff, Nat.reduceAdd, Nat.reduceLeDiff, reduceCtorEq, Nat.reduceLT, Int.reduceLT, Int.reduceLE, Int.reduceEq, Int.reduceToNat, Nat.reduceMul]
  refine Cl_plain f_law14_alive ?_
  simp only [go_sem, d1, ↓reduceIte, Nat.reduceEqDiff, Nat.reduceAdd, Nat.reduceLeDiff, reduceCtorEq, Nat.reduceLT, Int.reduceLT, Int.reduceLE, Int.reduceEq, Int.reduceToNat, Nat.reduceMul]
  refine Cl_plain b1 ?_
  simp only [go_sem, d2, d3, d4, d5, ↓reduceIte, Nat.reduceEqDiff, Nat.reduceAdd, Nat.reduceLeDiff, reduceCtorEq, Nat.reduceLT, Int.reduceLT, Int.reduceLE, Int.reduceEq, Int.reduceToNat, Nat.reduceMul]
  simp only [go_sem, ha, hb, slT, ↓reduceIte, Nat.reduceEqDiff, Nat.reduceAdd, Nat.reduceLeDiff, reduceCtorEq, Nat.reduceLT, Int.reduceLT, Int.reduceLE, Int.reduceEq, Int.reduceToNat, Nat.reduceMul]
  ((try (with_reducible refine R_fin (by repeat' (first | exact okp0 | refine okp rfl rfl rfl ?_)) ?_)); (try simp only [go_sem, ha, hb, slT, i64_quo hw0, x1, x3, ↓reduceIte, Nat.reduceEqDiff, Nat.reduceAdd, Nat.reduceLeDiff, reduceCtorEq, Nat.reduceLT, Int.reduceLT, Int.reduceLE, Int.reduceEq, Int.reduceToNat, Nat.reduceMul]))
  refine Cl_plain b2 ?_
  obtain ⟨k, hk⟩ : ∃ k : Nat, b.1 / a.1 = (k : Int) := ⟨(b.1 / a.1).toNat, by omega⟩
  cases d6 : decide ((vs.length : Int) < b.1 / a.1)
  case true =>
    simp only [go_sem, hz0, d6, ↓reduceIte, Nat.reduceEqDiff, Nat.reduceAdd, Nat.reduceLeDiff, reduceCtorEq, Nat.reduceLT, Int.reduceLT, Int.reduceLE, Int.reduceEq, Int.reduceToNat, Nat.reduceMul]
    refine wends (by first | exact Or.inl rfl | exact Or.inr rfl) ?_ (by first | rfl | simp [AV.ids, idsL])
    simp only [go_sem, r_law14_LadderCoarser, ↓reduceIte, Nat.reduceEqDiff, Nat.reduceAdd, Nat.reduceLeDiff, reduceCtorEq, Nat.reduceLT, Int.reduceLT, Int.reduceLE, Int.reduceEq, Int.reduceToNat, Nat.reduceMul]
  cases d7 : decide (1000 < (vs.length : Int))
  case true =>
    simp only [go_sem, hz0, d6, d7, ↓reduceIte, Nat.reduceEqDiff, Nat.reduceAdd, Nat.reduceLeDiff, reduceCtorEq, Nat.reduceLT, Int.reduceLT, Int.reduceLE, Int.reduceEq, Int.reduceToNat, Nat.reduceMul]
    refine wends (by first | exact Or.inl rfl | exact Or.inr rfl) ?_ (by first | rfl | simp [AV.ids, idsL])
    simp only [go_sem, r_law14_LadderCoarser, ↓reduceIte, Nat.reduceEqDiff, Nat.reduceAdd, Nat.reduceLeDiff, reduceCtorEq, Nat.reduceLT, Int.reduceLT, Int.reduceLE, Int.reduceEq, Int.reduceToNat, Nat.reduceMul]
  have c6 := of_decide_eq_false d6
  have x4 : IntKind.i64.wrap (4 * b.1) = 4 * b.1 := wrap_i64_of (by omega) (by omega)
  have x5 : IntKind.i64.wrap (4 * b.1 + b.1) = 4 * b.1 + b.1 := wrap_i64_of (by omega) (by omega)
  have x6 : IntKind.i64.wrap (4 * b.1 + b.1 - 1) = 4 * b.1 + b.1 - 1 := wrap_i64_of (by omega) (by omega)
  simp only [go_sem, hz0, d6, d7, x4, x5, x6, ↓reduceIte, Nat.reduceEqDiff, Nat.reduceAdd, Nat.reduceLeDiff, reduceCtorEq, Nat.reduceLT, Int.reduceLT, Int.reduceLE, Int.reduceEq, Int.reduceToNat, Nat.reduceMul]
  rw [hk]
  have hvs : (b.1 / a.1).toNat ≤ vs.length := by omega
  refine W_loop (fun x : Nat × List Ring => k - x.1) (fun x => x.1 ≤ k ∧ Came m f rs a b vs x.1 x.2 ∧ (x.1 = k → ∀ z, blendM m (vs.take k) = some z → ∃ r, x.2[1]? = some r ∧ r.1 = b.1 ∧ getM r.1 r.2 (4 * b.1) = (false, z)))
    (fun x => [(1, intL vs), (2, .ptr 100 0), (5, .ptr 145 0), (7, I k), (8, .ptr 158 0), (10, I (4 * b.1)), (11, I (4 * b.1 + b.1 - 1)), (12, I x.1)])
    (fun x => [(100, .box [slL rs, I m, I f]), (145, .box [I a.1, I a.2]), (158, .box [I m, I f, rgL x.2])])
    (0, rs.map newR) ⟨Nat.zero_le _, came_0 h2, by simp only; omega⟩ (subL [] [] (by simp [envS, go_sem, wkV, wkL, AV.ids, idsL, keysOf, ren]) (by simp [stoS, go_sem, wkV, wkL, wkO, AV.ids, Ob.ids, idsL, keysOf, ren, AV.one]) (by simp [keysOf, ren]) (by simp) (by simp [keysOf]) (by simp [keysOf])) ?_
  rintro ⟨i, l⟩ ⟨hi, hc, hf⟩
  simp only at hi hc hf
  have hl0 : l.length ≤ maxLen := by
    have := congrArg List.length hc.rung
    rw [List.length_map] at this
    have hm : maxLen = 9223372036854775807 := rfl
    omega
  simp only [go_sem, s_law14_LadderCoarser_b0, ↓reduceIte, Nat.reduceEqDiff, Nat.reduceAdd, Nat.reduceLeDiff, reduceCtorEq, Nat.reduceLT, Int.reduceLT, Int.reduceLE, Int.reduceEq, Int.reduceToNat, Nat.reduceMul]
  refine W_split rfl (fun h => ?_) (fun h => ?_)
  · simp at h
    obtain ⟨v, hs⟩ := get_of_lt (l := vs) (i := i) (by omega)
    have hvb := in_get hv hs
    cases d8 : decide (v = -9223372036854775808)
    case true =>
      simp only [go_sem, hs, d8, ↓reduceIte, Nat.reduceEqDiff, Nat.reduceAdd, Nat.reduceLeDiff, reduceCtorEq, Nat.reduceLT, Int.reduceLT, Int.reduceLE, Int.reduceEq, Int.reduceToNat, Nat.reduceMul]
      refine wends (by first | exact Or.inl rfl | exact Or.inr rfl) ?_ (by first | rfl | simp [AV.ids, idsL])
      simp only [go_sem, r_law14_LadderCoarser, ↓reduceIte, Nat.reduceEqDiff, Nat.reduceAdd, Nat.reduceLeDiff, reduceCtorEq, Nat.reduceLT, Int.reduceLT, Int.reduceLE, Int.reduceEq, Int.reduceToNat, Nat.reduceMul]
    have c8 := of_decide_eq_false d8
    obtain ⟨l', e1, hc', hf'⟩ := came_succ h2 (by omega) hc (by omega) hs (by omega) hvb.2
    have bA := f_ladder_Accept m f l (4 * b.1 + (i : Int) * a.1) v (4 * b.1 + b.1 - 1) hl0 (fun r hr => (hc.good r hr).2) hvb.1 hvb.2
    rw [e1] at bA
    have ei : IntKind.i64.wrap ((i : Int) + 1) = ((i + 1 : Nat) : Int) := by rw [wrap_i64_of (by omega) (by omega)]; omega
    have m1 : 0 ≤ (i : Int) * a.1 := Int.mul_nonneg (by omega) (by omega)
    have m2 : (i : Int) * a.1 ≤ (k : Int) * a.1 := Int.mul_le_mul_of_nonneg_right (by omega) (by omega)
    have m3 : (k : Int) * a.1 = b.1 := by rw [Int.mul_comm, ← hk]; exact q3.symm
    have y1 : IntKind.i64.wrap ((i : Int) * a.1) = (i : Int) * a.1 := wrap_i64_of (by omega) (by omega)
    have y2 : IntKind.i64.wrap (4 * b.1 + (i : Int) * a.1) = 4 * b.1 + (i : Int) * a.1 := wrap_i64_of (by omega) (by omega)
    simp only [go_sem, hs, d8, y1, y2, ↓reduceIte, Nat.reduceEqDiff, Nat.reduceAdd, Nat.reduceLeDiff, reduceCtorEq, Nat.reduceLT, Int.reduceLT, Int.reduceLE, Int.reduceEq, Int.reduceToNat, Nat.reduceMul]
    refine Cl_plain bA ?_
    simp only [go_sem, ↓reduceIte, Nat.reduceEqDiff, Nat.reduceAdd, Nat.reduceLeDiff, reduceCtorEq, Nat.reduceLT, Int.reduceLT, Int.reduceLE, Int.reduceEq, Int.reduceToNat, Nat.reduceMul]
    ((try (with_reducible refine R_fin (by repeat' (first | exact okp0 | refine okp rfl rfl rfl ?_)) ?_)); (try simp only [go_sem, hz0, ei, ↓reduceIte, Nat.reduceEqDiff, Nat.reduceAdd, Nat.reduceLeDiff, reduceCtorEq, Nat.reduceLT, Int.reduceLT, Int.reduceLE, Int.reduceEq, Int.reduceToNat, Nat.reduceMul]))
    refine rd_of (i + 1, l') (by simp only; omega) ⟨by simp only; omega, hc', ?_⟩ (subL [] [] (by simp [envS, go_sem, wkV, wkL, AV.ids, idsL, keysOf, ren]) (by simp [stoS, go_sem, wkV, wkL, wkO, AV.ids, Ob.ids, idsL, keysOf, ren, AV.one]) (by simp [keysOf, ren]) (by simp) (by simp [keysOf]) (by simp [keysOf]))
    simp only
    intro hik z hz
    refine hf' (by omega) z ?_
    rw [hk, Int.toNat_natCast]; exact hz
  · simp at h
    have e : i = k := by omega
    subst e
    obtain ⟨r0, r1, rest, el, _, er, _, _⟩ := two_of hc.rung h2.fst h2.snd
    have hl1 : l[1]? = some r1 := by rw [el]; rfl
    have hsl : (vs.map iT).take i = (vs.take i).map iT := List.map_take.symm
    have b5 := f_ref13_Get r1.1 (4 * b.1) r1.2
    have b6 := f_ref14_Blend m (vs.take i) (in_take hv i) (by unfold maxLen; rw [List.length_take]; omega)
    have g1 : (0 : Int) ≤ (i : Int) := by omega
    have g2 : (i : Int) ≤ (vs.length : Int) := by omega
    simp only [go_sem, s_law14_LadderCoarser_t1, hl1, rgT, ↓reduceIte, Nat.reduceEqDiff, Nat.reduceAdd, Nat.reduceLeDiff, reduceCtorEq, Nat.reduceLT, Int.reduceLT, Int.reduceLE, Int.reduceEq, Int.reduceToNat, Nat.reduceMul]
    refine Cl_plain b5 ?_
    simp only [go_sem, g1, g2, hsl, ↓reduceIte, Nat.reduceEqDiff, Nat.reduceAdd, Nat.reduceLeDiff, reduceCtorEq, Nat.reduceLT, Int.reduceLT, Int.reduceLE, Int.reduceEq, Int.reduceToNat, Nat.reduceMul]
    refine Cl_plain b6 ?_
    cases hbl : blendM m (vs.take i) with
    | none =>
      simp only [go_sem, NO_none, ↓reduceIte, Nat.reduceEqDiff, Nat.reduceAdd, Nat.reduceLeDiff, reduceCtorEq, Nat.reduceLT, Int.reduceLT, Int.reduceLE, Int.reduceEq, Int.reduceToNat, Nat.reduceMul]
      ((try (with_reducible refine R_fin (by repeat' (first | exact okp0 | refine okp rfl rfl rfl ?_)) ?_)); (try simp only [go_sem, NO_none, ↓reduceIte, Nat.reduceEqDiff, Nat.reduceAdd, Nat.reduceLeDiff, reduceCtorEq, Nat.reduceLT, Int.reduceLT, Int.reduceLE, Int.reduceEq, Int.reduceToNat, Nat.reduceMul]))
      refine wends (by first | exact Or.inl rfl | exact Or.inr rfl) ?_ (by first | rfl | simp [AV.ids, idsL])
      simp only [go_sem, r_law14_LadderCoarser, ↓reduceIte, Nat.reduceEqDiff, Nat.reduceAdd, Nat.reduceLeDiff, reduceCtorEq, Nat.reduceLT, Int.reduceLT, Int.reduceLE, Int.reduceEq, Int.reduceToNat, Nat.reduceMul]
    | some z =>
      obtain ⟨r, hr, _, hg⟩ := hf rfl z hbl
      rw [hl1] at hr; injection hr with hr; subst hr
      rw [hg]
      simp only [go_sem, NO_some, ↓reduceIte, Nat.reduceEqDiff, Nat.reduceAdd, Nat.reduceLeDiff, reduceCtorEq, Nat.reduceLT, Int.reduceLT, Int.reduceLE, Int.reduceEq, Int.reduceToNat, Nat.reduceMul]
      ((try (with_reducible refine R_fin (by repeat' (first | exact okp0 | refine okp rfl rfl rfl ?_)) ?_)); (try simp only [go_sem, NO_some, beq_self_eq_true, ↓reduceIte, Nat.reduceEqDiff, Nat.reduceAdd, Nat.reduceLeDiff, reduceCtorEq, Nat.reduceLT, Int.reduceLT, Int.reduceLE, Int.reduceEq, Int.reduceToNat, Nat.reduceMul]))
      refine wends (by first | exact Or.inl rfl | exact Or.inr rfl) ?_ (by first | rfl | simp [AV.ids, idsL])
      simp only [go_sem, r_law14_LadderCoarser, ↓reduceIte, Nat.reduceEqDiff, Nat.reduceAdd, Nat.reduceLeDiff, reduceCtorEq, Nat.reduceLT, Int.reduceLT, Int.reduceLE, Int.reduceEq, Int.reduceToNat, Nat.reduceMul]

end Go.Proofs.Ytmjlldlaigoflaa
