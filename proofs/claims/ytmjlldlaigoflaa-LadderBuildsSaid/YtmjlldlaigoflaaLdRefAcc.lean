/- The contract of the plain ladder's accepting a point. No statement of the seat is proved here. -/
import Derived.Test.YtmjlldlaigoflaaLdAccM
set_option linter.unusedSimpArgs false
set_option linter.unusedVariables false
namespace Go.Proofs.Ytmjlldlaigoflaa
open Go Go.Sx

theorem f_ref14_Copy_own (id : Nat) (m f : Int) (l : List Ring) (h0 : l ≠ []) (hn : l.length ≤ 100000) (hr : ∀ r ∈ l, r.2.length ≤ 100000) : Meets Try.prog E0 n_ref14_Copy [ladV m f l] [] (.ag [I m, I f, .own id 2 0 l.length true]) [(id, .row 2 true (l.map rgT))] := by
  have hz : Meets Try.prog E0 n_ref14_Copy [ladV m f l] [] (.ag [I m, I f, .own 0 2 0 l.length true]) [(0, .row 2 true (l.map rgT))] := by
    refine m_ref14_Copy (by simp) (shut_of (by simp [idsL, AV.ids, keysOf]) (by simp [Ob.live, Ob.ids, keysOf, idsL, AV.ids])) (shut_of (by simp [idsL, AV.ids, keysOf]) (by simp [Ob.live, Ob.ids, keysOf, idsL, AV.ids])) (by simp [keysOf]) (by simp [keysOf]) ?_
    simp only [go_sem, s_ref14_Copy, ↓reduceIte, Nat.reduceEqDiff, Nat.reduceAdd, Nat.reduceLeDiff, reduceCtorEq, Nat.reduceLT, Int.reduceLT, Int.reduceLE, Int.reduceEq, Int.reduceToNat, Nat.reduceMul]
    refine W_loop (fun i : Nat => l.length - i) (fun i => i ≤ l.length)
      (fun i => [(1, .ptr 100 0), (2, .ptr 101 0), (3, .ptr 107 0), (4, I i)])
      (fun i => [(100, .box [I m, I f, rgL l]), (101, .box [I 0, I 0, .t (.v (.slice none 0 0))]), (107, .box [I m, I f, .own 999 2 0 i (!decide (i = 0))]), (999, .row 2 (!decide (i = 0)) ((l.take i).map rgT))])
      0 (Nat.zero_le _) (subL [(999, 888)] [] (by simp [envS, go_sem, wkV, wkL, AV.ids, idsL, keysOf, ren, stoOf, slTrees, AV.asOwn, rowPart, AV.isNil] <;> assumption) (by simp [stoS, go_sem, wkV, wkL, wkO, AV.ids, Ob.ids, idsL, keysOf, ren, AV.one, stoOf, slTrees, AV.asOwn, rowPart, AV.isNil] <;> assumption) (by simp [keysOf, ren]) (by simp [stoOf, keysOf, ren]) (by simp [keysOf, ren]) (by simp [keysOf, ren])) ?_
    intro i hi
    simp only [go_sem, ↓reduceIte, Nat.reduceEqDiff, Nat.reduceAdd, Nat.reduceLeDiff, reduceCtorEq, Nat.reduceLT, Int.reduceLT, Int.reduceLE, Int.reduceEq, Int.reduceToNat, Nat.reduceMul]
    refine W_split rfl (fun h => ?_) (fun h => ?_)
    · simp at h
      obtain ⟨r, hs⟩ := get_of_lt h
      have ei : IntKind.i64.wrap ((i : Int) + 1) = ((i + 1 : Nat) : Int) := by rw [wrap_i64_of (by omega) (by omega)]; omega
      have b4 : (i + 1) * 32 ≤ 2 ^ 47 := by omega
      have b5 : i + 1 < 2 ^ 47 := by omega
      have em : (l.take i).map rgT ++ [[.v (.int .i64 r.1), .sl 2 (r.2.map slT)]] = (l.take (i + 1)).map rgT := map_take_succ rgT hs
      have hlen : ((l.take i).map rgT).length = i := by simp; omega
      simp only [go_sem, hs, rgT, ↓reduceIte, Nat.reduceEqDiff, Nat.reduceAdd, Nat.reduceLeDiff, reduceCtorEq, Nat.reduceLT, Int.reduceLT, Int.reduceLE, Int.reduceEq, Int.reduceToNat, Nat.reduceMul]
      refine Cl_plain (f_ref13_Copy r.1 r.2 (hr r (List.mem_of_getElem? hs))) ?_
      simp only [go_sem, b4, b5, em, hlen, ↓reduceIte, Nat.reduceEqDiff, Nat.reduceAdd, Nat.reduceLeDiff, reduceCtorEq, Nat.reduceLT, Int.reduceLT, Int.reduceLE, Int.reduceEq, Int.reduceToNat, Nat.reduceMul]
      ((try (with_reducible refine R_fin (by repeat' (first | exact okp0 | refine okp rfl rfl rfl ?_)) ?_)); (try simp only [go_sem, ei, ↓reduceIte, Nat.reduceEqDiff, Nat.reduceAdd, Nat.reduceLeDiff, reduceCtorEq, Nat.reduceLT, Int.reduceLT, Int.reduceLE, Int.reduceEq, Int.reduceToNat, Nat.reduceMul]))
      refine rd_of (i + 1) (by first | omega | (simp only; omega)) (by first | omega | (simp only; omega)) ?_
      rw [show (!decide (i + 1 = 0)) = true from by simp]
      exact (subL [(999, 124)] [] (by simp [envS, go_sem, wkV, wkL, AV.ids, idsL, keysOf, ren, stoOf, slTrees, AV.asOwn, rowPart, AV.isNil] <;> assumption) (by simp [stoS, go_sem, wkV, wkL, wkO, AV.ids, Ob.ids, idsL, keysOf, ren, AV.one, stoOf, slTrees, AV.asOwn, rowPart, AV.isNil] <;> assumption) (by simp [keysOf, ren]) (by simp [stoOf, keysOf, ren]) (by simp [keysOf, ren]) (by simp [keysOf, ren]))
    · have e : i = l.length := by simp at h; omega
      subst e
      have hp : 0 < l.length := List.length_pos_iff.2 h0
      rw [List.take_length, show decide (l.length = 0) = false from decide_eq_false (by omega)]
      simp only [go_sem, ↓reduceIte, Nat.reduceEqDiff, Nat.reduceAdd, Nat.reduceLeDiff, reduceCtorEq, Nat.reduceLT, Int.reduceLT, Int.reduceLE, Int.reduceEq, Int.reduceToNat, Nat.reduceMul]
      refine wends2 [(0, 999)] [] (by first | exact Or.inl rfl | exact Or.inr rfl) ?_ (by simp [AV.ids, idsL, keysOf]) (by simp [stoS, wkO, ls_cons, ls_nil, stoOf, ren, keysOf, Ob.ids, wkV, wkL, AV.one, idsL, AV.ids] <;> assumption) (by simp [keysOf, ren]) (by simp [stoOf, keysOf, ren]) (by simp [keysOf, ren]) (by simp [keysOf, ren])
      simp only [go_sem, r_ref14_Copy, exists_eq_left', Option.some.injEq, ↓reduceIte, Nat.reduceEqDiff, Nat.reduceAdd, Nat.reduceLeDiff, reduceCtorEq, Nat.reduceLT, Int.reduceLT, Int.reduceLE, Int.reduceEq, Int.reduceToNat, Nat.reduceMul]
      simp [wkV, wkL, slTrees, AV.asOwn, rowPart, stoOf, AV.isNil, ren]
  have := hz.ren (fun _ => id) (by simp [keysOf])
  simpa [renL, renA, renS, renO] using this

theorem setM_slot {w t v : Int} {l : List Slot} (h : ringB w l = true) (ht : timedB t = true) (hv : v ≠ -9223372036854775808) : setM w l (t - t % w) v = setM w l t v := by
  have h1 := ring_bd h
  have ht' := timedB_iff.1 ht
  have hs := slot_bd h1.1 ht'.1
  have hts : timedB (t - t % w) = true := timedB_iff.2 ⟨hs.1, by omega⟩
  rw [setM_ok h hts hv, setM_ok h ht hv, hs.2.2, Int.sub_zero]

set_option maxHeartbeats 8000000 in
set_option maxRecDepth 20000 in
theorem f_ref14_Accept (m f : Int) (rs : List Ring) (t v now : Int) (hn : rs.length ≤ maxLen) (hs : ∀ r ∈ rs, InS r.2) (hv1 : -9223372036854775808 ≤ v) (hv2 : v < 9223372036854775808) :
    Meets Try.prog E0 n_ref14_Accept [ladV m f rs, .ag [I t, I v], I now] [] (.tp [ladV m f (accM m f rs t v now).1, I (accM m f rs t v now).2]) [] := by
  refine m_ref14_Accept (by simp) (shut0 rfl) (shut0 rfl) (by simp) (by simp [keysOf]) ?_
  have b1 := f_ref13_Timed t
  have b2 := f_ref13_Timed now
  have b3 := f_ref14_Right m f rs hn
  cases hl : ladB m f rs
  · have e : accM m f rs t v now = (rs, 1) := by simp [accM, hl]
    rw [hl] at b3
    rw [e]
    clear hs e
    repeat' (first | (with_reducible refine Cl_plain (b1) ?_) | (with_reducible refine Cl_plain (b2) ?_) | (with_reducible refine Cl_plain (b3) ?_) | (simp only [go_sem, s_ref14_Accept, ↓reduceIte, Nat.reduceEqDiff, Nat.reduceAdd, Nat.reduceLeDiff, reduceCtorEq, Nat.reduceLT, Int.reduceLT, Int.reduceLE, Int.reduceEq, Int.reduceToNat, Nat.reduceMul, *]) | (simp (disch := omega) only [s_ref14_Accept, wrap_i64_of, i64_quo, i64_rem, sdiv, smod]) | ((with_reducible refine W_split (by with_unfolding_all exact rfl) (fun hsp => ?_) (fun hsp => ?_)) <;> (try simp only [Bool.not_true, Bool.not_false, decide_eq_true_eq, decide_eq_false_iff_not, Bool.not_eq_true', Bool.not_eq_false', not_false_eq_true] at hsp)) | ((with_reducible refine R_split (by with_unfolding_all exact rfl) (fun hsp => ?_) (fun hsp => ?_)) <;> (try simp only [Bool.not_true, Bool.not_false, decide_eq_true_eq, decide_eq_false_iff_not, Bool.not_eq_true', Bool.not_eq_false', not_false_eq_true] at hsp)) | (with_reducible refine R_fin (by repeat' (first | exact okp0 | refine okp rfl rfl rfl ?_)) ?_))
    refine wends (by first | exact Or.inl rfl | exact Or.inr rfl) ?_ (by first | rfl | simp [AV.ids, idsL])
    simp only [go_sem, r_ref14_Accept, ↓reduceIte, Nat.reduceEqDiff, Nat.reduceAdd, Nat.reduceLeDiff, reduceCtorEq, Nat.reduceLT, Int.reduceLT, Int.reduceLE, Int.reduceEq, Int.reduceToNat, Nat.reduceMul]
  rw [hl] at b3
  cases ht : timedB t
  · have e : accM m f rs t v now = (rs, 1) := by simp [accM, ht]
    rw [ht] at b1
    rw [e]
    clear hs e
    repeat' (first | (with_reducible refine Cl_plain (b1) ?_) | (with_reducible refine Cl_plain (b2) ?_) | (with_reducible refine Cl_plain (b3) ?_) | (simp only [go_sem, s_ref14_Accept, ↓reduceIte, Nat.reduceEqDiff, Nat.reduceAdd, Nat.reduceLeDiff, reduceCtorEq, Nat.reduceLT, Int.reduceLT, Int.reduceLE, Int.reduceEq, Int.reduceToNat, Nat.reduceMul, *]) | (simp (disch := omega) only [s_ref14_Accept, wrap_i64_of, i64_quo, i64_rem, sdiv, smod]) | ((with_reducible refine W_split (by with_unfolding_all exact rfl) (fun hsp => ?_) (fun hsp => ?_)) <;> (try simp only [Bool.not_true, Bool.not_false, decide_eq_true_eq, decide_eq_false_iff_not, Bool.not_eq_true', Bool.not_eq_false', not_false_eq_true] at hsp)) | ((with_reducible refine R_split (by with_unfolding_all exact rfl) (fun hsp => ?_) (fun hsp => ?_)) <;> (try simp only [Bool.not_true, Bool.not_false, decide_eq_true_eq, decide_eq_false_iff_not, Bool.not_eq_true', Bool.not_eq_false', not_false_eq_true] at hsp)) | (with_reducible refine R_fin (by repeat' (first | exact okp0 | refine okp rfl rfl rfl ?_)) ?_))
    refine wends (by first | exact Or.inl rfl | exact Or.inr rfl) ?_ (by first | rfl | simp [AV.ids, idsL])
    simp only [go_sem, r_ref14_Accept, ↓reduceIte, Nat.reduceEqDiff, Nat.reduceAdd, Nat.reduceLeDiff, reduceCtorEq, Nat.reduceLT, Int.reduceLT, Int.reduceLE, Int.reduceEq, Int.reduceToNat, Nat.reduceMul]
  rw [ht] at b1
  cases htn : timedB now
  · have e : accM m f rs t v now = (rs, 1) := by simp [accM, htn]
    rw [htn] at b2
    rw [e]
    clear hs e
    repeat' (first | (with_reducible refine Cl_plain (b1) ?_) | (with_reducible refine Cl_plain (b2) ?_) | (with_reducible refine Cl_plain (b3) ?_) | (simp only [go_sem, s_ref14_Accept, ↓reduceIte, Nat.reduceEqDiff, Nat.reduceAdd, Nat.reduceLeDiff, reduceCtorEq, Nat.reduceLT, Int.reduceLT, Int.reduceLE, Int.reduceEq, Int.reduceToNat, Nat.reduceMul, *]) | (simp (disch := omega) only [s_ref14_Accept, wrap_i64_of, i64_quo, i64_rem, sdiv, smod]) | ((with_reducible refine W_split (by with_unfolding_all exact rfl) (fun hsp => ?_) (fun hsp => ?_)) <;> (try simp only [Bool.not_true, Bool.not_false, decide_eq_true_eq, decide_eq_false_iff_not, Bool.not_eq_true', Bool.not_eq_false', not_false_eq_true] at hsp)) | ((with_reducible refine R_split (by with_unfolding_all exact rfl) (fun hsp => ?_) (fun hsp => ?_)) <;> (try simp only [Bool.not_true, Bool.not_false, decide_eq_true_eq, decide_eq_false_iff_not, Bool.not_eq_true', Bool.not_eq_false', not_false_eq_true] at hsp)) | (with_reducible refine R_fin (by repeat' (first | exact okp0 | refine okp rfl rfl rfl ?_)) ?_))
    refine wends (by first | exact Or.inl rfl | exact Or.inr rfl) ?_ (by first | rfl | simp [AV.ids, idsL])
    simp only [go_sem, r_ref14_Accept, ↓reduceIte, Nat.reduceEqDiff, Nat.reduceAdd, Nat.reduceLeDiff, reduceCtorEq, Nat.reduceLT, Int.reduceLT, Int.reduceLE, Int.reduceEq, Int.reduceToNat, Nat.reduceMul]
  rw [htn] at b2
  cases hv : decide (v = -9223372036854775808)
  case true =>
    have e : accM m f rs t v now = (rs, 1) := by
      have hv' := of_decide_eq_true hv
      simp [accM, hv']
    rw [e]
    clear hs e
    repeat' (first | (with_reducible refine Cl_plain (b1) ?_) | (with_reducible refine Cl_plain (b2) ?_) | (with_reducible refine Cl_plain (b3) ?_) | (simp only [go_sem, s_ref14_Accept, ↓reduceIte, Nat.reduceEqDiff, Nat.reduceAdd, Nat.reduceLeDiff, reduceCtorEq, Nat.reduceLT, Int.reduceLT, Int.reduceLE, Int.reduceEq, Int.reduceToNat, Nat.reduceMul, *]) | (simp (disch := omega) only [s_ref14_Accept, wrap_i64_of, i64_quo, i64_rem, sdiv, smod]) | ((with_reducible refine W_split (by with_unfolding_all exact rfl) (fun hsp => ?_) (fun hsp => ?_)) <;> (try simp only [Bool.not_true, Bool.not_false, decide_eq_true_eq, decide_eq_false_iff_not, Bool.not_eq_true', Bool.not_eq_false', not_false_eq_true] at hsp)) | ((with_reducible refine R_split (by with_unfolding_all exact rfl) (fun hsp => ?_) (fun hsp => ?_)) <;> (try simp only [Bool.not_true, Bool.not_false, decide_eq_true_eq, decide_eq_false_iff_not, Bool.not_eq_true', Bool.not_eq_false', not_false_eq_true] at hsp)) | (with_reducible refine R_fin (by repeat' (first | exact okp0 | refine okp rfl rfl rfl ?_)) ?_))
    refine wends (by first | exact Or.inl rfl | exact Or.inr rfl) ?_ (by first | rfl | simp [AV.ids, idsL])
    simp only [go_sem, r_ref14_Accept, ↓reduceIte, Nat.reduceEqDiff, Nat.reduceAdd, Nat.reduceLeDiff, reduceCtorEq, Nat.reduceLT, Int.reduceLT, Int.reduceLE, Int.reduceEq, Int.reduceToNat, Nat.reduceMul]
  have hv' := of_decide_eq_false hv
  by_cases hlt : now < t
  · have e : accM m f rs t v now = (rs, 3) := by simp [accM, ht, htn, hl, hlt]; omega
    have d0 := decide_eq_true hlt
    rw [e]
    clear hs e hlt
    repeat' (first | (with_reducible refine Cl_plain (b1) ?_) | (with_reducible refine Cl_plain (b2) ?_) | (with_reducible refine Cl_plain (b3) ?_) | (simp only [go_sem, s_ref14_Accept, ↓reduceIte, Nat.reduceEqDiff, Nat.reduceAdd, Nat.reduceLeDiff, reduceCtorEq, Nat.reduceLT, Int.reduceLT, Int.reduceLE, Int.reduceEq, Int.reduceToNat, Nat.reduceMul, *]) | (simp (disch := omega) only [s_ref14_Accept, wrap_i64_of, i64_quo, i64_rem, sdiv, smod]) | ((with_reducible refine W_split (by with_unfolding_all exact rfl) (fun hsp => ?_) (fun hsp => ?_)) <;> (try simp only [Bool.not_true, Bool.not_false, decide_eq_true_eq, decide_eq_false_iff_not, Bool.not_eq_true', Bool.not_eq_false', not_false_eq_true] at hsp)) | ((with_reducible refine R_split (by with_unfolding_all exact rfl) (fun hsp => ?_) (fun hsp => ?_)) <;> (try simp only [Bool.not_true, Bool.not_false, decide_eq_true_eq, decide_eq_false_iff_not, Bool.not_eq_true', Bool.not_eq_false', not_false_eq_true] at hsp)) | (with_reducible refine R_fin (by repeat' (first | exact okp0 | refine okp rfl rfl rfl ?_)) ?_))
    refine wends (by first | exact Or.inl rfl | exact Or.inr rfl) ?_ (by first | rfl | simp [AV.ids, idsL])
    simp only [go_sem, r_ref14_Accept, ↓reduceIte, Nat.reduceEqDiff, Nat.reduceAdd, Nat.reduceLeDiff, reduceCtorEq, Nat.reduceLT, Int.reduceLT, Int.reduceLE, Int.reduceEq, Int.reduceToNat, Nat.reduceMul]
  obtain ⟨p1, p2, p3, p4, p5⟩ := lad_parts hl
  have hg : ∀ r ∈ rs, goodR r := fun r hr => ⟨List.all_eq_true.1 p2 r hr, hs r hr⟩
  have d0 : decide (now < t) = false := decide_eq_false hlt
  have e : accM m f rs t v now = (match accL m f t v now rs with | none => (rs, 14) | some l => (l, 0)) := by
    simp only [accM, ht, htn, hl, Bool.and_true, Bool.true_and, hlt, if_false]
    rw [decide_eq_false hv']; rfl
  rw [e]
  clear e
  have ew : IntKind.i64.wrap ((rs.length : Int) - 1) = (rs.length : Int) - 1 := wrap_i64_of (by omega) (by omega)
  simp only [go_sem, s_ref14_Accept, ↓reduceIte, Nat.reduceEqDiff, Nat.reduceAdd, Nat.reduceLeDiff, reduceCtorEq, Nat.reduceLT, Int.reduceLT, Int.reduceLE, Int.reduceEq, Int.reduceToNat, Nat.reduceMul]
  refine Cl_plain b3 ?_
  simp only [go_sem, ↓reduceIte, Nat.reduceEqDiff, Nat.reduceAdd, Nat.reduceLeDiff, reduceCtorEq, Nat.reduceLT, Int.reduceLT, Int.reduceLE, Int.reduceEq, Int.reduceToNat, Nat.reduceMul]
  refine Cl_plain b1 ?_
  simp only [go_sem, ↓reduceIte, Nat.reduceEqDiff, Nat.reduceAdd, Nat.reduceLeDiff, reduceCtorEq, Nat.reduceLT, Int.reduceLT, Int.reduceLE, Int.reduceEq, Int.reduceToNat, Nat.reduceMul]
  refine Cl_plain b2 ?_
  simp only [go_sem, hv, d0, ew, ↓reduceIte, Nat.reduceEqDiff, Nat.reduceAdd, Nat.reduceLeDiff, reduceCtorEq, Nat.reduceLT, Int.reduceLT, Int.reduceLE, Int.reduceEq, Int.reduceToNat, Nat.reduceMul]
  refine W_loop (fun k : Nat => k) (fun k => k ≤ rs.length)
    (fun k => [(2, I now), (3, .ptr 100 0), (4, .ptr 101 0), (6, .ptr 102 0), (7, I 0), (8, I (idxF (fun r => rchsB r t now) (rs.drop k) k)), (9, I ((k : Int) - 1))])
    (fun k => [(100, .box [I m, I f, rgL rs]), (101, .box [I t, I v]), (102, .box [I 0, I 0, .t (.v (.slice none 0 0))])])
    rs.length (Nat.le_refl _) ?_ ?_
  · rw [List.drop_length]
    simp only [idxF]
    exact (subL [] [] (by simp [envS, go_sem, wkV, wkL, AV.ids, idsL, keysOf, ren]) (by simp [stoS, go_sem, wkV, wkL, wkO, AV.ids, Ob.ids, idsL, keysOf, ren, AV.one]) (by simp [keysOf, ren]) (by simp) (by simp [keysOf]) (by simp [keysOf]))
  intro k hk
  simp only [go_sem, s_ref14_Accept_b0, ↓reduceIte, Nat.reduceEqDiff, Nat.reduceAdd, Nat.reduceLeDiff, reduceCtorEq, Nat.reduceLT, Int.reduceLT, Int.reduceLE, Int.reduceEq, Int.reduceToNat, Nat.reduceMul]
  refine W_split rfl (fun h => ?_) (fun h => ?_)
  · simp at h
    obtain ⟨k, rfl⟩ : ∃ j, k = j + 1 := ⟨k - 1, by omega⟩
    obtain ⟨r, hr⟩ := get_of_lt (l := rs) (i := k) (by omega)
    have e1 : ((k + 1 : Nat) : Int) - 1 = (k : Int) := by omega
    have e2 : IntKind.i64.wrap ((k : Int) - 1) = (k : Int) - 1 := wrap_i64_of (by omega) (by omega)
    have ib : (k : Int) < (rs.length : Int) := by omega
    have bR := f_ref14_reaches r.1 r.2 t now (hg r (List.mem_of_getElem? hr)).1 ht htn
    have err : ((r.1, r.2) : Ring) = r := rfl
    have hd : idxF (fun r => rchsB r t now) (rs.drop k) k = if rchsB r t now then (k : Int) else idxF (fun r => rchsB r t now) (rs.drop (k + 1)) (k + 1) := by
      rw [drop_get hr]; rfl
    rw [e1]
    simp only [go_sem, e1, hr, rgT, ib, ↓reduceIte, Nat.reduceEqDiff, Nat.reduceAdd, Nat.reduceLeDiff, reduceCtorEq, Nat.reduceLT, Int.reduceLT, Int.reduceLE, Int.reduceEq, Int.reduceToNat, Nat.reduceMul]
    refine Cl_plain bR ?_
    cases hc : rchsB r t now
    · rw [hc, if_neg (by decide)] at hd
      simp only [go_sem, err, hc, e2, ↓reduceIte, Nat.reduceEqDiff, Nat.reduceAdd, Nat.reduceLeDiff, reduceCtorEq, Nat.reduceLT, Int.reduceLT, Int.reduceLE, Int.reduceEq, Int.reduceToNat, Nat.reduceMul]
      refine rd_of k (by first | omega | (simp only; omega)) (by first | omega | (simp only; omega)) ?_
      rw [hd]
      exact (subL [] [] (by simp [envS, go_sem, wkV, wkL, AV.ids, idsL, keysOf, ren]) (by simp [stoS, go_sem, wkV, wkL, wkO, AV.ids, Ob.ids, idsL, keysOf, ren, AV.one]) (by simp [keysOf, ren]) (by simp) (by simp [keysOf]) (by simp [keysOf]))
    · rw [hc, if_pos rfl] at hd
      simp only [go_sem, err, hc, e2, ↓reduceIte, Nat.reduceEqDiff, Nat.reduceAdd, Nat.reduceLeDiff, reduceCtorEq, Nat.reduceLT, Int.reduceLT, Int.reduceLE, Int.reduceEq, Int.reduceToNat, Nat.reduceMul]
      refine rd_of k (by first | omega | (simp only; omega)) (by first | omega | (simp only; omega)) ?_
      rw [hd]
      exact (subL [] [] (by simp [envS, go_sem, wkV, wkL, AV.ids, idsL, keysOf, ren]) (by simp [stoS, go_sem, wkV, wkL, wkO, AV.ids, Ob.ids, idsL, keysOf, ren, AV.one]) (by simp [keysOf, ren]) (by simp) (by simp [keysOf]) (by simp [keysOf]))
  · have hk0 : k = 0 := by simp at h; omega
    subst hk0
    rw [List.drop_zero]
    rcases idx_split (fun r => rchsB r t now) rs 0 with ⟨h1, h2⟩ | ⟨pre, r0, post, h1, h2, h3, h4⟩
    · rw [acc_none h2, h1]
      simp only [go_sem, s_ref14_Accept_t6, ↓reduceIte, Nat.reduceEqDiff, Nat.reduceAdd, Nat.reduceLeDiff, reduceCtorEq, Nat.reduceLT, Int.reduceLT, Int.reduceLE, Int.reduceEq, Int.reduceToNat, Nat.reduceMul]
      refine wends (by first | exact Or.inl rfl | exact Or.inr rfl) ?_ (by first | rfl | simp [AV.ids, idsL])
      simp only [go_sem, r_ref14_Accept, ↓reduceIte, Nat.reduceEqDiff, Nat.reduceAdd, Nat.reduceLeDiff, reduceCtorEq, Nat.reduceLT, Int.reduceLT, Int.reduceLE, Int.reduceEq, Int.reduceToNat, Nat.reduceMul]
    · have hacc := acc_some (m := m) (f := f) (v := v) h3 h2 (post := post)
      rw [← h1] at hacc
      rw [hacc, h4, Nat.zero_add]
      generalize hout : pre ++ setR r0 t v :: upM m f t now (setR r0 t v) post = out
      have dz : decide ((pre.length : Int) < 0) = false := decide_eq_false (by omega)
      have hlen : pre.length + (post.length + 1) = rs.length := by rw [h1]; simp
      have hr0 : r0 ∈ rs := by rw [h1]; simp
      have hget : (rs.map rgT)[pre.length]? = some (rgT r0) := by rw [h1]; exact mid_get rgT pre r0 post
      have hgo : rs[pre.length]? = some r0 := by rw [h1]; exact mid_at pre r0 post
      have ib : (pre.length : Int) < (rs.length : Int) := by omega
      obtain ⟨g1, g2⟩ := set_good (hg r0 hr0) ht (show -9223372036854775808 < v by omega) hv2
      have bS := f_ref13_Set r0.1 t v r0.2 (by have := ringB_sized (hg r0 hr0).1; omega)
      rw [g2] at bS
      have hset : (rs.map rgT).set pre.length (rgT (setR r0 t v)) = ((pre ++ [setR r0 t v]) ++ post).map rgT := by rw [h1]; exact mid_set rgT pre r0 _ post
      have hrT : [T.v (.int .i64 r0.1), T.sl 2 ((setM r0.1 r0.2 t v).1.map slT)] = rgT (setR r0 t v) := rfl
      have d2 : (2 : Nat) ≤ 2 := Nat.le_refl _
      have ei : IntKind.i64.wrap ((pre.length : Int) + 1) = (((pre ++ [setR r0 t v]).length : Nat) : Int) := by rw [wrap_i64_of (by omega) (by omega)]; simp
      simp only [go_sem, s_ref14_Accept_t6, dz, ↓reduceIte, Nat.reduceEqDiff, Nat.reduceAdd, Nat.reduceLeDiff, reduceCtorEq, Nat.reduceLT, Int.reduceLT, Int.reduceLE, Int.reduceEq, Int.reduceToNat, Nat.reduceMul]
      refine Cl_new (xs := [ladV m f rs]) (f_ref14_Copy_own 161 m f rs (by intro h; rw [h] at p4; simp at p4) (by omega) (fun r hr => by have := ringB_sized (hg r hr).1; omega)) (by simp [keysOf, stoOf]) (by simp [keysOf]) ?_
      simp only [go_sem, hgo, rgT, ib, ↓reduceIte, Nat.reduceEqDiff, Nat.reduceAdd, Nat.reduceLeDiff, reduceCtorEq, Nat.reduceLT, Int.reduceLT, Int.reduceLE, Int.reduceEq, Int.reduceToNat, Nat.reduceMul]
      refine Cl_plain bS ?_
      simp only [go_sem, ib, hrT, hgo, rgT_len, rgT_drop, hset, ei, ↓reduceIte, Nat.reduceEqDiff, Nat.reduceAdd, Nat.reduceLeDiff, reduceCtorEq, Nat.reduceLT, Int.reduceLT, Int.reduceLE, Int.reduceEq, Int.reduceToNat, Nat.reduceMul]
      ((try (with_reducible refine R_fin (by repeat' (first | exact okp0 | refine okp rfl rfl rfl ?_)) ?_)); (try simp only [go_sem, ei, ↓reduceIte, Nat.reduceEqDiff, Nat.reduceAdd, Nat.reduceLeDiff, reduceCtorEq, Nat.reduceLT, Int.reduceLT, Int.reduceLE, Int.reduceEq, Int.reduceToNat, Nat.reduceMul]))
      refine W_loop (fun x : List Ring × List Ring => x.2.length) (fun x => x.1.length + x.2.length = rs.length ∧ (∀ r ∈ x.1 ++ x.2, goodR r) ∧ (x.1 ++ x.2).map rungM = rs.map rungM ∧ ∃ d p, x.1 = d ++ [p] ∧ x.1 ++ upM m f t now p x.2 = out)
        (fun x => [(2, I now), (3, .ptr 100 0), (4, .ptr 101 0), (6, .ptr 102 0), (7, I 0), (10, .ptr 162 0), (11, I x.1.length)])
        (fun x => [(100, .box [I m, I f, rgL rs]), (101, .box [I t, I v]), (102, .box [I 0, I 0, .t (.v (.slice none 0 0))]), (162, .box [I m, I f, .own 999 2 0 rs.length true]), (999, .row 2 true ((x.1 ++ x.2).map rgT))])
        (pre ++ [setR r0 t v], post) ⟨by simp; omega, ?_, ?_, pre, setR r0 t v, rfl, by rw [← hout]; simp⟩ ?_ ?_
      · intro x hx
        simp at hx
        rcases hx with hx | hx | hx
        · exact hg x (by rw [h1]; simp [hx])
        · rw [hx]; exact g1
        · exact hg x (by rw [h1]; simp [hx])
      · rw [h1]; simp [rung_set]
      · exact (subL [(999, 161)] [] (by simp [envS, go_sem, wkV, wkL, AV.ids, idsL, keysOf, ren, stoOf, slTrees, AV.asOwn, rowPart, AV.isNil] <;> assumption) (by simp [stoS, go_sem, wkV, wkL, wkO, AV.ids, Ob.ids, idsL, keysOf, ren, AV.one, stoOf, slTrees, AV.asOwn, rowPart, AV.isNil] <;> assumption) (by simp [keysOf, ren]) (by simp [stoOf, keysOf, ren]) (by simp [keysOf, ren]) (by simp [keysOf, ren]))
      clear hset hrT ei bS g1 g2 hgo hget ib
      rintro ⟨done, rest⟩ ⟨k1, k2, k3, d, p, k4, k5⟩
      simp only at k1 k2 k3 k4 k5
      simp only [go_sem, s_ref14_Accept_b4, ↓reduceIte, Nat.reduceEqDiff, Nat.reduceAdd, Nat.reduceLeDiff, reduceCtorEq, Nat.reduceLT, Int.reduceLT, Int.reduceLE, Int.reduceEq, Int.reduceToNat, Nat.reduceMul]
      refine W_split rfl (fun hlt2 => ?_) (fun hlt2 => ?_)
      · simp at hlt2
        cases rest with
        | nil => simp at k1; omega
        | cons r rest =>
          simp only [List.length_cons] at k1
          have hgr := k2 r (by simp)
          have hpg := k2 p (by rw [k4]; simp)
          have hget := mid_get rgT done r rest
          have hgo := mid_at done r rest
          have hgpo : (done ++ r :: rest)[done.length - 1]? = some p := by rw [k4]; simp
          have hgp : ((done ++ r :: rest).map rgT)[done.length - 1]? = some (rgT p) := by rw [List.getElem?_map, hgpo]; rfl
          have ib : (done.length : Int) < (rs.length : Int) := by omega
          have hdl : 0 < done.length := by rw [k4]; simp
          have ib1 : ((done.length - 1 : Nat) : Int) < (rs.length : Int) := by omega
          have e1 : IntKind.i64.wrap ((done.length : Int) - 1) = ((done.length - 1 : Nat) : Int) := by rw [wrap_i64_of (by omega) (by omega)]; omega
          have ei2 : ∀ x : Ring, IntKind.i64.wrap ((done.length : Int) + 1) = (((done ++ [x]).length : Nat) : Int) := by intro x; rw [wrap_i64_of (by omega) (by omega)]; simp
          have hnx : r :: rest = [r] ++ rest := rfl
          have bR := f_ref14_reaches r.1 r.2 t now hgr.1 ht htn
          have err : ((r.1, r.2) : Ring) = r := rfl
          have hfl : flwB (rungM p) (rungM r) = true := by
            have c1 : ((done ++ r :: rest).map rungM)[done.length - 1]? = some (rungM p) := by rw [List.getElem?_map, hgpo]; rfl
            have c2 : ((done ++ r :: rest).map rungM)[done.length - 1 + 1]? = some (rungM r) := by rw [List.getElem?_map, show done.length - 1 + 1 = done.length by omega, hgo]; rfl
            rw [k3] at c1 c2
            exact chain_get (tog_chain p3) c1 c2
          simp only [go_sem, hgo, rgT, ib, ↓reduceIte, Nat.reduceEqDiff, Nat.reduceAdd, Nat.reduceLeDiff, reduceCtorEq, Nat.reduceLT, Int.reduceLT, Int.reduceLE, Int.reduceEq, Int.reduceToNat, Nat.reduceMul]
          refine Cl_plain bR ?_
          cases hc : rchsB r t now
          · have hst : stepR m f p r t now = r := by simp [stepR, hc]
            simp only [go_sem, err, hc, ei2 r, s_ref14_Accept_t3, ↓reduceIte, Nat.reduceEqDiff, Nat.reduceAdd, Nat.reduceLeDiff, reduceCtorEq, Nat.reduceLT, Int.reduceLT, Int.reduceLE, Int.reduceEq, Int.reduceToNat, Nat.reduceMul]
            refine rd_of (done ++ [r], rest) (by simp) ⟨by simp; omega, by simpa using k2, by simpa using k3, done, r, rfl, ?_⟩ ?_
            · rw [← k5]; simp [upM, hst]
            · rw [hnx, ← List.append_assoc]
              exact (subL [] [] (by simp [envS, go_sem, wkV, wkL, AV.ids, idsL, keysOf, ren, stoOf, slTrees, AV.asOwn, rowPart, AV.isNil] <;> assumption) (by simp [stoS, go_sem, wkV, wkL, wkO, AV.ids, Ob.ids, idsL, keysOf, ren, AV.one, stoOf, slTrees, AV.asOwn, rowPart, AV.isNil] <;> assumption) (by simp [keysOf, ren]) (by simp [stoOf, keysOf, ren]) (by simp [keysOf, ren]) (by simp [keysOf, ren]))
          · obtain ⟨w1, w2, _⟩ := ring_bd hgr.1
            obtain ⟨u1, u2, _⟩ := ring_bd hpg.1
            have ht' := timedB_iff.1 ht
            have hw0 : ¬ r.1 = 0 := by omega
            have hu0 : ¬ p.1 = 0 := by omega
            have q1 : t.tmod r.1 = t % r.1 := smod ht'.1
            have q2 := Int.emod_nonneg t hw0
            have q3 := emod_le_self (t := t) ht'.1 (show 0 < r.1 by omega)
            have q4 : IntKind.i64.wrap (t - t % r.1) = t - t % r.1 := wrap_i64_of (by omega) (by omega)
            simp only [flwB, rungM, Bool.and_eq_true, decide_eq_true_eq] at hfl
            have hmod : r.1 % p.1 = 0 := of_decide_eq_true hfl.2.1
            have qd : r.1.tdiv p.1 = r.1 / p.1 := sdiv (by omega)
            have qn : 0 ≤ r.1 / p.1 := Int.ediv_nonneg (by omega) (by omega)
            have qle : r.1 / p.1 ≤ r.1 := Int.ediv_le_self _ (by omega)
            have q5 : IntKind.i64.wrap (r.1 / p.1) = r.1 / p.1 := wrap_i64_of (by omega) (by omega)
            have hdm : r.1 / p.1 * p.1 = r.1 := Int.ediv_mul_cancel_of_emod_eq_zero hmod
            have hh' : 0 ≤ f ∧ f ≤ 1000000 := by simp [howB] at p1; omega
            have q6 : 0 ≤ f * (r.1 / p.1) := Int.mul_nonneg hh'.1 qn
            have q7 : f * (r.1 / p.1) ≤ 1000000 * 86400 := Int.mul_le_mul hh'.2 (by omega) qn (by omega)
            have q8 : IntKind.i64.wrap (f * (r.1 / p.1)) = f * (r.1 / p.1) := wrap_i64_of (by omega) (by omega)
            obtain ⟨n, hnn⟩ : ∃ n : Nat, r.1 / p.1 = (n : Int) := ⟨(r.1 / p.1).toNat, by omega⟩
            have hco : coarM m f p (t - t % r.1) r.1 = if ((partsM p (t - t % r.1) n).length : Int) * 1000000 < f * (n : Int) then none else blendM m (partsM p (t - t % r.1) n) := by
              unfold coarM; rw [hnn]; simp only [Int.toNat_natCast]
            have hslot : setM r.1 r.2 (t - t % r.1) = setM r.1 r.2 (t - t % r.1) := rfl
            generalize hsl : t - t % r.1 = slot at *
            have q9 : IntKind.i64.wrap (slot + r.1) = slot + r.1 := wrap_i64_of (by omega) (by omega)
            rw [hnn] at qd q5 q6 q7 q8 hdm
            simp only [go_sem, err, hc, hgo, hgpo, rgT, ib, ib1, e1, ↓reduceIte, Nat.reduceEqDiff, Nat.reduceAdd, Nat.reduceLeDiff, reduceCtorEq, Nat.reduceLT, Int.reduceLT, Int.reduceLE, Int.reduceEq, Int.reduceToNat, Nat.reduceMul]
            ((try (with_reducible refine R_fin (by repeat' (first | exact okp0 | refine okp rfl rfl rfl ?_)) ?_)); (try simp only [go_sem, i64_rem hw0, q1, hsl, q4, ↓reduceIte, Nat.reduceEqDiff, Nat.reduceAdd, Nat.reduceLeDiff, reduceCtorEq, Nat.reduceLT, Int.reduceLT, Int.reduceLE, Int.reduceEq, Int.reduceToNat, Nat.reduceMul]))
            refine W_loop (fun j : Nat => n - j) (fun j => j ≤ n)
              (fun j => [(2, I now), (3, .ptr 100 0), (4, .ptr 101 0), (6, .ptr 102 0), (7, I 0), (10, .ptr 162 0), (11, I done.length), (12, .ptr 212 0), (13, I r.1), (14, I slot), (15, .own 998 1 0 (partsM p slot j).length (!(partsM p slot j).isEmpty)), (16, I (slot + (j : Int) * p.1))])
              (fun j => [(100, .box [I m, I f, rgL rs]), (101, .box [I t, I v]), (102, .box [I 0, I 0, .t (.v (.slice none 0 0))]), (162, .box [I m, I f, .own 999 2 0 rs.length true]), (999, .row 2 true ((done ++ r :: rest).map rgT)), (212, .box [I p.1, slL p.2]), (998, .row 1 (!(partsM p slot j).isEmpty) ((partsM p slot j).map iT))])
              0 (Nat.zero_le _) ?_ ?_
            · rw [show partsM p slot 0 = [] from rfl]
              exact (subL [(998, 888)] [] (by simp [envS, go_sem, wkV, wkL, AV.ids, idsL, keysOf, ren, stoOf, slTrees, AV.asOwn, rowPart, AV.isNil] <;> assumption) (by simp [stoS, go_sem, wkV, wkL, wkO, AV.ids, Ob.ids, idsL, keysOf, ren, AV.one, stoOf, slTrees, AV.asOwn, rowPart, AV.isNil] <;> assumption) (by simp [keysOf, ren]) (by simp [stoOf, keysOf, ren]) (by simp [keysOf, ren]) (by simp [keysOf, ren]))
            · intro j hj
              have m0 : (j : Int) * p.1 ≤ (n : Int) * p.1 := Int.mul_le_mul_of_nonneg_right (by omega) (by omega)
              have m1 : 0 ≤ (j : Int) * p.1 := Int.mul_nonneg (by omega) (by omega)
              have dlt : decide (slot + (j : Int) * p.1 < slot + r.1) = decide (j < n) := by
                rw [decide_eq_decide]
                constructor
                · intro h
                  apply Decidable.byContradiction
                  intro h2
                  have := Int.mul_le_mul_of_nonneg_right (show (n : Int) ≤ (j : Int) by omega) (show 0 ≤ p.1 by omega)
                  omega
                · intro h
                  have := Int.mul_le_mul_of_nonneg_right (show (j : Int) + 1 ≤ (n : Int) by omega) (show 0 ≤ p.1 by omega)
                  rw [Int.add_mul, Int.one_mul] at this
                  omega
              simp only [go_sem, s_ref14_Accept_b1, q9, dlt, ↓reduceIte, Nat.reduceEqDiff, Nat.reduceAdd, Nat.reduceLeDiff, reduceCtorEq, Nat.reduceLT, Int.reduceLT, Int.reduceLE, Int.reduceEq, Int.reduceToNat, Nat.reduceMul]
              refine W_split rfl (fun hjn => ?_) (fun hjn => ?_)
              · simp at hjn
                have m2 := Int.mul_le_mul_of_nonneg_right (show (j : Int) + 1 ≤ (n : Int) by omega) (show 0 ≤ p.1 by omega)
                have m3 : ((j + 1 : Nat) : Int) * p.1 = (j : Int) * p.1 + p.1 := by rw [Int.natCast_add, Int.add_mul]; simp
                have e3 : IntKind.i64.wrap (slot + (j : Int) * p.1 + p.1) = slot + ((j + 1 : Nat) : Int) * p.1 := by rw [m3]; rw [Int.add_mul, Int.one_mul] at m2; rw [wrap_i64_of (by omega) (by omega)]; omega
                have hpl := parts_len p slot j
                have b1 : ((partsM p slot j).length + 1) * 8 ≤ 2 ^ 47 := by omega
                have b2 : (partsM p slot j).length + 1 < 2 ^ 47 := by omega
                simp only [go_sem, ↓reduceIte, Nat.reduceEqDiff, Nat.reduceAdd, Nat.reduceLeDiff, reduceCtorEq, Nat.reduceLT, Int.reduceLT, Int.reduceLE, Int.reduceEq, Int.reduceToNat, Nat.reduceMul]
                refine Cl_plain (f_ref13_Get p.1 (slot + (j : Int) * p.1) p.2) ?_
                cases hgg : (getM p.1 p.2 (slot + (j : Int) * p.1)).1
                · have hp : partsM p slot (j + 1) = partsM p slot j ++ [(getM p.1 p.2 (slot + (j : Int) * p.1)).2] := by
                    simp only [partsM, hgg]; simp
                  have em : (partsM p slot j).map iT ++ [[.v (.int .i64 (getM p.1 p.2 (slot + (j : Int) * p.1)).2)]] = (partsM p slot (j + 1)).map iT := by
                    rw [hp, List.map_append]; rfl
                  have hlen2 : ((partsM p slot j).map iT).length = (partsM p slot j).length := by simp
                  have hpl2 : (partsM p slot (j + 1)).length = (partsM p slot j).length + 1 := by rw [hp]; simp
                  have hpe : (partsM p slot (j + 1)).isEmpty = false := by rw [hp]; simp
                  simp only [go_sem, hgg, ↓reduceIte, Nat.reduceEqDiff, Nat.reduceAdd, Nat.reduceLeDiff, reduceCtorEq, Nat.reduceLT, Int.reduceLT, Int.reduceLE, Int.reduceEq, Int.reduceToNat, Nat.reduceMul]
                  simp only [go_sem, b1, b2, em, hlen2, e3, ↓reduceIte, Nat.reduceEqDiff, Nat.reduceAdd, Nat.reduceLeDiff, reduceCtorEq, Nat.reduceLT, Int.reduceLT, Int.reduceLE, Int.reduceEq, Int.reduceToNat, Nat.reduceMul]
                  refine rd_of (j + 1) (by first | omega | (simp only; omega)) (by first | omega | (simp only; omega)) ?_
                  rw [hpl2, hpe]
                  exact (subL [(998, 243)] [] (by simp [envS, go_sem, wkV, wkL, AV.ids, idsL, keysOf, ren, stoOf, slTrees, AV.asOwn, rowPart, AV.isNil] <;> assumption) (by simp [stoS, go_sem, wkV, wkL, wkO, AV.ids, Ob.ids, idsL, keysOf, ren, AV.one, stoOf, slTrees, AV.asOwn, rowPart, AV.isNil] <;> assumption) (by simp [keysOf, ren]) (by simp [stoOf, keysOf, ren]) (by simp [keysOf, ren]) (by simp [keysOf, ren]))
                · have hp : partsM p slot (j + 1) = partsM p slot j := by
                    simp only [partsM, hgg]; simp
                  simp only [go_sem, hgg, e3, ↓reduceIte, Nat.reduceEqDiff, Nat.reduceAdd, Nat.reduceLeDiff, reduceCtorEq, Nat.reduceLT, Int.reduceLT, Int.reduceLE, Int.reduceEq, Int.reduceToNat, Nat.reduceMul]
                  refine rd_of (j + 1) (by first | omega | (simp only; omega)) (by first | omega | (simp only; omega)) ?_
                  rw [hp]
                  exact (subL [] [] (by simp [envS, go_sem, wkV, wkL, AV.ids, idsL, keysOf, ren, stoOf, slTrees, AV.asOwn, rowPart, AV.isNil] <;> assumption) (by simp [stoS, go_sem, wkV, wkL, wkO, AV.ids, Ob.ids, idsL, keysOf, ren, AV.one, stoOf, slTrees, AV.asOwn, rowPart, AV.isNil] <;> assumption) (by simp [keysOf, ren]) (by simp [stoOf, keysOf, ren]) (by simp [keysOf, ren]) (by simp [keysOf, ren]))
              · have e : j = n := by simp at hjn; omega
                subst e
                have hpl := parts_len p slot j
                have hpi := parts_in hpg.2 slot j
                have hst0 : coarM m f p slot r.1 = none → stepR m f p r t now = r := fun h => by simp [stepR, hc, hsl, h]
                generalize partsM p slot j = ps at *
                have l1 : IntKind.i64.wrap ((ps.length : Int) * 1000000) = (ps.length : Int) * 1000000 := wrap_i64_of (by omega) (by omega)
                simp only [go_sem, ↓reduceIte, Nat.reduceEqDiff, Nat.reduceAdd, Nat.reduceLeDiff, reduceCtorEq, Nat.reduceLT, Int.reduceLT, Int.reduceLE, Int.reduceEq, Int.reduceToNat, Nat.reduceMul]
                cases hz : decide ((ps.length : Int) = 0)
                · have hz' := of_decide_eq_false hz
                  cases hcc : decide ((ps.length : Int) * 1000000 < f * (j : Int))
                  · rw [if_neg (of_decide_eq_false hcc)] at hco
                    have bB := f_ref14_Blend m ps hpi (by unfold maxLen; omega)
                    rw [← hco] at bB
                    have rC : Rt (coarM m f p slot r.1) := coar_rt hpg.2
                    simp only [go_sem, s_ref14_Accept_t2, hz, l1, i64_quo hu0, qd, q5, q8, hcc, ↓reduceIte, Nat.reduceEqDiff, Nat.reduceAdd, Nat.reduceLeDiff, reduceCtorEq, Nat.reduceLT, Int.reduceLT, Int.reduceLE, Int.reduceEq, Int.reduceToNat, Nat.reduceMul]
                    ((try (with_reducible refine R_fin (by repeat' (first | exact okp0 | refine okp rfl rfl rfl ?_)) ?_)); (try simp only [go_sem, ↓reduceIte, Nat.reduceEqDiff, Nat.reduceAdd, Nat.reduceLeDiff, reduceCtorEq, Nat.reduceLT, Int.reduceLT, Int.reduceLE, Int.reduceEq, Int.reduceToNat, Nat.reduceMul]))
                    cases ps with
                    | nil => simp at hz'
                    | cons x0 ps =>
                      refine Cl_keep [998] bB ?_ (by simp [stoOf]) rfl ?_
                      · exact .one (Wk.refl _) (.one (Wk.row (by simp [slTrees, AV.asOwn, rowPart, stoOf, List.take_of_length_le]) (by simp)) .nil)
                      cases hcm : coarM m f p slot r.1 with
                      | none =>
                        have hst := hst0 hcm
                        simp only [go_sem, NO_none, ei2 r, s_ref14_Accept_t3, ↓reduceIte, Nat.reduceEqDiff, Nat.reduceAdd, Nat.reduceLeDiff, reduceCtorEq, Nat.reduceLT, Int.reduceLT, Int.reduceLE, Int.reduceEq, Int.reduceToNat, Nat.reduceMul]
                        refine rd_of (done ++ [r], rest) (by simp) ⟨by simp; omega, by simpa using k2, by simpa using k3, done, r, rfl, ?_⟩ ?_
                        · rw [← k5]; simp [upM, hst]
                        · rw [hnx, ← List.append_assoc]
                          exact (subL [] [] (by simp [envS, go_sem, wkV, wkL, AV.ids, idsL, keysOf, ren, stoOf, slTrees, AV.asOwn, rowPart, AV.isNil] <;> assumption) (by simp [stoS, go_sem, wkV, wkL, wkO, AV.ids, Ob.ids, idsL, keysOf, ren, AV.one, stoOf, slTrees, AV.asOwn, rowPart, AV.isNil] <;> assumption) (by simp [keysOf, ren]) (by simp [stoOf, keysOf, ren]) (by simp [keysOf, ren]) (by simp [keysOf, ren]))
                      | some z =>
                        have hzr := rC z hcm
                        have hst : stepR m f p r t now = setR r t z := by simp [stepR, hc, hsl, hcm]
                        obtain ⟨g1, g2⟩ := set_good hgr ht hzr.1 hzr.2
                        have hss : setM r.1 r.2 slot z = setM r.1 r.2 t z := by rw [← hsl]; exact setM_slot hgr.1 ht (by omega)
                        have bS := f_ref13_Set r.1 slot z r.2 (by have := ringB_sized hgr.1; omega)
                        rw [hss, g2] at bS
                        have hset := mid_set rgT done r (setR r t z) rest
                        have hrT : [T.v (.int .i64 r.1), T.sl 2 ((setM r.1 r.2 t z).1.map slT)] = rgT (setR r t z) := rfl
                        have d2 : (2 : Nat) ≤ 2 := Nat.le_refl _
                        simp only [go_sem, NO_some, hgo, rgT, ib, ↓reduceIte, Nat.reduceEqDiff, Nat.reduceAdd, Nat.reduceLeDiff, reduceCtorEq, Nat.reduceLT, Int.reduceLT, Int.reduceLE, Int.reduceEq, Int.reduceToNat, Nat.reduceMul]
                        refine Cl_plain bS ?_
                        simp only [go_sem, ib, hrT, hgo, rgT_len, rgT_drop, hset, ↓reduceIte, Nat.reduceEqDiff, Nat.reduceAdd, Nat.reduceLeDiff, reduceCtorEq, Nat.reduceLT, Int.reduceLT, Int.reduceLE, Int.reduceEq, Int.reduceToNat, Nat.reduceMul]
                        ((try (with_reducible refine R_fin (by repeat' (first | exact okp0 | refine okp rfl rfl rfl ?_)) ?_)); (try simp only [go_sem, ei2 (setR r t z), s_ref14_Accept_t3, ↓reduceIte, Nat.reduceEqDiff, Nat.reduceAdd, Nat.reduceLeDiff, reduceCtorEq, Nat.reduceLT, Int.reduceLT, Int.reduceLE, Int.reduceEq, Int.reduceToNat, Nat.reduceMul]))
                        refine rd_of (done ++ [setR r t z], rest) (by simp) ⟨by simp; omega, ?_, by rw [← k3]; simp [rung_set], done, setR r t z, rfl, ?_⟩ ?_
                        · intro x hx
                          simp at hx
                          rcases hx with hx | hx | hx
                          · exact k2 x (by simp [hx])
                          · rw [hx]; exact g1
                          · exact k2 x (by simp [hx])
                        · rw [← k5]; simp [upM, hst]
                        · exact (subL [] [] (by simp [envS, go_sem, wkV, wkL, AV.ids, idsL, keysOf, ren, stoOf, slTrees, AV.asOwn, rowPart, AV.isNil] <;> assumption) (by simp [stoS, go_sem, wkV, wkL, wkO, AV.ids, Ob.ids, idsL, keysOf, ren, AV.one, stoOf, slTrees, AV.asOwn, rowPart, AV.isNil] <;> assumption) (by simp [keysOf, ren]) (by simp [stoOf, keysOf, ren]) (by simp [keysOf, ren]) (by simp [keysOf, ren]))
                  · rw [if_pos (of_decide_eq_true hcc)] at hco
                    have hst := hst0 hco
                    simp only [go_sem, s_ref14_Accept_t2, hz, l1, i64_quo hu0, qd, q5, q8, hcc, ↓reduceIte, Nat.reduceEqDiff, Nat.reduceAdd, Nat.reduceLeDiff, reduceCtorEq, Nat.reduceLT, Int.reduceLT, Int.reduceLE, Int.reduceEq, Int.reduceToNat, Nat.reduceMul]
                    ((try (with_reducible refine R_fin (by repeat' (first | exact okp0 | refine okp rfl rfl rfl ?_)) ?_)); (try simp only [go_sem, ei2 r, s_ref14_Accept_t3, ↓reduceIte, Nat.reduceEqDiff, Nat.reduceAdd, Nat.reduceLeDiff, reduceCtorEq, Nat.reduceLT, Int.reduceLT, Int.reduceLE, Int.reduceEq, Int.reduceToNat, Nat.reduceMul]))
                    refine rd_of (done ++ [r], rest) (by simp) ⟨by simp; omega, by simpa using k2, by simpa using k3, done, r, rfl, ?_⟩ ?_
                    · rw [← k5]; simp [upM, hst]
                    · rw [hnx, ← List.append_assoc]
                      exact (subL [] [] (by simp [envS, go_sem, wkV, wkL, AV.ids, idsL, keysOf, ren, stoOf, slTrees, AV.asOwn, rowPart, AV.isNil] <;> assumption) (by simp [stoS, go_sem, wkV, wkL, wkO, AV.ids, Ob.ids, idsL, keysOf, ren, AV.one, stoOf, slTrees, AV.asOwn, rowPart, AV.isNil] <;> assumption) (by simp [keysOf, ren]) (by simp [stoOf, keysOf, ren]) (by simp [keysOf, ren]) (by simp [keysOf, ren]))
                · have hz' := of_decide_eq_true hz
                  have hps : ps = [] := List.eq_nil_of_length_eq_zero (by omega)
                  have hco2 : coarM m f p slot r.1 = none := by rw [hco, hps]; split <;> simp [blendM]
                  have hst := hst0 hco2
                  simp only [go_sem, s_ref14_Accept_t2, hz, ↓reduceIte, Nat.reduceEqDiff, Nat.reduceAdd, Nat.reduceLeDiff, reduceCtorEq, Nat.reduceLT, Int.reduceLT, Int.reduceLE, Int.reduceEq, Int.reduceToNat, Nat.reduceMul]
                  ((try (with_reducible refine R_fin (by repeat' (first | exact okp0 | refine okp rfl rfl rfl ?_)) ?_)); (try simp only [go_sem, ei2 r, s_ref14_Accept_t3, ↓reduceIte, Nat.reduceEqDiff, Nat.reduceAdd, Nat.reduceLeDiff, reduceCtorEq, Nat.reduceLT, Int.reduceLT, Int.reduceLE, Int.reduceEq, Int.reduceToNat, Nat.reduceMul]))
                  refine rd_of (done ++ [r], rest) (by simp) ⟨by simp; omega, by simpa using k2, by simpa using k3, done, r, rfl, ?_⟩ ?_
                  · rw [← k5]; simp [upM, hst]
                  · rw [hnx, ← List.append_assoc]
                    exact (subL [] [] (by simp [envS, go_sem, wkV, wkL, AV.ids, idsL, keysOf, ren, stoOf, slTrees, AV.asOwn, rowPart, AV.isNil] <;> assumption) (by simp [stoS, go_sem, wkV, wkL, wkO, AV.ids, Ob.ids, idsL, keysOf, ren, AV.one, stoOf, slTrees, AV.asOwn, rowPart, AV.isNil] <;> assumption) (by simp [keysOf, ren]) (by simp [stoOf, keysOf, ren]) (by simp [keysOf, ren]) (by simp [keysOf, ren]))
      · have e : rest = [] := by
          cases rest with
          | nil => rfl
          | cons r rest => simp at hlt2 k1; omega
        subst e
        simp only [upM, List.append_nil] at k5
        subst k5
        have hln : done.length = rs.length := by simpa using k1
        rw [List.append_nil]
        simp only [go_sem, s_ref14_Accept_t5, ↓reduceIte, Nat.reduceEqDiff, Nat.reduceAdd, Nat.reduceLeDiff, reduceCtorEq, Nat.reduceLT, Int.reduceLT, Int.reduceLE, Int.reduceEq, Int.reduceToNat, Nat.reduceMul]
        refine wends2 [] [999] (by first | exact Or.inl rfl | exact Or.inr rfl) ?_ (by simp [AV.ids, idsL]) (by simp [stoS]) (by simp [keysOf]) (by simp [stoOf, keysOf] <;> assumption) (by simp [keysOf]) (by simp [keysOf])
        simp only [go_sem, r_ref14_Accept, exists_eq_left', Option.some.injEq, ↓reduceIte, Nat.reduceEqDiff, Nat.reduceAdd, Nat.reduceLeDiff, reduceCtorEq, Nat.reduceLT, Int.reduceLT, Int.reduceLE, Int.reduceEq, Int.reduceToNat, Nat.reduceMul]
        simp [wkV, wkL, slTrees, AV.asOwn, rowPart, stoOf, AV.isNil]
        exact ⟨by omega, by rw [List.take_of_length_le (by simp; omega)]⟩

end Go.Proofs.Ytmjlldlaigoflaa
