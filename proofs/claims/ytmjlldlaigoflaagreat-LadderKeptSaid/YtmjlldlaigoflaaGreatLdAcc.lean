/- The contract of a ladder's accepting a point. No statement of the seat is proved here. -/
import Derived.Test.YtmjlldlaigoflaaGreatLdAccM
set_option linter.unusedSimpArgs false
set_option linter.unusedVariables false
namespace Go.Proofs.YtmjlldlaigoflaaGreat
open Go Go.Sx

theorem f_ladder_Accept (m f : Int) (rs : List Ring) (t v now : Int) (hn : rs.length ≤ maxLen) (hs : ∀ r ∈ rs, InS r.2) (hv1 : -9223372036854775808 ≤ v) (hv2 : v < 9223372036854775808) :
    Meets Tryz.prog E0 n_ladder_Accept [ladV m f rs, .ag [I t, I v], I now] [] (.tp [ladV m f (accM m f rs t v now).1, I (accM m f rs t v now).2]) [] := by
  refine m_ladder_Accept (by simp) (shut0 rfl) (shut0 rfl) (by simp) (by simp [keysOf]) ?_
  have b1 := f_ladder_timed t
  have b2 := f_ladder_timed now
  have b3 := f_ladder_Right m f rs hn
  cases ht : timedB t
  · have e : accM m f rs t v now = (rs, 1) := by simp [accM, ht]
    rw [ht] at b1
    rw [e]
    clear hs e
    repeat' (first | (with_reducible refine Cl_plain (b1) ?_) | (with_reducible refine Cl_plain (b2) ?_) | (with_reducible refine Cl_plain (b3) ?_) | (simp only [go_sem, s_ladder_Accept, ↓reduceIte, Nat.reduceEqDiff, Nat.reduceAdd, Nat.reduceLeDiff, reduceCtorEq, Nat.reduceLT, Int.reduceLT, Int.reduceLE, Int.reduceEq, Int.reduceToNat, Nat.reduceMul, *]) | (simp (disch := omega) only [s_ladder_Accept, wrap_i64_of, i64_quo, i64_rem, sdiv, smod]) | ((with_reducible refine W_split (by with_unfolding_all exact rfl) (fun hsp => ?_) (fun hsp => ?_)) <;> (try simp only [Bool.not_true, Bool.not_false, decide_eq_true_eq, decide_eq_false_iff_not, Bool.not_eq_true', Bool.not_eq_false', not_false_eq_true] at hsp)) | ((with_reducible refine R_split (by with_unfolding_all exact rfl) (fun hsp => ?_) (fun hsp => ?_)) <;> (try simp only [Bool.not_true, Bool.not_false, decide_eq_true_eq, decide_eq_false_iff_not, Bool.not_eq_true', Bool.not_eq_false', not_false_eq_true] at hsp)) | (with_reducible refine R_fin (by repeat' (first | exact okp0 | refine okp rfl rfl rfl ?_)) ?_))
    refine wends (by first | exact Or.inl rfl | exact Or.inr rfl) ?_ (by first | rfl | simp [AV.ids, idsL])
    simp only [go_sem, r_ladder_Accept, ↓reduceIte, Nat.reduceEqDiff, Nat.reduceAdd, Nat.reduceLeDiff, reduceCtorEq, Nat.reduceLT, Int.reduceLT, Int.reduceLE, Int.reduceEq, Int.reduceToNat, Nat.reduceMul]
  cases htn : timedB now
  · have e : accM m f rs t v now = (rs, 1) := by simp [accM, htn]
    rw [ht] at b1
    rw [htn] at b2
    rw [e]
    clear hs e
    repeat' (first | (with_reducible refine Cl_plain (b1) ?_) | (with_reducible refine Cl_plain (b2) ?_) | (with_reducible refine Cl_plain (b3) ?_) | (simp only [go_sem, s_ladder_Accept, ↓reduceIte, Nat.reduceEqDiff, Nat.reduceAdd, Nat.reduceLeDiff, reduceCtorEq, Nat.reduceLT, Int.reduceLT, Int.reduceLE, Int.reduceEq, Int.reduceToNat, Nat.reduceMul, *]) | (simp (disch := omega) only [s_ladder_Accept, wrap_i64_of, i64_quo, i64_rem, sdiv, smod]) | ((with_reducible refine W_split (by with_unfolding_all exact rfl) (fun hsp => ?_) (fun hsp => ?_)) <;> (try simp only [Bool.not_true, Bool.not_false, decide_eq_true_eq, decide_eq_false_iff_not, Bool.not_eq_true', Bool.not_eq_false', not_false_eq_true] at hsp)) | ((with_reducible refine R_split (by with_unfolding_all exact rfl) (fun hsp => ?_) (fun hsp => ?_)) <;> (try simp only [Bool.not_true, Bool.not_false, decide_eq_true_eq, decide_eq_false_iff_not, Bool.not_eq_true', Bool.not_eq_false', not_false_eq_true] at hsp)) | (with_reducible refine R_fin (by repeat' (first | exact okp0 | refine okp rfl rfl rfl ?_)) ?_))
    refine wends (by first | exact Or.inl rfl | exact Or.inr rfl) ?_ (by first | rfl | simp [AV.ids, idsL])
    simp only [go_sem, r_ladder_Accept, ↓reduceIte, Nat.reduceEqDiff, Nat.reduceAdd, Nat.reduceLeDiff, reduceCtorEq, Nat.reduceLT, Int.reduceLT, Int.reduceLE, Int.reduceEq, Int.reduceToNat, Nat.reduceMul]
  cases hv : decide (v = -9223372036854775808)
  case true =>
    have e : accM m f rs t v now = (rs, 1) := by
      have hv' := of_decide_eq_true hv
      simp [accM, hv']
    rw [ht] at b1
    rw [htn] at b2
    rw [e]
    clear hs e
    repeat' (first | (with_reducible refine Cl_plain (b1) ?_) | (with_reducible refine Cl_plain (b2) ?_) | (with_reducible refine Cl_plain (b3) ?_) | (simp only [go_sem, s_ladder_Accept, ↓reduceIte, Nat.reduceEqDiff, Nat.reduceAdd, Nat.reduceLeDiff, reduceCtorEq, Nat.reduceLT, Int.reduceLT, Int.reduceLE, Int.reduceEq, Int.reduceToNat, Nat.reduceMul, *]) | (simp (disch := omega) only [s_ladder_Accept, wrap_i64_of, i64_quo, i64_rem, sdiv, smod]) | ((with_reducible refine W_split (by with_unfolding_all exact rfl) (fun hsp => ?_) (fun hsp => ?_)) <;> (try simp only [Bool.not_true, Bool.not_false, decide_eq_true_eq, decide_eq_false_iff_not, Bool.not_eq_true', Bool.not_eq_false', not_false_eq_true] at hsp)) | ((with_reducible refine R_split (by with_unfolding_all exact rfl) (fun hsp => ?_) (fun hsp => ?_)) <;> (try simp only [Bool.not_true, Bool.not_false, decide_eq_true_eq, decide_eq_false_iff_not, Bool.not_eq_true', Bool.not_eq_false', not_false_eq_true] at hsp)) | (with_reducible refine R_fin (by repeat' (first | exact okp0 | refine okp rfl rfl rfl ?_)) ?_))
    refine wends (by first | exact Or.inl rfl | exact Or.inr rfl) ?_ (by first | rfl | simp [AV.ids, idsL])
    simp only [go_sem, r_ladder_Accept, ↓reduceIte, Nat.reduceEqDiff, Nat.reduceAdd, Nat.reduceLeDiff, reduceCtorEq, Nat.reduceLT, Int.reduceLT, Int.reduceLE, Int.reduceEq, Int.reduceToNat, Nat.reduceMul]
  cases hl : ladB m f rs
  · have e : accM m f rs t v now = (rs, 1) := by simp [accM, hl]
    rw [ht] at b1
    rw [htn] at b2
    rw [hl] at b3
    rw [e]
    clear hs e
    repeat' (first | (with_reducible refine Cl_plain (b1) ?_) | (with_reducible refine Cl_plain (b2) ?_) | (with_reducible refine Cl_plain (b3) ?_) | (simp only [go_sem, s_ladder_Accept, ↓reduceIte, Nat.reduceEqDiff, Nat.reduceAdd, Nat.reduceLeDiff, reduceCtorEq, Nat.reduceLT, Int.reduceLT, Int.reduceLE, Int.reduceEq, Int.reduceToNat, Nat.reduceMul, *]) | (simp (disch := omega) only [s_ladder_Accept, wrap_i64_of, i64_quo, i64_rem, sdiv, smod]) | ((with_reducible refine W_split (by with_unfolding_all exact rfl) (fun hsp => ?_) (fun hsp => ?_)) <;> (try simp only [Bool.not_true, Bool.not_false, decide_eq_true_eq, decide_eq_false_iff_not, Bool.not_eq_true', Bool.not_eq_false', not_false_eq_true] at hsp)) | ((with_reducible refine R_split (by with_unfolding_all exact rfl) (fun hsp => ?_) (fun hsp => ?_)) <;> (try simp only [Bool.not_true, Bool.not_false, decide_eq_true_eq, decide_eq_false_iff_not, Bool.not_eq_true', Bool.not_eq_false', not_false_eq_true] at hsp)) | (with_reducible refine R_fin (by repeat' (first | exact okp0 | refine okp rfl rfl rfl ?_)) ?_))
    refine wends (by first | exact Or.inl rfl | exact Or.inr rfl) ?_ (by first | rfl | simp [AV.ids, idsL])
    simp only [go_sem, r_ladder_Accept, ↓reduceIte, Nat.reduceEqDiff, Nat.reduceAdd, Nat.reduceLeDiff, reduceCtorEq, Nat.reduceLT, Int.reduceLT, Int.reduceLE, Int.reduceEq, Int.reduceToNat, Nat.reduceMul]
  have hv' := of_decide_eq_false hv
  rw [ht] at b1
  rw [htn] at b2
  rw [hl] at b3
  by_cases hlt : now < t
  · have e : accM m f rs t v now = (rs, 3) := by simp [accM, ht, htn, hl, hlt]; omega
    have d0 := decide_eq_true hlt
    rw [e]
    clear hs e hlt
    repeat' (first | (with_reducible refine Cl_plain (b1) ?_) | (with_reducible refine Cl_plain (b2) ?_) | (with_reducible refine Cl_plain (b3) ?_) | (simp only [go_sem, s_ladder_Accept, ↓reduceIte, Nat.reduceEqDiff, Nat.reduceAdd, Nat.reduceLeDiff, reduceCtorEq, Nat.reduceLT, Int.reduceLT, Int.reduceLE, Int.reduceEq, Int.reduceToNat, Nat.reduceMul, *]) | (simp (disch := omega) only [s_ladder_Accept, wrap_i64_of, i64_quo, i64_rem, sdiv, smod]) | ((with_reducible refine W_split (by with_unfolding_all exact rfl) (fun hsp => ?_) (fun hsp => ?_)) <;> (try simp only [Bool.not_true, Bool.not_false, decide_eq_true_eq, decide_eq_false_iff_not, Bool.not_eq_true', Bool.not_eq_false', not_false_eq_true] at hsp)) | ((with_reducible refine R_split (by with_unfolding_all exact rfl) (fun hsp => ?_) (fun hsp => ?_)) <;> (try simp only [Bool.not_true, Bool.not_false, decide_eq_true_eq, decide_eq_false_iff_not, Bool.not_eq_true', Bool.not_eq_false', not_false_eq_true] at hsp)) | (with_reducible refine R_fin (by repeat' (first | exact okp0 | refine okp rfl rfl rfl ?_)) ?_))
    refine wends (by first | exact Or.inl rfl | exact Or.inr rfl) ?_ (by first | rfl | simp [AV.ids, idsL])
    simp only [go_sem, r_ladder_Accept, ↓reduceIte, Nat.reduceEqDiff, Nat.reduceAdd, Nat.reduceLeDiff, reduceCtorEq, Nat.reduceLT, Int.reduceLT, Int.reduceLE, Int.reduceEq, Int.reduceToNat, Nat.reduceMul]
  obtain ⟨p1, p2, p3, p4, p5⟩ := lad_parts hl
  have hg : ∀ r ∈ rs, goodR r := fun r hr => ⟨List.all_eq_true.1 p2 r hr, hs r hr⟩
  have d0 : decide (now < t) = false := decide_eq_false hlt
  have e : accM m f rs t v now = (match accL m f t v now rs with | none => (rs, 14) | some l => (l, 0)) := by
    simp only [accM, ht, htn, hl, Bool.and_true, Bool.true_and, hlt, if_false]
    rw [decide_eq_false hv']; rfl
  have bI : Meets Tryz.prog E0 n_slices_IndexFunc_Sapi_Ring_api_Ring [rgL rs, .fn n_ladder_Accept_1 [] [.ptr 101 0, .ptr 102 0]] [(101, .box [I t, I v]), (102, .box [I now])] (I (idxF (fun r => rchsB r t now) rs 0)) [(101, .box [I t, I v]), (102, .box [I now])] := by
    have := (f_IndexFunc_A n_ladder_Accept_1 (fun r => rchsB r t now) t v now rs hn (fun r hr => f_ladder_Accept_1 r.1 r.2 t v now (hg r hr).1 ht htn)).ren (fun i => i + 101) (by simp [keysOf])
    simpa [renL, renA, renS, renO] using this
  rw [e]
  clear e
  simp only [go_sem, s_ladder_Accept, ↓reduceIte, Nat.reduceEqDiff, Nat.reduceAdd, Nat.reduceLeDiff, reduceCtorEq, Nat.reduceLT, Int.reduceLT, Int.reduceLE, Int.reduceEq, Int.reduceToNat, Nat.reduceMul]
  refine Cl_plain b1 ?_
  simp only [go_sem, ↓reduceIte, Nat.reduceEqDiff, Nat.reduceAdd, Nat.reduceLeDiff, reduceCtorEq, Nat.reduceLT, Int.reduceLT, Int.reduceLE, Int.reduceEq, Int.reduceToNat, Nat.reduceMul]
  refine Cl_plain b2 ?_
  simp only [go_sem, hv, ↓reduceIte, Nat.reduceEqDiff, Nat.reduceAdd, Nat.reduceLeDiff, reduceCtorEq, Nat.reduceLT, Int.reduceLT, Int.reduceLE, Int.reduceEq, Int.reduceToNat, Nat.reduceMul]
  refine Cl_plain b3 ?_
  simp only [go_sem, d0, ↓reduceIte, Nat.reduceEqDiff, Nat.reduceAdd, Nat.reduceLeDiff, reduceCtorEq, Nat.reduceLT, Int.reduceLT, Int.reduceLE, Int.reduceEq, Int.reduceToNat, Nat.reduceMul]
  refine Cl_obj (ins := _) (hin := by simp [keysOf, stoOf]) (hk := by simp [keysOf]) (nd := by simp [keysOf]) (h := bI) ?_
  rcases idx_split (fun r => rchsB r t now) rs 0 with ⟨h1, h2⟩ | ⟨pre, r0, post, h1, h2, h3, h4⟩
  · rw [acc_none h2, h1]
    simp only [go_sem, ↓reduceIte, Nat.reduceEqDiff, Nat.reduceAdd, Nat.reduceLeDiff, reduceCtorEq, Nat.reduceLT, Int.reduceLT, Int.reduceLE, Int.reduceEq, Int.reduceToNat, Nat.reduceMul]
    refine wends (by first | exact Or.inl rfl | exact Or.inr rfl) ?_ (by first | rfl | simp [AV.ids, idsL])
    simp only [go_sem, r_ladder_Accept, ↓reduceIte, Nat.reduceEqDiff, Nat.reduceAdd, Nat.reduceLeDiff, reduceCtorEq, Nat.reduceLT, Int.reduceLT, Int.reduceLE, Int.reduceEq, Int.reduceToNat, Nat.reduceMul]
  · have hacc := acc_some (m := m) (f := f) (v := v) h3 h2 (post := post)
    rw [← h1] at hacc
    rw [hacc, h4, Nat.zero_add]
    generalize hout : pre ++ setR r0 t v :: upM m f t now (setR r0 t v) post = out
    have dz : decide ((pre.length : Int) < 0) = false := decide_eq_false (by omega)
    have hlen : pre.length + (post.length + 1) = rs.length := by rw [h1]; simp
    simp only [go_sem, dz, ↓reduceIte, Nat.reduceEqDiff, Nat.reduceAdd, Nat.reduceLeDiff, reduceCtorEq, Nat.reduceLT, Int.reduceLT, Int.reduceLE, Int.reduceEq, Int.reduceToNat, Nat.reduceMul]
    cases hm : rs.map rgT with
    | nil => simp at hm; subst hm; simp at p4
    | cons e es =>
      have hes : es.length + 1 = rs.length := by have := congrArg List.length hm; simpa using this.symm
      refine Cl_new (xs := [rgL rs]) (by rw [rgL, hm]; exact f_CloneR_own 148 e es (by omega)) (by simp [keysOf, stoOf]) (by simp [keysOf]) ?_
      rw [hes, ← hm]
      simp only [go_sem, ↓reduceIte, Nat.reduceEqDiff, Nat.reduceAdd, Nat.reduceLeDiff, reduceCtorEq, Nat.reduceLT, Int.reduceLT, Int.reduceLE, Int.reduceEq, Int.reduceToNat, Nat.reduceMul]
      refine W_loop (fun x : List Ring × List Ring × Int => x.2.1.length) (fun x => x.1.length + x.2.1.length = rs.length ∧ (∀ r ∈ x.1 ++ x.2.1, goodR r) ∧ -9223372036854775808 < x.2.2 ∧ x.2.2 < 9223372036854775808 ∧
          ((x.1.length = pre.length ∧ ∃ r l, x.2.1 = r :: l ∧ rchsB r t now = true ∧ x.1 ++ setR r t x.2.2 :: upM m f t now (setR r t x.2.2) l = out) ∨
           (pre.length < x.1.length ∧ ∃ d p, x.1 = d ++ [p] ∧ x.1 ++ upM m f t now p x.2.1 = out)))
        (fun x => [(3, .ptr 100 0), (5, .ptr 102 0), (6, .ptr 103 0), (8, I pre.length), (9, .own 999 2 0 rs.length true), (10, I t), (11, I x.2.2), (12, I x.1.length)])
        (fun x => [(100, .box [I m, I f, rgL rs]), (102, .box [I now]), (103, .box [I 0, I 0, .t (.v (.slice none 0 0))]), (999, .row 2 true ((x.1 ++ x.2.1).map rgT))])
        (pre, r0 :: post, v) ⟨by simpa using hlen, by rw [← h1]; exact hg, by simp only; omega, hv2, Or.inl ⟨rfl, r0, post, rfl, h3, hout⟩⟩ ?_ ?_
      · rw [← h1]
        exact (subL [(999, 148)] [] (by simp [envS, go_sem, wkV, wkL, AV.ids, idsL, keysOf, ren, stoOf, slTrees, AV.asOwn, rowPart, AV.isNil] <;> assumption) (by simp [stoS, go_sem, wkV, wkL, wkO, AV.ids, Ob.ids, idsL, keysOf, ren, AV.one, stoOf, slTrees, AV.asOwn, rowPart, AV.isNil] <;> assumption) (by simp [keysOf, ren]) (by simp [stoOf, keysOf, ren]) (by simp [keysOf, ren]) (by simp [keysOf, ren]))
      · rintro ⟨done, rest, v⟩ ⟨k1, k2, k3, k4, k5⟩
        simp only at k1 k2 k3 k4 k5
        simp only [go_sem, s_ladder_Accept_b0, ↓reduceIte, Nat.reduceEqDiff, Nat.reduceAdd, Nat.reduceLeDiff, reduceCtorEq, Nat.reduceLT, Int.reduceLT, Int.reduceLE, Int.reduceEq, Int.reduceToNat, Nat.reduceMul]
        refine W_split rfl (fun hlt2 => ?_) (fun hlt2 => ?_)
        · simp at hlt2
          cases rest with
          | nil => simp at k1; omega
          | cons r rest =>
            simp only [List.length_cons] at k1
            have hgr := k2 r (by simp)
            have hget := mid_get rgT done r rest
            have hgo := mid_at done r rest
            have d2 : (2 : Nat) ≤ 2 := Nat.le_refl _
            have ib : (done.length : Int) < (rs.length : Int) := by omega
            have ei : IntKind.i64.wrap ((done.length : Int) + 1) = (((done ++ [r]).length : Nat) : Int) := by rw [wrap_i64_of (by omega) (by omega)]; simp
            have ei2 : ∀ x : Ring, IntKind.i64.wrap ((done.length : Int) + 1) = (((done ++ [x]).length : Nat) : Int) := by intro x; rw [wrap_i64_of (by omega) (by omega)]; simp
            have kl : (done ++ [r]).length = done.length + 1 := by simp
            have bR := f_ladder_reaches r.1 r.2 t now hgr.1 ht htn
            have hnx : ∀ x, x :: rest = [x] ++ rest := fun _ => rfl
            simp only [go_sem, hget, rgT, ib, ↓reduceIte, Nat.reduceEqDiff, Nat.reduceAdd, Nat.reduceLeDiff, reduceCtorEq, Nat.reduceLT, Int.reduceLT, Int.reduceLE, Int.reduceEq, Int.reduceToNat, Nat.reduceMul]
            refine Cl_plain bR ?_
            have err : ((r.1, r.2) : Ring) = r := rfl
            cases hc : rchsB r t now
            · simp only [go_sem, err, hc, ei, ↓reduceIte, Nat.reduceEqDiff, Nat.reduceAdd, Nat.reduceLeDiff, reduceCtorEq, Nat.reduceLT, Int.reduceLT, Int.reduceLE, Int.reduceEq, Int.reduceToNat, Nat.reduceMul]
              rcases k5 with ⟨c1, r', l', c2, c3, c4⟩ | ⟨c1, d, p, c2, c3⟩
              · injection c2 with c2 c2'; subst c2; rw [hc] at c3; cases c3
              · have hst : stepR m f p r t now = r := by simp [stepR, hc]
                refine rd_of (done ++ [r], rest, v) (by simp) ⟨by simp; omega, by simpa using k2, k3, k4, Or.inr ⟨by simp; omega, done, r, rfl, ?_⟩⟩ ?_
                · rw [← c3]; simp [upM, hst]
                · rw [hnx r, ← List.append_assoc]
                  exact (subL [] [] (by simp [envS, go_sem, wkV, wkL, AV.ids, idsL, keysOf, ren, stoOf, slTrees, AV.asOwn, rowPart, AV.isNil] <;> assumption) (by simp [stoS, go_sem, wkV, wkL, wkO, AV.ids, Ob.ids, idsL, keysOf, ren, AV.one, stoOf, slTrees, AV.asOwn, rowPart, AV.isNil] <;> assumption) (by simp [keysOf, ren]) (by simp [stoOf, keysOf, ren]) (by simp [keysOf, ren]) (by simp [keysOf, ren]))
            · have hz0 : decide ((0 : Int) = 0) = true := rfl
              rcases k5 with ⟨c1, r', l', c2, c3, c4⟩ | ⟨c1, d, p, c2, c3⟩
              · injection c2 with c2 c2'
                subst c2 c2'
                have dgt : decide (pre.length < done.length) = false := decide_eq_false (by omega)
                obtain ⟨g1, g2⟩ := set_good hgr ht k3 k4
                have bS := f_ring_Set r.1 t v r.2 (by have := ring_bd hgr.1; have := ringB_sized hgr.1; omega)
                rw [g2] at bS
                have hset := mid_set rgT done r (setR r t v) rest
                simp only [go_sem, err, hc, dgt, ↓reduceIte, Nat.reduceEqDiff, Nat.reduceAdd, Nat.reduceLeDiff, reduceCtorEq, Nat.reduceLT, Int.reduceLT, Int.reduceLE, Int.reduceEq, Int.reduceToNat, Nat.reduceMul]
                simp only [go_sem, hget, rgT, ib, ↓reduceIte, Nat.reduceEqDiff, Nat.reduceAdd, Nat.reduceLeDiff, reduceCtorEq, Nat.reduceLT, Int.reduceLT, Int.reduceLE, Int.reduceEq, Int.reduceToNat, Nat.reduceMul]
                refine Cl_plain bS ?_
                have hrT : [T.v (.int .i64 r.1), T.sl 2 ((setM r.1 r.2 t v).1.map slT)] = rgT (setR r t v) := rfl
                simp only [go_sem, hz0, ib, hrT, hgo, rgT_len, rgT_drop, hset, ei2 (setR r t v), ↓reduceIte, Nat.reduceEqDiff, Nat.reduceAdd, Nat.reduceLeDiff, reduceCtorEq, Nat.reduceLT, Int.reduceLT, Int.reduceLE, Int.reduceEq, Int.reduceToNat, Nat.reduceMul]
                refine rd_of (done ++ [setR r t v], rest, v) (by simp) ⟨by simp; omega, ?_, k3, k4, Or.inr ⟨by simp; omega, done, setR r t v, rfl, ?_⟩⟩ ?_
                · intro x hx
                  simp at hx
                  rcases hx with hx | hx | hx
                  · exact k2 x (by simp [hx])
                  · rw [hx]; exact g1
                  · exact k2 x (by simp [hx])
                · rw [← c4]; simp
                · exact (subL [] [] (by simp [envS, go_sem, wkV, wkL, AV.ids, idsL, keysOf, ren, stoOf, slTrees, AV.asOwn, rowPart, AV.isNil] <;> assumption) (by simp [stoS, go_sem, wkV, wkL, wkO, AV.ids, Ob.ids, idsL, keysOf, ren, AV.one, stoOf, slTrees, AV.asOwn, rowPart, AV.isNil] <;> assumption) (by simp [keysOf, ren]) (by simp [stoOf, keysOf, ren]) (by simp [keysOf, ren]) (by simp [keysOf, ren]))
              · have dgt : decide (pre.length < done.length) = true := decide_eq_true c1
                have hpg := k2 p (by rw [c2]; simp)
                have hgp : ((done ++ r :: rest).map rgT)[done.length - 1]? = some (rgT p) := by rw [c2]; simp
                have e1 : IntKind.i64.wrap ((done.length : Int) - 1) = ((done.length - 1 : Nat) : Int) := by rw [wrap_i64_of (by omega) (by omega)]; omega
                have ib1 : ((done.length - 1 : Nat) : Int) < (rs.length : Int) := by omega
                obtain ⟨w1, w2, _⟩ := ring_bd hgr.1
                have ht' := timedB_iff.1 ht
                have hw0 : ¬ r.1 = 0 := by omega
                have q1 : t.tmod r.1 = t % r.1 := smod ht'.1
                have q2 := Int.emod_nonneg t hw0
                have q3 := emod_le_self (t := t) ht'.1 (show 0 < r.1 by omega)
                have q4 : IntKind.i64.wrap (t - t % r.1) = t - t % r.1 := wrap_i64_of (by omega) (by omega)
                have bC := f_ladder_coarser m f rs p (t - t % r.1) r.1 p1 hpg.1 hpg.2 (by omega) (by omega) w1 w2
                have rC : Rt (coarM m f p (t - t % r.1) r.1) := coar_rt hpg.2
                simp only [go_sem, err, hc, dgt, ↓reduceIte, Nat.reduceEqDiff, Nat.reduceAdd, Nat.reduceLeDiff, reduceCtorEq, Nat.reduceLT, Int.reduceLT, Int.reduceLE, Int.reduceEq, Int.reduceToNat, Nat.reduceMul]
                simp only [go_sem, hget, rgT, ib, e1, ib1, hgp, i64_rem hw0, q1, q4, ↓reduceIte, Nat.reduceEqDiff, Nat.reduceAdd, Nat.reduceLeDiff, reduceCtorEq, Nat.reduceLT, Int.reduceLT, Int.reduceLE, Int.reduceEq, Int.reduceToNat, Nat.reduceMul]
                refine Cl_plain bC ?_
                cases hcm : coarM m f p (t - t % r.1) r.1 with
                | none =>
                  have hst : stepR m f p r t now = r := by simp [stepR, hc, hcm]
                  simp only [go_sem, NO_none, ↓reduceIte, Nat.reduceEqDiff, Nat.reduceAdd, Nat.reduceLeDiff, reduceCtorEq, Nat.reduceLT, Int.reduceLT, Int.reduceLE, Int.reduceEq, Int.reduceToNat, Nat.reduceMul]
                  ((try (with_reducible refine R_fin (by repeat' (first | exact okp0 | refine okp rfl rfl rfl ?_)) ?_)); (try simp only [go_sem, ei, ↓reduceIte, Nat.reduceEqDiff, Nat.reduceAdd, Nat.reduceLeDiff, reduceCtorEq, Nat.reduceLT, Int.reduceLT, Int.reduceLE, Int.reduceEq, Int.reduceToNat, Nat.reduceMul]))
                  refine rd_of (done ++ [r], rest, v) (by simp) ⟨by simp; omega, by simpa using k2, k3, k4, Or.inr ⟨by simp; omega, done, r, rfl, ?_⟩⟩ ?_
                  · rw [← c3]; simp [upM, hst]
                  · rw [hnx r, ← List.append_assoc]
                    exact (subL [] [] (by simp [envS, go_sem, wkV, wkL, AV.ids, idsL, keysOf, ren, stoOf, slTrees, AV.asOwn, rowPart, AV.isNil] <;> assumption) (by simp [stoS, go_sem, wkV, wkL, wkO, AV.ids, Ob.ids, idsL, keysOf, ren, AV.one, stoOf, slTrees, AV.asOwn, rowPart, AV.isNil] <;> assumption) (by simp [keysOf, ren]) (by simp [stoOf, keysOf, ren]) (by simp [keysOf, ren]) (by simp [keysOf, ren]))
                | some z =>
                  have hst : stepR m f p r t now = setR r t z := by simp [stepR, hc, hcm]
                  have hzr := rC z hcm
                  obtain ⟨g1, g2⟩ := set_good hgr ht hzr.1 hzr.2
                  have bS := f_ring_Set r.1 t z r.2 (by have := ringB_sized hgr.1; omega)
                  rw [g2] at bS
                  have hset := mid_set rgT done r (setR r t z) rest
                  have hrT : [T.v (.int .i64 r.1), T.sl 2 ((setM r.1 r.2 t z).1.map slT)] = rgT (setR r t z) := rfl
                  simp only [go_sem, NO_some, ↓reduceIte, Nat.reduceEqDiff, Nat.reduceAdd, Nat.reduceLeDiff, reduceCtorEq, Nat.reduceLT, Int.reduceLT, Int.reduceLE, Int.reduceEq, Int.reduceToNat, Nat.reduceMul]
                  ((try (with_reducible refine R_fin (by repeat' (first | exact okp0 | refine okp rfl rfl rfl ?_)) ?_)); (try simp only [go_sem, hgo, hget, rgT, ib, ↓reduceIte, Nat.reduceEqDiff, Nat.reduceAdd, Nat.reduceLeDiff, reduceCtorEq, Nat.reduceLT, Int.reduceLT, Int.reduceLE, Int.reduceEq, Int.reduceToNat, Nat.reduceMul]))
                  refine Cl_plain bS ?_
                  simp only [go_sem, hz0, ib, hrT, hgo, rgT_len, rgT_drop, hset, ei2 (setR r t z), ↓reduceIte, Nat.reduceEqDiff, Nat.reduceAdd, Nat.reduceLeDiff, reduceCtorEq, Nat.reduceLT, Int.reduceLT, Int.reduceLE, Int.reduceEq, Int.reduceToNat, Nat.reduceMul]
                  refine rd_of (done ++ [setR r t z], rest, z) (by simp) ⟨by simp; omega, ?_, hzr.1, hzr.2, Or.inr ⟨by simp; omega, done, setR r t z, rfl, ?_⟩⟩ ?_
                  · intro x hx
                    simp at hx
                    rcases hx with hx | hx | hx
                    · exact k2 x (by simp [hx])
                    · rw [hx]; exact g1
                    · exact k2 x (by simp [hx])
                  · rw [← c3]; simp [upM, hst]
                  · exact (subL [] [] (by simp [envS, go_sem, wkV, wkL, AV.ids, idsL, keysOf, ren, stoOf, slTrees, AV.asOwn, rowPart, AV.isNil] <;> assumption) (by simp [stoS, go_sem, wkV, wkL, wkO, AV.ids, Ob.ids, idsL, keysOf, ren, AV.one, stoOf, slTrees, AV.asOwn, rowPart, AV.isNil] <;> assumption) (by simp [keysOf, ren]) (by simp [stoOf, keysOf, ren]) (by simp [keysOf, ren]) (by simp [keysOf, ren]))
        · have e : rest = [] := by
            cases rest with
            | nil => rfl
            | cons r rest => simp at hlt2 k1; omega
          subst e
          rcases k5 with ⟨c1, r', l', c2, c3, c4⟩ | ⟨c1, d, p, c2, c3⟩
          · cases c2
          · simp only [upM, List.append_nil] at c3
            subst c3
            have hln : done.length = rs.length := by simpa using k1
            rw [List.append_nil]
            simp only [go_sem, s_ladder_Accept_t1, ↓reduceIte, Nat.reduceEqDiff, Nat.reduceAdd, Nat.reduceLeDiff, reduceCtorEq, Nat.reduceLT, Int.reduceLT, Int.reduceLE, Int.reduceEq, Int.reduceToNat, Nat.reduceMul]
            refine wends2 [] [999] (by first | exact Or.inl rfl | exact Or.inr rfl) ?_ (by simp [AV.ids, idsL]) (by simp [stoS]) (by simp [keysOf]) (by simp [stoOf, keysOf] <;> assumption) (by simp [keysOf]) (by simp [keysOf])
            simp only [go_sem, r_ladder_Accept, exists_eq_left', Option.some.injEq, ↓reduceIte, Nat.reduceEqDiff, Nat.reduceAdd, Nat.reduceLeDiff, reduceCtorEq, Nat.reduceLT, Int.reduceLT, Int.reduceLE, Int.reduceEq, Int.reduceToNat, Nat.reduceMul]
            simp [wkV, wkL, slTrees, AV.asOwn, rowPart, stoOf, AV.isNil]
            exact ⟨by omega, by rw [List.take_of_length_le (by simp; omega)]⟩

end Go.Proofs.YtmjlldlaigoflaaGreat
