/- The contract of the plain ladder's fetching. No statement of the seat is proved here. -/
import Derived.Test.YtmjlldlaigoflaaLdFetch2
set_option linter.unusedSimpArgs false
set_option linter.unusedVariables false
namespace Go.Proofs.Ytmjlldlaigoflaa
open Go Go.Sx

def fmul (x w : Int) : Int := abvM x w * w

set_option maxHeartbeats 4000000 in
theorem f_ref14_Fetch (m f : Int) (rs : List Ring) (fr un now : Int) (hn : rs.length ≤ maxLen) :
    Meets Try.prog E0 n_ref14_Fetch [ladV m f rs, I fr, I un, I now] [] (.tp [serV (bs []) (fetM m f rs fr un now).1.1 (fetM m f rs fr un now).1.2.1 (fetM m f rs fr un now).1.2.2, I (fetM m f rs fr un now).2]) [] := by
  refine m_ref14_Fetch (by simp) (shut0 rfl) (shut0 rfl) (by simp) (by simp [keysOf]) ?_
  have b1 := f_ref13_Timed fr
  have b2 := f_ref13_Timed un
  have b3 := f_ref13_Timed now
  have b4 := f_ref14_Right m f rs hn
  have b5 := f_ref14_Pick m f rs fr now hn
  by_cases hok : (timedB fr && timedB un && timedB now && decide (fr < un) && ladB m f rs) = true
  case neg =>
    have e : fetM m f rs fr un now = ((0, 0, []), 1) := if_neg hok
    rw [e]
    cases h5 : ladB m f rs <;> rw [h5] at b4 hok
    case false =>
      clear hok e
      repeat' (first | (with_reducible refine Cl_plain (b1) ?_) | (with_reducible refine Cl_plain (b2) ?_) | (with_reducible refine Cl_plain (b3) ?_) | (with_reducible refine Cl_plain (b4) ?_) | (simp only [go_sem, s_ref14_Fetch, ↓reduceIte, Nat.reduceEqDiff, Nat.reduceAdd, Nat.reduceLeDiff, reduceCtorEq, Nat.reduceLT, Int.reduceLT, Int.reduceLE, Int.reduceEq, Int.reduceToNat, Nat.reduceMul, *]) | (simp (disch := omega) only [s_ref14_Fetch, wrap_i64_of, i64_quo, i64_rem, sdiv, smod]) | ((with_reducible refine W_split (by with_unfolding_all exact rfl) (fun hsp => ?_) (fun hsp => ?_)) <;> (try simp only [Bool.not_true, Bool.not_false, decide_eq_true_eq, decide_eq_false_iff_not, Bool.not_eq_true', Bool.not_eq_false', not_false_eq_true] at hsp)) | ((with_reducible refine R_split (by with_unfolding_all exact rfl) (fun hsp => ?_) (fun hsp => ?_)) <;> (try simp only [Bool.not_true, Bool.not_false, decide_eq_true_eq, decide_eq_false_iff_not, Bool.not_eq_true', Bool.not_eq_false', not_false_eq_true] at hsp)) | (with_reducible refine R_fin (by repeat' (first | exact okp0 | refine okp rfl rfl rfl ?_)) ?_))
      refine wends2 [] [] (by first | exact Or.inl rfl | exact Or.inr rfl) ?_ (by simp [AV.ids, idsL]) (by simp [stoS]) (by simp [keysOf]) (by simp [stoOf, keysOf] <;> assumption) (by simp [keysOf]) (by simp [keysOf])
      simp only [go_sem, r_ref14_Fetch, exists_eq_left', Option.some.injEq, ↓reduceIte, Nat.reduceEqDiff, Nat.reduceAdd, Nat.reduceLeDiff, reduceCtorEq, Nat.reduceLT, Int.reduceLT, Int.reduceLE, Int.reduceEq, Int.reduceToNat, Nat.reduceMul]
      simp [wkV, wkL, slTrees, AV.asOwn, rowPart, stoOf, AV.isNil]
    cases h1 : timedB fr <;> rw [h1] at b1 hok
    case false =>
      clear hok e
      repeat' (first | (with_reducible refine Cl_plain (b1) ?_) | (with_reducible refine Cl_plain (b2) ?_) | (with_reducible refine Cl_plain (b3) ?_) | (with_reducible refine Cl_plain (b4) ?_) | (simp only [go_sem, s_ref14_Fetch, ↓reduceIte, Nat.reduceEqDiff, Nat.reduceAdd, Nat.reduceLeDiff, reduceCtorEq, Nat.reduceLT, Int.reduceLT, Int.reduceLE, Int.reduceEq, Int.reduceToNat, Nat.reduceMul, *]) | (simp (disch := omega) only [s_ref14_Fetch, wrap_i64_of, i64_quo, i64_rem, sdiv, smod]) | ((with_reducible refine W_split (by with_unfolding_all exact rfl) (fun hsp => ?_) (fun hsp => ?_)) <;> (try simp only [Bool.not_true, Bool.not_false, decide_eq_true_eq, decide_eq_false_iff_not, Bool.not_eq_true', Bool.not_eq_false', not_false_eq_true] at hsp)) | ((with_reducible refine R_split (by with_unfolding_all exact rfl) (fun hsp => ?_) (fun hsp => ?_)) <;> (try simp only [Bool.not_true, Bool.not_false, decide_eq_true_eq, decide_eq_false_iff_not, Bool.not_eq_true', Bool.not_eq_false', not_false_eq_true] at hsp)) | (with_reducible refine R_fin (by repeat' (first | exact okp0 | refine okp rfl rfl rfl ?_)) ?_))
      refine wends2 [] [] (by first | exact Or.inl rfl | exact Or.inr rfl) ?_ (by simp [AV.ids, idsL]) (by simp [stoS]) (by simp [keysOf]) (by simp [stoOf, keysOf] <;> assumption) (by simp [keysOf]) (by simp [keysOf])
      simp only [go_sem, r_ref14_Fetch, exists_eq_left', Option.some.injEq, ↓reduceIte, Nat.reduceEqDiff, Nat.reduceAdd, Nat.reduceLeDiff, reduceCtorEq, Nat.reduceLT, Int.reduceLT, Int.reduceLE, Int.reduceEq, Int.reduceToNat, Nat.reduceMul]
      simp [wkV, wkL, slTrees, AV.asOwn, rowPart, stoOf, AV.isNil]
    cases h2 : timedB un <;> rw [h2] at b2 hok
    case false =>
      clear hok e
      repeat' (first | (with_reducible refine Cl_plain (b1) ?_) | (with_reducible refine Cl_plain (b2) ?_) | (with_reducible refine Cl_plain (b3) ?_) | (with_reducible refine Cl_plain (b4) ?_) | (simp only [go_sem, s_ref14_Fetch, ↓reduceIte, Nat.reduceEqDiff, Nat.reduceAdd, Nat.reduceLeDiff, reduceCtorEq, Nat.reduceLT, Int.reduceLT, Int.reduceLE, Int.reduceEq, Int.reduceToNat, Nat.reduceMul, *]) | (simp (disch := omega) only [s_ref14_Fetch, wrap_i64_of, i64_quo, i64_rem, sdiv, smod]) | ((with_reducible refine W_split (by with_unfolding_all exact rfl) (fun hsp => ?_) (fun hsp => ?_)) <;> (try simp only [Bool.not_true, Bool.not_false, decide_eq_true_eq, decide_eq_false_iff_not, Bool.not_eq_true', Bool.not_eq_false', not_false_eq_true] at hsp)) | ((with_reducible refine R_split (by with_unfolding_all exact rfl) (fun hsp => ?_) (fun hsp => ?_)) <;> (try simp only [Bool.not_true, Bool.not_false, decide_eq_true_eq, decide_eq_false_iff_not, Bool.not_eq_true', Bool.not_eq_false', not_false_eq_true] at hsp)) | (with_reducible refine R_fin (by repeat' (first | exact okp0 | refine okp rfl rfl rfl ?_)) ?_))
      refine wends2 [] [] (by first | exact Or.inl rfl | exact Or.inr rfl) ?_ (by simp [AV.ids, idsL]) (by simp [stoS]) (by simp [keysOf]) (by simp [stoOf, keysOf] <;> assumption) (by simp [keysOf]) (by simp [keysOf])
      simp only [go_sem, r_ref14_Fetch, exists_eq_left', Option.some.injEq, ↓reduceIte, Nat.reduceEqDiff, Nat.reduceAdd, Nat.reduceLeDiff, reduceCtorEq, Nat.reduceLT, Int.reduceLT, Int.reduceLE, Int.reduceEq, Int.reduceToNat, Nat.reduceMul]
      simp [wkV, wkL, slTrees, AV.asOwn, rowPart, stoOf, AV.isNil]
    cases h3 : timedB now <;> rw [h3] at b3 hok
    case false =>
      clear hok e
      repeat' (first | (with_reducible refine Cl_plain (b1) ?_) | (with_reducible refine Cl_plain (b2) ?_) | (with_reducible refine Cl_plain (b3) ?_) | (with_reducible refine Cl_plain (b4) ?_) | (simp only [go_sem, s_ref14_Fetch, ↓reduceIte, Nat.reduceEqDiff, Nat.reduceAdd, Nat.reduceLeDiff, reduceCtorEq, Nat.reduceLT, Int.reduceLT, Int.reduceLE, Int.reduceEq, Int.reduceToNat, Nat.reduceMul, *]) | (simp (disch := omega) only [s_ref14_Fetch, wrap_i64_of, i64_quo, i64_rem, sdiv, smod]) | ((with_reducible refine W_split (by with_unfolding_all exact rfl) (fun hsp => ?_) (fun hsp => ?_)) <;> (try simp only [Bool.not_true, Bool.not_false, decide_eq_true_eq, decide_eq_false_iff_not, Bool.not_eq_true', Bool.not_eq_false', not_false_eq_true] at hsp)) | ((with_reducible refine R_split (by with_unfolding_all exact rfl) (fun hsp => ?_) (fun hsp => ?_)) <;> (try simp only [Bool.not_true, Bool.not_false, decide_eq_true_eq, decide_eq_false_iff_not, Bool.not_eq_true', Bool.not_eq_false', not_false_eq_true] at hsp)) | (with_reducible refine R_fin (by repeat' (first | exact okp0 | refine okp rfl rfl rfl ?_)) ?_))
      refine wends2 [] [] (by first | exact Or.inl rfl | exact Or.inr rfl) ?_ (by simp [AV.ids, idsL]) (by simp [stoS]) (by simp [keysOf]) (by simp [stoOf, keysOf] <;> assumption) (by simp [keysOf]) (by simp [keysOf])
      simp only [go_sem, r_ref14_Fetch, exists_eq_left', Option.some.injEq, ↓reduceIte, Nat.reduceEqDiff, Nat.reduceAdd, Nat.reduceLeDiff, reduceCtorEq, Nat.reduceLT, Int.reduceLT, Int.reduceLE, Int.reduceEq, Int.reduceToNat, Nat.reduceMul]
      simp [wkV, wkL, slTrees, AV.asOwn, rowPart, stoOf, AV.isNil]
    cases h4 : decide (un ≤ fr)
    case true =>
      clear hok e
      repeat' (first | (with_reducible refine Cl_plain (b1) ?_) | (with_reducible refine Cl_plain (b2) ?_) | (with_reducible refine Cl_plain (b3) ?_) | (with_reducible refine Cl_plain (b4) ?_) | (simp only [go_sem, s_ref14_Fetch, ↓reduceIte, Nat.reduceEqDiff, Nat.reduceAdd, Nat.reduceLeDiff, reduceCtorEq, Nat.reduceLT, Int.reduceLT, Int.reduceLE, Int.reduceEq, Int.reduceToNat, Nat.reduceMul, *]) | (simp (disch := omega) only [s_ref14_Fetch, wrap_i64_of, i64_quo, i64_rem, sdiv, smod]) | ((with_reducible refine W_split (by with_unfolding_all exact rfl) (fun hsp => ?_) (fun hsp => ?_)) <;> (try simp only [Bool.not_true, Bool.not_false, decide_eq_true_eq, decide_eq_false_iff_not, Bool.not_eq_true', Bool.not_eq_false', not_false_eq_true] at hsp)) | ((with_reducible refine R_split (by with_unfolding_all exact rfl) (fun hsp => ?_) (fun hsp => ?_)) <;> (try simp only [Bool.not_true, Bool.not_false, decide_eq_true_eq, decide_eq_false_iff_not, Bool.not_eq_true', Bool.not_eq_false', not_false_eq_true] at hsp)) | (with_reducible refine R_fin (by repeat' (first | exact okp0 | refine okp rfl rfl rfl ?_)) ?_))
      refine wends2 [] [] (by first | exact Or.inl rfl | exact Or.inr rfl) ?_ (by simp [AV.ids, idsL]) (by simp [stoS]) (by simp [keysOf]) (by simp [stoOf, keysOf] <;> assumption) (by simp [keysOf]) (by simp [keysOf])
      simp only [go_sem, r_ref14_Fetch, exists_eq_left', Option.some.injEq, ↓reduceIte, Nat.reduceEqDiff, Nat.reduceAdd, Nat.reduceLeDiff, reduceCtorEq, Nat.reduceLT, Int.reduceLT, Int.reduceLE, Int.reduceEq, Int.reduceToNat, Nat.reduceMul]
      simp [wkV, wkL, slTrees, AV.asOwn, rowPart, stoOf, AV.isNil]
    have h4' : decide (fr < un) = true := decide_eq_true (by have := of_decide_eq_false h4; omega)
    exact absurd (by simp [h4']) hok
  have e : fetM m f rs fr un now = (match rs[(pickL rs fr now).toNat]? with | some r => fetR r fr un now | none => (0, 0, []), 0) := if_pos hok
  simp only [Bool.and_eq_true, decide_eq_true_eq] at hok
  obtain ⟨⟨⟨⟨h1, h2⟩, h3⟩, h4⟩, h5⟩ := hok
  obtain ⟨p1, p2, p3, p4, p5⟩ := lad_parts h5
  have epa : pickA m f rs fr now = pickL rs fr now := if_pos (by simp [h1, h3, h5])
  rw [h1] at b1
  rw [h2] at b2
  rw [h3] at b3
  rw [h5] at b4
  rw [epa] at b5
  obtain ⟨k, hk, hkl⟩ := pick_in p4 fr now
  obtain ⟨r, hr⟩ := get_of_lt hkl
  have hgr : ringB r.1 r.2 = true := List.all_eq_true.1 p2 r (List.mem_of_getElem? hr)
  rw [hk, Int.toNat_natCast, hr] at e
  rw [hk] at b5
  rw [e]
  clear e
  simp only
  have t1 := timedB_iff.1 h1
  have t2 := timedB_iff.1 h2
  have t3 := timedB_iff.1 h3
  obtain ⟨w1, w2, w3, w4, w5⟩ := ring_bd hgr
  have hsz := ringB_sized hgr
  have hw0 : ¬ r.1 = 0 := by omega
  have d0 : decide (un ≤ fr) = false := decide_eq_false (by omega)
  have c1 := ceil_bd w1 t1.1
  obtain ⟨nb, nf⟩ := num_bd (un := un) hgr t1.1 t3.1
  have hC := f_ref14_reach r.1 r.2 hgr
  have hab := abv_bd (t := now - r.1 * (r.2.length : Int)) (w := r.1) (by omega) (by omega)
  have c2 : 0 ≤ ceilM r.1 fr * r.1 := Int.mul_nonneg c1.1 (by omega)
  have ef1 : IntKind.i64.wrap (fr + r.1) = fr + r.1 := wrap_i64_of (by omega) (by omega)
  have ef2 : IntKind.i64.wrap (now - r.1 * (r.2.length : Int)) = now - r.1 * (r.2.length : Int) := wrap_i64_of (by omega) (by omega)
  have ef3 : IntKind.i64.wrap (fr + r.1 - 1) = fr + r.1 - 1 := wrap_i64_of (by omega) (by omega)
  have eq1 : (fr + r.1 - 1).tdiv r.1 = ceilM r.1 fr := sdiv (by omega)
  have ew1 : IntKind.i64.wrap (ceilM r.1 fr) = ceilM r.1 fr := wrap_i64_of (by omega) (by omega)
  have ew2 : IntKind.i64.wrap (ceilM r.1 fr * r.1) = ceilM r.1 fr * r.1 := wrap_i64_of (by omega) (by omega)
  have em0 : max (ceilM r.1 fr * r.1) 0 = ceilM r.1 fr * r.1 := Int.max_eq_left c2
  have ib : (k : Int) < (rs.length : Int) := by omega
  have emx : max (ceilM r.1 fr * r.1) (abvM (now - r.1 * (r.2.length : Int)) r.1 * r.1) = fstM r fr now * r.1 := fst_mul r fr now (by omega)
  have hF : fstM r fr now * r.1 ≤ 1099511627776 + 86400 := by rw [← emx]; rcases hab.2.2 with h | h <;> (try rw [h]) <;> omega
  have hF0 : 0 ≤ fstM r fr now * r.1 := by rw [← emx]; omega
  have hN : numM r fr un now = (ceilM r.1 (min un (now + 1)) - fstM r fr now).toNat := rfl
  simp only [go_sem, s_ref14_Fetch, ↓reduceIte, Nat.reduceEqDiff, Nat.reduceAdd, Nat.reduceLeDiff, reduceCtorEq, Nat.reduceLT, Int.reduceLT, Int.reduceLE, Int.reduceEq, Int.reduceToNat, Nat.reduceMul]
  refine Cl_plain b4 ?_
  simp only [go_sem, ↓reduceIte, Nat.reduceEqDiff, Nat.reduceAdd, Nat.reduceLeDiff, reduceCtorEq, Nat.reduceLT, Int.reduceLT, Int.reduceLE, Int.reduceEq, Int.reduceToNat, Nat.reduceMul]
  refine Cl_plain b1 ?_
  simp only [go_sem, ↓reduceIte, Nat.reduceEqDiff, Nat.reduceAdd, Nat.reduceLeDiff, reduceCtorEq, Nat.reduceLT, Int.reduceLT, Int.reduceLE, Int.reduceEq, Int.reduceToNat, Nat.reduceMul]
  refine Cl_plain b2 ?_
  simp only [go_sem, ↓reduceIte, Nat.reduceEqDiff, Nat.reduceAdd, Nat.reduceLeDiff, reduceCtorEq, Nat.reduceLT, Int.reduceLT, Int.reduceLE, Int.reduceEq, Int.reduceToNat, Nat.reduceMul]
  refine Cl_plain b3 ?_
  simp only [go_sem, d0, ↓reduceIte, Nat.reduceEqDiff, Nat.reduceAdd, Nat.reduceLeDiff, reduceCtorEq, Nat.reduceLT, Int.reduceLT, Int.reduceLE, Int.reduceEq, Int.reduceToNat, Nat.reduceMul]
  refine Cl_plain b5 ?_
  simp only [go_sem, hr, rgT, ib, ↓reduceIte, Nat.reduceEqDiff, Nat.reduceAdd, Nat.reduceLeDiff, reduceCtorEq, Nat.reduceLT, Int.reduceLT, Int.reduceLE, Int.reduceEq, Int.reduceToNat, Nat.reduceMul]
  ((try (with_reducible refine R_fin (by repeat' (first | exact okp0 | refine okp rfl rfl rfl ?_)) ?_)); (try simp only [go_sem, hr, rgT, ib, ef1, ef3, eq1, i64_quo hw0, ew1, ew2, em0, ↓reduceIte, Nat.reduceEqDiff, Nat.reduceAdd, Nat.reduceLeDiff, reduceCtorEq, Nat.reduceLT, Int.reduceLT, Int.reduceLE, Int.reduceEq, Int.reduceToNat, Nat.reduceMul]))
  refine Cl_plain hC ?_
  simp only [go_sem, ef2, ↓reduceIte, Nat.reduceEqDiff, Nat.reduceAdd, Nat.reduceLeDiff, reduceCtorEq, Nat.reduceLT, Int.reduceLT, Int.reduceLE, Int.reduceEq, Int.reduceToNat, Nat.reduceMul]
  refine W_split rfl (fun hq => ?br1) (fun hq => ?br2)
  case' br1 =>
    have hq := of_decide_eq_true hq
    have x1 : (now - r.1 * (r.2.length : Int)).tdiv r.1 = (now - r.1 * (r.2.length : Int)) / r.1 := sdiv hq
    have x2 : abvM (now - r.1 * (r.2.length : Int)) r.1 = (now - r.1 * (r.2.length : Int)) / r.1 + 1 := if_neg (by omega)
    have x3 : 0 ≤ (now - r.1 * (r.2.length : Int)) / r.1 := Int.ediv_nonneg (by omega) (by omega)
    have x4 : (now - r.1 * (r.2.length : Int)) / r.1 * r.1 ≤ now - r.1 * (r.2.length : Int) := Int.ediv_mul_le _ hw0
    have x5 : (now - r.1 * (r.2.length : Int)) / r.1 ≤ now - r.1 * (r.2.length : Int) := Int.ediv_le_self _ (by omega)
    have x0 : 0 ≤ (now - r.1 * (r.2.length : Int)) / r.1 * r.1 := Int.mul_nonneg x3 (by omega)
    have x6 : IntKind.i64.wrap ((now - r.1 * (r.2.length : Int)) / r.1) = (now - r.1 * (r.2.length : Int)) / r.1 := wrap_i64_of (by omega) (by omega)
    have x7 : IntKind.i64.wrap ((now - r.1 * (r.2.length : Int)) / r.1 * r.1) = (now - r.1 * (r.2.length : Int)) / r.1 * r.1 := wrap_i64_of (by omega) (by omega)
    have x8 : IntKind.i64.wrap ((now - r.1 * (r.2.length : Int)) / r.1 * r.1 + r.1) = fmul (now - r.1 * (r.2.length : Int)) r.1 := by
      rw [wrap_i64_of (by omega) (by omega)]; unfold fmul; rw [x2, Int.add_mul, Int.one_mul]
    have x9 : max (ceilM r.1 fr * r.1) (fmul (now - r.1 * (r.2.length : Int)) r.1) = fstM r fr now * r.1 := emx
    simp only [go_sem, ↓reduceIte, Nat.reduceEqDiff, Nat.reduceAdd, Nat.reduceLeDiff, reduceCtorEq, Nat.reduceLT, Int.reduceLT, Int.reduceLE, Int.reduceEq, Int.reduceToNat, Nat.reduceMul]
    ((try (with_reducible refine R_fin (by repeat' (first | exact okp0 | refine okp rfl rfl rfl ?_)) ?_)); (try simp only [go_sem, ↓reduceIte, Nat.reduceEqDiff, Nat.reduceAdd, Nat.reduceLeDiff, reduceCtorEq, Nat.reduceLT, Int.reduceLT, Int.reduceLE, Int.reduceEq, Int.reduceToNat, Nat.reduceMul]))
    refine Cl_plain hC ?_
    simp only [go_sem, ef2, i64_quo hw0, x1, x6, x7, x8, x9, ↓reduceIte, Nat.reduceEqDiff, Nat.reduceAdd, Nat.reduceLeDiff, reduceCtorEq, Nat.reduceLT, Int.reduceLT, Int.reduceLE, Int.reduceEq, Int.reduceToNat, Nat.reduceMul]
    ((try (with_reducible refine R_fin (by repeat' (first | exact okp0 | refine okp rfl rfl rfl ?_)) ?_)); (try simp only [go_sem, x9, ↓reduceIte, Nat.reduceEqDiff, Nat.reduceAdd, Nat.reduceLeDiff, reduceCtorEq, Nat.reduceLT, Int.reduceLT, Int.reduceLE, Int.reduceEq, Int.reduceToNat, Nat.reduceMul]))
  case' br2 =>
    have hq := of_decide_eq_false hq
    have x2 : abvM (now - r.1 * (r.2.length : Int)) r.1 = 0 := if_pos (by omega)
    have x9 : ceilM r.1 fr * r.1 = fstM r fr now * r.1 := by rw [← emx, x2, Int.zero_mul, em0]
    simp only [go_sem, ↓reduceIte, Nat.reduceEqDiff, Nat.reduceAdd, Nat.reduceLeDiff, reduceCtorEq, Nat.reduceLT, Int.reduceLT, Int.reduceLE, Int.reduceEq, Int.reduceToNat, Nat.reduceMul]
  all_goals
    have hc9 : numM r fr un now = 0 → (if numM r fr un now = 0 then ceilM r.1 fr * r.1 else fstM r fr now * r.1) = ceilM r.1 fr * r.1 := fun h => if_pos h
    unfold fetR
    generalize fstM r fr now = F at *
    generalize numM r fr un now = N at *
    refine W_loop (fun i : Nat => N - i) (fun i => i ≤ N)
      (fun i => [(2, I un), (3, I now), (8, .ptr 101 0), (9, I 0), (10, .ptr 137 0), (12, .ptr 155 0), (14, I ((F + (i : Int)) * r.1))])
      (fun i => [(101, .box [.t (.v (.string (bs []))), I 0, I 0, .t (.v (.slice none 0 0))]), (137, .box [I r.1, slL r.2]), (155, .box [.t (.v (.string (bs []))), I (if i = 0 then ceilM r.1 fr * r.1 else F * r.1), I r.1, .own 999 2 0 i (decide (0 < i))]), (999, .row 2 (decide (0 < i)) ((valL r F i).map numT))])
      0 (Nat.zero_le _) ?_ ?_
    · rw [show valL r F 0 = [] from rfl, show F + ((0 : Nat) : Int) = F from Int.add_zero F, ← x9]
      exact (subL [(999, 888)] [] (by simp [envS, go_sem, wkV, wkL, AV.ids, idsL, keysOf, ren, stoOf, slTrees, AV.asOwn, rowPart, AV.isNil, valL_len] <;> assumption) (by simp [stoS, go_sem, wkV, wkL, wkO, AV.ids, Ob.ids, idsL, keysOf, ren, AV.one, stoOf, slTrees, AV.asOwn, rowPart, AV.isNil, valL_len] <;> assumption) (by simp [keysOf, ren]) (by simp [stoOf, keysOf, ren]) (by simp [keysOf, ren]) (by simp [keysOf, ren]))
    intro i hi
    have hlt := ceil_lt (w := r.1) (b := min un (now + 1)) (k := F + (i : Int)) (by omega)
    have hd : (decide ((F + (i : Int)) * r.1 < un) && decide ((F + (i : Int)) * r.1 ≤ now)) = decide (i < N) := by
      rw [← Bool.decide_and, decide_eq_decide, show ((F + (i : Int)) * r.1 < un ∧ (F + (i : Int)) * r.1 ≤ now) ↔ (F + (i : Int)) * r.1 < min un (now + 1) by omega, hlt]; omega
    cases hd1 : decide ((F + (i : Int)) * r.1 < un)
    · rw [hd1, Bool.false_and] at hd
      have hd := of_decide_eq_false hd.symm
      have e : i = N := by omega
      subst e
      simp only [go_sem, hd1, ↓reduceIte, Nat.reduceEqDiff, Nat.reduceAdd, Nat.reduceLeDiff, reduceCtorEq, Nat.reduceLT, Int.reduceLT, Int.reduceLE, Int.reduceEq, Int.reduceToNat, Nat.reduceMul]
      by_cases h0 : i = 0
      · subst h0
        simp only [go_sem, ↓reduceIte, Nat.reduceEqDiff, Nat.reduceAdd, Nat.reduceLeDiff, reduceCtorEq, Nat.reduceLT, Int.reduceLT, Int.reduceLE, Int.reduceEq, Int.reduceToNat, Nat.reduceMul]
        refine wends2 [] [] (by first | exact Or.inl rfl | exact Or.inr rfl) ?_ (by simp [AV.ids, idsL]) (by simp [stoS]) (by simp [keysOf]) (by simp [stoOf, keysOf] <;> assumption) (by simp [keysOf]) (by simp [keysOf])
        simp only [go_sem, r_ref14_Fetch, exists_eq_left', Option.some.injEq, ↓reduceIte, Nat.reduceEqDiff, Nat.reduceAdd, Nat.reduceLeDiff, reduceCtorEq, Nat.reduceLT, Int.reduceLT, Int.reduceLE, Int.reduceEq, Int.reduceToNat, Nat.reduceMul]
        simp [wkV, wkL, slTrees, AV.asOwn, rowPart, stoOf, AV.isNil, valL]
      · have h00 : 0 < i := by omega
        refine wends2 [] [999] (by first | exact Or.inl rfl | exact Or.inr rfl) ?_ (by simp [AV.ids, idsL]) (by simp [stoS]) (by simp [keysOf]) (by simp [stoOf, keysOf] <;> assumption) (by simp [keysOf]) (by simp [keysOf])
        simp only [go_sem, r_ref14_Fetch, exists_eq_left', Option.some.injEq, ↓reduceIte, Nat.reduceEqDiff, Nat.reduceAdd, Nat.reduceLeDiff, reduceCtorEq, Nat.reduceLT, Int.reduceLT, Int.reduceLE, Int.reduceEq, Int.reduceToNat, Nat.reduceMul]
        simp [wkV, wkL, slTrees, AV.asOwn, rowPart, stoOf, AV.isNil, h0, h00, valL_len, List.take_of_length_le]
    rw [hd1, Bool.true_and] at hd
    cases hd2 : decide (i < N)
    · rw [hd2] at hd
      have hd2 := of_decide_eq_false hd2
      have e : i = N := by omega
      subst e
      simp only [go_sem, hd1, hd, ↓reduceIte, Nat.reduceEqDiff, Nat.reduceAdd, Nat.reduceLeDiff, reduceCtorEq, Nat.reduceLT, Int.reduceLT, Int.reduceLE, Int.reduceEq, Int.reduceToNat, Nat.reduceMul]
      by_cases h0 : i = 0
      · subst h0
        simp only [go_sem, ↓reduceIte, Nat.reduceEqDiff, Nat.reduceAdd, Nat.reduceLeDiff, reduceCtorEq, Nat.reduceLT, Int.reduceLT, Int.reduceLE, Int.reduceEq, Int.reduceToNat, Nat.reduceMul]
        refine wends2 [] [] (by first | exact Or.inl rfl | exact Or.inr rfl) ?_ (by simp [AV.ids, idsL]) (by simp [stoS]) (by simp [keysOf]) (by simp [stoOf, keysOf] <;> assumption) (by simp [keysOf]) (by simp [keysOf])
        simp only [go_sem, r_ref14_Fetch, exists_eq_left', Option.some.injEq, ↓reduceIte, Nat.reduceEqDiff, Nat.reduceAdd, Nat.reduceLeDiff, reduceCtorEq, Nat.reduceLT, Int.reduceLT, Int.reduceLE, Int.reduceEq, Int.reduceToNat, Nat.reduceMul]
        simp [wkV, wkL, slTrees, AV.asOwn, rowPart, stoOf, AV.isNil, valL]
      · have h00 : 0 < i := by omega
        refine wends2 [] [999] (by first | exact Or.inl rfl | exact Or.inr rfl) ?_ (by simp [AV.ids, idsL]) (by simp [stoS]) (by simp [keysOf]) (by simp [stoOf, keysOf] <;> assumption) (by simp [keysOf]) (by simp [keysOf])
        simp only [go_sem, r_ref14_Fetch, exists_eq_left', Option.some.injEq, ↓reduceIte, Nat.reduceEqDiff, Nat.reduceAdd, Nat.reduceLeDiff, reduceCtorEq, Nat.reduceLT, Int.reduceLT, Int.reduceLE, Int.reduceEq, Int.reduceToNat, Nat.reduceMul]
        simp [wkV, wkL, slTrees, AV.asOwn, rowPart, stoOf, AV.isNil, h0, h00, valL_len, List.take_of_length_le]
    · rw [hd2] at hd
      have h := of_decide_eq_true hd2
      have g1 : (F + (i : Int)) * r.1 < min un (now + 1) := hlt.2 (by omega)
      have g2 : 0 ≤ (F + (i : Int)) * r.1 := Int.mul_nonneg (by omega) (by omega)
      have g3 : IntKind.i64.wrap ((F + (i : Int)) * r.1 + r.1) = (F + ((i + 1 : Nat) : Int)) * r.1 := by
        rw [wrap_i64_of (by omega) (by omega), show F + ((i + 1 : Nat) : Int) = F + (i : Int) + 1 by omega, Int.add_mul (F + (i : Int)), Int.one_mul]
      have k1 : (i + 1) * 16 ≤ 2 ^ 47 := by omega
      have k2 : i + 1 < 2 ^ 47 := by omega
      have em : (valL r F i).map numT ++ [[T.v (.bool (getM r.1 r.2 ((F + (i : Int)) * r.1)).1), T.v (.int .i64 (getM r.1 r.2 ((F + (i : Int)) * r.1)).2)]] = (valL r F (i + 1)).map numT := by simp [valL, numT]
      have hlen : ((valL r F i).map numT).length = i := by simp [valL_len]
      have hsn : ∀ a b : Int, (if i + 1 = 0 then a else b) = b := fun a b => if_neg (by omega)
      have hG := f_ref13_Get r.1 ((F + (i : Int)) * r.1) r.2
      by_cases h0 : i = 0
      · have hz : decide ((i : Int) = 0) = true := decide_eq_true (by omega)
        have hF2 : (F + (i : Int)) * r.1 = F * r.1 := by rw [h0]; simp
        rw [hF2] at hd1 hd em hG g3
        rw [if_pos h0, hF2]
        simp only [go_sem, hd1, hd, hz, ↓reduceIte, Nat.reduceEqDiff, Nat.reduceAdd, Nat.reduceLeDiff, reduceCtorEq, Nat.reduceLT, Int.reduceLT, Int.reduceLE, Int.reduceEq, Int.reduceToNat, Nat.reduceMul]
        refine Cl_plain hG ?_
        simp only [go_sem, k1, k2, em, hlen, ↓reduceIte, Nat.reduceEqDiff, Nat.reduceAdd, Nat.reduceLeDiff, reduceCtorEq, Nat.reduceLT, Int.reduceLT, Int.reduceLE, Int.reduceEq, Int.reduceToNat, Nat.reduceMul]
        ((try (with_reducible refine R_fin (by repeat' (first | exact okp0 | refine okp rfl rfl rfl ?_)) ?_)); (try simp only [go_sem, k1, k2, em, hlen, g3, ↓reduceIte, Nat.reduceEqDiff, Nat.reduceAdd, Nat.reduceLeDiff, reduceCtorEq, Nat.reduceLT, Int.reduceLT, Int.reduceLE, Int.reduceEq, Int.reduceToNat, Nat.reduceMul]))
        refine rd_of (i + 1) (by first | omega | (simp only; omega)) (by first | omega | (simp only; omega)) ?_
        rw [hsn]
        exact (subL [(999, 204)] [] (by simp [envS, go_sem, wkV, wkL, AV.ids, idsL, keysOf, ren, stoOf, slTrees, AV.asOwn, rowPart, AV.isNil, valL_len] <;> assumption) (by simp [stoS, go_sem, wkV, wkL, wkO, AV.ids, Ob.ids, idsL, keysOf, ren, AV.one, stoOf, slTrees, AV.asOwn, rowPart, AV.isNil, valL_len] <;> assumption) (by simp [keysOf, ren]) (by simp [stoOf, keysOf, ren]) (by simp [keysOf, ren]) (by simp [keysOf, ren]))
      · have hz : decide ((i : Int) = 0) = false := decide_eq_false (by omega)
        rw [if_neg h0]
        simp only [go_sem, hd1, hd, hz, ↓reduceIte, Nat.reduceEqDiff, Nat.reduceAdd, Nat.reduceLeDiff, reduceCtorEq, Nat.reduceLT, Int.reduceLT, Int.reduceLE, Int.reduceEq, Int.reduceToNat, Nat.reduceMul]
        refine Cl_plain hG ?_
        simp only [go_sem, k1, k2, em, hlen, ↓reduceIte, Nat.reduceEqDiff, Nat.reduceAdd, Nat.reduceLeDiff, reduceCtorEq, Nat.reduceLT, Int.reduceLT, Int.reduceLE, Int.reduceEq, Int.reduceToNat, Nat.reduceMul]
        ((try (with_reducible refine R_fin (by repeat' (first | exact okp0 | refine okp rfl rfl rfl ?_)) ?_)); (try simp only [go_sem, k1, k2, em, hlen, g3, ↓reduceIte, Nat.reduceEqDiff, Nat.reduceAdd, Nat.reduceLeDiff, reduceCtorEq, Nat.reduceLT, Int.reduceLT, Int.reduceLE, Int.reduceEq, Int.reduceToNat, Nat.reduceMul]))
        refine rd_of (i + 1) (by first | omega | (simp only; omega)) (by first | omega | (simp only; omega)) ?_
        rw [hsn]
        exact (subL [(999, 204)] [] (by simp [envS, go_sem, wkV, wkL, AV.ids, idsL, keysOf, ren, stoOf, slTrees, AV.asOwn, rowPart, AV.isNil, valL_len] <;> assumption) (by simp [stoS, go_sem, wkV, wkL, wkO, AV.ids, Ob.ids, idsL, keysOf, ren, AV.one, stoOf, slTrees, AV.asOwn, rowPart, AV.isNil, valL_len] <;> assumption) (by simp [keysOf, ren]) (by simp [stoOf, keysOf, ren]) (by simp [keysOf, ren]) (by simp [keysOf, ren]))

end Go.Proofs.Ytmjlldlaigoflaa
