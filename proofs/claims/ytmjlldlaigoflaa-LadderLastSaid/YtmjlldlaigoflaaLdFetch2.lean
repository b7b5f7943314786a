/- The contract of a ladder's fetching. No statement of the seat is proved here. -/
import Derived.Test.YtmjlldlaigoflaaLdFetch
set_option linter.unusedSimpArgs false
set_option linter.unusedVariables false
namespace Go.Proofs.Ytmjlldlaigoflaa
open Go Go.Sx

theorem fst_mul (r : Ring) (fr now : Int) (hw : 0 ≤ r.1) : max (ceilM r.1 fr * r.1) (abvM (now - r.1 * (r.2.length : Int)) r.1 * r.1) = fstM r fr now * r.1 := by
  unfold fstM
  rcases Int.le_total (ceilM r.1 fr) (abvM (now - r.1 * (r.2.length : Int)) r.1) with h | h
  · have h2 := Int.mul_le_mul_of_nonneg_right h hw
    rw [Int.max_eq_right h, Int.max_eq_right h2]
  · have h2 := Int.mul_le_mul_of_nonneg_right h hw
    rw [Int.max_eq_left h, Int.max_eq_left h2]

theorem f_ladder_Fetch (m f : Int) (rs : List Ring) (fr un now : Int) (hn : rs.length ≤ maxLen) :
    Meets Try.prog E0 n_ladder_Fetch [ladV m f rs, I fr, I un, I now] [] (.tp [serV (bs []) (fetM m f rs fr un now).1.1 (fetM m f rs fr un now).1.2.1 (fetM m f rs fr un now).1.2.2, I (fetM m f rs fr un now).2]) [] := by
  refine m_ladder_Fetch (by simp) (shut0 rfl) (shut0 rfl) (by simp) (by simp [keysOf]) ?_
  have b1 := f_ladder_timed fr
  have b2 := f_ladder_timed un
  have b3 := f_ladder_timed now
  have b4 := f_ladder_Right m f rs hn
  by_cases hok : (timedB fr && timedB un && timedB now && decide (fr < un) && ladB m f rs) = true
  case neg =>
    have e : fetM m f rs fr un now = ((0, 0, []), 1) := if_neg hok
    rw [e]
    cases h1 : timedB fr <;> rw [h1] at b1 hok
    case false =>
      clear hok e
      repeat' (first | (with_reducible refine Cl_plain (b1) ?_) | (with_reducible refine Cl_plain (b2) ?_) | (with_reducible refine Cl_plain (b3) ?_) | (with_reducible refine Cl_plain (b4) ?_) | (simp only [go_sem, s_ladder_Fetch, ↓reduceIte, Nat.reduceEqDiff, Nat.reduceAdd, Nat.reduceLeDiff, reduceCtorEq, Nat.reduceLT, Int.reduceLT, Int.reduceLE, Int.reduceEq, Int.reduceToNat, Nat.reduceMul, *]) | (simp (disch := omega) only [s_ladder_Fetch, wrap_i64_of, i64_quo, i64_rem, sdiv, smod]) | ((with_reducible refine W_split (by with_unfolding_all exact rfl) (fun hsp => ?_) (fun hsp => ?_)) <;> (try simp only [Bool.not_true, Bool.not_false, decide_eq_true_eq, decide_eq_false_iff_not, Bool.not_eq_true', Bool.not_eq_false', not_false_eq_true] at hsp)) | ((with_reducible refine R_split (by with_unfolding_all exact rfl) (fun hsp => ?_) (fun hsp => ?_)) <;> (try simp only [Bool.not_true, Bool.not_false, decide_eq_true_eq, decide_eq_false_iff_not, Bool.not_eq_true', Bool.not_eq_false', not_false_eq_true] at hsp)) | (with_reducible refine R_fin (by repeat' (first | exact okp0 | refine okp rfl rfl rfl ?_)) ?_))
      refine wends2 [] [] (by first | exact Or.inl rfl | exact Or.inr rfl) ?_ (by simp [AV.ids, idsL]) (by simp [stoS]) (by simp [keysOf]) (by simp [stoOf, keysOf] <;> assumption) (by simp [keysOf]) (by simp [keysOf])
      simp only [go_sem, r_ladder_Fetch, exists_eq_left', Option.some.injEq, ↓reduceIte, Nat.reduceEqDiff, Nat.reduceAdd, Nat.reduceLeDiff, reduceCtorEq, Nat.reduceLT, Int.reduceLT, Int.reduceLE, Int.reduceEq, Int.reduceToNat, Nat.reduceMul]
      simp [wkV, wkL, slTrees, AV.asOwn, rowPart, stoOf, AV.isNil]
    cases h2 : timedB un <;> rw [h2] at b2 hok
    case false =>
      clear hok e
      repeat' (first | (with_reducible refine Cl_plain (b1) ?_) | (with_reducible refine Cl_plain (b2) ?_) | (with_reducible refine Cl_plain (b3) ?_) | (with_reducible refine Cl_plain (b4) ?_) | (simp only [go_sem, s_ladder_Fetch, ↓reduceIte, Nat.reduceEqDiff, Nat.reduceAdd, Nat.reduceLeDiff, reduceCtorEq, Nat.reduceLT, Int.reduceLT, Int.reduceLE, Int.reduceEq, Int.reduceToNat, Nat.reduceMul, *]) | (simp (disch := omega) only [s_ladder_Fetch, wrap_i64_of, i64_quo, i64_rem, sdiv, smod]) | ((with_reducible refine W_split (by with_unfolding_all exact rfl) (fun hsp => ?_) (fun hsp => ?_)) <;> (try simp only [Bool.not_true, Bool.not_false, decide_eq_true_eq, decide_eq_false_iff_not, Bool.not_eq_true', Bool.not_eq_false', not_false_eq_true] at hsp)) | ((with_reducible refine R_split (by with_unfolding_all exact rfl) (fun hsp => ?_) (fun hsp => ?_)) <;> (try simp only [Bool.not_true, Bool.not_false, decide_eq_true_eq, decide_eq_false_iff_not, Bool.not_eq_true', Bool.not_eq_false', not_false_eq_true] at hsp)) | (with_reducible refine R_fin (by repeat' (first | exact okp0 | refine okp rfl rfl rfl ?_)) ?_))
      refine wends2 [] [] (by first | exact Or.inl rfl | exact Or.inr rfl) ?_ (by simp [AV.ids, idsL]) (by simp [stoS]) (by simp [keysOf]) (by simp [stoOf, keysOf] <;> assumption) (by simp [keysOf]) (by simp [keysOf])
      simp only [go_sem, r_ladder_Fetch, exists_eq_left', Option.some.injEq, ↓reduceIte, Nat.reduceEqDiff, Nat.reduceAdd, Nat.reduceLeDiff, reduceCtorEq, Nat.reduceLT, Int.reduceLT, Int.reduceLE, Int.reduceEq, Int.reduceToNat, Nat.reduceMul]
      simp [wkV, wkL, slTrees, AV.asOwn, rowPart, stoOf, AV.isNil]
    cases h3 : timedB now <;> rw [h3] at b3 hok
    case false =>
      clear hok e
      repeat' (first | (with_reducible refine Cl_plain (b1) ?_) | (with_reducible refine Cl_plain (b2) ?_) | (with_reducible refine Cl_plain (b3) ?_) | (with_reducible refine Cl_plain (b4) ?_) | (simp only [go_sem, s_ladder_Fetch, ↓reduceIte, Nat.reduceEqDiff, Nat.reduceAdd, Nat.reduceLeDiff, reduceCtorEq, Nat.reduceLT, Int.reduceLT, Int.reduceLE, Int.reduceEq, Int.reduceToNat, Nat.reduceMul, *]) | (simp (disch := omega) only [s_ladder_Fetch, wrap_i64_of, i64_quo, i64_rem, sdiv, smod]) | ((with_reducible refine W_split (by with_unfolding_all exact rfl) (fun hsp => ?_) (fun hsp => ?_)) <;> (try simp only [Bool.not_true, Bool.not_false, decide_eq_true_eq, decide_eq_false_iff_not, Bool.not_eq_true', Bool.not_eq_false', not_false_eq_true] at hsp)) | ((with_reducible refine R_split (by with_unfolding_all exact rfl) (fun hsp => ?_) (fun hsp => ?_)) <;> (try simp only [Bool.not_true, Bool.not_false, decide_eq_true_eq, decide_eq_false_iff_not, Bool.not_eq_true', Bool.not_eq_false', not_false_eq_true] at hsp)) | (with_reducible refine R_fin (by repeat' (first | exact okp0 | refine okp rfl rfl rfl ?_)) ?_))
      refine wends2 [] [] (by first | exact Or.inl rfl | exact Or.inr rfl) ?_ (by simp [AV.ids, idsL]) (by simp [stoS]) (by simp [keysOf]) (by simp [stoOf, keysOf] <;> assumption) (by simp [keysOf]) (by simp [keysOf])
      simp only [go_sem, r_ladder_Fetch, exists_eq_left', Option.some.injEq, ↓reduceIte, Nat.reduceEqDiff, Nat.reduceAdd, Nat.reduceLeDiff, reduceCtorEq, Nat.reduceLT, Int.reduceLT, Int.reduceLE, Int.reduceEq, Int.reduceToNat, Nat.reduceMul]
      simp [wkV, wkL, slTrees, AV.asOwn, rowPart, stoOf, AV.isNil]
    cases h4 : decide (un ≤ fr)
    case true =>
      clear hok e
      repeat' (first | (with_reducible refine Cl_plain (b1) ?_) | (with_reducible refine Cl_plain (b2) ?_) | (with_reducible refine Cl_plain (b3) ?_) | (with_reducible refine Cl_plain (b4) ?_) | (simp only [go_sem, s_ladder_Fetch, ↓reduceIte, Nat.reduceEqDiff, Nat.reduceAdd, Nat.reduceLeDiff, reduceCtorEq, Nat.reduceLT, Int.reduceLT, Int.reduceLE, Int.reduceEq, Int.reduceToNat, Nat.reduceMul, *]) | (simp (disch := omega) only [s_ladder_Fetch, wrap_i64_of, i64_quo, i64_rem, sdiv, smod]) | ((with_reducible refine W_split (by with_unfolding_all exact rfl) (fun hsp => ?_) (fun hsp => ?_)) <;> (try simp only [Bool.not_true, Bool.not_false, decide_eq_true_eq, decide_eq_false_iff_not, Bool.not_eq_true', Bool.not_eq_false', not_false_eq_true] at hsp)) | ((with_reducible refine R_split (by with_unfolding_all exact rfl) (fun hsp => ?_) (fun hsp => ?_)) <;> (try simp only [Bool.not_true, Bool.not_false, decide_eq_true_eq, decide_eq_false_iff_not, Bool.not_eq_true', Bool.not_eq_false', not_false_eq_true] at hsp)) | (with_reducible refine R_fin (by repeat' (first | exact okp0 | refine okp rfl rfl rfl ?_)) ?_))
      refine wends2 [] [] (by first | exact Or.inl rfl | exact Or.inr rfl) ?_ (by simp [AV.ids, idsL]) (by simp [stoS]) (by simp [keysOf]) (by simp [stoOf, keysOf] <;> assumption) (by simp [keysOf]) (by simp [keysOf])
      simp only [go_sem, r_ladder_Fetch, exists_eq_left', Option.some.injEq, ↓reduceIte, Nat.reduceEqDiff, Nat.reduceAdd, Nat.reduceLeDiff, reduceCtorEq, Nat.reduceLT, Int.reduceLT, Int.reduceLE, Int.reduceEq, Int.reduceToNat, Nat.reduceMul]
      simp [wkV, wkL, slTrees, AV.asOwn, rowPart, stoOf, AV.isNil]
    have h4' : decide (fr < un) = true := decide_eq_true (by have := of_decide_eq_false h4; omega)
    cases h5 : ladB m f rs <;> rw [h5] at b4 hok
    case true => exact absurd (by simp [h4']) hok
    clear hok e h4'
    repeat' (first | (with_reducible refine Cl_plain (b1) ?_) | (with_reducible refine Cl_plain (b2) ?_) | (with_reducible refine Cl_plain (b3) ?_) | (with_reducible refine Cl_plain (b4) ?_) | (simp only [go_sem, s_ladder_Fetch, ↓reduceIte, Nat.reduceEqDiff, Nat.reduceAdd, Nat.reduceLeDiff, reduceCtorEq, Nat.reduceLT, Int.reduceLT, Int.reduceLE, Int.reduceEq, Int.reduceToNat, Nat.reduceMul, *]) | (simp (disch := omega) only [s_ladder_Fetch, wrap_i64_of, i64_quo, i64_rem, sdiv, smod]) | ((with_reducible refine W_split (by with_unfolding_all exact rfl) (fun hsp => ?_) (fun hsp => ?_)) <;> (try simp only [Bool.not_true, Bool.not_false, decide_eq_true_eq, decide_eq_false_iff_not, Bool.not_eq_true', Bool.not_eq_false', not_false_eq_true] at hsp)) | ((with_reducible refine R_split (by with_unfolding_all exact rfl) (fun hsp => ?_) (fun hsp => ?_)) <;> (try simp only [Bool.not_true, Bool.not_false, decide_eq_true_eq, decide_eq_false_iff_not, Bool.not_eq_true', Bool.not_eq_false', not_false_eq_true] at hsp)) | (with_reducible refine R_fin (by repeat' (first | exact okp0 | refine okp rfl rfl rfl ?_)) ?_))
    refine wends2 [] [] (by first | exact Or.inl rfl | exact Or.inr rfl) ?_ (by simp [AV.ids, idsL]) (by simp [stoS]) (by simp [keysOf]) (by simp [stoOf, keysOf] <;> assumption) (by simp [keysOf]) (by simp [keysOf])
    simp only [go_sem, r_ladder_Fetch, exists_eq_left', Option.some.injEq, ↓reduceIte, Nat.reduceEqDiff, Nat.reduceAdd, Nat.reduceLeDiff, reduceCtorEq, Nat.reduceLT, Int.reduceLT, Int.reduceLE, Int.reduceEq, Int.reduceToNat, Nat.reduceMul]
    simp [wkV, wkL, slTrees, AV.asOwn, rowPart, stoOf, AV.isNil]
  have e : fetM m f rs fr un now = (match rs[(pickL rs fr now).toNat]? with | some r => fetR r fr un now | none => (0, 0, []), 0) := if_pos hok
  simp only [Bool.and_eq_true, decide_eq_true_eq] at hok
  obtain ⟨⟨⟨⟨h1, h2⟩, h3⟩, h4⟩, h5⟩ := hok
  obtain ⟨p1, p2, p3, p4, p5⟩ := lad_parts h5
  rw [h1] at b1
  rw [h2] at b2
  rw [h3] at b3
  rw [h5] at b4
  have b5 := f_ladder_pick m f rs fr now hn (fun r hr => List.all_eq_true.1 p2 r hr) h1 h3
  obtain ⟨k, hk, hkl⟩ := pick_in p4 fr now
  obtain ⟨r, hr⟩ := get_of_lt hkl
  have hgr : ringB r.1 r.2 = true := List.all_eq_true.1 p2 r (List.mem_of_getElem? hr)
  rw [hk, Int.toNat_natCast, hr] at e
  rw [hk] at b5
  rw [e]
  clear e
  simp only
  have t1 := timedB_iff.1 h1
  have t2 := timedB_iff.1 h2
  have t3 := timedB_iff.1 h3
  obtain ⟨w1, w2, w3, w4, w5⟩ := ring_bd hgr
  have hsz := ringB_sized hgr
  have d0 : decide (un ≤ fr) = false := decide_eq_false (by omega)
  have c1 := ceil_bd w1 t1.1
  obtain ⟨nb, nf⟩ := num_bd (un := un) hgr t1.1 t3.1
  have hA := f_ladder_above (fr - 1) r.1 w1 w2 (by omega) (by omega)
  rw [abv_ceil (by omega) t1.1] at hA
  have hB := f_ladder_above (now - r.1 * (r.2.length : Int)) r.1 w1 w2 (by omega) (by omega)
  have hC := f_ladder_reach r.1 r.2
  rw [w5] at hC
  have hab := abv_bd (t := now - r.1 * (r.2.length : Int)) (w := r.1) (by omega) (by omega)
  have ef1 : IntKind.i64.wrap (fr - 1) = fr - 1 := wrap_i64_of (by omega) (by omega)
  have ef2 : IntKind.i64.wrap (now - r.1 * (r.2.length : Int)) = now - r.1 * (r.2.length : Int) := wrap_i64_of (by omega) (by omega)
  have ef3 : IntKind.i64.wrap (now + 1) = now + 1 := wrap_i64_of (by omega) (by omega)
  have ib : (k : Int) < (rs.length : Int) := by omega
  simp only [go_sem, s_ladder_Fetch, ↓reduceIte, Nat.reduceEqDiff, Nat.reduceAdd, Nat.reduceLeDiff, reduceCtorEq, Nat.reduceLT, Int.reduceLT, Int.reduceLE, Int.reduceEq, Int.reduceToNat, Nat.reduceMul]
  refine Cl_plain b1 ?_
  simp only [go_sem, ↓reduceIte, Nat.reduceEqDiff, Nat.reduceAdd, Nat.reduceLeDiff, reduceCtorEq, Nat.reduceLT, Int.reduceLT, Int.reduceLE, Int.reduceEq, Int.reduceToNat, Nat.reduceMul]
  refine Cl_plain b2 ?_
  simp only [go_sem, ↓reduceIte, Nat.reduceEqDiff, Nat.reduceAdd, Nat.reduceLeDiff, reduceCtorEq, Nat.reduceLT, Int.reduceLT, Int.reduceLE, Int.reduceEq, Int.reduceToNat, Nat.reduceMul]
  refine Cl_plain b3 ?_
  simp only [go_sem, d0, ↓reduceIte, Nat.reduceEqDiff, Nat.reduceAdd, Nat.reduceLeDiff, reduceCtorEq, Nat.reduceLT, Int.reduceLT, Int.reduceLE, Int.reduceEq, Int.reduceToNat, Nat.reduceMul]
  refine Cl_plain b4 ?_
  simp only [go_sem, ↓reduceIte, Nat.reduceEqDiff, Nat.reduceAdd, Nat.reduceLeDiff, reduceCtorEq, Nat.reduceLT, Int.reduceLT, Int.reduceLE, Int.reduceEq, Int.reduceToNat, Nat.reduceMul]
  refine Cl_plain b5 ?_
  simp only [go_sem, hr, rgT, ib, ↓reduceIte, Nat.reduceEqDiff, Nat.reduceAdd, Nat.reduceLeDiff, reduceCtorEq, Nat.reduceLT, Int.reduceLT, Int.reduceLE, Int.reduceEq, Int.reduceToNat, Nat.reduceMul]
  ((try (with_reducible refine R_fin (by repeat' (first | exact okp0 | refine okp rfl rfl rfl ?_)) ?_)); (try simp only [go_sem, hr, rgT, ib, ef1, ↓reduceIte, Nat.reduceEqDiff, Nat.reduceAdd, Nat.reduceLeDiff, reduceCtorEq, Nat.reduceLT, Int.reduceLT, Int.reduceLE, Int.reduceEq, Int.reduceToNat, Nat.reduceMul]))
  refine Cl_plain hA ?_
  simp only [go_sem, ↓reduceIte, Nat.reduceEqDiff, Nat.reduceAdd, Nat.reduceLeDiff, reduceCtorEq, Nat.reduceLT, Int.reduceLT, Int.reduceLE, Int.reduceEq, Int.reduceToNat, Nat.reduceMul]
  refine Cl_plain hC ?_
  simp only [go_sem, ef2, ↓reduceIte, Nat.reduceEqDiff, Nat.reduceAdd, Nat.reduceLeDiff, reduceCtorEq, Nat.reduceLT, Int.reduceLT, Int.reduceLE, Int.reduceEq, Int.reduceToNat, Nat.reduceMul]
  refine Cl_plain hB ?_
  have emx : max (ceilM r.1 fr * r.1) (abvM (now - r.1 * (r.2.length : Int)) r.1 * r.1) = fstM r fr now * r.1 := fst_mul r fr now (by omega)
  have hF : fstM r fr now * r.1 ≤ 1099511627776 + 86400 := by rw [← emx]; rcases hab.2.2 with h | h <;> (try rw [h]) <;> omega
  have hF0 : 0 ≤ fstM r fr now * r.1 := by rw [← emx]; omega
  have hN : numM r fr un now = (ceilM r.1 (min un (now + 1)) - fstM r fr now).toNat := rfl
  simp only [go_sem, ef3, emx, ↓reduceIte, Nat.reduceEqDiff, Nat.reduceAdd, Nat.reduceLeDiff, reduceCtorEq, Nat.reduceLT, Int.reduceLT, Int.reduceLE, Int.reduceEq, Int.reduceToNat, Nat.reduceMul]
  ((try (with_reducible refine R_fin (by repeat' (first | exact okp0 | refine okp rfl rfl rfl ?_)) ?_)); (try simp only [go_sem, ef3, emx, ↓reduceIte, Nat.reduceEqDiff, Nat.reduceAdd, Nat.reduceLeDiff, reduceCtorEq, Nat.reduceLT, Int.reduceLT, Int.reduceLE, Int.reduceEq, Int.reduceToNat, Nat.reduceMul]))
  unfold fetR
  generalize fstM r fr now = F at *
  generalize numM r fr un now = N at *
  refine W_loop (fun i : Nat => N - i) (fun i => i ≤ N)
    (fun i => [(8, .ptr 101 0), (9, I 0), (10, .ptr 137 0), (12, I (F * r.1)), (13, I (min un (now + 1))), (14, .ptr 164 0), (15, I ((F + (i : Int)) * r.1))])
    (fun i => [(101, .box [.t (.v (.string (bs []))), I 0, I 0, .t (.v (.slice none 0 0))]), (137, .box [I r.1, slL r.2]), (164, .box [.t (.v (.string (bs []))), I (ceilM r.1 fr * r.1), I r.1, .own 999 2 0 i (decide (0 < i))]), (999, .row 2 (decide (0 < i)) ((valL r F i).map numT))])
    0 (Nat.zero_le _) ?_ ?_
  · rw [show valL r F 0 = [] from rfl, show F + ((0 : Nat) : Int) = F from Int.add_zero F]
    exact (subL [(999, 888)] [] (by simp [envS, go_sem, wkV, wkL, AV.ids, idsL, keysOf, ren, stoOf, slTrees, AV.asOwn, rowPart, AV.isNil, valL_len] <;> assumption) (by simp [stoS, go_sem, wkV, wkL, wkO, AV.ids, Ob.ids, idsL, keysOf, ren, AV.one, stoOf, slTrees, AV.asOwn, rowPart, AV.isNil, valL_len] <;> assumption) (by simp [keysOf, ren]) (by simp [stoOf, keysOf, ren]) (by simp [keysOf, ren]) (by simp [keysOf, ren]))
  intro i hi
  have hlt := ceil_lt (w := r.1) (b := min un (now + 1)) (k := F + (i : Int)) (by omega)
  have hd : decide ((F + (i : Int)) * r.1 < min un (now + 1)) = decide (i < N) := by rw [decide_eq_decide, hlt]; omega
  simp only [go_sem, hd, ↓reduceIte, Nat.reduceEqDiff, Nat.reduceAdd, Nat.reduceLeDiff, reduceCtorEq, Nat.reduceLT, Int.reduceLT, Int.reduceLE, Int.reduceEq, Int.reduceToNat, Nat.reduceMul]
  refine W_split rfl (fun h => ?_) (fun h => ?_)
  · simp at h
    have g1 : (F + (i : Int)) * r.1 < min un (now + 1) := hlt.2 (by omega)
    have g2 : 0 ≤ (F + (i : Int)) * r.1 := Int.mul_nonneg (by omega) (by omega)
    have g3 : IntKind.i64.wrap ((F + (i : Int)) * r.1 + r.1) = (F + ((i + 1 : Nat) : Int)) * r.1 := by
      rw [wrap_i64_of (by omega) (by omega), show F + ((i + 1 : Nat) : Int) = F + (i : Int) + 1 by omega, Int.add_mul (F + (i : Int)), Int.one_mul]
    have k1 : (i + 1) * 16 ≤ 2 ^ 47 := by omega
    have k2 : i + 1 < 2 ^ 47 := by omega
    have em : (valL r F i).map numT ++ [[T.v (.bool (getM r.1 r.2 ((F + (i : Int)) * r.1)).1), T.v (.int .i64 (getM r.1 r.2 ((F + (i : Int)) * r.1)).2)]] = (valL r F (i + 1)).map numT := by simp [valL, numT]
    have hlen : ((valL r F i).map numT).length = i := by simp [valL_len]
    simp only [go_sem, h, ↓reduceIte, Nat.reduceEqDiff, Nat.reduceAdd, Nat.reduceLeDiff, reduceCtorEq, Nat.reduceLT, Int.reduceLT, Int.reduceLE, Int.reduceEq, Int.reduceToNat, Nat.reduceMul]
    refine Cl_plain (f_ring_Get r.1 ((F + (i : Int)) * r.1) r.2) ?_
    simp only [go_sem, k1, k2, em, hlen, ↓reduceIte, Nat.reduceEqDiff, Nat.reduceAdd, Nat.reduceLeDiff, reduceCtorEq, Nat.reduceLT, Int.reduceLT, Int.reduceLE, Int.reduceEq, Int.reduceToNat, Nat.reduceMul]
    ((try (with_reducible refine R_fin (by repeat' (first | exact okp0 | refine okp rfl rfl rfl ?_)) ?_)); (try simp only [go_sem, k1, k2, em, hlen, g3, ↓reduceIte, Nat.reduceEqDiff, Nat.reduceAdd, Nat.reduceLeDiff, reduceCtorEq, Nat.reduceLT, Int.reduceLT, Int.reduceLE, Int.reduceEq, Int.reduceToNat, Nat.reduceMul]))
    refine rd_of (i + 1) (by first | omega | (simp only; omega)) (by first | omega | (simp only; omega)) ?_
    exact (subL [(999, 177)] [] (by simp [envS, go_sem, wkV, wkL, AV.ids, idsL, keysOf, ren, stoOf, slTrees, AV.asOwn, rowPart, AV.isNil, valL_len] <;> assumption) (by simp [stoS, go_sem, wkV, wkL, wkO, AV.ids, Ob.ids, idsL, keysOf, ren, AV.one, stoOf, slTrees, AV.asOwn, rowPart, AV.isNil, valL_len] <;> assumption) (by simp [keysOf, ren]) (by simp [stoOf, keysOf, ren]) (by simp [keysOf, ren]) (by simp [keysOf, ren]))
  · have e : i = N := by simp at h; omega
    subst e
    by_cases h0 : i = 0
    · subst h0
      have h0' : decide ((0 : Int) < ((0 : Nat) : Int)) = false := rfl
      simp only [go_sem, h0', ↓reduceIte, Nat.reduceEqDiff, Nat.reduceAdd, Nat.reduceLeDiff, reduceCtorEq, Nat.reduceLT, Int.reduceLT, Int.reduceLE, Int.reduceEq, Int.reduceToNat, Nat.reduceMul]
      refine wends2 [] [] (by first | exact Or.inl rfl | exact Or.inr rfl) ?_ (by simp [AV.ids, idsL]) (by simp [stoS]) (by simp [keysOf]) (by simp [stoOf, keysOf] <;> assumption) (by simp [keysOf]) (by simp [keysOf])
      simp only [go_sem, r_ladder_Fetch, exists_eq_left', Option.some.injEq, ↓reduceIte, Nat.reduceEqDiff, Nat.reduceAdd, Nat.reduceLeDiff, reduceCtorEq, Nat.reduceLT, Int.reduceLT, Int.reduceLE, Int.reduceEq, Int.reduceToNat, Nat.reduceMul]
      simp [wkV, wkL, slTrees, AV.asOwn, rowPart, stoOf, AV.isNil, valL]
    · have h0' : decide (0 < (i : Int)) = true := decide_eq_true (by omega)
      have h00 : 0 < i := by omega
      simp only [go_sem, h0', ↓reduceIte, Nat.reduceEqDiff, Nat.reduceAdd, Nat.reduceLeDiff, reduceCtorEq, Nat.reduceLT, Int.reduceLT, Int.reduceLE, Int.reduceEq, Int.reduceToNat, Nat.reduceMul]
      ((try (with_reducible refine R_fin (by repeat' (first | exact okp0 | refine okp rfl rfl rfl ?_)) ?_)); (try simp only [go_sem, h0', ↓reduceIte, Nat.reduceEqDiff, Nat.reduceAdd, Nat.reduceLeDiff, reduceCtorEq, Nat.reduceLT, Int.reduceLT, Int.reduceLE, Int.reduceEq, Int.reduceToNat, Nat.reduceMul]))
      refine wends2 [] [999] (by first | exact Or.inl rfl | exact Or.inr rfl) ?_ (by simp [AV.ids, idsL]) (by simp [stoS]) (by simp [keysOf]) (by simp [stoOf, keysOf] <;> assumption) (by simp [keysOf]) (by simp [keysOf])
      simp only [go_sem, r_ladder_Fetch, exists_eq_left', Option.some.injEq, ↓reduceIte, Nat.reduceEqDiff, Nat.reduceAdd, Nat.reduceLeDiff, reduceCtorEq, Nat.reduceLT, Int.reduceLT, Int.reduceLE, Int.reduceEq, Int.reduceToNat, Nat.reduceMul]
      simp [wkV, wkL, slTrees, AV.asOwn, rowPart, stoOf, AV.isNil, h0, valL_len, List.take_of_length_le]

end Go.Proofs.Ytmjlldlaigoflaa
