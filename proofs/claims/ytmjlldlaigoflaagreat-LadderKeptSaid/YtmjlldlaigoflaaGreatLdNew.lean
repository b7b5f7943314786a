/- Contracts of new ladders, copies, and likeness. No statement of the seat is proved here. -/
import Derived.Test.YtmjlldlaigoflaaGreatLdRight
set_option linter.unusedSimpArgs false
set_option linter.unusedVariables false
namespace Go.Proofs.YtmjlldlaigoflaaGreat
open Go Go.Sx

def newR (r : Rung) : Ring := (r.1, List.replicate r.2.toNat (-1, 0))
def newLM (rs : List Rung) (m f : Int) : (Int × Int × List Ring) × Int := if howB m f && togB rs then ((m, f, rs.map newR), 0) else ((0, 0, []), 1)
abbrev schV (rs : List Rung) (m f : Int) : AV := .ag [slL rs, I m, I f]

theorem newM_of {r : Rung} (h : szB r = true) : newM r.1 r.2 = (newR r, 0) := by
  have h' : sizedB r.1 r.2 = true := h
  simp [newM, h', newR]

theorem f_ladder_New (rs : List Rung) (m f : Int) : Meets Tryz.prog E0 n_ladder_New [schV rs m f] [] (.tp [ladV (newLM rs m f).1.1 (newLM rs m f).1.2.1 (newLM rs m f).1.2.2, I (newLM rs m f).2]) [] := by
  refine m_ladder_New (by simp) (shut0 rfl) (shut0 rfl) (by simp) (by simp [keysOf]) ?_
  have b0 := f_ladder_how m f
  have b1 := f_retention_Together rs
  cases hc : howB m f && togB rs
  · have e : newLM rs m f = ((0, 0, []), 1) := by simp [newLM, hc]
    rw [e]
    cases hw : howB m f
    · rw [hw] at b0
      clear hc e
      repeat' (first | (with_reducible refine Cl_plain (b0) ?_) | (with_reducible refine Cl_plain (b1) ?_) | (simp only [go_sem, s_ladder_New, ↓reduceIte, Nat.reduceEqDiff, Nat.reduceAdd, Nat.reduceLeDiff, reduceCtorEq, Nat.reduceLT, Int.reduceLT, Int.reduceLE, Int.reduceEq, Int.reduceToNat, Nat.reduceMul, *]) | (simp (disch := omega) only [s_ladder_New, wrap_i64_of, i64_quo, i64_rem, sdiv, smod]) | ((with_reducible refine W_split (by with_unfolding_all exact rfl) (fun hsp => ?_) (fun hsp => ?_)) <;> (try simp only [Bool.not_true, Bool.not_false, decide_eq_true_eq, decide_eq_false_iff_not, Bool.not_eq_true', Bool.not_eq_false', not_false_eq_true] at hsp)) | ((with_reducible refine R_split (by with_unfolding_all exact rfl) (fun hsp => ?_) (fun hsp => ?_)) <;> (try simp only [Bool.not_true, Bool.not_false, decide_eq_true_eq, decide_eq_false_iff_not, Bool.not_eq_true', Bool.not_eq_false', not_false_eq_true] at hsp)) | (with_reducible refine R_fin (by repeat' (first | exact okp0 | refine okp rfl rfl rfl ?_)) ?_))
      refine wends2 [] [] (by first | exact Or.inl rfl | exact Or.inr rfl) ?_ (by simp [AV.ids, idsL]) (by simp [stoS]) (by simp [keysOf]) (by simp [stoOf, keysOf] <;> assumption) (by simp [keysOf]) (by simp [keysOf])
      simp only [go_sem, r_ladder_New, exists_eq_left', Option.some.injEq, ↓reduceIte, Nat.reduceEqDiff, Nat.reduceAdd, Nat.reduceLeDiff, reduceCtorEq, Nat.reduceLT, Int.reduceLT, Int.reduceLE, Int.reduceEq, Int.reduceToNat, Nat.reduceMul]
      simp [wkV, wkL, slTrees, AV.asOwn, rowPart, stoOf, AV.isNil]
    · rw [hw, Bool.true_and] at hc
      rw [hw] at b0
      rw [hc] at b1
      clear hc e hw
      repeat' (first | (with_reducible refine Cl_plain (b0) ?_) | (with_reducible refine Cl_plain (b1) ?_) | (simp only [go_sem, s_ladder_New, ↓reduceIte, Nat.reduceEqDiff, Nat.reduceAdd, Nat.reduceLeDiff, reduceCtorEq, Nat.reduceLT, Int.reduceLT, Int.reduceLE, Int.reduceEq, Int.reduceToNat, Nat.reduceMul, *]) | (simp (disch := omega) only [s_ladder_New, wrap_i64_of, i64_quo, i64_rem, sdiv, smod]) | ((with_reducible refine W_split (by with_unfolding_all exact rfl) (fun hsp => ?_) (fun hsp => ?_)) <;> (try simp only [Bool.not_true, Bool.not_false, decide_eq_true_eq, decide_eq_false_iff_not, Bool.not_eq_true', Bool.not_eq_false', not_false_eq_true] at hsp)) | ((with_reducible refine R_split (by with_unfolding_all exact rfl) (fun hsp => ?_) (fun hsp => ?_)) <;> (try simp only [Bool.not_true, Bool.not_false, decide_eq_true_eq, decide_eq_false_iff_not, Bool.not_eq_true', Bool.not_eq_false', not_false_eq_true] at hsp)) | (with_reducible refine R_fin (by repeat' (first | exact okp0 | refine okp rfl rfl rfl ?_)) ?_))
      refine wends2 [] [] (by first | exact Or.inl rfl | exact Or.inr rfl) ?_ (by simp [AV.ids, idsL]) (by simp [stoS]) (by simp [keysOf]) (by simp [stoOf, keysOf] <;> assumption) (by simp [keysOf]) (by simp [keysOf])
      simp only [go_sem, r_ladder_New, exists_eq_left', Option.some.injEq, ↓reduceIte, Nat.reduceEqDiff, Nat.reduceAdd, Nat.reduceLeDiff, reduceCtorEq, Nat.reduceLT, Int.reduceLT, Int.reduceLE, Int.reduceEq, Int.reduceToNat, Nat.reduceMul]
      simp [wkV, wkL, slTrees, AV.asOwn, rowPart, stoOf, AV.isNil]
  · have e : newLM rs m f = ((m, f, rs.map newR), 0) := by simp [newLM, hc]
    rw [e]
    simp only [Bool.and_eq_true] at hc
    have hl := tog_len hc.2
    have ha := tog_all hc.2
    rw [hc.1] at b0
    rw [hc.2] at b1
    simp only [go_sem, s_ladder_New, ↓reduceIte, Nat.reduceEqDiff, Nat.reduceAdd, Nat.reduceLeDiff, reduceCtorEq, Nat.reduceLT, Int.reduceLT, Int.reduceLE, Int.reduceEq, Int.reduceToNat, Nat.reduceMul]
    refine Cl_plain b0 ?_
    simp only [go_sem, ↓reduceIte, Nat.reduceEqDiff, Nat.reduceAdd, Nat.reduceLeDiff, reduceCtorEq, Nat.reduceLT, Int.reduceLT, Int.reduceLE, Int.reduceEq, Int.reduceToNat, Nat.reduceMul]
    refine Cl_plain b1 ?_
    simp only [go_sem, ↓reduceIte, Nat.reduceEqDiff, Nat.reduceAdd, Nat.reduceLeDiff, reduceCtorEq, Nat.reduceLT, Int.reduceLT, Int.reduceLE, Int.reduceEq, Int.reduceToNat, Nat.reduceMul]
    refine W_loop (fun i : Nat => rs.length - i) (fun i => i ≤ rs.length)
      (fun i => [(1, .ptr 100 0), (2, .ptr 101 0), (3, I 0), (4, .ptr 123 0), (28, slL rs), (29, I rs.length), (30, I i)])
      (fun i => [(100, .box [slL rs, I m, I f]), (101, .box [I 0, I 0, .t (.v (.slice none 0 0))]), (123, .box [I m, I f, .own 999 2 0 i (!decide (i = 0))]), (999, .row 2 (!decide (i = 0)) (((rs.take i).map newR).map rgT))])
      0 (Nat.zero_le _) (subL [(999, 888)] [] (by simp [envS, go_sem, wkV, wkL, AV.ids, idsL, keysOf, ren, stoOf, slTrees, AV.asOwn, rowPart, AV.isNil] <;> assumption) (by simp [stoS, go_sem, wkV, wkL, wkO, AV.ids, Ob.ids, idsL, keysOf, ren, AV.one, stoOf, slTrees, AV.asOwn, rowPart, AV.isNil] <;> assumption) (by simp [keysOf, ren]) (by simp [stoOf, keysOf, ren]) (by simp [keysOf, ren]) (by simp [keysOf, ren])) ?_
    intro i hi
    simp only [go_sem, ↓reduceIte, Nat.reduceEqDiff, Nat.reduceAdd, Nat.reduceLeDiff, reduceCtorEq, Nat.reduceLT, Int.reduceLT, Int.reduceLE, Int.reduceEq, Int.reduceToNat, Nat.reduceMul]
    refine W_split rfl (fun h => ?_) (fun h => ?_)
    · simp at h
      obtain ⟨r, hs⟩ := get_of_lt h
      have ei : IntKind.i64.wrap ((i : Int) + 1) = ((i + 1 : Nat) : Int) := by rw [wrap_i64_of (by omega) (by omega)]; omega
      have b3 := f_ring_New r.1 r.2
      rw [newM_of (all_get ha hs)] at b3
      have b4 : (i + 1) * 32 ≤ 2 ^ 47 := by omega
      have b5 : i + 1 < 2 ^ 47 := by omega
      have em : ((rs.take i).map newR).map rgT ++ [[.v (.int .i64 (newR r).1), .sl 2 ((newR r).2.map slT)]] = ((rs.take (i + 1)).map newR).map rgT := by
        rw [← map_take_succ newR hs, List.map_append]; rfl
      have hlen : (((rs.take i).map newR).map rgT).length = i := by simp; omega
      have hz : decide ((0 : Int) = 0) = true := rfl
      simp only [go_sem, hs, slT, ↓reduceIte, Nat.reduceEqDiff, Nat.reduceAdd, Nat.reduceLeDiff, reduceCtorEq, Nat.reduceLT, Int.reduceLT, Int.reduceLE, Int.reduceEq, Int.reduceToNat, Nat.reduceMul]
      refine Cl_plain b3 ?_
      simp only [go_sem, hz, b4, b5, em, hlen, ei, ↓reduceIte, Nat.reduceEqDiff, Nat.reduceAdd, Nat.reduceLeDiff, reduceCtorEq, Nat.reduceLT, Int.reduceLT, Int.reduceLE, Int.reduceEq, Int.reduceToNat, Nat.reduceMul]
      refine rd_of (i + 1) (by first | omega | (simp only; omega)) (by first | omega | (simp only; omega)) ?_
      rw [show (!decide (i + 1 = 0)) = true from by simp]
      exact (subL [(999, 155)] [] (by simp [envS, go_sem, wkV, wkL, AV.ids, idsL, keysOf, ren, stoOf, slTrees, AV.asOwn, rowPart, AV.isNil] <;> assumption) (by simp [stoS, go_sem, wkV, wkL, wkO, AV.ids, Ob.ids, idsL, keysOf, ren, AV.one, stoOf, slTrees, AV.asOwn, rowPart, AV.isNil] <;> assumption) (by simp [keysOf, ren]) (by simp [stoOf, keysOf, ren]) (by simp [keysOf, ren]) (by simp [keysOf, ren]))
    · have e : i = rs.length := by simp at h; omega
      subst e
      rw [List.take_length, show decide (rs.length = 0) = false from decide_eq_false (by omega)]
      simp only [go_sem, ↓reduceIte, Nat.reduceEqDiff, Nat.reduceAdd, Nat.reduceLeDiff, reduceCtorEq, Nat.reduceLT, Int.reduceLT, Int.reduceLE, Int.reduceEq, Int.reduceToNat, Nat.reduceMul]
      refine wends2 [] [999] (by first | exact Or.inl rfl | exact Or.inr rfl) ?_ (by simp [AV.ids, idsL]) (by simp [stoS]) (by simp [keysOf]) (by simp [stoOf, keysOf] <;> assumption) (by simp [keysOf]) (by simp [keysOf])
      simp only [go_sem, r_ladder_New, exists_eq_left', Option.some.injEq, ↓reduceIte, Nat.reduceEqDiff, Nat.reduceAdd, Nat.reduceLeDiff, reduceCtorEq, Nat.reduceLT, Int.reduceLT, Int.reduceLE, Int.reduceEq, Int.reduceToNat, Nat.reduceMul]
      simp [wkV, wkL, slTrees, AV.asOwn, rowPart, stoOf, AV.isNil, List.take_of_length_le]

theorem f_ref14_Same (m f m' f' : Int) (a b : List Ring) (hn : a.length ≤ maxLen) (hr : ∀ r ∈ a, r.2.length ≤ maxLen) : Meets Tryz.prog E0 n_ref14_Same [ladV m f a, ladV m' f' b] [] (Bo (decide (m = m' ∧ f = f' ∧ a = b))) [] := by
  refine m_ref14_Same (by simp) (shut0 rfl) (shut0 rfl) (by simp) (by simp [keysOf]) ?_
  have hn2 : a.length ≤ 9223372036854775807 := hn
  by_cases h1 : m = m'
  · subst h1
    by_cases h2 : f = f'
    · subst h2
      by_cases h3 : a.length = b.length
      · have e : decide (m = m ∧ f = f ∧ a = b) = decide (a = b) := by simp
        rw [e]
        have d1 : decide (a.length = b.length) = true := decide_eq_true h3
        have d2 : ∀ x : Int, decide (x = x) = true := fun x => decide_eq_true rfl
        generalize hout : decide (a = b) = out
        simp only [go_sem, s_ref14_Same, d1, d2, ↓reduceIte, Nat.reduceEqDiff, Nat.reduceAdd, Nat.reduceLeDiff, reduceCtorEq, Nat.reduceLT, Int.reduceLT, Int.reduceLE, Int.reduceEq, Int.reduceToNat, Nat.reduceMul]
        refine W_loop (fun i : Nat => a.length - i) (fun i => i ≤ a.length ∧ decide (a.drop i = b.drop i) = out)
          (fun i => [(2, .ptr 100 0), (3, .ptr 101 0), (4, Bo false), (5, I i)])
          (fun i => [(100, .box [I m, I f, rgL a]), (101, .box [I m, I f, rgL b])])
          0 ⟨Nat.zero_le _, by simpa using hout⟩ (subL [] [] (by simp [envS, go_sem, wkV, wkL, AV.ids, idsL, keysOf, ren]) (by simp [stoS, go_sem, wkV, wkL, wkO, AV.ids, Ob.ids, idsL, keysOf, ren, AV.one]) (by simp [keysOf, ren]) (by simp) (by simp [keysOf]) (by simp [keysOf])) ?_
        rintro i ⟨hi, hd⟩
        simp only [go_sem, ↓reduceIte, Nat.reduceEqDiff, Nat.reduceAdd, Nat.reduceLeDiff, reduceCtorEq, Nat.reduceLT, Int.reduceLT, Int.reduceLE, Int.reduceEq, Int.reduceToNat, Nat.reduceMul]
        refine W_split rfl (fun h => ?_) (fun h => ?_)
        · simp at h
          obtain ⟨r, hs⟩ := get_of_lt h
          obtain ⟨s, ht⟩ := get_of_lt (l := b) (i := i) (by omega)
          have ei : IntKind.i64.wrap ((i : Int) + 1) = ((i + 1 : Nat) : Int) := by rw [wrap_i64_of (by omega) (by omega)]; omega
          have b1 := f_ref13_Same r.1 s.1 r.2 s.2 (hr r (List.mem_of_getElem? hs))
          rw [drop_get hs, drop_get ht] at hd
          by_cases hrs : r = s
          · subst hrs
            rw [show decide (r.1 = r.1 ∧ r.2 = r.2) = true from by simp] at b1
            simp only [List.cons.injEq, true_and] at hd
            simp only [go_sem, hs, ht, rgT, ↓reduceIte, Nat.reduceEqDiff, Nat.reduceAdd, Nat.reduceLeDiff, reduceCtorEq, Nat.reduceLT, Int.reduceLT, Int.reduceLE, Int.reduceEq, Int.reduceToNat, Nat.reduceMul]
            refine Cl_plain b1 ?_
            simp only [go_sem, ↓reduceIte, Nat.reduceEqDiff, Nat.reduceAdd, Nat.reduceLeDiff, reduceCtorEq, Nat.reduceLT, Int.reduceLT, Int.reduceLE, Int.reduceEq, Int.reduceToNat, Nat.reduceMul]
            ((try (with_reducible refine R_fin (by repeat' (first | exact okp0 | refine okp rfl rfl rfl ?_)) ?_)); (try simp only [go_sem, ei, ↓reduceIte, Nat.reduceEqDiff, Nat.reduceAdd, Nat.reduceLeDiff, reduceCtorEq, Nat.reduceLT, Int.reduceLT, Int.reduceLE, Int.reduceEq, Int.reduceToNat, Nat.reduceMul]))
            exact rd_of (i + 1) (by first | omega | (simp only; omega)) ⟨by first | omega | (simp only; omega), hd⟩ (subL [] [] (by simp [envS, go_sem, wkV, wkL, AV.ids, idsL, keysOf, ren]) (by simp [stoS, go_sem, wkV, wkL, wkO, AV.ids, Ob.ids, idsL, keysOf, ren, AV.one]) (by simp [keysOf, ren]) (by simp) (by simp [keysOf]) (by simp [keysOf]))
          · have hne : ¬ (r.1 = s.1 ∧ r.2 = s.2) := fun h => hrs (Prod.ext h.1 h.2)
            rw [decide_eq_false hne] at b1
            rw [decide_eq_false (fun h => hrs (List.cons.inj h).1)] at hd
            subst hd
            simp only [go_sem, hs, ht, rgT, ↓reduceIte, Nat.reduceEqDiff, Nat.reduceAdd, Nat.reduceLeDiff, reduceCtorEq, Nat.reduceLT, Int.reduceLT, Int.reduceLE, Int.reduceEq, Int.reduceToNat, Nat.reduceMul]
            refine Cl_plain b1 ?_
            simp only [go_sem, ↓reduceIte, Nat.reduceEqDiff, Nat.reduceAdd, Nat.reduceLeDiff, reduceCtorEq, Nat.reduceLT, Int.reduceLT, Int.reduceLE, Int.reduceEq, Int.reduceToNat, Nat.reduceMul]
            ((try (with_reducible refine R_fin (by repeat' (first | exact okp0 | refine okp rfl rfl rfl ?_)) ?_)); (try simp only [go_sem, ↓reduceIte, Nat.reduceEqDiff, Nat.reduceAdd, Nat.reduceLeDiff, reduceCtorEq, Nat.reduceLT, Int.reduceLT, Int.reduceLE, Int.reduceEq, Int.reduceToNat, Nat.reduceMul]))
            refine wends (by first | exact Or.inl rfl | exact Or.inr rfl) ?_ (by first | rfl | simp [AV.ids, idsL])
            simp only [go_sem, r_ref14_Same, ↓reduceIte, Nat.reduceEqDiff, Nat.reduceAdd, Nat.reduceLeDiff, reduceCtorEq, Nat.reduceLT, Int.reduceLT, Int.reduceLE, Int.reduceEq, Int.reduceToNat, Nat.reduceMul]
        · have e : i = a.length := by simp at h; omega
          subst e
          rw [List.drop_length, List.drop_eq_nil_of_le (by omega)] at hd
          simp at hd
          simp only [go_sem, ↓reduceIte, Nat.reduceEqDiff, Nat.reduceAdd, Nat.reduceLeDiff, reduceCtorEq, Nat.reduceLT, Int.reduceLT, Int.reduceLE, Int.reduceEq, Int.reduceToNat, Nat.reduceMul]
          refine wends (by first | exact Or.inl rfl | exact Or.inr rfl) ?_ (by first | rfl | simp [AV.ids, idsL])
          simp only [go_sem, r_ref14_Same, hd, ↓reduceIte, Nat.reduceEqDiff, Nat.reduceAdd, Nat.reduceLeDiff, reduceCtorEq, Nat.reduceLT, Int.reduceLT, Int.reduceLE, Int.reduceEq, Int.reduceToNat, Nat.reduceMul]
      · have d1 : decide (a.length = b.length) = false := decide_eq_false h3
        have d2 : ∀ x : Int, decide (x = x) = true := fun x => decide_eq_true rfl
        have e : decide (m = m ∧ f = f ∧ a = b) = false := decide_eq_false (fun h => h3 (by rw [h.2.2]))
        rw [e]
        simp only [go_sem, s_ref14_Same, d1, d2, ↓reduceIte, Nat.reduceEqDiff, Nat.reduceAdd, Nat.reduceLeDiff, reduceCtorEq, Nat.reduceLT, Int.reduceLT, Int.reduceLE, Int.reduceEq, Int.reduceToNat, Nat.reduceMul]
        refine wends (by first | exact Or.inl rfl | exact Or.inr rfl) ?_ (by first | rfl | simp [AV.ids, idsL])
        simp only [go_sem, r_ref14_Same, ↓reduceIte, Nat.reduceEqDiff, Nat.reduceAdd, Nat.reduceLeDiff, reduceCtorEq, Nat.reduceLT, Int.reduceLT, Int.reduceLE, Int.reduceEq, Int.reduceToNat, Nat.reduceMul]
    · have d1 : decide (f = f') = false := decide_eq_false h2
      have d2 : ∀ x : Int, decide (x = x) = true := fun x => decide_eq_true rfl
      have e : decide (m = m ∧ f = f' ∧ a = b) = false := decide_eq_false (fun h => h2 h.2.1)
      rw [e]
      simp only [go_sem, s_ref14_Same, d1, d2, ↓reduceIte, Nat.reduceEqDiff, Nat.reduceAdd, Nat.reduceLeDiff, reduceCtorEq, Nat.reduceLT, Int.reduceLT, Int.reduceLE, Int.reduceEq, Int.reduceToNat, Nat.reduceMul]
      refine wends (by first | exact Or.inl rfl | exact Or.inr rfl) ?_ (by first | rfl | simp [AV.ids, idsL])
      simp only [go_sem, r_ref14_Same, ↓reduceIte, Nat.reduceEqDiff, Nat.reduceAdd, Nat.reduceLeDiff, reduceCtorEq, Nat.reduceLT, Int.reduceLT, Int.reduceLE, Int.reduceEq, Int.reduceToNat, Nat.reduceMul]
  · have d1 : decide (m = m') = false := decide_eq_false h1
    have e : decide (m = m' ∧ f = f' ∧ a = b) = false := decide_eq_false (fun h => h1 h.1)
    rw [e]
    simp only [go_sem, s_ref14_Same, d1, ↓reduceIte, Nat.reduceEqDiff, Nat.reduceAdd, Nat.reduceLeDiff, reduceCtorEq, Nat.reduceLT, Int.reduceLT, Int.reduceLE, Int.reduceEq, Int.reduceToNat, Nat.reduceMul]
    refine wends (by first | exact Or.inl rfl | exact Or.inr rfl) ?_ (by first | rfl | simp [AV.ids, idsL])
    simp only [go_sem, r_ref14_Same, ↓reduceIte, Nat.reduceEqDiff, Nat.reduceAdd, Nat.reduceLeDiff, reduceCtorEq, Nat.reduceLT, Int.reduceLT, Int.reduceLE, Int.reduceEq, Int.reduceToNat, Nat.reduceMul]

end Go.Proofs.YtmjlldlaigoflaaGreat
