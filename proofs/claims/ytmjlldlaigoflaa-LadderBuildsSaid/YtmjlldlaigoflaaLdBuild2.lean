/- The contract of the plain ladder that is built of slots. No statement of the seat is proved here. -/
import Derived.Test.YtmjlldlaigoflaaLdBuild
set_option linter.unusedSimpArgs false
set_option linter.unusedVariables false
namespace Go.Proofs.Ytmjlldlaigoflaa
open Go Go.Sx

set_option maxHeartbeats 1000000 in
theorem f_ref14_Build (rs : List Rung) (m f : Int) (xs : List Rec) (hrs : rs.length ≤ 9223372036854775807) (hn : xs.length ≤ 9223372036854775807) (hv : InV xs) :
    Meets Try.prog E0 n_ref14_Build [schV rs m f, recL xs] [] (.tp [ladV (bldM rs m f xs).1.1 (bldM rs m f xs).1.2.1 (bldM rs m f xs).1.2.2, I (bldM rs m f xs).2]) [] := by
  refine m_ref14_Build (by simp) (shut0 rfl) (shut0 rfl) (by simp) (by simp [keysOf]) ?_
  cases hc : howB m f && togB rs
  case false =>
    have e : bldM rs m f xs = ((0, 0, []), 1) := by simp [bldM, hc]
    have e2 : newLM rs m f = ((0, 0, []), 1) := by simp [newLM, hc]
    have b := f_ref14_New rs m f hrs
    rw [e2] at b
    rw [e]
    clear hc e e2 hv
    have hz1 : decide ((1 : Int) = 0) = false := rfl
    simp only [go_sem, s_ref14_Build, ↓reduceIte, Nat.reduceEqDiff, Nat.reduceAdd, Nat.reduceLeDiff, reduceCtorEq, Nat.reduceLT, Int.reduceLT, Int.reduceLE, Int.reduceEq, Int.reduceToNat, Nat.reduceMul]
    refine Cl_plain b ?_
    simp only [go_sem, hz1, ↓reduceIte, Nat.reduceEqDiff, Nat.reduceAdd, Nat.reduceLeDiff, reduceCtorEq, Nat.reduceLT, Int.reduceLT, Int.reduceLE, Int.reduceEq, Int.reduceToNat, Nat.reduceMul]
    refine wends2 [] [] (by first | exact Or.inl rfl | exact Or.inr rfl) ?_ (by simp [AV.ids, idsL]) (by simp [stoS]) (by simp [keysOf]) (by simp [stoOf, keysOf] <;> assumption) (by simp [keysOf]) (by simp [keysOf])
    simp only [go_sem, r_ref14_Build, exists_eq_left', Option.some.injEq, ↓reduceIte, Nat.reduceEqDiff, Nat.reduceAdd, Nat.reduceLeDiff, reduceCtorEq, Nat.reduceLT, Int.reduceLT, Int.reduceLE, Int.reduceEq, Int.reduceToNat, Nat.reduceMul]
    simp [wkV, wkL, slTrees, AV.asOwn, rowPart, stoOf, AV.isNil]
  have hcc := hc
  simp only [Bool.and_eq_true] at hcc
  have hlen := tog_len hcc.2
  have b := f_ref14_New_own 104 rs m f hrs hc
  have hz0 : decide ((0 : Int) = 0) = true := rfl
  simp only [go_sem, s_ref14_Build, ↓reduceIte, Nat.reduceEqDiff, Nat.reduceAdd, Nat.reduceLeDiff, reduceCtorEq, Nat.reduceLT, Int.reduceLT, Int.reduceLE, Int.reduceEq, Int.reduceToNat, Nat.reduceMul]
  refine Cl_new b (by simp [keysOf, stoOf]) (by simp [keysOf]) ?_
  simp only [go_sem, hz0, ↓reduceIte, Nat.reduceEqDiff, Nat.reduceAdd, Nat.reduceLeDiff, reduceCtorEq, Nat.reduceLT, Int.reduceLT, Int.reduceLE, Int.reduceEq, Int.reduceToNat, Nat.reduceMul]
  refine W_loop (fun x : Nat × List Ring => xs.length - x.1) (fun x => x.1 ≤ xs.length ∧ (∀ r ∈ x.2, goodR r) ∧ x.2.length = rs.length ∧ bldL (rs.map newR) xs = bldL x.2 (xs.drop x.1))
    (fun x => [(1, recL xs), (2, .ptr 100 0), (4, .ptr 101 0), (5, I 0), (6, .ptr 108 0), (8, I x.1)])
    (fun x => [(100, .box [slL rs, I m, I f]), (101, .box [I 0, I 0, .t (.v (.slice none 0 0))]), (108, .box [I m, I f, .own 999 2 0 rs.length true]), (999, .row 2 true (x.2.map rgT))])
    (0, rs.map newR) ⟨Nat.zero_le _, (map_new_ok (tog_all hcc.2)).1, by simp, by simp⟩ (subL [(999, 104)] [] (by simp [envS, go_sem, wkV, wkL, AV.ids, idsL, keysOf, ren, stoOf, slTrees, AV.asOwn, rowPart, AV.isNil] <;> assumption) (by simp [stoS, go_sem, wkV, wkL, wkO, AV.ids, Ob.ids, idsL, keysOf, ren, AV.one, stoOf, slTrees, AV.asOwn, rowPart, AV.isNil] <;> assumption) (by simp [keysOf, ren]) (by simp [stoOf, keysOf, ren]) (by simp [keysOf, ren]) (by simp [keysOf, ren])) ?_
  rintro ⟨i, l⟩ ⟨hi, hg, hl, hb⟩
  simp only at hi hg hl hb
  simp only [go_sem, ↓reduceIte, Nat.reduceEqDiff, Nat.reduceAdd, Nat.reduceLeDiff, reduceCtorEq, Nat.reduceLT, Int.reduceLT, Int.reduceLE, Int.reduceEq, Int.reduceToNat, Nat.reduceMul]
  refine W_split rfl (fun h => ?_) (fun h => ?_)
  · simp at h
    obtain ⟨x, hs⟩ := get_of_lt h
    have hvx := hv x (List.mem_of_getElem? hs)
    rw [drop_get hs] at hb
    have ei : IntKind.i64.wrap ((i : Int) + 1) = ((i + 1 : Nat) : Int) := by rw [wrap_i64_of (by omega) (by omega)]; omega
    have hbad : takeB l x = false → bldM rs m f xs = ((0, 0, []), 1) := fun h => bld_none hc (by rw [hb, bld_bad h])
    have hlz : decide ((x.2.2.2.2.1.length : Int) = 0) = decide (x.2.2.2.2.1.length = 0) := by rw [decide_eq_decide]; omega
    have es0 : binStr .neq x.2.1 (bs []) = some (.bool (!(x.2.1.toList == []))) := by simp only [binStr, nilL]
    cases p1 : decide (x.1 = 3)
    case false =>
      rw [hbad (by simp only [takeB, plainB, p1, Bool.and_false, Bool.false_and])]
      simp only [go_sem, hs, recT, es0, hlz, p1, ↓reduceIte, Nat.reduceEqDiff, Nat.reduceAdd, Nat.reduceLeDiff, reduceCtorEq, Nat.reduceLT, Int.reduceLT, Int.reduceLE, Int.reduceEq, Int.reduceToNat, Nat.reduceMul]
      ((try (with_reducible refine R_fin (by repeat' (first | exact okp0 | refine okp rfl rfl rfl ?_)) ?_)); (try simp only [go_sem, ↓reduceIte, Nat.reduceEqDiff, Nat.reduceAdd, Nat.reduceLeDiff, reduceCtorEq, Nat.reduceLT, Int.reduceLT, Int.reduceLE, Int.reduceEq, Int.reduceToNat, Nat.reduceMul]))
      refine wends2 [] [] (by first | exact Or.inl rfl | exact Or.inr rfl) ?_ (by simp [AV.ids, idsL]) (by simp [stoS]) (by simp [keysOf]) (by simp [stoOf, keysOf] <;> assumption) (by simp [keysOf]) (by simp [keysOf])
      simp only [go_sem, r_ref14_Build, exists_eq_left', Option.some.injEq, ↓reduceIte, Nat.reduceEqDiff, Nat.reduceAdd, Nat.reduceLeDiff, reduceCtorEq, Nat.reduceLT, Int.reduceLT, Int.reduceLE, Int.reduceEq, Int.reduceToNat, Nat.reduceMul]
      simp [wkV, wkL, slTrees, AV.asOwn, rowPart, stoOf, AV.isNil]
    cases p2 : (x.2.1.toList == [])
    case false =>
      rw [hbad (by simp only [takeB, plainB, p2, Bool.and_false, Bool.false_and])]
      simp only [go_sem, hs, recT, es0, hlz, p1, p2, ↓reduceIte, Nat.reduceEqDiff, Nat.reduceAdd, Nat.reduceLeDiff, reduceCtorEq, Nat.reduceLT, Int.reduceLT, Int.reduceLE, Int.reduceEq, Int.reduceToNat, Nat.reduceMul]
      ((try (with_reducible refine R_fin (by repeat' (first | exact okp0 | refine okp rfl rfl rfl ?_)) ?_)); (try simp only [go_sem, ↓reduceIte, Nat.reduceEqDiff, Nat.reduceAdd, Nat.reduceLeDiff, reduceCtorEq, Nat.reduceLT, Int.reduceLT, Int.reduceLE, Int.reduceEq, Int.reduceToNat, Nat.reduceMul]))
      refine wends2 [] [] (by first | exact Or.inl rfl | exact Or.inr rfl) ?_ (by simp [AV.ids, idsL]) (by simp [stoS]) (by simp [keysOf]) (by simp [stoOf, keysOf] <;> assumption) (by simp [keysOf]) (by simp [keysOf])
      simp only [go_sem, r_ref14_Build, exists_eq_left', Option.some.injEq, ↓reduceIte, Nat.reduceEqDiff, Nat.reduceAdd, Nat.reduceLeDiff, reduceCtorEq, Nat.reduceLT, Int.reduceLT, Int.reduceLE, Int.reduceEq, Int.reduceToNat, Nat.reduceMul]
      simp [wkV, wkL, slTrees, AV.asOwn, rowPart, stoOf, AV.isNil]
    cases p3 : decide (x.2.2.1 = 0)
    case false =>
      rw [hbad (by simp only [takeB, plainB, p3, Bool.and_false, Bool.false_and])]
      simp only [go_sem, hs, recT, es0, hlz, p1, p2, p3, ↓reduceIte, Nat.reduceEqDiff, Nat.reduceAdd, Nat.reduceLeDiff, reduceCtorEq, Nat.reduceLT, Int.reduceLT, Int.reduceLE, Int.reduceEq, Int.reduceToNat, Nat.reduceMul]
      ((try (with_reducible refine R_fin (by repeat' (first | exact okp0 | refine okp rfl rfl rfl ?_)) ?_)); (try simp only [go_sem, ↓reduceIte, Nat.reduceEqDiff, Nat.reduceAdd, Nat.reduceLeDiff, reduceCtorEq, Nat.reduceLT, Int.reduceLT, Int.reduceLE, Int.reduceEq, Int.reduceToNat, Nat.reduceMul]))
      refine wends2 [] [] (by first | exact Or.inl rfl | exact Or.inr rfl) ?_ (by simp [AV.ids, idsL]) (by simp [stoS]) (by simp [keysOf]) (by simp [stoOf, keysOf] <;> assumption) (by simp [keysOf]) (by simp [keysOf])
      simp only [go_sem, r_ref14_Build, exists_eq_left', Option.some.injEq, ↓reduceIte, Nat.reduceEqDiff, Nat.reduceAdd, Nat.reduceLeDiff, reduceCtorEq, Nat.reduceLT, Int.reduceLT, Int.reduceLE, Int.reduceEq, Int.reduceToNat, Nat.reduceMul]
      simp [wkV, wkL, slTrees, AV.asOwn, rowPart, stoOf, AV.isNil]
    cases p4 : decide (x.2.2.2.1 = 0)
    case false =>
      rw [hbad (by simp only [takeB, plainB, p4, Bool.and_false, Bool.false_and])]
      simp only [go_sem, hs, recT, es0, hlz, p1, p2, p3, p4, ↓reduceIte, Nat.reduceEqDiff, Nat.reduceAdd, Nat.reduceLeDiff, reduceCtorEq, Nat.reduceLT, Int.reduceLT, Int.reduceLE, Int.reduceEq, Int.reduceToNat, Nat.reduceMul]
      ((try (with_reducible refine R_fin (by repeat' (first | exact okp0 | refine okp rfl rfl rfl ?_)) ?_)); (try simp only [go_sem, ↓reduceIte, Nat.reduceEqDiff, Nat.reduceAdd, Nat.reduceLeDiff, reduceCtorEq, Nat.reduceLT, Int.reduceLT, Int.reduceLE, Int.reduceEq, Int.reduceToNat, Nat.reduceMul]))
      refine wends2 [] [] (by first | exact Or.inl rfl | exact Or.inr rfl) ?_ (by simp [AV.ids, idsL]) (by simp [stoS]) (by simp [keysOf]) (by simp [stoOf, keysOf] <;> assumption) (by simp [keysOf]) (by simp [keysOf])
      simp only [go_sem, r_ref14_Build, exists_eq_left', Option.some.injEq, ↓reduceIte, Nat.reduceEqDiff, Nat.reduceAdd, Nat.reduceLeDiff, reduceCtorEq, Nat.reduceLT, Int.reduceLT, Int.reduceLE, Int.reduceEq, Int.reduceToNat, Nat.reduceMul]
      simp [wkV, wkL, slTrees, AV.asOwn, rowPart, stoOf, AV.isNil]
    cases p5 : decide (x.2.2.2.2.1.length = 0)
    case false =>
      rw [hbad (by simp only [takeB, plainB, p5, Bool.and_false, Bool.false_and])]
      simp only [go_sem, hs, recT, es0, hlz, p1, p2, p3, p4, p5, ↓reduceIte, Nat.reduceEqDiff, Nat.reduceAdd, Nat.reduceLeDiff, reduceCtorEq, Nat.reduceLT, Int.reduceLT, Int.reduceLE, Int.reduceEq, Int.reduceToNat, Nat.reduceMul]
      ((try (with_reducible refine R_fin (by repeat' (first | exact okp0 | refine okp rfl rfl rfl ?_)) ?_)); (try simp only [go_sem, ↓reduceIte, Nat.reduceEqDiff, Nat.reduceAdd, Nat.reduceLeDiff, reduceCtorEq, Nat.reduceLT, Int.reduceLT, Int.reduceLE, Int.reduceEq, Int.reduceToNat, Nat.reduceMul]))
      refine wends2 [] [] (by first | exact Or.inl rfl | exact Or.inr rfl) ?_ (by simp [AV.ids, idsL]) (by simp [stoS]) (by simp [keysOf]) (by simp [stoOf, keysOf] <;> assumption) (by simp [keysOf]) (by simp [keysOf])
      simp only [go_sem, r_ref14_Build, exists_eq_left', Option.some.injEq, ↓reduceIte, Nat.reduceEqDiff, Nat.reduceAdd, Nat.reduceLeDiff, reduceCtorEq, Nat.reduceLT, Int.reduceLT, Int.reduceLE, Int.reduceEq, Int.reduceToNat, Nat.reduceMul]
      simp [wkV, wkL, slTrees, AV.asOwn, rowPart, stoOf, AV.isNil]
    cases p6 : decide (x.2.2.2.2.2.2.2.1 = 0)
    case false =>
      rw [hbad (by simp only [takeB, plainB, p6, Bool.and_false, Bool.false_and])]
      simp only [go_sem, hs, recT, es0, hlz, p1, p2, p3, p4, p5, p6, ↓reduceIte, Nat.reduceEqDiff, Nat.reduceAdd, Nat.reduceLeDiff, reduceCtorEq, Nat.reduceLT, Int.reduceLT, Int.reduceLE, Int.reduceEq, Int.reduceToNat, Nat.reduceMul]
      ((try (with_reducible refine R_fin (by repeat' (first | exact okp0 | refine okp rfl rfl rfl ?_)) ?_)); (try simp only [go_sem, ↓reduceIte, Nat.reduceEqDiff, Nat.reduceAdd, Nat.reduceLeDiff, reduceCtorEq, Nat.reduceLT, Int.reduceLT, Int.reduceLE, Int.reduceEq, Int.reduceToNat, Nat.reduceMul]))
      refine wends2 [] [] (by first | exact Or.inl rfl | exact Or.inr rfl) ?_ (by simp [AV.ids, idsL]) (by simp [stoS]) (by simp [keysOf]) (by simp [stoOf, keysOf] <;> assumption) (by simp [keysOf]) (by simp [keysOf])
      simp only [go_sem, r_ref14_Build, exists_eq_left', Option.some.injEq, ↓reduceIte, Nat.reduceEqDiff, Nat.reduceAdd, Nat.reduceLeDiff, reduceCtorEq, Nat.reduceLT, Int.reduceLT, Int.reduceLE, Int.reduceEq, Int.reduceToNat, Nat.reduceMul]
      simp [wkV, wkL, slTrees, AV.asOwn, rowPart, stoOf, AV.isNil]
    have hp : plainB x = true := by simp only [plainB, p1, p2, p3, p4, p5, p6, Bool.and_self]
    cases d1 : decide (x.rung < 0)
    case true =>
      rw [hbad (by simp [takeB, hp]; intro h; have := of_decide_eq_true d1; omega)]
      simp only [go_sem, hs, recT, es0, hlz, p1, p2, p3, p4, p5, p6, d1, ↓reduceIte, Nat.reduceEqDiff, Nat.reduceAdd, Nat.reduceLeDiff, reduceCtorEq, Nat.reduceLT, Int.reduceLT, Int.reduceLE, Int.reduceEq, Int.reduceToNat, Nat.reduceMul]
      ((try (with_reducible refine R_fin (by repeat' (first | exact okp0 | refine okp rfl rfl rfl ?_)) ?_)); (try simp only [go_sem, ↓reduceIte, Nat.reduceEqDiff, Nat.reduceAdd, Nat.reduceLeDiff, reduceCtorEq, Nat.reduceLT, Int.reduceLT, Int.reduceLE, Int.reduceEq, Int.reduceToNat, Nat.reduceMul]))
      refine wends2 [] [] (by first | exact Or.inl rfl | exact Or.inr rfl) ?_ (by simp [AV.ids, idsL]) (by simp [stoS]) (by simp [keysOf]) (by simp [stoOf, keysOf] <;> assumption) (by simp [keysOf]) (by simp [keysOf])
      simp only [go_sem, r_ref14_Build, exists_eq_left', Option.some.injEq, ↓reduceIte, Nat.reduceEqDiff, Nat.reduceAdd, Nat.reduceLeDiff, reduceCtorEq, Nat.reduceLT, Int.reduceLT, Int.reduceLE, Int.reduceEq, Int.reduceToNat, Nat.reduceMul]
      simp [wkV, wkL, slTrees, AV.asOwn, rowPart, stoOf, AV.isNil]
    have d1' := of_decide_eq_false d1
    cases d2 : decide ((rs.length : Int) ≤ x.rung)
    case true =>
      have d2' := of_decide_eq_true d2
      have hget : l[x.rung.toNat]? = none := List.getElem?_eq_none (by omega)
      rw [hbad (by simp [takeB, hp, hget])]
      simp only [go_sem, hs, recT, es0, hlz, p1, p2, p3, p4, p5, p6, d1, d2, ↓reduceIte, Nat.reduceEqDiff, Nat.reduceAdd, Nat.reduceLeDiff, reduceCtorEq, Nat.reduceLT, Int.reduceLT, Int.reduceLE, Int.reduceEq, Int.reduceToNat, Nat.reduceMul]
      ((try (with_reducible refine R_fin (by repeat' (first | exact okp0 | refine okp rfl rfl rfl ?_)) ?_)); (try simp only [go_sem, ↓reduceIte, Nat.reduceEqDiff, Nat.reduceAdd, Nat.reduceLeDiff, reduceCtorEq, Nat.reduceLT, Int.reduceLT, Int.reduceLE, Int.reduceEq, Int.reduceToNat, Nat.reduceMul]))
      refine wends2 [] [] (by first | exact Or.inl rfl | exact Or.inr rfl) ?_ (by simp [AV.ids, idsL]) (by simp [stoS]) (by simp [keysOf]) (by simp [stoOf, keysOf] <;> assumption) (by simp [keysOf]) (by simp [keysOf])
      simp only [go_sem, r_ref14_Build, exists_eq_left', Option.some.injEq, ↓reduceIte, Nat.reduceEqDiff, Nat.reduceAdd, Nat.reduceLeDiff, reduceCtorEq, Nat.reduceLT, Int.reduceLT, Int.reduceLE, Int.reduceEq, Int.reduceToNat, Nat.reduceMul]
      simp [wkV, wkL, slTrees, AV.asOwn, rowPart, stoOf, AV.isNil]
    have d2' := of_decide_eq_false d2
    obtain ⟨r, hr⟩ := get_of_lt (l := l) (i := x.rung.toNat) (by omega)
    have hgr := hg r (List.mem_of_getElem? hr)
    have hsz := ringB_sized hgr.1
    have hrg : ringB r.1 r.2 = true := hgr.1
    have bT := f_ref13_Timed x.time
    have r0 : 0 ≤ x.rung := by omega
    have rb : x.rung < (rs.length : Int) := by omega
    cases ht : timedB x.time
    case false =>
      rw [ht] at bT
      rw [hbad (by simp [takeB, hp, hr, ht])]
      simp only [go_sem, hs, recT, es0, hlz, p1, p2, p3, p4, p5, p6, d1, d2, ↓reduceIte, Nat.reduceEqDiff, Nat.reduceAdd, Nat.reduceLeDiff, reduceCtorEq, Nat.reduceLT, Int.reduceLT, Int.reduceLE, Int.reduceEq, Int.reduceToNat, Nat.reduceMul]
      refine Cl_plain bT ?_
      simp only [go_sem, ↓reduceIte, Nat.reduceEqDiff, Nat.reduceAdd, Nat.reduceLeDiff, reduceCtorEq, Nat.reduceLT, Int.reduceLT, Int.reduceLE, Int.reduceEq, Int.reduceToNat, Nat.reduceMul]
      ((try (with_reducible refine R_fin (by repeat' (first | exact okp0 | refine okp rfl rfl rfl ?_)) ?_)); (try simp only [go_sem, ↓reduceIte, Nat.reduceEqDiff, Nat.reduceAdd, Nat.reduceLeDiff, reduceCtorEq, Nat.reduceLT, Int.reduceLT, Int.reduceLE, Int.reduceEq, Int.reduceToNat, Nat.reduceMul]))
      refine wends2 [] [] (by first | exact Or.inl rfl | exact Or.inr rfl) ?_ (by simp [AV.ids, idsL]) (by simp [stoS]) (by simp [keysOf]) (by simp [stoOf, keysOf] <;> assumption) (by simp [keysOf]) (by simp [keysOf])
      simp only [go_sem, r_ref14_Build, exists_eq_left', Option.some.injEq, ↓reduceIte, Nat.reduceEqDiff, Nat.reduceAdd, Nat.reduceLeDiff, reduceCtorEq, Nat.reduceLT, Int.reduceLT, Int.reduceLE, Int.reduceEq, Int.reduceToNat, Nat.reduceMul]
      simp [wkV, wkL, slTrees, AV.asOwn, rowPart, stoOf, AV.isNil]
    rw [ht] at bT
    have hw0 : ¬ r.1 = 0 := by omega
    have hrem := i64_rem (a := x.time) hw0
    rw [smod (timedB_iff.1 ht).1] at hrem
    cases d3 : decide (x.time % r.1 = 0)
    case false =>
      rw [hbad (by simp [takeB, hp, hr, ht, d3])]
      simp only [go_sem, hs, recT, es0, hlz, p1, p2, p3, p4, p5, p6, d1, d2, ↓reduceIte, Nat.reduceEqDiff, Nat.reduceAdd, Nat.reduceLeDiff, reduceCtorEq, Nat.reduceLT, Int.reduceLT, Int.reduceLE, Int.reduceEq, Int.reduceToNat, Nat.reduceMul]
      refine Cl_plain bT ?_
      simp only [go_sem, r0, rb, hr, rgT, hrem, d3, ↓reduceIte, Nat.reduceEqDiff, Nat.reduceAdd, Nat.reduceLeDiff, reduceCtorEq, Nat.reduceLT, Int.reduceLT, Int.reduceLE, Int.reduceEq, Int.reduceToNat, Nat.reduceMul]
      ((try (with_reducible refine R_fin (by repeat' (first | exact okp0 | refine okp rfl rfl rfl ?_)) ?_)); (try simp only [go_sem, ↓reduceIte, Nat.reduceEqDiff, Nat.reduceAdd, Nat.reduceLeDiff, reduceCtorEq, Nat.reduceLT, Int.reduceLT, Int.reduceLE, Int.reduceEq, Int.reduceToNat, Nat.reduceMul]))
      refine wends2 [] [] (by first | exact Or.inl rfl | exact Or.inr rfl) ?_ (by simp [AV.ids, idsL]) (by simp [stoS]) (by simp [keysOf]) (by simp [stoOf, keysOf] <;> assumption) (by simp [keysOf]) (by simp [keysOf])
      simp only [go_sem, r_ref14_Build, exists_eq_left', Option.some.injEq, ↓reduceIte, Nat.reduceEqDiff, Nat.reduceAdd, Nat.reduceLeDiff, reduceCtorEq, Nat.reduceLT, Int.reduceLT, Int.reduceLE, Int.reduceEq, Int.reduceToNat, Nat.reduceMul]
      simp [wkV, wkL, slTrees, AV.asOwn, rowPart, stoOf, AV.isNil]
    cases d4 : decide (x.value = -9223372036854775808)
    case true =>
      rw [hbad (by simp [takeB, hp, hr, ht, d3, d4])]
      simp only [go_sem, hs, recT, es0, hlz, p1, p2, p3, p4, p5, p6, d1, d2, ↓reduceIte, Nat.reduceEqDiff, Nat.reduceAdd, Nat.reduceLeDiff, reduceCtorEq, Nat.reduceLT, Int.reduceLT, Int.reduceLE, Int.reduceEq, Int.reduceToNat, Nat.reduceMul]
      refine Cl_plain bT ?_
      simp only [go_sem, r0, rb, hr, rgT, hrem, d3, d4, ↓reduceIte, Nat.reduceEqDiff, Nat.reduceAdd, Nat.reduceLeDiff, reduceCtorEq, Nat.reduceLT, Int.reduceLT, Int.reduceLE, Int.reduceEq, Int.reduceToNat, Nat.reduceMul]
      ((try (with_reducible refine R_fin (by repeat' (first | exact okp0 | refine okp rfl rfl rfl ?_)) ?_)); (try simp only [go_sem, ↓reduceIte, Nat.reduceEqDiff, Nat.reduceAdd, Nat.reduceLeDiff, reduceCtorEq, Nat.reduceLT, Int.reduceLT, Int.reduceLE, Int.reduceEq, Int.reduceToNat, Nat.reduceMul]))
      refine wends2 [] [] (by first | exact Or.inl rfl | exact Or.inr rfl) ?_ (by simp [AV.ids, idsL]) (by simp [stoS]) (by simp [keysOf]) (by simp [stoOf, keysOf] <;> assumption) (by simp [keysOf]) (by simp [keysOf])
      simp only [go_sem, r_ref14_Build, exists_eq_left', Option.some.injEq, ↓reduceIte, Nat.reduceEqDiff, Nat.reduceAdd, Nat.reduceLeDiff, reduceCtorEq, Nat.reduceLT, Int.reduceLT, Int.reduceLE, Int.reduceEq, Int.reduceToNat, Nat.reduceMul]
      simp [wkV, wkL, slTrees, AV.asOwn, rowPart, stoOf, AV.isNil]
    have hvv := of_decide_eq_false d4
    have bS := f_ref13_Set r.1 x.time x.value r.2 (by omega)
    have hgl : ∀ e : Ring, (l.map rgT).set x.rung.toNat (rgT e) = (l.set x.rung.toNat e).map rgT := fun e => List.map_set.symm
    have htk : takeB l x = true := by simp [takeB, hp, hr, ht, d3, hvv, r0]
    obtain ⟨pg, pl⟩ := put_good hg htk hvx.1.2 hvx.1.1
    have ep : putL l x = l.set x.rung.toNat (setR r x.time x.value) := by unfold putL; rw [hr]
    have hrT : [T.v (.int .i64 r.1), T.sl 2 ((setM r.1 r.2 x.time x.value).1.map slT)] = rgT (setR r x.time x.value) := rfl
    simp only [go_sem, hs, recT, es0, hlz, p1, p2, p3, p4, p5, p6, d1, d2, ↓reduceIte, Nat.reduceEqDiff, Nat.reduceAdd, Nat.reduceLeDiff, reduceCtorEq, Nat.reduceLT, Int.reduceLT, Int.reduceLE, Int.reduceEq, Int.reduceToNat, Nat.reduceMul]
    refine Cl_plain bT ?_
    simp only [go_sem, r0, rb, hr, rgT, hrem, d3, d4, ↓reduceIte, Nat.reduceEqDiff, Nat.reduceAdd, Nat.reduceLeDiff, reduceCtorEq, Nat.reduceLT, Int.reduceLT, Int.reduceLE, Int.reduceEq, Int.reduceToNat, Nat.reduceMul]
    ((try (with_reducible refine R_fin (by repeat' (first | exact okp0 | refine okp rfl rfl rfl ?_)) ?_)); (try simp only [go_sem, r0, rb, hr, rgT, ↓reduceIte, Nat.reduceEqDiff, Nat.reduceAdd, Nat.reduceLeDiff, reduceCtorEq, Nat.reduceLT, Int.reduceLT, Int.reduceLE, Int.reduceEq, Int.reduceToNat, Nat.reduceMul]))
    refine Cl_plain bS ?_
    simp only [go_sem, r0, rb, hrT, hr, rgT_len, rgT_drop, hgl, ei, ↓reduceIte, Nat.reduceEqDiff, Nat.reduceAdd, Nat.reduceLeDiff, reduceCtorEq, Nat.reduceLT, Int.reduceLT, Int.reduceLE, Int.reduceEq, Int.reduceToNat, Nat.reduceMul]
    ((try (with_reducible refine R_fin (by repeat' (first | exact okp0 | refine okp rfl rfl rfl ?_)) ?_)); (try simp only [go_sem, r0, rb, hrT, hr, rgT_len, rgT_drop, hgl, ei, ↓reduceIte, Nat.reduceEqDiff, Nat.reduceAdd, Nat.reduceLeDiff, reduceCtorEq, Nat.reduceLT, Int.reduceLT, Int.reduceLE, Int.reduceEq, Int.reduceToNat, Nat.reduceMul]))
    refine rd_of (i + 1, putL l x) (by simp only; omega) ⟨by simp only; omega, pg, by simp only; omega, by rw [hb, bld_step htk]⟩ ?_
    rw [ep]
    exact (subL [] [] (by simp [envS, go_sem, wkV, wkL, AV.ids, idsL, keysOf, ren, stoOf, slTrees, AV.asOwn, rowPart, AV.isNil] <;> assumption) (by simp [stoS, go_sem, wkV, wkL, wkO, AV.ids, Ob.ids, idsL, keysOf, ren, AV.one, stoOf, slTrees, AV.asOwn, rowPart, AV.isNil] <;> assumption) (by simp [keysOf, ren]) (by simp [stoOf, keysOf, ren]) (by simp [keysOf, ren]) (by simp [keysOf, ren]))
  · have e : i = xs.length := by simp at h; omega
    subst e
    rw [List.drop_length] at hb
    rw [bld_some hc hb]
    simp only [go_sem, ↓reduceIte, Nat.reduceEqDiff, Nat.reduceAdd, Nat.reduceLeDiff, reduceCtorEq, Nat.reduceLT, Int.reduceLT, Int.reduceLE, Int.reduceEq, Int.reduceToNat, Nat.reduceMul]
    refine wends2 [] [999] (by first | exact Or.inl rfl | exact Or.inr rfl) ?_ (by simp [AV.ids, idsL]) (by simp [stoS]) (by simp [keysOf]) (by simp [stoOf, keysOf] <;> assumption) (by simp [keysOf]) (by simp [keysOf])
    simp only [go_sem, r_ref14_Build, exists_eq_left', Option.some.injEq, ↓reduceIte, Nat.reduceEqDiff, Nat.reduceAdd, Nat.reduceLeDiff, reduceCtorEq, Nat.reduceLT, Int.reduceLT, Int.reduceLE, Int.reduceEq, Int.reduceToNat, Nat.reduceMul]
    simp [wkV, wkL, slTrees, AV.asOwn, rowPart, stoOf, AV.isNil, List.take_of_length_le, hl]

end Go.Proofs.Ytmjlldlaigoflaa
