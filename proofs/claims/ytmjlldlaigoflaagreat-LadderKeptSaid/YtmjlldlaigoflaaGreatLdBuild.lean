/- The contracts of ladders that are built of slots. No statement of the seat is proved here. -/
import Derived.Test.YtmjlldlaigoflaaGreatLdBuildM
import Derived.Test.YtmjlldlaigoflaaGreatLdLaw2
import Derived.Test.YtmjlldlaigoflaaGreatLdCoarM
set_option linter.unusedSimpArgs false
set_option linter.unusedVariables false
namespace Go.Proofs.YtmjlldlaigoflaaGreat
open Go Go.Sx

abbrev recL (l : List Rec) : AV := .t (.sl 9 (l.map recT))

theorem put_good {l : List Ring} {x : Rec} (hl : ∀ r ∈ l, goodR r) (h : takeB l x = true) (hb : x.value < 9223372036854775808) (hb0 : -9223372036854775808 ≤ x.value) : (∀ r ∈ putL l x, goodR r) ∧ (putL l x).length = l.length := by
  obtain ⟨h1, h2, r, hr, h3, h4, h5⟩ := take_split h
  unfold putL
  rw [hr]
  refine ⟨?_, by simp⟩
  intro q hq
  rcases List.mem_or_eq_of_mem_set hq with hq | hq
  · exact hl q hq
  · subst hq
    exact (set_good (hl r (List.mem_of_getElem? hr)) h3 (by omega) hb).1

theorem bld_step {l : List Ring} {x : Rec} {xs : List Rec} (h : takeB l x = true) : bldL l (x :: xs) = bldL (putL l x) xs := by simp [bldL, h]
theorem bld_bad {l : List Ring} {x : Rec} {xs : List Rec} (h : takeB l x = false) : bldL l (x :: xs) = none := by simp [bldL, h]

theorem bld_none {rs : List Rung} {m f : Int} {xs : List Rec} (h : (howB m f && togB rs) = true) (h2 : bldL (rs.map newR) xs = none) : bldM rs m f xs = ((0, 0, []), 1) := by
  unfold bldM; rw [if_pos h, h2]
theorem bld_some {rs : List Rung} {m f : Int} {xs : List Rec} {l : List Ring} (h : (howB m f && togB rs) = true) (h2 : bldL (rs.map newR) xs = some l) : bldM rs m f xs = ((m, f, l), 0) := by
  unfold bldM; rw [if_pos h, h2]
def InV (xs : List Rec) : Prop := ∀ x ∈ xs, (-9223372036854775808 ≤ x.value ∧ x.value < 9223372036854775808) ∧ (-9223372036854775808 ≤ x.rung ∧ x.rung < 9223372036854775808)

set_option maxHeartbeats 1000000 in
theorem f_ladder_Build (rs : List Rung) (m f : Int) (xs : List Rec) (hrs : rs.length ≤ 9223372036854775807) (hn : xs.length ≤ 9223372036854775807) (hv : InV xs) :
    Meets Tryz.prog E0 n_ladder_Build [schV rs m f, recL xs] [] (.tp [ladV (bldM rs m f xs).1.1 (bldM rs m f xs).1.2.1 (bldM rs m f xs).1.2.2, I (bldM rs m f xs).2]) [] := by
  refine m_ladder_Build (by simp) (shut0 rfl) (shut0 rfl) (by simp) (by simp [keysOf]) ?_
  cases hc : howB m f && togB rs
  case false =>
    have e : bldM rs m f xs = ((0, 0, []), 1) := by simp [bldM, hc]
    have e2 : newLM rs m f = ((0, 0, []), 1) := by simp [newLM, hc]
    have b := f_ladder_New rs m f
    rw [e2] at b
    rw [e]
    clear hc e e2 hv
    have hz1 : decide ((1 : Int) = 0) = false := rfl
    simp only [go_sem, s_ladder_Build, ↓reduceIte, Nat.reduceEqDiff, Nat.reduceAdd, Nat.reduceLeDiff, reduceCtorEq, Nat.reduceLT, Int.reduceLT, Int.reduceLE, Int.reduceEq, Int.reduceToNat, Nat.reduceMul]
    refine Cl_plain b ?_
    simp only [go_sem, hz1, ↓reduceIte, Nat.reduceEqDiff, Nat.reduceAdd, Nat.reduceLeDiff, reduceCtorEq, Nat.reduceLT, Int.reduceLT, Int.reduceLE, Int.reduceEq, Int.reduceToNat, Nat.reduceMul]
    refine wends2 [] [] (by first | exact Or.inl rfl | exact Or.inr rfl) ?_ (by simp [AV.ids, idsL]) (by simp [stoS]) (by simp [keysOf]) (by simp [stoOf, keysOf] <;> assumption) (by simp [keysOf]) (by simp [keysOf])
    simp only [go_sem, r_ladder_Build, exists_eq_left', Option.some.injEq, ↓reduceIte, Nat.reduceEqDiff, Nat.reduceAdd, Nat.reduceLeDiff, reduceCtorEq, Nat.reduceLT, Int.reduceLT, Int.reduceLE, Int.reduceEq, Int.reduceToNat, Nat.reduceMul]
    simp [wkV, wkL, slTrees, AV.asOwn, rowPart, stoOf, AV.isNil]
  have hcc := hc
  simp only [Bool.and_eq_true] at hcc
  have hlen := tog_len hcc.2
  have b := f_ladder_New_own 104 rs m f hc
  have hz0 : decide ((0 : Int) = 0) = true := rfl
  simp only [go_sem, s_ladder_Build, ↓reduceIte, Nat.reduceEqDiff, Nat.reduceAdd, Nat.reduceLeDiff, reduceCtorEq, Nat.reduceLT, Int.reduceLT, Int.reduceLE, Int.reduceEq, Int.reduceToNat, Nat.reduceMul]
  refine Cl_new b (by simp [keysOf, stoOf]) (by simp [keysOf]) ?_
  simp only [go_sem, hz0, ↓reduceIte, Nat.reduceEqDiff, Nat.reduceAdd, Nat.reduceLeDiff, reduceCtorEq, Nat.reduceLT, Int.reduceLT, Int.reduceLE, Int.reduceEq, Int.reduceToNat, Nat.reduceMul]
  refine W_loop (fun x : Nat × List Ring => xs.length - x.1) (fun x => x.1 ≤ xs.length ∧ (∀ r ∈ x.2, goodR r) ∧ x.2.length = rs.length ∧ bldL (rs.map newR) xs = bldL x.2 (xs.drop x.1))
    (fun x => [(1, recL xs), (2, .ptr 100 0), (4, .ptr 101 0), (5, I 0), (6, .ptr 108 0), (22, recL xs), (23, I xs.length), (24, I x.1)])
    (fun x => [(100, .box [slL rs, I m, I f]), (101, .box [I 0, I 0, .t (.v (.slice none 0 0))]), (108, .box [I m, I f, .own 999 2 0 rs.length true]), (999, .row 2 true (x.2.map rgT))])
    (0, rs.map newR) ⟨Nat.zero_le _, (map_new_ok (tog_all hcc.2)).1, by simp, by simp⟩ (subL [(999, 104)] [] (by simp [envS, go_sem, wkV, wkL, AV.ids, idsL, keysOf, ren, stoOf, slTrees, AV.asOwn, rowPart, AV.isNil] <;> assumption) (by simp [stoS, go_sem, wkV, wkL, wkO, AV.ids, Ob.ids, idsL, keysOf, ren, AV.one, stoOf, slTrees, AV.asOwn, rowPart, AV.isNil] <;> assumption) (by simp [keysOf, ren]) (by simp [stoOf, keysOf, ren]) (by simp [keysOf, ren]) (by simp [keysOf, ren])) ?_
  rintro ⟨i, l⟩ ⟨hi, hg, hl, hb⟩
  simp only at hi hg hl hb
  simp only [go_sem, ↓reduceIte, Nat.reduceEqDiff, Nat.reduceAdd, Nat.reduceLeDiff, reduceCtorEq, Nat.reduceLT, Int.reduceLT, Int.reduceLE, Int.reduceEq, Int.reduceToNat, Nat.reduceMul]
  refine W_split rfl (fun h => ?_) (fun h => ?_)
  · simp at h
    obtain ⟨x, hs⟩ := get_of_lt h
    have hvx := hv x (List.mem_of_getElem? hs)
    rw [drop_get hs] at hb
    have ei : IntKind.i64.wrap ((i : Int) + 1) = ((i + 1 : Nat) : Int) := by rw [wrap_i64_of (by omega) (by omega)]; omega
    have hbad : takeB l x = false → bldM rs m f xs = ((0, 0, []), 1) := fun h => bld_none hc (by rw [hb, bld_bad h])
    have bp := f_ladder_plain x
    simp only [recT, List.map] at bp
    cases hp : plainB x
    case false =>
      rw [hbad (by simp [takeB, hp])]
      rw [hp] at bp
      simp only [go_sem, hs, recT, ↓reduceIte, Nat.reduceEqDiff, Nat.reduceAdd, Nat.reduceLeDiff, reduceCtorEq, Nat.reduceLT, Int.reduceLT, Int.reduceLE, Int.reduceEq, Int.reduceToNat, Nat.reduceMul]
      refine Cl_plain bp ?_
      simp only [go_sem, ↓reduceIte, Nat.reduceEqDiff, Nat.reduceAdd, Nat.reduceLeDiff, reduceCtorEq, Nat.reduceLT, Int.reduceLT, Int.reduceLE, Int.reduceEq, Int.reduceToNat, Nat.reduceMul]
      refine wends2 [] [] (by first | exact Or.inl rfl | exact Or.inr rfl) ?_ (by simp [AV.ids, idsL]) (by simp [stoS]) (by simp [keysOf]) (by simp [stoOf, keysOf] <;> assumption) (by simp [keysOf]) (by simp [keysOf])
      simp only [go_sem, r_ladder_Build, exists_eq_left', Option.some.injEq, ↓reduceIte, Nat.reduceEqDiff, Nat.reduceAdd, Nat.reduceLeDiff, reduceCtorEq, Nat.reduceLT, Int.reduceLT, Int.reduceLE, Int.reduceEq, Int.reduceToNat, Nat.reduceMul]
      simp [wkV, wkL, slTrees, AV.asOwn, rowPart, stoOf, AV.isNil]
    rw [hp] at bp
    cases d1 : decide (x.rung < 0)
    case true =>
      have d1' := of_decide_eq_true d1
      rw [hbad (by simp [takeB, hp]; intro h; omega)]
      simp only [go_sem, hs, recT, ↓reduceIte, Nat.reduceEqDiff, Nat.reduceAdd, Nat.reduceLeDiff, reduceCtorEq, Nat.reduceLT, Int.reduceLT, Int.reduceLE, Int.reduceEq, Int.reduceToNat, Nat.reduceMul]
      refine Cl_plain bp ?_
      simp only [go_sem, d1, ↓reduceIte, Nat.reduceEqDiff, Nat.reduceAdd, Nat.reduceLeDiff, reduceCtorEq, Nat.reduceLT, Int.reduceLT, Int.reduceLE, Int.reduceEq, Int.reduceToNat, Nat.reduceMul]
      refine wends2 [] [] (by first | exact Or.inl rfl | exact Or.inr rfl) ?_ (by simp [AV.ids, idsL]) (by simp [stoS]) (by simp [keysOf]) (by simp [stoOf, keysOf] <;> assumption) (by simp [keysOf]) (by simp [keysOf])
      simp only [go_sem, r_ladder_Build, exists_eq_left', Option.some.injEq, ↓reduceIte, Nat.reduceEqDiff, Nat.reduceAdd, Nat.reduceLeDiff, reduceCtorEq, Nat.reduceLT, Int.reduceLT, Int.reduceLE, Int.reduceEq, Int.reduceToNat, Nat.reduceMul]
      simp [wkV, wkL, slTrees, AV.asOwn, rowPart, stoOf, AV.isNil]
    have d1' := of_decide_eq_false d1
    cases d2 : decide ((rs.length : Int) ≤ x.rung)
    case true =>
      have d2' := of_decide_eq_true d2
      have hget : l[x.rung.toNat]? = none := List.getElem?_eq_none (by omega)
      rw [hbad (by simp [takeB, hp, hget])]
      simp only [go_sem, hs, recT, ↓reduceIte, Nat.reduceEqDiff, Nat.reduceAdd, Nat.reduceLeDiff, reduceCtorEq, Nat.reduceLT, Int.reduceLT, Int.reduceLE, Int.reduceEq, Int.reduceToNat, Nat.reduceMul]
      refine Cl_plain bp ?_
      simp only [go_sem, d1, d2, ↓reduceIte, Nat.reduceEqDiff, Nat.reduceAdd, Nat.reduceLeDiff, reduceCtorEq, Nat.reduceLT, Int.reduceLT, Int.reduceLE, Int.reduceEq, Int.reduceToNat, Nat.reduceMul]
      refine wends2 [] [] (by first | exact Or.inl rfl | exact Or.inr rfl) ?_ (by simp [AV.ids, idsL]) (by simp [stoS]) (by simp [keysOf]) (by simp [stoOf, keysOf] <;> assumption) (by simp [keysOf]) (by simp [keysOf])
      simp only [go_sem, r_ladder_Build, exists_eq_left', Option.some.injEq, ↓reduceIte, Nat.reduceEqDiff, Nat.reduceAdd, Nat.reduceLeDiff, reduceCtorEq, Nat.reduceLT, Int.reduceLT, Int.reduceLE, Int.reduceEq, Int.reduceToNat, Nat.reduceMul]
      simp [wkV, wkL, slTrees, AV.asOwn, rowPart, stoOf, AV.isNil]
    have d2' := of_decide_eq_false d2
    obtain ⟨r, hr⟩ := get_of_lt (l := l) (i := x.rung.toNat) (by omega)
    have hgr := hg r (List.mem_of_getElem? hr)
    have hsz := ringB_sized hgr.1
    have hrg : ringB r.1 r.2 = true := hgr.1
    have bA := f_ring_Align r.1 r.2 x.time
    have r0 : 0 ≤ x.rung := by omega
    have rb : x.rung < (rs.length : Int) := by omega
    cases ht : timedB x.time
    case false =>
      have eA : alignM r.1 r.2 x.time = (0, 1) := by simp [alignM, ht]
      rw [eA] at bA
      rw [hbad (by simp [takeB, hp, hr, ht])]
      have hz1 : decide ((1 : Int) = 0) = false := rfl
      simp only [go_sem, hs, recT, ↓reduceIte, Nat.reduceEqDiff, Nat.reduceAdd, Nat.reduceLeDiff, reduceCtorEq, Nat.reduceLT, Int.reduceLT, Int.reduceLE, Int.reduceEq, Int.reduceToNat, Nat.reduceMul]
      refine Cl_plain bp ?_
      simp only [go_sem, d1, d2, r0, rb, hr, rgT, ↓reduceIte, Nat.reduceEqDiff, Nat.reduceAdd, Nat.reduceLeDiff, reduceCtorEq, Nat.reduceLT, Int.reduceLT, Int.reduceLE, Int.reduceEq, Int.reduceToNat, Nat.reduceMul]
      refine Cl_plain bA ?_
      simp only [go_sem, hz1, ↓reduceIte, Nat.reduceEqDiff, Nat.reduceAdd, Nat.reduceLeDiff, reduceCtorEq, Nat.reduceLT, Int.reduceLT, Int.reduceLE, Int.reduceEq, Int.reduceToNat, Nat.reduceMul]
      refine wends2 [] [] (by first | exact Or.inl rfl | exact Or.inr rfl) ?_ (by simp [AV.ids, idsL]) (by simp [stoS]) (by simp [keysOf]) (by simp [stoOf, keysOf] <;> assumption) (by simp [keysOf]) (by simp [keysOf])
      simp only [go_sem, r_ladder_Build, exists_eq_left', Option.some.injEq, ↓reduceIte, Nat.reduceEqDiff, Nat.reduceAdd, Nat.reduceLeDiff, reduceCtorEq, Nat.reduceLT, Int.reduceLT, Int.reduceLE, Int.reduceEq, Int.reduceToNat, Nat.reduceMul]
      simp [wkV, wkL, slTrees, AV.asOwn, rowPart, stoOf, AV.isNil]
    have eA : alignM r.1 r.2 x.time = (x.time - x.time % r.1, 0) := by simp [alignM, ht, hrg]
    rw [eA] at bA
    have dm : decide (x.time - x.time % r.1 = x.time) = decide (x.time % r.1 = 0) := by rw [decide_eq_decide]; omega
    cases d3 : decide (x.time % r.1 = 0)
    case false =>
      rw [hbad (by simp [takeB, hp, hr, ht, d3])]
      rw [d3] at dm
      simp only [go_sem, hs, recT, ↓reduceIte, Nat.reduceEqDiff, Nat.reduceAdd, Nat.reduceLeDiff, reduceCtorEq, Nat.reduceLT, Int.reduceLT, Int.reduceLE, Int.reduceEq, Int.reduceToNat, Nat.reduceMul]
      refine Cl_plain bp ?_
      simp only [go_sem, d1, d2, r0, rb, hr, rgT, ↓reduceIte, Nat.reduceEqDiff, Nat.reduceAdd, Nat.reduceLeDiff, reduceCtorEq, Nat.reduceLT, Int.reduceLT, Int.reduceLE, Int.reduceEq, Int.reduceToNat, Nat.reduceMul]
      refine Cl_plain bA ?_
      simp only [go_sem, hz0, dm, ↓reduceIte, Nat.reduceEqDiff, Nat.reduceAdd, Nat.reduceLeDiff, reduceCtorEq, Nat.reduceLT, Int.reduceLT, Int.reduceLE, Int.reduceEq, Int.reduceToNat, Nat.reduceMul]
      refine wends2 [] [] (by first | exact Or.inl rfl | exact Or.inr rfl) ?_ (by simp [AV.ids, idsL]) (by simp [stoS]) (by simp [keysOf]) (by simp [stoOf, keysOf] <;> assumption) (by simp [keysOf]) (by simp [keysOf])
      simp only [go_sem, r_ladder_Build, exists_eq_left', Option.some.injEq, ↓reduceIte, Nat.reduceEqDiff, Nat.reduceAdd, Nat.reduceLeDiff, reduceCtorEq, Nat.reduceLT, Int.reduceLT, Int.reduceLE, Int.reduceEq, Int.reduceToNat, Nat.reduceMul]
      simp [wkV, wkL, slTrees, AV.asOwn, rowPart, stoOf, AV.isNil]
    rw [d3] at dm
    have bS := f_ring_Set r.1 x.time x.value r.2 (by omega)
    have hgl : ∀ e : Ring, (l.map rgT).set x.rung.toNat (rgT e) = (l.set x.rung.toNat e).map rgT := fun e => List.map_set.symm
    by_cases hvv : x.value = -9223372036854775808
    · have eS : setM r.1 r.2 x.time x.value = (r.2, 1) := setM_bad (by simp [hvv])
      rw [eS] at bS
      rw [hbad (by simp [takeB, hp, hr, ht, d3, hvv])]
      have hrT : [T.v (.int .i64 r.1), T.sl 2 (r.2.map slT)] = rgT r := rfl
      have hz1 : decide ((1 : Int) = 0) = false := rfl
      simp only [go_sem, hs, recT, ↓reduceIte, Nat.reduceEqDiff, Nat.reduceAdd, Nat.reduceLeDiff, reduceCtorEq, Nat.reduceLT, Int.reduceLT, Int.reduceLE, Int.reduceEq, Int.reduceToNat, Nat.reduceMul]
      refine Cl_plain bp ?_
      simp only [go_sem, d1, d2, r0, rb, hr, rgT, ↓reduceIte, Nat.reduceEqDiff, Nat.reduceAdd, Nat.reduceLeDiff, reduceCtorEq, Nat.reduceLT, Int.reduceLT, Int.reduceLE, Int.reduceEq, Int.reduceToNat, Nat.reduceMul]
      refine Cl_plain bA ?_
      simp only [go_sem, hz0, dm, r0, rb, ↓reduceIte, Nat.reduceEqDiff, Nat.reduceAdd, Nat.reduceLeDiff, reduceCtorEq, Nat.reduceLT, Int.reduceLT, Int.reduceLE, Int.reduceEq, Int.reduceToNat, Nat.reduceMul]
      refine Cl_plain bS ?_
      simp only [go_sem, hz0, r0, rb, hrT, hr, rgT_len, rgT_drop, hgl, ↓reduceIte, Nat.reduceEqDiff, Nat.reduceAdd, Nat.reduceLeDiff, reduceCtorEq, Nat.reduceLT, Int.reduceLT, Int.reduceLE, Int.reduceEq, Int.reduceToNat, Nat.reduceMul]
      ((try (with_reducible refine R_fin (by repeat' (first | exact okp0 | refine okp rfl rfl rfl ?_)) ?_)); (try simp only [go_sem, hz0, hz1, r0, rb, hrT, hr, rgT_len, rgT_drop, hgl, ↓reduceIte, Nat.reduceEqDiff, Nat.reduceAdd, Nat.reduceLeDiff, reduceCtorEq, Nat.reduceLT, Int.reduceLT, Int.reduceLE, Int.reduceEq, Int.reduceToNat, Nat.reduceMul]))
      refine wends2 [] [] (by first | exact Or.inl rfl | exact Or.inr rfl) ?_ (by simp [AV.ids, idsL]) (by simp [stoS]) (by simp [keysOf]) (by simp [stoOf, keysOf] <;> assumption) (by simp [keysOf]) (by simp [keysOf])
      simp only [go_sem, r_ladder_Build, exists_eq_left', Option.some.injEq, ↓reduceIte, Nat.reduceEqDiff, Nat.reduceAdd, Nat.reduceLeDiff, reduceCtorEq, Nat.reduceLT, Int.reduceLT, Int.reduceLE, Int.reduceEq, Int.reduceToNat, Nat.reduceMul]
      simp [wkV, wkL, slTrees, AV.asOwn, rowPart, stoOf, AV.isNil]
    have htk : takeB l x = true := by simp [takeB, hp, hr, ht, d3, hvv, r0]
    obtain ⟨pg, pl⟩ := put_good hg htk hvx.1.2 hvx.1.1
    have ep : putL l x = l.set x.rung.toNat (setR r x.time x.value) := by unfold putL; rw [hr]
    have eS := setM_ok hrg ht hvv
    have eS2 : (setM r.1 r.2 x.time x.value).2 = 0 := by rw [eS]
    rw [eS2] at bS
    have hrT : [T.v (.int .i64 r.1), T.sl 2 ((setM r.1 r.2 x.time x.value).1.map slT)] = rgT (setR r x.time x.value) := rfl
    simp only [go_sem, hs, recT, ↓reduceIte, Nat.reduceEqDiff, Nat.reduceAdd, Nat.reduceLeDiff, reduceCtorEq, Nat.reduceLT, Int.reduceLT, Int.reduceLE, Int.reduceEq, Int.reduceToNat, Nat.reduceMul]
    refine Cl_plain bp ?_
    simp only [go_sem, d1, d2, r0, rb, hr, rgT, ↓reduceIte, Nat.reduceEqDiff, Nat.reduceAdd, Nat.reduceLeDiff, reduceCtorEq, Nat.reduceLT, Int.reduceLT, Int.reduceLE, Int.reduceEq, Int.reduceToNat, Nat.reduceMul]
    refine Cl_plain bA ?_
    simp only [go_sem, hz0, dm, r0, rb, ↓reduceIte, Nat.reduceEqDiff, Nat.reduceAdd, Nat.reduceLeDiff, reduceCtorEq, Nat.reduceLT, Int.reduceLT, Int.reduceLE, Int.reduceEq, Int.reduceToNat, Nat.reduceMul]
    refine Cl_plain bS ?_
    simp only [go_sem, hz0, r0, rb, hrT, hr, rgT_len, rgT_drop, hgl, ei, ↓reduceIte, Nat.reduceEqDiff, Nat.reduceAdd, Nat.reduceLeDiff, reduceCtorEq, Nat.reduceLT, Int.reduceLT, Int.reduceLE, Int.reduceEq, Int.reduceToNat, Nat.reduceMul]
    ((try (with_reducible refine R_fin (by repeat' (first | exact okp0 | refine okp rfl rfl rfl ?_)) ?_)); (try simp only [go_sem, hz0, r0, rb, hrT, hr, rgT_len, rgT_drop, hgl, ei, ↓reduceIte, Nat.reduceEqDiff, Nat.reduceAdd, Nat.reduceLeDiff, reduceCtorEq, Nat.reduceLT, Int.reduceLT, Int.reduceLE, Int.reduceEq, Int.reduceToNat, Nat.reduceMul]))
    refine rd_of (i + 1, putL l x) (by simp only; omega) ⟨by simp only; omega, pg, by simp only; omega, by rw [hb, bld_step htk]⟩ ?_
    rw [ep]
    exact (subL [] [] (by simp [envS, go_sem, wkV, wkL, AV.ids, idsL, keysOf, ren, stoOf, slTrees, AV.asOwn, rowPart, AV.isNil] <;> assumption) (by simp [stoS, go_sem, wkV, wkL, wkO, AV.ids, Ob.ids, idsL, keysOf, ren, AV.one, stoOf, slTrees, AV.asOwn, rowPart, AV.isNil] <;> assumption) (by simp [keysOf, ren]) (by simp [stoOf, keysOf, ren]) (by simp [keysOf, ren]) (by simp [keysOf, ren]))
  · have e : i = xs.length := by simp at h; omega
    subst e
    rw [List.drop_length] at hb
    rw [bld_some hc hb]
    simp only [go_sem, ↓reduceIte, Nat.reduceEqDiff, Nat.reduceAdd, Nat.reduceLeDiff, reduceCtorEq, Nat.reduceLT, Int.reduceLT, Int.reduceLE, Int.reduceEq, Int.reduceToNat, Nat.reduceMul]
    refine wends2 [] [999] (by first | exact Or.inl rfl | exact Or.inr rfl) ?_ (by simp [AV.ids, idsL]) (by simp [stoS]) (by simp [keysOf]) (by simp [stoOf, keysOf] <;> assumption) (by simp [keysOf]) (by simp [keysOf])
    simp only [go_sem, r_ladder_Build, exists_eq_left', Option.some.injEq, ↓reduceIte, Nat.reduceEqDiff, Nat.reduceAdd, Nat.reduceLeDiff, reduceCtorEq, Nat.reduceLT, Int.reduceLT, Int.reduceLE, Int.reduceEq, Int.reduceToNat, Nat.reduceMul]
    simp [wkV, wkL, slTrees, AV.asOwn, rowPart, stoOf, AV.isNil, List.take_of_length_le, hl]

end Go.Proofs.YtmjlldlaigoflaaGreat
