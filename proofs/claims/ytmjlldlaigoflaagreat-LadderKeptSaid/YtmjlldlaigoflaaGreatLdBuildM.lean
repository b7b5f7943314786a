/- What is built of records, in plain words, and its first contracts. No statement of the seat is proved here. -/
import Derived.Test.YtmjlldlaigoflaaGreatLdNew
import Derived.Test.YtmjlldlaigoflaaGreatLdAccM
set_option linter.unusedSimpArgs false
set_option linter.unusedVariables false
namespace Go.Proofs.YtmjlldlaigoflaaGreat
open Go Go.Sx

abbrev Rec := Int × ByteArray × Int × Int × List Rung × Int × Int × Int × Int
abbrev Rec.rung (x : Rec) : Int := x.2.2.2.2.2.1
abbrev Rec.time (x : Rec) : Int := x.2.2.2.2.2.2.1
abbrev Rec.value (x : Rec) : Int := x.2.2.2.2.2.2.2.2
def recT (x : Rec) : List T := [.v (.int .i64 x.1), .v (.string x.2.1), .v (.int .i64 x.2.2.1), .v (.int .i64 x.2.2.2.1), .sl 2 (x.2.2.2.2.1.map slT), .v (.int .i64 x.rung), .v (.int .i64 x.time), .v (.int .i64 x.2.2.2.2.2.2.2.1), .v (.int .i64 x.value)]
def plainB (x : Rec) : Bool := decide (x.1 = 3) && (x.2.1.toList == []) && decide (x.2.2.1 = 0) && decide (x.2.2.2.1 = 0) && decide (x.2.2.2.2.1.length = 0) && decide (x.2.2.2.2.2.2.2.1 = 0)
/-- A record that a ladder takes. -/
def takeB (l : List Ring) (x : Rec) : Bool :=
  plainB x && (decide (0 ≤ x.rung) && (match l[x.rung.toNat]? with | some r => timedB x.time && decide (x.time % r.1 = 0) && !decide (x.value = -9223372036854775808) | none => false))
def putL (l : List Ring) (x : Rec) : List Ring := match l[x.rung.toNat]? with | some r => l.set x.rung.toNat (setR r x.time x.value) | none => l
def bldL (l : List Ring) : List Rec → Option (List Ring)
  | [] => some l
  | x :: xs => if takeB l x then bldL (putL l x) xs else none
def bldM (rs : List Rung) (m f : Int) (xs : List Rec) : (Int × Int × List Ring) × Int :=
  if howB m f && togB rs then (match bldL (rs.map newR) xs with | some l => ((m, f, l), 0) | none => ((0, 0, []), 1)) else ((0, 0, []), 1)

theorem f_ladder_New_own (id : Nat) (rs : List Rung) (m f : Int) (hc : (howB m f && togB rs) = true) : Meets Tryz.prog E0 n_ladder_New [schV rs m f] [] (.tp [.ag [I m, I f, .own id 2 0 rs.length true], I 0]) [(id, .row 2 true ((rs.map newR).map rgT))] := by
  have hz : Meets Tryz.prog E0 n_ladder_New [schV rs m f] [] (.tp [.ag [I m, I f, .own 0 2 0 rs.length true], I 0]) [(0, .row 2 true ((rs.map newR).map rgT))] := by
    refine m_ladder_New (by simp) (shut_of (by simp [idsL, AV.ids, keysOf]) (by simp [Ob.live, Ob.ids, keysOf, idsL, AV.ids])) (shut_of (by simp [idsL, AV.ids, keysOf]) (by simp [Ob.live, Ob.ids, keysOf, idsL, AV.ids])) (by simp [keysOf]) (by simp [keysOf]) ?_
    have b0 := f_ladder_how m f
    have b1 := f_retention_Together rs
    simp only [Bool.and_eq_true] at hc
    have hl := tog_len hc.2
    have ha := tog_all hc.2
    rw [hc.1] at b0
    rw [hc.2] at b1
    simp only [go_sem, s_ladder_New, ↓reduceIte, Nat.reduceEqDiff, Nat.reduceAdd, Nat.reduceLeDiff, reduceCtorEq, Nat.reduceLT, Int.reduceLT, Int.reduceLE, Int.reduceEq, Int.reduceToNat, Nat.reduceMul]
    refine Cl_plain b0 ?_
    simp only [go_sem, ↓reduceIte, Nat.reduceEqDiff, Nat.reduceAdd, Nat.reduceLeDiff, reduceCtorEq, Nat.reduceLT, Int.reduceLT, Int.reduceLE, Int.reduceEq, Int.reduceToNat, Nat.reduceMul]
    refine Cl_plain b1 ?_
    simp only [go_sem, ↓reduceIte, Nat.reduceEqDiff, Nat.reduceAdd, Nat.reduceLeDiff, reduceCtorEq, Nat.reduceLT, Int.reduceLT, Int.reduceLE, Int.reduceEq, Int.reduceToNat, Nat.reduceMul]
    refine W_loop (fun i : Nat => rs.length - i) (fun i => i ≤ rs.length)
      (fun i => [(1, .ptr 100 0), (2, .ptr 101 0), (3, I 0), (4, .ptr 123 0), (28, slL rs), (29, I rs.length), (30, I i)])
      (fun i => [(100, .box [slL rs, I m, I f]), (101, .box [I 0, I 0, .t (.v (.slice none 0 0))]), (123, .box [I m, I f, .own 999 2 0 i (!decide (i = 0))]), (999, .row 2 (!decide (i = 0)) (((rs.take i).map newR).map rgT))])
      0 (Nat.zero_le _) (subL [(999, 888)] [] (by simp [envS, go_sem, wkV, wkL, AV.ids, idsL, keysOf, ren, stoOf, slTrees, AV.asOwn, rowPart, AV.isNil] <;> assumption) (by simp [stoS, go_sem, wkV, wkL, wkO, AV.ids, Ob.ids, idsL, keysOf, ren, AV.one, stoOf, slTrees, AV.asOwn, rowPart, AV.isNil] <;> assumption) (by simp [keysOf, ren]) (by simp [stoOf, keysOf, ren]) (by simp [keysOf, ren]) (by simp [keysOf, ren])) ?_
    intro i hi
    simp only [go_sem, ↓reduceIte, Nat.reduceEqDiff, Nat.reduceAdd, Nat.reduceLeDiff, reduceCtorEq, Nat.reduceLT, Int.reduceLT, Int.reduceLE, Int.reduceEq, Int.reduceToNat, Nat.reduceMul]
    refine W_split rfl (fun h => ?_) (fun h => ?_)
    · simp at h
      obtain ⟨r, hs⟩ := get_of_lt h
      have ei : IntKind.i64.wrap ((i : Int) + 1) = ((i + 1 : Nat) : Int) := by rw [wrap_i64_of (by omega) (by omega)]; omega
      have b3 := f_ring_New r.1 r.2
      rw [newM_of (all_get ha hs)] at b3
      have b4 : (i + 1) * 32 ≤ 2 ^ 47 := by omega
      have b5 : i + 1 < 2 ^ 47 := by omega
      have em : ((rs.take i).map newR).map rgT ++ [[.v (.int .i64 (newR r).1), .sl 2 ((newR r).2.map slT)]] = ((rs.take (i + 1)).map newR).map rgT := by
        rw [← map_take_succ newR hs, List.map_append]; rfl
      have hlen : (((rs.take i).map newR).map rgT).length = i := by simp; omega
      have hz : decide ((0 : Int) = 0) = true := rfl
      simp only [go_sem, hs, slT, ↓reduceIte, Nat.reduceEqDiff, Nat.reduceAdd, Nat.reduceLeDiff, reduceCtorEq, Nat.reduceLT, Int.reduceLT, Int.reduceLE, Int.reduceEq, Int.reduceToNat, Nat.reduceMul]
      refine Cl_plain b3 ?_
      simp only [go_sem, hz, b4, b5, em, hlen, ei, ↓reduceIte, Nat.reduceEqDiff, Nat.reduceAdd, Nat.reduceLeDiff, reduceCtorEq, Nat.reduceLT, Int.reduceLT, Int.reduceLE, Int.reduceEq, Int.reduceToNat, Nat.reduceMul]
      refine rd_of (i + 1) (by first | omega | (simp only; omega)) (by first | omega | (simp only; omega)) ?_
      rw [show (!decide (i + 1 = 0)) = true from by simp]
      exact (subL [(999, 155)] [] (by simp [envS, go_sem, wkV, wkL, AV.ids, idsL, keysOf, ren, stoOf, slTrees, AV.asOwn, rowPart, AV.isNil] <;> assumption) (by simp [stoS, go_sem, wkV, wkL, wkO, AV.ids, Ob.ids, idsL, keysOf, ren, AV.one, stoOf, slTrees, AV.asOwn, rowPart, AV.isNil] <;> assumption) (by simp [keysOf, ren]) (by simp [stoOf, keysOf, ren]) (by simp [keysOf, ren]) (by simp [keysOf, ren]))
    · have e : i = rs.length := by simp at h; omega
      subst e
      rw [List.take_length, show decide (rs.length = 0) = false from decide_eq_false (by omega)]
      simp only [go_sem, ↓reduceIte, Nat.reduceEqDiff, Nat.reduceAdd, Nat.reduceLeDiff, reduceCtorEq, Nat.reduceLT, Int.reduceLT, Int.reduceLE, Int.reduceEq, Int.reduceToNat, Nat.reduceMul]
      refine wends2 [(0, 999)] [] (by first | exact Or.inl rfl | exact Or.inr rfl) ?_ (by simp [AV.ids, idsL, keysOf]) (by simp [stoS, wkO, ls_cons, ls_nil, stoOf, ren, keysOf, Ob.ids, wkV, wkL, AV.one, idsL, AV.ids] <;> assumption) (by simp [keysOf, ren]) (by simp [stoOf, keysOf, ren]) (by simp [keysOf, ren]) (by simp [keysOf, ren])
      simp only [go_sem, r_ladder_New, exists_eq_left', Option.some.injEq, ↓reduceIte, Nat.reduceEqDiff, Nat.reduceAdd, Nat.reduceLeDiff, reduceCtorEq, Nat.reduceLT, Int.reduceLT, Int.reduceLE, Int.reduceEq, Int.reduceToNat, Nat.reduceMul]
      simp [wkV, wkL, slTrees, AV.asOwn, rowPart, stoOf, AV.isNil, ren, List.take_of_length_le]
  have := hz.ren (fun _ => id) (by simp [keysOf])
  simpa [renL, renA, renS, renO] using this

theorem nilL : (bs []).toList = [] := by
  rw [ByteArray.toList, ByteArray.toList.loop]
  rfl

theorem f_ladder_plain (x : Rec) : Meets Tryz.prog E0 n_ladder_plain [.ag ((recT x).map .t)] [] (Bo (plainB x)) [] := by
  refine m_ladder_plain (by simp) (shut0 rfl) (shut0 rfl) (by simp) (by simp [keysOf]) ?_
  have e1 : binStr .eql x.2.1 (bs []) = some (.bool (x.2.1.toList == [])) := by simp only [binStr, nilL]
  simp only [recT, List.map]
  unfold plainB
  repeat' (first | (simp only [go_sem, s_ladder_plain, e1, ↓reduceIte, Nat.reduceEqDiff, Nat.reduceAdd, Nat.reduceLeDiff, reduceCtorEq, Nat.reduceLT, Int.reduceLT, Int.reduceLE, Int.reduceEq, Int.reduceToNat, Nat.reduceMul, *]) | (simp (disch := omega) only [s_ladder_plain, e1, wrap_i64_of, i64_quo, i64_rem, sdiv, smod]) | ((with_reducible refine W_split (by with_unfolding_all exact rfl) (fun hsp => ?_) (fun hsp => ?_)) <;> (try simp only [Bool.not_true, Bool.not_false, decide_eq_true_eq, decide_eq_false_iff_not, Bool.not_eq_true', Bool.not_eq_false', not_false_eq_true] at hsp)) | ((with_reducible refine R_split (by with_unfolding_all exact rfl) (fun hsp => ?_) (fun hsp => ?_)) <;> (try simp only [Bool.not_true, Bool.not_false, decide_eq_true_eq, decide_eq_false_iff_not, Bool.not_eq_true', Bool.not_eq_false', not_false_eq_true] at hsp)) | (with_reducible refine R_fin (by repeat' (first | exact okp0 | refine okp rfl rfl rfl ?_)) ?_))
  all_goals
    refine wends (by first | exact Or.inl rfl | exact Or.inr rfl) ?_ (by first | rfl | simp [AV.ids, idsL])
    simp only [go_sem, r_ladder_plain, ↓reduceIte, Nat.reduceEqDiff, Nat.reduceAdd, Nat.reduceLeDiff, reduceCtorEq, Nat.reduceLT, Int.reduceLT, Int.reduceLE, Int.reduceEq, Int.reduceToNat, Nat.reduceMul]
    try first | (simp [*]; done) | (simp_all; done)

theorem take_split {l : List Ring} {x : Rec} (h : takeB l x = true) : plainB x = true ∧ 0 ≤ x.rung ∧ ∃ r, l[x.rung.toNat]? = some r ∧ timedB x.time = true ∧ x.time % r.1 = 0 ∧ x.value ≠ -9223372036854775808 := by
  unfold takeB at h
  simp only [Bool.and_eq_true, decide_eq_true_eq] at h
  obtain ⟨h1, h2, h3⟩ := h
  split at h3
  · rename_i r hr
    simp only [Bool.and_eq_true, decide_eq_true_eq, Bool.not_eq_true', decide_eq_false_iff_not] at h3
    exact ⟨h1, h2, r, hr, h3.1.1, h3.1.2, h3.2⟩
  · cases h3

end Go.Proofs.YtmjlldlaigoflaaGreat
