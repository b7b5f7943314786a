/- Lines that are not idle: contracts. No statement of the seat is proved here. -/
import Derived.Test.YtbkchhjdjijhkaaDoorCfRef2
import Derived.Test.YtbkchhjdjijhkaaDoorSxH
set_option linter.unusedSimpArgs false
set_option linter.unusedVariables false
namespace Go.Proofs.YtbkchhjdjijhkaaDoor
open Go Go.Sx

theorem keep_nil : cfKeep [] = false := rfl

/-- Lines of the parts ahead of a place. -/
def linesAt (ps : List (List UInt8)) (j : Nat) : List (List UInt8) := ((ps.take j).map cfLine).filter cfKeep

theorem linesAt_succ {ps : List (List UInt8)} {j : Nat} {p : List UInt8} (hp : ps[j]? = some p) : linesAt ps (j + 1) = if cfKeep (cfLine p) then linesAt ps j ++ [cfLine p] else linesAt ps j := by
  unfold linesAt
  rw [List.take_add_one, hp, Option.toList_some, List.map_append, List.filter_append]
  simp only [List.map_cons, List.map_nil, List.filter_cons, List.filter_nil]
  split <;> simp

theorem linesAt_len (ps : List (List UInt8)) (j : Nat) : (linesAt ps j).length ≤ j := by
  unfold linesAt
  refine Nat.le_trans (List.length_filter_le _ _) ?_
  rw [List.length_map, List.length_take]; omega

theorem f_config_Lines (t : List UInt8) (ht : t.length ≤ 1000000) : Meets Tryd.prog E0 n_config_Lines [Str (toB t)] [] (linesV (cfLines t)) [] := by
  refine m_config_Lines (by simp) (shut0 rfl) (shut0 rfl) (by simp) (by simp [keysOf]) ?_
  simp only [go_sem, s_config_Lines, ↓reduceIte, Nat.reduceEqDiff, Nat.reduceAdd, Nat.reduceLeDiff, reduceCtorEq, Nat.reduceLT, Int.reduceLT, Int.reduceLE, Int.reduceEq, Int.reduceToNat, Nat.reduceMul]
  refine Cl_io [] false (f_SplitSeq 300 301 302 (by omega) (by omega) (by omega) (toB t) (bs [10])) (Wks.refl _) (by simp [keysOf]) (by simp [keysOf, stoOf]) (by simp) (by simp) (by simp [keysOf]) ?_
  simp only [go_sem, froze, ↓reduceIte, Nat.reduceEqDiff, Nat.reduceAdd, Nat.reduceLeDiff, reduceCtorEq, Nat.reduceLT, Int.reduceLT, Int.reduceLE, Int.reduceEq, Int.reduceToNat, Nat.reduceMul]
  have hv : cfLines t = linesAt (partsB 10 t) (partsB 10 t).length := by unfold cfLines linesAt; rw [List.take_length]
  have hpl := parts_sum 10 t
  have hi := iter_parts 10 (toB t) (by show t.length < _; omega)
  rw [toB_data] at hi
  rw [hv]
  generalize partsB 10 t = ps at *
  refine W_rng (i0 := 300) (i1 := 301) (i2 := 302) (s0 := toB t) (v1 := .string (bs [10])) (v2 := .int .i64 0) (xs := ps.map fun l => .string ⟨l.toArray⟩) (fun j => j ≤ ps.length)
    (fun j => [(3, .ptr 101 0), (6, .fn n_strings_splitSeq_1 [] [.ptr 301 0, .ptr 300 0, .ptr 302 0])])
    (fun j => [(301, .box [Str (bs [10])]), (302, .box [I 0]), (101, .box [.own 999 1 0 (linesAt ps j).length (!(linesAt ps j).isEmpty)]), (999, .row 1 (!(linesAt ps j).isEmpty) ((linesAt ps j).map fun x => rowS (toB x)))])
    hi (enters_of Tryd.func43 (by kernel_rfl) rfl) rfl rfl ?_ (Nat.zero_le _) ?_ (fun j _ => ⟨rfl, rfl, rfl⟩) (by decide) (by decide) ?_ ?_
  · intro x hx
    obtain ⟨l, _, rfl⟩ := List.mem_map.1 hx
    rfl
  · simp only [show linesAt ps 0 = [] from rfl, List.map_nil, List.length_nil, List.isEmpty_nil, Bool.not_true]
    exact (subL [(999, 888)] [] (by simp [envS, go_sem, wkV, wkL, AV.ids, idsL, keysOf, ren, stoOf, slTrees, AV.asOwn, rowPart, AV.isNil, shA, rowsT, cellsT, cellT, wkLL, rowS, linesV] <;> assumption) (by simp [stoS, go_sem, wkV, wkL, wkO, AV.ids, Ob.ids, idsL, keysOf, ren, AV.one, stoOf, slTrees, AV.asOwn, rowPart, AV.isNil, shA, rowsT, cellsT, cellT, wkLL, rowS, linesV] <;> assumption) (by simp [keysOf, ren]) (by simp [stoOf, keysOf, ren]) (by simp [keysOf, ren]) (by simp [keysOf, ren]))
  · rintro j x r hj hx
    rw [List.getElem?_map] at hx
    obtain ⟨q, hq, rfl⟩ := Option.map_eq_some_iff.1 hx
    have hjlt := (List.getElem?_eq_some_iff.1 hq).1
    have hqz := hpl.2 q (List.mem_of_getElem? hq)
    have hq1 : Meets Tryd.prog E0 n_strings_TrimSuffix [Str ⟨q.toArray⟩, Str (toB [13])] [] (Str (toB (stripB 13 q))) [] := f_TrimSuffix q 13 (by omega)
    have hz := strip_len 13 q
    have hq2 : Meets Tryd.prog E0 n_config_trim [Str (toB (stripB 13 q))] [] (Str (toB (cfLine q))) [] := f_config_trim (stripB 13 q) (by omega)
    have hs := linesAt_succ hq
    have hl := linesAt_len ps j
    generalize cfLine q = k at *
    have es : binStr .eql (toB k) (bs []) = some (.bool k.isEmpty) := strT k
    simp only [go_sem, ↓reduceIte, Nat.reduceEqDiff, Nat.reduceAdd, Nat.reduceLeDiff, reduceCtorEq, Nat.reduceLT, Int.reduceLT, Int.reduceLE, Int.reduceEq, Int.reduceToNat, Nat.reduceMul]
    refine Cl_plain hq1 ?_
    simp only [go_sem, ↓reduceIte, Nat.reduceEqDiff, Nat.reduceAdd, Nat.reduceLeDiff, reduceCtorEq, Nat.reduceLT, Int.reduceLT, Int.reduceLE, Int.reduceEq, Int.reduceToNat, Nat.reduceMul]
    refine Cl_plain hq2 ?_
    cases k with
    | nil =>
      rw [keep_nil, if_neg (by decide)] at hs
      simp only [go_sem, es, List.isEmpty_nil, ↓reduceIte, Nat.reduceEqDiff, Nat.reduceAdd, Nat.reduceLeDiff, reduceCtorEq, Nat.reduceLT, Int.reduceLT, Int.reduceLE, Int.reduceEq, Int.reduceToNat, Nat.reduceMul]
      refine rg_of hjlt ?_
      simp only [hs]
      exact (subL [(999, 999)] [] (by simp [envS, go_sem, wkV, wkL, AV.ids, idsL, keysOf, ren, stoOf, slTrees, AV.asOwn, rowPart, AV.isNil, shA, rowsT, cellsT, cellT, wkLL, rowS, linesV] <;> assumption) (by simp [stoS, go_sem, wkV, wkL, wkO, AV.ids, Ob.ids, idsL, keysOf, ren, AV.one, stoOf, slTrees, AV.asOwn, rowPart, AV.isNil, shA, rowsT, cellsT, cellT, wkLL, rowS, linesV] <;> assumption) (by simp [keysOf, ren]) (by simp [stoOf, keysOf, ren]) (by simp [keysOf, ren]) (by simp [keysOf, ren]))
    | cons b k =>
      have hg : (toB (b :: k))[0]? = some b := by rw [getT]; rfl
      have hk : cfKeep (b :: k) = (!(b == 35) && !(b == 59)) := rfl
      have n35 : decide (b.toNat = 35) = (b == 35) := eqN b 35
      have n59 : decide (b.toNat = 59) = (b == 59) := eqN b 59
      cases h35 : (b == 35)
      · cases h59 : (b == 59)
        · rw [h35] at n35
          rw [h59] at n59
          rw [hk, h35, h59, if_pos (by decide)] at hs
          generalize hL : linesAt ps j = L at *
          have b4 : (L.length + 1) * 16 ≤ 2 ^ 47 := by omega
          have b5 : L.length + 1 < 2 ^ 47 := by omega
          have em : (L.map fun x => rowS (toB x)) ++ [[.v (.string (toB (b :: k)))]] = (L ++ [b :: k]).map fun x => rowS (toB x) := by simp [rowS]
          have hlen : (L.map fun x => rowS (toB x)).length = L.length := by simp
          simp only [go_sem, es, List.isEmpty_cons, hg, n35, n59, hL, b4, b5, em, hlen, ↓reduceIte, Nat.reduceEqDiff, Nat.reduceAdd, Nat.reduceLeDiff, reduceCtorEq, Nat.reduceLT, Int.reduceLT, Int.reduceLE, Int.reduceEq, Int.reduceToNat, Nat.reduceMul]
          refine rg_of hjlt ?_
          simp only [hs, List.length_append, List.length_cons, List.length_nil, Nat.zero_add, show (L ++ [b :: k]).isEmpty = false from by simp, Bool.not_false]
          exact (subL [(999, 124)] [] (by simp [envS, go_sem, wkV, wkL, AV.ids, idsL, keysOf, ren, stoOf, slTrees, AV.asOwn, rowPart, AV.isNil, shA, rowsT, cellsT, cellT, wkLL, rowS, linesV] <;> assumption) (by simp [stoS, go_sem, wkV, wkL, wkO, AV.ids, Ob.ids, idsL, keysOf, ren, AV.one, stoOf, slTrees, AV.asOwn, rowPart, AV.isNil, shA, rowsT, cellsT, cellT, wkLL, rowS, linesV] <;> assumption) (by simp [keysOf, ren]) (by simp [stoOf, keysOf, ren]) (by simp [keysOf, ren]) (by simp [keysOf, ren]))
        · rw [h35] at n35
          rw [h59] at n59
          rw [hk, h35, h59, if_neg (by simp)] at hs
          simp only [go_sem, es, List.isEmpty_cons, hg, n35, n59, ↓reduceIte, Nat.reduceEqDiff, Nat.reduceAdd, Nat.reduceLeDiff, reduceCtorEq, Nat.reduceLT, Int.reduceLT, Int.reduceLE, Int.reduceEq, Int.reduceToNat, Nat.reduceMul]
          refine rg_of hjlt ?_
          simp only [hs]
          exact (subL [(999, 999)] [] (by simp [envS, go_sem, wkV, wkL, AV.ids, idsL, keysOf, ren, stoOf, slTrees, AV.asOwn, rowPart, AV.isNil, shA, rowsT, cellsT, cellT, wkLL, rowS, linesV] <;> assumption) (by simp [stoS, go_sem, wkV, wkL, wkO, AV.ids, Ob.ids, idsL, keysOf, ren, AV.one, stoOf, slTrees, AV.asOwn, rowPart, AV.isNil, shA, rowsT, cellsT, cellT, wkLL, rowS, linesV] <;> assumption) (by simp [keysOf, ren]) (by simp [stoOf, keysOf, ren]) (by simp [keysOf, ren]) (by simp [keysOf, ren]))
      · rw [h35] at n35
        rw [hk, h35, if_neg (by simp)] at hs
        simp only [go_sem, es, List.isEmpty_cons, hg, n35, ↓reduceIte, Nat.reduceEqDiff, Nat.reduceAdd, Nat.reduceLeDiff, reduceCtorEq, Nat.reduceLT, Int.reduceLT, Int.reduceLE, Int.reduceEq, Int.reduceToNat, Nat.reduceMul]
        refine rg_of hjlt ?_
        simp only [hs]
        exact (subL [(999, 999)] [] (by simp [envS, go_sem, wkV, wkL, AV.ids, idsL, keysOf, ren, stoOf, slTrees, AV.asOwn, rowPart, AV.isNil, shA, rowsT, cellsT, cellT, wkLL, rowS, linesV] <;> assumption) (by simp [stoS, go_sem, wkV, wkL, wkO, AV.ids, Ob.ids, idsL, keysOf, ren, AV.one, stoOf, slTrees, AV.asOwn, rowPart, AV.isNil, shA, rowsT, cellsT, cellT, wkLL, rowS, linesV] <;> assumption) (by simp [keysOf, ren]) (by simp [stoOf, keysOf, ren]) (by simp [keysOf, ren]) (by simp [keysOf, ren]))
  · rintro r _
    rw [List.length_map]
    simp only [go_sem, ↓reduceIte, Nat.reduceEqDiff, Nat.reduceAdd, Nat.reduceLeDiff, reduceCtorEq, Nat.reduceLT, Int.reduceLT, Int.reduceLE, Int.reduceEq, Int.reduceToNat, Nat.reduceMul]
    cases hL : linesAt ps ps.length with
    | nil =>
      unfold linesV
      refine wends2 [] [] (by first | exact Or.inl rfl | exact Or.inr rfl) ?_ (by simp [AV.ids, idsL]) (by simp [stoS]) (by simp [keysOf]) (by simp [stoOf, keysOf] <;> assumption) (by simp [keysOf]) (by simp [keysOf])
      simp only [go_sem, r_config_Lines, exists_eq_left', Option.some.injEq, ↓reduceIte, Nat.reduceEqDiff, Nat.reduceAdd, Nat.reduceLeDiff, reduceCtorEq, Nat.reduceLT, Int.reduceLT, Int.reduceLE, Int.reduceEq, Int.reduceToNat, Nat.reduceMul]
      simp [wkV, wkL, slTrees, AV.asOwn, rowPart, stoOf, AV.isNil, shA, rowsT, cellsT, cellT]
    | cons a L =>
      unfold linesV
      refine wends2 [] [999] (by first | exact Or.inl rfl | exact Or.inr rfl) ?_ (by simp [AV.ids, idsL]) (by simp [stoS]) (by simp [keysOf]) (by simp [stoOf, keysOf] <;> assumption) (by simp [keysOf]) (by simp [keysOf])
      simp only [go_sem, r_config_Lines, exists_eq_left', Option.some.injEq, ↓reduceIte, Nat.reduceEqDiff, Nat.reduceAdd, Nat.reduceLeDiff, reduceCtorEq, Nat.reduceLT, Int.reduceLT, Int.reduceLE, Int.reduceEq, Int.reduceToNat, Nat.reduceMul]
      simp [wkV, wkL, slTrees, AV.asOwn, rowPart, stoOf, AV.isNil, shA, rowsT, cellsT, cellT, List.take_of_length_le]

/-- Lines between feeds, behind what stands in hand. -/
def linesGo (cur : List UInt8) : List UInt8 → List (List UInt8)
  | [] => if cfKeep (cfLine cur) then [cfLine cur] else []
  | b :: l => if b = 10 then (if cfKeep (cfLine cur) then cfLine cur :: linesGo [] l else linesGo [] l) else linesGo (cur ++ [b]) l

theorem linesGo_eq : ∀ (l cur : List UInt8), linesGo cur l = ((match partsB 10 l with | p :: ps => (cur ++ p) :: ps | [] => []).map cfLine).filter cfKeep
  | [], cur => by simp only [linesGo, partsB, List.append_nil, List.map_cons, List.map_nil, List.filter_cons, List.filter_nil]
  | b :: l, cur => by
    have hne := partsB_ne 10 l
    by_cases hb : b = 10
    · subst hb
      have ih := linesGo_eq l []
      have e : linesGo cur (10 :: l) = if cfKeep (cfLine cur) then cfLine cur :: linesGo [] l else linesGo [] l := by
        rw [linesGo, if_pos rfl]
      rw [e, ih]
      simp only [partsB, if_pos, List.append_nil, List.map_cons, List.filter_cons]
      generalize partsB 10 l = ps at *
      cases ps with
      | nil => exact absurd rfl hne
      | cons p ps => simp only [List.nil_append, List.map_cons, List.filter_cons]
    · have ih := linesGo_eq l (cur ++ [b])
      have e : linesGo cur (b :: l) = linesGo (cur ++ [b]) l := by rw [linesGo, if_neg hb]
      rw [e, ih]
      simp only [partsB, if_neg hb]
      generalize partsB 10 l = ps at *
      cases ps with
      | nil => exact absurd rfl hne
      | cons p ps => simp only [List.append_assoc, List.cons_append, List.nil_append]

theorem lines_go (t : List UInt8) : linesGo [] t = cfLines t := by
  rw [linesGo_eq]
  unfold cfLines
  have hne := partsB_ne 10 t
  generalize partsB 10 t = ps at *
  cases ps with
  | nil => exact absurd rfl hne
  | cons p ps => rfl

end Go.Proofs.YtbkchhjdjijhkaaDoor
