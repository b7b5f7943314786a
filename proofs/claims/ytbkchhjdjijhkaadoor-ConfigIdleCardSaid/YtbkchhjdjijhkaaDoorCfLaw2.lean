/- The law on idle lines, under its conditions. No statement of the seat is proved here. -/
import Derived.Test.YtbkchhjdjijhkaaDoorCfLaw
import Derived.Test.YtbkchhjdjijhkaaDoorSxH
set_option linter.unusedSimpArgs false
set_option linter.unusedVariables false
namespace Go.Proofs.YtbkchhjdjijhkaaDoor
open Go Go.Sx

theorem keep_ne {l : List UInt8} (h : cfKeep l = true) : ∃ n b, l.length = n + 1 ∧ l[n]? = some b := by
  cases l with
  | nil => cases h
  | cons a l =>
    obtain ⟨b, hb⟩ := get_of_lt (show l.length < (a :: l).length by simp)
    exact ⟨l.length, b, by simp, hb⟩

set_option maxHeartbeats 4000000 in
theorem f_law11_ConfigIdle (t : List UInt8) (k : Nat) (hk : k < 256) : Meets Tryd.prog E0 n_law11_ConfigIdle [Str (toB t), B8 k] [] (Bo true) [] := by
  refine m_law11_ConfigIdle (by simp) (shut0 rfl) (shut0 rfl) (by simp) (by simp [keysOf]) ?_
  simp only [go_sem, s_law11_ConfigIdle, ↓reduceIte, Nat.reduceEqDiff, Nat.reduceAdd, Nat.reduceLeDiff, reduceCtorEq, Nat.reduceLT, Int.reduceLT, Int.reduceLE, Int.reduceEq, Int.reduceToNat, Nat.reduceMul]
  refine Cl_plain f_law11_alive ?_
  by_cases h : 2000 < t.length
  · have d : decide ((2000 : Int) < (t.length : Int)) = true := decide_eq_true (by omega)
    simp only [go_sem, toB_size, d, ↓reduceIte, Nat.reduceEqDiff, Nat.reduceAdd, Nat.reduceLeDiff, reduceCtorEq, Nat.reduceLT, Int.reduceLT, Int.reduceLE, Int.reduceEq, Int.reduceToNat, Nat.reduceMul]
    refine wends (by first | exact Or.inl rfl | exact Or.inr rfl) ?_ (by first | rfl | simp [AV.ids, idsL])
    simp only [go_sem, r_law11_ConfigIdle, ↓reduceIte, Nat.reduceEqDiff, Nat.reduceAdd, Nat.reduceLeDiff, reduceCtorEq, Nat.reduceLT, Int.reduceLT, Int.reduceLE, Int.reduceEq, Int.reduceToNat, Nat.reduceMul]
  · have d : decide ((2000 : Int) < (t.length : Int)) = false := decide_eq_false (by omega)
    have h1 := f_config_Parse t (by omega)
    have hL := f_ref11_Lines t (by omega)
    have hll := lines_len t
    have hno := lines_no t
    have hs := parse_small t
    have hmp := more_parse t k (by omega)
    have hml := more_len 2000 (cfLines t) k (fun l hl => Nat.le_trans (hll.2 l hl) (by omega))
    have hm : (moreOf k (cfLines t)).length ≤ 5000000 := by
      refine Nat.le_trans hml (Nat.le_trans (Nat.mul_le_mul_right _ (Nat.le_trans hll.1 (show t.length + 1 ≤ 2001 by omega))) (by decide))
    have h2 := f_config_Parse (moreOf k (cfLines t)) (by omega)
    have h5 := f_ref11_Same (cfParse t).1 hs.1 hs.2
    have hlv : linesV (cfLines t) = .t (.sl 1 ((cfLines t).map fun x => rowS (toB x))) := rfl
    rw [hlv] at hL
    generalize cfLines t = ls at *
    have hlen : (ls.map fun x => rowS (toB x)).length = ls.length := by simp
    have e0 : bs [] = toB [] := rfl
    simp only [go_sem, toB_size, d, ↓reduceIte, Nat.reduceEqDiff, Nat.reduceAdd, Nat.reduceLeDiff, reduceCtorEq, Nat.reduceLT, Int.reduceLT, Int.reduceLE, Int.reduceEq, Int.reduceToNat, Nat.reduceMul]
    refine Cl_plain hL ?_
    simp only [go_sem, e0, ↓reduceIte, Nat.reduceEqDiff, Nat.reduceAdd, Nat.reduceLeDiff, reduceCtorEq, Nat.reduceLT, Int.reduceLT, Int.reduceLE, Int.reduceEq, Int.reduceToNat, Nat.reduceMul]
    refine W_loop (fun s : Nat × List UInt8 => ls.length - s.1) (fun s => s.1 ≤ ls.length ∧ s.2 ++ moreOf (k + s.1) (ls.drop s.1) = moreOf k ls)
      (fun s => [(0, Str (toB t)), (1, B8 k), (5, Str (toB s.2)), (6, .t (.sl 1 (ls.map fun x => rowS (toB x)))), (7, I s.1)]) (fun _ => []) (0, []) ⟨Nat.zero_le _, by simp⟩ (subL [] [] (by simp [envS, go_sem, wkV, wkL, AV.ids, idsL, keysOf, ren, stoOf, slTrees, AV.asOwn, rowPart, AV.isNil, shA, rowsT, cellsT, cellT, wkLL, rowS, linesV, pairT, secT, secsV] <;> assumption) (by simp [stoS, go_sem, wkV, wkL, wkO, AV.ids, Ob.ids, idsL, keysOf, ren, AV.one, stoOf, slTrees, AV.asOwn, rowPart, AV.isNil, shA, rowsT, cellsT, cellT, wkLL, rowS, linesV, pairT, secT, secsV] <;> assumption) (by simp [keysOf, ren]) (by simp [stoOf, keysOf, ren]) (by simp [keysOf, ren]) (by simp [keysOf, ren])) ?_
    rintro ⟨i, cur⟩ ⟨hi, hcur⟩
    simp only at hi hcur
    have hcl : cur.length ≤ 5000000 := by
      have := congrArg List.length hcur
      rw [List.length_append] at this; omega
    by_cases hil : i < ls.length
    · have d1 : decide (i < ls.length) = true := decide_eq_true hil
      obtain ⟨l, hl⟩ := get_of_lt hil
      have hg : (ls.map fun x => rowS (toB x))[i]? = some (rowS (toB l)) := by rw [List.getElem?_map, hl]; rfl
      have hl0 := hll.2 l (List.mem_of_getElem? hl)
      have ei : IntKind.i64.wrap ((i : Int) + 1) = ((i + 1 : Nat) : Int) := by rw [wrap_i64_of (by omega) (by omega)]; omega
      have ek : IntKind.i64.wrap (k : Int) = (k : Int) := wrap_i64_of (by omega) (by omega)
      have eki : IntKind.i64.wrap ((k : Int) + (i : Int)) = ((k + i : Nat) : Int) := by rw [wrap_i64_of (by omega) (by omega)]; omega
      rw [drop_get hl, moreOf] at hcur
      have hpl : (idlePad (k + i)).length ≤ 5 := by
        unfold idlePad; repeat' split
        all_goals decide
      have a2 : ∀ c : List UInt8, c.length ≤ 6000000 → binStr .add (toB c) (bs [32, 32]) = some (.string (toB (c ++ [32, 32]))) := fun c hc => addT c [32, 32] (by simp; omega)
      have a3 : ∀ c : List UInt8, c.length ≤ 6000000 → binStr .add (toB c) (toB l) = some (.string (toB (c ++ l))) := fun c hc => addT c l (by omega)
      have a4 : ∀ c : List UInt8, c.length ≤ 7000000 → binStr .add (toB c) (bs [9, 10]) = some (.string (toB (c ++ [9, 10]))) := fun c hc => addT c [9, 10] (by simp; omega)
      have b2 := a2 (cur ++ idlePad (k + i)) (by simp; omega)
      have b3 := a3 ((cur ++ idlePad (k + i)) ++ [32, 32]) (by simp; omega)
      have b4 := a4 ((cur ++ idlePad (k + i)) ++ [32, 32] ++ l) (by simp; omega)
      clear a2 a3 a4
      have hnext : ((cur ++ idlePad (k + i)) ++ [32, 32] ++ l ++ [9, 10]) ++ moreOf (k + (i + 1)) (ls.drop (i + 1)) = moreOf k ls := by
        rw [← hcur]; simp [Nat.add_assoc]
      generalize hnx : (cur ++ idlePad (k + i)) ++ [32, 32] ++ l ++ [9, 10] = nx at *
      simp only [go_sem, d1, ek, eki, ↓reduceIte, Nat.reduceEqDiff, Nat.reduceAdd, Nat.reduceLeDiff, reduceCtorEq, Nat.reduceLT, Int.reduceLT, Int.reduceLE, Int.reduceEq, Int.reduceToNat, Nat.reduceMul]
      have ht4 : ((k + i : Nat) : Int).tmod 4 = (((k + i) % 4 : Nat) : Int) := rfl
      have hc4 : (k + i) % 4 = 0 ∨ (k + i) % 4 = 1 ∨ (k + i) % 4 = 2 ∨ (k + i) % 4 = 3 := by omega
      rcases hc4 with hc | hc | hc | hc
      · have q0 : decide (((k + i : Nat) : Int).tmod 4 = 0) = true := decide_eq_true (by rw [ht4, hc]; rfl)
        have hpd : idlePad (k + i) = [35, 32, 110, 111, 10] := by unfold idlePad; rw [hc, if_pos rfl]
        rw [hpd] at b2 b3 b4
        have a1 : binStr .add (toB cur) (bs [35, 32, 110, 111, 10]) = some (.string (toB (cur ++ [35, 32, 110, 111, 10]))) := addT cur [35, 32, 110, 111, 10] (by simp; omega)
        simp only [go_sem, q0, a1, b2, hg, rowS_get, b3, b4, ei, ↓reduceIte, Nat.reduceEqDiff, Nat.reduceAdd, Nat.reduceLeDiff, reduceCtorEq, Nat.reduceLT, Int.reduceLT, Int.reduceLE, Int.reduceEq, Int.reduceToNat, Nat.reduceMul]
        exact rd_of (i + 1, nx) (by first | omega | (simp only; omega)) ⟨hil, hnext⟩ (subL [] [] (by simp [envS, go_sem, wkV, wkL, AV.ids, idsL, keysOf, ren, stoOf, slTrees, AV.asOwn, rowPart, AV.isNil, shA, rowsT, cellsT, cellT, wkLL, rowS, linesV, pairT, secT, secsV] <;> assumption) (by simp [stoS, go_sem, wkV, wkL, wkO, AV.ids, Ob.ids, idsL, keysOf, ren, AV.one, stoOf, slTrees, AV.asOwn, rowPart, AV.isNil, shA, rowsT, cellsT, cellT, wkLL, rowS, linesV, pairT, secT, secsV] <;> assumption) (by simp [keysOf, ren]) (by simp [stoOf, keysOf, ren]) (by simp [keysOf, ren]) (by simp [keysOf, ren]))
      · have q1 : decide (((k + i : Nat) : Int).tmod 4 = 1) = true := decide_eq_true (by rw [ht4, hc]; rfl)
        have q0 : decide (((k + i : Nat) : Int).tmod 4 = 0) = false := decide_eq_false (by rw [ht4, hc]; decide)
        have hpd : idlePad (k + i) = [32, 9, 10] := by unfold idlePad; rw [hc, if_neg (by decide), if_pos rfl]
        rw [hpd] at b2 b3 b4
        have a1 : binStr .add (toB cur) (bs [32, 9, 10]) = some (.string (toB (cur ++ [32, 9, 10]))) := addT cur [32, 9, 10] (by simp; omega)
        simp only [go_sem, q0, q1, a1, b2, hg, rowS_get, b3, b4, ei, ↓reduceIte, Nat.reduceEqDiff, Nat.reduceAdd, Nat.reduceLeDiff, reduceCtorEq, Nat.reduceLT, Int.reduceLT, Int.reduceLE, Int.reduceEq, Int.reduceToNat, Nat.reduceMul]
        exact rd_of (i + 1, nx) (by first | omega | (simp only; omega)) ⟨hil, hnext⟩ (subL [] [] (by simp [envS, go_sem, wkV, wkL, AV.ids, idsL, keysOf, ren, stoOf, slTrees, AV.asOwn, rowPart, AV.isNil, shA, rowsT, cellsT, cellT, wkLL, rowS, linesV, pairT, secT, secsV] <;> assumption) (by simp [stoS, go_sem, wkV, wkL, wkO, AV.ids, Ob.ids, idsL, keysOf, ren, AV.one, stoOf, slTrees, AV.asOwn, rowPart, AV.isNil, shA, rowsT, cellsT, cellT, wkLL, rowS, linesV, pairT, secT, secsV] <;> assumption) (by simp [keysOf, ren]) (by simp [stoOf, keysOf, ren]) (by simp [keysOf, ren]) (by simp [keysOf, ren]))
      · have q2 : decide (((k + i : Nat) : Int).tmod 4 = 2) = true := decide_eq_true (by rw [ht4, hc]; rfl)
        have q0 : decide (((k + i : Nat) : Int).tmod 4 = 0) = false := decide_eq_false (by rw [ht4, hc]; decide)
        have q1 : decide (((k + i : Nat) : Int).tmod 4 = 1) = false := decide_eq_false (by rw [ht4, hc]; decide)
        have hpd : idlePad (k + i) = [59, 13, 10] := by unfold idlePad; rw [hc, if_neg (by decide), if_neg (by decide), if_pos rfl]
        rw [hpd] at b2 b3 b4
        have a1 : binStr .add (toB cur) (bs [59, 13, 10]) = some (.string (toB (cur ++ [59, 13, 10]))) := addT cur [59, 13, 10] (by simp; omega)
        simp only [go_sem, q0, q1, q2, a1, b2, hg, rowS_get, b3, b4, ei, ↓reduceIte, Nat.reduceEqDiff, Nat.reduceAdd, Nat.reduceLeDiff, reduceCtorEq, Nat.reduceLT, Int.reduceLT, Int.reduceLE, Int.reduceEq, Int.reduceToNat, Nat.reduceMul]
        exact rd_of (i + 1, nx) (by first | omega | (simp only; omega)) ⟨hil, hnext⟩ (subL [] [] (by simp [envS, go_sem, wkV, wkL, AV.ids, idsL, keysOf, ren, stoOf, slTrees, AV.asOwn, rowPart, AV.isNil, shA, rowsT, cellsT, cellT, wkLL, rowS, linesV, pairT, secT, secsV] <;> assumption) (by simp [stoS, go_sem, wkV, wkL, wkO, AV.ids, Ob.ids, idsL, keysOf, ren, AV.one, stoOf, slTrees, AV.asOwn, rowPart, AV.isNil, shA, rowsT, cellsT, cellT, wkLL, rowS, linesV, pairT, secT, secsV] <;> assumption) (by simp [keysOf, ren]) (by simp [stoOf, keysOf, ren]) (by simp [keysOf, ren]) (by simp [keysOf, ren]))
      · have q0 : decide (((k + i : Nat) : Int).tmod 4 = 0) = false := decide_eq_false (by rw [ht4, hc]; decide)
        have q1 : decide (((k + i : Nat) : Int).tmod 4 = 1) = false := decide_eq_false (by rw [ht4, hc]; decide)
        have q2 : decide (((k + i : Nat) : Int).tmod 4 = 2) = false := decide_eq_false (by rw [ht4, hc]; decide)
        have hpd : idlePad (k + i) = [] := by unfold idlePad; rw [hc, if_neg (by decide), if_neg (by decide), if_neg (by decide)]
        rw [hpd, List.append_nil] at b2 b3 b4
        simp only [go_sem, q0, q1, q2, b2, hg, rowS_get, b3, b4, ei, ↓reduceIte, Nat.reduceEqDiff, Nat.reduceAdd, Nat.reduceLeDiff, reduceCtorEq, Nat.reduceLT, Int.reduceLT, Int.reduceLE, Int.reduceEq, Int.reduceToNat, Nat.reduceMul]
        exact rd_of (i + 1, nx) (by first | omega | (simp only; omega)) ⟨hil, hnext⟩ (subL [] [] (by simp [envS, go_sem, wkV, wkL, AV.ids, idsL, keysOf, ren, stoOf, slTrees, AV.asOwn, rowPart, AV.isNil, shA, rowsT, cellsT, cellT, wkLL, rowS, linesV, pairT, secT, secsV] <;> assumption) (by simp [stoS, go_sem, wkV, wkL, wkO, AV.ids, Ob.ids, idsL, keysOf, ren, AV.one, stoOf, slTrees, AV.asOwn, rowPart, AV.isNil, shA, rowsT, cellsT, cellT, wkLL, rowS, linesV, pairT, secT, secsV] <;> assumption) (by simp [keysOf, ren]) (by simp [stoOf, keysOf, ren]) (by simp [keysOf, ren]) (by simp [keysOf, ren]))
    · obtain rfl : i = ls.length := by omega
      have d1 : decide (ls.length < ls.length) = false := decide_eq_false (by omega)
      rw [List.drop_length, moreOf, List.append_nil] at hcur
      rw [← hcur] at h2 hm hmp
      simp only [go_sem, d1, ↓reduceIte, Nat.reduceEqDiff, Nat.reduceAdd, Nat.reduceLeDiff, reduceCtorEq, Nat.reduceLT, Int.reduceLT, Int.reduceLE, Int.reduceEq, Int.reduceToNat, Nat.reduceMul]
      refine Cl_plain h1 ?_
      simp only [go_sem, ↓reduceIte, Nat.reduceEqDiff, Nat.reduceAdd, Nat.reduceLeDiff, reduceCtorEq, Nat.reduceLT, Int.reduceLT, Int.reduceLE, Int.reduceEq, Int.reduceToNat, Nat.reduceMul]
      refine Cl_plain h2 ?_
      rw [hmp]
      by_cases h40 : 4096 < cur.length
      · have d2 : decide ((4096 : Int) < (cur.length : Int)) = true := decide_eq_true (by omega)
        have d3 : decide ((12 : Int) = 12) = true := rfl
        rw [if_pos h40]
        simp only [go_sem, toB_size, d2, d3, ↓reduceIte, Nat.reduceEqDiff, Nat.reduceAdd, Nat.reduceLeDiff, reduceCtorEq, Nat.reduceLT, Int.reduceLT, Int.reduceLE, Int.reduceEq, Int.reduceToNat, Nat.reduceMul]
        refine wends (by first | exact Or.inl rfl | exact Or.inr rfl) ?_ (by first | rfl | simp [AV.ids, idsL])
        simp only [go_sem, r_law11_ConfigIdle, ↓reduceIte, Nat.reduceEqDiff, Nat.reduceAdd, Nat.reduceLeDiff, reduceCtorEq, Nat.reduceLT, Int.reduceLT, Int.reduceLE, Int.reduceEq, Int.reduceToNat, Nat.reduceMul]
      · have d2 : decide ((4096 : Int) < (cur.length : Int)) = false := decide_eq_false (by omega)
        rw [if_neg h40]
        generalize cfParse t = x at *
        have e : ∀ i : Int, decide (i = i) = true := fun i => decide_eq_true rfl
        simp only [go_sem, toB_size, d2, ↓reduceIte, Nat.reduceEqDiff, Nat.reduceAdd, Nat.reduceLeDiff, reduceCtorEq, Nat.reduceLT, Int.reduceLT, Int.reduceLE, Int.reduceEq, Int.reduceToNat, Nat.reduceMul]
        refine W_loop (fun i : Nat => ls.length - i) (fun i => i ≤ ls.length)
          (fun i => [(6, .t (.sl 1 (ls.map fun x => rowS (toB x)))), (8, secsV x.1), (9, I x.2), (10, secsV x.1), (11, I x.2), (12, I i)]) (fun _ => []) 0 (Nat.zero_le _) (subL [] [] (by simp [envS, go_sem, wkV, wkL, AV.ids, idsL, keysOf, ren, stoOf, slTrees, AV.asOwn, rowPart, AV.isNil, shA, rowsT, cellsT, cellT, wkLL, rowS, linesV, pairT, secT, secsV] <;> assumption) (by simp [stoS, go_sem, wkV, wkL, wkO, AV.ids, Ob.ids, idsL, keysOf, ren, AV.one, stoOf, slTrees, AV.asOwn, rowPart, AV.isNil, shA, rowsT, cellsT, cellT, wkLL, rowS, linesV, pairT, secT, secsV] <;> assumption) (by simp [keysOf, ren]) (by simp [stoOf, keysOf, ren]) (by simp [keysOf, ren]) (by simp [keysOf, ren])) ?_
        intro i hi
        by_cases hil : i < ls.length
        · have d1 : decide (i < ls.length) = true := decide_eq_true hil
          obtain ⟨l, hl⟩ := get_of_lt hil
          have hg : (ls.map fun x => rowS (toB x))[i]? = some (rowS (toB l)) := by rw [List.getElem?_map, hl]; rfl
          have hl0 := hll.2 l (List.mem_of_getElem? hl)
          have ei : IntKind.i64.wrap ((i : Int) + 1) = ((i + 1 : Nat) : Int) := by rw [wrap_i64_of (by omega) (by omega)]; omega
          obtain ⟨n, b, hn, hb⟩ := keep_ne (hno l (List.mem_of_getElem? hl)).2.2
          have hgb : (toB l)[n]? = some b := by rw [getT]; exact hb
          have w : IntKind.i64.wrap (((n + 1 : Nat) : Int) - 1) = (n : Int) := by rw [wrap_i64_of (by omega) (by omega)]; omega
          by_cases h13 : b = 13
          · have d4 : decide (b.toNat = 13) = true := decide_eq_true (by rw [h13]; rfl)
            simp only [go_sem, d1, hg, rowS_get, toB_size, hn, w, hgb, d4, ↓reduceIte, Nat.reduceEqDiff, Nat.reduceAdd, Nat.reduceLeDiff, reduceCtorEq, Nat.reduceLT, Int.reduceLT, Int.reduceLE, Int.reduceEq, Int.reduceToNat, Nat.reduceMul]
            ((try (with_reducible refine R_fin (by repeat' (first | exact okp0 | refine okp rfl rfl rfl ?_)) ?_)); (try simp only [go_sem, d1, hg, rowS_get, toB_size, hn, w, hgb, d4, ↓reduceIte, Nat.reduceEqDiff, Nat.reduceAdd, Nat.reduceLeDiff, reduceCtorEq, Nat.reduceLT, Int.reduceLT, Int.reduceLE, Int.reduceEq, Int.reduceToNat, Nat.reduceMul]))
            refine wends (by first | exact Or.inl rfl | exact Or.inr rfl) ?_ (by first | rfl | simp [AV.ids, idsL])
            simp only [go_sem, r_law11_ConfigIdle, ↓reduceIte, Nat.reduceEqDiff, Nat.reduceAdd, Nat.reduceLeDiff, reduceCtorEq, Nat.reduceLT, Int.reduceLT, Int.reduceLE, Int.reduceEq, Int.reduceToNat, Nat.reduceMul]
          · have d4 : decide (b.toNat = 13) = false := decide_eq_false (fun e => h13 (UInt8.toNat_inj.1 e))
            simp only [go_sem, d1, hg, rowS_get, toB_size, hn, w, hgb, d4, ↓reduceIte, Nat.reduceEqDiff, Nat.reduceAdd, Nat.reduceLeDiff, reduceCtorEq, Nat.reduceLT, Int.reduceLT, Int.reduceLE, Int.reduceEq, Int.reduceToNat, Nat.reduceMul]
            ((try (with_reducible refine R_fin (by repeat' (first | exact okp0 | refine okp rfl rfl rfl ?_)) ?_)); (try simp only [go_sem, d1, hg, rowS_get, toB_size, hn, w, hgb, d4, ei, ↓reduceIte, Nat.reduceEqDiff, Nat.reduceAdd, Nat.reduceLeDiff, reduceCtorEq, Nat.reduceLT, Int.reduceLT, Int.reduceLE, Int.reduceEq, Int.reduceToNat, Nat.reduceMul]))
            exact rd_of (i + 1) (by first | omega | (simp only; omega)) (by first | omega | (simp only; omega)) (subL [] [] (by simp [envS, go_sem, wkV, wkL, AV.ids, idsL, keysOf, ren, stoOf, slTrees, AV.asOwn, rowPart, AV.isNil, shA, rowsT, cellsT, cellT, wkLL, rowS, linesV, pairT, secT, secsV] <;> assumption) (by simp [stoS, go_sem, wkV, wkL, wkO, AV.ids, Ob.ids, idsL, keysOf, ren, AV.one, stoOf, slTrees, AV.asOwn, rowPart, AV.isNil, shA, rowsT, cellsT, cellT, wkLL, rowS, linesV, pairT, secT, secsV] <;> assumption) (by simp [keysOf, ren]) (by simp [stoOf, keysOf, ren]) (by simp [keysOf, ren]) (by simp [keysOf, ren]))
        · obtain rfl : i = ls.length := by omega
          simp only [go_sem, d1, e, ↓reduceIte, Nat.reduceEqDiff, Nat.reduceAdd, Nat.reduceLeDiff, reduceCtorEq, Nat.reduceLT, Int.reduceLT, Int.reduceLE, Int.reduceEq, Int.reduceToNat, Nat.reduceMul]
          refine Cl_plain h5 ?_
          simp only [go_sem, ↓reduceIte, Nat.reduceEqDiff, Nat.reduceAdd, Nat.reduceLeDiff, reduceCtorEq, Nat.reduceLT, Int.reduceLT, Int.reduceLE, Int.reduceEq, Int.reduceToNat, Nat.reduceMul]
          refine wends (by first | exact Or.inl rfl | exact Or.inr rfl) ?_ (by first | rfl | simp [AV.ids, idsL])
          simp only [go_sem, r_law11_ConfigIdle, ↓reduceIte, Nat.reduceEqDiff, Nat.reduceAdd, Nat.reduceLeDiff, reduceCtorEq, Nat.reduceLT, Int.reduceLT, Int.reduceLE, Int.reduceEq, Int.reduceToNat, Nat.reduceMul]

end Go.Proofs.YtbkchhjdjijhkaaDoor
