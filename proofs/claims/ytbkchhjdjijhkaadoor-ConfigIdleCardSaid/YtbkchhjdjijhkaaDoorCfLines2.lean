/- Lines that are not idle, the document's way: the contract. No statement of the seat is proved here. -/
import Derived.Test.YtbkchhjdjijhkaaDoorCfLines
import Derived.Test.YtbkchhjdjijhkaaDoorSxH
set_option linter.unusedSimpArgs false
set_option linter.unusedVariables false
namespace Go.Proofs.YtbkchhjdjijhkaaDoor
open Go Go.Sx

def lnInv (t : List UInt8) (s : Nat × Nat × List (List UInt8)) : Prop :=
  s.1 ≤ t.length + 1 ∧ s.2.2.length ≤ s.1 ∧ (s.1 ≤ t.length → s.2.1 ≤ s.1 ∧ s.2.2 ++ linesGo ((t.take s.1).drop s.2.1) (t.drop s.1) = cfLines t) ∧ (s.1 = t.length + 1 → s.2.2 = cfLines t)

theorem go_feed (cur l : List UInt8) : linesGo cur (10 :: l) = (if cfKeep (cfLine cur) then [cfLine cur] else []) ++ linesGo [] l := by
  rw [linesGo, if_pos rfl]
  split <;> rfl

theorem go_end (cur : List UInt8) : linesGo cur [] = if cfKeep (cfLine cur) then [cfLine cur] else [] := rfl

theorem f_ref11_Lines (t : List UInt8) (ht : t.length ≤ 1000000) : Meets Tryd.prog E0 n_ref11_Lines [Str (toB t)] [] (linesV (cfLines t)) [] := by
  refine m_ref11_Lines (by simp) (shut0 rfl) (shut0 rfl) (by simp) (by simp [keysOf]) ?_
  simp only [go_sem, s_ref11_Lines, ↓reduceIte, Nat.reduceEqDiff, Nat.reduceAdd, Nat.reduceLeDiff, reduceCtorEq, Nat.reduceLT, Int.reduceLT, Int.reduceLE, Int.reduceEq, Int.reduceToNat, Nat.reduceMul]
  refine W_loop (fun s : Nat × Nat × List (List UInt8) => t.length + 1 - s.1) (lnInv t)
    (fun s => [(0, Str (toB t)), (3, .own 999 1 0 s.2.2.length (!s.2.2.isEmpty)), (4, I (s.2.1 : Nat)), (5, I (s.1 : Nat))]) (fun s => [(999, .row 1 (!s.2.2.isEmpty) (s.2.2.map fun x => rowS (toB x)))])
    (0, 0, []) ⟨by simp, by simp, fun _ => ⟨Nat.le_refl _, by simpa using lines_go t⟩, fun h => absurd h (by simp)⟩ ?_ ?_
  · exact (subL [(999, 888)] [] (by simp [envS, go_sem, wkV, wkL, AV.ids, idsL, keysOf, ren, stoOf, slTrees, AV.asOwn, rowPart, AV.isNil, shA, rowsT, cellsT, cellT, wkLL, rowS, linesV] <;> assumption) (by simp [stoS, go_sem, wkV, wkL, wkO, AV.ids, Ob.ids, idsL, keysOf, ren, AV.one, stoOf, slTrees, AV.asOwn, rowPart, AV.isNil, shA, rowsT, cellsT, cellT, wkLL, rowS, linesV] <;> assumption) (by simp [keysOf, ren]) (by simp [stoOf, keysOf, ren]) (by simp [keysOf, ren]) (by simp [keysOf, ren]))
  · rintro ⟨i, from_, out⟩ ⟨h1, h2, h3, h4⟩
    simp only at h1 h2 h3 h4
    by_cases hle : i ≤ t.length
    · obtain ⟨hf, h3⟩ := h3 hle
      have d0 : decide (i ≤ t.length) = true := decide_eq_true hle
      have ei : IntKind.i64.wrap ((i : Int) + 1) = ((i + 1 : Nat) : Int) := by rw [wrap_i64_of (by omega) (by omega)]; omega
      have hcase : (i < t.length ∧ ∃ b, t[i]? = some b ∧ b ≠ 10) ∨ (i < t.length ∧ t[i]? = some 10) ∨ i = t.length := by
        by_cases hl : i < t.length
        · obtain ⟨b, hb⟩ := get_of_lt hl
          by_cases h10 : b = 10
          · subst h10; exact Or.inr (Or.inl ⟨hl, hb⟩)
          · exact Or.inl ⟨hl, b, hb, h10⟩
        · exact Or.inr (Or.inr (by omega))
      have hnext : (∀ tail, t.drop i = 10 :: tail ∨ (t.drop i = [] ∧ tail = []) → True) := fun _ _ => trivial
      clear hnext
      rcases hcase with ⟨hl, b, hb, h10⟩ | hcase
      · have d1 : decide (i < t.length) = true := decide_eq_true hl
        have d2 : decide (b.toNat = 10) = false := decide_eq_false (fun e => h10 (UInt8.toNat_inj.1 e))
        have hg : (toB t)[i]? = some b := by rw [getT]; exact hb
        simp only [go_sem, d0, toB_size, d1, hg, d2, ei, ↓reduceIte, Nat.reduceEqDiff, Nat.reduceAdd, Nat.reduceLeDiff, reduceCtorEq, Nat.reduceLT, Int.reduceLT, Int.reduceLE, Int.reduceEq, Int.reduceToNat, Nat.reduceMul]
        refine rd_of (i + 1, from_, out) (by simp only; omega) ⟨by simp only; omega, by simp only; omega, fun _ => ⟨by simp only; omega, ?_⟩, fun h => absurd h (by simp only; omega)⟩ ?_
        · simp only
          rw [← h3, drop_get hb, linesGo, if_neg h10]
          congr 2
          rw [List.take_add_one, hb, Option.toList_some, List.drop_append_of_le_length (by simp; omega)]
        · exact (subL [(999, 999)] [] (by simp [envS, go_sem, wkV, wkL, AV.ids, idsL, keysOf, ren, stoOf, slTrees, AV.asOwn, rowPart, AV.isNil, shA, rowsT, cellsT, cellT, wkLL, rowS, linesV] <;> assumption) (by simp [stoS, go_sem, wkV, wkL, wkO, AV.ids, Ob.ids, idsL, keysOf, ren, AV.one, stoOf, slTrees, AV.asOwn, rowPart, AV.isNil, shA, rowsT, cellsT, cellT, wkLL, rowS, linesV] <;> assumption) (by simp [keysOf, ren]) (by simp [stoOf, keysOf, ren]) (by simp [keysOf, ren]) (by simp [keysOf, ren]))
      · have hgo : ∀ out', out' = out ++ (if cfKeep (cfLine ((t.take i).drop from_)) then [cfLine ((t.take i).drop from_)] else []) → lnInv t (i + 1, i + 1, out') := by
          intro out' ho
          have hol : out'.length ≤ i + 1 := by rw [ho]; split <;> simp <;> omega
          refine ⟨by simp only; omega, hol, fun hle2 => ⟨Nat.le_refl _, ?_⟩, fun hlast => ?_⟩
          · simp only at hle2 ⊢
            rcases hcase with ⟨hl, hb⟩ | rfl
            · rw [drop_get hb, go_feed, ← List.append_assoc, ← ho] at h3
              rw [← h3]
              congr 2
              rw [List.drop_eq_nil_of_le (by simp; omega)]
            · omega
          · simp only at hlast ⊢
            have : i = t.length := by omega
            subst this
            rw [List.drop_length, go_end, ← ho] at h3
            exact h3
        have hcl : ((t.take i).drop from_).length ≤ 1000000 := by simp; omega
        have hex : (toB t).extract from_ i = toB ((t.take i).drop from_) := extT t from_ i
        have c1 : ((from_ : Int) ≤ (i : Int)) = True := eq_true (by omega)
        have c2 : ((i : Int) ≤ (t.length : Int)) = True := eq_true (by omega)
        generalize (t.take i).drop from_ = c at *
        clear h3 h4
        have hz := strip_len 13 c
        have hT : Meets Tryd.prog E0 n_ref11_Trim [Str (toB (stripB 13 c))] [] (Str (toB (cfLine c))) [] := f_ref11_Trim (stripB 13 c) (by omega)
        rw [strip_eq] at hT
        generalize cfLine c = k at *
        have en := neE k
        rcases hcase with ⟨hl, hb⟩ | hlen
        case' inl =>
          have d1 : decide (i < t.length) = true := decide_eq_true hl
          have d2 : decide (UInt8.toNat 10 = 10) = true := rfl
          have hg : (toB t)[i]? = some 10 := by rw [getT]; exact hb
          simp only [go_sem, d0, toB_size, d1, hg, d2, ei, c1, c2, hex, ↓reduceIte, Nat.reduceEqDiff, Nat.reduceAdd, Nat.reduceLeDiff, reduceCtorEq, Nat.reduceLT, Int.reduceLT, Int.reduceLE, Int.reduceEq, Int.reduceToNat, Nat.reduceMul]
          clear hg d1 d2 hb hl
        case' inr =>
          have d1 : decide (i < t.length) = false := decide_eq_false (by omega)
          simp only [go_sem, d0, toB_size, d1, ei, c1, c2, hex, ↓reduceIte, Nat.reduceEqDiff, Nat.reduceAdd, Nat.reduceLeDiff, reduceCtorEq, Nat.reduceLT, Int.reduceLT, Int.reduceLE, Int.reduceEq, Int.reduceToNat, Nat.reduceMul]
          clear hlen d1
        all_goals
          by_cases hc0 : c = []
          · have d3 : decide ((0 : Int) < (c.length : Int)) = false := decide_eq_false (by rw [hc0]; simp)
            have hl13 : lastB 13 c = false := by rw [hc0]; rfl
            rw [hl13, if_neg (by decide)] at hT
            clear hc0 hl13
            simp only [go_sem, d3, ↓reduceIte, Nat.reduceEqDiff, Nat.reduceAdd, Nat.reduceLeDiff, reduceCtorEq, Nat.reduceLT, Int.reduceLT, Int.reduceLE, Int.reduceEq, Int.reduceToNat, Nat.reduceMul]
            refine Cl_plain hT ?_
            cases k with
            | nil =>
              simp only [go_sem, en, List.isEmpty_nil, ei, ↓reduceIte, Nat.reduceEqDiff, Nat.reduceAdd, Nat.reduceLeDiff, reduceCtorEq, Nat.reduceLT, Int.reduceLT, Int.reduceLE, Int.reduceEq, Int.reduceToNat, Nat.reduceMul]
              exact rd_of (i + 1, i + 1, out) (by simp only; omega) (hgo out (by rw [keep_nil]; simp)) (subL [(999, 999)] [] (by simp [envS, go_sem, wkV, wkL, AV.ids, idsL, keysOf, ren, stoOf, slTrees, AV.asOwn, rowPart, AV.isNil, shA, rowsT, cellsT, cellT, wkLL, rowS, linesV] <;> assumption) (by simp [stoS, go_sem, wkV, wkL, wkO, AV.ids, Ob.ids, idsL, keysOf, ren, AV.one, stoOf, slTrees, AV.asOwn, rowPart, AV.isNil, shA, rowsT, cellsT, cellT, wkLL, rowS, linesV] <;> assumption) (by simp [keysOf, ren]) (by simp [stoOf, keysOf, ren]) (by simp [keysOf, ren]) (by simp [keysOf, ren]))
            | cons b0 k =>
              have hg0 : (toB (b0 :: k))[0]? = some b0 := by rw [getT]; rfl
              have hk : cfKeep (b0 :: k) = (!(b0 == 35) && !(b0 == 59)) := rfl
              have n35 : decide (b0.toNat = 35) = (b0 == 35) := eqN b0 35
              have n59 : decide (b0.toNat = 59) = (b0 == 59) := eqN b0 59
              cases h35 : (b0 == 35)
              · cases h59 : (b0 == 59)
                · rw [h35] at n35
                  rw [h59] at n59
                  have hgo' := hgo (out ++ [b0 :: k]) (by rw [hk, h35, h59]; rfl)
                  have b4 : (out.length + 1) * 16 ≤ 2 ^ 47 := by omega
                  have b5 : out.length + 1 < 2 ^ 47 := by omega
                  have em : (out.map fun x => rowS (toB x)) ++ [[.v (.string (toB (b0 :: k)))]] = (out ++ [b0 :: k]).map fun x => rowS (toB x) := by simp [rowS]
                  have hlen : (out.map fun x => rowS (toB x)).length = out.length := by simp
                  simp only [go_sem, en, List.isEmpty_cons, hg0, n35, n59, b4, b5, em, hlen, ei, ↓reduceIte, Nat.reduceEqDiff, Nat.reduceAdd, Nat.reduceLeDiff, reduceCtorEq, Nat.reduceLT, Int.reduceLT, Int.reduceLE, Int.reduceEq, Int.reduceToNat, Nat.reduceMul]
                  refine rd_of (i + 1, i + 1, out ++ [b0 :: k]) (by simp only; omega) hgo' ?_
                  simp only [List.length_append, List.length_cons, List.length_nil, Nat.zero_add, show (out ++ [b0 :: k]).isEmpty = false from by simp, Bool.not_false]
                  exact (subL [(999, 161)] [] (by simp [envS, go_sem, wkV, wkL, AV.ids, idsL, keysOf, ren, stoOf, slTrees, AV.asOwn, rowPart, AV.isNil, shA, rowsT, cellsT, cellT, wkLL, rowS, linesV] <;> assumption) (by simp [stoS, go_sem, wkV, wkL, wkO, AV.ids, Ob.ids, idsL, keysOf, ren, AV.one, stoOf, slTrees, AV.asOwn, rowPart, AV.isNil, shA, rowsT, cellsT, cellT, wkLL, rowS, linesV] <;> assumption) (by simp [keysOf, ren]) (by simp [stoOf, keysOf, ren]) (by simp [keysOf, ren]) (by simp [keysOf, ren]))
                · rw [h35] at n35
                  rw [h59] at n59
                  simp only [go_sem, en, List.isEmpty_cons, hg0, n35, n59, ei, ↓reduceIte, Nat.reduceEqDiff, Nat.reduceAdd, Nat.reduceLeDiff, reduceCtorEq, Nat.reduceLT, Int.reduceLT, Int.reduceLE, Int.reduceEq, Int.reduceToNat, Nat.reduceMul]
                  exact rd_of (i + 1, i + 1, out) (by simp only; omega) (hgo out (by rw [hk, h35, h59]; simp)) (subL [(999, 999)] [] (by simp [envS, go_sem, wkV, wkL, AV.ids, idsL, keysOf, ren, stoOf, slTrees, AV.asOwn, rowPart, AV.isNil, shA, rowsT, cellsT, cellT, wkLL, rowS, linesV] <;> assumption) (by simp [stoS, go_sem, wkV, wkL, wkO, AV.ids, Ob.ids, idsL, keysOf, ren, AV.one, stoOf, slTrees, AV.asOwn, rowPart, AV.isNil, shA, rowsT, cellsT, cellT, wkLL, rowS, linesV] <;> assumption) (by simp [keysOf, ren]) (by simp [stoOf, keysOf, ren]) (by simp [keysOf, ren]) (by simp [keysOf, ren]))
              · rw [h35] at n35
                simp only [go_sem, en, List.isEmpty_cons, hg0, n35, ei, ↓reduceIte, Nat.reduceEqDiff, Nat.reduceAdd, Nat.reduceLeDiff, reduceCtorEq, Nat.reduceLT, Int.reduceLT, Int.reduceLE, Int.reduceEq, Int.reduceToNat, Nat.reduceMul]
                exact rd_of (i + 1, i + 1, out) (by simp only; omega) (hgo out (by rw [hk, h35]; simp)) (subL [(999, 999)] [] (by simp [envS, go_sem, wkV, wkL, AV.ids, idsL, keysOf, ren, stoOf, slTrees, AV.asOwn, rowPart, AV.isNil, shA, rowsT, cellsT, cellT, wkLL, rowS, linesV] <;> assumption) (by simp [stoS, go_sem, wkV, wkL, wkO, AV.ids, Ob.ids, idsL, keysOf, ren, AV.one, stoOf, slTrees, AV.asOwn, rowPart, AV.isNil, shA, rowsT, cellsT, cellT, wkLL, rowS, linesV] <;> assumption) (by simp [keysOf, ren]) (by simp [stoOf, keysOf, ren]) (by simp [keysOf, ren]) (by simp [keysOf, ren]))
          · obtain ⟨c0, b, hcb⟩ := snoc_of hc0
            have hcl0 : c.length = c0.length + 1 := by rw [hcb]; simp
            have d3 : decide ((0 : Int) < (c.length : Int)) = true := decide_eq_true (by omega)
            have w : IntKind.i64.wrap ((c.length : Int) - 1) = (c0.length : Int) := by rw [wrap_i64_of (by omega) (by omega)]; omega
            have hgb : (toB c)[c0.length]? = some b := by rw [getT, hcb]; simp
            have hl13 : lastB 13 c = (b == 13) := by rw [hcb, last_snoc]
            have n13 : decide (b.toNat = 13) = (b == 13) := eqN b 13
            have exc : (toB c).extract 0 c0.length = toB c0 := by rw [extT, hcb, List.take_left]; rfl
            have c3 : ((c0.length : Int) ≤ (c.length : Int)) = True := eq_true (by omega)
            have hdl : c.dropLast = c0 := by rw [hcb, List.dropLast_concat]
            rw [hl13] at hT
            cases hb13 : (b == 13)
            · rw [hb13] at n13 hT
              rw [if_neg (by decide)] at hT
              clear hcb hdl hl13 hb13
              simp only [go_sem, d3, w, hgb, n13, toB_size, ↓reduceIte, Nat.reduceEqDiff, Nat.reduceAdd, Nat.reduceLeDiff, reduceCtorEq, Nat.reduceLT, Int.reduceLT, Int.reduceLE, Int.reduceEq, Int.reduceToNat, Nat.reduceMul]
              refine Cl_plain hT ?_
              cases k with
              | nil =>
                simp only [go_sem, en, List.isEmpty_nil, ei, ↓reduceIte, Nat.reduceEqDiff, Nat.reduceAdd, Nat.reduceLeDiff, reduceCtorEq, Nat.reduceLT, Int.reduceLT, Int.reduceLE, Int.reduceEq, Int.reduceToNat, Nat.reduceMul]
                exact rd_of (i + 1, i + 1, out) (by simp only; omega) (hgo out (by rw [keep_nil]; simp)) (subL [(999, 999)] [] (by simp [envS, go_sem, wkV, wkL, AV.ids, idsL, keysOf, ren, stoOf, slTrees, AV.asOwn, rowPart, AV.isNil, shA, rowsT, cellsT, cellT, wkLL, rowS, linesV] <;> assumption) (by simp [stoS, go_sem, wkV, wkL, wkO, AV.ids, Ob.ids, idsL, keysOf, ren, AV.one, stoOf, slTrees, AV.asOwn, rowPart, AV.isNil, shA, rowsT, cellsT, cellT, wkLL, rowS, linesV] <;> assumption) (by simp [keysOf, ren]) (by simp [stoOf, keysOf, ren]) (by simp [keysOf, ren]) (by simp [keysOf, ren]))
              | cons b0 k =>
                have hg0 : (toB (b0 :: k))[0]? = some b0 := by rw [getT]; rfl
                have hk : cfKeep (b0 :: k) = (!(b0 == 35) && !(b0 == 59)) := rfl
                have n35 : decide (b0.toNat = 35) = (b0 == 35) := eqN b0 35
                have n59 : decide (b0.toNat = 59) = (b0 == 59) := eqN b0 59
                cases h35 : (b0 == 35)
                · cases h59 : (b0 == 59)
                  · rw [h35] at n35
                    rw [h59] at n59
                    have hgo' := hgo (out ++ [b0 :: k]) (by rw [hk, h35, h59]; rfl)
                    have b4 : (out.length + 1) * 16 ≤ 2 ^ 47 := by omega
                    have b5 : out.length + 1 < 2 ^ 47 := by omega
                    have em : (out.map fun x => rowS (toB x)) ++ [[.v (.string (toB (b0 :: k)))]] = (out ++ [b0 :: k]).map fun x => rowS (toB x) := by simp [rowS]
                    have hlen : (out.map fun x => rowS (toB x)).length = out.length := by simp
                    simp only [go_sem, en, List.isEmpty_cons, hg0, n35, n59, b4, b5, em, hlen, ei, ↓reduceIte, Nat.reduceEqDiff, Nat.reduceAdd, Nat.reduceLeDiff, reduceCtorEq, Nat.reduceLT, Int.reduceLT, Int.reduceLE, Int.reduceEq, Int.reduceToNat, Nat.reduceMul]
                    refine rd_of (i + 1, i + 1, out ++ [b0 :: k]) (by simp only; omega) hgo' ?_
                    simp only [List.length_append, List.length_cons, List.length_nil, Nat.zero_add, show (out ++ [b0 :: k]).isEmpty = false from by simp, Bool.not_false]
                    exact (subL [(999, 161)] [] (by simp [envS, go_sem, wkV, wkL, AV.ids, idsL, keysOf, ren, stoOf, slTrees, AV.asOwn, rowPart, AV.isNil, shA, rowsT, cellsT, cellT, wkLL, rowS, linesV] <;> assumption) (by simp [stoS, go_sem, wkV, wkL, wkO, AV.ids, Ob.ids, idsL, keysOf, ren, AV.one, stoOf, slTrees, AV.asOwn, rowPart, AV.isNil, shA, rowsT, cellsT, cellT, wkLL, rowS, linesV] <;> assumption) (by simp [keysOf, ren]) (by simp [stoOf, keysOf, ren]) (by simp [keysOf, ren]) (by simp [keysOf, ren]))
                  · rw [h35] at n35
                    rw [h59] at n59
                    simp only [go_sem, en, List.isEmpty_cons, hg0, n35, n59, ei, ↓reduceIte, Nat.reduceEqDiff, Nat.reduceAdd, Nat.reduceLeDiff, reduceCtorEq, Nat.reduceLT, Int.reduceLT, Int.reduceLE, Int.reduceEq, Int.reduceToNat, Nat.reduceMul]
                    exact rd_of (i + 1, i + 1, out) (by simp only; omega) (hgo out (by rw [hk, h35, h59]; simp)) (subL [(999, 999)] [] (by simp [envS, go_sem, wkV, wkL, AV.ids, idsL, keysOf, ren, stoOf, slTrees, AV.asOwn, rowPart, AV.isNil, shA, rowsT, cellsT, cellT, wkLL, rowS, linesV] <;> assumption) (by simp [stoS, go_sem, wkV, wkL, wkO, AV.ids, Ob.ids, idsL, keysOf, ren, AV.one, stoOf, slTrees, AV.asOwn, rowPart, AV.isNil, shA, rowsT, cellsT, cellT, wkLL, rowS, linesV] <;> assumption) (by simp [keysOf, ren]) (by simp [stoOf, keysOf, ren]) (by simp [keysOf, ren]) (by simp [keysOf, ren]))
                · rw [h35] at n35
                  simp only [go_sem, en, List.isEmpty_cons, hg0, n35, ei, ↓reduceIte, Nat.reduceEqDiff, Nat.reduceAdd, Nat.reduceLeDiff, reduceCtorEq, Nat.reduceLT, Int.reduceLT, Int.reduceLE, Int.reduceEq, Int.reduceToNat, Nat.reduceMul]
                  exact rd_of (i + 1, i + 1, out) (by simp only; omega) (hgo out (by rw [hk, h35]; simp)) (subL [(999, 999)] [] (by simp [envS, go_sem, wkV, wkL, AV.ids, idsL, keysOf, ren, stoOf, slTrees, AV.asOwn, rowPart, AV.isNil, shA, rowsT, cellsT, cellT, wkLL, rowS, linesV] <;> assumption) (by simp [stoS, go_sem, wkV, wkL, wkO, AV.ids, Ob.ids, idsL, keysOf, ren, AV.one, stoOf, slTrees, AV.asOwn, rowPart, AV.isNil, shA, rowsT, cellsT, cellT, wkLL, rowS, linesV] <;> assumption) (by simp [keysOf, ren]) (by simp [stoOf, keysOf, ren]) (by simp [keysOf, ren]) (by simp [keysOf, ren]))
            · rw [hb13] at n13 hT
              rw [if_pos rfl, hdl] at hT
              clear hcb hdl hl13 hb13
              simp only [go_sem, d3, w, hgb, n13, toB_size, exc, c3, ↓reduceIte, Nat.reduceEqDiff, Nat.reduceAdd, Nat.reduceLeDiff, reduceCtorEq, Nat.reduceLT, Int.reduceLT, Int.reduceLE, Int.reduceEq, Int.reduceToNat, Nat.reduceMul]
              refine Cl_plain hT ?_
              cases k with
              | nil =>
                simp only [go_sem, en, List.isEmpty_nil, ei, ↓reduceIte, Nat.reduceEqDiff, Nat.reduceAdd, Nat.reduceLeDiff, reduceCtorEq, Nat.reduceLT, Int.reduceLT, Int.reduceLE, Int.reduceEq, Int.reduceToNat, Nat.reduceMul]
                exact rd_of (i + 1, i + 1, out) (by simp only; omega) (hgo out (by rw [keep_nil]; simp)) (subL [(999, 999)] [] (by simp [envS, go_sem, wkV, wkL, AV.ids, idsL, keysOf, ren, stoOf, slTrees, AV.asOwn, rowPart, AV.isNil, shA, rowsT, cellsT, cellT, wkLL, rowS, linesV] <;> assumption) (by simp [stoS, go_sem, wkV, wkL, wkO, AV.ids, Ob.ids, idsL, keysOf, ren, AV.one, stoOf, slTrees, AV.asOwn, rowPart, AV.isNil, shA, rowsT, cellsT, cellT, wkLL, rowS, linesV] <;> assumption) (by simp [keysOf, ren]) (by simp [stoOf, keysOf, ren]) (by simp [keysOf, ren]) (by simp [keysOf, ren]))
              | cons b0 k =>
                have hg0 : (toB (b0 :: k))[0]? = some b0 := by rw [getT]; rfl
                have hk : cfKeep (b0 :: k) = (!(b0 == 35) && !(b0 == 59)) := rfl
                have n35 : decide (b0.toNat = 35) = (b0 == 35) := eqN b0 35
                have n59 : decide (b0.toNat = 59) = (b0 == 59) := eqN b0 59
                cases h35 : (b0 == 35)
                · cases h59 : (b0 == 59)
                  · rw [h35] at n35
                    rw [h59] at n59
                    have hgo' := hgo (out ++ [b0 :: k]) (by rw [hk, h35, h59]; rfl)
                    have b4 : (out.length + 1) * 16 ≤ 2 ^ 47 := by omega
                    have b5 : out.length + 1 < 2 ^ 47 := by omega
                    have em : (out.map fun x => rowS (toB x)) ++ [[.v (.string (toB (b0 :: k)))]] = (out ++ [b0 :: k]).map fun x => rowS (toB x) := by simp [rowS]
                    have hlen : (out.map fun x => rowS (toB x)).length = out.length := by simp
                    simp only [go_sem, en, List.isEmpty_cons, hg0, n35, n59, b4, b5, em, hlen, ei, ↓reduceIte, Nat.reduceEqDiff, Nat.reduceAdd, Nat.reduceLeDiff, reduceCtorEq, Nat.reduceLT, Int.reduceLT, Int.reduceLE, Int.reduceEq, Int.reduceToNat, Nat.reduceMul]
                    refine rd_of (i + 1, i + 1, out ++ [b0 :: k]) (by simp only; omega) hgo' ?_
                    simp only [List.length_append, List.length_cons, List.length_nil, Nat.zero_add, show (out ++ [b0 :: k]).isEmpty = false from by simp, Bool.not_false]
                    exact (subL [(999, 161)] [] (by simp [envS, go_sem, wkV, wkL, AV.ids, idsL, keysOf, ren, stoOf, slTrees, AV.asOwn, rowPart, AV.isNil, shA, rowsT, cellsT, cellT, wkLL, rowS, linesV] <;> assumption) (by simp [stoS, go_sem, wkV, wkL, wkO, AV.ids, Ob.ids, idsL, keysOf, ren, AV.one, stoOf, slTrees, AV.asOwn, rowPart, AV.isNil, shA, rowsT, cellsT, cellT, wkLL, rowS, linesV] <;> assumption) (by simp [keysOf, ren]) (by simp [stoOf, keysOf, ren]) (by simp [keysOf, ren]) (by simp [keysOf, ren]))
                  · rw [h35] at n35
                    rw [h59] at n59
                    simp only [go_sem, en, List.isEmpty_cons, hg0, n35, n59, ei, ↓reduceIte, Nat.reduceEqDiff, Nat.reduceAdd, Nat.reduceLeDiff, reduceCtorEq, Nat.reduceLT, Int.reduceLT, Int.reduceLE, Int.reduceEq, Int.reduceToNat, Nat.reduceMul]
                    exact rd_of (i + 1, i + 1, out) (by simp only; omega) (hgo out (by rw [hk, h35, h59]; simp)) (subL [(999, 999)] [] (by simp [envS, go_sem, wkV, wkL, AV.ids, idsL, keysOf, ren, stoOf, slTrees, AV.asOwn, rowPart, AV.isNil, shA, rowsT, cellsT, cellT, wkLL, rowS, linesV] <;> assumption) (by simp [stoS, go_sem, wkV, wkL, wkO, AV.ids, Ob.ids, idsL, keysOf, ren, AV.one, stoOf, slTrees, AV.asOwn, rowPart, AV.isNil, shA, rowsT, cellsT, cellT, wkLL, rowS, linesV] <;> assumption) (by simp [keysOf, ren]) (by simp [stoOf, keysOf, ren]) (by simp [keysOf, ren]) (by simp [keysOf, ren]))
                · rw [h35] at n35
                  simp only [go_sem, en, List.isEmpty_cons, hg0, n35, ei, ↓reduceIte, Nat.reduceEqDiff, Nat.reduceAdd, Nat.reduceLeDiff, reduceCtorEq, Nat.reduceLT, Int.reduceLT, Int.reduceLE, Int.reduceEq, Int.reduceToNat, Nat.reduceMul]
                  exact rd_of (i + 1, i + 1, out) (by simp only; omega) (hgo out (by rw [hk, h35]; simp)) (subL [(999, 999)] [] (by simp [envS, go_sem, wkV, wkL, AV.ids, idsL, keysOf, ren, stoOf, slTrees, AV.asOwn, rowPart, AV.isNil, shA, rowsT, cellsT, cellT, wkLL, rowS, linesV] <;> assumption) (by simp [stoS, go_sem, wkV, wkL, wkO, AV.ids, Ob.ids, idsL, keysOf, ren, AV.one, stoOf, slTrees, AV.asOwn, rowPart, AV.isNil, shA, rowsT, cellsT, cellT, wkLL, rowS, linesV] <;> assumption) (by simp [keysOf, ren]) (by simp [stoOf, keysOf, ren]) (by simp [keysOf, ren]) (by simp [keysOf, ren]))
    · have hil : i = t.length + 1 := by omega
      have d0 : decide (i ≤ t.length) = false := decide_eq_false hle
      rw [← h4 hil]
      simp only [go_sem, toB_size, d0, ↓reduceIte, Nat.reduceEqDiff, Nat.reduceAdd, Nat.reduceLeDiff, reduceCtorEq, Nat.reduceLT, Int.reduceLT, Int.reduceLE, Int.reduceEq, Int.reduceToNat, Nat.reduceMul]
      unfold linesV
      cases out with
      | nil =>
        refine wends2 [] [] (by first | exact Or.inl rfl | exact Or.inr rfl) ?_ (by simp [AV.ids, idsL]) (by simp [stoS]) (by simp [keysOf]) (by simp [stoOf, keysOf] <;> assumption) (by simp [keysOf]) (by simp [keysOf])
        simp only [go_sem, r_ref11_Lines, exists_eq_left', Option.some.injEq, ↓reduceIte, Nat.reduceEqDiff, Nat.reduceAdd, Nat.reduceLeDiff, reduceCtorEq, Nat.reduceLT, Int.reduceLT, Int.reduceLE, Int.reduceEq, Int.reduceToNat, Nat.reduceMul]
        simp [wkV, wkL, slTrees, AV.asOwn, rowPart, stoOf, AV.isNil, shA, rowsT, cellsT, cellT]
      | cons a L =>
        refine wends2 [] [999] (by first | exact Or.inl rfl | exact Or.inr rfl) ?_ (by simp [AV.ids, idsL]) (by simp [stoS]) (by simp [keysOf]) (by simp [stoOf, keysOf] <;> assumption) (by simp [keysOf]) (by simp [keysOf])
        simp only [go_sem, r_ref11_Lines, exists_eq_left', Option.some.injEq, ↓reduceIte, Nat.reduceEqDiff, Nat.reduceAdd, Nat.reduceLeDiff, reduceCtorEq, Nat.reduceLT, Int.reduceLT, Int.reduceLE, Int.reduceEq, Int.reduceToNat, Nat.reduceMul]
        simp [wkV, wkL, slTrees, AV.asOwn, rowPart, stoOf, AV.isNil, shA, rowsT, cellsT, cellT, List.take_of_length_le]

end Go.Proofs.YtbkchhjdjijhkaaDoor
