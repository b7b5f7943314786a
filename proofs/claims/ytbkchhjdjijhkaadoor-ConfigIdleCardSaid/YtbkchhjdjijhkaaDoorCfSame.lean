/- Configurations, and lists of texts, held against each other: contracts. No statement of the seat is proved here. -/
import Derived.Test.YtbkchhjdjijhkaaDoorCfMath
import Derived.Test.YtbkchhjdjijhkaaDoorSxH
set_option linter.unusedSimpArgs false
set_option linter.unusedVariables false
namespace Go.Proofs.YtbkchhjdjijhkaaDoor
open Go Go.Sx

theorem go_small : ∀ (ls : List (List UInt8)) (st st' : CfSt), cfGo ls st = .ok st' → ((cfAll st).length ≤ 16 ∧ ∀ s ∈ cfAll st, s.2.length ≤ 16) → ((cfAll st').length ≤ 16 ∧ ∀ s ∈ cfAll st', s.2.length ≤ 16)
  | [], st, st', h, hs => by
    simp only [cfGo, Except.ok.injEq] at h; subst h; exact hs
  | l :: ls, st, st', h, hs => by
    cases hc : cfStep st l with
    | error e => simp only [cfGo, hc] at h; cases h
    | ok st1 =>
      simp only [cfGo, hc] at h
      refine go_small ls st1 st' h ?_
      unfold cfStep at hc
      split at hc
      · split at hc
        · cases hc
        · split at hc
          · cases hc
          · rename_i hn
            simp only [Except.ok.injEq] at hc; subst hc
            have e : cfAll (some (cfAll st, cfSecN l, [])) = cfAll st ++ [(cfSecN l, [])] := rfl
            rw [e]
            have h16 := hs.1
            refine ⟨by rw [List.length_append]; simp only [List.length_cons, List.length_nil]; omega, fun s hm => ?_⟩
            rcases List.mem_append.1 hm with h1 | h1
            · exact hs.2 s h1
            · obtain rfl : s = _ := by simpa using h1
              simp
      · cases st with
        | none => cases hc
        | some q =>
          obtain ⟨d, n, ks⟩ := q
          simp only at hc
          split at hc
          · cases hc
          · split at hc
            · cases hc
            · split at hc
              · cases hc
              · rename_i hn
                simp only [Except.ok.injEq] at hc; subst hc
                have hk := hs.2 (n, ks) (by simp [cfAll])
                simp only at hk
                refine ⟨by simpa [cfAll] using hs.1, fun s hm => ?_⟩
                simp only [cfAll] at hm
                rcases List.mem_append.1 hm with h1 | h1
                · exact hs.2 s (by simp [cfAll, h1])
                · obtain rfl : s = _ := by simpa using h1
                  simp; omega

theorem parse_small (t : List UInt8) : (cfParse t).1.length ≤ 16 ∧ ∀ s ∈ (cfParse t).1, s.2.length ≤ 16 := by
  unfold cfParse
  split
  · simp
  · cases h : cfGo (cfLines t) none with
    | error e => simp
    | ok st => exact go_small _ _ _ h (by simp [cfAll])

theorem f_ref11_Same (l : List CfSec) (h1 : l.length ≤ 16) (h2 : ∀ s ∈ l, s.2.length ≤ 16) : Meets Tryd.prog E0 n_ref11_Same [secsV l, secsV l] [] (Bo true) [] := by
  refine m_ref11_Same (by simp) (shut0 rfl) (shut0 rfl) (by simp) (by simp [keysOf]) ?_
  have hlen : (l.map secT).length = l.length := by simp
  have d1 : decide (l.length = l.length) = true := decide_eq_true rfl
  simp only [go_sem, s_ref11_Same, secsV, hlen, d1, ↓reduceIte, Nat.reduceEqDiff, Nat.reduceAdd, Nat.reduceLeDiff, reduceCtorEq, Nat.reduceLT, Int.reduceLT, Int.reduceLE, Int.reduceEq, Int.reduceToNat, Nat.reduceMul]
  refine W_loop (fun i : Nat => l.length - i) (fun i => i ≤ l.length)
    (fun i => [(0, secsV l), (1, secsV l), (5, I i)]) (fun _ => []) 0 (Nat.zero_le _) (subL [] [] (by simp [envS, go_sem, wkV, wkL, AV.ids, idsL, keysOf, ren, stoOf, slTrees, AV.asOwn, rowPart, AV.isNil, shA, rowsT, cellsT, cellT, wkLL, rowS, linesV, pairT, secT, secsV] <;> assumption) (by simp [stoS, go_sem, wkV, wkL, wkO, AV.ids, Ob.ids, idsL, keysOf, ren, AV.one, stoOf, slTrees, AV.asOwn, rowPart, AV.isNil, shA, rowsT, cellsT, cellT, wkLL, rowS, linesV, pairT, secT, secsV] <;> assumption) (by simp [keysOf, ren]) (by simp [stoOf, keysOf, ren]) (by simp [keysOf, ren]) (by simp [keysOf, ren])) ?_
  intro i hi
  by_cases hil : i < l.length
  · have d0 : decide (i < l.length) = true := decide_eq_true hil
    obtain ⟨s, hs⟩ := get_of_lt hil
    have hk := h2 s (List.mem_of_getElem? hs)
    have ei : IntKind.i64.wrap ((i : Int) + 1) = ((i + 1 : Nat) : Int) := by rw [wrap_i64_of (by omega) (by omega)]; omega
    have hg : (l.map secT)[i]? = some [.v (.string (toB s.1)), .sl 2 (s.2.map pairT)] := by rw [List.getElem?_map, hs]; rfl
    have hkl : (s.2.map pairT).length = s.2.length := by simp
    have q : binStr .neq (toB s.1) (toB s.1) = some (.bool false) := by rw [neT]; simp
    have d2 : decide (s.2.length = s.2.length) = true := decide_eq_true rfl
    simp only [go_sem, secsV, hlen, d0, hg, q, hkl, d2, ↓reduceIte, Nat.reduceEqDiff, Nat.reduceAdd, Nat.reduceLeDiff, reduceCtorEq, Nat.reduceLT, Int.reduceLT, Int.reduceLE, Int.reduceEq, Int.reduceToNat, Nat.reduceMul]
    ((try (with_reducible refine R_fin (by repeat' (first | exact okp0 | refine okp rfl rfl rfl ?_)) ?_)); (try simp only [go_sem, secsV, hlen, d0, hg, q, hkl, d2, ↓reduceIte, Nat.reduceEqDiff, Nat.reduceAdd, Nat.reduceLeDiff, reduceCtorEq, Nat.reduceLT, Int.reduceLT, Int.reduceLE, Int.reduceEq, Int.reduceToNat, Nat.reduceMul]))
    refine W_loop (fun k : Nat => s.2.length - k) (fun k => k ≤ s.2.length)
      (fun k => [(0, secsV l), (1, secsV l), (5, I i), (6, I k)]) (fun _ => []) 0 (Nat.zero_le _) (subL [] [] (by simp [envS, go_sem, wkV, wkL, AV.ids, idsL, keysOf, ren, stoOf, slTrees, AV.asOwn, rowPart, AV.isNil, shA, rowsT, cellsT, cellT, wkLL, rowS, linesV, pairT, secT, secsV] <;> assumption) (by simp [stoS, go_sem, wkV, wkL, wkO, AV.ids, Ob.ids, idsL, keysOf, ren, AV.one, stoOf, slTrees, AV.asOwn, rowPart, AV.isNil, shA, rowsT, cellsT, cellT, wkLL, rowS, linesV, pairT, secT, secsV] <;> assumption) (by simp [keysOf, ren]) (by simp [stoOf, keysOf, ren]) (by simp [keysOf, ren]) (by simp [keysOf, ren])) ?_
    intro k hk2
    by_cases hkl2 : k < s.2.length
    · have d3 : decide (k < s.2.length) = true := decide_eq_true hkl2
      obtain ⟨p, hp⟩ := get_of_lt hkl2
      have ek : IntKind.i64.wrap ((k : Int) + 1) = ((k + 1 : Nat) : Int) := by rw [wrap_i64_of (by omega) (by omega)]; omega
      have hgp : (s.2.map pairT)[k]? = some [.v (.string (toB p.1)), .v (.string (toB p.2))] := by rw [List.getElem?_map, hp]; rfl
      simp only [go_sem, secsV, hlen, hg, hkl, d3, hgp, beq_self_eq_true, ↓reduceIte, Nat.reduceEqDiff, Nat.reduceAdd, Nat.reduceLeDiff, reduceCtorEq, Nat.reduceLT, Int.reduceLT, Int.reduceLE, Int.reduceEq, Int.reduceToNat, Nat.reduceMul]
      ((try (with_reducible refine R_fin (by repeat' (first | exact okp0 | refine okp rfl rfl rfl ?_)) ?_)); (try simp only [go_sem, secsV, hlen, hg, hkl, d3, hgp, beq_self_eq_true, ek, ↓reduceIte, Nat.reduceEqDiff, Nat.reduceAdd, Nat.reduceLeDiff, reduceCtorEq, Nat.reduceLT, Int.reduceLT, Int.reduceLE, Int.reduceEq, Int.reduceToNat, Nat.reduceMul]))
      exact rd_of (k + 1) (by first | omega | (simp only; omega)) (by first | omega | (simp only; omega)) (subL [] [] (by simp [envS, go_sem, wkV, wkL, AV.ids, idsL, keysOf, ren, stoOf, slTrees, AV.asOwn, rowPart, AV.isNil, shA, rowsT, cellsT, cellT, wkLL, rowS, linesV, pairT, secT, secsV] <;> assumption) (by simp [stoS, go_sem, wkV, wkL, wkO, AV.ids, Ob.ids, idsL, keysOf, ren, AV.one, stoOf, slTrees, AV.asOwn, rowPart, AV.isNil, shA, rowsT, cellsT, cellT, wkLL, rowS, linesV, pairT, secT, secsV] <;> assumption) (by simp [keysOf, ren]) (by simp [stoOf, keysOf, ren]) (by simp [keysOf, ren]) (by simp [keysOf, ren]))
    · obtain rfl : k = s.2.length := by omega
      have d3 : decide (s.2.length < s.2.length) = false := decide_eq_false (by omega)
      simp only [go_sem, secsV, hlen, hg, hkl, d3, ei, ↓reduceIte, Nat.reduceEqDiff, Nat.reduceAdd, Nat.reduceLeDiff, reduceCtorEq, Nat.reduceLT, Int.reduceLT, Int.reduceLE, Int.reduceEq, Int.reduceToNat, Nat.reduceMul]
      exact rd_of (i + 1) (by first | omega | (simp only; omega)) (by first | omega | (simp only; omega)) (subL [] [] (by simp [envS, go_sem, wkV, wkL, AV.ids, idsL, keysOf, ren, stoOf, slTrees, AV.asOwn, rowPart, AV.isNil, shA, rowsT, cellsT, cellT, wkLL, rowS, linesV, pairT, secT, secsV] <;> assumption) (by simp [stoS, go_sem, wkV, wkL, wkO, AV.ids, Ob.ids, idsL, keysOf, ren, AV.one, stoOf, slTrees, AV.asOwn, rowPart, AV.isNil, shA, rowsT, cellsT, cellT, wkLL, rowS, linesV, pairT, secT, secsV] <;> assumption) (by simp [keysOf, ren]) (by simp [stoOf, keysOf, ren]) (by simp [keysOf, ren]) (by simp [keysOf, ren]))
  · obtain rfl : i = l.length := by omega
    have d0 : decide (l.length < l.length) = false := decide_eq_false (by omega)
    simp only [go_sem, secsV, hlen, d0, ↓reduceIte, Nat.reduceEqDiff, Nat.reduceAdd, Nat.reduceLeDiff, reduceCtorEq, Nat.reduceLT, Int.reduceLT, Int.reduceLE, Int.reduceEq, Int.reduceToNat, Nat.reduceMul]
    refine wends (by first | exact Or.inl rfl | exact Or.inr rfl) ?_ (by first | rfl | simp [AV.ids, idsL])
    simp only [go_sem, r_ref11_Same, ↓reduceIte, Nat.reduceEqDiff, Nat.reduceAdd, Nat.reduceLeDiff, reduceCtorEq, Nat.reduceLT, Int.reduceLT, Int.reduceLE, Int.reduceEq, Int.reduceToNat, Nat.reduceMul]

theorem f_ref06_Texts (l : List (List UInt8)) (h1 : l.length ≤ 1000000000) : Meets Tryd.prog E0 n_ref06_Texts [linesV l, linesV l] [] (Bo true) [] := by
  refine m_ref06_Texts (by simp) (shut0 rfl) (shut0 rfl) (by simp) (by simp [keysOf]) ?_
  have hlen : (l.map fun x => rowS (toB x)).length = l.length := by simp
  have d1 : decide (l.length = l.length) = true := decide_eq_true rfl
  simp only [go_sem, s_ref06_Texts, linesV, hlen, d1, ↓reduceIte, Nat.reduceEqDiff, Nat.reduceAdd, Nat.reduceLeDiff, reduceCtorEq, Nat.reduceLT, Int.reduceLT, Int.reduceLE, Int.reduceEq, Int.reduceToNat, Nat.reduceMul]
  refine W_loop (fun i : Nat => l.length - i) (fun i => i ≤ l.length)
    (fun i => [(0, linesV l), (1, linesV l), (5, I i)]) (fun _ => []) 0 (Nat.zero_le _) (subL [] [] (by simp [envS, go_sem, wkV, wkL, AV.ids, idsL, keysOf, ren, stoOf, slTrees, AV.asOwn, rowPart, AV.isNil, shA, rowsT, cellsT, cellT, wkLL, rowS, linesV, pairT, secT, secsV] <;> assumption) (by simp [stoS, go_sem, wkV, wkL, wkO, AV.ids, Ob.ids, idsL, keysOf, ren, AV.one, stoOf, slTrees, AV.asOwn, rowPart, AV.isNil, shA, rowsT, cellsT, cellT, wkLL, rowS, linesV, pairT, secT, secsV] <;> assumption) (by simp [keysOf, ren]) (by simp [stoOf, keysOf, ren]) (by simp [keysOf, ren]) (by simp [keysOf, ren])) ?_
  intro i hi
  by_cases hil : i < l.length
  · have d0 : decide (i < l.length) = true := decide_eq_true hil
    obtain ⟨s, hs⟩ := get_of_lt hil
    have ei : IntKind.i64.wrap ((i : Int) + 1) = ((i + 1 : Nat) : Int) := by rw [wrap_i64_of (by omega) (by omega)]; omega
    have hg : (l.map fun x => rowS (toB x))[i]? = some (rowS (toB s)) := by rw [List.getElem?_map, hs]; rfl
    have q : binStr .neq (toB s) (toB s) = some (.bool false) := by rw [neT]; simp
    simp only [go_sem, linesV, hlen, d0, hg, rowS_get, q, ↓reduceIte, Nat.reduceEqDiff, Nat.reduceAdd, Nat.reduceLeDiff, reduceCtorEq, Nat.reduceLT, Int.reduceLT, Int.reduceLE, Int.reduceEq, Int.reduceToNat, Nat.reduceMul]
    ((try (with_reducible refine R_fin (by repeat' (first | exact okp0 | refine okp rfl rfl rfl ?_)) ?_)); (try simp only [go_sem, linesV, hlen, d0, hg, rowS_get, q, ei, ↓reduceIte, Nat.reduceEqDiff, Nat.reduceAdd, Nat.reduceLeDiff, reduceCtorEq, Nat.reduceLT, Int.reduceLT, Int.reduceLE, Int.reduceEq, Int.reduceToNat, Nat.reduceMul]))
    exact rd_of (i + 1) (by first | omega | (simp only; omega)) (by first | omega | (simp only; omega)) (subL [] [] (by simp [envS, go_sem, wkV, wkL, AV.ids, idsL, keysOf, ren, stoOf, slTrees, AV.asOwn, rowPart, AV.isNil, shA, rowsT, cellsT, cellT, wkLL, rowS, linesV, pairT, secT, secsV] <;> assumption) (by simp [stoS, go_sem, wkV, wkL, wkO, AV.ids, Ob.ids, idsL, keysOf, ren, AV.one, stoOf, slTrees, AV.asOwn, rowPart, AV.isNil, shA, rowsT, cellsT, cellT, wkLL, rowS, linesV, pairT, secT, secsV] <;> assumption) (by simp [keysOf, ren]) (by simp [stoOf, keysOf, ren]) (by simp [keysOf, ren]) (by simp [keysOf, ren]))
  · obtain rfl : i = l.length := by omega
    have d0 : decide (l.length < l.length) = false := decide_eq_false (by omega)
    simp only [go_sem, linesV, hlen, d0, ↓reduceIte, Nat.reduceEqDiff, Nat.reduceAdd, Nat.reduceLeDiff, reduceCtorEq, Nat.reduceLT, Int.reduceLT, Int.reduceLE, Int.reduceEq, Int.reduceToNat, Nat.reduceMul]
    refine wends (by first | exact Or.inl rfl | exact Or.inr rfl) ?_ (by first | rfl | simp [AV.ids, idsL])
    simp only [go_sem, r_ref06_Texts, ↓reduceIte, Nat.reduceEqDiff, Nat.reduceAdd, Nat.reduceLeDiff, reduceCtorEq, Nat.reduceLT, Int.reduceLT, Int.reduceLE, Int.reduceEq, Int.reduceToNat, Nat.reduceMul]

end Go.Proofs.YtbkchhjdjijhkaaDoor
