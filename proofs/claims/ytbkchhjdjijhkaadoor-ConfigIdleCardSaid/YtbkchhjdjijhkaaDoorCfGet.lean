/- Keys and names that are looked for: contracts. No statement of the seat is proved here. -/
import Derived.Test.YtbkchhjdjijhkaaDoorCfRef2
import Derived.Test.YtbkchhjdjijhkaaDoorClCap
import Derived.Test.YtbkchhjdjijhkaaDoorSxH
set_option linter.unusedSimpArgs false
set_option linter.unusedVariables false
namespace Go.Proofs.YtbkchhjdjijhkaaDoor
open Go Go.Sx

def cfIdx {α : Type} (p : α → Bool) : List α → Int
  | [] => -1
  | x :: l => if p x then 0 else if cfIdx p l < 0 then -1 else cfIdx p l + 1

theorem cfIdx_ge {α : Type} (p : α → Bool) (l : List α) : -1 ≤ cfIdx p l ∧ cfIdx p l < l.length := by
  induction l with
  | nil => simp [cfIdx]
  | cons x l ih => simp only [cfIdx, List.length_cons]; split <;> (try split) <;> omega

theorem cfIdx_drop {α : Type} (p : α → Bool) : ∀ (l : List α) (i : Nat), i ≤ l.length → (∀ j x, j < i → l[j]? = some x → p x = false) → cfIdx p l = if cfIdx p (l.drop i) < 0 then -1 else cfIdx p (l.drop i) + i
  | l, 0, _, _ => by
    have := cfIdx_ge p l
    simp; omega
  | [], i + 1, h, _ => by simp at h
  | x :: l, i + 1, h, hn => by
    have hx : p x = false := hn 0 x (by omega) rfl
    have ih := cfIdx_drop p l i (by simpa using h) (fun j y hj hy => hn (j + 1) y (by omega) (by simpa using hy))
    have hg := cfIdx_ge p (l.drop i)
    simp only [List.drop_succ_cons, cfIdx, hx]
    rw [ih]
    simp only [Bool.false_eq_true, if_false]
    split <;> split <;> omega

theorem f_config_has_1 (n : List UInt8) (s : CfSec) : Meets Tryd.prog E0 n_config_has_1 [.ag ((secT s).map .t), .ptr 0 0] [(0, .box [Str (toB n)])] (Bo (s.1 == n)) [(0, .box [Str (toB n)])] := by
  have q := eqT s.1 n
  refine m_config_has_1 (by simp) (shut_of (by simp [idsL, AV.ids, keysOf, pairT, secT, secsV, linesV]) (by simp [Ob.live, Ob.ids, keysOf, idsL, AV.ids, pairT, secT, secsV, linesV])) (shut_of (by simp [idsL, AV.ids, keysOf, pairT, secT, secsV, linesV]) (by simp [Ob.live, Ob.ids, keysOf, idsL, AV.ids, pairT, secT, secsV, linesV])) (by simp [keysOf]) (by simp [keysOf]) ?_
  simp only [secT, List.map]
  simp only [go_sem, s_config_has_1, q, ↓reduceIte, Nat.reduceEqDiff, Nat.reduceAdd, Nat.reduceLeDiff, reduceCtorEq, Nat.reduceLT, Int.reduceLT, Int.reduceLE, Int.reduceEq, Int.reduceToNat, Nat.reduceMul]
  refine wends2 [] [] (by first | exact Or.inl rfl | exact Or.inr rfl) ?_ (by simp [AV.ids, idsL, keysOf]) (by simp [stoS, wkO, ls_cons, ls_nil, stoOf, ren, keysOf, Ob.ids, wkV, wkL, AV.one, idsL, AV.ids, pairT, secT, secsV, linesV] <;> assumption) (by simp [keysOf, ren]) (by simp [stoOf, keysOf, ren]) (by simp [keysOf, ren]) (by simp [keysOf, ren])
  simp only [go_sem, r_config_has_1, exists_eq_left', Option.some.injEq, ↓reduceIte, Nat.reduceEqDiff, Nat.reduceAdd, Nat.reduceLeDiff, reduceCtorEq, Nat.reduceLT, Int.reduceLT, Int.reduceLE, Int.reduceEq, Int.reduceToNat, Nat.reduceMul]
  simp [wkV, wkL, slTrees, AV.asOwn, rowPart, stoOf, AV.isNil, shA, rowsT, cellsT, cellT, ren]

theorem f_config_Get_1 (n : List UInt8) (p : CfPair) : Meets Tryd.prog E0 n_config_Get_1 [.ag ((pairT p).map .t), .ptr 0 0] [(0, .box [Str (toB n)])] (Bo (p.1 == n)) [(0, .box [Str (toB n)])] := by
  have q := eqT p.1 n
  refine m_config_Get_1 (by simp) (shut_of (by simp [idsL, AV.ids, keysOf, pairT, secT, secsV, linesV]) (by simp [Ob.live, Ob.ids, keysOf, idsL, AV.ids, pairT, secT, secsV, linesV])) (shut_of (by simp [idsL, AV.ids, keysOf, pairT, secT, secsV, linesV]) (by simp [Ob.live, Ob.ids, keysOf, idsL, AV.ids, pairT, secT, secsV, linesV])) (by simp [keysOf]) (by simp [keysOf]) ?_
  simp only [pairT, List.map]
  simp only [go_sem, s_config_Get_1, q, ↓reduceIte, Nat.reduceEqDiff, Nat.reduceAdd, Nat.reduceLeDiff, reduceCtorEq, Nat.reduceLT, Int.reduceLT, Int.reduceLE, Int.reduceEq, Int.reduceToNat, Nat.reduceMul]
  refine wends2 [] [] (by first | exact Or.inl rfl | exact Or.inr rfl) ?_ (by simp [AV.ids, idsL, keysOf]) (by simp [stoS, wkO, ls_cons, ls_nil, stoOf, ren, keysOf, Ob.ids, wkV, wkL, AV.one, idsL, AV.ids, pairT, secT, secsV, linesV] <;> assumption) (by simp [keysOf, ren]) (by simp [stoOf, keysOf, ren]) (by simp [keysOf, ren]) (by simp [keysOf, ren])
  simp only [go_sem, r_config_Get_1, exists_eq_left', Option.some.injEq, ↓reduceIte, Nat.reduceEqDiff, Nat.reduceAdd, Nat.reduceLeDiff, reduceCtorEq, Nat.reduceLT, Int.reduceLT, Int.reduceLE, Int.reduceEq, Int.reduceToNat, Nat.reduceMul]
  simp [wkV, wkL, slTrees, AV.asOwn, rowPart, stoOf, AV.isNil, shA, rowsT, cellsT, cellT, ren]

theorem f_IndexFunc_sec (l : List CfSec) (n : List UInt8) (hl : l.length ≤ 1000000) : Meets Tryd.prog E0 n_slices_IndexFunc_Sapi_Section_api_Section [.t (.sl 2 (l.map secT)), .fn n_config_has_1 [] [.ptr 0 0]] [(0, .box [Str (toB n)])] (I (cfIdx (fun s => s.1 == n) l)) [(0, .box [Str (toB n)])] := by
  refine m_slices_IndexFunc_Sapi_Section_api_Section (by simp) (shut_of (by simp [idsL, AV.ids, keysOf, pairT, secT, secsV, linesV]) (by simp [Ob.live, Ob.ids, keysOf, idsL, AV.ids, pairT, secT, secsV, linesV])) (shut_of (by simp [idsL, AV.ids, keysOf, pairT, secT, secsV, linesV]) (by simp [Ob.live, Ob.ids, keysOf, idsL, AV.ids, pairT, secT, secsV, linesV])) (by simp [keysOf]) (by simp [keysOf]) ?_
  have hlen : (l.map secT).length = l.length := by simp
  simp only [go_sem, s_slices_IndexFunc_Sapi_Section_api_Section, hlen, ↓reduceIte, Nat.reduceEqDiff, Nat.reduceAdd, Nat.reduceLeDiff, reduceCtorEq, Nat.reduceLT, Int.reduceLT, Int.reduceLE, Int.reduceEq, Int.reduceToNat, Nat.reduceMul]
  refine W_loop (fun i : Nat => l.length - i) (fun i => i ≤ l.length ∧ ∀ j x, j < i → l[j]? = some x → (x.1 == n) = false)
    (fun i => [(0, .t (.sl 2 (l.map secT))), (1, .fn n_config_has_1 [] [.ptr 0 0]), (7, I l.length), (8, I i)]) (fun _ => [(0, .box [Str (toB n)])]) 0 ⟨Nat.zero_le _, fun j x h => absurd h (by omega)⟩ ?_ ?_
  · exact (subL [] [] (by simp [envS, go_sem, wkV, wkL, AV.ids, idsL, keysOf, ren, stoOf, slTrees, AV.asOwn, rowPart, AV.isNil, shA, rowsT, cellsT, cellT, wkLL, pairT, secT, secsV, linesV] <;> assumption) (by simp [stoS, go_sem, wkV, wkL, wkO, AV.ids, Ob.ids, idsL, keysOf, ren, AV.one, stoOf, slTrees, AV.asOwn, rowPart, AV.isNil, shA, rowsT, cellsT, cellT, wkLL, pairT, secT, secsV, linesV] <;> assumption) (by simp [keysOf, ren]) (by simp [stoOf, keysOf, ren]) (by simp [keysOf, ren]) (by simp [keysOf, ren]))
  · rintro i ⟨hi, hno⟩
    have hix := cfIdx_drop (fun s : CfSec => s.1 == n) l i hi hno
    by_cases hil : i < l.length
    · have d0 : decide (i < l.length) = true := decide_eq_true hil
      obtain ⟨s, hs⟩ := get_of_lt hil
      have ei : IntKind.i64.wrap ((i : Int) + 1) = ((i + 1 : Nat) : Int) := by rw [wrap_i64_of (by omega) (by omega)]; omega
      have hg : (l.map secT)[i]? = some (secT s) := by rw [List.getElem?_map, hs]; rfl
      have hf := f_config_has_1 n s
      rw [drop_get hs] at hix
      have hsl : (secT s).length = 2 := rfl
      have htk : (secT s).take 2 = secT s := rfl
      simp only [go_sem, d0, hg, hsl, htk, ↓reduceIte, Nat.reduceEqDiff, Nat.reduceAdd, Nat.reduceLeDiff, reduceCtorEq, Nat.reduceLT, Int.reduceLT, Int.reduceLE, Int.reduceEq, Int.reduceToNat, Nat.reduceMul]
      refine Cl_cap hf (by simp [keysOf, stoOf]) (by simp [keysOf]) (by simp [keysOf]) ?_
      cases hb : (s.1 == n)
      · simp only [go_sem, ei, ↓reduceIte, Nat.reduceEqDiff, Nat.reduceAdd, Nat.reduceLeDiff, reduceCtorEq, Nat.reduceLT, Int.reduceLT, Int.reduceLE, Int.reduceEq, Int.reduceToNat, Nat.reduceMul]
        refine rd_of (i + 1) (by first | omega | (simp only; omega)) ⟨hil, fun j x hj hx => ?_⟩ (subL [] [] (by simp [envS, go_sem, wkV, wkL, AV.ids, idsL, keysOf, ren, stoOf, slTrees, AV.asOwn, rowPart, AV.isNil, shA, rowsT, cellsT, cellT, wkLL, pairT, secT, secsV, linesV] <;> assumption) (by simp [stoS, go_sem, wkV, wkL, wkO, AV.ids, Ob.ids, idsL, keysOf, ren, AV.one, stoOf, slTrees, AV.asOwn, rowPart, AV.isNil, shA, rowsT, cellsT, cellT, wkLL, pairT, secT, secsV, linesV] <;> assumption) (by simp [keysOf, ren]) (by simp [stoOf, keysOf, ren]) (by simp [keysOf, ren]) (by simp [keysOf, ren]))
        rcases Nat.lt_or_ge j i with h | h
        · exact hno j x h hx
        · obtain rfl : j = i := by omega
          rw [hs] at hx; injection hx with hx; subst hx; exact hb
      · have hz : cfIdx (fun s : CfSec => s.1 == n) (s :: l.drop (i + 1)) = 0 := by simp only [cfIdx, hb, if_true]
        rw [hz, if_neg (by omega)] at hix
        rw [hix, show (0 : Int) + (i : Int) = (i : Int) by omega]
        simp only [go_sem, ↓reduceIte, Nat.reduceEqDiff, Nat.reduceAdd, Nat.reduceLeDiff, reduceCtorEq, Nat.reduceLT, Int.reduceLT, Int.reduceLE, Int.reduceEq, Int.reduceToNat, Nat.reduceMul]
        refine wends2 [] [] (by first | exact Or.inl rfl | exact Or.inr rfl) ?_ (by simp [AV.ids, idsL, keysOf]) (by simp [stoS, wkO, ls_cons, ls_nil, stoOf, ren, keysOf, Ob.ids, wkV, wkL, AV.one, idsL, AV.ids, pairT, secT, secsV, linesV] <;> assumption) (by simp [keysOf, ren]) (by simp [stoOf, keysOf, ren]) (by simp [keysOf, ren]) (by simp [keysOf, ren])
        simp only [go_sem, r_slices_IndexFunc_Sapi_Section_api_Section, exists_eq_left', Option.some.injEq, ↓reduceIte, Nat.reduceEqDiff, Nat.reduceAdd, Nat.reduceLeDiff, reduceCtorEq, Nat.reduceLT, Int.reduceLT, Int.reduceLE, Int.reduceEq, Int.reduceToNat, Nat.reduceMul]
        simp [wkV, wkL, slTrees, AV.asOwn, rowPart, stoOf, AV.isNil, shA, rowsT, cellsT, cellT, ren]
    · obtain rfl : i = l.length := by omega
      have d0 : decide (l.length < l.length) = false := decide_eq_false (by omega)
      have hz : cfIdx (fun s : CfSec => s.1 == n) [] = -1 := rfl
      rw [List.drop_length, hz, if_pos (by omega)] at hix
      rw [hix]
      simp only [go_sem, d0, ↓reduceIte, Nat.reduceEqDiff, Nat.reduceAdd, Nat.reduceLeDiff, reduceCtorEq, Nat.reduceLT, Int.reduceLT, Int.reduceLE, Int.reduceEq, Int.reduceToNat, Nat.reduceMul]
      refine wends2 [] [] (by first | exact Or.inl rfl | exact Or.inr rfl) ?_ (by simp [AV.ids, idsL, keysOf]) (by simp [stoS, wkO, ls_cons, ls_nil, stoOf, ren, keysOf, Ob.ids, wkV, wkL, AV.one, idsL, AV.ids, pairT, secT, secsV, linesV] <;> assumption) (by simp [keysOf, ren]) (by simp [stoOf, keysOf, ren]) (by simp [keysOf, ren]) (by simp [keysOf, ren])
      simp only [go_sem, r_slices_IndexFunc_Sapi_Section_api_Section, exists_eq_left', Option.some.injEq, ↓reduceIte, Nat.reduceEqDiff, Nat.reduceAdd, Nat.reduceLeDiff, reduceCtorEq, Nat.reduceLT, Int.reduceLT, Int.reduceLE, Int.reduceEq, Int.reduceToNat, Nat.reduceMul]
      simp [wkV, wkL, slTrees, AV.asOwn, rowPart, stoOf, AV.isNil, shA, rowsT, cellsT, cellT, ren]

theorem f_IndexFunc_pair (l : List CfPair) (n : List UInt8) (hl : l.length ≤ 1000000) : Meets Tryd.prog E0 n_slices_IndexFunc_Sapi_Pair_api_Pair [.t (.sl 2 (l.map pairT)), .fn n_config_Get_1 [] [.ptr 0 0]] [(0, .box [Str (toB n)])] (I (cfIdx (fun s => s.1 == n) l)) [(0, .box [Str (toB n)])] := by
  refine m_slices_IndexFunc_Sapi_Pair_api_Pair (by simp) (shut_of (by simp [idsL, AV.ids, keysOf, pairT, secT, secsV, linesV]) (by simp [Ob.live, Ob.ids, keysOf, idsL, AV.ids, pairT, secT, secsV, linesV])) (shut_of (by simp [idsL, AV.ids, keysOf, pairT, secT, secsV, linesV]) (by simp [Ob.live, Ob.ids, keysOf, idsL, AV.ids, pairT, secT, secsV, linesV])) (by simp [keysOf]) (by simp [keysOf]) ?_
  have hlen : (l.map pairT).length = l.length := by simp
  simp only [go_sem, s_slices_IndexFunc_Sapi_Pair_api_Pair, hlen, ↓reduceIte, Nat.reduceEqDiff, Nat.reduceAdd, Nat.reduceLeDiff, reduceCtorEq, Nat.reduceLT, Int.reduceLT, Int.reduceLE, Int.reduceEq, Int.reduceToNat, Nat.reduceMul]
  refine W_loop (fun i : Nat => l.length - i) (fun i => i ≤ l.length ∧ ∀ j x, j < i → l[j]? = some x → (x.1 == n) = false)
    (fun i => [(0, .t (.sl 2 (l.map pairT))), (1, .fn n_config_Get_1 [] [.ptr 0 0]), (7, I l.length), (8, I i)]) (fun _ => [(0, .box [Str (toB n)])]) 0 ⟨Nat.zero_le _, fun j x h => absurd h (by omega)⟩ ?_ ?_
  · exact (subL [] [] (by simp [envS, go_sem, wkV, wkL, AV.ids, idsL, keysOf, ren, stoOf, slTrees, AV.asOwn, rowPart, AV.isNil, shA, rowsT, cellsT, cellT, wkLL, pairT, secT, secsV, linesV] <;> assumption) (by simp [stoS, go_sem, wkV, wkL, wkO, AV.ids, Ob.ids, idsL, keysOf, ren, AV.one, stoOf, slTrees, AV.asOwn, rowPart, AV.isNil, shA, rowsT, cellsT, cellT, wkLL, pairT, secT, secsV, linesV] <;> assumption) (by simp [keysOf, ren]) (by simp [stoOf, keysOf, ren]) (by simp [keysOf, ren]) (by simp [keysOf, ren]))
  · rintro i ⟨hi, hno⟩
    have hix := cfIdx_drop (fun s : CfPair => s.1 == n) l i hi hno
    by_cases hil : i < l.length
    · have d0 : decide (i < l.length) = true := decide_eq_true hil
      obtain ⟨s, hs⟩ := get_of_lt hil
      have ei : IntKind.i64.wrap ((i : Int) + 1) = ((i + 1 : Nat) : Int) := by rw [wrap_i64_of (by omega) (by omega)]; omega
      have hg : (l.map pairT)[i]? = some (pairT s) := by rw [List.getElem?_map, hs]; rfl
      have hf := f_config_Get_1 n s
      rw [drop_get hs] at hix
      have hsl : (pairT s).length = 2 := rfl
      have htk : (pairT s).take 2 = pairT s := rfl
      simp only [go_sem, d0, hg, hsl, htk, ↓reduceIte, Nat.reduceEqDiff, Nat.reduceAdd, Nat.reduceLeDiff, reduceCtorEq, Nat.reduceLT, Int.reduceLT, Int.reduceLE, Int.reduceEq, Int.reduceToNat, Nat.reduceMul]
      refine Cl_cap hf (by simp [keysOf, stoOf]) (by simp [keysOf]) (by simp [keysOf]) ?_
      cases hb : (s.1 == n)
      · simp only [go_sem, ei, ↓reduceIte, Nat.reduceEqDiff, Nat.reduceAdd, Nat.reduceLeDiff, reduceCtorEq, Nat.reduceLT, Int.reduceLT, Int.reduceLE, Int.reduceEq, Int.reduceToNat, Nat.reduceMul]
        refine rd_of (i + 1) (by first | omega | (simp only; omega)) ⟨hil, fun j x hj hx => ?_⟩ (subL [] [] (by simp [envS, go_sem, wkV, wkL, AV.ids, idsL, keysOf, ren, stoOf, slTrees, AV.asOwn, rowPart, AV.isNil, shA, rowsT, cellsT, cellT, wkLL, pairT, secT, secsV, linesV] <;> assumption) (by simp [stoS, go_sem, wkV, wkL, wkO, AV.ids, Ob.ids, idsL, keysOf, ren, AV.one, stoOf, slTrees, AV.asOwn, rowPart, AV.isNil, shA, rowsT, cellsT, cellT, wkLL, pairT, secT, secsV, linesV] <;> assumption) (by simp [keysOf, ren]) (by simp [stoOf, keysOf, ren]) (by simp [keysOf, ren]) (by simp [keysOf, ren]))
        rcases Nat.lt_or_ge j i with h | h
        · exact hno j x h hx
        · obtain rfl : j = i := by omega
          rw [hs] at hx; injection hx with hx; subst hx; exact hb
      · have hz : cfIdx (fun s : CfPair => s.1 == n) (s :: l.drop (i + 1)) = 0 := by simp only [cfIdx, hb, if_true]
        rw [hz, if_neg (by omega)] at hix
        rw [hix, show (0 : Int) + (i : Int) = (i : Int) by omega]
        simp only [go_sem, ↓reduceIte, Nat.reduceEqDiff, Nat.reduceAdd, Nat.reduceLeDiff, reduceCtorEq, Nat.reduceLT, Int.reduceLT, Int.reduceLE, Int.reduceEq, Int.reduceToNat, Nat.reduceMul]
        refine wends2 [] [] (by first | exact Or.inl rfl | exact Or.inr rfl) ?_ (by simp [AV.ids, idsL, keysOf]) (by simp [stoS, wkO, ls_cons, ls_nil, stoOf, ren, keysOf, Ob.ids, wkV, wkL, AV.one, idsL, AV.ids, pairT, secT, secsV, linesV] <;> assumption) (by simp [keysOf, ren]) (by simp [stoOf, keysOf, ren]) (by simp [keysOf, ren]) (by simp [keysOf, ren])
        simp only [go_sem, r_slices_IndexFunc_Sapi_Pair_api_Pair, exists_eq_left', Option.some.injEq, ↓reduceIte, Nat.reduceEqDiff, Nat.reduceAdd, Nat.reduceLeDiff, reduceCtorEq, Nat.reduceLT, Int.reduceLT, Int.reduceLE, Int.reduceEq, Int.reduceToNat, Nat.reduceMul]
        simp [wkV, wkL, slTrees, AV.asOwn, rowPart, stoOf, AV.isNil, shA, rowsT, cellsT, cellT, ren]
    · obtain rfl : i = l.length := by omega
      have d0 : decide (l.length < l.length) = false := decide_eq_false (by omega)
      have hz : cfIdx (fun s : CfPair => s.1 == n) [] = -1 := rfl
      rw [List.drop_length, hz, if_pos (by omega)] at hix
      rw [hix]
      simp only [go_sem, d0, ↓reduceIte, Nat.reduceEqDiff, Nat.reduceAdd, Nat.reduceLeDiff, reduceCtorEq, Nat.reduceLT, Int.reduceLT, Int.reduceLE, Int.reduceEq, Int.reduceToNat, Nat.reduceMul]
      refine wends2 [] [] (by first | exact Or.inl rfl | exact Or.inr rfl) ?_ (by simp [AV.ids, idsL, keysOf]) (by simp [stoS, wkO, ls_cons, ls_nil, stoOf, ren, keysOf, Ob.ids, wkV, wkL, AV.one, idsL, AV.ids, pairT, secT, secsV, linesV] <;> assumption) (by simp [keysOf, ren]) (by simp [stoOf, keysOf, ren]) (by simp [keysOf, ren]) (by simp [keysOf, ren])
      simp only [go_sem, r_slices_IndexFunc_Sapi_Pair_api_Pair, exists_eq_left', Option.some.injEq, ↓reduceIte, Nat.reduceEqDiff, Nat.reduceAdd, Nat.reduceLeDiff, reduceCtorEq, Nat.reduceLT, Int.reduceLT, Int.reduceLE, Int.reduceEq, Int.reduceToNat, Nat.reduceMul]
      simp [wkV, wkL, slTrees, AV.asOwn, rowPart, stoOf, AV.isNil, shA, rowsT, cellsT, cellT, ren]

theorem cfIdx_has (l : List CfSec) (n : List UInt8) : decide (0 ≤ cfIdx (fun s => s.1 == n) l) = cfHas l n := by
  induction l with
  | nil => rfl
  | cons s l ih =>
    have hg := cfIdx_ge (fun s : CfSec => s.1 == n) l
    simp only [cfIdx, cfHas]
    by_cases hb : s.1 = n
    · have hb' : (s.1 == n) = true := by simpa using hb
      simp only [hb', if_true, Bool.true_or]
      rfl
    · have hb' : (s.1 == n) = false := by simpa using hb
      simp only [hb', Bool.false_eq_true, if_false, Bool.false_or]
      rw [← ih]
      refine decide_eq_decide.2 ?_
      split <;> omega

theorem cfIdx_get (l : List CfPair) (n : List UInt8) : cfGet l n = if cfIdx (fun s => s.1 == n) l < 0 then none else (l[(cfIdx (fun s => s.1 == n) l).toNat]?).map (·.2) := by
  induction l with
  | nil => rfl
  | cons s l ih =>
    have hg := cfIdx_ge (fun s : CfPair => s.1 == n) l
    simp only [cfIdx, cfGet]
    by_cases hb : s.1 = n
    · have hb' : (s.1 == n) = true := by simpa using hb
      rw [if_pos hb]
      simp only [hb', if_true]
      rfl
    · have hb' : (s.1 == n) = false := by simpa using hb
      rw [if_neg hb, ih]
      simp only [hb', Bool.false_eq_true, if_false]
      by_cases h : cfIdx (fun s : CfPair => s.1 == n) l < 0
      · rw [if_pos h, if_pos h, if_pos (by omega)]
      · rw [if_neg h, if_neg h, if_neg (by omega)]
        have e : (cfIdx (fun s : CfPair => s.1 == n) l + 1).toNat = (cfIdx (fun s : CfPair => s.1 == n) l).toNat + 1 := by omega
        rw [e, List.getElem?_cons_succ]

theorem f_ContainsFunc_sec (l : List CfSec) (n : List UInt8) (hl : l.length ≤ 1000000) : Meets Tryd.prog E0 n_slices_ContainsFunc_Sapi_Section_api_Section [.t (.sl 2 (l.map secT)), .fn n_config_has_1 [] [.ptr 0 0]] [(0, .box [Str (toB n)])] (Bo (cfHas l n)) [(0, .box [Str (toB n)])] := by
  refine m_slices_ContainsFunc_Sapi_Section_api_Section (by simp) (shut_of (by simp [idsL, AV.ids, keysOf, pairT, secT, secsV, linesV]) (by simp [Ob.live, Ob.ids, keysOf, idsL, AV.ids, pairT, secT, secsV, linesV])) (shut_of (by simp [idsL, AV.ids, keysOf, pairT, secT, secsV, linesV]) (by simp [Ob.live, Ob.ids, keysOf, idsL, AV.ids, pairT, secT, secsV, linesV])) (by simp [keysOf]) (by simp [keysOf]) ?_
  have h := f_IndexFunc_sec l n hl
  have e := cfIdx_has l n
  simp only [go_sem, s_slices_ContainsFunc_Sapi_Section_api_Section, ↓reduceIte, Nat.reduceEqDiff, Nat.reduceAdd, Nat.reduceLeDiff, reduceCtorEq, Nat.reduceLT, Int.reduceLT, Int.reduceLE, Int.reduceEq, Int.reduceToNat, Nat.reduceMul]
  refine Cl_obj (ins := _) (hin := by simp [keysOf, stoOf]) (hk := by simp [keysOf]) (nd := by simp [keysOf]) (h := h) ?_
  simp only [go_sem, e, ↓reduceIte, Nat.reduceEqDiff, Nat.reduceAdd, Nat.reduceLeDiff, reduceCtorEq, Nat.reduceLT, Int.reduceLT, Int.reduceLE, Int.reduceEq, Int.reduceToNat, Nat.reduceMul]
  refine wends2 [] [] (by first | exact Or.inl rfl | exact Or.inr rfl) ?_ (by simp [AV.ids, idsL, keysOf]) (by simp [stoS, wkO, ls_cons, ls_nil, stoOf, ren, keysOf, Ob.ids, wkV, wkL, AV.one, idsL, AV.ids, pairT, secT, secsV, linesV] <;> assumption) (by simp [keysOf, ren]) (by simp [stoOf, keysOf, ren]) (by simp [keysOf, ren]) (by simp [keysOf, ren])
  simp only [go_sem, r_slices_ContainsFunc_Sapi_Section_api_Section, exists_eq_left', Option.some.injEq, ↓reduceIte, Nat.reduceEqDiff, Nat.reduceAdd, Nat.reduceLeDiff, reduceCtorEq, Nat.reduceLT, Int.reduceLT, Int.reduceLE, Int.reduceEq, Int.reduceToNat, Nat.reduceMul]
  simp [wkV, wkL, slTrees, AV.asOwn, rowPart, stoOf, AV.isNil, shA, rowsT, cellsT, cellT, ren]

theorem f_config_has (l : List CfSec) (n : List UInt8) (hl : l.length ≤ 1000000) : Meets Tryd.prog E0 n_config_has [secsV l, Str (toB n)] [] (Bo (cfHas l n)) [] := by
  refine m_config_has (by simp) (shut0 rfl) (shut0 rfl) (by simp) (by simp [keysOf]) ?_
  have h := (f_ContainsFunc_sec l n hl).ren (fun _ => 100) (by simp [keysOf])
  simp only [renL, renA, renS, renO] at h
  simp only [go_sem, s_config_has, ↓reduceIte, Nat.reduceEqDiff, Nat.reduceAdd, Nat.reduceLeDiff, reduceCtorEq, Nat.reduceLT, Int.reduceLT, Int.reduceLE, Int.reduceEq, Int.reduceToNat, Nat.reduceMul]
  refine Cl_obj (ins := _) (hin := by simp [keysOf, stoOf]) (hk := by simp [keysOf]) (nd := by simp [keysOf]) (h := h) ?_
  simp only [go_sem, ↓reduceIte, Nat.reduceEqDiff, Nat.reduceAdd, Nat.reduceLeDiff, reduceCtorEq, Nat.reduceLT, Int.reduceLT, Int.reduceLE, Int.reduceEq, Int.reduceToNat, Nat.reduceMul]
  refine wends (by first | exact Or.inl rfl | exact Or.inr rfl) ?_ (by first | rfl | simp [AV.ids, idsL])
  simp only [go_sem, r_config_has, ↓reduceIte, Nat.reduceEqDiff, Nat.reduceAdd, Nat.reduceLeDiff, reduceCtorEq, Nat.reduceLT, Int.reduceLT, Int.reduceLE, Int.reduceEq, Int.reduceToNat, Nat.reduceMul]

theorem f_config_Get (m : List UInt8) (l : List CfPair) (n : List UInt8) (hl : l.length ≤ 1000000) : Meets Tryd.prog E0 n_config_Get [.ag [Str (toB m), .t (.sl 2 (l.map pairT))], Str (toB n)] [] (.tp [Str (toB ((cfGet l n).getD [])), Bo (cfGet l n).isSome]) [] := by
  refine m_config_Get (by simp) (shut0 rfl) (shut0 rfl) (by simp) (by simp [keysOf]) ?_
  have h := (f_IndexFunc_pair l n hl).ren (fun _ => 101) (by simp [keysOf])
  simp only [renL, renA, renS, renO] at h
  have hg := cfIdx_get l n
  have hb := cfIdx_ge (fun s : CfPair => s.1 == n) l
  simp only [go_sem, s_config_Get, ↓reduceIte, Nat.reduceEqDiff, Nat.reduceAdd, Nat.reduceLeDiff, reduceCtorEq, Nat.reduceLT, Int.reduceLT, Int.reduceLE, Int.reduceEq, Int.reduceToNat, Nat.reduceMul]
  refine Cl_obj (ins := _) (hin := by simp [keysOf, stoOf]) (hk := by simp [keysOf]) (nd := by simp [keysOf]) (h := h) ?_
  generalize cfIdx (fun s : CfPair => s.1 == n) l = i at *
  by_cases hi : i < 0
  · have d0 : decide (i < 0) = true := decide_eq_true hi
    rw [if_pos hi] at hg
    rw [hg]
    simp only [go_sem, d0, ↓reduceIte, Nat.reduceEqDiff, Nat.reduceAdd, Nat.reduceLeDiff, reduceCtorEq, Nat.reduceLT, Int.reduceLT, Int.reduceLE, Int.reduceEq, Int.reduceToNat, Nat.reduceMul]
    refine wends (by first | exact Or.inl rfl | exact Or.inr rfl) ?_ (by first | rfl | simp [AV.ids, idsL])
    simp only [go_sem, r_config_Get, ↓reduceIte, Nat.reduceEqDiff, Nat.reduceAdd, Nat.reduceLeDiff, reduceCtorEq, Nat.reduceLT, Int.reduceLT, Int.reduceLE, Int.reduceEq, Int.reduceToNat, Nat.reduceMul]
    first | done | rfl
  · have d0 : decide (i < 0) = false := decide_eq_false hi
    rw [if_neg hi] at hg
    obtain ⟨k, rfl⟩ : ∃ k : Nat, i = k := ⟨i.toNat, by omega⟩
    obtain ⟨p, hp⟩ := get_of_lt (show k < l.length by omega)
    simp only [Int.toNat_natCast, hp, Option.map_some] at hg
    have hgp : (l.map pairT)[k]? = some (pairT p) := by rw [List.getElem?_map, hp]; rfl
    rw [hg]
    simp only [go_sem, d0, hgp, pairT, ↓reduceIte, Nat.reduceEqDiff, Nat.reduceAdd, Nat.reduceLeDiff, reduceCtorEq, Nat.reduceLT, Int.reduceLT, Int.reduceLE, Int.reduceEq, Int.reduceToNat, Nat.reduceMul]
    refine wends (by first | exact Or.inl rfl | exact Or.inr rfl) ?_ (by first | rfl | simp [AV.ids, idsL])
    simp only [go_sem, r_config_Get, ↓reduceIte, Nat.reduceEqDiff, Nat.reduceAdd, Nat.reduceLeDiff, reduceCtorEq, Nat.reduceLT, Int.reduceLT, Int.reduceLE, Int.reduceEq, Int.reduceToNat, Nat.reduceMul]
    first | done | rfl

theorem f_ref11_has (l : List CfSec) (n : List UInt8) (hl : l.length ≤ 1000000) : Meets Tryd.prog E0 n_ref11_has [secsV l, Str (toB n)] [] (Bo (cfHas l n)) [] := by
  refine m_ref11_has (by simp) (shut0 rfl) (shut0 rfl) (by simp) (by simp [keysOf]) ?_
  have hlen : (l.map secT).length = l.length := by simp
  simp only [go_sem, s_ref11_has, ↓reduceIte, Nat.reduceEqDiff, Nat.reduceAdd, Nat.reduceLeDiff, reduceCtorEq, Nat.reduceLT, Int.reduceLT, Int.reduceLE, Int.reduceEq, Int.reduceToNat, Nat.reduceMul]
  refine W_loop (fun i : Nat => l.length - i) (fun i => i ≤ l.length ∧ cfHas (l.drop i) n = cfHas l n) (fun i => [(0, secsV l), (1, Str (toB n)), (5, I i)]) (fun _ => []) 0 ⟨Nat.zero_le _, by simp⟩ (subL [] [] (by simp [envS, go_sem, wkV, wkL, AV.ids, idsL, keysOf, ren, stoOf, slTrees, AV.asOwn, rowPart, AV.isNil, shA, rowsT, cellsT, cellT, wkLL, pairT, secT, secsV, linesV] <;> assumption) (by simp [stoS, go_sem, wkV, wkL, wkO, AV.ids, Ob.ids, idsL, keysOf, ren, AV.one, stoOf, slTrees, AV.asOwn, rowPart, AV.isNil, shA, rowsT, cellsT, cellT, wkLL, pairT, secT, secsV, linesV] <;> assumption) (by simp [keysOf, ren]) (by simp [stoOf, keysOf, ren]) (by simp [keysOf, ren]) (by simp [keysOf, ren])) ?_
  rintro i ⟨hi, hh⟩
  by_cases hil : i < l.length
  · have d0 : decide (i < l.length) = true := decide_eq_true hil
    obtain ⟨s, hs⟩ := get_of_lt hil
    have ei : IntKind.i64.wrap ((i : Int) + 1) = ((i + 1 : Nat) : Int) := by rw [wrap_i64_of (by omega) (by omega)]; omega
    have hg : (l.map secT)[i]? = some [.v (.string (toB s.1)), .sl 2 (s.2.map pairT)] := by rw [List.getElem?_map, hs]; rfl
    have q := eqT s.1 n
    rw [drop_get hs, cfHas] at hh
    cases hb : (s.1 == n)
    · rw [hb] at q
      rw [hb, Bool.false_or] at hh
      simp only [go_sem, secsV, hlen, d0, hg, q, ei, ↓reduceIte, Nat.reduceEqDiff, Nat.reduceAdd, Nat.reduceLeDiff, reduceCtorEq, Nat.reduceLT, Int.reduceLT, Int.reduceLE, Int.reduceEq, Int.reduceToNat, Nat.reduceMul]
      exact rd_of (i + 1) (by first | omega | (simp only; omega)) ⟨hil, hh⟩ (subL [] [] (by simp [envS, go_sem, wkV, wkL, AV.ids, idsL, keysOf, ren, stoOf, slTrees, AV.asOwn, rowPart, AV.isNil, shA, rowsT, cellsT, cellT, wkLL, pairT, secT, secsV, linesV] <;> assumption) (by simp [stoS, go_sem, wkV, wkL, wkO, AV.ids, Ob.ids, idsL, keysOf, ren, AV.one, stoOf, slTrees, AV.asOwn, rowPart, AV.isNil, shA, rowsT, cellsT, cellT, wkLL, pairT, secT, secsV, linesV] <;> assumption) (by simp [keysOf, ren]) (by simp [stoOf, keysOf, ren]) (by simp [keysOf, ren]) (by simp [keysOf, ren]))
    · rw [hb] at q
      rw [hb, Bool.true_or] at hh
      rw [← hh]
      simp only [go_sem, secsV, hlen, d0, hg, q, ei, ↓reduceIte, Nat.reduceEqDiff, Nat.reduceAdd, Nat.reduceLeDiff, reduceCtorEq, Nat.reduceLT, Int.reduceLT, Int.reduceLE, Int.reduceEq, Int.reduceToNat, Nat.reduceMul]
      refine wends (by first | exact Or.inl rfl | exact Or.inr rfl) ?_ (by first | rfl | simp [AV.ids, idsL])
      simp only [go_sem, r_ref11_has, ↓reduceIte, Nat.reduceEqDiff, Nat.reduceAdd, Nat.reduceLeDiff, reduceCtorEq, Nat.reduceLT, Int.reduceLT, Int.reduceLE, Int.reduceEq, Int.reduceToNat, Nat.reduceMul]
  · obtain rfl : i = l.length := by omega
    have d0 : decide (l.length < l.length) = false := decide_eq_false (by omega)
    rw [List.drop_length] at hh
    rw [← hh]
    simp only [go_sem, secsV, hlen, d0, ↓reduceIte, Nat.reduceEqDiff, Nat.reduceAdd, Nat.reduceLeDiff, reduceCtorEq, Nat.reduceLT, Int.reduceLT, Int.reduceLE, Int.reduceEq, Int.reduceToNat, Nat.reduceMul]
    refine wends (by first | exact Or.inl rfl | exact Or.inr rfl) ?_ (by first | rfl | simp [AV.ids, idsL])
    simp only [go_sem, r_ref11_has, ↓reduceIte, Nat.reduceEqDiff, Nat.reduceAdd, Nat.reduceLeDiff, reduceCtorEq, Nat.reduceLT, Int.reduceLT, Int.reduceLE, Int.reduceEq, Int.reduceToNat, Nat.reduceMul]
    first | done | rfl

theorem f_ref11_Get (m : List UInt8) (l : List CfPair) (n : List UInt8) (hl : l.length ≤ 1000000) : Meets Tryd.prog E0 n_ref11_Get [.ag [Str (toB m), .t (.sl 2 (l.map pairT))], Str (toB n)] [] (.tp [Str (toB ((cfGet l n).getD [])), Bo (cfGet l n).isSome]) [] := by
  refine m_ref11_Get (by simp) (shut0 rfl) (shut0 rfl) (by simp) (by simp [keysOf]) ?_
  have hlen : (l.map pairT).length = l.length := by simp
  simp only [go_sem, s_ref11_Get, ↓reduceIte, Nat.reduceEqDiff, Nat.reduceAdd, Nat.reduceLeDiff, reduceCtorEq, Nat.reduceLT, Int.reduceLT, Int.reduceLE, Int.reduceEq, Int.reduceToNat, Nat.reduceMul]
  refine W_loop (fun i : Nat => l.length - i) (fun i => i ≤ l.length ∧ cfGet (l.drop i) n = cfGet l n) (fun i => [(1, Str (toB n)), (2, .ptr 100 0), (4, Str (bs [])), (5, Bo false), (6, I i)]) (fun _ => [(100, .box [Str (toB m), .t (.sl 2 (l.map pairT))])]) 0 ⟨Nat.zero_le _, by simp⟩ (subL [] [] (by simp [envS, go_sem, wkV, wkL, AV.ids, idsL, keysOf, ren, stoOf, slTrees, AV.asOwn, rowPart, AV.isNil, shA, rowsT, cellsT, cellT, wkLL, pairT, secT, secsV, linesV] <;> assumption) (by simp [stoS, go_sem, wkV, wkL, wkO, AV.ids, Ob.ids, idsL, keysOf, ren, AV.one, stoOf, slTrees, AV.asOwn, rowPart, AV.isNil, shA, rowsT, cellsT, cellT, wkLL, pairT, secT, secsV, linesV] <;> assumption) (by simp [keysOf, ren]) (by simp [stoOf, keysOf, ren]) (by simp [keysOf, ren]) (by simp [keysOf, ren])) ?_
  rintro i ⟨hi, hh⟩
  by_cases hil : i < l.length
  · have d0 : decide (i < l.length) = true := decide_eq_true hil
    obtain ⟨s, hs⟩ := get_of_lt hil
    have ei : IntKind.i64.wrap ((i : Int) + 1) = ((i + 1 : Nat) : Int) := by rw [wrap_i64_of (by omega) (by omega)]; omega
    have hg : (l.map pairT)[i]? = some [.v (.string (toB s.1)), .v (.string (toB s.2))] := by rw [List.getElem?_map, hs]; rfl
    have q := eqT s.1 n
    rw [drop_get hs, cfGet] at hh
    by_cases hb : s.1 = n
    · have hb' : (s.1 == n) = true := by simpa using hb
      rw [hb'] at q
      rw [if_pos hb] at hh
      rw [← hh]
      simp only [go_sem, hlen, d0, hg, q, ei, ↓reduceIte, Nat.reduceEqDiff, Nat.reduceAdd, Nat.reduceLeDiff, reduceCtorEq, Nat.reduceLT, Int.reduceLT, Int.reduceLE, Int.reduceEq, Int.reduceToNat, Nat.reduceMul]
      refine wends (by first | exact Or.inl rfl | exact Or.inr rfl) ?_ (by first | rfl | simp [AV.ids, idsL])
      simp only [go_sem, r_ref11_Get, ↓reduceIte, Nat.reduceEqDiff, Nat.reduceAdd, Nat.reduceLeDiff, reduceCtorEq, Nat.reduceLT, Int.reduceLT, Int.reduceLE, Int.reduceEq, Int.reduceToNat, Nat.reduceMul]
      first | done | rfl
    · have hb' : (s.1 == n) = false := by simpa using hb
      rw [hb'] at q
      rw [if_neg hb] at hh
      simp only [go_sem, hlen, d0, hg, q, ei, ↓reduceIte, Nat.reduceEqDiff, Nat.reduceAdd, Nat.reduceLeDiff, reduceCtorEq, Nat.reduceLT, Int.reduceLT, Int.reduceLE, Int.reduceEq, Int.reduceToNat, Nat.reduceMul]
      exact rd_of (i + 1) (by first | omega | (simp only; omega)) ⟨hil, hh⟩ (subL [] [] (by simp [envS, go_sem, wkV, wkL, AV.ids, idsL, keysOf, ren, stoOf, slTrees, AV.asOwn, rowPart, AV.isNil, shA, rowsT, cellsT, cellT, wkLL, pairT, secT, secsV, linesV] <;> assumption) (by simp [stoS, go_sem, wkV, wkL, wkO, AV.ids, Ob.ids, idsL, keysOf, ren, AV.one, stoOf, slTrees, AV.asOwn, rowPart, AV.isNil, shA, rowsT, cellsT, cellT, wkLL, pairT, secT, secsV, linesV] <;> assumption) (by simp [keysOf, ren]) (by simp [stoOf, keysOf, ren]) (by simp [keysOf, ren]) (by simp [keysOf, ren]))
  · obtain rfl : i = l.length := by omega
    have d0 : decide (l.length < l.length) = false := decide_eq_false (by omega)
    rw [List.drop_length] at hh
    rw [← hh]
    simp only [go_sem, hlen, d0, ↓reduceIte, Nat.reduceEqDiff, Nat.reduceAdd, Nat.reduceLeDiff, reduceCtorEq, Nat.reduceLT, Int.reduceLT, Int.reduceLE, Int.reduceEq, Int.reduceToNat, Nat.reduceMul]
    refine wends (by first | exact Or.inl rfl | exact Or.inr rfl) ?_ (by first | rfl | simp [AV.ids, idsL])
    simp only [go_sem, r_ref11_Get, ↓reduceIte, Nat.reduceEqDiff, Nat.reduceAdd, Nat.reduceLeDiff, reduceCtorEq, Nat.reduceLT, Int.reduceLT, Int.reduceLE, Int.reduceEq, Int.reduceToNat, Nat.reduceMul]
    first | done | rfl

end Go.Proofs.YtbkchhjdjijhkaaDoor
