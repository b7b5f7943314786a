/- Swapping and turning parts of a row, as the library does. No statement of the seat is proved here. -/
import Derived.Test.YtgablplpdocniaaSsMath
import Derived.Test.YtgablplpdocniaaFlBase
import Derived.Test.YtgablplpdocniaaSxH
set_option linter.unusedSimpArgs false
set_option linter.unusedVariables false
namespace Go.Proofs.Ytgablplpdocniaa
open Go Go.Sx

def row_float64 (x : Nat) : List T := [.v (.float .f64 x)]

theorem swd_step_float64 {p u m v q : List Nat} {i : Nat} (hn : u.length = v.length) (hi : i < u.length) : ∃ x y, (p ++ (v.take i ++ u.drop i) ++ m ++ (u.take i ++ v.drop i) ++ q)[p.length + i]? = some x ∧ (p ++ (v.take i ++ u.drop i) ++ m ++ (u.take i ++ v.drop i) ++ q)[p.length + u.length + m.length + i]? = some y ∧
    (((p ++ (v.take i ++ u.drop i) ++ m ++ (u.take i ++ v.drop i) ++ q).set (p.length + i) y)[p.length + u.length + m.length + i]? = some y) ∧
    ((p ++ (v.take i ++ u.drop i) ++ m ++ (u.take i ++ v.drop i) ++ q).set (p.length + i) y).set (p.length + u.length + m.length + i) x = p ++ (v.take (i + 1) ++ u.drop (i + 1)) ++ m ++ (u.take (i + 1) ++ v.drop (i + 1)) ++ q := by
  obtain ⟨u1, x, u2, rfl, rfl⟩ : ∃ u1 x u2, u = u1 ++ x :: u2 ∧ u1.length = i := ⟨u.take i, u[i], u.drop (i + 1), by simp, by simp; omega⟩
  obtain ⟨v1, y, v2, rfl, hv⟩ : ∃ v1 y v2, v = v1 ++ y :: v2 ∧ v1.length = u1.length := ⟨v.take u1.length, v[u1.length], v.drop (u1.length + 1), by simp, by simp; omega⟩
  have l2 : v2.length = u2.length := by simp at hn; omega
  refine ⟨x, y, ?_⟩
  have e1 : (v1 ++ y :: v2).take u1.length ++ (u1 ++ x :: u2).drop u1.length = v1 ++ x :: u2 := by rw [← hv, List.take_left, hv, List.drop_left]
  have e2 : (u1 ++ x :: u2).take u1.length ++ (v1 ++ y :: v2).drop u1.length = u1 ++ y :: v2 := by rw [List.take_left, ← hv, List.drop_left]
  have e3 : (v1 ++ y :: v2).take (u1.length + 1) ++ (u1 ++ x :: u2).drop (u1.length + 1) = v1 ++ y :: u2 := by
    rw [show v1 ++ y :: v2 = (v1 ++ [y]) ++ v2 by simp, show u1 ++ x :: u2 = (u1 ++ [x]) ++ u2 by simp, List.take_left' (by simp [hv]), List.drop_left' (by simp)]; simp
  have e4 : (u1 ++ x :: u2).take (u1.length + 1) ++ (v1 ++ y :: v2).drop (u1.length + 1) = u1 ++ x :: v2 := by
    rw [show v1 ++ y :: v2 = (v1 ++ [y]) ++ v2 by simp, show u1 ++ x :: u2 = (u1 ++ [x]) ++ u2 by simp, List.take_left' (by simp), List.drop_left' (by simp [hv])]; simp
  rw [e1, e2, e3, e4]
  have f1 : p ++ (v1 ++ x :: u2) ++ m ++ (u1 ++ y :: v2) ++ q = (p ++ v1) ++ x :: (u2 ++ m ++ u1 ++ y :: (v2 ++ q)) := by simp
  have f2 : p ++ (v1 ++ y :: u2) ++ m ++ (u1 ++ y :: v2) ++ q = (p ++ v1 ++ y :: u2 ++ m ++ u1) ++ y :: (v2 ++ q) := by simp
  have n1 : p.length + u1.length = (p ++ v1).length := by simp [hv]
  have n2 : p.length + (u1 ++ x :: u2).length + m.length + u1.length = (p ++ v1 ++ y :: u2 ++ m ++ u1).length := by simp [hv]; omega
  have s1 : (p ++ (v1 ++ x :: u2) ++ m ++ (u1 ++ y :: v2) ++ q).set (p.length + u1.length) y = p ++ (v1 ++ y :: u2) ++ m ++ (u1 ++ y :: v2) ++ q := by
    rw [f1, n1, List.set_append_right _ _ (Nat.le_refl _), Nat.sub_self, List.set_cons_zero]; simp
  refine ⟨?_, ?_, ?_, ?_⟩
  · rw [f1, n1, List.getElem?_append_right (Nat.le_refl _), Nat.sub_self]; rfl
  · have : p ++ (v1 ++ x :: u2) ++ m ++ (u1 ++ y :: v2) ++ q = (p ++ v1 ++ x :: u2 ++ m ++ u1) ++ y :: (v2 ++ q) := by simp
    rw [this, show p.length + (u1 ++ x :: u2).length + m.length + u1.length = (p ++ v1 ++ x :: u2 ++ m ++ u1).length by simp [hv]; omega, List.getElem?_append_right (Nat.le_refl _), Nat.sub_self]; rfl
  · rw [s1, f2, n2, List.getElem?_append_right (Nat.le_refl _), Nat.sub_self]; rfl
  · rw [s1, f2, n2, List.set_append_right _ _ (Nat.le_refl _), Nat.sub_self, List.set_cons_zero]; simp

theorem f_swapRange_float64 (g L : Nat) (r : Bool)  (p u m v q : List Nat) (hn : u.length = v.length) (hL : L = (p ++ u ++ m ++ v ++ q).length) (hb : L ≤ 281474976710656) :
    Meets Try.prog E0 n_slices_swapRangeCmpFunc_float64 [.own 0 1 0 L r, I p.length, I (p.length + u.length + m.length : Nat), I u.length, .fn g [] []] [(0, .row 1 true ((p ++ u ++ m ++ v ++ q).map row_float64))] (.tp []) [(0, .row 1 true ((p ++ v ++ m ++ u ++ q).map row_float64))] := by
  refine m_slices_swapRangeCmpFunc_float64 (by simp) (shut_of (by simp [idsL, AV.ids, keysOf]) (by simp [Ob.live, Ob.ids, keysOf, idsL, AV.ids])) (shut_of (by simp [idsL, AV.ids, keysOf]) (by simp [Ob.live, Ob.ids, keysOf, idsL, AV.ids])) (by simp [keysOf]) (by simp [keysOf]) ?_
  simp only [go_sem, s_slices_swapRangeCmpFunc_float64, ↓reduceIte, Nat.reduceEqDiff, Nat.reduceAdd, Nat.reduceLeDiff, reduceCtorEq, Nat.reduceLT, Int.reduceLT, Int.reduceLE, Int.reduceEq, Int.reduceToNat, Nat.reduceMul]
  refine W_loop (fun i : Nat => u.length - i) (fun i => i ≤ u.length)
    (fun i => [(0, .own 0 1 0 L r), (1, I p.length), (2, I (p.length + u.length + m.length : Nat)), (3, I u.length), (10, I i)])
    (fun i => [(0, .row 1 true ((p ++ (v.take i ++ u.drop i) ++ m ++ (u.take i ++ v.drop i) ++ q).map row_float64))]) 0 (Nat.zero_le _) ?_ ?_
  · simp only [List.take_zero, List.drop_zero, List.nil_append]
    exact (subL [] [] (by simp [envS, go_sem, wkV, wkL, AV.ids, idsL, keysOf, ren, stoOf, slTrees, AV.asOwn, rowPart, AV.isNil, shA, rowsT, cellsT, cellT, wkLL] <;> assumption) (by simp [stoS, go_sem, wkV, wkL, wkO, AV.ids, Ob.ids, idsL, keysOf, ren, AV.one, stoOf, slTrees, AV.asOwn, rowPart, AV.isNil, shA, rowsT, cellsT, cellT, wkLL] <;> assumption) (by simp [keysOf, ren]) (by simp [stoOf, keysOf, ren]) (by simp [keysOf, ren]) (by simp [keysOf, ren]))
  · intro i hi
    simp only [List.length_append] at hL
    by_cases hlt : i < u.length
    · obtain ⟨x, y, g1, g2, g3, g4⟩ := swd_step_float64 (p := p) (m := m) (q := q) hn hlt
      have ea : IntKind.i64.wrap ((p.length : Int) + (i : Int)) = ((p.length + i : Nat) : Int) := by rw [wrap_i64_of (by omega) (by omega)]; omega
      have eb : IntKind.i64.wrap (((p.length + u.length + m.length : Nat) : Int) + (i : Int)) = ((p.length + u.length + m.length + i : Nat) : Int) := by rw [wrap_i64_of (by omega) (by omega)]; omega
      have ei : IntKind.i64.wrap ((i : Int) + 1) = ((i + 1 : Nat) : Int) := by rw [wrap_i64_of (by omega) (by omega)]; omega
      have ia : ((p.length + i : Nat) : Int) < (L : Int) := by omega
      have ib : ((p.length + u.length + m.length + i : Nat) : Int) < (L : Int) := by omega
      have d1 : decide (i < u.length) = true := decide_eq_true hlt
      have hnx : ((((p ++ (v.take i ++ u.drop i) ++ m ++ (u.take i ++ v.drop i) ++ q).map row_float64).set (p.length + i) [.v (.float .f64 y)]).set (p.length + u.length + m.length + i) [.v (.float .f64 x)]) = (p ++ (v.take (i + 1) ++ u.drop (i + 1)) ++ m ++ (u.take (i + 1) ++ v.drop (i + 1)) ++ q).map row_float64 := by
        rw [← g4, List.map_set, List.map_set]; rfl
      have h3 : (((p ++ (v.take i ++ u.drop i) ++ m ++ (u.take i ++ v.drop i) ++ q).map row_float64).set (p.length + i) [.v (.float .f64 y)])[p.length + u.length + m.length + i]? = some [.v (.float .f64 y)] := by
        have := congrArg (Option.map row_float64) g3
        rw [← List.getElem?_map, List.map_set] at this
        exact this
      generalize p ++ (v.take i ++ u.drop i) ++ m ++ (u.take i ++ v.drop i) ++ q = d at *
      have h1 : (d.map row_float64)[p.length + i]? = some [.v (.float .f64 x)] := by rw [List.getElem?_map, g1]; rfl
      have h2 : (d.map row_float64)[p.length + u.length + m.length + i]? = some [.v (.float .f64 y)] := by rw [List.getElem?_map, g2]; rfl
      generalize d.map row_float64 = dm at *
      simp only [go_sem, d1, ea, eb, ia, ib, h1, h2, h3, ei, hnx, ↓reduceIte, Nat.reduceEqDiff, Nat.reduceAdd, Nat.reduceLeDiff, reduceCtorEq, Nat.reduceLT, Int.reduceLT, Int.reduceLE, Int.reduceEq, Int.reduceToNat, Nat.reduceMul]
      exact rd_of (i + 1) (by first | omega | (simp only; omega)) hlt (subL [] [] (by simp [envS, go_sem, wkV, wkL, AV.ids, idsL, keysOf, ren, stoOf, slTrees, AV.asOwn, rowPart, AV.isNil, shA, rowsT, cellsT, cellT, wkLL] <;> assumption) (by simp [stoS, go_sem, wkV, wkL, wkO, AV.ids, Ob.ids, idsL, keysOf, ren, AV.one, stoOf, slTrees, AV.asOwn, rowPart, AV.isNil, shA, rowsT, cellsT, cellT, wkLL] <;> assumption) (by simp [keysOf, ren]) (by simp [stoOf, keysOf, ren]) (by simp [keysOf, ren]) (by simp [keysOf, ren]))
    · obtain rfl : i = u.length := by omega
      have d1 : decide (u.length < u.length) = false := decide_eq_false (by omega)
      have e1 : v.take u.length = v := List.take_of_length_le (by omega)
      have e2 : u.drop u.length = [] := List.drop_length
      have e3 : u.take u.length = u := List.take_length
      have e4 : v.drop u.length = [] := List.drop_of_length_le (by omega)
      simp only [e1, e2, e3, e4, List.append_nil]
      simp only [go_sem, d1, ↓reduceIte, Nat.reduceEqDiff, Nat.reduceAdd, Nat.reduceLeDiff, reduceCtorEq, Nat.reduceLT, Int.reduceLT, Int.reduceLE, Int.reduceEq, Int.reduceToNat, Nat.reduceMul]
      refine wends2 [] [] (by first | exact Or.inl rfl | exact Or.inr rfl) ?_ (by simp [AV.ids, idsL, keysOf]) (by simp [stoS, wkO, ls_cons, ls_nil, stoOf, ren, keysOf, Ob.ids, wkV, wkL, AV.one, idsL, AV.ids] <;> assumption) (by simp [keysOf, ren]) (by simp [stoOf, keysOf, ren]) (by simp [keysOf, ren]) (by simp [keysOf, ren])
      simp only [go_sem, r_slices_swapRangeCmpFunc_float64, exists_eq_left', Option.some.injEq, ↓reduceIte, Nat.reduceEqDiff, Nat.reduceAdd, Nat.reduceLeDiff, reduceCtorEq, Nat.reduceLT, Int.reduceLT, Int.reduceLE, Int.reduceEq, Int.reduceToNat, Nat.reduceMul]
      simp [wkV, wkL, slTrees, AV.asOwn, rowPart, stoOf, AV.isNil, shA, rowsT, cellsT, cellT, ren]

end Go.Proofs.Ytgablplpdocniaa
