/- Putting in one by one, as the library does. No statement of the seat is proved here. -/
import Derived.Test.YtgablplpdocniaaSs2F
import Derived.Test.YtgablplpdocniaaSxH
set_option linter.unusedSimpArgs false
set_option linter.unusedVariables false
namespace Go.Proofs.Ytgablplpdocniaa
open Go Go.Sx

def lt_float64 (c : Nat → Nat → Int) (x y : Nat) : Bool := decide (c x y < 0)

set_option maxHeartbeats 1000000 in
theorem f_insertion_float64 (g L : Nat) (r : Bool)  (c : Nat → Nat → Int) (D : Nat → Prop) (hc : ∀ x y, D x → D y → Meets Try.prog E0 g ([(Fl x), (Fl y)] ++ []) [] (I (c x y)) [])
    (p m q : List Nat) (hD : ∀ x ∈ m, D x) (hL : L = (p ++ m ++ q).length) (hb : L ≤ 281474976710656) :
    Meets Try.prog E0 n_slices_insertionSortCmpFunc_float64 [.own 0 1 0 L r, I p.length, I (p.length + m.length : Nat), .fn g [] []] [(0, .row 1 true ((p ++ m ++ q).map row_float64))] (.tp []) [(0, .row 1 true ((p ++ isrt (lt_float64 c) m ++ q).map row_float64))] := by
  have hLs : L = p.length + m.length + q.length := by rw [hL]; simp only [List.length_append]
  obtain ⟨N, hN⟩ : ∃ N, p.length + m.length = N := ⟨_, rfl⟩
  rw [hN]
  refine m_slices_insertionSortCmpFunc_float64 (by simp) (shut_of (by simp [idsL, AV.ids, keysOf]) (by simp [Ob.live, Ob.ids, keysOf, idsL, AV.ids])) (shut_of (by simp [idsL, AV.ids, keysOf]) (by simp [Ob.live, Ob.ids, keysOf, idsL, AV.ids])) (by simp [keysOf]) (by simp [keysOf]) ?_
  have e1 : IntKind.i64.wrap ((p.length : Int) + 1) = ((p.length + 1 : Nat) : Int) := by rw [wrap_i64_of (by omega) (by omega)]; omega
  have e0 : p ++ m ++ q = p ++ isrt (lt_float64 c) (m.take 1) ++ m.drop 1 ++ q := by
    cases m with
    | nil => simp [isrt]
    | cons x m => simp [isrt, insR, insRev]
  simp only [go_sem, s_slices_insertionSortCmpFunc_float64, e1, ↓reduceIte, Nat.reduceEqDiff, Nat.reduceAdd, Nat.reduceLeDiff, reduceCtorEq, Nat.reduceLT, Int.reduceLT, Int.reduceLE, Int.reduceEq, Int.reduceToNat, Nat.reduceMul]
  refine W_loop (fun k : Nat => m.length + 1 - k) (fun k => 1 ≤ k ∧ k ≤ m.length + 1 ∧ (k ≤ m.length ∨ (k = 1 ∧ m = [])))
    (fun k => [(0, .own 0 1 0 L r), (1, I p.length), (2, I N), (3, .fn g [] []), (8, I (p.length + k : Nat))])
    (fun k => [(0, .row 1 true ((p ++ isrt (lt_float64 c) (m.take k) ++ m.drop k ++ q).map row_float64))]) 1 ⟨Nat.le_refl _, by omega, ?_⟩ ?_ ?_
  · cases m with
    | nil => exact .inr ⟨rfl, rfl⟩
    | cons x m => exact .inl (by simp)
  · rw [e0]; exact (subL [] [] (by simp [envS, go_sem, wkV, wkL, AV.ids, idsL, keysOf, ren, stoOf, slTrees, AV.asOwn, rowPart, AV.isNil, shA, rowsT, cellsT, cellT, wkLL] <;> assumption) (by simp [stoS, go_sem, wkV, wkL, wkO, AV.ids, Ob.ids, idsL, keysOf, ren, AV.one, stoOf, slTrees, AV.asOwn, rowPart, AV.isNil, shA, rowsT, cellsT, cellT, wkLL] <;> assumption) (by simp [keysOf, ren]) (by simp [stoOf, keysOf, ren]) (by simp [keysOf, ren]) (by simp [keysOf, ren]))
  clear e0 e1
  rintro k ⟨hk1, hk2, hk3⟩
  by_cases hlt : k < m.length
  · have d1 : decide (p.length + k < N) = true := decide_eq_true (by omega)
    have ei : IntKind.i64.wrap (((p.length + k : Nat) : Int) + 1) = ((p.length + (k + 1) : Nat) : Int) := by rw [wrap_i64_of (by omega) (by omega)]; omega
    obtain ⟨m1, x, m2, rfl, rfl⟩ := split_at1 hlt
    have t1 : (m1 ++ x :: m2).take m1.length = m1 := List.take_left
    have t2 : (m1 ++ x :: m2).drop m1.length = x :: m2 := List.drop_left
    have t3 : (m1 ++ x :: m2).take (m1.length + 1) = m1 ++ [x] := by rw [show m1 ++ x :: m2 = (m1 ++ [x]) ++ m2 by simp, List.take_left' (by simp)]
    have t4 : (m1 ++ x :: m2).drop (m1.length + 1) = m2 := by rw [show m1 ++ x :: m2 = (m1 ++ [x]) ++ m2 by simp, List.drop_left' (by simp)]
    have hx : D x := hD x (by simp)
    have hS : ∀ y ∈ isrt (lt_float64 c) m1, D y := fun y hy => hD y (by simp [(isrt_mem _ y m1).1 hy])
    have hSl := isrt_len (lt_float64 c) m1
    have hnext := isrt_snoc (lt_float64 c) m1 x
    rw [t1, t2]
    generalize hS0 : isrt (lt_float64 c) m1 = S at *
    have hml : (m1 ++ x :: m2).length = m1.length + 1 + m2.length := by simp; omega
    rw [hml] at hN hLs hk2 hk3 hlt ⊢
    simp only [go_sem, d1, ↓reduceIte, Nat.reduceEqDiff, Nat.reduceAdd, Nat.reduceLeDiff, reduceCtorEq, Nat.reduceLT, Int.reduceLT, Int.reduceLE, Int.reduceEq, Int.reduceToNat, Nat.reduceMul]
    refine W_loop (fun s : List Nat × List Nat => s.1.length) (fun s => s.1.length + s.2.length = m1.length ∧ (∀ y ∈ s.1, D y) ∧ insR (lt_float64 c) x s.1 ++ s.2 = isrt (lt_float64 c) (m1 ++ [x]))
      (fun s => [(0, .own 0 1 0 L r), (1, I p.length), (2, I N), (3, .fn g [] []), (8, I (p.length + m1.length : Nat)), (9, I (p.length + s.1.length : Nat))])
      (fun s => [(0, .row 1 true ((p ++ s.1 ++ x :: (s.2 ++ m2 ++ q)).map row_float64))]) (S, []) ⟨by simp; omega, hS, by rw [hnext]; simp⟩ ?_ ?_
    · simp only [hSl, List.nil_append]
      rw [show p ++ S ++ x :: m2 ++ q = p ++ S ++ x :: (m2 ++ q) by simp]
      exact (subL [] [] (by simp [envS, go_sem, wkV, wkL, AV.ids, idsL, keysOf, ren, stoOf, slTrees, AV.asOwn, rowPart, AV.isNil, shA, rowsT, cellsT, cellT, wkLL] <;> assumption) (by simp [stoS, go_sem, wkV, wkL, wkO, AV.ids, Ob.ids, idsL, keysOf, ren, AV.one, stoOf, slTrees, AV.asOwn, rowPart, AV.isNil, shA, rowsT, cellsT, cellT, wkLL] <;> assumption) (by simp [keysOf, ren]) (by simp [stoOf, keysOf, ren]) (by simp [keysOf, ren]) (by simp [keysOf, ren]))
    rintro ⟨s1, s2⟩ ⟨hs1, hs2, hs3⟩
    simp only at hs1 hs2 hs3 ⊢
    rcases nil_or_snoc s1 with rfl | ⟨s1, y, rfl⟩
    · have d2 : decide (p.length < p.length) = false := decide_eq_false (by omega)
      simp only [List.length_nil, Nat.add_zero]
      rw [insR_nil] at hs3
      have e2 : p ++ [] ++ x :: (s2 ++ m2 ++ q) = p ++ isrt (lt_float64 c) (m1 ++ [x]) ++ m2 ++ q := by rw [← hs3]; simp
      rw [e2]
      simp only [go_sem, d2, ei, ↓reduceIte, Nat.reduceEqDiff, Nat.reduceAdd, Nat.reduceLeDiff, reduceCtorEq, Nat.reduceLT, Int.reduceLT, Int.reduceLE, Int.reduceEq, Int.reduceToNat, Nat.reduceMul]
      refine rd_of (m1.length + 1) (by first | omega | (simp only; omega)) ⟨by omega, by omega, .inl (by omega)⟩ ?_
      simp only [t3, t4]
      exact (subL [] [] (by simp [envS, go_sem, wkV, wkL, AV.ids, idsL, keysOf, ren, stoOf, slTrees, AV.asOwn, rowPart, AV.isNil, shA, rowsT, cellsT, cellT, wkLL] <;> assumption) (by simp [stoS, go_sem, wkV, wkL, wkO, AV.ids, Ob.ids, idsL, keysOf, ren, AV.one, stoOf, slTrees, AV.asOwn, rowPart, AV.isNil, shA, rowsT, cellsT, cellT, wkLL] <;> assumption) (by simp [keysOf, ren]) (by simp [stoOf, keysOf, ren]) (by simp [keysOf, ren]) (by simp [keysOf, ren]))
    · have hy : D y := hs2 y (by simp)
      have hcc := hc x y hx hy
      have hl1 : (s1 ++ [y]).length = s1.length + 1 := by simp
      rw [hl1] at hs1
      simp only [hl1]
      have d2 : decide (p.length < p.length + (s1.length + 1)) = true := decide_eq_true (by omega)
      rw [insR_snoc] at hs3
      obtain ⟨g1, g2, g3, g4, _⟩ := sw_step (p ++ s1) y x (s2 ++ m2 ++ q) (n := p.length + s1.length) (m := p.length + (s1.length + 1)) (by simp) (by omega)
      have ed : p ++ (s1 ++ [y]) ++ x :: (s2 ++ m2 ++ q) = p ++ s1 ++ y :: x :: (s2 ++ m2 ++ q) := by simp
      rw [ed]
      have em : IntKind.i64.wrap (((p.length + (s1.length + 1) : Nat) : Int) - 1) = ((p.length + s1.length : Nat) : Int) := by rw [wrap_i64_of (by omega) (by omega)]; omega
      have ia : ((p.length + s1.length : Nat) : Int) < (L : Int) := by omega
      have ib : ((p.length + (s1.length + 1) : Nat) : Int) < (L : Int) := by omega
      have hnx : (((p ++ s1 ++ y :: x :: (s2 ++ m2 ++ q)).map row_float64).set (p.length + (s1.length + 1)) [.v (.float .f64 y)]).set (p.length + s1.length) [.v (.float .f64 x)] = (p ++ s1 ++ x :: y :: (s2 ++ m2 ++ q)).map row_float64 := by
        rw [← g4, List.map_set, List.map_set]; rfl
      have h3 : (((p ++ s1 ++ y :: x :: (s2 ++ m2 ++ q)).map row_float64).set (p.length + (s1.length + 1)) [.v (.float .f64 y)])[p.length + s1.length]? = some [.v (.float .f64 y)] := by
        have := congrArg (Option.map row_float64) g3
        rw [← List.getElem?_map, List.map_set] at this
        exact this
      have h1 : ((p ++ s1 ++ y :: x :: (s2 ++ m2 ++ q)).map row_float64)[p.length + s1.length]? = some [.v (.float .f64 y)] := by rw [List.getElem?_map, g1]; rfl
      have h2 : ((p ++ s1 ++ y :: x :: (s2 ++ m2 ++ q)).map row_float64)[p.length + (s1.length + 1)]? = some [.v (.float .f64 x)] := by rw [List.getElem?_map, g2]; rfl
      cases hlt2 : decide (c x y < 0)
      · have hlt3 : lt_float64 c x y = false := hlt2
        rw [hlt3, if_neg (by decide)] at hs3
        have e2 : p ++ s1 ++ y :: x :: (s2 ++ m2 ++ q) = p ++ isrt (lt_float64 c) (m1 ++ [x]) ++ m2 ++ q := by rw [← hs3]; simp
        generalize (p ++ s1 ++ y :: x :: (s2 ++ m2 ++ q)) = d at *
        subst e2
        generalize h5 : List.map row_float64 (p ++ isrt (lt_float64 c) (m1 ++ [x]) ++ m2 ++ q) = dm at *
        simp only [go_sem, d2, hl1, em, ia, ib, h1, h2, ↓reduceIte, Nat.reduceEqDiff, Nat.reduceAdd, Nat.reduceLeDiff, reduceCtorEq, Nat.reduceLT, Int.reduceLT, Int.reduceLE, Int.reduceEq, Int.reduceToNat, Nat.reduceMul]
        refine Cl_plain (hcc) ?_
        simp only [go_sem, hlt2, ei, ↓reduceIte, Nat.reduceEqDiff, Nat.reduceAdd, Nat.reduceLeDiff, reduceCtorEq, Nat.reduceLT, Int.reduceLT, Int.reduceLE, Int.reduceEq, Int.reduceToNat, Nat.reduceMul]
        refine rd_of (m1.length + 1) (by first | omega | (simp only; omega)) ⟨by omega, by omega, .inl (by omega)⟩ ?_
        simp only [t3, t4, ← h5]
        exact (subL [] [] (by simp [envS, go_sem, wkV, wkL, AV.ids, idsL, keysOf, ren, stoOf, slTrees, AV.asOwn, rowPart, AV.isNil, shA, rowsT, cellsT, cellT, wkLL] <;> assumption) (by simp [stoS, go_sem, wkV, wkL, wkO, AV.ids, Ob.ids, idsL, keysOf, ren, AV.one, stoOf, slTrees, AV.asOwn, rowPart, AV.isNil, shA, rowsT, cellsT, cellT, wkLL] <;> assumption) (by simp [keysOf, ren]) (by simp [stoOf, keysOf, ren]) (by simp [keysOf, ren]) (by simp [keysOf, ren]))
      · have hlt3 : lt_float64 c x y = true := hlt2
        rw [hlt3, if_pos rfl] at hs3
        generalize hdm : List.map row_float64 (p ++ s1 ++ y :: x :: (s2 ++ m2 ++ q)) = dm at *
        simp only [go_sem, d2, hl1, em, ia, ib, h1, h2, ↓reduceIte, Nat.reduceEqDiff, Nat.reduceAdd, Nat.reduceLeDiff, reduceCtorEq, Nat.reduceLT, Int.reduceLT, Int.reduceLE, Int.reduceEq, Int.reduceToNat, Nat.reduceMul]
        refine Cl_plain (hcc) ?_
        simp only [go_sem, hlt2, em, ia, ib, h1, h2, h3, hnx, ↓reduceIte, Nat.reduceEqDiff, Nat.reduceAdd, Nat.reduceLeDiff, reduceCtorEq, Nat.reduceLT, Int.reduceLT, Int.reduceLE, Int.reduceEq, Int.reduceToNat, Nat.reduceMul]
        refine rd_of (s1, y :: s2) (by simp) ⟨by simp only [List.length_cons]; omega, fun z hz => hs2 z (by simp [hz]), by rw [← hs3]; simp⟩ ?_
        simp only [List.cons_append]
        exact (subL [] [] (by simp [envS, go_sem, wkV, wkL, AV.ids, idsL, keysOf, ren, stoOf, slTrees, AV.asOwn, rowPart, AV.isNil, shA, rowsT, cellsT, cellT, wkLL] <;> assumption) (by simp [stoS, go_sem, wkV, wkL, wkO, AV.ids, Ob.ids, idsL, keysOf, ren, AV.one, stoOf, slTrees, AV.asOwn, rowPart, AV.isNil, shA, rowsT, cellsT, cellT, wkLL] <;> assumption) (by simp [keysOf, ren]) (by simp [stoOf, keysOf, ren]) (by simp [keysOf, ren]) (by simp [keysOf, ren]))
  · have d1 : decide (p.length + k < N) = false := decide_eq_false (by omega)
    have t1 : m.take k = m := List.take_of_length_le (by omega)
    have t2 : m.drop k = [] := List.drop_of_length_le (by omega)
    rw [t1, t2, List.append_nil]
    simp only [go_sem, d1, ↓reduceIte, Nat.reduceEqDiff, Nat.reduceAdd, Nat.reduceLeDiff, reduceCtorEq, Nat.reduceLT, Int.reduceLT, Int.reduceLE, Int.reduceEq, Int.reduceToNat, Nat.reduceMul]
    refine wends2 [] [] (by first | exact Or.inl rfl | exact Or.inr rfl) ?_ (by simp [AV.ids, idsL, keysOf]) (by simp [stoS, wkO, ls_cons, ls_nil, stoOf, ren, keysOf, Ob.ids, wkV, wkL, AV.one, idsL, AV.ids] <;> assumption) (by simp [keysOf, ren]) (by simp [stoOf, keysOf, ren]) (by simp [keysOf, ren]) (by simp [keysOf, ren])
    simp only [go_sem, r_slices_insertionSortCmpFunc_float64, exists_eq_left', Option.some.injEq, ↓reduceIte, Nat.reduceEqDiff, Nat.reduceAdd, Nat.reduceLeDiff, reduceCtorEq, Nat.reduceLT, Int.reduceLT, Int.reduceLE, Int.reduceEq, Int.reduceToNat, Nat.reduceMul]
    simp [wkV, wkL, slTrees, AV.asOwn, rowPart, stoOf, AV.isNil, shA, rowsT, cellsT, cellT, ren]

end Go.Proofs.Ytgablplpdocniaa
