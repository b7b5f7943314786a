/- Turning a row's part; putting in one by one, as the library does. No statement of the seat is proved here. -/
import Derived.Test.YtgablplpdocniaaSs1F
import Derived.Test.YtgablplpdocniaaSxH
set_option linter.unusedSimpArgs false
set_option linter.unusedVariables false
namespace Go.Proofs.Ytgablplpdocniaa
open Go Go.Sx

set_option maxHeartbeats 1000000 in
theorem f_rotate_float64 (g L : Nat) (r : Bool)  (p x y q : List Nat) (hx : x ≠ []) (hy : y ≠ []) (hL : L = (p ++ x ++ y ++ q).length) (hb : L ≤ 281474976710656) :
    Meets Try.prog E0 n_slices_rotateCmpFunc_float64 [.own 0 1 0 L r, I p.length, I (p.length + x.length : Nat), I (p.length + x.length + y.length : Nat), .fn g [] []] [(0, .row 1 true ((p ++ x ++ y ++ q).map row_float64))] (.tp []) [(0, .row 1 true ((p ++ y ++ x ++ q).map row_float64))] := by
  generalize hout : p ++ y ++ x ++ q = out
  have hLs : L = p.length + x.length + y.length + q.length := by rw [hL]; simp only [List.length_append]
  obtain ⟨M, hM⟩ : ∃ M, p.length + x.length = M := ⟨_, rfl⟩
  have ex : IntKind.i64.wrap (((p.length + x.length : Nat) : Int) - (p.length : Int)) = (x.length : Int) := by rw [wrap_i64_of (by omega) (by omega)]; omega
  have ey : IntKind.i64.wrap (((p.length + x.length + y.length : Nat) : Int) - ((p.length + x.length : Nat) : Int)) = (y.length : Int) := by rw [wrap_i64_of (by omega) (by omega)]; omega
  rw [hM] at ex ey ⊢
  refine m_slices_rotateCmpFunc_float64 (by simp) (shut_of (by simp [idsL, AV.ids, keysOf]) (by simp [Ob.live, Ob.ids, keysOf, idsL, AV.ids])) (shut_of (by simp [idsL, AV.ids, keysOf]) (by simp [Ob.live, Ob.ids, keysOf, idsL, AV.ids])) (by simp [keysOf]) (by simp [keysOf]) ?_
  simp only [go_sem, s_slices_rotateCmpFunc_float64, ex, ey, ↓reduceIte, Nat.reduceEqDiff, Nat.reduceAdd, Nat.reduceLeDiff, reduceCtorEq, Nat.reduceLT, Int.reduceLT, Int.reduceLE, Int.reduceEq, Int.reduceToNat, Nat.reduceMul]
  refine W_loop (fun s : List Nat × List Nat × List Nat × List Nat => s.2.1.length + s.2.2.1.length) (fun s => s.2.1 ≠ [] ∧ s.2.2.1 ≠ [] ∧ s.1.length + s.2.1.length = M ∧ s.1.length + s.2.1.length + s.2.2.1.length + s.2.2.2.length = L ∧ s.1 ++ s.2.2.1 ++ s.2.1 ++ s.2.2.2 = out)
    (fun s => [(0, .own 0 1 0 L r), (2, I M), (4, .fn g [] []), (10, I s.2.1.length), (11, I s.2.2.1.length)])
    (fun s => [(0, .row 1 true ((s.1 ++ s.2.1 ++ s.2.2.1 ++ s.2.2.2).map row_float64))]) (p, x, y, q) ⟨hx, hy, hM, hLs.symm, hout⟩ (subL [] [] (by simp [envS, go_sem, wkV, wkL, AV.ids, idsL, keysOf, ren, stoOf, slTrees, AV.asOwn, rowPart, AV.isNil, shA, rowsT, cellsT, cellT, wkLL] <;> assumption) (by simp [stoS, go_sem, wkV, wkL, wkO, AV.ids, Ob.ids, idsL, keysOf, ren, AV.one, stoOf, slTrees, AV.asOwn, rowPart, AV.isNil, shA, rowsT, cellsT, cellT, wkLL] <;> assumption) (by simp [keysOf, ren]) (by simp [stoOf, keysOf, ren]) (by simp [keysOf, ren]) (by simp [keysOf, ren])) ?_
  clear hout ex ey hL hLs hM hx hy
  rintro ⟨p, x, y, q⟩ ⟨hx, hy, hM, hLs, hout⟩
  simp only at hx hy hM hLs hout ⊢
  have hxl : 0 < x.length := List.length_pos_iff.2 hx
  have hyl : 0 < y.length := List.length_pos_iff.2 hy
  have ea : IntKind.i64.wrap ((M : Int) - (x.length : Int)) = (p.length : Int) := by rw [wrap_i64_of (by omega) (by omega)]; omega
  rcases Nat.lt_trichotomy x.length y.length with hlt | heq | hgt
  · have d1 : decide ((x.length : Int) = (y.length : Int)) = false := decide_eq_false (by omega)
    have d1' : decide (x.length = y.length) = false := decide_eq_false (by omega)
    have d2 : decide (y.length < x.length) = false := decide_eq_false (by omega)
    obtain ⟨y1, y2, rfl, hy1⟩ := split_at (show y.length - x.length ≤ y.length by omega)
    have hy2 : x.length = y2.length := by simp at hy1 hlt; omega
    have n1 : y2 ≠ [] := fun e => by rw [e, List.length_nil] at hy2; omega
    have n2 : y1 ≠ [] := fun e => by have e' := congrArg List.length e; simp only [List.length_append, List.length_nil] at e' hy1 hlt; omega
    have h := f_swapRange_float64 g L r  p x y1 y2 q hy2 (by simp at hLs ⊢; omega) hb
    have e1 : p.length + x.length + y1.length = M + y1.length := by omega
    rw [e1] at h
    have e2 : p ++ x ++ (y1 ++ y2) ++ q = p ++ x ++ y1 ++ y2 ++ q := by simp
    rw [e2]
    have e3 : IntKind.i64.wrap (IntKind.i64.wrap ((M : Int) + ((y1 ++ y2).length : Int)) - (x.length : Int)) = ((M + y1.length : Nat) : Int) := by
      rw [wrap_i64_of (n := (M : Int) + _) (by omega) (by omega), wrap_i64_of (by omega) (by omega)]; simp; omega
    have e4 : IntKind.i64.wrap (((y1 ++ y2).length : Int) - (x.length : Int)) = (y1.length : Int) := by
      rw [wrap_i64_of (by omega) (by omega)]; simp; omega
    generalize hyy : (y1 ++ y2).length = yl at *
    simp only [go_sem, d1, d1', d2, ea, e3, e4, ↓reduceIte, Nat.reduceEqDiff, Nat.reduceAdd, Nat.reduceLeDiff, reduceCtorEq, Nat.reduceLT, Int.reduceLT, Int.reduceLE, Int.reduceEq, Int.reduceToNat, Nat.reduceMul]
    refine Cl_obj (ins := _) (hin := by simp [keysOf, stoOf]) (hk := by simp [keysOf]) (nd := by simp [keysOf]) (h := h) ?_
    simp only [go_sem, e4, ↓reduceIte, Nat.reduceEqDiff, Nat.reduceAdd, Nat.reduceLeDiff, reduceCtorEq, Nat.reduceLT, Int.reduceLT, Int.reduceLE, Int.reduceEq, Int.reduceToNat, Nat.reduceMul]
    refine rd_of (p, y2, y1, x ++ q) (by simp at hyy ⊢; omega) ⟨n1, n2, by simp only; omega, by simp at hyy ⊢; omega, by rw [← hout]; simp⟩ ?_
    rw [hy2]
    have e5 : p ++ y2 ++ y1 ++ (x ++ q) = p ++ y2 ++ y1 ++ x ++ q := by simp
    simp only
    rw [e5]
    exact (subL [] [] (by simp [envS, go_sem, wkV, wkL, AV.ids, idsL, keysOf, ren, stoOf, slTrees, AV.asOwn, rowPart, AV.isNil, shA, rowsT, cellsT, cellT, wkLL] <;> assumption) (by simp [stoS, go_sem, wkV, wkL, wkO, AV.ids, Ob.ids, idsL, keysOf, ren, AV.one, stoOf, slTrees, AV.asOwn, rowPart, AV.isNil, shA, rowsT, cellsT, cellT, wkLL] <;> assumption) (by simp [keysOf, ren]) (by simp [stoOf, keysOf, ren]) (by simp [keysOf, ren]) (by simp [keysOf, ren]))
  · have d1 : decide ((x.length : Int) = (y.length : Int)) = true := decide_eq_true (by omega)
    have d1' : decide (x.length = y.length) = true := decide_eq_true heq
    have h := f_swapRange_float64 g L r  p x [] y q heq (by simp at hLs ⊢; omega) hb
    have e1 : p.length + x.length + ([] : List Nat).length = M := by simp; omega
    rw [e1, List.append_nil, List.append_nil, hout] at h
    simp only [go_sem, d1, d1', ea, ↓reduceIte, Nat.reduceEqDiff, Nat.reduceAdd, Nat.reduceLeDiff, reduceCtorEq, Nat.reduceLT, Int.reduceLT, Int.reduceLE, Int.reduceEq, Int.reduceToNat, Nat.reduceMul]
    refine Cl_obj (ins := _) (hin := by simp [keysOf, stoOf]) (hk := by simp [keysOf]) (nd := by simp [keysOf]) (h := h) ?_
    simp only [go_sem, ↓reduceIte, Nat.reduceEqDiff, Nat.reduceAdd, Nat.reduceLeDiff, reduceCtorEq, Nat.reduceLT, Int.reduceLT, Int.reduceLE, Int.reduceEq, Int.reduceToNat, Nat.reduceMul]
    refine wends2 [] [] (by first | exact Or.inl rfl | exact Or.inr rfl) ?_ (by simp [AV.ids, idsL, keysOf]) (by simp [stoS, wkO, ls_cons, ls_nil, stoOf, ren, keysOf, Ob.ids, wkV, wkL, AV.one, idsL, AV.ids] <;> assumption) (by simp [keysOf, ren]) (by simp [stoOf, keysOf, ren]) (by simp [keysOf, ren]) (by simp [keysOf, ren])
    simp only [go_sem, r_slices_rotateCmpFunc_float64, exists_eq_left', Option.some.injEq, ↓reduceIte, Nat.reduceEqDiff, Nat.reduceAdd, Nat.reduceLeDiff, reduceCtorEq, Nat.reduceLT, Int.reduceLT, Int.reduceLE, Int.reduceEq, Int.reduceToNat, Nat.reduceMul]
    simp [wkV, wkL, slTrees, AV.asOwn, rowPart, stoOf, AV.isNil, shA, rowsT, cellsT, cellT, ren]
  · have d1 : decide ((x.length : Int) = (y.length : Int)) = false := decide_eq_false (by omega)
    have d1' : decide (x.length = y.length) = false := decide_eq_false (by omega)
    have d2 : decide (y.length < x.length) = true := decide_eq_true hgt
    obtain ⟨x1, x2, rfl, hx1⟩ := split_at (show y.length ≤ x.length by omega)
    have hx2 : x2.length < (x1 ++ x2).length := by simp; omega
    have n1 : x2 ≠ [] := fun e => by have e' := congrArg List.length e; simp only [List.length_append, List.length_nil] at e' hx1 hgt; omega
    have n2 : x1 ≠ [] := fun e => by have e' := congrArg List.length e; simp only [List.length_append, List.length_nil] at e' hx1 hgt; omega
    have h := f_swapRange_float64 g L r  p x1 x2 y q hx1 (by simp at hLs ⊢; omega) hb
    have e1 : p.length + x1.length + x2.length = M := by simp at hM; omega
    rw [e1, hx1] at h
    have e2 : p ++ (x1 ++ x2) ++ y ++ q = p ++ x1 ++ x2 ++ y ++ q := by simp
    rw [e2]
    have e4 : IntKind.i64.wrap (((x1 ++ x2).length : Int) - (y.length : Int)) = (x2.length : Int) := by
      rw [wrap_i64_of (by omega) (by omega)]; simp; omega
    generalize hxx : (x1 ++ x2).length = xl at *
    simp only [go_sem, d1, d1', d2, ea, ↓reduceIte, Nat.reduceEqDiff, Nat.reduceAdd, Nat.reduceLeDiff, reduceCtorEq, Nat.reduceLT, Int.reduceLT, Int.reduceLE, Int.reduceEq, Int.reduceToNat, Nat.reduceMul]
    refine Cl_obj (ins := _) (hin := by simp [keysOf, stoOf]) (hk := by simp [keysOf]) (nd := by simp [keysOf]) (h := h) ?_
    simp only [go_sem, e4, ↓reduceIte, Nat.reduceEqDiff, Nat.reduceAdd, Nat.reduceLeDiff, reduceCtorEq, Nat.reduceLT, Int.reduceLT, Int.reduceLE, Int.reduceEq, Int.reduceToNat, Nat.reduceMul]
    refine rd_of (p ++ y, x2, x1, q) (by simp at hxx ⊢; omega) ⟨n1, n2, by simp at hxx ⊢; omega, by simp at hxx ⊢; omega, by rw [← hout]; simp⟩ ?_
    simp only [hx1]
    exact (subL [] [] (by simp [envS, go_sem, wkV, wkL, AV.ids, idsL, keysOf, ren, stoOf, slTrees, AV.asOwn, rowPart, AV.isNil, shA, rowsT, cellsT, cellT, wkLL] <;> assumption) (by simp [stoS, go_sem, wkV, wkL, wkO, AV.ids, Ob.ids, idsL, keysOf, ren, AV.one, stoOf, slTrees, AV.asOwn, rowPart, AV.isNil, shA, rowsT, cellsT, cellT, wkLL] <;> assumption) (by simp [keysOf, ren]) (by simp [stoOf, keysOf, ren]) (by simp [keysOf, ren]) (by simp [keysOf, ren]))

end Go.Proofs.Ytgablplpdocniaa
