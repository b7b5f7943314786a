/- strings.SplitSeq. No statement of the seat is proved here. -/
import Derived.Test.YtbkchhjdjijhkaaDoorSpIter
set_option linter.unusedSimpArgs false
set_option linter.unusedVariables false
namespace Go.Proofs.YtbkchhjdjijhkaaDoor
open Go Go.Sx

abbrev Str (s : ByteArray) : AV := .t (.v (.string s))

theorem f_splitSeq (i j k : Nat) (h1 : i ≠ j) (h2 : i ≠ k) (h3 : j ≠ k) (s sep : ByteArray) : Meets Tryd.prog E0 n_strings_splitSeq [Str s, Str sep, I 0] [] (.fn n_strings_splitSeq_1 [] [.ptr j 0, .ptr i 0, .ptr k 0]) [(i, .box [Str s]), (j, .box [Str sep]), (k, .box [I 0])] := by
  have h0 : Meets Tryd.prog E0 n_strings_splitSeq [Str s, Str sep, I 0] [] (.fn n_strings_splitSeq_1 [] [.ptr 1 0, .ptr 0 0, .ptr 2 0]) [(0, .box [Str s]), (1, .box [Str sep]), (2, .box [I 0])] := by
    refine m_strings_splitSeq (by simp) (shut_of (by simp [idsL, AV.ids, keysOf]) (by simp [Ob.live, Ob.ids, keysOf, idsL, AV.ids])) (shut_of (by simp [idsL, AV.ids, keysOf]) (by simp [Ob.live, Ob.ids, keysOf, idsL, AV.ids])) (by simp [keysOf]) (by simp [keysOf]) ?_
    simp only [go_sem, s_strings_splitSeq, ↓reduceIte, Nat.reduceEqDiff, Nat.reduceAdd, Nat.reduceLeDiff, reduceCtorEq, Nat.reduceLT, Int.reduceLT, Int.reduceLE, Int.reduceEq, Int.reduceToNat, Nat.reduceMul]
    refine wends2 [(0, 100), (1, 101), (2, 102)] [] (by first | exact Or.inl rfl | exact Or.inr rfl) ?_ (by simp [AV.ids, idsL, keysOf]) (by simp [stoS, wkO, ls_cons, ls_nil, stoOf, ren, keysOf, Ob.ids, wkV, wkL, AV.one, idsL, AV.ids] <;> assumption) (by simp [keysOf, ren]) (by simp [stoOf, keysOf, ren]) (by simp [keysOf, ren]) (by simp [keysOf, ren])
    simp only [go_sem, r_strings_splitSeq, exists_eq_left', Option.some.injEq, ↓reduceIte, Nat.reduceEqDiff, Nat.reduceAdd, Nat.reduceLeDiff, reduceCtorEq, Nat.reduceLT, Int.reduceLT, Int.reduceLE, Int.reduceEq, Int.reduceToNat, Nat.reduceMul]
    simp [wkV, wkL, slTrees, AV.asOwn, rowPart, stoOf, AV.isNil, shA, rowsT, cellsT, cellT, ren]
  have := h0.ren (fun a => if a = 0 then i else if a = 1 then j else k) (by simp [keysOf]; omega)
  simpa [renL, renA, renS, renO] using this

theorem f_SplitSeq (i j k : Nat) (h1 : i ≠ j) (h2 : i ≠ k) (h3 : j ≠ k) (s sep : ByteArray) : Meets Tryd.prog E0 n_strings_SplitSeq [Str s, Str sep] [] (.fn n_strings_splitSeq_1 [] [.ptr j 0, .ptr i 0, .ptr k 0]) [(i, .box [Str s]), (j, .box [Str sep]), (k, .box [I 0])] := by
  have h0 : Meets Tryd.prog E0 n_strings_SplitSeq [Str s, Str sep] [] (.fn n_strings_splitSeq_1 [] [.ptr 1 0, .ptr 0 0, .ptr 2 0]) [(0, .box [Str s]), (1, .box [Str sep]), (2, .box [I 0])] := by
    refine m_strings_SplitSeq (by simp) (shut_of (by simp [idsL, AV.ids, keysOf]) (by simp [Ob.live, Ob.ids, keysOf, idsL, AV.ids])) (shut_of (by simp [idsL, AV.ids, keysOf]) (by simp [Ob.live, Ob.ids, keysOf, idsL, AV.ids])) (by simp [keysOf]) (by simp [keysOf]) ?_
    simp only [go_sem, s_strings_SplitSeq, ↓reduceIte, Nat.reduceEqDiff, Nat.reduceAdd, Nat.reduceLeDiff, reduceCtorEq, Nat.reduceLT, Int.reduceLT, Int.reduceLE, Int.reduceEq, Int.reduceToNat, Nat.reduceMul]
    refine Cl_io [] false (f_splitSeq 300 301 302 (by omega) (by omega) (by omega) s sep) (Wks.refl _) (by simp [keysOf]) (by simp [keysOf, stoOf]) (by simp) (by simp) (by simp [keysOf]) ?_
    simp only [go_sem, froze, ↓reduceIte, Nat.reduceEqDiff, Nat.reduceAdd, Nat.reduceLeDiff, reduceCtorEq, Nat.reduceLT, Int.reduceLT, Int.reduceLE, Int.reduceEq, Int.reduceToNat, Nat.reduceMul]
    refine wends2 [(0, 300), (1, 301), (2, 302)] [] (by first | exact Or.inl rfl | exact Or.inr rfl) ?_ (by simp [AV.ids, idsL, keysOf]) (by simp [stoS, wkO, ls_cons, ls_nil, stoOf, ren, keysOf, Ob.ids, wkV, wkL, AV.one, idsL, AV.ids] <;> assumption) (by simp [keysOf, ren]) (by simp [stoOf, keysOf, ren]) (by simp [keysOf, ren]) (by simp [keysOf, ren])
    simp only [go_sem, r_strings_SplitSeq, exists_eq_left', Option.some.injEq, ↓reduceIte, Nat.reduceEqDiff, Nat.reduceAdd, Nat.reduceLeDiff, reduceCtorEq, Nat.reduceLT, Int.reduceLT, Int.reduceLE, Int.reduceEq, Int.reduceToNat, Nat.reduceMul]
    simp [wkV, wkL, slTrees, AV.asOwn, rowPart, stoOf, AV.isNil, shA, rowsT, cellsT, cellT, ren]
  have := h0.ren (fun a => if a = 0 then i else if a = 1 then j else k) (by simp [keysOf]; omega)
  simpa [renL, renA, renS, renO] using this

end Go.Proofs.YtbkchhjdjijhkaaDoor
