/- Names, keys, blanks of a configuration, the document's way: contracts. No statement of the seat is proved here. -/
import Derived.Test.YtbkchhjdjijhkaaDoorCfFun
import Derived.Test.YtbkchhjdjijhkaaDoorSxH
set_option linter.unusedSimpArgs false
set_option linter.unusedVariables false
namespace Go.Proofs.YtbkchhjdjijhkaaDoor
open Go Go.Sx

def blankB (b : UInt8) : Bool := decide (b.toNat = 32) || decide (b.toNat = 9)

theorem blank_in (b : UInt8) : ([32, 9] : List UInt8).contains b = blankB b := by
  have h := (by decide +kernel : ∀ n : Fin 256, ([32, 9] : List UInt8).contains (UInt8.ofNat n.1) = blankB (UInt8.ofNat n.1))
  have := h ⟨b.toNat, u8_lt b⟩
  simpa using this

theorem cfTrim_front {b : UInt8} (l : List UInt8) (hb : blankB b = true) : cfTrim (b :: l) = cfTrim l := by
  unfold cfTrim Lib.trimS Lib.trimLeftS Lib.trimRightS
  have hb' : ([32, 9] : List UInt8).contains b = true := by rw [blank_in]; exact hb
  rw [List.reverse_cons, List.dropWhile_append]
  split
  · rename_i h
    have h0 : List.dropWhile (fun x => ([32, 9] : List UInt8).contains x) l.reverse = [] := by simpa using h
    rw [h0]
    simp only [List.reverse_nil, List.dropWhile_nil]
    rw [List.dropWhile_cons, if_pos hb']; rfl
  · rw [List.reverse_append]
    simp only [List.reverse_cons, List.reverse_nil, List.nil_append, List.cons_append]
    rw [List.dropWhile_cons, if_pos hb']

theorem cfTrim_back {b : UInt8} (l : List UInt8) (hb : blankB b = true) : cfTrim (l ++ [b]) = cfTrim l := by
  unfold cfTrim Lib.trimS Lib.trimLeftS Lib.trimRightS
  have hb' : ([32, 9] : List UInt8).contains b = true := by rw [blank_in]; exact hb
  rw [List.reverse_append]
  simp only [List.reverse_cons, List.reverse_nil, List.nil_append, List.cons_append]
  rw [List.dropWhile_cons, if_pos hb']

theorem cfTrim_done (l : List UInt8) (h1 : ∀ b, l.head? = some b → blankB b = false) (h2 : ∀ b, l.getLast? = some b → blankB b = false) : cfTrim l = l := by
  unfold cfTrim Lib.trimS Lib.trimLeftS Lib.trimRightS
  have e1 : l.reverse.dropWhile (fun x => ([32, 9] : List UInt8).contains x) = l.reverse := by
    cases hr : l.reverse with
    | nil => rfl
    | cons b r =>
      have : l.getLast? = some b := by rw [← List.head?_reverse, hr]; rfl
      have := h2 b this
      rw [List.dropWhile_cons, if_neg (by rw [blank_in, this]; decide)]
  rw [e1, List.reverse_reverse]
  cases l with
  | nil => rfl
  | cons b r =>
    have := h1 b rfl
    rw [List.dropWhile_cons, if_neg (by rw [blank_in, this]; decide)]

theorem f_ref11_blank (b : UInt8) : Meets Tryd.prog E0 n_ref11_blank [B8 b.toNat] [] (Bo (blankB b)) [] := by
  refine m_ref11_blank (by simp) (shut0 rfl) (shut0 rfl) (by simp) (by simp [keysOf]) ?_
  unfold blankB
  cases d : decide (b.toNat = 32)
  · simp only [go_sem, s_ref11_blank, d, ↓reduceIte, Nat.reduceEqDiff, Nat.reduceAdd, Nat.reduceLeDiff, reduceCtorEq, Nat.reduceLT, Int.reduceLT, Int.reduceLE, Int.reduceEq, Int.reduceToNat, Nat.reduceMul]
    refine wends (by first | exact Or.inl rfl | exact Or.inr rfl) ?_ (by first | rfl | simp [AV.ids, idsL])
    simp only [go_sem, r_ref11_blank, ↓reduceIte, Nat.reduceEqDiff, Nat.reduceAdd, Nat.reduceLeDiff, reduceCtorEq, Nat.reduceLT, Int.reduceLT, Int.reduceLE, Int.reduceEq, Int.reduceToNat, Nat.reduceMul]
    first | done | rfl
  · simp only [go_sem, s_ref11_blank, d, ↓reduceIte, Nat.reduceEqDiff, Nat.reduceAdd, Nat.reduceLeDiff, reduceCtorEq, Nat.reduceLT, Int.reduceLT, Int.reduceLE, Int.reduceEq, Int.reduceToNat, Nat.reduceMul]
    refine wends (by first | exact Or.inl rfl | exact Or.inr rfl) ?_ (by first | rfl | simp [AV.ids, idsL])
    simp only [go_sem, r_ref11_blank, ↓reduceIte, Nat.reduceEqDiff, Nat.reduceAdd, Nat.reduceLeDiff, reduceCtorEq, Nat.reduceLT, Int.reduceLT, Int.reduceLE, Int.reduceEq, Int.reduceToNat, Nat.reduceMul]
    first | done | rfl

theorem f_ref11_Trim (s : List UInt8) (hs : s.length ≤ 4611686018427387904) : Meets Tryd.prog E0 n_ref11_Trim [Str (toB s)] [] (Str (toB (cfTrim s))) [] := by
  refine m_ref11_Trim (by simp) (shut0 rfl) (shut0 rfl) (by simp) (by simp [keysOf]) ?_
  simp only [go_sem, s_ref11_Trim, ↓reduceIte, Nat.reduceEqDiff, Nat.reduceAdd, Nat.reduceLeDiff, reduceCtorEq, Nat.reduceLT, Int.reduceLT, Int.reduceLE, Int.reduceEq, Int.reduceToNat, Nat.reduceMul]
  refine W_loop (fun r : List UInt8 => r.length) (fun r => r.length ≤ s.length ∧ cfTrim r = cfTrim s) (fun r => [(0, Str (toB r))]) (fun _ => []) s ⟨Nat.le_refl _, rfl⟩ (subL [] [] (by simp [envS, go_sem, wkV, wkL, AV.ids, idsL, keysOf, ren, stoOf, slTrees, AV.asOwn, rowPart, AV.isNil, shA, rowsT, cellsT, cellT, wkLL] <;> assumption) (by simp [stoS, go_sem, wkV, wkL, wkO, AV.ids, Ob.ids, idsL, keysOf, ren, AV.one, stoOf, slTrees, AV.asOwn, rowPart, AV.isNil, shA, rowsT, cellsT, cellT, wkLL] <;> assumption) (by simp [keysOf, ren]) (by simp [stoOf, keysOf, ren]) (by simp [keysOf, ren]) (by simp [keysOf, ren])) ?_
  rintro r ⟨hr, ht⟩
  have hcase : r = [] ∨ (∃ b l, r = b :: l ∧ blankB b = false) ∨ ∃ b l, r = b :: l ∧ blankB b = true := by
    cases r with
    | nil => exact Or.inl rfl
    | cons b l =>
      cases hb : blankB b
      · exact Or.inr (Or.inl ⟨b, l, rfl, hb⟩)
      · exact Or.inr (Or.inr ⟨b, l, rfl, hb⟩)
  rcases hcase with rfl | ⟨b, l, rfl, hb⟩ | ⟨b, l, rfl, hb⟩
  case' inl =>
    have hh : ∀ b, ([] : List UInt8).head? = some b → blankB b = false := by intro b h; cases h
    have d0 : decide ((0 : Int) < ((0 : Nat) : Int)) = false := rfl
    simp only [go_sem, toB_size, List.length_nil, d0, ↓reduceIte, Nat.reduceEqDiff, Nat.reduceAdd, Nat.reduceLeDiff, reduceCtorEq, Nat.reduceLT, Int.reduceLT, Int.reduceLE, Int.reduceEq, Int.reduceToNat, Nat.reduceMul]
  case' inr.inl =>
    have hh : ∀ c, (b :: l).head? = some c → blankB c = false := by intro c h; injection h with h; subst h; exact hb
    have d0 : decide ((0 : Int) < ((l.length + 1 : Nat) : Int)) = true := decide_eq_true (by omega)
    have hg : (toB (b :: l))[0]? = some b := by rw [getT]; rfl
    have hf := f_ref11_blank b
    rw [hb] at hf
    simp only [go_sem, toB_size, List.length_cons, d0, hg, ↓reduceIte, Nat.reduceEqDiff, Nat.reduceAdd, Nat.reduceLeDiff, reduceCtorEq, Nat.reduceLT, Int.reduceLT, Int.reduceLE, Int.reduceEq, Int.reduceToNat, Nat.reduceMul]
    refine Cl_plain hf ?_
    simp only [go_sem, ↓reduceIte, Nat.reduceEqDiff, Nat.reduceAdd, Nat.reduceLeDiff, reduceCtorEq, Nat.reduceLT, Int.reduceLT, Int.reduceLE, Int.reduceEq, Int.reduceToNat, Nat.reduceMul]
  case' inr.inr =>
    have d0 : decide ((0 : Int) < ((l.length + 1 : Nat) : Int)) = true := decide_eq_true (by omega)
    have hg : (toB (b :: l))[0]? = some b := by rw [getT]; rfl
    have hf := f_ref11_blank b
    rw [hb] at hf
    have c1 : ((1 : Int) ≤ ((l.length + 1 : Nat) : Int)) = True := eq_true (by omega)
    have e : (toB (b :: l)).extract 1 (l.length + 1) = toB l := by rw [extT, List.take_of_length_le (by simp)]; rfl
    simp only [go_sem, toB_size, List.length_cons, d0, hg, ↓reduceIte, Nat.reduceEqDiff, Nat.reduceAdd, Nat.reduceLeDiff, reduceCtorEq, Nat.reduceLT, Int.reduceLT, Int.reduceLE, Int.reduceEq, Int.reduceToNat, Nat.reduceMul]
    refine Cl_plain hf ?_
    simp only [go_sem, toB_size, List.length_cons, c1, e, ↓reduceIte, Nat.reduceEqDiff, Nat.reduceAdd, Nat.reduceLeDiff, reduceCtorEq, Nat.reduceLT, Int.reduceLT, Int.reduceLE, Int.reduceEq, Int.reduceToNat, Nat.reduceMul]
    refine rd_of l (by simp) ⟨by simp at hr; omega, by rw [← ht, cfTrim_front l hb]⟩ (subL [] [] (by simp [envS, go_sem, wkV, wkL, AV.ids, idsL, keysOf, ren, stoOf, slTrees, AV.asOwn, rowPart, AV.isNil, shA, rowsT, cellsT, cellT, wkLL] <;> assumption) (by simp [stoS, go_sem, wkV, wkL, wkO, AV.ids, Ob.ids, idsL, keysOf, ren, AV.one, stoOf, slTrees, AV.asOwn, rowPart, AV.isNil, shA, rowsT, cellsT, cellT, wkLL] <;> assumption) (by simp [keysOf, ren]) (by simp [stoOf, keysOf, ren]) (by simp [keysOf, ren]) (by simp [keysOf, ren]))
  all_goals
    refine W_loop (fun q : List UInt8 => q.length) (fun q => q.length ≤ s.length ∧ cfTrim q = cfTrim s ∧ ∀ b, q.head? = some b → blankB b = false) (fun q => [(0, Str (toB q))]) (fun _ => []) _ ⟨hr, ht, hh⟩ (subL [] [] (by simp [envS, go_sem, wkV, wkL, AV.ids, idsL, keysOf, ren, stoOf, slTrees, AV.asOwn, rowPart, AV.isNil, shA, rowsT, cellsT, cellT, wkLL] <;> assumption) (by simp [stoS, go_sem, wkV, wkL, wkO, AV.ids, Ob.ids, idsL, keysOf, ren, AV.one, stoOf, slTrees, AV.asOwn, rowPart, AV.isNil, shA, rowsT, cellsT, cellT, wkLL] <;> assumption) (by simp [keysOf, ren]) (by simp [stoOf, keysOf, ren]) (by simp [keysOf, ren]) (by simp [keysOf, ren])) ?_
    clear hh ht hr
    rintro q ⟨hq, ht, hh⟩
    by_cases hn : q = []
    · subst hn
      have d0 : decide ((0 : Int) < ((0 : Nat) : Int)) = false := rfl
      have hv : cfTrim s = [] := by rw [← ht]; rfl
      rw [hv]
      simp only [go_sem, toB_size, List.length_nil, d0, ↓reduceIte, Nat.reduceEqDiff, Nat.reduceAdd, Nat.reduceLeDiff, reduceCtorEq, Nat.reduceLT, Int.reduceLT, Int.reduceLE, Int.reduceEq, Int.reduceToNat, Nat.reduceMul]
      refine wends (by first | exact Or.inl rfl | exact Or.inr rfl) ?_ (by first | rfl | simp [AV.ids, idsL])
      simp only [go_sem, r_ref11_Trim, ↓reduceIte, Nat.reduceEqDiff, Nat.reduceAdd, Nat.reduceLeDiff, reduceCtorEq, Nat.reduceLT, Int.reduceLT, Int.reduceLE, Int.reduceEq, Int.reduceToNat, Nat.reduceMul]
    · obtain ⟨i, b, rfl⟩ := snoc_of hn
      have hs : (i ++ [b]).length = i.length + 1 := by simp
      rw [hs] at hq
      have d0 : decide ((0 : Int) < ((i.length + 1 : Nat) : Int)) = true := decide_eq_true (by omega)
      have e1 : IntKind.i64.wrap (((i.length + 1 : Nat) : Int) - 1) = (i.length : Int) := by rw [wrap_i64_of (by omega) (by omega)]; omega
      have hg : (toB (i ++ [b]))[i.length]? = some b := by rw [getT]; simp
      have c1 : ((i.length : Int) ≤ ((i.length + 1 : Nat) : Int)) = True := eq_true (by omega)
      have hf := f_ref11_blank b
      cases hb : blankB b
      · rw [hb] at hf
        have hv : cfTrim s = i ++ [b] := by
          rw [← ht, cfTrim_done _ hh]
          intro c hc
          rw [List.getLast?_concat] at hc
          injection hc with hc; subst hc; exact hb
        rw [hv]
        simp only [go_sem, toB_size, hs, d0, e1, hg, ↓reduceIte, Nat.reduceEqDiff, Nat.reduceAdd, Nat.reduceLeDiff, reduceCtorEq, Nat.reduceLT, Int.reduceLT, Int.reduceLE, Int.reduceEq, Int.reduceToNat, Nat.reduceMul]
        refine Cl_plain hf ?_
        simp only [go_sem, ↓reduceIte, Nat.reduceEqDiff, Nat.reduceAdd, Nat.reduceLeDiff, reduceCtorEq, Nat.reduceLT, Int.reduceLT, Int.reduceLE, Int.reduceEq, Int.reduceToNat, Nat.reduceMul]
        refine wends (by first | exact Or.inl rfl | exact Or.inr rfl) ?_ (by first | rfl | simp [AV.ids, idsL])
        simp only [go_sem, r_ref11_Trim, ↓reduceIte, Nat.reduceEqDiff, Nat.reduceAdd, Nat.reduceLeDiff, reduceCtorEq, Nat.reduceLT, Int.reduceLT, Int.reduceLE, Int.reduceEq, Int.reduceToNat, Nat.reduceMul]
      · rw [hb] at hf
        have e : (toB (i ++ [b])).extract 0 i.length = toB i := by rw [extT, List.take_left]; rfl
        simp only [go_sem, toB_size, hs, d0, e1, hg, ↓reduceIte, Nat.reduceEqDiff, Nat.reduceAdd, Nat.reduceLeDiff, reduceCtorEq, Nat.reduceLT, Int.reduceLT, Int.reduceLE, Int.reduceEq, Int.reduceToNat, Nat.reduceMul]
        refine Cl_plain hf ?_
        simp only [go_sem, toB_size, hs, e1, c1, e, ↓reduceIte, Nat.reduceEqDiff, Nat.reduceAdd, Nat.reduceLeDiff, reduceCtorEq, Nat.reduceLT, Int.reduceLT, Int.reduceLE, Int.reduceEq, Int.reduceToNat, Nat.reduceMul]
        refine rd_of i (by simp) ⟨by omega, by rw [← ht, cfTrim_back i hb], ?_⟩ (subL [] [] (by simp [envS, go_sem, wkV, wkL, AV.ids, idsL, keysOf, ren, stoOf, slTrees, AV.asOwn, rowPart, AV.isNil, shA, rowsT, cellsT, cellT, wkLL] <;> assumption) (by simp [stoS, go_sem, wkV, wkL, wkO, AV.ids, Ob.ids, idsL, keysOf, ren, AV.one, stoOf, slTrees, AV.asOwn, rowPart, AV.isNil, shA, rowsT, cellsT, cellT, wkLL] <;> assumption) (by simp [keysOf, ren]) (by simp [stoOf, keysOf, ren]) (by simp [keysOf, ren]) (by simp [keysOf, ren]))
        intro c hc
        refine hh c ?_
        cases i with
        | nil => cases hc
        | cons a i => exact hc

end Go.Proofs.YtbkchhjdjijhkaaDoor
