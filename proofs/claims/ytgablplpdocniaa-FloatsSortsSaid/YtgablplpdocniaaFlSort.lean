/- Floats sorted, both ways. No statement of the seat is proved here. -/
import Derived.Test.YtgablplpdocniaaSs8F
import Derived.Test.YtgablplpdocniaaFlCmp
import Derived.Test.YtgablplpdocniaaSxH
set_option linter.unusedSimpArgs false
set_option linter.unusedVariables false
namespace Go.Proofs.Ytgablplpdocniaa
open Go Go.Sx

theorem flCmp_flip (a b : Nat) : flCmp a b = -flCmp b a := by unfold flCmp; split <;> split <;> (try split) <;> omega
theorem fl_lt (x y : Nat) : lt_float64 flCmp x y = decide (flOrd x < flOrd y) := by
  unfold lt_float64 flCmp
  rw [decide_eq_decide]
  split
  · omega
  · split <;> omega
theorem fl_below3 : Below3 (lt_float64 flCmp) where
  asym := fun a b => by simp only [fl_lt, decide_eq_true_eq, decide_eq_false_iff_not]; omega
  tr := fun a b c => by simp only [fl_lt, decide_eq_false_iff_not]; omega

/-- A list of floats. -/
def flsT (l : List Nat) : T := .sl 1 (l.map row_float64)

theorem f_CloneF_e (c : Option Addr) (n : Nat) : Meets Try.prog E0 n_slices_Clone_Sfloat64_float64 [.t (.v (.slice c 0 n))] [] (.t (.sl 1 [])) [] := by
  refine m_slices_Clone_Sfloat64_float64 (by simp) (shut0 rfl) (shut0 rfl) (by simp) (by simp [keysOf]) ?_
  cases c with
  | none =>
    simp only [go_sem, s_slices_Clone_Sfloat64_float64, Option.isNone_none, ↓reduceIte, Nat.reduceEqDiff, Nat.reduceAdd, Nat.reduceLeDiff, reduceCtorEq, Nat.reduceLT, Int.reduceLT, Int.reduceLE, Int.reduceEq, Int.reduceToNat, Nat.reduceMul]
    refine wends2 [] [] (by first | exact Or.inl rfl | exact Or.inr rfl) ?_ (by simp [AV.ids, idsL]) (by simp [stoS]) (by simp [keysOf]) (by simp [stoOf, keysOf] <;> assumption) (by simp [keysOf]) (by simp [keysOf])
    simp only [go_sem, r_slices_Clone_Sfloat64_float64, exists_eq_left', Option.some.injEq, ↓reduceIte, Nat.reduceEqDiff, Nat.reduceAdd, Nat.reduceLeDiff, reduceCtorEq, Nat.reduceLT, Int.reduceLT, Int.reduceLE, Int.reduceEq, Int.reduceToNat, Nat.reduceMul]
    simp [wkV, wkL, slTrees, AV.asOwn, rowPart, stoOf, AV.isNil, shA, rowsT, cellsT, cellT]
  | some c =>
    simp only [go_sem, s_slices_Clone_Sfloat64_float64, Option.isNone_some, show 0 * 8 ≤ 2 ^ 47 from by decide, show 0 < 2 ^ 47 from by decide, ↓reduceIte, Nat.reduceEqDiff, Nat.reduceAdd, Nat.reduceLeDiff, reduceCtorEq, Nat.reduceLT, Int.reduceLT, Int.reduceLE, Int.reduceEq, Int.reduceToNat, Nat.reduceMul]
    refine wends2 [] [106] (by first | exact Or.inl rfl | exact Or.inr rfl) ?_ (by simp [AV.ids, idsL]) (by simp [stoS]) (by simp [keysOf]) (by simp [stoOf, keysOf] <;> assumption) (by simp [keysOf]) (by simp [keysOf])
    simp only [go_sem, r_slices_Clone_Sfloat64_float64, exists_eq_left', Option.some.injEq, ↓reduceIte, Nat.reduceEqDiff, Nat.reduceAdd, Nat.reduceLeDiff, reduceCtorEq, Nat.reduceLT, Int.reduceLT, Int.reduceLE, Int.reduceEq, Int.reduceToNat, Nat.reduceMul]
    simp [wkV, wkL, slTrees, AV.asOwn, rowPart, stoOf, AV.isNil, shA, rowsT, cellsT, cellT]

theorem f_CloneF_nil : Meets Try.prog E0 n_slices_Clone_Sfloat64_float64 [.t (.sl 1 [])] [] (.t (.sl 1 [])) [] :=
  Meets.of_empty (xs := []) (ys := []) f_CloneF_e

theorem f_CloneF_own (id : Nat) (e : List T) (es : List (List T)) (hl : es.length ≤ 1000000000) : Meets Try.prog E0 n_slices_Clone_Sfloat64_float64 [.t (.sl 1 (e :: es))] [] (.own id 1 0 (es.length + 1) true) [(id, .row 1 true (e :: es))] := by
  have h0 : Meets Try.prog E0 n_slices_Clone_Sfloat64_float64 [.t (.sl 1 (e :: es))] [] (.own 0 1 0 (es.length + 1) true) [(0, .row 1 true (e :: es))] := by
    have h1 : (es.length + 1) * 8 ≤ 2 ^ 47 := by omega
    have h2 : es.length + 1 < 2 ^ 47 := by omega
    refine m_slices_Clone_Sfloat64_float64 (by simp) (shut_of (by simp [idsL, AV.ids, keysOf]) (by simp [Ob.live, Ob.ids, keysOf, idsL, AV.ids])) (shut_of (by simp [idsL, AV.ids, keysOf]) (by simp [Ob.live, Ob.ids, keysOf, idsL, AV.ids])) (by simp [keysOf]) (by simp [keysOf]) ?_
    simp only [go_sem, s_slices_Clone_Sfloat64_float64, h1, h2, ↓reduceIte, Nat.reduceEqDiff, Nat.reduceAdd, Nat.reduceLeDiff, reduceCtorEq, Nat.reduceLT, Int.reduceLT, Int.reduceLE, Int.reduceEq, Int.reduceToNat, Nat.reduceMul]
    refine wends2 [(0, 106)] [] (by first | exact Or.inl rfl | exact Or.inr rfl) ?_ (by simp [AV.ids, idsL, keysOf]) (by simp [stoS, wkO, ls_cons, ls_nil, stoOf, ren, keysOf, Ob.ids, wkV, wkL, AV.one, idsL, AV.ids] <;> assumption) (by simp [keysOf, ren]) (by simp [stoOf, keysOf, ren]) (by simp [keysOf, ren]) (by simp [keysOf, ren])
    simp only [go_sem, r_slices_Clone_Sfloat64_float64, exists_eq_left', Option.some.injEq, ↓reduceIte, Nat.reduceEqDiff, Nat.reduceAdd, Nat.reduceLeDiff, reduceCtorEq, Nat.reduceLT, Int.reduceLT, Int.reduceLE, Int.reduceEq, Int.reduceToNat, Nat.reduceMul]
    simp [wkV, wkL, slTrees, AV.asOwn, rowPart, stoOf, AV.isNil, shA, rowsT, cellsT, cellT, ren]
  have := h0.ren (fun _ => id) (by simp [keysOf])
  simpa [renL, renA, renS, renO] using this

theorem f_floats_Sorted (l : List Nat) (hl : l.length ≤ 1000000) (hD : ∀ x ∈ l, x < 18446744073709551616) : Meets Try.prog E0 n_floats_Sorted [.t (flsT l)] [] (.t (flsT (isrt (lt_float64 flCmp) l))) [] := by
  unfold flsT
  refine m_floats_Sorted (by simp) (shut0 rfl) (shut0 rfl) (by simp) (by simp [keysOf]) ?_
  cases l with
  | nil =>
    simp only [List.map_nil, isrt_nil]
    have h := f_SortStable0_float64 n_floats_Cmp
    simp only [go_sem, s_floats_Sorted, ↓reduceIte, Nat.reduceEqDiff, Nat.reduceAdd, Nat.reduceLeDiff, reduceCtorEq, Nat.reduceLT, Int.reduceLT, Int.reduceLE, Int.reduceEq, Int.reduceToNat, Nat.reduceMul]
    refine Cl_plain f_CloneF_nil ?_
    simp only [go_sem, ↓reduceIte, Nat.reduceEqDiff, Nat.reduceAdd, Nat.reduceLeDiff, reduceCtorEq, Nat.reduceLT, Int.reduceLT, Int.reduceLE, Int.reduceEq, Int.reduceToNat, Nat.reduceMul]
    refine Cl_plain h ?_
    simp only [go_sem, ↓reduceIte, Nat.reduceEqDiff, Nat.reduceAdd, Nat.reduceLeDiff, reduceCtorEq, Nat.reduceLT, Int.reduceLT, Int.reduceLE, Int.reduceEq, Int.reduceToNat, Nat.reduceMul]
    refine wends2 [] [] (by first | exact Or.inl rfl | exact Or.inr rfl) ?_ (by simp [AV.ids, idsL]) (by simp [stoS]) (by simp [keysOf]) (by simp [stoOf, keysOf] <;> assumption) (by simp [keysOf]) (by simp [keysOf])
    simp only [go_sem, r_floats_Sorted, exists_eq_left', Option.some.injEq, ↓reduceIte, Nat.reduceEqDiff, Nat.reduceAdd, Nat.reduceLeDiff, reduceCtorEq, Nat.reduceLT, Int.reduceLT, Int.reduceLE, Int.reduceEq, Int.reduceToNat, Nat.reduceMul]
    simp [wkV, wkL, slTrees, AV.asOwn, rowPart, stoOf, AV.isNil, shA, rowsT, cellsT, cellT]
  | cons x l =>
    have hc := f_CloneF_own 102 (row_float64 x) (l.map row_float64) (by simp at hl ⊢; omega)
    have h := (f_SortStable_float64 n_floats_Cmp (l.length + 1) true flCmp (· < 18446744073709551616) (fun x y hx hy => f_floats_Cmp x y hx hy) fl_below3 (by simp at hl; omega) (x :: l) rfl hD).ren (fun _ => 102) (by simp [keysOf])
    simp only [renL, renA, renS, renO] at h
    rw [List.length_map] at hc
    have hll := isrt_len (lt_float64 flCmp) (x :: l)
    simp only [List.map_cons] at h ⊢
    generalize isrt (lt_float64 flCmp) (x :: l) = s at *
    simp only [go_sem, s_floats_Sorted, ↓reduceIte, Nat.reduceEqDiff, Nat.reduceAdd, Nat.reduceLeDiff, reduceCtorEq, Nat.reduceLT, Int.reduceLT, Int.reduceLE, Int.reduceEq, Int.reduceToNat, Nat.reduceMul]
    refine Cl_new hc (by simp [keysOf, stoOf]) (by simp [keysOf]) ?_
    simp only [go_sem, ↓reduceIte, Nat.reduceEqDiff, Nat.reduceAdd, Nat.reduceLeDiff, reduceCtorEq, Nat.reduceLT, Int.reduceLT, Int.reduceLE, Int.reduceEq, Int.reduceToNat, Nat.reduceMul]
    refine Cl_obj (ins := _) (hin := by simp [keysOf, stoOf]) (hk := by simp [keysOf]) (nd := by simp [keysOf]) (h := h) ?_
    simp only [go_sem, ↓reduceIte, Nat.reduceEqDiff, Nat.reduceAdd, Nat.reduceLeDiff, reduceCtorEq, Nat.reduceLT, Int.reduceLT, Int.reduceLE, Int.reduceEq, Int.reduceToNat, Nat.reduceMul]
    refine wends2 [] [102] (by first | exact Or.inl rfl | exact Or.inr rfl) ?_ (by simp [AV.ids, idsL]) (by simp [stoS]) (by simp [keysOf]) (by simp [stoOf, keysOf] <;> assumption) (by simp [keysOf]) (by simp [keysOf])
    simp only [go_sem, r_floats_Sorted, exists_eq_left', Option.some.injEq, ↓reduceIte, Nat.reduceEqDiff, Nat.reduceAdd, Nat.reduceLeDiff, reduceCtorEq, Nat.reduceLT, Int.reduceLT, Int.reduceLE, Int.reduceEq, Int.reduceToNat, Nat.reduceMul]
    simp [wkV, wkL, slTrees, AV.asOwn, rowPart, stoOf, AV.isNil, shA, rowsT, cellsT, cellT, hll, List.take_of_length_le]

theorem f_floats_Bits (l : List Nat) (hl : l.length ≤ 1000000) : Meets Try.prog E0 n_floats_Bits [.t (flsT l)] [] (.t (.sl 1 (l.map fun b => [.v (.int .u64 (b : Nat))]))) [] := by
  unfold flsT
  refine m_floats_Bits (by simp) (shut0 rfl) (shut0 rfl) (by simp) (by simp [keysOf]) ?_
  have hz : (List.map row_float64 l).length = l.length := List.length_map _
  have hb1 : ((l.length : Nat) : Int) < 2 ^ 47 := by omega
  have hb2 : ((8 : Nat) : Int) * ((l.length : Nat) : Int) ≤ 2 ^ 48 := by omega
  simp only [go_sem, s_floats_Bits, hb1, hb2, ↓reduceIte, Nat.reduceEqDiff, Nat.reduceAdd, Nat.reduceLeDiff, reduceCtorEq, Nat.reduceLT, Int.reduceLT, Int.reduceLE, Int.reduceEq, Int.reduceToNat, Nat.reduceMul]
  refine W_loop (fun i : Nat => l.length - i) (fun i => i ≤ l.length)
    (fun i => [(3, .own 103 1 0 l.length true), (9, .t (.sl 1 (l.map row_float64))), (10, I l.length), (11, I i)])
    (fun i => [(103, .row 1 true ((l.take i).map (fun b => [.v (.int .u64 (b : Nat))]) ++ List.replicate (l.length - i) [.v (.int .u64 (0 : Nat))]))]) 0 (Nat.zero_le _) ?_ ?_
  · simp only [List.take_zero, List.map_nil, List.nil_append, Nat.sub_zero]
    exact (subL [] [] (by simp [envS, go_sem, wkV, wkL, AV.ids, idsL, keysOf, ren, stoOf, slTrees, AV.asOwn, rowPart, AV.isNil, shA, rowsT, cellsT, cellT, wkLL] <;> assumption) (by simp [stoS, go_sem, wkV, wkL, wkO, AV.ids, Ob.ids, idsL, keysOf, ren, AV.one, stoOf, slTrees, AV.asOwn, rowPart, AV.isNil, shA, rowsT, cellsT, cellT, wkLL] <;> assumption) (by simp [keysOf, ren]) (by simp [stoOf, keysOf, ren]) (by simp [keysOf, ren]) (by simp [keysOf, ren]))
  intro i hi
  by_cases h : i < l.length
  · have d1 : decide (i < l.length) = true := decide_eq_true h
    obtain ⟨l1, x, l2, rfl, rfl⟩ := split_at1 h
    have hg : ((l1 ++ x :: l2).map row_float64)[l1.length]? = some [.v (.float .f64 x)] := by rw [List.getElem?_map, get_mid l1 x l2 rfl]; rfl
    have ei : IntKind.i64.wrap ((l1.length : Int) + 1) = ((l1.length + 1 : Nat) : Int) := wadd1 rfl (by omega)
    have hll : (l1 ++ x :: l2).length = l1.length + 1 + l2.length := by simp; omega
    have t1 : (l1 ++ x :: l2).take l1.length = l1 := List.take_left
    have t3 : (l1 ++ x :: l2).take (l1.length + 1) = l1 ++ [x] := by rw [show l1 ++ x :: l2 = (l1 ++ [x]) ++ l2 by simp, List.take_left' (by simp)]
    have ib : ((l1.length : Nat) : Int) < ((l1 ++ x :: l2).length : Int) := by omega
    have er : (l1 ++ x :: l2).length - l1.length = l2.length + 1 := by omega
    have er2 : (l1 ++ x :: l2).length - (l1.length + 1) = l2.length := by omega
    have hq : (l1.map (fun b => [T.v (.int .u64 (b : Nat))]) ++ List.replicate (l2.length + 1) [T.v (.int .u64 (0 : Nat))])[l1.length]? = some [T.v (.int .u64 (0 : Nat))] := by
      rw [List.replicate_succ]; exact get_mid _ _ _ (by simp)
    have hset : (l1.map (fun b => [T.v (.int .u64 (b : Nat))]) ++ List.replicate (l2.length + 1) [T.v (.int .u64 (0 : Nat))]).set l1.length [T.v (.int .u64 (x : Nat))] = (l1 ++ [x]).map (fun b => [T.v (.int .u64 (b : Nat))]) ++ List.replicate l2.length [T.v (.int .u64 (0 : Nat))] := by
      rw [List.replicate_succ, List.set_append_right _ _ (by simp)]; simp
    rw [t1, er]
    generalize hL : (l1 ++ x :: l2).length = L at *
    generalize hdm : (l1.map (fun b => [T.v (.int .u64 (b : Nat))]) ++ List.replicate (l2.length + 1) [T.v (.int .u64 (0 : Nat))]) = dm at *
    simp only [go_sem, d1, hg, ↓reduceIte, Nat.reduceEqDiff, Nat.reduceAdd, Nat.reduceLeDiff, reduceCtorEq, Nat.reduceLT, Int.reduceLT, Int.reduceLE, Int.reduceEq, Int.reduceToNat, Nat.reduceMul]
    refine Cl_plain (f_math_Float64bits x) ?_
    simp only [go_sem, hq, hset, ei, ib, ↓reduceIte, Nat.reduceEqDiff, Nat.reduceAdd, Nat.reduceLeDiff, reduceCtorEq, Nat.reduceLT, Int.reduceLT, Int.reduceLE, Int.reduceEq, Int.reduceToNat, Nat.reduceMul]
    refine rd_of (l1.length + 1) (by first | omega | (simp only; omega)) h ?_
    simp only [t3, er2]
    exact (subL [] [] (by simp [envS, go_sem, wkV, wkL, AV.ids, idsL, keysOf, ren, stoOf, slTrees, AV.asOwn, rowPart, AV.isNil, shA, rowsT, cellsT, cellT, wkLL] <;> assumption) (by simp [stoS, go_sem, wkV, wkL, wkO, AV.ids, Ob.ids, idsL, keysOf, ren, AV.one, stoOf, slTrees, AV.asOwn, rowPart, AV.isNil, shA, rowsT, cellsT, cellT, wkLL] <;> assumption) (by simp [keysOf, ren]) (by simp [stoOf, keysOf, ren]) (by simp [keysOf, ren]) (by simp [keysOf, ren]))
  · obtain rfl : i = l.length := by omega
    have d1 : decide (l.length < l.length) = false := decide_eq_false (by omega)
    rw [Nat.sub_self, List.take_length, List.replicate_zero, List.append_nil]
    simp only [go_sem, d1, ↓reduceIte, Nat.reduceEqDiff, Nat.reduceAdd, Nat.reduceLeDiff, reduceCtorEq, Nat.reduceLT, Int.reduceLT, Int.reduceLE, Int.reduceEq, Int.reduceToNat, Nat.reduceMul]
    refine wends2 [] [103] (by first | exact Or.inl rfl | exact Or.inr rfl) ?_ (by simp [AV.ids, idsL]) (by simp [stoS]) (by simp [keysOf]) (by simp [stoOf, keysOf] <;> assumption) (by simp [keysOf]) (by simp [keysOf])
    simp only [go_sem, r_floats_Bits, exists_eq_left', Option.some.injEq, ↓reduceIte, Nat.reduceEqDiff, Nat.reduceAdd, Nat.reduceLeDiff, reduceCtorEq, Nat.reduceLT, Int.reduceLT, Int.reduceLE, Int.reduceEq, Int.reduceToNat, Nat.reduceMul]
    simp [wkV, wkL, slTrees, AV.asOwn, rowPart, stoOf, AV.isNil, shA, rowsT, cellsT, cellT, List.take_of_length_le]

theorem f_ref04_Same (a b : List Nat) (hl : a.length ≤ 1000000) : Meets Try.prog E0 n_ref04_Same [.t (flsT a), .t (flsT b)] [] (Bo (decide (a = b))) [] := by
  unfold flsT
  refine m_ref04_Same (by simp) (shut0 rfl) (shut0 rfl) (by simp) (by simp [keysOf]) ?_
  have hza : (List.map row_float64 a).length = a.length := List.length_map _
  have hzb : (List.map row_float64 b).length = b.length := List.length_map _
  by_cases hlen : a.length = b.length
  · have d0 : decide (a.length = b.length) = true := decide_eq_true hlen
    simp only [go_sem, s_ref04_Same, d0, ↓reduceIte, Nat.reduceEqDiff, Nat.reduceAdd, Nat.reduceLeDiff, reduceCtorEq, Nat.reduceLT, Int.reduceLT, Int.reduceLE, Int.reduceEq, Int.reduceToNat, Nat.reduceMul]
    refine W_loop (fun i : Nat => a.length - i) (fun i => i ≤ a.length ∧ a.take i = b.take i)
      (fun i => [(0, .t (.sl 1 (a.map row_float64))), (1, .t (.sl 1 (b.map row_float64))), (5, I i)]) (fun i => []) 0 ⟨Nat.zero_le _, by simp⟩ (subL [] [] (by simp [envS, go_sem, wkV, wkL, AV.ids, idsL, keysOf, ren, stoOf, slTrees, AV.asOwn, rowPart, AV.isNil, shA, rowsT, cellsT, cellT, wkLL] <;> assumption) (by simp [stoS, go_sem, wkV, wkL, wkO, AV.ids, Ob.ids, idsL, keysOf, ren, AV.one, stoOf, slTrees, AV.asOwn, rowPart, AV.isNil, shA, rowsT, cellsT, cellT, wkLL] <;> assumption) (by simp [keysOf, ren]) (by simp [stoOf, keysOf, ren]) (by simp [keysOf, ren]) (by simp [keysOf, ren])) ?_
    rintro i ⟨hi, ht⟩
    by_cases h : i < a.length
    · have d1 : decide (i < a.length) = true := decide_eq_true h
      obtain ⟨x, hx, _⟩ := get_some h
      obtain ⟨y, hy, _⟩ := get_some (l := b) (k := i) (by omega)
      have hg1 : (a.map row_float64)[i]? = some [.v (.float .f64 x)] := by rw [List.getElem?_map, hx]; rfl
      have hg2 : (b.map row_float64)[i]? = some [.v (.float .f64 y)] := by rw [List.getElem?_map, hy]; rfl
      have ei : IntKind.i64.wrap ((i : Int) + 1) = ((i + 1 : Nat) : Int) := wadd1 rfl (by omega)
      generalize a.map row_float64 = am at *
      generalize b.map row_float64 = bm at *
      by_cases hxy : x = y
      · have d2 : decide (x = y) = true := decide_eq_true hxy
        simp only [go_sem, d1, hza, hg1, hg2, ↓reduceIte, Nat.reduceEqDiff, Nat.reduceAdd, Nat.reduceLeDiff, reduceCtorEq, Nat.reduceLT, Int.reduceLT, Int.reduceLE, Int.reduceEq, Int.reduceToNat, Nat.reduceMul]
        refine Cl_plain (f_math_Float64bits x) ?_
        simp only [go_sem, hg1, hg2, ↓reduceIte, Nat.reduceEqDiff, Nat.reduceAdd, Nat.reduceLeDiff, reduceCtorEq, Nat.reduceLT, Int.reduceLT, Int.reduceLE, Int.reduceEq, Int.reduceToNat, Nat.reduceMul]
        refine Cl_plain (f_math_Float64bits y) ?_
        simp only [go_sem, d2, ↓reduceIte, Nat.reduceEqDiff, Nat.reduceAdd, Nat.reduceLeDiff, reduceCtorEq, Nat.reduceLT, Int.reduceLT, Int.reduceLE, Int.reduceEq, Int.reduceToNat, Nat.reduceMul]
        ((try (with_reducible refine R_fin (by repeat' (first | exact okp0 | refine okp rfl rfl rfl ?_)) ?_)); (try simp only [go_sem, d2, ei, ↓reduceIte, Nat.reduceEqDiff, Nat.reduceAdd, Nat.reduceLeDiff, reduceCtorEq, Nat.reduceLT, Int.reduceLT, Int.reduceLE, Int.reduceEq, Int.reduceToNat, Nat.reduceMul]))
        refine rd_of (i + 1) (by first | omega | (simp only; omega)) ⟨h, by rw [List.take_add_one, List.take_add_one, ht, hx, hy, hxy]⟩ (subL [] [] (by simp [envS, go_sem, wkV, wkL, AV.ids, idsL, keysOf, ren, stoOf, slTrees, AV.asOwn, rowPart, AV.isNil, shA, rowsT, cellsT, cellT, wkLL] <;> assumption) (by simp [stoS, go_sem, wkV, wkL, wkO, AV.ids, Ob.ids, idsL, keysOf, ren, AV.one, stoOf, slTrees, AV.asOwn, rowPart, AV.isNil, shA, rowsT, cellsT, cellT, wkLL] <;> assumption) (by simp [keysOf, ren]) (by simp [stoOf, keysOf, ren]) (by simp [keysOf, ren]) (by simp [keysOf, ren]))
      · have d2 : decide (x = y) = false := decide_eq_false hxy
        have hne : decide (a = b) = false := decide_eq_false fun e => hxy (by rw [e, hy] at hx; injection hx with hx; exact hx.symm)
        rw [hne]
        simp only [go_sem, d1, hza, hg1, hg2, ↓reduceIte, Nat.reduceEqDiff, Nat.reduceAdd, Nat.reduceLeDiff, reduceCtorEq, Nat.reduceLT, Int.reduceLT, Int.reduceLE, Int.reduceEq, Int.reduceToNat, Nat.reduceMul]
        refine Cl_plain (f_math_Float64bits x) ?_
        simp only [go_sem, hg1, hg2, ↓reduceIte, Nat.reduceEqDiff, Nat.reduceAdd, Nat.reduceLeDiff, reduceCtorEq, Nat.reduceLT, Int.reduceLT, Int.reduceLE, Int.reduceEq, Int.reduceToNat, Nat.reduceMul]
        refine Cl_plain (f_math_Float64bits y) ?_
        simp only [go_sem, d2, ↓reduceIte, Nat.reduceEqDiff, Nat.reduceAdd, Nat.reduceLeDiff, reduceCtorEq, Nat.reduceLT, Int.reduceLT, Int.reduceLE, Int.reduceEq, Int.reduceToNat, Nat.reduceMul]
        ((try (with_reducible refine R_fin (by repeat' (first | exact okp0 | refine okp rfl rfl rfl ?_)) ?_)); (try simp only [go_sem, d2, ei, ↓reduceIte, Nat.reduceEqDiff, Nat.reduceAdd, Nat.reduceLeDiff, reduceCtorEq, Nat.reduceLT, Int.reduceLT, Int.reduceLE, Int.reduceEq, Int.reduceToNat, Nat.reduceMul]))
        refine wends (by first | exact Or.inl rfl | exact Or.inr rfl) ?_ (by first | rfl | simp [AV.ids, idsL])
        simp only [go_sem, r_ref04_Same, ↓reduceIte, Nat.reduceEqDiff, Nat.reduceAdd, Nat.reduceLeDiff, reduceCtorEq, Nat.reduceLT, Int.reduceLT, Int.reduceLE, Int.reduceEq, Int.reduceToNat, Nat.reduceMul]
    · obtain rfl : i = a.length := by omega
      have d1 : decide (a.length < a.length) = false := decide_eq_false (by omega)
      have heq : decide (a = b) = true := decide_eq_true (by rw [List.take_length, hlen, List.take_length] at ht; exact ht)
      rw [heq]
      simp only [go_sem, d1, hza, ↓reduceIte, Nat.reduceEqDiff, Nat.reduceAdd, Nat.reduceLeDiff, reduceCtorEq, Nat.reduceLT, Int.reduceLT, Int.reduceLE, Int.reduceEq, Int.reduceToNat, Nat.reduceMul]
      refine wends (by first | exact Or.inl rfl | exact Or.inr rfl) ?_ (by first | rfl | simp [AV.ids, idsL])
      simp only [go_sem, r_ref04_Same, ↓reduceIte, Nat.reduceEqDiff, Nat.reduceAdd, Nat.reduceLeDiff, reduceCtorEq, Nat.reduceLT, Int.reduceLT, Int.reduceLE, Int.reduceEq, Int.reduceToNat, Nat.reduceMul]
  · have d0 : decide (a.length = b.length) = false := decide_eq_false hlen
    have hne : decide (a = b) = false := decide_eq_false fun e => hlen (by rw [e])
    rw [hne]
    simp only [go_sem, s_ref04_Same, d0, ↓reduceIte, Nat.reduceEqDiff, Nat.reduceAdd, Nat.reduceLeDiff, reduceCtorEq, Nat.reduceLT, Int.reduceLT, Int.reduceLE, Int.reduceEq, Int.reduceToNat, Nat.reduceMul]
    refine wends (by first | exact Or.inl rfl | exact Or.inr rfl) ?_ (by first | rfl | simp [AV.ids, idsL])
    simp only [go_sem, r_ref04_Same, ↓reduceIte, Nat.reduceEqDiff, Nat.reduceAdd, Nat.reduceLeDiff, reduceCtorEq, Nat.reduceLT, Int.reduceLT, Int.reduceLE, Int.reduceEq, Int.reduceToNat, Nat.reduceMul]

set_option maxHeartbeats 1000000 in
theorem f_ref04_Sorted (l : List Nat) (hl : l.length ≤ 1000000) (hD : ∀ x ∈ l, x < 18446744073709551616) : Meets Try.prog E0 n_ref04_Sorted [.t (flsT l)] [] (.t (flsT (isrt (lt_float64 flCmp) l))) [] := by
  unfold flsT
  refine m_ref04_Sorted (by simp) (shut0 rfl) (shut0 rfl) (by simp) (by simp [keysOf]) ?_
  have hz : (List.map row_float64 l).length = l.length := List.length_map _
  simp only [go_sem, s_ref04_Sorted, ↓reduceIte, Nat.reduceEqDiff, Nat.reduceAdd, Nat.reduceLeDiff, reduceCtorEq, Nat.reduceLT, Int.reduceLT, Int.reduceLE, Int.reduceEq, Int.reduceToNat, Nat.reduceMul]
  refine W_loop (fun i : Nat => l.length - i) (fun i => i ≤ l.length)
    (fun i => [(0, .t (.sl 1 (l.map row_float64))), (3, .own 999 1 0 (isrt (lt_float64 flCmp) (l.take i)).length (!(isrt (lt_float64 flCmp) (l.take i)).isEmpty)), (4, I i)])
    (fun i => [(999, .row 1 (!(isrt (lt_float64 flCmp) (l.take i)).isEmpty) ((isrt (lt_float64 flCmp) (l.take i)).map row_float64))])
    0 (Nat.zero_le _) ?_ ?_
  · rw [show isrt (lt_float64 flCmp) (l.take 0) = [] from rfl]
    exact (subL [(999, 888)] [] (by simp [envS, go_sem, wkV, wkL, AV.ids, idsL, keysOf, ren, stoOf, slTrees, AV.asOwn, rowPart, AV.isNil, shA, rowsT, cellsT, cellT, wkLL] <;> assumption) (by simp [stoS, go_sem, wkV, wkL, wkO, AV.ids, Ob.ids, idsL, keysOf, ren, AV.one, stoOf, slTrees, AV.asOwn, rowPart, AV.isNil, shA, rowsT, cellsT, cellT, wkLL] <;> assumption) (by simp [keysOf, ren]) (by simp [stoOf, keysOf, ren]) (by simp [keysOf, ren]) (by simp [keysOf, ren]))
  intro i hi
  by_cases h : i < l.length
  · have d1 : decide (i < l.length) = true := decide_eq_true h
    obtain ⟨x, hget, _⟩ := get_some h
    have hx : x < 18446744073709551616 := hD x (List.mem_of_getElem? hget)
    have hg : (l.map row_float64)[i]? = some [.v (.float .f64 x)] := by rw [List.getElem?_map, hget]; rfl
    have ei : IntKind.i64.wrap ((i : Int) + 1) = ((i + 1 : Nat) : Int) := wadd1 rfl (by omega)
    have hsucc : isrt (lt_float64 flCmp) (l.take (i + 1)) = insR (lt_float64 flCmp) x (isrt (lt_float64 flCmp) (l.take i)) := by rw [List.take_add_one, hget, Option.toList_some, isrt_snoc]
    have hlen : (isrt (lt_float64 flCmp) (l.take i)).length ≤ i := by rw [isrt_len, List.length_take]; omega
    have hAD : ∀ y ∈ isrt (lt_float64 flCmp) (l.take i), y < 18446744073709551616 := fun y hy => hD y (List.mem_of_mem_take ((isrt_mem _ _ _).1 hy))
    generalize hA : isrt (lt_float64 flCmp) (l.take i) = A at *
    generalize l.map row_float64 = lm at *
    simp only [go_sem, d1, hz, ↓reduceIte, Nat.reduceEqDiff, Nat.reduceAdd, Nat.reduceLeDiff, reduceCtorEq, Nat.reduceLT, Int.reduceLT, Int.reduceLE, Int.reduceEq, Int.reduceToNat, Nat.reduceMul]
    refine W_loop (fun k : Nat => k) (fun k => k ≤ A.length ∧ insR (lt_float64 flCmp) x (A.take k) ++ A.drop k = insR (lt_float64 flCmp) x A)
      (fun k => [(0, .t (.sl 1 lm)), (3, .own 999 1 0 A.length (!A.isEmpty)), (4, I i), (5, I k)])
      (fun k => [(999, .row 1 (!A.isEmpty) (A.map row_float64))])
      A.length ⟨Nat.le_refl _, by simp⟩ (subL [] [] (by simp [envS, go_sem, wkV, wkL, AV.ids, idsL, keysOf, ren, stoOf, slTrees, AV.asOwn, rowPart, AV.isNil, shA, rowsT, cellsT, cellT, wkLL] <;> assumption) (by simp [stoS, go_sem, wkV, wkL, wkO, AV.ids, Ob.ids, idsL, keysOf, ren, AV.one, stoOf, slTrees, AV.asOwn, rowPart, AV.isNil, shA, rowsT, cellsT, cellT, wkLL] <;> assumption) (by simp [keysOf, ren]) (by simp [stoOf, keysOf, ren]) (by simp [keysOf, ren]) (by simp [keysOf, ren])) ?_
    rintro k ⟨hk, hins⟩
    have g1 : (0 : Int) ≤ (k : Int) := by omega
    have g2 : (k : Int) ≤ (A.length : Int) := by omega
    have eN : ((A.length : Int) - (k : Int)).toNat = A.length - k := by omega
    have c1 : k + (A.length - k) ≤ A.length := by omega
    have c2 : k * 8 ≤ 2 ^ 47 := by omega
    have c3 : k < 2 ^ 47 := by omega
    have c4 : (k + 1) * 8 ≤ 2 ^ 47 := by omega
    have c5 : k + 1 < 2 ^ 47 := by omega
    have c6 : (k + 1 + (A.length - k)) * 8 ≤ 2 ^ 47 := by omega
    have c7 : k + 1 + (A.length - k) < 2 ^ 47 := by omega
    have hT : (A.map row_float64).take k = (A.take k).map row_float64 := List.map_take.symm
    have hTl : (A.take k).length = k := by rw [List.length_take]; omega
    have hDr : ((A.map row_float64).drop k).take (A.length - k) = (A.drop k).map row_float64 := by rw [← List.map_drop, List.take_of_length_le (by simp)]
    have hDl : (A.drop k).length = A.length - k := by simp
    have hil : (insR (lt_float64 flCmp) x A).length = k + 1 + (A.length - k) := by rw [insR_len]; omega
    have hie : (insR (lt_float64 flCmp) x A).isEmpty = false := by
      cases hx : insR (lt_float64 flCmp) x A with
      | nil => rw [hx] at hil; simp at hil; omega
      | cons _ _ => rfl
    by_cases hk0 : k = 0
    · have d2 : decide ((0 : Int) < (k : Int)) = false := decide_eq_false (by omega)
      have hfin : A.take k ++ x :: A.drop k = insR (lt_float64 flCmp) x A := by rw [← hins, hk0]; rfl
      have em : (A.take k).map row_float64 ++ [[T.v (.float .f64 x)]] ++ (A.drop k).map row_float64 = (insR (lt_float64 flCmp) x A).map row_float64 := by rw [← hfin]; simp [row_float64]
      simp only [go_sem, d2, g1, g2, eN, hk, hT, hTl, c2, c3, ↓reduceIte, Nat.reduceEqDiff, Nat.reduceAdd, Nat.reduceLeDiff, reduceCtorEq, Nat.reduceLT, Int.reduceLT, Int.reduceLE, Int.reduceEq, Int.reduceToNat, Nat.reduceMul]
      simp only [go_sem, hg, hTl, c4, c5, g1, g2, eN, c1, hDr, hDl, c6, c7, em, ↓reduceIte, Nat.reduceEqDiff, Nat.reduceAdd, Nat.reduceLeDiff, reduceCtorEq, Nat.reduceLT, Int.reduceLT, Int.reduceLE, Int.reduceEq, Int.reduceToNat, Nat.reduceMul]
      ((try (with_reducible refine R_fin (by repeat' (first | exact okp0 | refine okp rfl rfl rfl ?_)) ?_)); (try simp only [go_sem, ei, hg, hTl, c4, c5, g1, g2, eN, c1, hDr, hDl, c6, c7, em, ↓reduceIte, Nat.reduceEqDiff, Nat.reduceAdd, Nat.reduceLeDiff, reduceCtorEq, Nat.reduceLT, Int.reduceLT, Int.reduceLE, Int.reduceEq, Int.reduceToNat, Nat.reduceMul]))
      refine rd_of (i + 1) (by first | omega | (simp only; omega)) (by first | omega | (simp only; omega)) ?_
      rw [hsucc, hil, hie]
      exact (subL [(999, 142)] [] (by simp [envS, go_sem, wkV, wkL, AV.ids, idsL, keysOf, ren, stoOf, slTrees, AV.asOwn, rowPart, AV.isNil, shA, rowsT, cellsT, cellT, wkLL] <;> assumption) (by simp [stoS, go_sem, wkV, wkL, wkO, AV.ids, Ob.ids, idsL, keysOf, ren, AV.one, stoOf, slTrees, AV.asOwn, rowPart, AV.isNil, shA, rowsT, cellsT, cellT, wkLL] <;> assumption) (by simp [keysOf, ren]) (by simp [stoOf, keysOf, ren]) (by simp [keysOf, ren]) (by simp [keysOf, ren]))
    · have d2 : decide ((0 : Int) < (k : Int)) = true := decide_eq_true (by omega)
      obtain ⟨j, rfl⟩ : ∃ j, k = j + 1 := ⟨k - 1, by omega⟩
      obtain ⟨y, hy, _⟩ := get_some (l := A) (k := j) (by omega)
      have hym : y < 18446744073709551616 := hAD y (List.mem_of_getElem? hy)
      have hgy : (A.map row_float64)[j]? = some [.v (.float .f64 y)] := by rw [List.getElem?_map, hy]; rfl
      have ek : IntKind.i64.wrap (((j + 1 : Nat) : Int) - 1) = (j : Int) := wsub1 rfl (by omega)
      have ib : ((j : Nat) : Int) < (A.length : Int) := by omega
      have hAe : A.isEmpty = false := by cases A with | nil => simp at hy | cons _ _ => rfl
      have hcc := f_ref04_Cmp y x hym hx
      have hsn : A.take (j + 1) = A.take j ++ [y] := by rw [List.take_add_one, hy]; rfl
      rw [hsn, insR_snoc, fl_lt] at hins
      have hcmp : decide (0 < flCmp y x) = decide (flOrd x < flOrd y) := by
        unfold flCmp; rw [decide_eq_decide]; split
        · omega
        · split <;> omega
      rw [hAe]
      cases hlt : decide (flOrd x < flOrd y)
      · rw [hlt, if_neg (by decide)] at hins
        rw [hlt] at hcmp
        have hfin : A.take (j + 1) ++ x :: A.drop (j + 1) = insR (lt_float64 flCmp) x A := by rw [← hins, hsn]; simp
        have em : (A.take (j + 1)).map row_float64 ++ [[T.v (.float .f64 x)]] ++ (A.drop (j + 1)).map row_float64 = (insR (lt_float64 flCmp) x A).map row_float64 := by rw [← hfin]; simp [row_float64]
        clear hins hfin hsn
        generalize hk1 : j + 1 = k at *
        have hAml : (A.map row_float64).length = A.length := List.length_map _
        generalize hAm : A.map row_float64 = Am at *
        simp only [go_sem, d2, ek, ib, hgy, hg, ↓reduceIte, Nat.reduceEqDiff, Nat.reduceAdd, Nat.reduceLeDiff, reduceCtorEq, Nat.reduceLT, Int.reduceLT, Int.reduceLE, Int.reduceEq, Int.reduceToNat, Nat.reduceMul]
        refine Cl_plain hcc ?_
        simp only [go_sem, hAml, hcmp, d2, g1, g2, eN, hk, hT, hTl, c2, c3, ↓reduceIte, Nat.reduceEqDiff, Nat.reduceAdd, Nat.reduceLeDiff, reduceCtorEq, Nat.reduceLT, Int.reduceLT, Int.reduceLE, Int.reduceEq, Int.reduceToNat, Nat.reduceMul]
        ((try (with_reducible refine R_fin (by repeat' (first | exact okp0 | refine okp rfl rfl rfl ?_)) ?_)); (try simp only [go_sem, hAml, hcmp, d2, g1, g2, eN, hk, hT, hTl, c2, c3, ↓reduceIte, Nat.reduceEqDiff, Nat.reduceAdd, Nat.reduceLeDiff, reduceCtorEq, Nat.reduceLT, Int.reduceLT, Int.reduceLE, Int.reduceEq, Int.reduceToNat, Nat.reduceMul]))
        try simp only [go_sem, hAml, hg, hTl, c4, c5, g1, g2, eN, c1, hDr, hDl, c6, c7, em, ↓reduceIte, Nat.reduceEqDiff, Nat.reduceAdd, Nat.reduceLeDiff, reduceCtorEq, Nat.reduceLT, Int.reduceLT, Int.reduceLE, Int.reduceEq, Int.reduceToNat, Nat.reduceMul]
        ((try (with_reducible refine R_fin (by repeat' (first | exact okp0 | refine okp rfl rfl rfl ?_)) ?_)); (try simp only [go_sem, hAml, ei, hg, hTl, c4, c5, g1, g2, eN, c1, hDr, hDl, c6, c7, em, ↓reduceIte, Nat.reduceEqDiff, Nat.reduceAdd, Nat.reduceLeDiff, reduceCtorEq, Nat.reduceLT, Int.reduceLT, Int.reduceLE, Int.reduceEq, Int.reduceToNat, Nat.reduceMul]))
        refine rd_of (i + 1) (by first | omega | (simp only; omega)) (by first | omega | (simp only; omega)) ?_
        rw [hsucc, hil, hie]
        exact (subL [(999, 142)] [] (by simp [envS, go_sem, wkV, wkL, AV.ids, idsL, keysOf, ren, stoOf, slTrees, AV.asOwn, rowPart, AV.isNil, shA, rowsT, cellsT, cellT, wkLL] <;> assumption) (by simp [stoS, go_sem, wkV, wkL, wkO, AV.ids, Ob.ids, idsL, keysOf, ren, AV.one, stoOf, slTrees, AV.asOwn, rowPart, AV.isNil, shA, rowsT, cellsT, cellT, wkLL] <;> assumption) (by simp [keysOf, ren]) (by simp [stoOf, keysOf, ren]) (by simp [keysOf, ren]) (by simp [keysOf, ren]))
      · rw [hlt, if_pos rfl] at hins
        rw [hlt] at hcmp
        generalize hAm : A.map row_float64 = Am at *
        simp only [go_sem, d2, ek, ib, hgy, hg, ↓reduceIte, Nat.reduceEqDiff, Nat.reduceAdd, Nat.reduceLeDiff, reduceCtorEq, Nat.reduceLT, Int.reduceLT, Int.reduceLE, Int.reduceEq, Int.reduceToNat, Nat.reduceMul]
        refine Cl_plain hcc ?_
        simp only [go_sem, hcmp, d2, ek, ↓reduceIte, Nat.reduceEqDiff, Nat.reduceAdd, Nat.reduceLeDiff, reduceCtorEq, Nat.reduceLT, Int.reduceLT, Int.reduceLE, Int.reduceEq, Int.reduceToNat, Nat.reduceMul]
        ((try (with_reducible refine R_fin (by repeat' (first | exact okp0 | refine okp rfl rfl rfl ?_)) ?_)); (try simp only [go_sem, hcmp, d2, ek, ↓reduceIte, Nat.reduceEqDiff, Nat.reduceAdd, Nat.reduceLeDiff, reduceCtorEq, Nat.reduceLT, Int.reduceLT, Int.reduceLE, Int.reduceEq, Int.reduceToNat, Nat.reduceMul]))
        refine rd_of j (by first | omega | (simp only; omega)) ⟨by omega, ?_⟩ ?_
        · rw [← hins, List.append_assoc]
          congr 1
          obtain ⟨hj, e⟩ := List.getElem?_eq_some_iff.1 hy
          rw [List.drop_eq_getElem_cons hj, e]; rfl
        · exact (subL [] [] (by simp [envS, go_sem, wkV, wkL, AV.ids, idsL, keysOf, ren, stoOf, slTrees, AV.asOwn, rowPart, AV.isNil, shA, rowsT, cellsT, cellT, wkLL] <;> assumption) (by simp [stoS, go_sem, wkV, wkL, wkO, AV.ids, Ob.ids, idsL, keysOf, ren, AV.one, stoOf, slTrees, AV.asOwn, rowPart, AV.isNil, shA, rowsT, cellsT, cellT, wkLL] <;> assumption) (by simp [keysOf, ren]) (by simp [stoOf, keysOf, ren]) (by simp [keysOf, ren]) (by simp [keysOf, ren]))
  · obtain rfl : i = l.length := by omega
    have d1 : decide (l.length < l.length) = false := decide_eq_false (by omega)
    rw [List.take_length]
    generalize isrt (lt_float64 flCmp) l = s at *
    cases s with
    | nil =>
      simp only [go_sem, d1, hz, ↓reduceIte, Nat.reduceEqDiff, Nat.reduceAdd, Nat.reduceLeDiff, reduceCtorEq, Nat.reduceLT, Int.reduceLT, Int.reduceLE, Int.reduceEq, Int.reduceToNat, Nat.reduceMul]
      refine wends2 [] [] (by first | exact Or.inl rfl | exact Or.inr rfl) ?_ (by simp [AV.ids, idsL]) (by simp [stoS]) (by simp [keysOf]) (by simp [stoOf, keysOf] <;> assumption) (by simp [keysOf]) (by simp [keysOf])
      simp only [go_sem, r_ref04_Sorted, exists_eq_left', Option.some.injEq, ↓reduceIte, Nat.reduceEqDiff, Nat.reduceAdd, Nat.reduceLeDiff, reduceCtorEq, Nat.reduceLT, Int.reduceLT, Int.reduceLE, Int.reduceEq, Int.reduceToNat, Nat.reduceMul]
      simp [wkV, wkL, slTrees, AV.asOwn, rowPart, stoOf, AV.isNil, shA, rowsT, cellsT, cellT]
    | cons a s =>
      simp only [go_sem, d1, hz, ↓reduceIte, Nat.reduceEqDiff, Nat.reduceAdd, Nat.reduceLeDiff, reduceCtorEq, Nat.reduceLT, Int.reduceLT, Int.reduceLE, Int.reduceEq, Int.reduceToNat, Nat.reduceMul]
      refine wends2 [] [999] (by first | exact Or.inl rfl | exact Or.inr rfl) ?_ (by simp [AV.ids, idsL]) (by simp [stoS]) (by simp [keysOf]) (by simp [stoOf, keysOf] <;> assumption) (by simp [keysOf]) (by simp [keysOf])
      simp only [go_sem, r_ref04_Sorted, exists_eq_left', Option.some.injEq, ↓reduceIte, Nat.reduceEqDiff, Nat.reduceAdd, Nat.reduceLeDiff, reduceCtorEq, Nat.reduceLT, Int.reduceLT, Int.reduceLE, Int.reduceEq, Int.reduceToNat, Nat.reduceMul]
      simp [wkV, wkL, slTrees, AV.asOwn, rowPart, stoOf, AV.isNil, shA, rowsT, cellsT, cellT, List.take_of_length_le]

end Go.Proofs.Ytgablplpdocniaa
