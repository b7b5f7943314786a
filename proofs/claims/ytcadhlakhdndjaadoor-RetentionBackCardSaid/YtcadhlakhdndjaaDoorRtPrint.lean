/- Archives as text, both ways. No statement of the seat is proved here. -/
import Derived.Test.YtcadhlakhdndjaaDoorRtDigits
import Derived.Test.YtcadhlakhdndjaaDoorRtParse
import Derived.Test.YtcadhlakhdndjaaDoorLbJoin
import Derived.Test.YtcadhlakhdndjaaDoorSxH
set_option linter.unusedSimpArgs false
set_option linter.unusedVariables false
namespace Go.Proofs.YtcadhlakhdndjaaDoor
open Go Go.Sx

/-- An archive as text. -/
def rtRungT (r : Rung) : List UInt8 := Lib.itoa r.1 ++ (58 :: Lib.itoa r.2)

def rtText (l : List Rung) : List UInt8 := Lib.join (l.map rtRungT) [44]

/-- Archives as text; how it fails. -/
def rtPrint (l : List Rung) : List UInt8 × Int := if togB l then (rtText l, 0) else ([], 1)

theorem join_one (x s : List UInt8) : Lib.join [x] s = x := by simp [Lib.join, List.intercalate, List.intersperse]

theorem join_snoc (s x : List UInt8) : ∀ xs : List (List UInt8), xs ≠ [] → Lib.join (xs ++ [x]) s = Lib.join xs s ++ (s ++ x)
  | [], h => absurd rfl h
  | [a], _ => by simp [Lib.join, List.intercalate, List.intersperse]
  | a :: b :: r, _ => by
    have ih := join_snoc s x (b :: r) (by simp)
    simp only [Lib.join, List.intercalate, List.cons_append, List.intersperse, List.flatten_cons] at ih ⊢
    rw [ih]
    simp

theorem itoa_nat (n : Nat) : Lib.itoa (n : Int) = Lib.decDigits n := by
  unfold Lib.itoa
  rw [if_neg (by omega), Int.toNat_natCast]

theorem sz_nat {r : Rung} (h : szB r = true) : ∃ n m : Nat, r = ((n : Int), (m : Int)) ∧ (1 ≤ n ∧ n ≤ 86400) ∧ 1 ≤ m ∧ m ≤ 400 := by
  have := szB_iff.1 h
  exact ⟨r.1.toNat, r.2.toNat, Prod.ext (by simp only; omega) (by simp only; omega), by omega, by omega⟩

theorem rungT_len {r : Rung} (h : szB r = true) : (rtRungT r).length ≤ 86803 := by
  obtain ⟨n, m, rfl, hn, hm⟩ := sz_nat h
  unfold rtRungT
  simp only [itoa_nat, List.length_append, List.length_cons]
  have := (dec_len n).1
  have := (dec_len m).1
  omega

theorem text_succ {l : List Rung} {i : Nat} {r : Rung} (h : l[i]? = some r) : rtText (l.take (i + 1)) = if i = 0 then rtRungT r else rtText (l.take i) ++ (44 :: rtRungT r) := by
  unfold rtText
  rw [List.take_add_one, h, Option.toList_some, List.map_append]
  obtain ⟨hi, _⟩ := List.getElem?_eq_some_iff.1 h
  by_cases h0 : i = 0
  · subst h0
    simp [join_one]
  · rw [if_neg h0, List.map_cons, List.map_nil, join_snoc]
    · rfl
    · intro e
      have := congrArg List.length e
      rw [List.length_map, List.length_take] at this
      simp only [List.length_nil] at this
      omega

theorem text_len {l : List Rung} (h : l.all szB = true) : ∀ i : Nat, (rtText (l.take i)).length ≤ 86804 * i
  | 0 => by simp [rtText, Lib.join, List.intercalate]
  | i + 1 => by
    have ih := text_len h i
    cases hr : l[i]? with
    | none =>
      have e : l.take (i + 1) = l.take i := by rw [List.take_add_one, hr, Option.toList_none, List.append_nil]
      rw [e]; omega
    | some r =>
      have hl := rungT_len (all_get h hr)
      rw [text_succ hr]
      split
      · omega
      · simp only [List.length_append, List.length_cons]; omega

theorem f_ref10_Print (l : List Rung) (hl : l.length ≤ 1000000) : Meets Tryd.prog E0 n_ref10_Print [slL l] [] (.tp [Str (toB (rtPrint l).1), I (rtPrint l).2]) [] := by
  refine m_ref10_Print (by simp) (shut0 rfl) (shut0 rfl) (by simp) (by simp [keysOf]) ?_
  have hT := f_ref10_Together l (by omega)
  unfold rtPrint
  simp only [go_sem, s_ref10_Print, ↓reduceIte, Nat.reduceEqDiff, Nat.reduceAdd, Nat.reduceLeDiff, reduceCtorEq, Nat.reduceLT, Int.reduceLT, Int.reduceLE, Int.reduceEq, Int.reduceToNat, Nat.reduceMul]
  refine Cl_plain hT ?_
  cases ht : togB l
  · rw [if_neg (by decide), show toB [] = bs [] from rfl]
    simp only [go_sem, ↓reduceIte, Nat.reduceEqDiff, Nat.reduceAdd, Nat.reduceLeDiff, reduceCtorEq, Nat.reduceLT, Int.reduceLT, Int.reduceLE, Int.reduceEq, Int.reduceToNat, Nat.reduceMul]
    refine wends (by first | exact Or.inl rfl | exact Or.inr rfl) ?_ (by first | rfl | simp [AV.ids, idsL])
    simp only [go_sem, r_ref10_Print, ↓reduceIte, Nat.reduceEqDiff, Nat.reduceAdd, Nat.reduceLeDiff, reduceCtorEq, Nat.reduceLT, Int.reduceLT, Int.reduceLE, Int.reduceEq, Int.reduceToNat, Nat.reduceMul]
  · rw [if_pos rfl]
    have ha := tog_all ht
    have hlen := tog_len ht
    simp only [go_sem, ↓reduceIte, Nat.reduceEqDiff, Nat.reduceAdd, Nat.reduceLeDiff, reduceCtorEq, Nat.reduceLT, Int.reduceLT, Int.reduceLE, Int.reduceEq, Int.reduceToNat, Nat.reduceMul]
    refine W_loop (fun i : Nat => l.length - i) (fun i => i ≤ l.length)
      (fun i => [(0, slL l), (4, Str (toB (rtText (l.take i)))), (5, I i)]) (fun _ => []) 0 (Nat.zero_le _) ?_ ?_
    · simp only [List.take_zero, show toB (rtText []) = bs [] from rfl]
      exact (subL [] [] (by simp [envS, go_sem, wkV, wkL, AV.ids, idsL, keysOf, ren, stoOf, slTrees, AV.asOwn, rowPart, AV.isNil, rowS] <;> assumption) (by simp [stoS, go_sem, wkV, wkL, wkO, AV.ids, Ob.ids, idsL, keysOf, ren, AV.one, stoOf, slTrees, AV.asOwn, rowPart, AV.isNil, rowS] <;> assumption) (by simp [keysOf, ren]) (by simp [stoOf, keysOf, ren]) (by simp [keysOf, ren]) (by simp [keysOf, ren]))
    · intro i hi
      by_cases hil : i < l.length
      · have d0 : decide (i < l.length) = true := decide_eq_true hil
        obtain ⟨r, hr⟩ := get_of_lt hil
        obtain ⟨n, m, rfl, hn, hm⟩ := sz_nat (all_get ha hr)
        have ts := text_succ hr
        have tl := text_len ha i
        have bn := (dec_len n).1
        have bm := (dec_len m).1
        have e1 : n % 18446744073709551616 = n := by omega
        have e2 : m % 18446744073709551616 = m := by omega
        have f1 := f_ref03_Digits n (by omega)
        have f2 := f_ref03_Digits m (by omega)
        have ei : IntKind.i64.wrap ((i : Int) + 1) = ((i + 1 : Nat) : Int) := by rw [wrap_i64_of (by omega) (by omega)]; omega
        have hc : bs [44] = toB [44] := rfl
        have hd : bs [58] = toB [58] := rfl
        have tx : rtRungT ((n : Int), (m : Int)) = Lib.decDigits n ++ (58 :: Lib.decDigits m) := by unfold rtRungT; simp only [itoa_nat]
        rw [tx] at ts
        have w1 : IntKind.u64.wrap (n : Int) = (n : Int) := by rw [u64_wrap_nat, e1]
        have w2 : IntKind.u64.wrap (m : Int) = (m : Int) := by rw [u64_wrap_nat, e2]
        generalize hX : rtText (l.take i) = X at *
        have chain : ∀ P : List UInt8, P.length ≤ 1000000 → binStr .add (toB P) (toB (Lib.decDigits n)) = some (.string (toB (P ++ Lib.decDigits n))) ∧ binStr .add (toB (P ++ Lib.decDigits n)) (toB [58]) = some (.string (toB (P ++ Lib.decDigits n ++ [58]))) ∧
            binStr .add (toB (P ++ Lib.decDigits n ++ [58])) (toB (Lib.decDigits m)) = some (.string (toB (P ++ Lib.decDigits n ++ [58] ++ Lib.decDigits m))) := fun P h =>
          ⟨addT _ _ (by omega), addT _ _ (by simp; omega), addT _ _ (by simp; omega)⟩
        cases d1 : decide ((0 : Int) < (i : Int))
        · have i0 : i = 0 := by have := of_decide_eq_false d1; omega
          have hX0 : X = [] := by rw [← hX, i0]; rfl
          subst hX0
          rw [if_pos i0] at ts
          obtain ⟨b1, b2, b3⟩ := chain [] (by simp)
          simp only [List.nil_append] at b1 b2 b3
          simp only [go_sem, d0, d1, hr, slT, w1, w2, hX, ↓reduceIte, Nat.reduceEqDiff, Nat.reduceAdd, Nat.reduceLeDiff, reduceCtorEq, Nat.reduceLT, Int.reduceLT, Int.reduceLE, Int.reduceEq, Int.reduceToNat, Nat.reduceMul]
          refine Cl_plain f1 ?_
          simp only [go_sem, hr, slT, w1, w2, hd, b1, b2, b3, ↓reduceIte, Nat.reduceEqDiff, Nat.reduceAdd, Nat.reduceLeDiff, reduceCtorEq, Nat.reduceLT, Int.reduceLT, Int.reduceLE, Int.reduceEq, Int.reduceToNat, Nat.reduceMul]
          refine Cl_plain f2 ?_
          simp only [go_sem, hr, slT, w1, w2, hd, b1, b2, b3, ↓reduceIte, Nat.reduceEqDiff, Nat.reduceAdd, Nat.reduceLeDiff, reduceCtorEq, Nat.reduceLT, Int.reduceLT, Int.reduceLE, Int.reduceEq, Int.reduceToNat, Nat.reduceMul]
          ((try (with_reducible refine R_fin (by repeat' (first | exact okp0 | refine okp rfl rfl rfl ?_)) ?_)); (try simp only [go_sem, hr, slT, w1, w2, hd, b1, b2, b3, ei, ↓reduceIte, Nat.reduceEqDiff, Nat.reduceAdd, Nat.reduceLeDiff, reduceCtorEq, Nat.reduceLT, Int.reduceLT, Int.reduceLE, Int.reduceEq, Int.reduceToNat, Nat.reduceMul]))
          refine rd_of (i + 1) (by first | omega | (simp only; omega)) hil ?_
          simp only [ts, show Lib.decDigits n ++ [58] ++ Lib.decDigits m = Lib.decDigits n ++ 58 :: Lib.decDigits m from by simp]
          exact (subL [] [] (by simp [envS, go_sem, wkV, wkL, AV.ids, idsL, keysOf, ren, stoOf, slTrees, AV.asOwn, rowPart, AV.isNil, rowS] <;> assumption) (by simp [stoS, go_sem, wkV, wkL, wkO, AV.ids, Ob.ids, idsL, keysOf, ren, AV.one, stoOf, slTrees, AV.asOwn, rowPart, AV.isNil, rowS] <;> assumption) (by simp [keysOf, ren]) (by simp [stoOf, keysOf, ren]) (by simp [keysOf, ren]) (by simp [keysOf, ren]))
        · have i0 : ¬ i = 0 := by have := of_decide_eq_true d1; omega
          rw [if_neg i0] at ts
          have b0 := addT X [44] (by simp; omega)
          obtain ⟨b1, b2, b3⟩ := chain (X ++ [44]) (by simp; omega)
          simp only [go_sem, d0, d1, hr, slT, w1, w2, hX, hc, b0, ↓reduceIte, Nat.reduceEqDiff, Nat.reduceAdd, Nat.reduceLeDiff, reduceCtorEq, Nat.reduceLT, Int.reduceLT, Int.reduceLE, Int.reduceEq, Int.reduceToNat, Nat.reduceMul]
          refine Cl_plain f1 ?_
          simp only [go_sem, hr, slT, w1, w2, hd, b1, b2, b3, ↓reduceIte, Nat.reduceEqDiff, Nat.reduceAdd, Nat.reduceLeDiff, reduceCtorEq, Nat.reduceLT, Int.reduceLT, Int.reduceLE, Int.reduceEq, Int.reduceToNat, Nat.reduceMul]
          refine Cl_plain f2 ?_
          simp only [go_sem, hr, slT, w1, w2, hd, b1, b2, b3, ↓reduceIte, Nat.reduceEqDiff, Nat.reduceAdd, Nat.reduceLeDiff, reduceCtorEq, Nat.reduceLT, Int.reduceLT, Int.reduceLE, Int.reduceEq, Int.reduceToNat, Nat.reduceMul]
          ((try (with_reducible refine R_fin (by repeat' (first | exact okp0 | refine okp rfl rfl rfl ?_)) ?_)); (try simp only [go_sem, hr, slT, w1, w2, hd, b1, b2, b3, ei, ↓reduceIte, Nat.reduceEqDiff, Nat.reduceAdd, Nat.reduceLeDiff, reduceCtorEq, Nat.reduceLT, Int.reduceLT, Int.reduceLE, Int.reduceEq, Int.reduceToNat, Nat.reduceMul]))
          refine rd_of (i + 1) (by first | omega | (simp only; omega)) hil ?_
          simp only [ts, show X ++ [44] ++ Lib.decDigits n ++ [58] ++ Lib.decDigits m = X ++ 44 :: (Lib.decDigits n ++ 58 :: Lib.decDigits m) from by simp]
          exact (subL [] [] (by simp [envS, go_sem, wkV, wkL, AV.ids, idsL, keysOf, ren, stoOf, slTrees, AV.asOwn, rowPart, AV.isNil, rowS] <;> assumption) (by simp [stoS, go_sem, wkV, wkL, wkO, AV.ids, Ob.ids, idsL, keysOf, ren, AV.one, stoOf, slTrees, AV.asOwn, rowPart, AV.isNil, rowS] <;> assumption) (by simp [keysOf, ren]) (by simp [stoOf, keysOf, ren]) (by simp [keysOf, ren]) (by simp [keysOf, ren]))
      · obtain rfl : i = l.length := by omega
        have d0 : decide (l.length < l.length) = false := decide_eq_false (by omega)
        rw [List.take_length]
        simp only [go_sem, d0, ↓reduceIte, Nat.reduceEqDiff, Nat.reduceAdd, Nat.reduceLeDiff, reduceCtorEq, Nat.reduceLT, Int.reduceLT, Int.reduceLE, Int.reduceEq, Int.reduceToNat, Nat.reduceMul]
        refine wends (by first | exact Or.inl rfl | exact Or.inr rfl) ?_ (by first | rfl | simp [AV.ids, idsL])
        simp only [go_sem, r_ref10_Print, ↓reduceIte, Nat.reduceEqDiff, Nat.reduceAdd, Nat.reduceLeDiff, reduceCtorEq, Nat.reduceLT, Int.reduceLT, Int.reduceLE, Int.reduceEq, Int.reduceToNat, Nat.reduceMul]

theorem f_retention_Print (l : List Rung) (hl : l.length ≤ 1000000) : Meets Tryd.prog E0 n_retention_Print [slL l] [] (.tp [Str (toB (rtPrint l).1), I (rtPrint l).2]) [] := by
  refine m_retention_Print (by simp) (shut0 rfl) (shut0 rfl) (by simp) (by simp [keysOf]) ?_
  have hT := f_retention_Together l
  unfold rtPrint
  simp only [go_sem, s_retention_Print, ↓reduceIte, Nat.reduceEqDiff, Nat.reduceAdd, Nat.reduceLeDiff, reduceCtorEq, Nat.reduceLT, Int.reduceLT, Int.reduceLE, Int.reduceEq, Int.reduceToNat, Nat.reduceMul]
  refine Cl_plain hT ?_
  cases ht : togB l
  · rw [if_neg (by decide), show toB [] = bs [] from rfl]
    simp only [go_sem, ↓reduceIte, Nat.reduceEqDiff, Nat.reduceAdd, Nat.reduceLeDiff, reduceCtorEq, Nat.reduceLT, Int.reduceLT, Int.reduceLE, Int.reduceEq, Int.reduceToNat, Nat.reduceMul]
    refine wends (by first | exact Or.inl rfl | exact Or.inr rfl) ?_ (by first | rfl | simp [AV.ids, idsL])
    simp only [go_sem, r_retention_Print, ↓reduceIte, Nat.reduceEqDiff, Nat.reduceAdd, Nat.reduceLeDiff, reduceCtorEq, Nat.reduceLT, Int.reduceLT, Int.reduceLE, Int.reduceEq, Int.reduceToNat, Nat.reduceMul]
  · rw [if_pos rfl]
    have ha := tog_all ht
    have hlen := tog_len ht
    have tl := text_len ha l.length
    rw [List.take_length] at tl
    simp only [go_sem, ↓reduceIte, Nat.reduceEqDiff, Nat.reduceAdd, Nat.reduceLeDiff, reduceCtorEq, Nat.reduceLT, Int.reduceLT, Int.reduceLE, Int.reduceEq, Int.reduceToNat, Nat.reduceMul]
    refine W_loop (fun i : Nat => l.length - i) (fun i => i ≤ l.length)
      (fun i => [(4, .own 999 1 0 i (!decide (i = 0))), (10, slL l), (11, I l.length), (12, I i)]) (fun i => [(999, .row 1 (!decide (i = 0)) ((l.take i).map fun r => rowS (toB (rtRungT r))))]) 0 (Nat.zero_le _) ?_ ?_
    · exact (subL [(999, 888)] [] (by simp [envS, go_sem, wkV, wkL, AV.ids, idsL, keysOf, ren, stoOf, slTrees, AV.asOwn, rowPart, AV.isNil, rowS] <;> assumption) (by simp [stoS, go_sem, wkV, wkL, wkO, AV.ids, Ob.ids, idsL, keysOf, ren, AV.one, stoOf, slTrees, AV.asOwn, rowPart, AV.isNil, rowS] <;> assumption) (by simp [keysOf, ren]) (by simp [stoOf, keysOf, ren]) (by simp [keysOf, ren]) (by simp [keysOf, ren]))
    · intro i hi
      by_cases hil : i < l.length
      · have d0 : decide (i < l.length) = true := decide_eq_true hil
        obtain ⟨r, hr⟩ := get_of_lt hil
        obtain ⟨n, m, rfl, hn, hm⟩ := sz_nat (all_get ha hr)
        have bn := (dec_len n).1
        have bm := (dec_len m).1
        have f1 := f_Itoa (n : Int) (by omega) (by omega)
        have f2 := f_Itoa (m : Int) (by omega) (by omega)
        have tx : rtRungT ((n : Int), (m : Int)) = Lib.decDigits n ++ (58 :: Lib.decDigits m) := by unfold rtRungT; simp only [itoa_nat]
        rw [itoa_nat] at f1 f2
        have ei : IntKind.i64.wrap ((i : Int) + 1) = ((i + 1 : Nat) : Int) := by rw [wrap_i64_of (by omega) (by omega)]; omega
        have hd : bs [58] = toB [58] := rfl
        have b1 := addT (Lib.decDigits n) [58] (by simp; omega)
        have b2 := addT (Lib.decDigits n ++ [58]) (Lib.decDigits m) (by simp; omega)
        have b4 : (i + 1) * 16 ≤ 2 ^ 47 := by omega
        have b5 : i + 1 < 2 ^ 47 := by omega
        have em : ((l.take i).map fun r => rowS (toB (rtRungT r))) ++ [[.v (.string (toB (Lib.decDigits n ++ [58] ++ Lib.decDigits m)))]] = (l.take (i + 1)).map fun r => rowS (toB (rtRungT r)) := by
          rw [List.take_add_one, hr, Option.toList_some, List.map_append, List.map_cons, List.map_nil, tx]
          simp [rowS]
        have hlen : ((l.take i).map fun r => rowS (toB (rtRungT r))).length = i := by simp; omega
        simp only [go_sem, d0, hr, slT, ↓reduceIte, Nat.reduceEqDiff, Nat.reduceAdd, Nat.reduceLeDiff, reduceCtorEq, Nat.reduceLT, Int.reduceLT, Int.reduceLE, Int.reduceEq, Int.reduceToNat, Nat.reduceMul]
        refine Cl_plain f1 ?_
        simp only [go_sem, hd, b1, ↓reduceIte, Nat.reduceEqDiff, Nat.reduceAdd, Nat.reduceLeDiff, reduceCtorEq, Nat.reduceLT, Int.reduceLT, Int.reduceLE, Int.reduceEq, Int.reduceToNat, Nat.reduceMul]
        refine Cl_plain f2 ?_
        simp only [go_sem, b2, b4, b5, em, hlen, ↓reduceIte, Nat.reduceEqDiff, Nat.reduceAdd, Nat.reduceLeDiff, reduceCtorEq, Nat.reduceLT, Int.reduceLT, Int.reduceLE, Int.reduceEq, Int.reduceToNat, Nat.reduceMul]
        ((try (with_reducible refine R_fin (by repeat' (first | exact okp0 | refine okp rfl rfl rfl ?_)) ?_)); (try simp only [go_sem, b2, b4, b5, em, hlen, ei, ↓reduceIte, Nat.reduceEqDiff, Nat.reduceAdd, Nat.reduceLeDiff, reduceCtorEq, Nat.reduceLT, Int.reduceLT, Int.reduceLE, Int.reduceEq, Int.reduceToNat, Nat.reduceMul]))
        refine rd_of (i + 1) (by first | omega | (simp only; omega)) hil ?_
        rw [show (!decide (i + 1 = 0)) = true from by simp]
        exact (subL [(999, 126)] [] (by simp [envS, go_sem, wkV, wkL, AV.ids, idsL, keysOf, ren, stoOf, slTrees, AV.asOwn, rowPart, AV.isNil, rowS] <;> assumption) (by simp [stoS, go_sem, wkV, wkL, wkO, AV.ids, Ob.ids, idsL, keysOf, ren, AV.one, stoOf, slTrees, AV.asOwn, rowPart, AV.isNil, rowS] <;> assumption) (by simp [keysOf, ren]) (by simp [stoOf, keysOf, ren]) (by simp [keysOf, ren]) (by simp [keysOf, ren]))
      · obtain rfl : i = l.length := by omega
        have d0 : decide (l.length < l.length) = false := decide_eq_false (by omega)
        have hJ := f_Join (l.map fun r => toB (rtRungT r)) (bs [44]) (by simp; omega) (by
          have e : (l.map fun r => toB (rtRungT r)).map (fun x => x.data.toList) = l.map rtRungT := by simp [toB]
          rw [e]
          show (rtText l).length ≤ _
          omega)
        have hj : joinB (l.map fun r => toB (rtRungT r)) (bs [44]) = toB (rtText l) := by
          unfold joinB rtText
          have e : (l.map fun r => toB (rtRungT r)).map (fun x => x.data.toList) = l.map rtRungT := by simp [toB]
          rw [e]; rfl
        rw [hj] at hJ
        rw [List.take_length, show decide (l.length = 0) = false from decide_eq_false (by omega)]
        simp only [go_sem, d0, ↓reduceIte, Nat.reduceEqDiff, Nat.reduceAdd, Nat.reduceLeDiff, reduceCtorEq, Nat.reduceLT, Int.reduceLT, Int.reduceLE, Int.reduceEq, Int.reduceToNat, Nat.reduceMul]
        refine Cl_keep [999] hJ ?_ (by simp [stoOf]) rfl ?_
        · exact .one (Wk.row (by simp [slTrees, AV.asOwn, rowPart, stoOf, List.take_of_length_le]) (by simp)) (.one (Wk.refl _) .nil)
        simp only [go_sem, ↓reduceIte, Nat.reduceEqDiff, Nat.reduceAdd, Nat.reduceLeDiff, reduceCtorEq, Nat.reduceLT, Int.reduceLT, Int.reduceLE, Int.reduceEq, Int.reduceToNat, Nat.reduceMul]
        refine wends (by first | exact Or.inl rfl | exact Or.inr rfl) ?_ (by first | rfl | simp [AV.ids, idsL])
        simp only [go_sem, r_retention_Print, ↓reduceIte, Nat.reduceEqDiff, Nat.reduceAdd, Nat.reduceLeDiff, reduceCtorEq, Nat.reduceLT, Int.reduceLT, Int.reduceLE, Int.reduceEq, Int.reduceToNat, Nat.reduceMul]

end Go.Proofs.YtcadhlakhdndjaaDoor
