/- Texts that begin, or end, with a byte: the library's functions. No statement of the seat is proved here. -/
import Derived.Test.YtbkchhjdjijhkaaDoorRtSplit2
import Derived.Test.YtbkchhjdjijhkaaDoorSxH
set_option linter.unusedSimpArgs false
set_option linter.unusedVariables false
namespace Go.Proofs.YtbkchhjdjijhkaaDoor
open Go Go.Sx

theorem toB_size (l : List UInt8) : (toB l).size = l.length := rfl

theorem eqT (a b : List UInt8) : binStr .eql (toB a) (toB b) = some (.bool (a == b)) := by
  simp only [binStr]
  congr 2
  rw [Lib.toList_data, Lib.toList_data, toB_data, toB_data]

theorem neT (a b : List UInt8) : binStr .neq (toB a) (toB b) = some (.bool (!(a == b))) := by
  simp only [binStr]
  congr 2
  rw [Lib.toList_data, Lib.toList_data, toB_data, toB_data]

theorem extT (l : List UInt8) (a b : Nat) : (toB l).extract a b = toB ((l.take b).drop a) := by
  apply bytes_ext
  have : ((toB l).extract a b).data.toList = (l.drop a).take (b - a) := by
    simp [ByteArray.extract, ByteArray.copySlice, toB]
  rw [this, toB_data, List.drop_take]

theorem getT (l : List UInt8) (i : Nat) : (toB l)[i]? = l[i]? := by rw [ba_get, toB_data]

/-- Without a last byte of a kind. -/
def stripB (c : UInt8) (l : List UInt8) : List UInt8 := if l.getLast? = some c then l.dropLast else l

def lastB (c : UInt8) (l : List UInt8) : Bool := l.getLast? == some c
def headB (c : UInt8) (l : List UInt8) : Bool := l.head? == some c

theorem last_snoc (c b : UInt8) (i : List UInt8) : lastB c (i ++ [b]) = (b == c) := by
  unfold lastB
  rw [List.getLast?_concat]
  rfl

theorem strip_eq (c : UInt8) (l : List UInt8) : stripB c l = if lastB c l then l.dropLast else l := by
  unfold stripB lastB
  by_cases h : l.getLast? = some c <;> simp [h]

theorem bs1 (c : UInt8) : bs [c] = toB [c] := rfl

theorem f_HasSuffix (l : List UInt8) (c : UInt8) (hl : l.length ≤ 4611686018427387904) : Meets Tryd.prog E0 n_stringslite_HasSuffix [Str (toB l), Str (toB [c])] [] (Bo (lastB c l)) [] := by
  refine m_stringslite_HasSuffix (by simp) (shut0 rfl) (shut0 rfl) (by simp) (by simp [keysOf]) ?_
  by_cases h : l = []
  · subst h
    have d : decide (((1 : Nat) : Int) ≤ ((0 : Nat) : Int)) = false := rfl
    simp only [go_sem, s_stringslite_HasSuffix, toB_size, d, ↓reduceIte, Nat.reduceEqDiff, Nat.reduceAdd, Nat.reduceLeDiff, reduceCtorEq, Nat.reduceLT, Int.reduceLT, Int.reduceLE, Int.reduceEq, Int.reduceToNat, Nat.reduceMul]
    refine wends (by first | exact Or.inl rfl | exact Or.inr rfl) ?_ (by first | rfl | simp [AV.ids, idsL])
    simp only [go_sem, r_stringslite_HasSuffix, ↓reduceIte, Nat.reduceEqDiff, Nat.reduceAdd, Nat.reduceLeDiff, reduceCtorEq, Nat.reduceLT, Int.reduceLT, Int.reduceLE, Int.reduceEq, Int.reduceToNat, Nat.reduceMul]
    rfl
  · obtain ⟨i, b, rfl⟩ := snoc_of h
    rw [last_snoc]
    simp only [List.length_append, List.length_cons, List.length_nil, Nat.zero_add] at hl
    have hs : (i ++ [b]).length = i.length + 1 := by simp
    have d : decide (((1 : Nat) : Int) ≤ ((i.length + 1 : Nat) : Int)) = true := decide_eq_true (by omega)
    have w : IntKind.i64.wrap (((i.length + 1 : Nat) : Int) - ((1 : Nat) : Int)) = (i.length : Int) := by rw [wrap_i64_of (by omega) (by omega)]; omega
    have c1 : ((i.length : Int) ≤ ((i.length + 1 : Nat) : Int)) = True := eq_true (by omega)
    have e : (toB (i ++ [b])).extract i.length (i.length + 1) = toB [b] := by
      rw [extT, List.take_of_length_le (by simp), List.drop_left]
    have q : binStr .eql (toB [b]) (toB [c]) = some (.bool (b == c)) := by rw [eqT]; simp
    simp only [go_sem, s_stringslite_HasSuffix, toB_size, hs, d, w, c1, e, q, ↓reduceIte, Nat.reduceEqDiff, Nat.reduceAdd, Nat.reduceLeDiff, reduceCtorEq, Nat.reduceLT, Int.reduceLT, Int.reduceLE, Int.reduceEq, Int.reduceToNat, Nat.reduceMul]
    refine wends (by first | exact Or.inl rfl | exact Or.inr rfl) ?_ (by first | rfl | simp [AV.ids, idsL])
    simp only [go_sem, r_stringslite_HasSuffix, ↓reduceIte, Nat.reduceEqDiff, Nat.reduceAdd, Nat.reduceLeDiff, reduceCtorEq, Nat.reduceLT, Int.reduceLT, Int.reduceLE, Int.reduceEq, Int.reduceToNat, Nat.reduceMul]

theorem f_TrimSuffix (l : List UInt8) (c : UInt8) (hl : l.length ≤ 4611686018427387904) : Meets Tryd.prog E0 n_strings_TrimSuffix [Str (toB l), Str (toB [c])] [] (Str (toB (stripB c l))) [] := by
  have h0 : Meets Tryd.prog E0 n_stringslite_TrimSuffix [Str (toB l), Str (toB [c])] [] (Str (toB (stripB c l))) [] := by
    refine m_stringslite_TrimSuffix (by simp) (shut0 rfl) (shut0 rfl) (by simp) (by simp [keysOf]) ?_
    have hS := f_HasSuffix l c hl
    rw [strip_eq]
    simp only [go_sem, s_stringslite_TrimSuffix, ↓reduceIte, Nat.reduceEqDiff, Nat.reduceAdd, Nat.reduceLeDiff, reduceCtorEq, Nat.reduceLT, Int.reduceLT, Int.reduceLE, Int.reduceEq, Int.reduceToNat, Nat.reduceMul]
    refine Cl_plain hS ?_
    cases hb : lastB c l
    · simp only [go_sem, ↓reduceIte, Nat.reduceEqDiff, Nat.reduceAdd, Nat.reduceLeDiff, reduceCtorEq, Nat.reduceLT, Int.reduceLT, Int.reduceLE, Int.reduceEq, Int.reduceToNat, Nat.reduceMul]
      refine wends (by first | exact Or.inl rfl | exact Or.inr rfl) ?_ (by first | rfl | simp [AV.ids, idsL])
      simp only [go_sem, r_stringslite_TrimSuffix, ↓reduceIte, Nat.reduceEqDiff, Nat.reduceAdd, Nat.reduceLeDiff, reduceCtorEq, Nat.reduceLT, Int.reduceLT, Int.reduceLE, Int.reduceEq, Int.reduceToNat, Nat.reduceMul]
      first | done | rfl
    · by_cases h : l = []
      · subst h; cases hb
      · obtain ⟨i, b, rfl⟩ := snoc_of h
        simp only [List.length_append, List.length_cons, List.length_nil, Nat.zero_add] at hl
        have hs : (i ++ [b]).length = i.length + 1 := by simp
        have w : IntKind.i64.wrap (((i.length + 1 : Nat) : Int) - ((1 : Nat) : Int)) = (i.length : Int) := by rw [wrap_i64_of (by omega) (by omega)]; omega
        have c1 : ((i.length : Int) ≤ ((i.length + 1 : Nat) : Int)) = True := eq_true (by omega)
        have e : (toB (i ++ [b])).extract 0 i.length = toB i := by rw [extT, List.take_left]; rfl
        have e2 : (i ++ [b]).dropLast = i := List.dropLast_concat
        rw [e2]
        simp only [go_sem, toB_size, hs, w, c1, e, ↓reduceIte, Nat.reduceEqDiff, Nat.reduceAdd, Nat.reduceLeDiff, reduceCtorEq, Nat.reduceLT, Int.reduceLT, Int.reduceLE, Int.reduceEq, Int.reduceToNat, Nat.reduceMul]
        refine wends (by first | exact Or.inl rfl | exact Or.inr rfl) ?_ (by first | rfl | simp [AV.ids, idsL])
        simp only [go_sem, r_stringslite_TrimSuffix, ↓reduceIte, Nat.reduceEqDiff, Nat.reduceAdd, Nat.reduceLeDiff, reduceCtorEq, Nat.reduceLT, Int.reduceLT, Int.reduceLE, Int.reduceEq, Int.reduceToNat, Nat.reduceMul]
        first | done | rfl
  refine m_strings_TrimSuffix (by simp) (shut0 rfl) (shut0 rfl) (by simp) (by simp [keysOf]) ?_
  simp only [go_sem, s_strings_TrimSuffix, ↓reduceIte, Nat.reduceEqDiff, Nat.reduceAdd, Nat.reduceLeDiff, reduceCtorEq, Nat.reduceLT, Int.reduceLT, Int.reduceLE, Int.reduceEq, Int.reduceToNat, Nat.reduceMul]
  refine Cl_plain h0 ?_
  simp only [go_sem, ↓reduceIte, Nat.reduceEqDiff, Nat.reduceAdd, Nat.reduceLeDiff, reduceCtorEq, Nat.reduceLT, Int.reduceLT, Int.reduceLE, Int.reduceEq, Int.reduceToNat, Nat.reduceMul]
  refine wends (by first | exact Or.inl rfl | exact Or.inr rfl) ?_ (by first | rfl | simp [AV.ids, idsL])
  simp only [go_sem, r_strings_TrimSuffix, ↓reduceIte, Nat.reduceEqDiff, Nat.reduceAdd, Nat.reduceLeDiff, reduceCtorEq, Nat.reduceLT, Int.reduceLT, Int.reduceLE, Int.reduceEq, Int.reduceToNat, Nat.reduceMul]

theorem f_CutSuffix (l : List UInt8) (c : UInt8) (hl : l.length ≤ 4611686018427387904) : Meets Tryd.prog E0 n_strings_CutSuffix [Str (toB l), Str (toB [c])] [] (.tp [Str (toB (stripB c l)), Bo (lastB c l)]) [] := by
  have h0 : Meets Tryd.prog E0 n_stringslite_CutSuffix [Str (toB l), Str (toB [c])] [] (.tp [Str (toB (stripB c l)), Bo (lastB c l)]) [] := by
    refine m_stringslite_CutSuffix (by simp) (shut0 rfl) (shut0 rfl) (by simp) (by simp [keysOf]) ?_
    have hS := f_HasSuffix l c hl
    rw [strip_eq]
    simp only [go_sem, s_stringslite_CutSuffix, ↓reduceIte, Nat.reduceEqDiff, Nat.reduceAdd, Nat.reduceLeDiff, reduceCtorEq, Nat.reduceLT, Int.reduceLT, Int.reduceLE, Int.reduceEq, Int.reduceToNat, Nat.reduceMul]
    refine Cl_plain hS ?_
    cases hb : lastB c l
    · simp only [go_sem, ↓reduceIte, Nat.reduceEqDiff, Nat.reduceAdd, Nat.reduceLeDiff, reduceCtorEq, Nat.reduceLT, Int.reduceLT, Int.reduceLE, Int.reduceEq, Int.reduceToNat, Nat.reduceMul]
      refine wends (by first | exact Or.inl rfl | exact Or.inr rfl) ?_ (by first | rfl | simp [AV.ids, idsL])
      simp only [go_sem, r_stringslite_CutSuffix, ↓reduceIte, Nat.reduceEqDiff, Nat.reduceAdd, Nat.reduceLeDiff, reduceCtorEq, Nat.reduceLT, Int.reduceLT, Int.reduceLE, Int.reduceEq, Int.reduceToNat, Nat.reduceMul]
      first | done | rfl
    · by_cases h : l = []
      · subst h; cases hb
      · obtain ⟨i, b, rfl⟩ := snoc_of h
        simp only [List.length_append, List.length_cons, List.length_nil, Nat.zero_add] at hl
        have hs : (i ++ [b]).length = i.length + 1 := by simp
        have w : IntKind.i64.wrap (((i.length + 1 : Nat) : Int) - ((1 : Nat) : Int)) = (i.length : Int) := by rw [wrap_i64_of (by omega) (by omega)]; omega
        have c1 : ((i.length : Int) ≤ ((i.length + 1 : Nat) : Int)) = True := eq_true (by omega)
        have e : (toB (i ++ [b])).extract 0 i.length = toB i := by rw [extT, List.take_left]; rfl
        have e2 : (i ++ [b]).dropLast = i := List.dropLast_concat
        rw [e2]
        simp only [go_sem, toB_size, hs, w, c1, e, ↓reduceIte, Nat.reduceEqDiff, Nat.reduceAdd, Nat.reduceLeDiff, reduceCtorEq, Nat.reduceLT, Int.reduceLT, Int.reduceLE, Int.reduceEq, Int.reduceToNat, Nat.reduceMul]
        refine wends (by first | exact Or.inl rfl | exact Or.inr rfl) ?_ (by first | rfl | simp [AV.ids, idsL])
        simp only [go_sem, r_stringslite_CutSuffix, ↓reduceIte, Nat.reduceEqDiff, Nat.reduceAdd, Nat.reduceLeDiff, reduceCtorEq, Nat.reduceLT, Int.reduceLT, Int.reduceLE, Int.reduceEq, Int.reduceToNat, Nat.reduceMul]
        first | done | rfl
  refine m_strings_CutSuffix (by simp) (shut0 rfl) (shut0 rfl) (by simp) (by simp [keysOf]) ?_
  simp only [go_sem, s_strings_CutSuffix, ↓reduceIte, Nat.reduceEqDiff, Nat.reduceAdd, Nat.reduceLeDiff, reduceCtorEq, Nat.reduceLT, Int.reduceLT, Int.reduceLE, Int.reduceEq, Int.reduceToNat, Nat.reduceMul]
  refine Cl_plain h0 ?_
  simp only [go_sem, ↓reduceIte, Nat.reduceEqDiff, Nat.reduceAdd, Nat.reduceLeDiff, reduceCtorEq, Nat.reduceLT, Int.reduceLT, Int.reduceLE, Int.reduceEq, Int.reduceToNat, Nat.reduceMul]
  refine wends (by first | exact Or.inl rfl | exact Or.inr rfl) ?_ (by first | rfl | simp [AV.ids, idsL])
  simp only [go_sem, r_strings_CutSuffix, ↓reduceIte, Nat.reduceEqDiff, Nat.reduceAdd, Nat.reduceLeDiff, reduceCtorEq, Nat.reduceLT, Int.reduceLT, Int.reduceLE, Int.reduceEq, Int.reduceToNat, Nat.reduceMul]

theorem f_HasPrefix (l : List UInt8) (c : UInt8) (hl : l.length ≤ 4611686018427387904) : Meets Tryd.prog E0 n_stringslite_HasPrefix [Str (toB l), Str (toB [c])] [] (Bo (headB c l)) [] := by
  refine m_stringslite_HasPrefix (by simp) (shut0 rfl) (shut0 rfl) (by simp) (by simp [keysOf]) ?_
  cases l with
  | nil =>
    have d : decide (((1 : Nat) : Int) ≤ ((0 : Nat) : Int)) = false := rfl
    simp only [go_sem, s_stringslite_HasPrefix, toB_size, d, ↓reduceIte, Nat.reduceEqDiff, Nat.reduceAdd, Nat.reduceLeDiff, reduceCtorEq, Nat.reduceLT, Int.reduceLT, Int.reduceLE, Int.reduceEq, Int.reduceToNat, Nat.reduceMul]
    refine wends (by first | exact Or.inl rfl | exact Or.inr rfl) ?_ (by first | rfl | simp [AV.ids, idsL])
    simp only [go_sem, r_stringslite_HasPrefix, ↓reduceIte, Nat.reduceEqDiff, Nat.reduceAdd, Nat.reduceLeDiff, reduceCtorEq, Nat.reduceLT, Int.reduceLT, Int.reduceLE, Int.reduceEq, Int.reduceToNat, Nat.reduceMul]
    rfl
  | cons b r =>
    have e0 : headB c (b :: r) = (b == c) := rfl
    rw [e0]
    have hs : (b :: r).length = r.length + 1 := rfl
    have d : decide (((1 : Nat) : Int) ≤ ((r.length + 1 : Nat) : Int)) = true := decide_eq_true (by omega)
    have c1 : (((1 : Nat) : Int) ≤ ((r.length + 1 : Nat) : Int)) = True := eq_true (by omega)
    have e : (toB (b :: r)).extract 0 1 = toB [b] := by rw [extT]; rfl
    have q : binStr .eql (toB [b]) (toB [c]) = some (.bool (b == c)) := by rw [eqT]; simp
    simp only [go_sem, s_stringslite_HasPrefix, toB_size, hs, d, c1, e, q, ↓reduceIte, Nat.reduceEqDiff, Nat.reduceAdd, Nat.reduceLeDiff, reduceCtorEq, Nat.reduceLT, Int.reduceLT, Int.reduceLE, Int.reduceEq, Int.reduceToNat, Nat.reduceMul]
    refine wends (by first | exact Or.inl rfl | exact Or.inr rfl) ?_ (by first | rfl | simp [AV.ids, idsL])
    simp only [go_sem, r_stringslite_HasPrefix, ↓reduceIte, Nat.reduceEqDiff, Nat.reduceAdd, Nat.reduceLeDiff, reduceCtorEq, Nat.reduceLT, Int.reduceLT, Int.reduceLE, Int.reduceEq, Int.reduceToNat, Nat.reduceMul]

/-- Without a first byte of a kind. -/
def frontB (c : UInt8) (l : List UInt8) : List UInt8 := if headB c l then l.tail else l

theorem f_CutPrefix (l : List UInt8) (c : UInt8) (hl : l.length ≤ 4611686018427387904) : Meets Tryd.prog E0 n_strings_CutPrefix [Str (toB l), Str (toB [c])] [] (.tp [Str (toB (frontB c l)), Bo (headB c l)]) [] := by
  have h0 : Meets Tryd.prog E0 n_stringslite_CutPrefix [Str (toB l), Str (toB [c])] [] (.tp [Str (toB (frontB c l)), Bo (headB c l)]) [] := by
    refine m_stringslite_CutPrefix (by simp) (shut0 rfl) (shut0 rfl) (by simp) (by simp [keysOf]) ?_
    have hS := f_HasPrefix l c hl
    unfold frontB
    simp only [go_sem, s_stringslite_CutPrefix, ↓reduceIte, Nat.reduceEqDiff, Nat.reduceAdd, Nat.reduceLeDiff, reduceCtorEq, Nat.reduceLT, Int.reduceLT, Int.reduceLE, Int.reduceEq, Int.reduceToNat, Nat.reduceMul]
    refine Cl_plain hS ?_
    cases hb : headB c l
    · simp only [go_sem, ↓reduceIte, Nat.reduceEqDiff, Nat.reduceAdd, Nat.reduceLeDiff, reduceCtorEq, Nat.reduceLT, Int.reduceLT, Int.reduceLE, Int.reduceEq, Int.reduceToNat, Nat.reduceMul]
      refine wends (by first | exact Or.inl rfl | exact Or.inr rfl) ?_ (by first | rfl | simp [AV.ids, idsL])
      simp only [go_sem, r_stringslite_CutPrefix, ↓reduceIte, Nat.reduceEqDiff, Nat.reduceAdd, Nat.reduceLeDiff, reduceCtorEq, Nat.reduceLT, Int.reduceLT, Int.reduceLE, Int.reduceEq, Int.reduceToNat, Nat.reduceMul]
      first | done | rfl
    · cases l with
      | nil => cases hb
      | cons b r =>
        have hs : (b :: r).length = r.length + 1 := rfl
        have c1 : (((1 : Nat) : Int) ≤ ((r.length + 1 : Nat) : Int)) = True := eq_true (by omega)
        have e : (toB (b :: r)).extract 1 (r.length + 1) = toB r := by rw [extT, List.take_of_length_le (by simp)]; rfl
        simp only [go_sem, toB_size, hs, c1, e, ↓reduceIte, Nat.reduceEqDiff, Nat.reduceAdd, Nat.reduceLeDiff, reduceCtorEq, Nat.reduceLT, Int.reduceLT, Int.reduceLE, Int.reduceEq, Int.reduceToNat, Nat.reduceMul]
        refine wends (by first | exact Or.inl rfl | exact Or.inr rfl) ?_ (by first | rfl | simp [AV.ids, idsL])
        simp only [go_sem, r_stringslite_CutPrefix, ↓reduceIte, Nat.reduceEqDiff, Nat.reduceAdd, Nat.reduceLeDiff, reduceCtorEq, Nat.reduceLT, Int.reduceLT, Int.reduceLE, Int.reduceEq, Int.reduceToNat, Nat.reduceMul]
        first | done | rfl
  refine m_strings_CutPrefix (by simp) (shut0 rfl) (shut0 rfl) (by simp) (by simp [keysOf]) ?_
  simp only [go_sem, s_strings_CutPrefix, ↓reduceIte, Nat.reduceEqDiff, Nat.reduceAdd, Nat.reduceLeDiff, reduceCtorEq, Nat.reduceLT, Int.reduceLT, Int.reduceLE, Int.reduceEq, Int.reduceToNat, Nat.reduceMul]
  refine Cl_plain h0 ?_
  simp only [go_sem, ↓reduceIte, Nat.reduceEqDiff, Nat.reduceAdd, Nat.reduceLeDiff, reduceCtorEq, Nat.reduceLT, Int.reduceLT, Int.reduceLE, Int.reduceEq, Int.reduceToNat, Nat.reduceMul]
  refine wends (by first | exact Or.inl rfl | exact Or.inr rfl) ?_ (by first | rfl | simp [AV.ids, idsL])
  simp only [go_sem, r_strings_CutPrefix, ↓reduceIte, Nat.reduceEqDiff, Nat.reduceAdd, Nat.reduceLeDiff, reduceCtorEq, Nat.reduceLT, Int.reduceLT, Int.reduceLE, Int.reduceEq, Int.reduceToNat, Nat.reduceMul]

end Go.Proofs.YtbkchhjdjijhkaaDoor
