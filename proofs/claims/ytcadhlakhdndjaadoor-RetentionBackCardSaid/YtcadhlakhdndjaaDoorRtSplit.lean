/- Blanks around a text, and its parts, the document's way. No statement of the seat is proved here. -/
import Derived.Test.YtcadhlakhdndjaaDoorRtMath
import Derived.Test.YtcadhlakhdndjaaDoorLbText
import Derived.Test.YtcadhlakhdndjaaDoorSxH
set_option linter.unusedSimpArgs false
set_option linter.unusedVariables false
namespace Go.Proofs.YtcadhlakhdndjaaDoor
open Go Go.Sx

theorem trim_front (c : UInt8) (l : List UInt8) : Lib.trimB (c :: l) c = Lib.trimB l c := by
  unfold Lib.trimB Lib.trimLeftB Lib.trimRightB
  rw [List.reverse_cons, List.dropWhile_append]
  split
  · rename_i h
    have h0 : List.dropWhile (fun x => x == c) l.reverse = [] := by simpa using h
    rw [h0]
    simp
  · rw [List.reverse_append]
    simp

theorem trim_back (c : UInt8) (l : List UInt8) : Lib.trimB (l ++ [c]) c = Lib.trimB l c := by
  unfold Lib.trimB Lib.trimLeftB Lib.trimRightB
  rw [List.reverse_append]
  simp

theorem trim_done (c : UInt8) (l : List UInt8) (h1 : ∀ b, l.head? = some b → b ≠ c) (h2 : ∀ b, l.getLast? = some b → b ≠ c) : Lib.trimB l c = l := by
  unfold Lib.trimB Lib.trimLeftB Lib.trimRightB
  have e1 : l.reverse.dropWhile (fun x => x == c) = l.reverse := by
    cases hr : l.reverse with
    | nil => rfl
    | cons b r =>
      have : l.getLast? = some b := by rw [← List.head?_reverse, hr]; rfl
      have := h2 b this
      rw [List.dropWhile_cons, if_neg (by simpa using this)]
  rw [e1, List.reverse_reverse]
  cases l with
  | nil => rfl
  | cons b r =>
    have := h1 b rfl
    rw [List.dropWhile_cons, if_neg (by simpa using this)]

theorem extract_tail (r : ByteArray) : (r.extract 1 r.size).data.toList = r.data.toList.drop 1 := Lib.extract_to_end ..

theorem f_ref10_trim (s : ByteArray) (hs : s.size ≤ 4611686018427387904) : Meets Tryd.prog E0 n_ref10_trim [Str s] [] (Str ⟨(Lib.trimB s.data.toList 32).toArray⟩) [] := by
  refine m_ref10_trim (by simp) (shut0 rfl) (shut0 rfl) (by simp) (by simp [keysOf]) ?_
  simp only [go_sem, s_ref10_trim, ↓reduceIte, Nat.reduceEqDiff, Nat.reduceAdd, Nat.reduceLeDiff, reduceCtorEq, Nat.reduceLT, Int.reduceLT, Int.reduceLE, Int.reduceEq, Int.reduceToNat, Nat.reduceMul]
  refine W_loop (fun r : ByteArray => r.size) (fun r => r.size ≤ s.size ∧ Lib.trimB r.data.toList 32 = Lib.trimB s.data.toList 32) (fun r => [(0, Str r)]) (fun _ => []) s ⟨Nat.le_refl _, rfl⟩ ?_ ?_
  · exact (subL [] [] (by simp [envS, go_sem, wkV, wkL, AV.ids, idsL, keysOf, ren, stoOf, slTrees, AV.asOwn, rowPart, AV.isNil] <;> assumption) (by simp [stoS, go_sem, wkV, wkL, wkO, AV.ids, Ob.ids, idsL, keysOf, ren, AV.one, stoOf, slTrees, AV.asOwn, rowPart, AV.isNil] <;> assumption) (by simp [keysOf, ren]) (by simp [stoOf, keysOf, ren]) (by simp [keysOf, ren]) (by simp [keysOf, ren]))
  · rintro r ⟨hr, ht⟩
    have hl := ba_len r
    have hg0 := ba_get r 0
    have hcase : r.data.toList = [] ∨ (∃ b l, r.data.toList = b :: l ∧ b ≠ 32) ∨ ∃ l, r.data.toList = 32 :: l := by
      cases r.data.toList with
      | nil => exact Or.inl rfl
      | cons b l =>
        by_cases hb : b = 32
        · subst hb; exact Or.inr (Or.inr ⟨l, rfl⟩)
        · exact Or.inr (Or.inl ⟨b, l, rfl, hb⟩)
    have hhead : (∃ l, r.data.toList = 32 :: l) ∨ ∀ b, r.data.toList.head? = some b → b ≠ 32 := by
      rcases hcase with h | ⟨b, l, h, hb⟩ | h
      · right; rw [h]; simp
      · right; rw [h]; simpa using hb
      · exact Or.inl h
    rcases hcase with h | ⟨b, l, h, hb⟩ | ⟨l, h⟩
    case' refine_2.inl =>
      rw [h] at hl
      have d0 : decide ((0 : Int) < (r.size : Int)) = false := decide_eq_false (by simp at hl; omega)
      simp only [go_sem, d0, ↓reduceIte, Nat.reduceEqDiff, Nat.reduceAdd, Nat.reduceLeDiff, reduceCtorEq, Nat.reduceLT, Int.reduceLT, Int.reduceLE, Int.reduceEq, Int.reduceToNat, Nat.reduceMul]
    case' refine_2.inr.inl =>
      rw [h] at hl hg0
      have d0 : decide ((0 : Int) < (r.size : Int)) = true := decide_eq_true (by simp at hl; omega)
      have d1 : decide (b.toNat = 32) = false := decide_eq_false (fun e => hb (UInt8.toNat_inj.1 e))
      simp only [List.getElem?_cons_zero] at hg0
      simp only [go_sem, d0, hg0, d1, ↓reduceIte, Nat.reduceEqDiff, Nat.reduceAdd, Nat.reduceLeDiff, reduceCtorEq, Nat.reduceLT, Int.reduceLT, Int.reduceLE, Int.reduceEq, Int.reduceToNat, Nat.reduceMul]
    case' refine_2.inr.inr =>
      rw [h] at hl hg0
      have d0 : decide ((0 : Int) < (r.size : Int)) = true := decide_eq_true (by simp at hl; omega)
      simp only [List.getElem?_cons_zero] at hg0
      have d2 : ((1 : Int) ≤ (r.size : Int)) = True := eq_true (by simp at hl; omega)
      have d3 : decide (UInt8.toNat 32 = 32) = true := rfl
      simp only [go_sem, d0, hg0, d2, d3, ↓reduceIte, Nat.reduceEqDiff, Nat.reduceAdd, Nat.reduceLeDiff, reduceCtorEq, Nat.reduceLT, Int.reduceLT, Int.reduceLE, Int.reduceEq, Int.reduceToNat, Nat.reduceMul]
      have et : (r.extract 1 r.size).data.toList = l := by rw [extract_tail, h]; rfl
      have ez : (r.extract 1 r.size).size = l.length := by rw [← ba_len, et]
      refine rd_of (r.extract 1 r.size) (by rw [ez]; simp at hl; omega) ⟨by rw [ez]; simp at hl; omega, ?_⟩ ?_
      · rw [et, ← trim_front, ← h]; exact ht
      · exact (subL [] [] (by simp [envS, go_sem, wkV, wkL, AV.ids, idsL, keysOf, ren, stoOf, slTrees, AV.asOwn, rowPart, AV.isNil] <;> assumption) (by simp [stoS, go_sem, wkV, wkL, wkO, AV.ids, Ob.ids, idsL, keysOf, ren, AV.one, stoOf, slTrees, AV.asOwn, rowPart, AV.isNil] <;> assumption) (by simp [keysOf, ren]) (by simp [stoOf, keysOf, ren]) (by simp [keysOf, ren]) (by simp [keysOf, ren]))
    all_goals
      have hh : ∀ b, r.data.toList.head? = some b → b ≠ 32 := by
        rcases hhead with ⟨l', h'⟩ | h'
        · first
            | (rw [h] at h'; cases h'; done)
            | (rw [h] at h'; injection h' with h1 h2; exact absurd h1 hb)
        · exact h'
      refine W_loop (fun q : ByteArray => q.size) (fun q => q.size ≤ s.size ∧ Lib.trimB q.data.toList 32 = Lib.trimB s.data.toList 32 ∧ ∀ b, q.data.toList.head? = some b → b ≠ 32) (fun q => [(0, Str q)]) (fun _ => []) r ⟨hr, ht, hh⟩ (subL [] [] (by simp [envS, go_sem, wkV, wkL, AV.ids, idsL, keysOf, ren, stoOf, slTrees, AV.asOwn, rowPart, AV.isNil] <;> assumption) (by simp [stoS, go_sem, wkV, wkL, wkO, AV.ids, Ob.ids, idsL, keysOf, ren, AV.one, stoOf, slTrees, AV.asOwn, rowPart, AV.isNil] <;> assumption) (by simp [keysOf, ren]) (by simp [stoOf, keysOf, ren]) (by simp [keysOf, ren]) (by simp [keysOf, ren])) ?_
      clear hh ht hr hhead hg0 hl
      rintro q ⟨hq, ht, hh⟩
      have hl := ba_len q
      by_cases hn : q.data.toList = []
      · have ez : q.size = 0 := by rw [hn] at hl; exact hl.symm
        have d0 : decide ((0 : Int) < (q.size : Int)) = false := decide_eq_false (by omega)
        have hv : (⟨(Lib.trimB s.data.toList 32).toArray⟩ : ByteArray) = q := by
          rw [← ht, trim_done 32 _ hh (by rw [hn]; simp)]
        simp only [go_sem, d0, ↓reduceIte, Nat.reduceEqDiff, Nat.reduceAdd, Nat.reduceLeDiff, reduceCtorEq, Nat.reduceLT, Int.reduceLT, Int.reduceLE, Int.reduceEq, Int.reduceToNat, Nat.reduceMul]
        rw [hv]
        refine wends (by first | exact Or.inl rfl | exact Or.inr rfl) ?_ (by first | rfl | simp [AV.ids, idsL])
        simp only [go_sem, r_ref10_trim, ↓reduceIte, Nat.reduceEqDiff, Nat.reduceAdd, Nat.reduceLeDiff, reduceCtorEq, Nat.reduceLT, Int.reduceLT, Int.reduceLE, Int.reduceEq, Int.reduceToNat, Nat.reduceMul]
      · obtain ⟨i, b, hi⟩ := snoc_of hn
        rw [hi] at hl
        simp only [List.length_append, List.length_cons, List.length_nil] at hl
        have d0 : decide ((0 : Int) < (q.size : Int)) = true := decide_eq_true (by omega)
        have e1 : IntKind.i64.wrap ((q.size : Int) - 1) = (i.length : Int) := by rw [wrap_i64_of (by omega) (by omega)]; omega
        have hg : q[i.length]? = some b := by rw [ba_get, hi]; simp
        have d2 : ((i.length : Int) ≤ (q.size : Int)) = True := eq_true (by omega)
        by_cases hb : b = 32
        · subst hb
          have d3 : decide (UInt8.toNat 32 = 32) = true := rfl
          simp only [go_sem, d0, e1, hg, d2, d3, ↓reduceIte, Nat.reduceEqDiff, Nat.reduceAdd, Nat.reduceLeDiff, reduceCtorEq, Nat.reduceLT, Int.reduceLT, Int.reduceLE, Int.reduceEq, Int.reduceToNat, Nat.reduceMul]
          have et : (q.extract 0 i.length).data.toList = i := by rw [← take_bytes, hi]; simp
          have ez : (q.extract 0 i.length).size = i.length := by rw [← ba_len, et]
          refine rd_of (q.extract 0 i.length) (by rw [ez]; omega) ⟨by rw [ez]; omega, ?_, ?_⟩ ?_
          · rw [et, ← trim_back, ← hi]; exact ht
          · rw [et]; intro b hb; refine hh b ?_
            rw [hi]
            cases i with
            | nil => cases hb
            | cons a i => exact hb
          · exact (subL [] [] (by simp [envS, go_sem, wkV, wkL, AV.ids, idsL, keysOf, ren, stoOf, slTrees, AV.asOwn, rowPart, AV.isNil] <;> assumption) (by simp [stoS, go_sem, wkV, wkL, wkO, AV.ids, Ob.ids, idsL, keysOf, ren, AV.one, stoOf, slTrees, AV.asOwn, rowPart, AV.isNil] <;> assumption) (by simp [keysOf, ren]) (by simp [stoOf, keysOf, ren]) (by simp [keysOf, ren]) (by simp [keysOf, ren]))
        · have d1 : decide (b.toNat = 32) = false := decide_eq_false (fun e => hb (UInt8.toNat_inj.1 e))
          have hv : (⟨(Lib.trimB s.data.toList 32).toArray⟩ : ByteArray) = q := by
            rw [← ht, trim_done 32 _ hh (by rw [hi]; simpa using hb)]
          simp only [go_sem, d0, e1, hg, d1, ↓reduceIte, Nat.reduceEqDiff, Nat.reduceAdd, Nat.reduceLeDiff, reduceCtorEq, Nat.reduceLT, Int.reduceLT, Int.reduceLE, Int.reduceEq, Int.reduceToNat, Nat.reduceMul]
          rw [hv]
          refine wends (by first | exact Or.inl rfl | exact Or.inr rfl) ?_ (by first | rfl | simp [AV.ids, idsL])
          simp only [go_sem, r_ref10_trim, ↓reduceIte, Nat.reduceEqDiff, Nat.reduceAdd, Nat.reduceLeDiff, reduceCtorEq, Nat.reduceLT, Int.reduceLT, Int.reduceLE, Int.reduceEq, Int.reduceToNat, Nat.reduceMul]

end Go.Proofs.YtcadhlakhdndjaaDoor
