/- Contracts of what makes rings. No statement of the seat is proved here. -/
import Derived.Test.YtmjlldlaigoflaaGreatRgSet
import Derived.Test.YtmjlldlaigoflaaGreatWdMid
set_option linter.unusedSimpArgs false
set_option linter.unusedVariables false
namespace Go.Proofs.YtmjlldlaigoflaaGreat
open Go Go.Sx

theorem f_bits_Mul (x y : Nat) (hx : x < 18446744073709551616) (hy : y < 18446744073709551616) : Meets Tryz.prog E0 n_bits_Mul [U x, U y] [] (.tp [U (x * y / 18446744073709551616 : Nat), U (x * y % 18446744073709551616 : Nat)]) [] := by
  refine m_bits_Mul (by simp) (shut0 rfl) (shut0 rfl) (by simp) (by simp [keysOf]) ?_
  simp only [go_sem, s_bits_Mul, ↓reduceIte, Nat.reduceEqDiff, Nat.reduceAdd, Nat.reduceLeDiff, reduceCtorEq, Nat.reduceLT, Int.reduceLT, Int.reduceLE, Int.reduceEq, Int.reduceToNat, Nat.reduceMul]
  refine Cl_plain (f_bits_Mul64 x y hx hy) ?_
  simp only [go_sem, ↓reduceIte, Nat.reduceEqDiff, Nat.reduceAdd, Nat.reduceLeDiff, reduceCtorEq, Nat.reduceLT, Int.reduceLT, Int.reduceLE, Int.reduceEq, Int.reduceToNat, Nat.reduceMul]
  refine wends (by first | exact Or.inl rfl | exact Or.inr rfl) ?_ (by first | rfl | simp [AV.ids, idsL])
  simp only [go_sem, r_bits_Mul, ↓reduceIte, Nat.reduceEqDiff, Nat.reduceAdd, Nat.reduceLeDiff, reduceCtorEq, Nat.reduceLT, Int.reduceLT, Int.reduceLE, Int.reduceEq, Int.reduceToNat, Nat.reduceMul]

theorem f_Repeat (e : List T) (he : e.length = 2) (c : Nat) (h1 : 1 ≤ c) (h2 : c ≤ 100000) : Meets Tryz.prog E0 n_slices_Repeat_Sapi_Slot_api_Slot [.t (.sl 2 [e]), I c] [] (.t (.sl 2 (List.replicate c e))) [] := by
  refine m_slices_Repeat_Sapi_Slot_api_Slot (by simp) (shut0 rfl) (shut0 rfl) (by simp) (by simp [keysOf]) ?_
  have d0 : decide ((c : Int) < 0) = false := by simp
  have w1 : IntKind.u64.wrap ((1 : Nat) : Int) = ((1 : Nat) : Int) := rfl
  have wc : IntKind.u64.wrap (c : Int) = ((c : Nat) : Int) := by rw [u64_wrap_nat]; omega
  simp only [go_sem, s_slices_Repeat_Sapi_Slot_api_Slot, d0, wc, w1, ↓reduceIte, Nat.reduceEqDiff, Nat.reduceAdd, Nat.reduceLeDiff, reduceCtorEq, Nat.reduceLT, Int.reduceLT, Int.reduceLE, Int.reduceEq, Int.reduceToNat, Nat.reduceMul]
  refine Cl_plain (f_bits_Mul 1 c (by decide) (by omega)) ?_
  have m1 : c / 18446744073709551616 = 0 := by omega
  have m2 : c % 18446744073709551616 = c := by omega
  have d1 : decide (0 < 0) = false := rfl
  have d2 : decide (9223372036854775807 < c) = false := by simp; omega
  have wi : IntKind.i64.wrap (c : Int) = (c : Int) := wrap_i64_of (by omega) (by omega)
  have b1 : ((16 : Nat) : Int) * (c : Int) ≤ 2 ^ 48 := by omega
  have b2 : (c : Int) < 2 ^ 47 := by omega
  have b3 : min 1 c = 1 := by omega
  have b4 : splice (List.replicate c [T.v (.int .i64 0), T.v (.int .i64 0)]) 0 ([e].take c) = List.replicate 1 e ++ List.replicate (c - 1) [T.v (.int .i64 0), T.v (.int .i64 0)] := by
    obtain ⟨d, rfl⟩ : ∃ d, c = d + 1 := ⟨c - 1, by omega⟩
    simp [splice]
  simp only [splice, List.take_zero, List.nil_append, Nat.zero_add] at b4
  simp only [go_sem, m1, m2, d1, d2, wi, b1, b2, b3, b4, Int.le_refl, ↓reduceIte, Nat.reduceEqDiff, Nat.reduceAdd, Nat.reduceLeDiff, reduceCtorEq, Nat.reduceLT, Int.reduceLT, Int.reduceLE, Int.reduceEq, Int.reduceToNat, Nat.reduceMul]
  refine W_loop (fun n : Nat => c - n) (fun n => 1 ≤ n ∧ n ≤ c)
    (fun n => [(7, .own 126 2 0 c true), (8, I n)])
    (fun n => [(126, .row 2 true (List.replicate n e ++ List.replicate (c - n) [T.v (.int .i64 0), T.v (.int .i64 0)]))])
    1 ⟨by omega, by omega⟩ ?_ ?_
  · exact (subL [] [] (by simp [envS, go_sem, wkV, wkL, AV.ids, idsL, keysOf, ren, stoOf, slTrees, AV.asOwn, rowPart, AV.isNil] <;> assumption) (by simp [stoS, go_sem, wkV, wkL, wkO, AV.ids, Ob.ids, idsL, keysOf, ren, AV.one, stoOf, slTrees, AV.asOwn, rowPart, AV.isNil] <;> assumption) (by simp [keysOf, ren]) (by simp [stoOf, keysOf, ren]) (by simp [keysOf, ren]) (by simp [keysOf, ren]))
  · rintro n ⟨hn1, hn2⟩
    simp only [go_sem, ↓reduceIte, Nat.reduceEqDiff, Nat.reduceAdd, Nat.reduceLeDiff, reduceCtorEq, Nat.reduceLT, Int.reduceLT, Int.reduceLE, Int.reduceEq, Int.reduceToNat, Nat.reduceMul]
    refine W_split rfl (fun h3 => ?_) (fun h3 => ?_)
    · simp at h3
      have hs := splice_rep e [T.v (.int .i64 0), T.v (.int .i64 0)] c n hn2
      simp only [splice] at hs
      have hle : (n : Int) ≤ (c : Int) := by omega
      have ht : ((c : Int) - (n : Int)).toNat = c - n := by omega
      have hk : IntKind.i64.wrap ((n : Int) + ((min n (c - n) : Nat) : Int)) = ((n + min n (c - n) : Nat) : Int) := by rw [wrap_i64_of (by omega) (by omega)]; omega
      simp only [go_sem, hle, ht, Nat.le_add_right, hs, hk, ↓reduceIte, Nat.reduceEqDiff, Nat.reduceAdd, Nat.reduceLeDiff, reduceCtorEq, Nat.reduceLT, Int.reduceLT, Int.reduceLE, Int.reduceEq, Int.reduceToNat, Nat.reduceMul]
      refine rd_of (n + min n (c - n)) (by first | omega | (simp only; omega)) ⟨by first | omega | (simp only; omega), by first | omega | (simp only; omega)⟩ ?_
      exact (subL [] [] (by simp [envS, go_sem, wkV, wkL, AV.ids, idsL, keysOf, ren, stoOf, slTrees, AV.asOwn, rowPart, AV.isNil] <;> assumption) (by simp [stoS, go_sem, wkV, wkL, wkO, AV.ids, Ob.ids, idsL, keysOf, ren, AV.one, stoOf, slTrees, AV.asOwn, rowPart, AV.isNil] <;> assumption) (by simp [keysOf, ren]) (by simp [stoOf, keysOf, ren]) (by simp [keysOf, ren]) (by simp [keysOf, ren]))
    · simp at h3
      simp only [go_sem, ↓reduceIte, Nat.reduceEqDiff, Nat.reduceAdd, Nat.reduceLeDiff, reduceCtorEq, Nat.reduceLT, Int.reduceLT, Int.reduceLE, Int.reduceEq, Int.reduceToNat, Nat.reduceMul]
      have e1 : n = c := by omega
      subst e1
      refine wends2 [] [126] (by first | exact Or.inl rfl | exact Or.inr rfl) ?_ (by simp [AV.ids, idsL]) (by simp [stoS]) (by simp [keysOf]) (by simp [stoOf, keysOf] <;> assumption) (by simp [keysOf]) (by simp [keysOf])
      simp only [go_sem, r_slices_Repeat_Sapi_Slot_api_Slot, exists_eq_left', Option.some.injEq, ↓reduceIte, Nat.reduceEqDiff, Nat.reduceAdd, Nat.reduceLeDiff, reduceCtorEq, Nat.reduceLT, Int.reduceLT, Int.reduceLE, Int.reduceEq, Int.reduceToNat, Nat.reduceMul]
      simp [wkV, wkL, slTrees, AV.asOwn, rowPart, stoOf, AV.isNil]

theorem f_ring_New (w c : Int) : Meets Tryz.prog E0 n_ring_New [I w, I c] [] (.tp [ringV (newM w c).1.1 (newM w c).1.2, I (newM w c).2]) [] := by
  refine m_ring_New (by simp) (shut0 rfl) (shut0 rfl) (by simp) (by simp [keysOf]) ?_
  simp only [go_sem, s_ring_New, ↓reduceIte, Nat.reduceEqDiff, Nat.reduceAdd, Nat.reduceLeDiff, reduceCtorEq, Nat.reduceLT, Int.reduceLT, Int.reduceLE, Int.reduceEq, Int.reduceToNat, Nat.reduceMul]
  refine Cl_plain (f_ring_sized w c) ?_
  cases h : sizedB w c
  · simp only [go_sem, h, ↓reduceIte, Nat.reduceEqDiff, Nat.reduceAdd, Nat.reduceLeDiff, reduceCtorEq, Nat.reduceLT, Int.reduceLT, Int.reduceLE, Int.reduceEq, Int.reduceToNat, Nat.reduceMul]
    refine wends2 [] [] (by first | exact Or.inl rfl | exact Or.inr rfl) ?_ (by simp [AV.ids, idsL]) (by simp [stoS]) (by simp [keysOf]) (by simp [stoOf, keysOf] <;> assumption) (by simp [keysOf]) (by simp [keysOf])
    simp only [go_sem, r_ring_New, exists_eq_left', Option.some.injEq, ↓reduceIte, Nat.reduceEqDiff, Nat.reduceAdd, Nat.reduceLeDiff, reduceCtorEq, Nat.reduceLT, Int.reduceLT, Int.reduceLE, Int.reduceEq, Int.reduceToNat, Nat.reduceMul]
    simp [wkV, wkL, slTrees, AV.asOwn, rowPart, stoOf, AV.isNil, newM, h]
  · have h' := sizedB_iff.1 h
    obtain ⟨n, rfl⟩ : ∃ n : Nat, c = n := ⟨c.toNat, by omega⟩
    simp only [go_sem, h, ↓reduceIte, Nat.reduceEqDiff, Nat.reduceAdd, Nat.reduceLeDiff, reduceCtorEq, Nat.reduceLT, Int.reduceLT, Int.reduceLE, Int.reduceEq, Int.reduceToNat, Nat.reduceMul]
    refine Cl_show [111] (f_Repeat (slT (-1, 0)) rfl n (by omega) (by omega)) ?_ (by simp [stoOf]) ?_
    · exact .one (Wk.row (by simp [slTrees, AV.asOwn, rowPart, stoOf, slT]) (by simp)) (.one (Wk.refl _) .nil)
    simp only [go_sem, ↓reduceIte, Nat.reduceEqDiff, Nat.reduceAdd, Nat.reduceLeDiff, reduceCtorEq, Nat.reduceLT, Int.reduceLT, Int.reduceLE, Int.reduceEq, Int.reduceToNat, Nat.reduceMul]
    refine wends (by first | exact Or.inl rfl | exact Or.inr rfl) ?_ (by first | rfl | simp [AV.ids, idsL])
    simp only [go_sem, r_ring_New, ↓reduceIte, Nat.reduceEqDiff, Nat.reduceAdd, Nat.reduceLeDiff, reduceCtorEq, Nat.reduceLT, Int.reduceLT, Int.reduceLE, Int.reduceEq, Int.reduceToNat, Nat.reduceMul]
    simp [newM, h]

end Go.Proofs.YtmjlldlaigoflaaGreat
