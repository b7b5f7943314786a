/- The laws on archives' texts, under their conditions. No statement of the seat is proved here. -/
import Derived.Test.YtcadhlakhdndjaaDoorRtBack
import Derived.Test.YtcadhlakhdndjaaDoorLdSame
import Derived.Test.YtcadhlakhdndjaaDoorSxH
set_option linter.unusedSimpArgs false
set_option linter.unusedVariables false
namespace Go.Proofs.YtcadhlakhdndjaaDoor
open Go Go.Sx

theorem f_law10_alive : Meets Tryd.prog E0 n_law10_alive [] [] (Bo true) [] := by
  refine m_law10_alive (by simp) (shut0 rfl) (shut0 rfl) (by simp) (by simp [keysOf]) ?_
  have h1 : Meets Tryd.prog E0 n_retention_Parse [Str (bs [54, 48, 115, 58, 53, 109, 44, 32, 53, 109, 58, 51, 48, 109])] [] (.tp [slL [(60, 5), (300, 6)], I 0]) [] := by
    have := f_retention_Parse (bs [54, 48, 115, 58, 53, 109, 44, 32, 53, 109, 58, 51, 48, 109]) (by decide)
    rw [show rtParse (bs [54, 48, 115, 58, 53, 109, 44, 32, 53, 109, 58, 51, 48, 109]).data.toList = ([(60, 5), (300, 6)], 0) from by decide +kernel] at this
    exact this
  have h2 : Meets Tryd.prog E0 n_retention_Parse [Str (bs [48, 115, 58, 49, 109])] [] (.tp [slL [], I 3]) [] := by
    have := f_retention_Parse (bs [48, 115, 58, 49, 109]) (by decide)
    rw [show rtParse (bs [48, 115, 58, 49, 109]).data.toList = ([], 3) from by decide +kernel] at this
    exact this
  have h3 : Meets Tryd.prog E0 n_retention_Span [Str (bs [50, 104])] [] (.tp [I 7200, I 0]) [] := by
    have := f_retention_Span (bs [50, 104]) (by decide)
    rw [show rtSpn (bs [50, 104]).data.toList = (7200, 0) from by decide +kernel] at this
    exact this
  have h4 := f_ref08_SameRungs [(60, 5), (300, 6)] (by unfold maxLen; decide)
  simp only [go_sem, s_law10_alive, ↓reduceIte, Nat.reduceEqDiff, Nat.reduceAdd, Nat.reduceLeDiff, reduceCtorEq, Nat.reduceLT, Int.reduceLT, Int.reduceLE, Int.reduceEq, Int.reduceToNat, Nat.reduceMul]
  refine Cl_plain h1 ?_
  simp only [go_sem, ↓reduceIte, Nat.reduceEqDiff, Nat.reduceAdd, Nat.reduceLeDiff, reduceCtorEq, Nat.reduceLT, Int.reduceLT, Int.reduceLE, Int.reduceEq, Int.reduceToNat, Nat.reduceMul]
  refine Cl_plain h2 ?_
  simp only [go_sem, ↓reduceIte, Nat.reduceEqDiff, Nat.reduceAdd, Nat.reduceLeDiff, reduceCtorEq, Nat.reduceLT, Int.reduceLT, Int.reduceLE, Int.reduceEq, Int.reduceToNat, Nat.reduceMul]
  refine Cl_plain h3 ?_
  simp only [go_sem, ↓reduceIte, Nat.reduceEqDiff, Nat.reduceAdd, Nat.reduceLeDiff, reduceCtorEq, Nat.reduceLT, Int.reduceLT, Int.reduceLE, Int.reduceEq, Int.reduceToNat, Nat.reduceMul]
  refine Cl_keep [137] h4 ?_ (by simp [stoOf]) rfl ?_
  · exact .one (Wk.refl _) (.one (Wk.row (by simp [slTrees, AV.asOwn, rowPart, stoOf, slT]) (by simp)) .nil)
  simp only [go_sem, ↓reduceIte, Nat.reduceEqDiff, Nat.reduceAdd, Nat.reduceLeDiff, reduceCtorEq, Nat.reduceLT, Int.reduceLT, Int.reduceLE, Int.reduceEq, Int.reduceToNat, Nat.reduceMul]
  refine wends (by first | exact Or.inl rfl | exact Or.inr rfl) ?_ (by first | rfl | simp [AV.ids, idsL])
  simp only [go_sem, r_law10_alive, ↓reduceIte, Nat.reduceEqDiff, Nat.reduceAdd, Nat.reduceLeDiff, reduceCtorEq, Nat.reduceLT, Int.reduceLT, Int.reduceLE, Int.reduceEq, Int.reduceToNat, Nat.reduceMul]

theorem f_law10_RetentionParses (s : ByteArray) : Meets Tryd.prog E0 n_law10_RetentionParses [Str s] [] (Bo true) [] := by
  refine m_law10_RetentionParses (by simp) (shut0 rfl) (shut0 rfl) (by simp) (by simp [keysOf]) ?_
  simp only [go_sem, s_law10_RetentionParses, ↓reduceIte, Nat.reduceEqDiff, Nat.reduceAdd, Nat.reduceLeDiff, reduceCtorEq, Nat.reduceLT, Int.reduceLT, Int.reduceLE, Int.reduceEq, Int.reduceToNat, Nat.reduceMul]
  refine Cl_plain f_law10_alive ?_
  cases h : decide ((500 : Int) < (s.size : Int))
  · have h' := of_decide_eq_false h
    have h1 := f_retention_Parse s (by omega)
    have h2 := f_ref10_Parse s (by omega)
    have h3 := f_retention_Span s (by omega)
    have h4 := f_ref10_Span s (by omega)
    have hlen : (rtParse s.data.toList).1.length ≤ 4 := by
      rcases parse_ok s.data.toList with ⟨_, h⟩ | ⟨_, h⟩
      · exact (tog_len h).2
      · rw [h]; simp
    have h5 := f_ref08_SameRungs (rtParse s.data.toList).1 (by unfold maxLen; omega)
    generalize rtParse s.data.toList = x at *
    generalize rtSpn s.data.toList = y at *
    have e : ∀ i : Int, decide (i = i) = true := fun i => decide_eq_true rfl
    simp only [go_sem, h, ↓reduceIte, Nat.reduceEqDiff, Nat.reduceAdd, Nat.reduceLeDiff, reduceCtorEq, Nat.reduceLT, Int.reduceLT, Int.reduceLE, Int.reduceEq, Int.reduceToNat, Nat.reduceMul]
    refine Cl_plain h1 ?_
    simp only [go_sem, ↓reduceIte, Nat.reduceEqDiff, Nat.reduceAdd, Nat.reduceLeDiff, reduceCtorEq, Nat.reduceLT, Int.reduceLT, Int.reduceLE, Int.reduceEq, Int.reduceToNat, Nat.reduceMul]
    refine Cl_plain h2 ?_
    simp only [go_sem, ↓reduceIte, Nat.reduceEqDiff, Nat.reduceAdd, Nat.reduceLeDiff, reduceCtorEq, Nat.reduceLT, Int.reduceLT, Int.reduceLE, Int.reduceEq, Int.reduceToNat, Nat.reduceMul]
    refine Cl_plain h3 ?_
    simp only [go_sem, ↓reduceIte, Nat.reduceEqDiff, Nat.reduceAdd, Nat.reduceLeDiff, reduceCtorEq, Nat.reduceLT, Int.reduceLT, Int.reduceLE, Int.reduceEq, Int.reduceToNat, Nat.reduceMul]
    refine Cl_plain h4 ?_
    simp only [go_sem, ↓reduceIte, Nat.reduceEqDiff, Nat.reduceAdd, Nat.reduceLeDiff, reduceCtorEq, Nat.reduceLT, Int.reduceLT, Int.reduceLE, Int.reduceEq, Int.reduceToNat, Nat.reduceMul]
    refine Cl_plain h5 ?_
    simp only [go_sem, e, ↓reduceIte, Nat.reduceEqDiff, Nat.reduceAdd, Nat.reduceLeDiff, reduceCtorEq, Nat.reduceLT, Int.reduceLT, Int.reduceLE, Int.reduceEq, Int.reduceToNat, Nat.reduceMul]
    refine wends (by first | exact Or.inl rfl | exact Or.inr rfl) ?_ (by first | rfl | simp [AV.ids, idsL])
    simp only [go_sem, r_law10_RetentionParses, ↓reduceIte, Nat.reduceEqDiff, Nat.reduceAdd, Nat.reduceLeDiff, reduceCtorEq, Nat.reduceLT, Int.reduceLT, Int.reduceLE, Int.reduceEq, Int.reduceToNat, Nat.reduceMul]
  · simp only [go_sem, h, ↓reduceIte, Nat.reduceEqDiff, Nat.reduceAdd, Nat.reduceLeDiff, reduceCtorEq, Nat.reduceLT, Int.reduceLT, Int.reduceLE, Int.reduceEq, Int.reduceToNat, Nat.reduceMul]
    refine wends (by first | exact Or.inl rfl | exact Or.inr rfl) ?_ (by first | rfl | simp [AV.ids, idsL])
    simp only [go_sem, r_law10_RetentionParses, ↓reduceIte, Nat.reduceEqDiff, Nat.reduceAdd, Nat.reduceLeDiff, reduceCtorEq, Nat.reduceLT, Int.reduceLT, Int.reduceLE, Int.reduceEq, Int.reduceToNat, Nat.reduceMul]

theorem f_law10_RetentionTogether (l : List Rung) (a b : Int) : Meets Tryd.prog E0 n_law10_RetentionTogether [slL l, .ag [I a, I b]] [] (Bo true) [] := by
  refine m_law10_RetentionTogether (by simp) (shut0 rfl) (shut0 rfl) (by simp) (by simp [keysOf]) ?_
  simp only [go_sem, s_law10_RetentionTogether, ↓reduceIte, Nat.reduceEqDiff, Nat.reduceAdd, Nat.reduceLeDiff, reduceCtorEq, Nat.reduceLT, Int.reduceLT, Int.reduceLE, Int.reduceEq, Int.reduceToNat, Nat.reduceMul]
  refine Cl_plain f_law10_alive ?_
  cases h : decide ((1000 : Int) < (l.length : Int))
  · have h' := of_decide_eq_false h
    have h1 := f_retention_Print l (by omega)
    have h2 := f_ref10_Print l (by omega)
    have h3 := f_retention_Together l
    have h4 := f_ref10_Together l (by omega)
    have h5 := f_retention_Reach a b
    have h6 := f_ref10_Reach a b
    have e : ∀ i : Int, decide (i = i) = true := fun i => decide_eq_true rfl
    have e1 : binStr .eql (toB (rtPrint l).1) (toB (rtPrint l).1) = some (.bool true) := by simp [binStr]
    generalize rtPrint l = x at *
    generalize togB l = t at *
    generalize rchM (a, b) = y at *
    simp only [go_sem, h, ↓reduceIte, Nat.reduceEqDiff, Nat.reduceAdd, Nat.reduceLeDiff, reduceCtorEq, Nat.reduceLT, Int.reduceLT, Int.reduceLE, Int.reduceEq, Int.reduceToNat, Nat.reduceMul]
    refine Cl_plain h1 ?_
    simp only [go_sem, ↓reduceIte, Nat.reduceEqDiff, Nat.reduceAdd, Nat.reduceLeDiff, reduceCtorEq, Nat.reduceLT, Int.reduceLT, Int.reduceLE, Int.reduceEq, Int.reduceToNat, Nat.reduceMul]
    refine Cl_plain h2 ?_
    simp only [go_sem, ↓reduceIte, Nat.reduceEqDiff, Nat.reduceAdd, Nat.reduceLeDiff, reduceCtorEq, Nat.reduceLT, Int.reduceLT, Int.reduceLE, Int.reduceEq, Int.reduceToNat, Nat.reduceMul]
    refine Cl_plain h3 ?_
    simp only [go_sem, ↓reduceIte, Nat.reduceEqDiff, Nat.reduceAdd, Nat.reduceLeDiff, reduceCtorEq, Nat.reduceLT, Int.reduceLT, Int.reduceLE, Int.reduceEq, Int.reduceToNat, Nat.reduceMul]
    refine Cl_plain h4 ?_
    simp only [go_sem, e, e1, beq_self_eq_true, ↓reduceIte, Nat.reduceEqDiff, Nat.reduceAdd, Nat.reduceLeDiff, reduceCtorEq, Nat.reduceLT, Int.reduceLT, Int.reduceLE, Int.reduceEq, Int.reduceToNat, Nat.reduceMul]
    refine Cl_plain h5 ?_
    simp only [go_sem, ↓reduceIte, Nat.reduceEqDiff, Nat.reduceAdd, Nat.reduceLeDiff, reduceCtorEq, Nat.reduceLT, Int.reduceLT, Int.reduceLE, Int.reduceEq, Int.reduceToNat, Nat.reduceMul]
    refine Cl_plain h6 ?_
    simp only [go_sem, e, ↓reduceIte, Nat.reduceEqDiff, Nat.reduceAdd, Nat.reduceLeDiff, reduceCtorEq, Nat.reduceLT, Int.reduceLT, Int.reduceLE, Int.reduceEq, Int.reduceToNat, Nat.reduceMul]
    ((try (with_reducible refine R_fin (by repeat' (first | exact okp0 | refine okp rfl rfl rfl ?_)) ?_)); (try simp only [go_sem, e, ↓reduceIte, Nat.reduceEqDiff, Nat.reduceAdd, Nat.reduceLeDiff, reduceCtorEq, Nat.reduceLT, Int.reduceLT, Int.reduceLE, Int.reduceEq, Int.reduceToNat, Nat.reduceMul]))
    refine wends (by first | exact Or.inl rfl | exact Or.inr rfl) ?_ (by first | rfl | simp [AV.ids, idsL])
    simp only [go_sem, r_law10_RetentionTogether, ↓reduceIte, Nat.reduceEqDiff, Nat.reduceAdd, Nat.reduceLeDiff, reduceCtorEq, Nat.reduceLT, Int.reduceLT, Int.reduceLE, Int.reduceEq, Int.reduceToNat, Nat.reduceMul]
  · simp only [go_sem, h, ↓reduceIte, Nat.reduceEqDiff, Nat.reduceAdd, Nat.reduceLeDiff, reduceCtorEq, Nat.reduceLT, Int.reduceLT, Int.reduceLE, Int.reduceEq, Int.reduceToNat, Nat.reduceMul]
    refine wends (by first | exact Or.inl rfl | exact Or.inr rfl) ?_ (by first | rfl | simp [AV.ids, idsL])
    simp only [go_sem, r_law10_RetentionTogether, ↓reduceIte, Nat.reduceEqDiff, Nat.reduceAdd, Nat.reduceLeDiff, reduceCtorEq, Nat.reduceLT, Int.reduceLT, Int.reduceLE, Int.reduceEq, Int.reduceToNat, Nat.reduceMul]

theorem f_law10_RetentionBack (l : List Rung) : Meets Tryd.prog E0 n_law10_RetentionBack [slL l] [] (Bo true) [] := by
  refine m_law10_RetentionBack (by simp) (shut0 rfl) (shut0 rfl) (by simp) (by simp [keysOf]) ?_
  simp only [go_sem, s_law10_RetentionBack, ↓reduceIte, Nat.reduceEqDiff, Nat.reduceAdd, Nat.reduceLeDiff, reduceCtorEq, Nat.reduceLT, Int.reduceLT, Int.reduceLE, Int.reduceEq, Int.reduceToNat, Nat.reduceMul]
  refine Cl_plain f_law10_alive ?_
  cases h : decide ((1000 : Int) < (l.length : Int))
  · have h' := of_decide_eq_false h
    have h1 := f_retention_Print l (by omega)
    have e : ∀ i : Int, decide (i = i) = true := fun i => decide_eq_true rfl
    unfold rtPrint at h1
    cases ht : togB l
    · have h4 := f_ref10_Together l (by omega)
      rw [ht] at h4
      rw [ht, if_neg (by decide)] at h1
      have es := strT []
      simp only [go_sem, h, ↓reduceIte, Nat.reduceEqDiff, Nat.reduceAdd, Nat.reduceLeDiff, reduceCtorEq, Nat.reduceLT, Int.reduceLT, Int.reduceLE, Int.reduceEq, Int.reduceToNat, Nat.reduceMul]
      refine Cl_plain h1 ?_
      simp only [go_sem, es, ↓reduceIte, Nat.reduceEqDiff, Nat.reduceAdd, Nat.reduceLeDiff, reduceCtorEq, Nat.reduceLT, Int.reduceLT, Int.reduceLE, Int.reduceEq, Int.reduceToNat, Nat.reduceMul]
      refine Cl_plain h4 ?_
      simp only [go_sem, ↓reduceIte, Nat.reduceEqDiff, Nat.reduceAdd, Nat.reduceLeDiff, reduceCtorEq, Nat.reduceLT, Int.reduceLT, Int.reduceLE, Int.reduceEq, Int.reduceToNat, Nat.reduceMul]
      refine wends (by first | exact Or.inl rfl | exact Or.inr rfl) ?_ (by first | rfl | simp [AV.ids, idsL])
      simp only [go_sem, r_law10_RetentionBack, ↓reduceIte, Nat.reduceEqDiff, Nat.reduceAdd, Nat.reduceLeDiff, reduceCtorEq, Nat.reduceLT, Int.reduceLT, Int.reduceLE, Int.reduceEq, Int.reduceToNat, Nat.reduceMul]
    · rw [ht, if_pos rfl] at h1
      have hl := tog_len ht
      have tl := text_len (tog_all ht) l.length
      rw [List.take_length] at tl
      have h2 := f_retention_Parse (toB (rtText l)) (by show (rtText l).length ≤ _; omega)
      rw [toB_data, rt_back ht] at h2
      have h3 := f_ref08_SameRungs l (by unfold maxLen; omega)
      simp only [go_sem, h, ↓reduceIte, Nat.reduceEqDiff, Nat.reduceAdd, Nat.reduceLeDiff, reduceCtorEq, Nat.reduceLT, Int.reduceLT, Int.reduceLE, Int.reduceEq, Int.reduceToNat, Nat.reduceMul]
      refine Cl_plain h1 ?_
      simp only [go_sem, ↓reduceIte, Nat.reduceEqDiff, Nat.reduceAdd, Nat.reduceLeDiff, reduceCtorEq, Nat.reduceLT, Int.reduceLT, Int.reduceLE, Int.reduceEq, Int.reduceToNat, Nat.reduceMul]
      refine Cl_plain h2 ?_
      simp only [go_sem, ↓reduceIte, Nat.reduceEqDiff, Nat.reduceAdd, Nat.reduceLeDiff, reduceCtorEq, Nat.reduceLT, Int.reduceLT, Int.reduceLE, Int.reduceEq, Int.reduceToNat, Nat.reduceMul]
      refine Cl_plain h3 ?_
      simp only [go_sem, ↓reduceIte, Nat.reduceEqDiff, Nat.reduceAdd, Nat.reduceLeDiff, reduceCtorEq, Nat.reduceLT, Int.reduceLT, Int.reduceLE, Int.reduceEq, Int.reduceToNat, Nat.reduceMul]
      refine wends (by first | exact Or.inl rfl | exact Or.inr rfl) ?_ (by first | rfl | simp [AV.ids, idsL])
      simp only [go_sem, r_law10_RetentionBack, ↓reduceIte, Nat.reduceEqDiff, Nat.reduceAdd, Nat.reduceLeDiff, reduceCtorEq, Nat.reduceLT, Int.reduceLT, Int.reduceLE, Int.reduceEq, Int.reduceToNat, Nat.reduceMul]
  · simp only [go_sem, h, ↓reduceIte, Nat.reduceEqDiff, Nat.reduceAdd, Nat.reduceLeDiff, reduceCtorEq, Nat.reduceLT, Int.reduceLT, Int.reduceLE, Int.reduceEq, Int.reduceToNat, Nat.reduceMul]
    refine wends (by first | exact Or.inl rfl | exact Or.inr rfl) ?_ (by first | rfl | simp [AV.ids, idsL])
    simp only [go_sem, r_law10_RetentionBack, ↓reduceIte, Nat.reduceEqDiff, Nat.reduceAdd, Nat.reduceLeDiff, reduceCtorEq, Nat.reduceLT, Int.reduceLT, Int.reduceLE, Int.reduceEq, Int.reduceToNat, Nat.reduceMul]

theorem flw_facts {a b : Rung} (h : flwB a b = true) (ha : szB a = true) (hb : szB b = true) : b.1 / a.1 * a.1 = b.1 ∧ 2 ≤ b.1 / a.1 ∧ b.1 / a.1 ≤ a.2 ∧ rchM a < rchM b := by
  simp only [flwB, Bool.and_eq_true, decide_eq_true_eq] at h
  obtain ⟨h1, h2, h3, h4⟩ := h
  have ha' := szB_iff.1 ha
  have e : b.1 / a.1 * a.1 = b.1 := Int.ediv_mul_cancel (Int.dvd_of_emod_eq_zero h2)
  refine ⟨e, ?_, h4, h3⟩
  apply Decidable.byContradiction
  intro hn
  have h5 : b.1 / a.1 ≤ 1 := by omega
  have := Int.mul_le_mul_of_nonneg_right h5 (show 0 ≤ a.1 by omega)
  rw [e] at this
  omega

theorem f_law10_RetentionMany (s : ByteArray) : Meets Tryd.prog E0 n_law10_RetentionMany [Str s] [] (Bo true) [] := by
  refine m_law10_RetentionMany (by simp) (shut0 rfl) (shut0 rfl) (by simp) (by simp [keysOf]) ?_
  simp only [go_sem, s_law10_RetentionMany, ↓reduceIte, Nat.reduceEqDiff, Nat.reduceAdd, Nat.reduceLeDiff, reduceCtorEq, Nat.reduceLT, Int.reduceLT, Int.reduceLE, Int.reduceEq, Int.reduceToNat, Nat.reduceMul]
  refine Cl_plain f_law10_alive ?_
  cases h : decide ((500 : Int) < (s.size : Int))
  · have h' := of_decide_eq_false h
    have h1 := f_retention_Parse s (by omega)
    have hok := parse_ok s.data.toList
    generalize rtParse s.data.toList = x at *
    obtain ⟨l, e⟩ := x
    simp only at h1 hok
    rcases hok with ⟨rfl, ht⟩ | ⟨he, rfl⟩
    · have hl := tog_len ht
      have ha := tog_all ht
      have hc := tog_chain ht
      simp only [go_sem, h, ↓reduceIte, Nat.reduceEqDiff, Nat.reduceAdd, Nat.reduceLeDiff, reduceCtorEq, Nat.reduceLT, Int.reduceLT, Int.reduceLE, Int.reduceEq, Int.reduceToNat, Nat.reduceMul]
      refine Cl_plain h1 ?_
      simp only [go_sem, ↓reduceIte, Nat.reduceEqDiff, Nat.reduceAdd, Nat.reduceLeDiff, reduceCtorEq, Nat.reduceLT, Int.reduceLT, Int.reduceLE, Int.reduceEq, Int.reduceToNat, Nat.reduceMul]
      refine W_loop (fun j : Nat => l.length - j) (fun j => j + 1 ≤ l.length) (fun j => [(3, slL l), (5, I ((j + 1 : Nat)))]) (fun _ => []) 0 (by omega) ?_ ?_
      · exact (subL [] [] (by simp [envS, go_sem, wkV, wkL, AV.ids, idsL, keysOf, ren, stoOf, slTrees, AV.asOwn, rowPart, AV.isNil] <;> assumption) (by simp [stoS, go_sem, wkV, wkL, wkO, AV.ids, Ob.ids, idsL, keysOf, ren, AV.one, stoOf, slTrees, AV.asOwn, rowPart, AV.isNil] <;> assumption) (by simp [keysOf, ren]) (by simp [stoOf, keysOf, ren]) (by simp [keysOf, ren]) (by simp [keysOf, ren]))
      · intro j hj
        by_cases hjl : j + 1 < l.length
        · have d0 : decide (j + 1 < l.length) = true := decide_eq_true hjl
          obtain ⟨b, hb⟩ := get_of_lt hjl
          obtain ⟨a, hA⟩ := get_of_lt (show j < l.length by omega)
          have sa := all_get ha hA
          have sb := all_get ha hb
          obtain ⟨f1, f2, f3, f4⟩ := flw_facts (chain_get hc hA hb) sa sb
          have sa' := szB_iff.1 sa
          have sb' := szB_iff.1 sb
          obtain ⟨a1, a2⟩ := a
          obtain ⟨b1, b2⟩ := b
          simp only at f1 f2 f3 f4 sa' sb'
          have r1 := f_retention_Reach a1 a2
          have r2 := f_retention_Reach b1 b2
          have w1 : IntKind.i64.wrap (((j + 1 : Nat) : Int) - 1) = (j : Int) := by rw [wrap_i64_of (by omega) (by omega)]; omega
          have w2 : IntKind.i64.wrap (((j + 1 : Nat) : Int) + 1) = ((j + 1 + 1 : Nat) : Int) := by rw [wrap_i64_of (by omega) (by omega)]; omega
          have wq : binInt .quo .i64 b1 a1 = some (.int .i64 (b1 / a1)) := by
            have q0 : (0 : Int) ≤ b1 / a1 := Int.ediv_nonneg (by omega) (by omega)
            have q1 : b1 / a1 ≤ b1 := Int.ediv_le_self _ (by omega)
            rw [i64_quo (by omega), sdiv (by omega), wrap_i64_of (by omega) (by omega)]
          have wm : IntKind.i64.wrap (b1 / a1 * a1) = b1 := by rw [f1, wrap_i64_of (by omega) (by omega)]
          have d1 : decide (b1 / a1 < 2) = false := decide_eq_false (by omega)
          have d2 : decide (b1 = b1) = true := decide_eq_true rfl
          have d3 : decide (a2 < b1 / a1) = false := decide_eq_false (by omega)
          have d4 : decide (rchM (b1, b2) ≤ rchM (a1, a2)) = false := decide_eq_false (by omega)
          generalize b1 / a1 = q at *
          generalize rchM (b1, b2) = y1 at *
          generalize rchM (a1, a2) = y2 at *
          simp only [go_sem, d0, hb, hA, slT, w1, wq, ↓reduceIte, Nat.reduceEqDiff, Nat.reduceAdd, Nat.reduceLeDiff, reduceCtorEq, Nat.reduceLT, Int.reduceLT, Int.reduceLE, Int.reduceEq, Int.reduceToNat, Nat.reduceMul]
          ((try (with_reducible refine R_fin (by repeat' (first | exact okp0 | refine okp rfl rfl rfl ?_)) ?_)); (try simp only [go_sem, d0, hb, hA, slT, w1, wq, wm, d1, d2, d3, ↓reduceIte, Nat.reduceEqDiff, Nat.reduceAdd, Nat.reduceLeDiff, reduceCtorEq, Nat.reduceLT, Int.reduceLT, Int.reduceLE, Int.reduceEq, Int.reduceToNat, Nat.reduceMul]))
          refine Cl_plain r2 ?_
          simp only [go_sem, d0, hb, hA, slT, w1, wq, wm, d1, d2, d3, ↓reduceIte, Nat.reduceEqDiff, Nat.reduceAdd, Nat.reduceLeDiff, reduceCtorEq, Nat.reduceLT, Int.reduceLT, Int.reduceLE, Int.reduceEq, Int.reduceToNat, Nat.reduceMul]
          refine Cl_plain r1 ?_
          simp only [go_sem, d4, ↓reduceIte, Nat.reduceEqDiff, Nat.reduceAdd, Nat.reduceLeDiff, reduceCtorEq, Nat.reduceLT, Int.reduceLT, Int.reduceLE, Int.reduceEq, Int.reduceToNat, Nat.reduceMul]
          ((try (with_reducible refine R_fin (by repeat' (first | exact okp0 | refine okp rfl rfl rfl ?_)) ?_)); (try simp only [go_sem, d4, w2, ↓reduceIte, Nat.reduceEqDiff, Nat.reduceAdd, Nat.reduceLeDiff, reduceCtorEq, Nat.reduceLT, Int.reduceLT, Int.reduceLE, Int.reduceEq, Int.reduceToNat, Nat.reduceMul]))
          exact rd_of (j + 1) (by first | omega | (simp only; omega)) hjl (subL [] [] (by simp [envS, go_sem, wkV, wkL, AV.ids, idsL, keysOf, ren, stoOf, slTrees, AV.asOwn, rowPart, AV.isNil] <;> assumption) (by simp [stoS, go_sem, wkV, wkL, wkO, AV.ids, Ob.ids, idsL, keysOf, ren, AV.one, stoOf, slTrees, AV.asOwn, rowPart, AV.isNil] <;> assumption) (by simp [keysOf, ren]) (by simp [stoOf, keysOf, ren]) (by simp [keysOf, ren]) (by simp [keysOf, ren]))
        · have d0 : decide (j + 1 < l.length) = false := decide_eq_false hjl
          have d1 : decide ((1 : Int) ≤ (l.length : Int)) = true := decide_eq_true (by omega)
          have d2 : decide ((l.length : Int) ≤ 4) = true := decide_eq_true (by omega)
          simp only [go_sem, d0, d1, d2, ↓reduceIte, Nat.reduceEqDiff, Nat.reduceAdd, Nat.reduceLeDiff, reduceCtorEq, Nat.reduceLT, Int.reduceLT, Int.reduceLE, Int.reduceEq, Int.reduceToNat, Nat.reduceMul]
          refine wends (by first | exact Or.inl rfl | exact Or.inr rfl) ?_ (by first | rfl | simp [AV.ids, idsL])
          simp only [go_sem, r_law10_RetentionMany, ↓reduceIte, Nat.reduceEqDiff, Nat.reduceAdd, Nat.reduceLeDiff, reduceCtorEq, Nat.reduceLT, Int.reduceLT, Int.reduceLE, Int.reduceEq, Int.reduceToNat, Nat.reduceMul]
    · have de : decide (e = 0) = false := decide_eq_false he
      simp only [go_sem, h, ↓reduceIte, Nat.reduceEqDiff, Nat.reduceAdd, Nat.reduceLeDiff, reduceCtorEq, Nat.reduceLT, Int.reduceLT, Int.reduceLE, Int.reduceEq, Int.reduceToNat, Nat.reduceMul]
      refine Cl_plain h1 ?_
      simp only [go_sem, de, ↓reduceIte, Nat.reduceEqDiff, Nat.reduceAdd, Nat.reduceLeDiff, reduceCtorEq, Nat.reduceLT, Int.reduceLT, Int.reduceLE, Int.reduceEq, Int.reduceToNat, Nat.reduceMul]
      refine wends (by first | exact Or.inl rfl | exact Or.inr rfl) ?_ (by first | rfl | simp [AV.ids, idsL])
      simp only [go_sem, r_law10_RetentionMany, ↓reduceIte, Nat.reduceEqDiff, Nat.reduceAdd, Nat.reduceLeDiff, reduceCtorEq, Nat.reduceLT, Int.reduceLT, Int.reduceLE, Int.reduceEq, Int.reduceToNat, Nat.reduceMul]
      rfl
  · simp only [go_sem, h, ↓reduceIte, Nat.reduceEqDiff, Nat.reduceAdd, Nat.reduceLeDiff, reduceCtorEq, Nat.reduceLT, Int.reduceLT, Int.reduceLE, Int.reduceEq, Int.reduceToNat, Nat.reduceMul]
    refine wends (by first | exact Or.inl rfl | exact Or.inr rfl) ?_ (by first | rfl | simp [AV.ids, idsL])
    simp only [go_sem, r_law10_RetentionMany, ↓reduceIte, Nat.reduceEqDiff, Nat.reduceAdd, Nat.reduceLeDiff, reduceCtorEq, Nat.reduceLT, Int.reduceLT, Int.reduceLE, Int.reduceEq, Int.reduceToNat, Nat.reduceMul]

end Go.Proofs.YtcadhlakhdndjaaDoor
