/- Contracts of the small functions on rings. No statement of the seat is proved here. -/
import Derived.Test.YtmjlldlaigoflaaGreatRgMath
set_option linter.unusedSimpArgs false
set_option linter.unusedVariables false
namespace Go.Proofs.YtmjlldlaigoflaaGreat
open Go Go.Sx

theorem f_ring_timed (t : Int) : Meets Tryz.prog E0 n_ring_timed [I t] [] (Bo (timedB t)) [] := by
  refine m_ring_timed (by simp) (shut0 rfl) (shut0 rfl) (by simp) (by simp [keysOf]) ?_
  cases h : decide (0 ≤ t)
  all_goals
    simp only [go_sem, s_ring_timed, h, ↓reduceIte, Nat.reduceEqDiff, Nat.reduceAdd, Nat.reduceLeDiff, reduceCtorEq, Nat.reduceLT, Int.reduceLT, Int.reduceLE, Int.reduceEq, Int.reduceToNat, Nat.reduceMul]
    refine wends (by first | exact Or.inl rfl | exact Or.inr rfl) ?_ (by first | rfl | simp [AV.ids, idsL])
    simp only [go_sem, r_ring_timed, ↓reduceIte, Nat.reduceEqDiff, Nat.reduceAdd, Nat.reduceLeDiff, reduceCtorEq, Nat.reduceLT, Int.reduceLT, Int.reduceLE, Int.reduceEq, Int.reduceToNat, Nat.reduceMul]
    simp [timedB, h]

theorem f_ref13_Timed (t : Int) : Meets Tryz.prog E0 n_ref13_Timed [I t] [] (Bo (timedB t)) [] := by
  refine m_ref13_Timed (by simp) (shut0 rfl) (shut0 rfl) (by simp) (by simp [keysOf]) ?_
  cases h : decide (0 ≤ t)
  all_goals
    simp only [go_sem, s_ref13_Timed, h, ↓reduceIte, Nat.reduceEqDiff, Nat.reduceAdd, Nat.reduceLeDiff, reduceCtorEq, Nat.reduceLT, Int.reduceLT, Int.reduceLE, Int.reduceEq, Int.reduceToNat, Nat.reduceMul]
    refine wends (by first | exact Or.inl rfl | exact Or.inr rfl) ?_ (by first | rfl | simp [AV.ids, idsL])
    simp only [go_sem, r_ref13_Timed, ↓reduceIte, Nat.reduceEqDiff, Nat.reduceAdd, Nat.reduceLeDiff, reduceCtorEq, Nat.reduceLT, Int.reduceLT, Int.reduceLE, Int.reduceEq, Int.reduceToNat, Nat.reduceMul]
    simp [timedB, h]

theorem f_ring_sized (w c : Int) : Meets Tryz.prog E0 n_ring_sized [I w, I c] [] (Bo (sizedB w c)) [] := by
  refine m_ring_sized (by simp) (shut0 rfl) (shut0 rfl) (by simp) (by simp [keysOf]) ?_
  cases h1 : decide (1 ≤ w) <;> cases h2 : decide (w ≤ 86400) <;> cases h3 : decide (1 ≤ c)
  all_goals
    simp only [go_sem, s_ring_sized, h1, h2, h3, ↓reduceIte, Nat.reduceEqDiff, Nat.reduceAdd, Nat.reduceLeDiff, reduceCtorEq, Nat.reduceLT, Int.reduceLT, Int.reduceLE, Int.reduceEq, Int.reduceToNat, Nat.reduceMul]
    refine wends (by first | exact Or.inl rfl | exact Or.inr rfl) ?_ (by first | rfl | simp [AV.ids, idsL])
    simp only [go_sem, r_ring_sized, ↓reduceIte, Nat.reduceEqDiff, Nat.reduceAdd, Nat.reduceLeDiff, reduceCtorEq, Nat.reduceLT, Int.reduceLT, Int.reduceLE, Int.reduceEq, Int.reduceToNat, Nat.reduceMul]
    simp [sizedB, h1, h2, h3]

theorem f_ring_place (w t : Int) (l : List Slot) (hw : 0 < w) (hl : 0 < l.length) (ht : 0 ≤ t) (ht2 : t < 9223372036854775808) : Meets Tryz.prog E0 n_ring_place [ringV w l, I t] [] (I (t / w % (l.length : Int))) [] := by
  refine m_ring_place (by simp) (shut0 rfl) (shut0 rfl) (by simp) (by simp [keysOf]) ?_
  have hw0 : ¬ w = 0 := by omega
  have hl0 : ¬ (l.length : Int) = 0 := by omega
  have h1 : 0 ≤ t / w := Int.ediv_nonneg ht (by omega)
  have h2 : t / w ≤ t := Int.ediv_le_self _ ht
  ((try simp only [go_sem, s_ring_place, ↓reduceIte, Nat.reduceEqDiff, Nat.reduceAdd, Nat.reduceLeDiff, reduceCtorEq, Nat.reduceLT, Int.reduceLT, Int.reduceLE, Int.reduceEq, Int.reduceToNat, Nat.reduceMul]); repeat (simp (disch := omega) only [wrap_i64_of, i64_quo, i64_rem, sdiv, smod]; (try simp only [go_sem, s_ring_place, ↓reduceIte, Nat.reduceEqDiff, Nat.reduceAdd, Nat.reduceLeDiff, reduceCtorEq, Nat.reduceLT, Int.reduceLT, Int.reduceLE, Int.reduceEq, Int.reduceToNat, Nat.reduceMul])))
  refine wends (by first | exact Or.inl rfl | exact Or.inr rfl) ?_ (by first | rfl | simp [AV.ids, idsL])
  simp only [go_sem, r_ring_place, ↓reduceIte, Nat.reduceEqDiff, Nat.reduceAdd, Nat.reduceLeDiff, reduceCtorEq, Nat.reduceLT, Int.reduceLT, Int.reduceLE, Int.reduceEq, Int.reduceToNat, Nat.reduceMul]

theorem f_ring_Right (w : Int) (l : List Slot) : Meets Tryz.prog E0 n_ring_Right [ringV w l] [] (Bo (ringB w l)) [] := by
  refine m_ring_Right (by simp) (shut0 rfl) (shut0 rfl) (by simp) (by simp [keysOf]) ?_
  simp only [go_sem, s_ring_Right, List.length_map, ↓reduceIte, Nat.reduceEqDiff, Nat.reduceAdd, Nat.reduceLeDiff, reduceCtorEq, Nat.reduceLT, Int.reduceLT, Int.reduceLE, Int.reduceEq, Int.reduceToNat, Nat.reduceMul]
  refine Cl_plain (f_ring_sized w l.length) ?_
  simp only [go_sem, ↓reduceIte, Nat.reduceEqDiff, Nat.reduceAdd, Nat.reduceLeDiff, reduceCtorEq, Nat.reduceLT, Int.reduceLT, Int.reduceLE, Int.reduceEq, Int.reduceToNat, Nat.reduceMul]
  refine W_split rfl (fun h => ?_) (fun h => ?_)
  · simp only [go_sem, ↓reduceIte, Nat.reduceEqDiff, Nat.reduceAdd, Nat.reduceLeDiff, reduceCtorEq, Nat.reduceLT, Int.reduceLT, Int.reduceLE, Int.reduceEq, Int.reduceToNat, Nat.reduceMul]
    refine wends (by first | exact Or.inl rfl | exact Or.inr rfl) ?_ (by first | rfl | simp [AV.ids, idsL])
    simp only [go_sem, r_ring_Right, ↓reduceIte, Nat.reduceEqDiff, Nat.reduceAdd, Nat.reduceLeDiff, reduceCtorEq, Nat.reduceLT, Int.reduceLT, Int.reduceLE, Int.reduceEq, Int.reduceToNat, Nat.reduceMul]
    simp at h
    simp [ringB, h]
  · simp at h
    have h' := sizedB_iff.1 h
    simp only [go_sem, List.length_map, ↓reduceIte, Nat.reduceEqDiff, Nat.reduceAdd, Nat.reduceLeDiff, reduceCtorEq, Nat.reduceLT, Int.reduceLT, Int.reduceLE, Int.reduceEq, Int.reduceToNat, Nat.reduceMul]
    refine W_loop (fun i : Nat => l.length - i) (fun i => i ≤ l.length ∧ ringB w l = slotsB w l.length i (l.drop i))
      (fun i => [(1, .ptr 100 0), (13, slL l), (14, I l.length), (15, I i)])
      (fun i => [(100, .box [I w, slL l])])
      0 (by simp [ringB, h]) ?_ ?_
    · exact (subL [] [] (by simp [envS, go_sem, wkV, wkL, AV.ids, idsL, keysOf, ren]) (by simp [stoS, go_sem, wkV, wkL, wkO, AV.ids, Ob.ids, idsL, keysOf, ren, AV.one]) (by simp [keysOf, ren]) (by simp) (by simp [keysOf]) (by simp [keysOf]))
    · rintro i ⟨hi, hr⟩
      simp only [go_sem, ↓reduceIte, Nat.reduceEqDiff, Nat.reduceAdd, Nat.reduceLeDiff, reduceCtorEq, Nat.reduceLT, Int.reduceLT, Int.reduceLE, Int.reduceEq, Int.reduceToNat, Nat.reduceMul]
      refine W_split rfl (fun h1 => ?_) (fun h1 => ?_)
      · simp at h1
        obtain ⟨s, hs⟩ := get_of_lt h1
        rw [drop_get hs] at hr
        simp only [slotsB] at hr
        simp only [go_sem, hs, slT, ↓reduceIte, Nat.reduceEqDiff, Nat.reduceAdd, Nat.reduceLeDiff, reduceCtorEq, Nat.reduceLT, Int.reduceLT, Int.reduceLE, Int.reduceEq, Int.reduceToNat, Nat.reduceMul]
        have ei : IntKind.i64.wrap ((i : Int) + 1) = ((i + 1 : Nat) : Int) := by rw [wrap_i64_of (by omega) (by omega)]; omega
        have e1 : ((i + 1 : Nat) : Int) = (i : Int) + 1 := by omega
        refine W_split rfl (fun h2 => ?_) (fun h2 => ?_)
        · simp only [go_sem, ei, ↓reduceIte, Nat.reduceEqDiff, Nat.reduceAdd, Nat.reduceLeDiff, reduceCtorEq, Nat.reduceLT, Int.reduceLT, Int.reduceLE, Int.reduceEq, Int.reduceToNat, Nat.reduceMul]
          refine rd_of (i + 1) (by first | omega | (simp only; omega)) ⟨by first | omega | (simp only; omega), by rw [hr, e1]; simp [slotB, h2]⟩ ?_
          exact (subL [] [] (by simp [envS, go_sem, wkV, wkL, AV.ids, idsL, keysOf, ren]) (by simp [stoS, go_sem, wkV, wkL, wkO, AV.ids, Ob.ids, idsL, keysOf, ren, AV.one]) (by simp [keysOf, ren]) (by simp) (by simp [keysOf]) (by simp [keysOf]))
        · have hb : slotB w l.length i s = (timedB s.1 && (s.2 != -9223372036854775808) && (s.1 % w == 0) && (s.1 / w % (l.length : Int) == i)) := by simp [slotB, h2]
          rw [hb] at hr
          simp only [go_sem, ↓reduceIte, Nat.reduceEqDiff, Nat.reduceAdd, Nat.reduceLeDiff, reduceCtorEq, Nat.reduceLT, Int.reduceLT, Int.reduceLE, Int.reduceEq, Int.reduceToNat, Nat.reduceMul]
          refine Cl_plain (f_ring_timed s.1) ?_
          simp only [go_sem, ↓reduceIte, Nat.reduceEqDiff, Nat.reduceAdd, Nat.reduceLeDiff, reduceCtorEq, Nat.reduceLT, Int.reduceLT, Int.reduceLE, Int.reduceEq, Int.reduceToNat, Nat.reduceMul]
          refine W_split rfl (fun h3 => ?_) (fun h3 => ?_)
          · simp at h3
            simp only [go_sem, h3, ↓reduceIte, Nat.reduceEqDiff, Nat.reduceAdd, Nat.reduceLeDiff, reduceCtorEq, Nat.reduceLT, Int.reduceLT, Int.reduceLE, Int.reduceEq, Int.reduceToNat, Nat.reduceMul]
            refine wends (by first | exact Or.inl rfl | exact Or.inr rfl) ?_ (by first | rfl | simp [AV.ids, idsL])
            simp only [go_sem, r_ring_Right, ↓reduceIte, Nat.reduceEqDiff, Nat.reduceAdd, Nat.reduceLeDiff, reduceCtorEq, Nat.reduceLT, Int.reduceLT, Int.reduceLE, Int.reduceEq, Int.reduceToNat, Nat.reduceMul]
            simp [hr, h3]
          · simp at h3
            have h3' := timedB_iff.1 h3
            simp only [go_sem, h3, ↓reduceIte, Nat.reduceEqDiff, Nat.reduceAdd, Nat.reduceLeDiff, reduceCtorEq, Nat.reduceLT, Int.reduceLT, Int.reduceLE, Int.reduceEq, Int.reduceToNat, Nat.reduceMul]
            refine W_split rfl (fun h4 => ?_) (fun h4 => ?_)
            · simp at h4
              simp only [go_sem, ↓reduceIte, Nat.reduceEqDiff, Nat.reduceAdd, Nat.reduceLeDiff, reduceCtorEq, Nat.reduceLT, Int.reduceLT, Int.reduceLE, Int.reduceEq, Int.reduceToNat, Nat.reduceMul]
              refine wends (by first | exact Or.inl rfl | exact Or.inr rfl) ?_ (by first | rfl | simp [AV.ids, idsL])
              simp only [go_sem, r_ring_Right, ↓reduceIte, Nat.reduceEqDiff, Nat.reduceAdd, Nat.reduceLeDiff, reduceCtorEq, Nat.reduceLT, Int.reduceLT, Int.reduceLE, Int.reduceEq, Int.reduceToNat, Nat.reduceMul]
              simp [hr, h4]
            · simp at h4
              have hw0 : ¬ w = 0 := by omega
              simp only [go_sem, i64_rem hw0, smod h3'.1, ↓reduceIte, Nat.reduceEqDiff, Nat.reduceAdd, Nat.reduceLeDiff, reduceCtorEq, Nat.reduceLT, Int.reduceLT, Int.reduceLE, Int.reduceEq, Int.reduceToNat, Nat.reduceMul]
              refine W_split rfl (fun h5 => ?_) (fun h5 => ?_)
              · simp at h5
                simp only [go_sem, h5, decide_true, ↓reduceIte, Nat.reduceEqDiff, Nat.reduceAdd, Nat.reduceLeDiff, reduceCtorEq, Nat.reduceLT, Int.reduceLT, Int.reduceLE, Int.reduceEq, Int.reduceToNat, Nat.reduceMul]
                refine wends (by first | exact Or.inl rfl | exact Or.inr rfl) ?_ (by first | rfl | simp [AV.ids, idsL])
                simp only [go_sem, r_ring_Right, ↓reduceIte, Nat.reduceEqDiff, Nat.reduceAdd, Nat.reduceLeDiff, reduceCtorEq, Nat.reduceLT, Int.reduceLT, Int.reduceLE, Int.reduceEq, Int.reduceToNat, Nat.reduceMul]
                have : ¬ s.1 % w = 0 := by omega
                simp [hr, this]
              · simp at h5
                have hm : s.1 % w = 0 := by have := Int.emod_nonneg s.1 hw0; omega
                simp only [go_sem, ↓reduceIte, Nat.reduceEqDiff, Nat.reduceAdd, Nat.reduceLeDiff, reduceCtorEq, Nat.reduceLT, Int.reduceLT, Int.reduceLE, Int.reduceEq, Int.reduceToNat, Nat.reduceMul]
                refine Cl_plain (f_ring_place w s.1 l (by omega) (by omega) h3'.1 (by omega)) ?_
                simp only [go_sem, ↓reduceIte, Nat.reduceEqDiff, Nat.reduceAdd, Nat.reduceLeDiff, reduceCtorEq, Nat.reduceLT, Int.reduceLT, Int.reduceLE, Int.reduceEq, Int.reduceToNat, Nat.reduceMul]
                refine W_split rfl (fun h6 => ?_) (fun h6 => ?_)
                · simp at h6
                  simp only [go_sem, ↓reduceIte, Nat.reduceEqDiff, Nat.reduceAdd, Nat.reduceLeDiff, reduceCtorEq, Nat.reduceLT, Int.reduceLT, Int.reduceLE, Int.reduceEq, Int.reduceToNat, Nat.reduceMul]
                  refine wends (by first | exact Or.inl rfl | exact Or.inr rfl) ?_ (by first | rfl | simp [AV.ids, idsL])
                  simp only [go_sem, r_ring_Right, ↓reduceIte, Nat.reduceEqDiff, Nat.reduceAdd, Nat.reduceLeDiff, reduceCtorEq, Nat.reduceLT, Int.reduceLT, Int.reduceLE, Int.reduceEq, Int.reduceToNat, Nat.reduceMul]
                  simp [hr, h6]
                · simp at h6
                  simp only [go_sem, ei, ↓reduceIte, Nat.reduceEqDiff, Nat.reduceAdd, Nat.reduceLeDiff, reduceCtorEq, Nat.reduceLT, Int.reduceLT, Int.reduceLE, Int.reduceEq, Int.reduceToNat, Nat.reduceMul]
                  refine rd_of (i + 1) (by first | omega | (simp only; omega)) ⟨by first | omega | (simp only; omega), by rw [hr, e1]; simp [h3, h4, hm, h6]⟩ ?_
                  exact (subL [] [] (by simp [envS, go_sem, wkV, wkL, AV.ids, idsL, keysOf, ren]) (by simp [stoS, go_sem, wkV, wkL, wkO, AV.ids, Ob.ids, idsL, keysOf, ren, AV.one]) (by simp [keysOf, ren]) (by simp) (by simp [keysOf]) (by simp [keysOf]))
      · simp at h1
        simp only [go_sem, ↓reduceIte, Nat.reduceEqDiff, Nat.reduceAdd, Nat.reduceLeDiff, reduceCtorEq, Nat.reduceLT, Int.reduceLT, Int.reduceLE, Int.reduceEq, Int.reduceToNat, Nat.reduceMul]
        refine wends (by first | exact Or.inl rfl | exact Or.inr rfl) ?_ (by first | rfl | simp [AV.ids, idsL])
        simp only [go_sem, r_ring_Right, ↓reduceIte, Nat.reduceEqDiff, Nat.reduceAdd, Nat.reduceLeDiff, reduceCtorEq, Nat.reduceLT, Int.reduceLT, Int.reduceLE, Int.reduceEq, Int.reduceToNat, Nat.reduceMul]
        have : i = l.length := by omega
        subst this
        simp [hr, slotsB]

theorem f_ref13_Right (w : Int) (l : List Slot) : Meets Tryz.prog E0 n_ref13_Right [ringV w l] [] (Bo (ringB w l)) [] := by
  refine m_ref13_Right (by simp) (shut0 rfl) (shut0 rfl) (by simp) (by simp [keysOf]) ?_
  have done : sizedB w l.length = false → ringB w l = false := fun h => by simp [ringB, h]
  by_cases h : sizedB w l.length = true
  · have h' := sizedB_iff.1 h
    have d1 : decide (w < 1) = false := by simp; omega
    have d2 : decide (86400 < w) = false := by simp; omega
    have d3 : decide ((l.length : Int) < 1) = false := by simp; omega
    have d4 : decide (400 < (l.length : Int)) = false := by simp; omega
    simp only [go_sem, s_ref13_Right, d1, d2, d3, d4, ↓reduceIte, Nat.reduceEqDiff, Nat.reduceAdd, Nat.reduceLeDiff, reduceCtorEq, Nat.reduceLT, Int.reduceLT, Int.reduceLE, Int.reduceEq, Int.reduceToNat, Nat.reduceMul]
    refine W_loop (fun i : Nat => l.length - i) (fun i => i ≤ l.length ∧ ringB w l = slotsB w l.length i (l.drop i))
      (fun i => [(1, .ptr 100 0), (3, I i)])
      (fun i => [(100, .box [I w, slL l])])
      0 (by simp [ringB, h]) ?_ ?_
    · exact (subL [] [] (by simp [envS, go_sem, wkV, wkL, AV.ids, idsL, keysOf, ren]) (by simp [stoS, go_sem, wkV, wkL, wkO, AV.ids, Ob.ids, idsL, keysOf, ren, AV.one]) (by simp [keysOf, ren]) (by simp) (by simp [keysOf]) (by simp [keysOf]))
    · rintro i ⟨hi, hr⟩
      simp only [go_sem, ↓reduceIte, Nat.reduceEqDiff, Nat.reduceAdd, Nat.reduceLeDiff, reduceCtorEq, Nat.reduceLT, Int.reduceLT, Int.reduceLE, Int.reduceEq, Int.reduceToNat, Nat.reduceMul]
      refine W_split rfl (fun h1 => ?_) (fun h1 => ?_)
      · simp at h1
        obtain ⟨s, hs⟩ := get_of_lt h1
        rw [drop_get hs] at hr
        simp only [slotsB] at hr
        have ei : IntKind.i64.wrap ((i : Int) + 1) = ((i + 1 : Nat) : Int) := by rw [wrap_i64_of (by omega) (by omega)]; omega
        have e1 : ((i + 1 : Nat) : Int) = (i : Int) + 1 := by omega
        simp only [go_sem, hs, slT, ↓reduceIte, Nat.reduceEqDiff, Nat.reduceAdd, Nat.reduceLeDiff, reduceCtorEq, Nat.reduceLT, Int.reduceLT, Int.reduceLE, Int.reduceEq, Int.reduceToNat, Nat.reduceMul]
        refine W_split rfl (fun h2 => ?_) (fun h2 => ?_)
        · simp at h2
          simp only [go_sem, ↓reduceIte, Nat.reduceEqDiff, Nat.reduceAdd, Nat.reduceLeDiff, reduceCtorEq, Nat.reduceLT, Int.reduceLT, Int.reduceLE, Int.reduceEq, Int.reduceToNat, Nat.reduceMul]
          refine W_split rfl (fun h3 => ?_) (fun h3 => ?_)
          · simp at h3
            simp only [go_sem, ↓reduceIte, Nat.reduceEqDiff, Nat.reduceAdd, Nat.reduceLeDiff, reduceCtorEq, Nat.reduceLT, Int.reduceLT, Int.reduceLE, Int.reduceEq, Int.reduceToNat, Nat.reduceMul]
            refine wends (by first | exact Or.inl rfl | exact Or.inr rfl) ?_ (by first | rfl | simp [AV.ids, idsL])
            simp only [go_sem, r_ref13_Right, ↓reduceIte, Nat.reduceEqDiff, Nat.reduceAdd, Nat.reduceLeDiff, reduceCtorEq, Nat.reduceLT, Int.reduceLT, Int.reduceLE, Int.reduceEq, Int.reduceToNat, Nat.reduceMul]
            rw [hr]
            simp [slotB, h2, h3, timedB]
          · simp at h3
            simp only [go_sem, ei, ↓reduceIte, Nat.reduceEqDiff, Nat.reduceAdd, Nat.reduceLeDiff, reduceCtorEq, Nat.reduceLT, Int.reduceLT, Int.reduceLE, Int.reduceEq, Int.reduceToNat, Nat.reduceMul]
            refine rd_of (i + 1) (by first | omega | (simp only; omega)) ⟨by first | omega | (simp only; omega), by rw [hr, e1]; simp [slotB, h2, h3]⟩ ?_
            exact (subL [] [] (by simp [envS, go_sem, wkV, wkL, AV.ids, idsL, keysOf, ren]) (by simp [stoS, go_sem, wkV, wkL, wkO, AV.ids, Ob.ids, idsL, keysOf, ren, AV.one]) (by simp [keysOf, ren]) (by simp) (by simp [keysOf]) (by simp [keysOf]))
        · simp at h2
          have hb : slotB w l.length i s = (timedB s.1 && (s.2 != -9223372036854775808) && (s.1 % w == 0) && (s.1 / w % (l.length : Int) == i)) := by simp [slotB, h2]
          rw [hb] at hr
          simp only [go_sem, ↓reduceIte, Nat.reduceEqDiff, Nat.reduceAdd, Nat.reduceLeDiff, reduceCtorEq, Nat.reduceLT, Int.reduceLT, Int.reduceLE, Int.reduceEq, Int.reduceToNat, Nat.reduceMul]
          refine Cl_plain (f_ref13_Timed s.1) ?_
          have hw0 : ¬ w = 0 := by omega
          have hl0 : ¬ (l.length : Int) = 0 := by omega
          cases h3 : timedB s.1
          · simp only [go_sem, h3, ↓reduceIte, Nat.reduceEqDiff, Nat.reduceAdd, Nat.reduceLeDiff, reduceCtorEq, Nat.reduceLT, Int.reduceLT, Int.reduceLE, Int.reduceEq, Int.reduceToNat, Nat.reduceMul]
            refine wends (by first | exact Or.inl rfl | exact Or.inr rfl) ?_ (by first | rfl | simp [AV.ids, idsL])
            simp only [go_sem, r_ref13_Right, ↓reduceIte, Nat.reduceEqDiff, Nat.reduceAdd, Nat.reduceLeDiff, reduceCtorEq, Nat.reduceLT, Int.reduceLT, Int.reduceLE, Int.reduceEq, Int.reduceToNat, Nat.reduceMul]
            simp [hr, h3]
          · have h3' := timedB_iff.1 h3
            have q1 : 0 ≤ s.1 / w := Int.ediv_nonneg h3'.1 (by omega)
            have q2 : s.1 / w ≤ s.1 := Int.ediv_le_self _ h3'.1
            cases h4 : decide (s.1 % w = 0)
            · simp only [go_sem, h3, i64_rem hw0, smod h3'.1, h4, ↓reduceIte, Nat.reduceEqDiff, Nat.reduceAdd, Nat.reduceLeDiff, reduceCtorEq, Nat.reduceLT, Int.reduceLT, Int.reduceLE, Int.reduceEq, Int.reduceToNat, Nat.reduceMul]
              refine wends (by first | exact Or.inl rfl | exact Or.inr rfl) ?_ (by first | rfl | simp [AV.ids, idsL])
              simp only [go_sem, r_ref13_Right, ↓reduceIte, Nat.reduceEqDiff, Nat.reduceAdd, Nat.reduceLeDiff, reduceCtorEq, Nat.reduceLT, Int.reduceLT, Int.reduceLE, Int.reduceEq, Int.reduceToNat, Nat.reduceMul]
              simp at h4
              simp [hr, h3, h4]
            · have qw : IntKind.i64.wrap (s.1 / w) = s.1 / w := wrap_i64_of (by omega) (by omega)
              cases h5 : decide (s.1 / w % (l.length : Int) = i)
              · simp only [go_sem, h3, i64_rem hw0, i64_rem hl0, i64_quo hw0, smod h3'.1, sdiv h3'.1, h4, qw, smod q1, h5, ↓reduceIte, Nat.reduceEqDiff, Nat.reduceAdd, Nat.reduceLeDiff, reduceCtorEq, Nat.reduceLT, Int.reduceLT, Int.reduceLE, Int.reduceEq, Int.reduceToNat, Nat.reduceMul]
                refine wends (by first | exact Or.inl rfl | exact Or.inr rfl) ?_ (by first | rfl | simp [AV.ids, idsL])
                simp only [go_sem, r_ref13_Right, ↓reduceIte, Nat.reduceEqDiff, Nat.reduceAdd, Nat.reduceLeDiff, reduceCtorEq, Nat.reduceLT, Int.reduceLT, Int.reduceLE, Int.reduceEq, Int.reduceToNat, Nat.reduceMul]
                simp at h5
                simp [hr, h3, h5]
              · simp only [go_sem, h3, i64_rem hw0, i64_rem hl0, i64_quo hw0, smod h3'.1, sdiv h3'.1, h4, qw, smod q1, h5, ↓reduceIte, Nat.reduceEqDiff, Nat.reduceAdd, Nat.reduceLeDiff, reduceCtorEq, Nat.reduceLT, Int.reduceLT, Int.reduceLE, Int.reduceEq, Int.reduceToNat, Nat.reduceMul]
                simp at h4 h5
                refine W_split rfl (fun h6 => ?_) (fun h6 => ?_)
                · simp only [go_sem, ↓reduceIte, Nat.reduceEqDiff, Nat.reduceAdd, Nat.reduceLeDiff, reduceCtorEq, Nat.reduceLT, Int.reduceLT, Int.reduceLE, Int.reduceEq, Int.reduceToNat, Nat.reduceMul]
                  refine wends (by first | exact Or.inl rfl | exact Or.inr rfl) ?_ (by first | rfl | simp [AV.ids, idsL])
                  simp only [go_sem, r_ref13_Right, ↓reduceIte, Nat.reduceEqDiff, Nat.reduceAdd, Nat.reduceLeDiff, reduceCtorEq, Nat.reduceLT, Int.reduceLT, Int.reduceLE, Int.reduceEq, Int.reduceToNat, Nat.reduceMul]
                  simp at h6
                  simp [hr, h6]
                · simp only [go_sem, ei, ↓reduceIte, Nat.reduceEqDiff, Nat.reduceAdd, Nat.reduceLeDiff, reduceCtorEq, Nat.reduceLT, Int.reduceLT, Int.reduceLE, Int.reduceEq, Int.reduceToNat, Nat.reduceMul]
                  simp at h6
                  refine rd_of (i + 1) (by first | omega | (simp only; omega)) ⟨by first | omega | (simp only; omega), by rw [hr, e1]; simp [h3, h4, h5, h6]⟩ ?_
                  exact (subL [] [] (by simp [envS, go_sem, wkV, wkL, AV.ids, idsL, keysOf, ren]) (by simp [stoS, go_sem, wkV, wkL, wkO, AV.ids, Ob.ids, idsL, keysOf, ren, AV.one]) (by simp [keysOf, ren]) (by simp) (by simp [keysOf]) (by simp [keysOf]))
      · simp at h1
        simp only [go_sem, ↓reduceIte, Nat.reduceEqDiff, Nat.reduceAdd, Nat.reduceLeDiff, reduceCtorEq, Nat.reduceLT, Int.reduceLT, Int.reduceLE, Int.reduceEq, Int.reduceToNat, Nat.reduceMul]
        refine wends (by first | exact Or.inl rfl | exact Or.inr rfl) ?_ (by first | rfl | simp [AV.ids, idsL])
        simp only [go_sem, r_ref13_Right, ↓reduceIte, Nat.reduceEqDiff, Nat.reduceAdd, Nat.reduceLeDiff, reduceCtorEq, Nat.reduceLT, Int.reduceLT, Int.reduceLE, Int.reduceEq, Int.reduceToNat, Nat.reduceMul]
        have : i = l.length := by omega
        subst this
        simp [hr, slotsB]
  · simp at h
    cases d1 : decide (w < 1) <;> cases d2 : decide (86400 < w) <;> cases d3 : decide ((l.length : Int) < 1) <;> cases d4 : decide (400 < (l.length : Int))
    · exfalso
      simp at d1 d2 d3 d4
      have : sizedB w l.length = true := sizedB_iff.2 (by omega)
      rw [this] at h; cases h
    all_goals
      simp only [go_sem, s_ref13_Right, d1, d2, d3, d4, ↓reduceIte, Nat.reduceEqDiff, Nat.reduceAdd, Nat.reduceLeDiff, reduceCtorEq, Nat.reduceLT, Int.reduceLT, Int.reduceLE, Int.reduceEq, Int.reduceToNat, Nat.reduceMul]
      refine wends (by first | exact Or.inl rfl | exact Or.inr rfl) ?_ (by first | rfl | simp [AV.ids, idsL])
      simp only [go_sem, r_ref13_Right, done h, ↓reduceIte, Nat.reduceEqDiff, Nat.reduceAdd, Nat.reduceLeDiff, reduceCtorEq, Nat.reduceLT, Int.reduceLT, Int.reduceLE, Int.reduceEq, Int.reduceToNat, Nat.reduceMul]

theorem f_ring_Align (w : Int) (l : List Slot) (t : Int) : Meets Tryz.prog E0 n_ring_Align [ringV w l, I t] [] (.tp [I (alignM w l t).1, I (alignM w l t).2]) [] := by
  refine m_ring_Align (by simp) (shut0 rfl) (shut0 rfl) (by simp) (by simp [keysOf]) ?_
  simp only [go_sem, s_ring_Align, ↓reduceIte, Nat.reduceEqDiff, Nat.reduceAdd, Nat.reduceLeDiff, reduceCtorEq, Nat.reduceLT, Int.reduceLT, Int.reduceLE, Int.reduceEq, Int.reduceToNat, Nat.reduceMul]
  refine Cl_plain (f_ring_timed t) ?_
  cases h : timedB t
  · simp only [go_sem, h, ↓reduceIte, Nat.reduceEqDiff, Nat.reduceAdd, Nat.reduceLeDiff, reduceCtorEq, Nat.reduceLT, Int.reduceLT, Int.reduceLE, Int.reduceEq, Int.reduceToNat, Nat.reduceMul]
    refine wends (by first | exact Or.inl rfl | exact Or.inr rfl) ?_ (by first | rfl | simp [AV.ids, idsL])
    simp only [go_sem, r_ring_Align, alignM, h, ↓reduceIte, Nat.reduceEqDiff, Nat.reduceAdd, Nat.reduceLeDiff, reduceCtorEq, Nat.reduceLT, Int.reduceLT, Int.reduceLE, Int.reduceEq, Int.reduceToNat, Nat.reduceMul]
  · simp only [go_sem, h, ↓reduceIte, Nat.reduceEqDiff, Nat.reduceAdd, Nat.reduceLeDiff, reduceCtorEq, Nat.reduceLT, Int.reduceLT, Int.reduceLE, Int.reduceEq, Int.reduceToNat, Nat.reduceMul]
    refine Cl_plain (f_ring_Right w l) ?_
    cases h1 : ringB w l
    · simp only [go_sem, h1, ↓reduceIte, Nat.reduceEqDiff, Nat.reduceAdd, Nat.reduceLeDiff, reduceCtorEq, Nat.reduceLT, Int.reduceLT, Int.reduceLE, Int.reduceEq, Int.reduceToNat, Nat.reduceMul]
      refine wends (by first | exact Or.inl rfl | exact Or.inr rfl) ?_ (by first | rfl | simp [AV.ids, idsL])
      simp only [go_sem, r_ring_Align, alignM, h, h1, ↓reduceIte, Nat.reduceEqDiff, Nat.reduceAdd, Nat.reduceLeDiff, reduceCtorEq, Nat.reduceLT, Int.reduceLT, Int.reduceLE, Int.reduceEq, Int.reduceToNat, Nat.reduceMul]
    · have h' := timedB_iff.1 h
      have hs := ringB_sized h1
      have hw0 : ¬ w = 0 := by omega
      have m1 := Int.emod_nonneg t hw0
      have m2 := Int.emod_lt_of_pos t (show 0 < w by omega)
      ((try simp only [go_sem, h1, ↓reduceIte, Nat.reduceEqDiff, Nat.reduceAdd, Nat.reduceLeDiff, reduceCtorEq, Nat.reduceLT, Int.reduceLT, Int.reduceLE, Int.reduceEq, Int.reduceToNat, Nat.reduceMul]); repeat (simp (disch := omega) only [wrap_i64_of, i64_quo, i64_rem, sdiv, smod]; (try simp only [go_sem, h1, ↓reduceIte, Nat.reduceEqDiff, Nat.reduceAdd, Nat.reduceLeDiff, reduceCtorEq, Nat.reduceLT, Int.reduceLT, Int.reduceLE, Int.reduceEq, Int.reduceToNat, Nat.reduceMul])))
      refine wends (by first | exact Or.inl rfl | exact Or.inr rfl) ?_ (by first | rfl | simp [AV.ids, idsL])
      simp only [go_sem, r_ring_Align, alignM, h, h1, ↓reduceIte, Nat.reduceEqDiff, Nat.reduceAdd, Nat.reduceLeDiff, reduceCtorEq, Nat.reduceLT, Int.reduceLT, Int.reduceLE, Int.reduceEq, Int.reduceToNat, Nat.reduceMul]

end Go.Proofs.YtmjlldlaigoflaaGreat
