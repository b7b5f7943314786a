/- Contracts of what sets and tells a ring's slots. No statement of the seat is proved here. -/
import Derived.Test.YtmjlldlaigoflaaGreatRgBase
set_option linter.unusedSimpArgs false
set_option linter.unusedVariables false
namespace Go.Proofs.YtmjlldlaigoflaaGreat
open Go Go.Sx

theorem placeM_cast {w : Int} {l : List Slot} (h : 0 < l.length) (t : Int) : t / w % (l.length : Int) = ((placeM w l t : Nat) : Int) := by
  unfold placeM
  have h2 := Int.emod_nonneg (t / w) (show (l.length : Int) ≠ 0 by omega)
  omega

theorem f_ring_value (w t : Int) (l : List Slot) (h : ringB w l = true) (ht : 0 ≤ t) (ht2 : t < 9223372036854775808) : Meets Tryz.prog E0 n_ring_value [ringV w l, I t] [] (numV (valueM w l t)) [] := by
  refine m_ring_value (by simp) (shut0 rfl) (shut0 rfl) (by simp) (by simp [keysOf]) ?_
  have hs := ringB_sized h
  obtain ⟨s, hsl⟩ := get_of_lt (placeM_lt (w := w) (l := l) (by omega) t)
  have hp := placeM_cast (w := w) (l := l) (by omega) t
  simp only [go_sem, s_ring_value, ↓reduceIte, Nat.reduceEqDiff, Nat.reduceAdd, Nat.reduceLeDiff, reduceCtorEq, Nat.reduceLT, Int.reduceLT, Int.reduceLE, Int.reduceEq, Int.reduceToNat, Nat.reduceMul]
  refine Cl_plain (f_ring_place w t l (by omega) (by omega) ht ht2) ?_
  simp only [go_sem, hp, hsl, slT, ↓reduceIte, Nat.reduceEqDiff, Nat.reduceAdd, Nat.reduceLeDiff, reduceCtorEq, Nat.reduceLT, Int.reduceLT, Int.reduceLE, Int.reduceEq, Int.reduceToNat, Nat.reduceMul]
  refine R_fin ?_ ?_
  · repeat' (first | exact okp0 | refine okp rfl rfl rfl ?_)
  simp only [go_sem, ↓reduceIte, Nat.reduceEqDiff, Nat.reduceAdd, Nat.reduceLeDiff, reduceCtorEq, Nat.reduceLT, Int.reduceLT, Int.reduceLE, Int.reduceEq, Int.reduceToNat, Nat.reduceMul]
  refine W_split rfl (fun h1 => ?_) (fun h1 => ?_)
  all_goals
    simp at h1
    simp only [go_sem, ↓reduceIte, Nat.reduceEqDiff, Nat.reduceAdd, Nat.reduceLeDiff, reduceCtorEq, Nat.reduceLT, Int.reduceLT, Int.reduceLE, Int.reduceEq, Int.reduceToNat, Nat.reduceMul]
    refine wends (by first | exact Or.inl rfl | exact Or.inr rfl) ?_ (by first | rfl | simp [AV.ids, idsL])
    simp only [go_sem, r_ring_value, ↓reduceIte, Nat.reduceEqDiff, Nat.reduceAdd, Nat.reduceLeDiff, reduceCtorEq, Nat.reduceLT, Int.reduceLT, Int.reduceLE, Int.reduceEq, Int.reduceToNat, Nat.reduceMul]
    simp [valueM, hsl, h1]

theorem f_ring_Get (w t : Int) (l : List Slot) : Meets Tryz.prog E0 n_ring_Get [ringV w l, I t] [] (numV (getM w l t)) [] := by
  refine m_ring_Get (by simp) (shut0 rfl) (shut0 rfl) (by simp) (by simp [keysOf]) ?_
  simp only [go_sem, s_ring_Get, ↓reduceIte, Nat.reduceEqDiff, Nat.reduceAdd, Nat.reduceLeDiff, reduceCtorEq, Nat.reduceLT, Int.reduceLT, Int.reduceLE, Int.reduceEq, Int.reduceToNat, Nat.reduceMul]
  refine Cl_plain (f_ring_Align w l t) ?_
  cases h : ringB w l && timedB t
  · simp only [go_sem, alignM, h, show decide ((1 : Int) = 0) = false from rfl, ↓reduceIte, Nat.reduceEqDiff, Nat.reduceAdd, Nat.reduceLeDiff, reduceCtorEq, Nat.reduceLT, Int.reduceLT, Int.reduceLE, Int.reduceEq, Int.reduceToNat, Nat.reduceMul]
    refine wends (by first | exact Or.inl rfl | exact Or.inr rfl) ?_ (by first | rfl | simp [AV.ids, idsL])
    simp only [go_sem, r_ring_Get, getM, h, ↓reduceIte, Nat.reduceEqDiff, Nat.reduceAdd, Nat.reduceLeDiff, reduceCtorEq, Nat.reduceLT, Int.reduceLT, Int.reduceLE, Int.reduceEq, Int.reduceToNat, Nat.reduceMul]
  · simp only [go_sem, alignM, h, decide_true, ↓reduceIte, Nat.reduceEqDiff, Nat.reduceAdd, Nat.reduceLeDiff, reduceCtorEq, Nat.reduceLT, Int.reduceLT, Int.reduceLE, Int.reduceEq, Int.reduceToNat, Nat.reduceMul]
    simp at h
    have hs := ringB_sized h.1
    have h' := timedB_iff.1 h.2
    have hw0 : ¬ w = 0 := by omega
    have m1 := Int.emod_nonneg t hw0
    have m2 := Int.emod_lt_of_pos t (show 0 < w by omega)
    have m3 : t - t % w = w * (t / w) := by have := Int.mul_ediv_add_emod t w; omega
    have m4 : 0 ≤ t - t % w := by rw [m3]; exact Int.mul_nonneg (by omega) (Int.ediv_nonneg h'.1 (by omega))
    refine Cl_plain (f_ring_value w (t - t % w) l h.1 m4 (by omega)) ?_
    simp only [go_sem, ↓reduceIte, Nat.reduceEqDiff, Nat.reduceAdd, Nat.reduceLeDiff, reduceCtorEq, Nat.reduceLT, Int.reduceLT, Int.reduceLE, Int.reduceEq, Int.reduceToNat, Nat.reduceMul]
    refine wends (by first | exact Or.inl rfl | exact Or.inr rfl) ?_ (by first | rfl | simp [AV.ids, idsL])
    simp only [go_sem, r_ring_Get, getM, h.1, h.2, ↓reduceIte, Nat.reduceEqDiff, Nat.reduceAdd, Nat.reduceLeDiff, reduceCtorEq, Nat.reduceLT, Int.reduceLT, Int.reduceLE, Int.reduceEq, Int.reduceToNat, Nat.reduceMul]

theorem f_Clone_e (c : Option Addr) (n : Nat) : Meets Tryz.prog E0 n_slices_Clone_Sapi_Slot_api_Slot [.t (.v (.slice c 0 n))] [] (slL []) [] := by
  refine m_slices_Clone_Sapi_Slot_api_Slot (by simp) (shut0 rfl) (shut0 rfl) (by simp) (by simp [keysOf]) ?_
  cases c with
  | none =>
    simp only [go_sem, s_slices_Clone_Sapi_Slot_api_Slot, Option.isNone_none, ↓reduceIte, Nat.reduceEqDiff, Nat.reduceAdd, Nat.reduceLeDiff, reduceCtorEq, Nat.reduceLT, Int.reduceLT, Int.reduceLE, Int.reduceEq, Int.reduceToNat, Nat.reduceMul]
    refine wends2 [] [] (by first | exact Or.inl rfl | exact Or.inr rfl) ?_ (by simp [AV.ids, idsL]) (by simp [stoS]) (by simp [keysOf]) (by simp [stoOf, keysOf] <;> assumption) (by simp [keysOf]) (by simp [keysOf])
    simp only [go_sem, r_slices_Clone_Sapi_Slot_api_Slot, exists_eq_left', Option.some.injEq, ↓reduceIte, Nat.reduceEqDiff, Nat.reduceAdd, Nat.reduceLeDiff, reduceCtorEq, Nat.reduceLT, Int.reduceLT, Int.reduceLE, Int.reduceEq, Int.reduceToNat, Nat.reduceMul]
    simp [wkV, wkL, slTrees, AV.asOwn, rowPart, stoOf, AV.isNil]
  | some c =>
    simp only [go_sem, s_slices_Clone_Sapi_Slot_api_Slot, Option.isNone_some, show 0 * 16 ≤ 2 ^ 47 from by decide, show 0 < 2 ^ 47 from by decide, ↓reduceIte, Nat.reduceEqDiff, Nat.reduceAdd, Nat.reduceLeDiff, reduceCtorEq, Nat.reduceLT, Int.reduceLT, Int.reduceLE, Int.reduceEq, Int.reduceToNat, Nat.reduceMul]
    refine wends2 [] [106] (by first | exact Or.inl rfl | exact Or.inr rfl) ?_ (by simp [AV.ids, idsL]) (by simp [stoS]) (by simp [keysOf]) (by simp [stoOf, keysOf] <;> assumption) (by simp [keysOf]) (by simp [keysOf])
    simp only [go_sem, r_slices_Clone_Sapi_Slot_api_Slot, exists_eq_left', Option.some.injEq, ↓reduceIte, Nat.reduceEqDiff, Nat.reduceAdd, Nat.reduceLeDiff, reduceCtorEq, Nat.reduceLT, Int.reduceLT, Int.reduceLE, Int.reduceEq, Int.reduceToNat, Nat.reduceMul]
    simp [wkV, wkL, slTrees, AV.asOwn, rowPart, stoOf, AV.isNil]

theorem f_Clone_nil : Meets Tryz.prog E0 n_slices_Clone_Sapi_Slot_api_Slot [slL []] [] (slL []) [] :=
  Meets.of_empty (xs := []) (ys := []) f_Clone_e

/-- A copy of slots, one's own. -/
theorem f_Clone_own (id : Nat) (e : List T) (es : List (List T)) (hl : es.length ≤ 100000) : Meets Tryz.prog E0 n_slices_Clone_Sapi_Slot_api_Slot [.t (.sl 2 (e :: es))] [] (.own id 2 0 (es.length + 1) true) [(id, .row 2 true (e :: es))] := by
  have h0 : Meets Tryz.prog E0 n_slices_Clone_Sapi_Slot_api_Slot [.t (.sl 2 (e :: es))] [] (.own 0 2 0 (es.length + 1) true) [(0, .row 2 true (e :: es))] := by
    have h1 : (es.length + 1) * 16 ≤ 2 ^ 47 := by omega
    have h2 : es.length + 1 < 2 ^ 47 := by omega
    refine m_slices_Clone_Sapi_Slot_api_Slot (by simp) (shut_of (by simp [idsL, AV.ids, keysOf]) (by simp [Ob.live, Ob.ids, keysOf, idsL, AV.ids])) (shut_of (by simp [idsL, AV.ids, keysOf]) (by simp [Ob.live, Ob.ids, keysOf, idsL, AV.ids])) (by simp [keysOf]) (by simp [keysOf]) ?_
    simp only [go_sem, s_slices_Clone_Sapi_Slot_api_Slot, h1, h2, ↓reduceIte, Nat.reduceEqDiff, Nat.reduceAdd, Nat.reduceLeDiff, reduceCtorEq, Nat.reduceLT, Int.reduceLT, Int.reduceLE, Int.reduceEq, Int.reduceToNat, Nat.reduceMul]
    refine wends2 [(0, 106)] [] (by first | exact Or.inl rfl | exact Or.inr rfl) ?_ (by simp [AV.ids, idsL, keysOf]) (by simp [stoS, wkO, ls_cons, ls_nil, stoOf, ren, keysOf, Ob.ids, wkV, wkL, AV.one, idsL, AV.ids] <;> assumption) (by simp [keysOf, ren]) (by simp [stoOf, keysOf, ren]) (by simp [keysOf, ren]) (by simp [keysOf, ren])
    simp only [go_sem, r_slices_Clone_Sapi_Slot_api_Slot, exists_eq_left', Option.some.injEq, ↓reduceIte, Nat.reduceEqDiff, Nat.reduceAdd, Nat.reduceLeDiff, reduceCtorEq, Nat.reduceLT, Int.reduceLT, Int.reduceLE, Int.reduceEq, Int.reduceToNat, Nat.reduceMul]
    simp [wkV, wkL, slTrees, AV.asOwn, rowPart, stoOf, AV.isNil, ren]
  have := h0.ren (fun _ => id) (by simp [keysOf])
  simpa [renL, renA, renS, renO] using this

theorem f_ring_Set (w t v : Int) (l : List Slot) (hl : l.length ≤ 100000) : Meets Tryz.prog E0 n_ring_Set [ringV w l, I t, I v] [] (.tp [ringV w (setM w l t v).1, I (setM w l t v).2]) [] := by
  refine m_ring_Set (by simp) (shut0 rfl) (shut0 rfl) (by simp) (by simp [keysOf]) ?_
  simp only [go_sem, s_ring_Set, ↓reduceIte, Nat.reduceEqDiff, Nat.reduceAdd, Nat.reduceLeDiff, reduceCtorEq, Nat.reduceLT, Int.reduceLT, Int.reduceLE, Int.reduceEq, Int.reduceToNat, Nat.reduceMul]
  refine Cl_plain (f_ring_Align w l t) ?_
  cases h : ringB w l && timedB t
  · simp only [go_sem, alignM, h, show decide ((1 : Int) = 0) = false from rfl, ↓reduceIte, Nat.reduceEqDiff, Nat.reduceAdd, Nat.reduceLeDiff, reduceCtorEq, Nat.reduceLT, Int.reduceLT, Int.reduceLE, Int.reduceEq, Int.reduceToNat, Nat.reduceMul]
    refine wends (by first | exact Or.inl rfl | exact Or.inr rfl) ?_ (by first | rfl | simp [AV.ids, idsL])
    simp only [go_sem, r_ring_Set, setM, h, ↓reduceIte, Nat.reduceEqDiff, Nat.reduceAdd, Nat.reduceLeDiff, reduceCtorEq, Nat.reduceLT, Int.reduceLT, Int.reduceLE, Int.reduceEq, Int.reduceToNat, Nat.reduceMul]
  · cases hv : decide (v = -9223372036854775808)
    · simp at h hv
      have hs := ringB_sized h.1
      have h' := timedB_iff.1 h.2
      have hw0 : ¬ w = 0 := by omega
      have m1 := Int.emod_nonneg t hw0
      have m2 := Int.emod_lt_of_pos t (show 0 < w by omega)
      have m3 : t - t % w = w * (t / w) := by have := Int.mul_ediv_add_emod t w; omega
      have m4 : 0 ≤ t - t % w := by rw [m3]; exact Int.mul_nonneg (by omega) (Int.ediv_nonneg h'.1 (by omega))
      have hlt := placeM_lt (w := w) (l := l) (by omega) (t - t % w)
      have hp := placeM_cast (w := w) (l := l) (by omega) (t - t % w)
      have hM : setM w l t v = (l.set (placeM w l (t - t % w)) (t - t % w, v), 0) := by simp [setM, h.1, h.2, hv]
      rw [hM]
      generalize placeM w l (t - t % w) = q at *
      obtain ⟨s, hsl⟩ := get_of_lt hlt
      cases hm : l.map slT with
      | nil => simp at hm; subst hm; simp at hlt
      | cons e es =>
        have hlen := map_len_succ hm
        have hget : (e :: es)[q]? = some (slT s) := by rw [← hm, List.getElem?_map, hsl]; rfl
        simp only [go_sem, alignM, h.1, h.2, decide_true, Bool.and_self, show decide (v = -9223372036854775808) = false from by simp [hv], ↓reduceIte, Nat.reduceEqDiff, Nat.reduceAdd, Nat.reduceLeDiff, reduceCtorEq, Nat.reduceLT, Int.reduceLT, Int.reduceLE, Int.reduceEq, Int.reduceToNat, Nat.reduceMul]
        refine Cl_new (xs := [slL l]) (by rw [slL, hm]; exact f_Clone_own 121 e es (by omega)) (by simp [keysOf, stoOf]) (by simp [keysOf]) ?_
        simp only [go_sem, ↓reduceIte, Nat.reduceEqDiff, Nat.reduceAdd, Nat.reduceLeDiff, reduceCtorEq, Nat.reduceLT, Int.reduceLT, Int.reduceLE, Int.reduceEq, Int.reduceToNat, Nat.reduceMul]
        refine Cl_keep [121] (f_ring_place w (t - t % w) l (by omega) (by omega) m4 (by omega)) ?_ (by simp [stoOf]) rfl ?_
        · refine .ag (.one (Wk.refl _) (.one (Wk.row ?_ (by simp)) .nil)) (.one (Wk.refl _) .nil)
          simp [slTrees, AV.asOwn, rowPart, stoOf, hm]
        have hq : (q : Int) < ((es.length + 1 : Nat) : Int) := by omega
        simp only [go_sem, hp, hget, slT, hq, ↓reduceIte, Nat.reduceEqDiff, Nat.reduceAdd, Nat.reduceLeDiff, reduceCtorEq, Nat.reduceLT, Int.reduceLT, Int.reduceLE, Int.reduceEq, Int.reduceToNat, Nat.reduceMul]
        refine R_fin ?_ ?_
        · repeat' (first | exact okp0 | refine okp rfl rfl rfl ?_)
        simp only [go_sem, ↓reduceIte, Nat.reduceEqDiff, Nat.reduceAdd, Nat.reduceLeDiff, reduceCtorEq, Nat.reduceLT, Int.reduceLT, Int.reduceLE, Int.reduceEq, Int.reduceToNat, Nat.reduceMul]
        refine wends2 [] [121] (by first | exact Or.inl rfl | exact Or.inr rfl) ?_ (by simp [AV.ids, idsL]) (by simp [stoS]) (by simp [keysOf]) (by simp [stoOf, keysOf] <;> assumption) (by simp [keysOf]) (by simp [keysOf])
        simp only [go_sem, r_ring_Set, exists_eq_left', Option.some.injEq, ↓reduceIte, Nat.reduceEqDiff, Nat.reduceAdd, Nat.reduceLeDiff, reduceCtorEq, Nat.reduceLT, Int.reduceLT, Int.reduceLE, Int.reduceEq, Int.reduceToNat, Nat.reduceMul]
        simp [wkV, wkL, slTrees, AV.asOwn, rowPart, stoOf, AV.isNil]
        rw [hm, List.take_of_length_le (by simp)]; rfl
    · simp at h hv
      simp only [go_sem, alignM, h.1, h.2, hv, decide_true, Bool.and_self, ↓reduceIte, Nat.reduceEqDiff, Nat.reduceAdd, Nat.reduceLeDiff, reduceCtorEq, Nat.reduceLT, Int.reduceLT, Int.reduceLE, Int.reduceEq, Int.reduceToNat, Nat.reduceMul]
      refine wends (by first | exact Or.inl rfl | exact Or.inr rfl) ?_ (by first | rfl | simp [AV.ids, idsL])
      simp only [go_sem, r_ring_Set, ↓reduceIte, Nat.reduceEqDiff, Nat.reduceAdd, Nat.reduceLeDiff, reduceCtorEq, Nat.reduceLT, Int.reduceLT, Int.reduceLE, Int.reduceEq, Int.reduceToNat, Nat.reduceMul]
      simp [setM, hv]

end Go.Proofs.YtmjlldlaigoflaaGreat
