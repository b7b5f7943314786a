/- Contracts of the laws on what rings are, and on what is set. No statement of the seat is proved here. -/
import Derived.Test.YtmafaockdiodfaaRgLaw
import Derived.Test.YtmafaockdiodfaaRgLive2
import Derived.Test.YtmafaockdiodfaaRgLive3
set_option linter.unusedSimpArgs false
set_option linter.unusedVariables false
namespace Go.Proofs.Ytmafaockdiodfaa
open Go Go.Sx

theorem f_law13_RingAsks (w : Int) (l : List Slot) (t c : Int) : Meets Try.prog E0 n_law13_RingAsks [ringV w l, I t, I c] [] (Bo true) [] := by
  refine m_law13_RingAsks (by simp) (shut0 rfl) (shut0 rfl) (by simp) (by simp [keysOf]) ?_
  have b0 := f_law13_great w l
  cases hg : decide (1000 < l.length)
  · have hl := of_decide_eq_false hg
    have hm : maxLen = 9223372036854775807 := rfl
    have hnl : (newM w c).1.2.length ≤ 1000 := by
      unfold newM
      split
      · rename_i h; have := sizedB_iff.1 h; simp; omega
      · simp
    have hll := live_len w l
    have b1 := f_ref13_Copy w l (by omega)
    have b2 := f_ring_Align w l t
    have b3 := f_ref13_Align w l t
    have b4 := f_ring_New w c
    have b5 := f_ref13_New w c
    have b6 := f_ring_Right w l
    have b7 := f_ref13_Right w l
    have b8 := f_ring_Get w t l
    have b9 := f_ref13_Get w t l
    have b10 := f_ref13_Same (newM w c).1.1 (newM w c).1.1 (newM w c).1.2 (newM w c).1.2 (by omega)
    rw [decide_eq_true (show _ ∧ _ from ⟨rfl, rfl⟩)] at b10
    have b11 := f_ring_Live w l
    have b12 := f_ref13_Live w l
    have b13 := f_ref13_SameSlots (liveM w l) (liveM w l) (by omega)
    rw [decide_eq_true rfl] at b13
    have b14 := f_ref13_Same w w l l (by omega)
    rw [decide_eq_true (show _ ∧ _ from ⟨rfl, rfl⟩)] at b14
    rw [hg] at b0
    have e2 : ∀ i : Int, decide (i = i) = true := fun i => decide_eq_true rfl
    clear hg hl hm hnl hll
    generalize newM w c = N at *
    generalize alignM w l t = A at *
    generalize liveM w l = L at *
    generalize getM w l t = G at *
    generalize ringB w l = R at *
    repeat' (first | (with_reducible refine Cl_plain (f_law13_alive) ?_) | (with_reducible refine Cl_plain (b0) ?_) | (with_reducible refine Cl_plain (b1) ?_) | (with_reducible refine Cl_plain (b2) ?_) | (with_reducible refine Cl_plain (b3) ?_) | (with_reducible refine Cl_plain (b4) ?_) | (with_reducible refine Cl_plain (b5) ?_) | (with_reducible refine Cl_plain (b6) ?_) | (with_reducible refine Cl_plain (b7) ?_) | (with_reducible refine Cl_plain (b8) ?_) | (with_reducible refine Cl_plain (b9) ?_) | (with_reducible refine Cl_plain (b10) ?_) | (with_reducible refine Cl_plain (b11) ?_) | (with_reducible refine Cl_plain (b12) ?_) | (with_reducible refine Cl_plain (b13) ?_) | (with_reducible refine Cl_plain (b14) ?_) | (simp only [go_sem, s_law13_RingAsks, beq_self_eq_true, eq_self, ↓reduceIte, Nat.reduceEqDiff, Nat.reduceAdd, Nat.reduceLeDiff, reduceCtorEq, Nat.reduceLT, Int.reduceLT, Int.reduceLE, Int.reduceEq, Int.reduceToNat, Nat.reduceMul, *]) | (simp (disch := omega) only [s_law13_RingAsks, beq_self_eq_true, eq_self, wrap_i64_of, i64_quo, i64_rem, sdiv, smod]) | ((with_reducible refine W_split (by with_unfolding_all exact rfl) (fun hsp => ?_) (fun hsp => ?_)) <;> (try simp only [Bool.not_true, Bool.not_false, decide_eq_true_eq, decide_eq_false_iff_not, Bool.not_eq_true', Bool.not_eq_false', not_false_eq_true] at hsp)) | ((with_reducible refine R_split (by with_unfolding_all exact rfl) (fun hsp => ?_) (fun hsp => ?_)) <;> (try simp only [Bool.not_true, Bool.not_false, decide_eq_true_eq, decide_eq_false_iff_not, Bool.not_eq_true', Bool.not_eq_false', not_false_eq_true] at hsp)) | (with_reducible refine R_fin (by repeat' (first | exact okp0 | refine okp rfl rfl rfl ?_)) ?_))
    refine wends (by first | exact Or.inl rfl | exact Or.inr rfl) ?_ (by first | rfl | simp [AV.ids, idsL])
    simp only [go_sem, r_law13_RingAsks, ↓reduceIte, Nat.reduceEqDiff, Nat.reduceAdd, Nat.reduceLeDiff, reduceCtorEq, Nat.reduceLT, Int.reduceLT, Int.reduceLE, Int.reduceEq, Int.reduceToNat, Nat.reduceMul]
  · rw [hg] at b0
    clear hg
    repeat' (first | (with_reducible refine Cl_plain (f_law13_alive) ?_) | (with_reducible refine Cl_plain (b0) ?_) | (simp only [go_sem, s_law13_RingAsks, ↓reduceIte, Nat.reduceEqDiff, Nat.reduceAdd, Nat.reduceLeDiff, reduceCtorEq, Nat.reduceLT, Int.reduceLT, Int.reduceLE, Int.reduceEq, Int.reduceToNat, Nat.reduceMul, *]) | (simp (disch := omega) only [s_law13_RingAsks, wrap_i64_of, i64_quo, i64_rem, sdiv, smod]) | ((with_reducible refine W_split (by with_unfolding_all exact rfl) (fun hsp => ?_) (fun hsp => ?_)) <;> (try simp only [Bool.not_true, Bool.not_false, decide_eq_true_eq, decide_eq_false_iff_not, Bool.not_eq_true', Bool.not_eq_false', not_false_eq_true] at hsp)) | ((with_reducible refine R_split (by with_unfolding_all exact rfl) (fun hsp => ?_) (fun hsp => ?_)) <;> (try simp only [Bool.not_true, Bool.not_false, decide_eq_true_eq, decide_eq_false_iff_not, Bool.not_eq_true', Bool.not_eq_false', not_false_eq_true] at hsp)) | (with_reducible refine R_fin (by repeat' (first | exact okp0 | refine okp rfl rfl rfl ?_)) ?_))
    refine wends (by first | exact Or.inl rfl | exact Or.inr rfl) ?_ (by first | rfl | simp [AV.ids, idsL])
    simp only [go_sem, r_law13_RingAsks, ↓reduceIte, Nat.reduceEqDiff, Nat.reduceAdd, Nat.reduceLeDiff, reduceCtorEq, Nat.reduceLT, Int.reduceLT, Int.reduceLE, Int.reduceEq, Int.reduceToNat, Nat.reduceMul]

theorem value_set2 {w : Int} {l : List Slot} {k : Nat} {s : Slot} {T : Int} (hl : 0 < l.length) : valueM w (l.set k s) T = if k = placeM w l T then (if s.1 = T then (false, s.2) else (true, 0)) else valueM w l T := by
  have hp : placeM w (l.set k s) T = placeM w l T := by simp [placeM]
  have hlt := placeM_lt (w := w) hl T
  unfold valueM
  rw [hp, List.getElem?_set]
  by_cases hk : k = placeM w l T
  · subst hk; simp [hlt]
  · simp [hk]

theorem slot_mul {w t : Int} : t - t % w = t / w * w := by
  have := Int.mul_ediv_add_emod t w
  rw [Int.mul_comm] at this; omega

theorem add_emod_n (x n : Int) : (x + n) % n = x % n := by
  have := Int.add_mul_emod_self_left x n 1
  rwa [Int.mul_one] at this

theorem emod_le_self2 {t w : Int} (h : 0 ≤ t) (hw : 0 < w) : t % w ≤ t := by
  have h1 := Int.mul_ediv_add_emod t w
  have h2 : 0 ≤ w * (t / w) := Int.mul_nonneg (by omega) (Int.ediv_nonneg h (by omega))
  omega

theorem ring_new {w n : Int} (h : sizedB w n = true) : ringB w (List.replicate n.toNat (-1, 0)) = true := by
  have h' := sizedB_iff.1 h
  have hl : ((List.replicate n.toNat ((-1, 0) : Slot)).length : Int) = n := by simp; omega
  unfold ringB
  rw [hl, h, Bool.true_and]
  have key : ∀ (k : Nat) (i : Int), slotsB w n i (List.replicate k ((-1, 0) : Slot)) = true := by
    intro k
    induction k with
    | zero => intro i; rfl
    | succ k ih => intro i; simp [List.replicate_succ, slotsB, ih, slotB]
  exact key _ _

theorem f_law13_RingFew (st ct t : Nat) (hst : st < 256) (hct : ct < 256) (ht : t < 65536) : Meets Try.prog E0 n_law13_RingFew [.t (.v (.int .u8 (st : Nat))), .t (.v (.int .u8 (ct : Nat))), .t (.v (.int .u16 (t : Nat)))] [] (Bo true) [] := by
  refine m_law13_RingFew (by simp) (shut0 rfl) (shut0 rfl) (by simp) (by simp [keysOf]) ?_
  have x1 : IntKind.i64.wrap (st : Int) = st := wrap_i64_of (by omega) (by omega)
  have x2 : IntKind.i64.wrap (ct : Int) = ct := wrap_i64_of (by omega) (by omega)
  have x3 := smod (a := (st : Int)) (b := 60) (by omega)
  have x4 := smod (a := (ct : Int)) (b := 50) (by omega)
  have x5 : IntKind.i64.wrap (1 + (st : Int) % 60) = 1 + (st : Int) % 60 := wrap_i64_of (by omega) (by omega)
  have x6 : IntKind.i64.wrap (1 + (ct : Int) % 50) = 1 + (ct : Int) % 50 := wrap_i64_of (by omega) (by omega)
  have x7 : IntKind.i64.wrap (t : Int) = t := wrap_i64_of (by omega) (by omega)
  simp only [go_sem, s_law13_RingFew, ↓reduceIte, Nat.reduceEqDiff, Nat.reduceAdd, Nat.reduceLeDiff, reduceCtorEq, Nat.reduceLT, Int.reduceLT, Int.reduceLE, Int.reduceEq, Int.reduceToNat, Nat.reduceMul]
  refine Cl_plain f_law13_alive ?_
  simp only [go_sem, x1, x2, x3, x4, x5, x6, ↓reduceIte, Nat.reduceEqDiff, Nat.reduceAdd, Nat.reduceLeDiff, reduceCtorEq, Nat.reduceLT, Int.reduceLT, Int.reduceLE, Int.reduceEq, Int.reduceToNat, Nat.reduceMul]
  obtain ⟨w, hw⟩ : ∃ w : Int, 1 + (st : Int) % 60 = w := ⟨_, rfl⟩
  obtain ⟨n, hn⟩ : ∃ n : Int, 1 + (ct : Int) % 50 = n := ⟨_, rfl⟩
  rw [hw, hn]
  have w1 : 1 ≤ w ∧ w ≤ 60 := by omega
  have n1 : 1 ≤ n ∧ n ≤ 50 := by omega
  have hsz : sizedB w n = true := sizedB_iff.2 ⟨by omega, by omega, by omega, by omega⟩
  have b1 := f_ring_New w n
  have e1 : newM w n = ((w, List.replicate n.toNat (-1, 0)), 0) := by simp [newM, hsz]
  rw [e1] at b1
  have hr := ring_new hsz
  have hln : (List.replicate n.toNat ((-1, 0) : Slot)).length = n.toNat := by simp
  have wn0 := Int.mul_le_mul w1.2 n1.2 (by omega) (by omega)
  have wn1 := Int.mul_le_mul w1.1 n1.1 (by omega) (by omega)
  have y1 : IntKind.i64.wrap (w * n) = w * n := wrap_i64_of (by omega) (by omega)
  have y2 : IntKind.i64.wrap ((t : Int) + w * n) = (t : Int) + w * n := wrap_i64_of (by omega) (by omega)
  have ht1 : timedB (t : Int) = true := timedB_iff.2 ⟨by omega, by omega⟩
  have ht2 : timedB ((t : Int) + w * n) = true := timedB_iff.2 ⟨by omega, by omega⟩
  have s1 := setM_ok hr ht1 (show (5 : Int) ≠ -9223372036854775808 by omega)
  have r1 := set_right hr ht1 (show (5 : Int) ≠ -9223372036854775808 by omega)
  have g1 := get_set hr ht1 (show (5 : Int) ≠ -9223372036854775808 by omega)
  have hz0 : decide ((0 : Int) = 0) = true := rfl
  generalize hk : placeM w (List.replicate n.toNat (-1, 0)) ((t : Int) - (t : Int) % w) = k at *
  have hkn : k < n.toNat := by
    have := placeM_lt (w := w) (l := List.replicate n.toNat ((-1, 0) : Slot)) (by rw [hln]; omega) ((t : Int) - (t : Int) % w)
    rwa [hk, hln] at this
  generalize hl1 : (List.replicate n.toNat ((-1, 0) : Slot)).set k ((t : Int) - (t : Int) % w, 5) = l1 at *
  have hl1n : l1.length = n.toNat := by rw [← hl1]; simp
  have hnc : ((n.toNat : Nat) : Int) = n := by omega
  have s2 := setM_ok r1 ht2 (show (6 : Int) ≠ -9223372036854775808 by omega)
  have g2 := get_set r1 ht2 (show (6 : Int) ≠ -9223372036854775808 by omega)
  have r2 := set_right r1 ht2 (show (6 : Int) ≠ -9223372036854775808 by omega)
  have hmod : ((t : Int) + w * n) % w = (t : Int) % w := Int.add_mul_emod_self_left _ _ _
  have hpl : placeM w l1 ((t : Int) + w * n - ((t : Int) + w * n) % w) = k := by
    rw [← hk, hmod]
    unfold placeM
    rw [hl1n, hln, hnc, show (t : Int) + w * n - (t : Int) % w = ((t : Int) - (t : Int) % w) + w * n by omega, Int.add_mul_ediv_left _ _ (show w ≠ 0 by omega), add_emod_n]
  rw [hpl] at s2 g2 r2
  generalize hl2 : l1.set k ((t : Int) + w * n - ((t : Int) + w * n) % w, 6) = l2 at *
  have hl2e : l2 = (List.replicate n.toNat ((-1, 0) : Slot)).set k ((t : Int) + w * n - ((t : Int) + w * n) % w, 6) := by rw [← hl2, ← hl1, List.set_set]
  have hl2n : l2.length = n.toNat := by rw [hl2e]; simp
  have g3 : getM w l2 t = (true, 0) := by
    unfold getM
    rw [r2, ht1]
    simp only [Bool.and_self, if_true]
    rw [hl2e, value_set2 (by rw [hln]; omega), hk, if_pos rfl, if_neg]
    simp only
    rw [hmod]; omega
  have hlv : (liveM w l2).length = 1 := by
    have m0 := Int.emod_nonneg ((t : Int) + w * n) (show w ≠ 0 by omega)
    have m1 := emod_le_self2 (t := (t : Int) + w * n) (w := w) (by omega) (by omega)
    unfold liveM
    rw [r2, if_pos rfl, (sort_perm _).length_eq, hl2e, List.set_eq_take_append_cons_drop, if_pos (by rw [hln]; exact hkn), List.filter_append, List.filter_cons_of_pos (by simp; omega), List.take_replicate, List.drop_replicate, List.filter_replicate_of_neg (by simp), List.filter_replicate_of_neg (by simp)]
    rfl
  have bS1 := f_ring_Set w t 5 (List.replicate n.toNat (-1, 0)) (by rw [hln]; omega)
  rw [s1] at bS1
  have bS2 := f_ring_Set w ((t : Int) + w * n) 6 l1 (by omega)
  rw [s2] at bS2
  have bG1 := f_ring_Get w t l1
  rw [g1] at bG1
  have bG2 := f_ring_Get w t l2
  rw [g3] at bG2
  have bG3 := f_ring_Get w ((t : Int) + w * n) l2
  rw [g2] at bG3
  have bL := f_ring_Live w l2
  have hlv1 : decide (((liveM w l2).length : Int) = 1) = true := decide_eq_true (by omega)
  refine Cl_plain b1 ?_
  simp only [go_sem, x7, ↓reduceIte, Nat.reduceEqDiff, Nat.reduceAdd, Nat.reduceLeDiff, reduceCtorEq, Nat.reduceLT, Int.reduceLT, Int.reduceLE, Int.reduceEq, Int.reduceToNat, Nat.reduceMul]
  refine Cl_plain bS1 ?_
  simp only [go_sem, x7, y1, y2, ↓reduceIte, Nat.reduceEqDiff, Nat.reduceAdd, Nat.reduceLeDiff, reduceCtorEq, Nat.reduceLT, Int.reduceLT, Int.reduceLE, Int.reduceEq, Int.reduceToNat, Nat.reduceMul]
  refine Cl_plain bS2 ?_
  simp only [go_sem, hz0, x7, ↓reduceIte, Nat.reduceEqDiff, Nat.reduceAdd, Nat.reduceLeDiff, reduceCtorEq, Nat.reduceLT, Int.reduceLT, Int.reduceLE, Int.reduceEq, Int.reduceToNat, Nat.reduceMul]
  refine Cl_plain bG1 ?_
  simp only [go_sem, x7, beq_self_eq_true, ↓reduceIte, Nat.reduceEqDiff, Nat.reduceAdd, Nat.reduceLeDiff, reduceCtorEq, Nat.reduceLT, Int.reduceLT, Int.reduceLE, Int.reduceEq, Int.reduceToNat, Nat.reduceMul]
  refine Cl_plain bG2 ?_
  simp only [go_sem, x7, y1, y2, ↓reduceIte, Nat.reduceEqDiff, Nat.reduceAdd, Nat.reduceLeDiff, reduceCtorEq, Nat.reduceLT, Int.reduceLT, Int.reduceLE, Int.reduceEq, Int.reduceToNat, Nat.reduceMul]
  refine Cl_plain bG3 ?_
  simp only [go_sem, beq_self_eq_true, ↓reduceIte, Nat.reduceEqDiff, Nat.reduceAdd, Nat.reduceLeDiff, reduceCtorEq, Nat.reduceLT, Int.reduceLT, Int.reduceLE, Int.reduceEq, Int.reduceToNat, Nat.reduceMul]
  refine Cl_plain bL ?_
  simp only [go_sem, hlv1, ↓reduceIte, Nat.reduceEqDiff, Nat.reduceAdd, Nat.reduceLeDiff, reduceCtorEq, Nat.reduceLT, Int.reduceLT, Int.reduceLE, Int.reduceEq, Int.reduceToNat, Nat.reduceMul]
  refine wends (by first | exact Or.inl rfl | exact Or.inr rfl) ?_ (by first | rfl | simp [AV.ids, idsL])
  simp only [go_sem, r_law13_RingFew, ↓reduceIte, Nat.reduceEqDiff, Nat.reduceAdd, Nat.reduceLeDiff, reduceCtorEq, Nat.reduceLT, Int.reduceLT, Int.reduceLE, Int.reduceEq, Int.reduceToNat, Nat.reduceMul]

end Go.Proofs.Ytmafaockdiodfaa
