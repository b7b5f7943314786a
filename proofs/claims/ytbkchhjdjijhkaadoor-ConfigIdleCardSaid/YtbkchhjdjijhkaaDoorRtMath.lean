/- The plain law of archives' texts. No statement of the seat is proved here. -/
import Derived.Test.YtbkchhjdjijhkaaDoorRtWhole
set_option linter.unusedSimpArgs false
set_option linter.unusedVariables false
namespace Go.Proofs.YtbkchhjdjijhkaaDoor
open Go Go.Sx

theorem rtNum_app : ∀ (l r : List UInt8) (n : Nat), l.all digB = true → rtNum n (l ++ r) = rtNum (rtNum n l).1 r
  | [], r, n, _ => rfl
  | b :: l, r, n, h => by
    have h1 : digB b = true := by simp only [List.all_cons, Bool.and_eq_true] at h; exact h.1
    have h2 : l.all digB = true := by simp only [List.all_cons, Bool.and_eq_true] at h; exact h.2
    rw [List.cons_append, rtNum, if_pos h1, rtNum, if_pos h1]
    exact rtNum_app l r _ h2

theorem rtNum_stop : ∀ (l r : List UInt8) (n : Nat), l.all digB = false → ∃ x y, (rtNum n (l ++ r)).2 = x :: (y ++ r)
  | [], r, n, h => by simp at h
  | b :: l, r, n, h => by
    rw [List.cons_append, rtNum]
    by_cases h1 : digB b = true
    · rw [if_pos h1]
      refine rtNum_stop l r _ ?_
      simpa [h1] using h
    · rw [if_neg h1]
      exact ⟨b, l, rfl⟩

theorem dig_unit (c : UInt8) (h : digB c = true) : rtUnit c.toNat = 0 := by
  simp only [digB, Bool.and_eq_true, decide_eq_true_eq] at h
  unfold rtUnit
  rw [if_neg (by omega), if_neg (by omega), if_neg (by omega), if_neg (by omega), if_neg (by omega), if_neg (by omega)]

theorem rtNum_lt (l : List UInt8) : (rtNum 0 l).1 ≤ 1099511627777 := (rtNum_le l 0 (Nat.zero_le _)).1

theorem rtSpn_snoc (l : List UInt8) (c : UInt8) : rtSpn (l ++ [c]) =
    if rtUnit c.toNat = 0 ∨ (rtWhole l).2 = 2 then (0, 2) else if (rtWhole l).2 ≠ 0 ∨ (rtWhole l).1 > 1099511627776 / rtUnit c.toNat then (0, 3) else ((rtWhole l).1 * rtUnit c.toNat, 0) := by
  have hu := rtUnit_le c.toNat
  unfold rtSpn
  by_cases hd : l.all digB = true
  · rw [rtNum_app l [c] 0 hd]
    have hn := rtNum_lt l
    have hr : (rtNum 0 l).2 = [] := (rtNum_all _ _).2 hd
    have hw : rtWhole l = if l ≠ [] then (if (rtNum 0 l).1 > 1099511627776 then (0, 3) else ((((rtNum 0 l).1 : Nat) : Int), 0)) else (0, 2) := by
      unfold rtWhole; simp only [hr, and_true]
    rw [hw]
    generalize (rtNum 0 l).1 = v at *
    by_cases hc : digB c = true
    · have : rtNum v [c] = (min (v * 10 + (c.toNat - 48)) 1099511627777, []) := by rw [rtNum, if_pos hc, rtNum]
      rw [this, if_pos (Or.inl (dig_unit c hc))]
    · have : rtNum v [c] = (v, [c]) := by rw [rtNum, if_neg hc]
      rw [this]
      simp only
      by_cases hl : l = []
      · subst hl
        simp
      · have hlen : ¬ (l ++ [c]).length = 1 := by
          rw [List.length_append]
          have : 0 < l.length := List.length_pos_iff.2 hl
          simp; omega
        rw [if_neg hlen, if_pos hl]
        by_cases h0 : rtUnit c.toNat = 0
        · rw [if_pos h0, if_pos (Or.inl h0)]
        · rw [if_neg h0]
          by_cases hv : v > 1099511627776
          · rw [if_pos hv]
            have q1 : (1099511627776 : Int) / rtUnit c.toNat ≤ 1099511627776 := Int.ediv_le_self _ (by omega)
            rw [if_pos (by omega), if_neg (by simp [h0]), if_pos (by simp)]
          · rw [if_neg hv]
            simp [h0]
  · have hd' : l.all digB = false := by simpa using hd
    obtain ⟨x, y, hx⟩ := rtNum_stop l [c] 0 hd'
    have hw : (rtWhole l).2 = 2 := by
      unfold rtWhole
      rw [if_neg]
      rintro ⟨_, h⟩; exact hd ((rtNum_all _ _).1 h)
    rw [if_pos (Or.inr hw)]
    generalize rtNum 0 (l ++ [c]) = z at *
    obtain ⟨a, b⟩ := z
    simp only at hx
    subst hx
    cases y <;> rfl

theorem rtEith_eq (l : List UInt8) : rtEith l = if (rtWhole l).2 = 2 then ((rtSpn l).1, false, (rtSpn l).2) else ((rtWhole l).1, true, (rtWhole l).2) := by
  unfold rtEith rtWhole
  by_cases h : l ≠ [] ∧ (rtNum 0 l).2 = []
  · rw [if_pos h, if_pos h]
    by_cases hv : (rtNum 0 l).1 > 1099511627776
    · rw [if_pos hv, if_pos hv]; rfl
    · rw [if_neg hv, if_neg hv]; rfl
  · rw [if_neg h, if_neg h]; rfl

theorem rtWhole_le (l : List UInt8) : 0 ≤ (rtWhole l).1 ∧ (rtWhole l).1 ≤ 1099511627776 ∧ ((rtWhole l).2 = 0 ∨ (rtWhole l).2 = 2 ∨ (rtWhole l).2 = 3) := by
  unfold rtWhole
  generalize (rtNum 0 l).1 = v
  split
  · split
    · simp
    · refine ⟨?_, ?_, Or.inl rfl⟩ <;> simp only <;> omega
  · simp

theorem snoc_of {l : List UInt8} (h : l ≠ []) : ∃ i c, l = i ++ [c] := ⟨l.dropLast, l.getLast h, (List.dropLast_concat_getLast h).symm⟩

theorem rtSpn_nil : rtSpn [] = (0, 2) := rfl

theorem rtSpn_le (l : List UInt8) : 0 ≤ (rtSpn l).1 ∧ (rtSpn l).1 ≤ 1099511627776 ∧ ((rtSpn l).2 = 0 ∨ (rtSpn l).2 = 2 ∨ (rtSpn l).2 = 3) := by
  by_cases h : l = []
  · subst h; rw [rtSpn_nil]; simp
  · obtain ⟨i, c, rfl⟩ := snoc_of h
    rw [rtSpn_snoc]
    have hw := rtWhole_le i
    have hu := rtUnit_le c.toNat
    generalize rtWhole i = w at *
    generalize rtUnit c.toNat = u at *
    split
    · simp
    · rename_i h1
      split
      · simp
      · rename_i h2
        have h0 : ¬ u = 0 := fun e => h1 (Or.inl e)
        have q2 : (1099511627776 : Int) / u * u ≤ 1099511627776 := Int.ediv_mul_le _ h0
        have m1 : w.1 * u ≤ 1099511627776 / u * u := Int.mul_le_mul_of_nonneg_right (by
          have : ¬ w.1 > 1099511627776 / u := fun e => h2 (Or.inr e)
          omega) (by omega)
        have m2 : 0 ≤ w.1 * u := Int.mul_nonneg (by omega) (by omega)
        refine ⟨m2, ?_, Or.inl rfl⟩
        show w.1 * u ≤ _
        omega

theorem rtEith_le (l : List UInt8) : 0 ≤ (rtEith l).1 ∧ (rtEith l).1 ≤ 1099511627776 ∧ ((rtEith l).2.2 = 0 ∨ (rtEith l).2.2 = 2 ∨ (rtEith l).2.2 = 3) := by
  rw [rtEith_eq]
  have h1 := rtWhole_le l
  have h2 := rtSpn_le l
  split
  · exact h2
  · exact h1

theorem colon_bad {l : List UInt8} (h : (58 : UInt8) ∈ l) : (rtEith l).2.2 = 2 := by
  have hnd : ∀ i : List UInt8, (58 : UInt8) ∈ i → (rtWhole i).2 = 2 := by
    intro i hi
    unfold rtWhole
    rw [if_neg]
    rintro ⟨_, h⟩
    have := (rtNum_all _ _).1 h
    rw [List.all_eq_true] at this
    exact absurd (this _ hi) (by decide)
  rw [rtEith_eq, if_pos (hnd l h)]
  have hne : l ≠ [] := by rintro rfl; simp at h
  obtain ⟨i, c, rfl⟩ := snoc_of hne
  rw [rtSpn_snoc]
  rcases List.mem_append.1 h with h | h
  · rw [if_pos (Or.inr (hnd i h))]
  · have : c = 58 := (List.mem_singleton.1 h).symm
    subst this
    rw [if_pos (Or.inl (by decide))]

/-- An archive of a text; how it fails. -/
def rtRung (l : List UInt8) : Int × Int × Int := match partsB 58 (Lib.trimB l 32) with
  | [a, b] => if (rtEith a).2.2 = 2 ∨ (rtEith b).2.2 = 2 then (0, 0, 7) else if (rtEith a).2.2 ≠ 0 ∨ (rtEith b).2.2 ≠ 0 ∨ (rtEith a).1 = 0 then (0, 0, 3) else ((rtEith a).1, if (rtEith b).2.1 then (rtEith b).1 else (rtEith b).1 / (rtEith a).1, 0)
  | _ => (0, 0, 7)

theorem index_mem {l : List UInt8} {c : UInt8} (h : 0 ≤ Lib.indexByte l c) : c ∈ l := by
  induction l with
  | nil => simp [Lib.indexByte] at h
  | cons b l ih =>
    by_cases hb : b = c
    · subst hb; simp
    · refine List.mem_cons_of_mem _ (ih ?_)
      have hge := Lib.indexByte_ge l c
      have hb' : (b == c) = false := by simpa using hb
      simp only [Lib.indexByte, hb'] at h
      by_cases hi : Lib.indexByte l c = -1
      · have hi' : (Lib.indexByte l c == -1) = true := by simpa using hi
        simp [hi] at h
      · omega

theorem rtRung_eq (l : List UInt8) : rtRung l = (let t := Lib.trimB l 32; let i := Lib.indexByte t 58
    if i < 0 then (0, 0, 7) else let x := rtEith (t.take i.toNat); let y := rtEith (t.drop (i.toNat + 1))
      if x.2.2 = 2 ∨ y.2.2 = 2 then (0, 0, 7) else if x.2.2 ≠ 0 ∨ y.2.2 ≠ 0 ∨ x.1 = 0 then (0, 0, 3) else (x.1, if y.2.1 then y.1 else y.1 / x.1, 0)) := by
  unfold rtRung
  generalize Lib.trimB l 32 = t
  have hp := partsB_at 58 t
  simp only
  generalize Lib.indexByte t 58 = i at *
  by_cases hi : i < 0
  · rw [hp.1 hi, if_pos hi]
  · obtain ⟨_, h2⟩ := hp.2 (by omega)
    rw [h2, if_neg hi]
    generalize t.drop (i.toNat + 1) = d
    have hq := partsB_at 58 d
    by_cases hj : Lib.indexByte d 58 < 0
    · rw [hq.1 hj]
    · obtain ⟨_, h3⟩ := hq.2 (by omega)
      have hb := colon_bad (index_mem (show 0 ≤ Lib.indexByte d 58 by omega))
      rw [h3, if_pos (Or.inr hb)]
      have hne := partsB_ne 58 (d.drop ((Lib.indexByte d 58).toNat + 1))
      generalize partsB 58 (d.drop ((Lib.indexByte d 58).toNat + 1)) = ps at *
      cases ps with
      | nil => exact absurd rfl hne
      | cons a b => rfl

theorem rtRung_le (l : List UInt8) : (0 ≤ (rtRung l).1 ∧ (rtRung l).1 ≤ 1099511627776) ∧ (0 ≤ (rtRung l).2.1 ∧ (rtRung l).2.1 ≤ 1099511627776) ∧ ((rtRung l).2.2 = 0 ∨ (rtRung l).2.2 = 3 ∨ (rtRung l).2.2 = 7) := by
  unfold rtRung
  split
  · rename_i a b _
    have ha := rtEith_le a
    have hb := rtEith_le b
    split
    · simp
    · split
      · simp
      · rename_i h
        refine ⟨⟨ha.1, ha.2.1⟩, ?_, Or.inl rfl⟩
        simp only
        split
        · exact ⟨hb.1, hb.2.1⟩
        · have : 0 < (rtEith a).1 := by
            have : ¬ (rtEith a).1 = 0 := fun e => h (Or.inr (Or.inr e))
            omega
          exact ⟨Int.ediv_nonneg hb.1 (by omega), Int.le_trans (Int.ediv_le_self _ hb.1) hb.2.1⟩
  · simp

end Go.Proofs.YtbkchhjdjijhkaaDoor
