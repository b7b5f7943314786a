/- Spans and archives of a text, the program's way. No statement of the seat is proved here. -/
import Derived.Test.YtcadhlakhdndjaaDoorRtMath
import Derived.Test.YtcadhlakhdndjaaDoorRtWhole2
import Derived.Test.YtcadhlakhdndjaaDoorLbText
import Derived.Test.YtcadhlakhdndjaaDoorSxH
set_option linter.unusedSimpArgs false
set_option linter.unusedVariables false
namespace Go.Proofs.YtcadhlakhdndjaaDoor
open Go Go.Sx

theorem unit_ix (c : UInt8) : (Lib.indexByte [115, 109, 104, 100, 119, 121] c < 0 ∧ rtUnit c.toNat = 0) ∨ (Lib.indexByte [115, 109, 104, 100, 119, 121] c = 0 ∧ rtUnit c.toNat = 1) ∨ (Lib.indexByte [115, 109, 104, 100, 119, 121] c = 1 ∧ rtUnit c.toNat = 60) ∨ (Lib.indexByte [115, 109, 104, 100, 119, 121] c = 2 ∧ rtUnit c.toNat = 3600) ∨
    (Lib.indexByte [115, 109, 104, 100, 119, 121] c = 3 ∧ rtUnit c.toNat = 86400) ∨ (Lib.indexByte [115, 109, 104, 100, 119, 121] c = 4 ∧ rtUnit c.toNat = 604800) ∨ (Lib.indexByte [115, 109, 104, 100, 119, 121] c = 5 ∧ rtUnit c.toNat = 31536000) := by
  have h := (by decide +kernel : ∀ n : Fin 256, (Lib.indexByte [115, 109, 104, 100, 119, 121] (UInt8.ofNat n.1) < 0 ∧ rtUnit (UInt8.ofNat n.1).toNat = 0) ∨ (Lib.indexByte [115, 109, 104, 100, 119, 121] (UInt8.ofNat n.1) = 0 ∧ rtUnit (UInt8.ofNat n.1).toNat = 1) ∨ (Lib.indexByte [115, 109, 104, 100, 119, 121] (UInt8.ofNat n.1) = 1 ∧ rtUnit (UInt8.ofNat n.1).toNat = 60) ∨ (Lib.indexByte [115, 109, 104, 100, 119, 121] (UInt8.ofNat n.1) = 2 ∧ rtUnit (UInt8.ofNat n.1).toNat = 3600) ∨
    (Lib.indexByte [115, 109, 104, 100, 119, 121] (UInt8.ofNat n.1) = 3 ∧ rtUnit (UInt8.ofNat n.1).toNat = 86400) ∨ (Lib.indexByte [115, 109, 104, 100, 119, 121] (UInt8.ofNat n.1) = 4 ∧ rtUnit (UInt8.ofNat n.1).toNat = 604800) ∨ (Lib.indexByte [115, 109, 104, 100, 119, 121] (UInt8.ofNat n.1) = 5 ∧ rtUnit (UInt8.ofNat n.1).toNat = 31536000))
  have := h ⟨c.toNat, u8_lt c⟩
  simpa using this

theorem strE (s : ByteArray) : binStr .eql s (bs []) = some (.bool (decide (s.size = 0))) := by
  simp only [binStr]
  have hn : (bs []).toList = [] := by rw [Lib.toList_data]; rfl
  congr 2
  rw [hn, Lib.toList_data, ← ba_len]
  cases s.data.toList with
  | nil => rfl
  | cons a l => rw [decide_eq_false (by simp)]; rfl

theorem f_retention_Span (s : ByteArray) (hs : s.size ≤ 140737488351232) : Meets Tryd.prog E0 n_retention_Span [Str s] [] (.tp [I (rtSpn s.data.toList).1, I (rtSpn s.data.toList).2]) [] := by
  refine m_retention_Span (by simp) (shut0 rfl) (shut0 rfl) (by simp) (by simp [keysOf]) ?_
  have es := strE s
  by_cases h0 : s.size = 0
  · have hv : rtSpn s.data.toList = (0, 2) := by
      have : s.data.toList = [] := List.eq_nil_of_length_eq_zero (by rw [ba_len]; exact h0)
      rw [this]; rfl
    rw [decide_eq_true h0] at es
    rw [hv]
    simp only [go_sem, s_retention_Span, es, ↓reduceIte, Nat.reduceEqDiff, Nat.reduceAdd, Nat.reduceLeDiff, reduceCtorEq, Nat.reduceLT, Int.reduceLT, Int.reduceLE, Int.reduceEq, Int.reduceToNat, Nat.reduceMul]
    refine wends (by first | exact Or.inl rfl | exact Or.inr rfl) ?_ (by first | rfl | simp [AV.ids, idsL])
    simp only [go_sem, r_retention_Span, ↓reduceIte, Nat.reduceEqDiff, Nat.reduceAdd, Nat.reduceLeDiff, reduceCtorEq, Nat.reduceLT, Int.reduceLT, Int.reduceLE, Int.reduceEq, Int.reduceToNat, Nat.reduceMul]
  · rw [decide_eq_false h0] at es
    have hne : s.data.toList ≠ [] := by intro h; rw [← ba_len, h] at h0; exact h0 rfl
    obtain ⟨i, c, hic⟩ := snoc_of hne
    have hlen : i.length + 1 = s.size := by rw [← ba_len, hic]; simp
    have hg : s[i.length]? = some c := by rw [ba_get, hic]; simp
    have hx : (s.extract 0 i.length).data.toList = i := by rw [← take_bytes, hic]; simp
    have hsz : (s.extract 0 i.length).size ≤ 140737488351232 := by rw [← ba_len, hx]; omega
    have hwh := f_retention_whole (s.extract 0 i.length) hsz
    rw [hx] at hwh
    have e1 : IntKind.i64.wrap ((s.size : Int) - 1) = (i.length : Int) := by rw [wrap_i64_of (by omega) (by omega)]; omega
    have hsp := rtSpn_snoc i c
    rw [← hic] at hsp
    have hw := rtWhole_le i
    have hix := f_IndexByte ⟨#[115, 109, 104, 100, 119, 121]⟩ c
    have hb : (i.length : Int) ≤ (s.size : Int) := by omega
    have hu := unit_ix c
    have hxi : Lib.indexByte (⟨#[115, 109, 104, 100, 119, 121]⟩ : ByteArray).data.toList c = Lib.indexByte [115, 109, 104, 100, 119, 121] c := rfl
    rw [hxi] at hix
    generalize Lib.indexByte [115, 109, 104, 100, 119, 121] c = u at *
    generalize rtWhole i = w at *
    generalize rtUnit c.toNat = v at *
    obtain ⟨n, e⟩ := w
    simp only at hw hsp hwh
    simp only [go_sem, s_retention_Span, es, e1, hg, ↓reduceIte, Nat.reduceEqDiff, Nat.reduceAdd, Nat.reduceLeDiff, reduceCtorEq, Nat.reduceLT, Int.reduceLT, Int.reduceLE, Int.reduceEq, Int.reduceToNat, Nat.reduceMul]
    refine Cl_plain hix ?_
    simp only [go_sem, hb, ↓reduceIte, Nat.reduceEqDiff, Nat.reduceAdd, Nat.reduceLeDiff, reduceCtorEq, Nat.reduceLT, Int.reduceLT, Int.reduceLE, Int.reduceEq, Int.reduceToNat, Nat.reduceMul]
    refine Cl_plain hwh ?_
    clear hwh hix hg hne es
    rcases hu with ⟨hu, hv⟩ | hu
    · rw [if_pos (Or.inl hv)] at hsp
      have d0 : decide (u < 0) = true := decide_eq_true hu
      rw [hsp]
      simp only [go_sem, d0, ↓reduceIte, Nat.reduceEqDiff, Nat.reduceAdd, Nat.reduceLeDiff, reduceCtorEq, Nat.reduceLT, Int.reduceLT, Int.reduceLE, Int.reduceEq, Int.reduceToNat, Nat.reduceMul]
      refine wends (by first | exact Or.inl rfl | exact Or.inr rfl) ?_ (by first | rfl | simp [AV.ids, idsL])
      simp only [go_sem, r_retention_Span, ↓reduceIte, Nat.reduceEqDiff, Nat.reduceAdd, Nat.reduceLeDiff, reduceCtorEq, Nat.reduceLT, Int.reduceLT, Int.reduceLE, Int.reduceEq, Int.reduceToNat, Nat.reduceMul]
    · have d0 : decide (u < 0) = false := decide_eq_false (by omega)
      rcases hw.2.2 with he | he | he
      · subst he
        have c6 : ((6 : Nat) : Int) = 6 := rfl
        have h0 : ¬ v = 0 := by omega
        have wq : binInt .quo .i64 1099511627776 v = some (.int .i64 (1099511627776 / v)) := by
          have q0 : (0 : Int) ≤ 1099511627776 / v := Int.ediv_nonneg (by omega) (by omega)
          have q1 : (1099511627776 : Int) / v ≤ 1099511627776 := Int.ediv_le_self _ (by omega)
          rw [i64_quo h0, sdiv (by omega), wrap_i64_of (by omega) (by omega)]
        have q2 : (1099511627776 : Int) / v * v ≤ 1099511627776 := Int.ediv_mul_le _ h0
        rw [if_neg (by simp [h0])] at hsp
        by_cases hq : 1099511627776 / v < n
        · have dq : decide (1099511627776 / v < n) = true := decide_eq_true hq
          rw [if_pos (Or.inr hq)] at hsp
          rw [hsp]
          rcases hu with ⟨rfl, rfl⟩ | ⟨rfl, rfl⟩ | ⟨rfl, rfl⟩ | ⟨rfl, rfl⟩ | ⟨rfl, rfl⟩ | ⟨rfl, rfl⟩
          all_goals
            simp only [go_sem, wq, dq, c6, ↓reduceIte, Nat.reduceEqDiff, Nat.reduceAdd, Nat.reduceLeDiff, reduceCtorEq, Nat.reduceLT, Int.reduceLT, Int.reduceLE, Int.reduceEq, Int.reduceToNat, Nat.reduceMul]
            refine wends (by first | exact Or.inl rfl | exact Or.inr rfl) ?_ (by first | rfl | simp [AV.ids, idsL])
            simp only [go_sem, r_retention_Span, ↓reduceIte, Nat.reduceEqDiff, Nat.reduceAdd, Nat.reduceLeDiff, reduceCtorEq, Nat.reduceLT, Int.reduceLT, Int.reduceLE, Int.reduceEq, Int.reduceToNat, Nat.reduceMul]
        · have dq : decide (1099511627776 / v < n) = false := decide_eq_false hq
          have wm : IntKind.i64.wrap (n * v) = n * v := by
            have m1 : n * v ≤ 1099511627776 / v * v := Int.mul_le_mul_of_nonneg_right (by omega) (by omega)
            have m2 : 0 ≤ n * v := Int.mul_nonneg (by omega) (by omega)
            exact wrap_i64_of (by omega) (by omega)
          rw [if_neg (by rintro (h | h); exact h rfl; exact hq h)] at hsp
          rw [hsp]
          rcases hu with ⟨rfl, rfl⟩ | ⟨rfl, rfl⟩ | ⟨rfl, rfl⟩ | ⟨rfl, rfl⟩ | ⟨rfl, rfl⟩ | ⟨rfl, rfl⟩
          all_goals
            simp only [go_sem, wq, dq, wm, c6, ↓reduceIte, Nat.reduceEqDiff, Nat.reduceAdd, Nat.reduceLeDiff, reduceCtorEq, Nat.reduceLT, Int.reduceLT, Int.reduceLE, Int.reduceEq, Int.reduceToNat, Nat.reduceMul]
            refine wends (by first | exact Or.inl rfl | exact Or.inr rfl) ?_ (by first | rfl | simp [AV.ids, idsL])
            simp only [go_sem, r_retention_Span, ↓reduceIte, Nat.reduceEqDiff, Nat.reduceAdd, Nat.reduceLeDiff, reduceCtorEq, Nat.reduceLT, Int.reduceLT, Int.reduceLE, Int.reduceEq, Int.reduceToNat, Nat.reduceMul]
      · subst he
        rw [if_pos (Or.inr rfl)] at hsp
        rw [hsp]
        simp only [go_sem, d0, ↓reduceIte, Nat.reduceEqDiff, Nat.reduceAdd, Nat.reduceLeDiff, reduceCtorEq, Nat.reduceLT, Int.reduceLT, Int.reduceLE, Int.reduceEq, Int.reduceToNat, Nat.reduceMul]
        refine wends (by first | exact Or.inl rfl | exact Or.inr rfl) ?_ (by first | rfl | simp [AV.ids, idsL])
        simp only [go_sem, r_retention_Span, ↓reduceIte, Nat.reduceEqDiff, Nat.reduceAdd, Nat.reduceLeDiff, reduceCtorEq, Nat.reduceLT, Int.reduceLT, Int.reduceLE, Int.reduceEq, Int.reduceToNat, Nat.reduceMul]
      · subst he
        have h0 : ¬ v = 0 := by omega
        rw [if_neg (by simp [h0]), if_pos (Or.inl (by decide))] at hsp
        rw [hsp]
        simp only [go_sem, d0, ↓reduceIte, Nat.reduceEqDiff, Nat.reduceAdd, Nat.reduceLeDiff, reduceCtorEq, Nat.reduceLT, Int.reduceLT, Int.reduceLE, Int.reduceEq, Int.reduceToNat, Nat.reduceMul]
        refine wends (by first | exact Or.inl rfl | exact Or.inr rfl) ?_ (by first | rfl | simp [AV.ids, idsL])
        simp only [go_sem, r_retention_Span, ↓reduceIte, Nat.reduceEqDiff, Nat.reduceAdd, Nat.reduceLeDiff, reduceCtorEq, Nat.reduceLT, Int.reduceLT, Int.reduceLE, Int.reduceEq, Int.reduceToNat, Nat.reduceMul]

theorem f_retention_either (s : ByteArray) (hs : s.size ≤ 140737488351232) : Meets Tryd.prog E0 n_retention_either [Str s] [] (.tp [I (rtEith s.data.toList).1, Bo (rtEith s.data.toList).2.1, I (rtEith s.data.toList).2.2]) [] := by
  refine m_retention_either (by simp) (shut0 rfl) (shut0 rfl) (by simp) (by simp [keysOf]) ?_
  have hw := f_retention_whole s hs
  have hp := f_retention_Span s hs
  rw [rtEith_eq]
  generalize rtWhole s.data.toList = w at *
  generalize rtSpn s.data.toList = q at *
  by_cases h : w.2 = 2
  · have d : decide (w.2 = 2) = true := decide_eq_true h
    rw [if_pos h]
    simp only [go_sem, s_retention_either, ↓reduceIte, Nat.reduceEqDiff, Nat.reduceAdd, Nat.reduceLeDiff, reduceCtorEq, Nat.reduceLT, Int.reduceLT, Int.reduceLE, Int.reduceEq, Int.reduceToNat, Nat.reduceMul]
    refine Cl_plain hw ?_
    simp only [go_sem, d, ↓reduceIte, Nat.reduceEqDiff, Nat.reduceAdd, Nat.reduceLeDiff, reduceCtorEq, Nat.reduceLT, Int.reduceLT, Int.reduceLE, Int.reduceEq, Int.reduceToNat, Nat.reduceMul]
    refine Cl_plain hp ?_
    simp only [go_sem, ↓reduceIte, Nat.reduceEqDiff, Nat.reduceAdd, Nat.reduceLeDiff, reduceCtorEq, Nat.reduceLT, Int.reduceLT, Int.reduceLE, Int.reduceEq, Int.reduceToNat, Nat.reduceMul]
    refine wends (by first | exact Or.inl rfl | exact Or.inr rfl) ?_ (by first | rfl | simp [AV.ids, idsL])
    simp only [go_sem, r_retention_either, ↓reduceIte, Nat.reduceEqDiff, Nat.reduceAdd, Nat.reduceLeDiff, reduceCtorEq, Nat.reduceLT, Int.reduceLT, Int.reduceLE, Int.reduceEq, Int.reduceToNat, Nat.reduceMul]
  · have d : decide (w.2 = 2) = false := decide_eq_false h
    rw [if_neg h]
    simp only [go_sem, s_retention_either, ↓reduceIte, Nat.reduceEqDiff, Nat.reduceAdd, Nat.reduceLeDiff, reduceCtorEq, Nat.reduceLT, Int.reduceLT, Int.reduceLE, Int.reduceEq, Int.reduceToNat, Nat.reduceMul]
    refine Cl_plain hw ?_
    simp only [go_sem, d, ↓reduceIte, Nat.reduceEqDiff, Nat.reduceAdd, Nat.reduceLeDiff, reduceCtorEq, Nat.reduceLT, Int.reduceLT, Int.reduceLE, Int.reduceEq, Int.reduceToNat, Nat.reduceMul]
    refine wends (by first | exact Or.inl rfl | exact Or.inr rfl) ?_ (by first | rfl | simp [AV.ids, idsL])
    simp only [go_sem, r_retention_either, ↓reduceIte, Nat.reduceEqDiff, Nat.reduceAdd, Nat.reduceLeDiff, reduceCtorEq, Nat.reduceLT, Int.reduceLT, Int.reduceLE, Int.reduceEq, Int.reduceToNat, Nat.reduceMul]

theorem f_retention_rung (s : ByteArray) (hs : s.size ≤ 140737488351232) : Meets Tryd.prog E0 n_retention_rung [Str s] [] (.tp [.ag [I (rtRung s.data.toList).1, I (rtRung s.data.toList).2.1], I (rtRung s.data.toList).2.2]) [] := by
  refine m_retention_rung (by simp) (shut0 rfl) (shut0 rfl) (by simp) (by simp [keysOf]) ?_
  have hT := f_Trim_one s 32 (by decide) (by omega)
  obtain ⟨t, ht⟩ : ∃ t : ByteArray, t = ⟨(Lib.trimB s.data.toList 32).toArray⟩ := ⟨_, rfl⟩
  have htl : t.data.toList = Lib.trimB s.data.toList 32 := by rw [ht]
  have htz : t.size ≤ s.size := by
    rw [← ba_len, ← ba_len, htl]
    unfold Lib.trimB Lib.trimLeftB Lib.trimRightB
    refine Nat.le_trans (List.dropWhile_suffix _).length_le ?_
    rw [List.length_reverse]
    refine Nat.le_trans (List.dropWhile_suffix _).length_le ?_
    rw [List.length_reverse]; exact Nat.le_refl _
  have hr := rtRung_eq s.data.toList
  rw [← htl] at hr
  rw [← ht] at hT
  have hC := f_Cut t 58 (by omega)
  clear ht htl
  simp only at hr
  have hat := partsB_at 58 t.data.toList
  unfold cutB at hC
  generalize Lib.indexByte t.data.toList 58 = i at *
  by_cases hi : i < 0
  · rw [if_neg (by omega)] at hC
    rw [if_pos hi] at hr
    rw [hr]
    simp only [go_sem, s_retention_rung, ↓reduceIte, Nat.reduceEqDiff, Nat.reduceAdd, Nat.reduceLeDiff, reduceCtorEq, Nat.reduceLT, Int.reduceLT, Int.reduceLE, Int.reduceEq, Int.reduceToNat, Nat.reduceMul]
    refine Cl_plain hT ?_
    simp only [go_sem, ↓reduceIte, Nat.reduceEqDiff, Nat.reduceAdd, Nat.reduceLeDiff, reduceCtorEq, Nat.reduceLT, Int.reduceLT, Int.reduceLE, Int.reduceEq, Int.reduceToNat, Nat.reduceMul]
    refine Cl_plain hC ?_
    simp only [go_sem, ↓reduceIte, Nat.reduceEqDiff, Nat.reduceAdd, Nat.reduceLeDiff, reduceCtorEq, Nat.reduceLT, Int.reduceLT, Int.reduceLE, Int.reduceEq, Int.reduceToNat, Nat.reduceMul]
    refine wends (by first | exact Or.inl rfl | exact Or.inr rfl) ?_ (by first | rfl | simp [AV.ids, idsL])
    simp only [go_sem, r_retention_rung, ↓reduceIte, Nat.reduceEqDiff, Nat.reduceAdd, Nat.reduceLeDiff, reduceCtorEq, Nat.reduceLT, Int.reduceLT, Int.reduceLE, Int.reduceEq, Int.reduceToNat, Nat.reduceMul]
  · rw [if_pos (by omega)] at hC
    rw [if_neg hi] at hr
    obtain ⟨n, rfl⟩ : ∃ n : Nat, i = n := ⟨i.toNat, by omega⟩
    simp only [Int.toNat_natCast] at hC hr hat
    have e1 : (t.extract 0 n).data.toList = t.data.toList.take n := (take_bytes t n).symm
    have e2 : (t.extract (n + 1) t.size).data.toList = t.data.toList.drop (n + 1) := Lib.extract_to_end ..
    have z1 : (t.extract 0 n).size ≤ 140737488351232 := by rw [← ba_len, e1]; simp; omega
    have z2 : (t.extract (n + 1) t.size).size ≤ 140737488351232 := by rw [← ba_len, e2]; simp; omega
    have h1 := f_retention_either _ z1
    have h2 := f_retention_either _ z2
    have b1 := rtEith_le (t.data.toList.take n)
    have b2 := rtEith_le (t.data.toList.drop (n + 1))
    rw [e1] at h1
    rw [e2] at h2
    generalize rtRung s.data.toList = R at *
    generalize t.extract 0 n = t1 at *
    generalize t.extract (n + 1) t.size = t2 at *
    generalize rtEith (t.data.toList.take n) = x at *
    generalize rtEith (t.data.toList.drop (n + 1)) = y at *
    clear hat
    obtain ⟨x1, xb, xe⟩ := x
    obtain ⟨y1, yb, ye⟩ := y
    simp only at b1 b2 hr h1 h2
    simp only [go_sem, s_retention_rung, ↓reduceIte, Nat.reduceEqDiff, Nat.reduceAdd, Nat.reduceLeDiff, reduceCtorEq, Nat.reduceLT, Int.reduceLT, Int.reduceLE, Int.reduceEq, Int.reduceToNat, Nat.reduceMul]
    refine Cl_plain hT ?_
    simp only [go_sem, ↓reduceIte, Nat.reduceEqDiff, Nat.reduceAdd, Nat.reduceLeDiff, reduceCtorEq, Nat.reduceLT, Int.reduceLT, Int.reduceLE, Int.reduceEq, Int.reduceToNat, Nat.reduceMul]
    refine Cl_plain hC ?_
    simp only [go_sem, ↓reduceIte, Nat.reduceEqDiff, Nat.reduceAdd, Nat.reduceLeDiff, reduceCtorEq, Nat.reduceLT, Int.reduceLT, Int.reduceLE, Int.reduceEq, Int.reduceToNat, Nat.reduceMul]
    refine Cl_plain h1 ?_
    simp only [go_sem, ↓reduceIte, Nat.reduceEqDiff, Nat.reduceAdd, Nat.reduceLeDiff, reduceCtorEq, Nat.reduceLT, Int.reduceLT, Int.reduceLE, Int.reduceEq, Int.reduceToNat, Nat.reduceMul]
    refine Cl_plain h2 ?_
    clear hT hC h1 h2 e1 e2 z1 z2
    by_cases q1 : xe = 2 ∨ ye = 2
    · rw [if_pos q1] at hr
      rw [hr]
      rcases b1.2.2 with rfl | rfl | rfl <;> rcases b2.2.2 with rfl | rfl | rfl <;> first | (exfalso; revert q1; decide) | skip
      all_goals
        simp only [go_sem, ↓reduceIte, Nat.reduceEqDiff, Nat.reduceAdd, Nat.reduceLeDiff, reduceCtorEq, Nat.reduceLT, Int.reduceLT, Int.reduceLE, Int.reduceEq, Int.reduceToNat, Nat.reduceMul]
        refine wends (by first | exact Or.inl rfl | exact Or.inr rfl) ?_ (by first | rfl | simp [AV.ids, idsL])
        simp only [go_sem, r_retention_rung, ↓reduceIte, Nat.reduceEqDiff, Nat.reduceAdd, Nat.reduceLeDiff, reduceCtorEq, Nat.reduceLT, Int.reduceLT, Int.reduceLE, Int.reduceEq, Int.reduceToNat, Nat.reduceMul]
    · rw [if_neg q1] at hr
      by_cases q2 : xe ≠ 0 ∨ ye ≠ 0 ∨ x1 = 0
      · rw [if_pos q2] at hr
        rw [hr]
        rcases b1.2.2 with rfl | rfl | rfl <;> rcases b2.2.2 with rfl | rfl | rfl <;> first | (exfalso; revert q1; decide) | skip
        · have d : decide (x1 = 0) = true := by simpa using q2
          simp only [go_sem, d, ↓reduceIte, Nat.reduceEqDiff, Nat.reduceAdd, Nat.reduceLeDiff, reduceCtorEq, Nat.reduceLT, Int.reduceLT, Int.reduceLE, Int.reduceEq, Int.reduceToNat, Nat.reduceMul]
          refine wends (by first | exact Or.inl rfl | exact Or.inr rfl) ?_ (by first | rfl | simp [AV.ids, idsL])
          simp only [go_sem, r_retention_rung, ↓reduceIte, Nat.reduceEqDiff, Nat.reduceAdd, Nat.reduceLeDiff, reduceCtorEq, Nat.reduceLT, Int.reduceLT, Int.reduceLE, Int.reduceEq, Int.reduceToNat, Nat.reduceMul]
        all_goals
          simp only [go_sem, ↓reduceIte, Nat.reduceEqDiff, Nat.reduceAdd, Nat.reduceLeDiff, reduceCtorEq, Nat.reduceLT, Int.reduceLT, Int.reduceLE, Int.reduceEq, Int.reduceToNat, Nat.reduceMul]
          refine wends (by first | exact Or.inl rfl | exact Or.inr rfl) ?_ (by first | rfl | simp [AV.ids, idsL])
          simp only [go_sem, r_retention_rung, ↓reduceIte, Nat.reduceEqDiff, Nat.reduceAdd, Nat.reduceLeDiff, reduceCtorEq, Nat.reduceLT, Int.reduceLT, Int.reduceLE, Int.reduceEq, Int.reduceToNat, Nat.reduceMul]
      · rw [if_neg q2] at hr
        rw [hr]
        obtain ⟨rfl, rfl, h0⟩ : xe = 0 ∧ ye = 0 ∧ ¬ x1 = 0 := by
          refine ⟨?_, ?_, ?_⟩ <;> (apply Decidable.byContradiction; intro h; apply q2; simp_all)
        have d : decide (x1 = 0) = false := decide_eq_false h0
        have wq : binInt .quo .i64 y1 x1 = some (.int .i64 (y1 / x1)) := by
          have q0 : (0 : Int) ≤ y1 / x1 := Int.ediv_nonneg (by omega) (by omega)
          have q1 : y1 / x1 ≤ y1 := Int.ediv_le_self _ (by omega)
          rw [i64_quo h0, sdiv (by omega), wrap_i64_of (by omega) (by omega)]
        cases yb
        · simp only [go_sem, d, wq, ↓reduceIte, Nat.reduceEqDiff, Nat.reduceAdd, Nat.reduceLeDiff, reduceCtorEq, Nat.reduceLT, Int.reduceLT, Int.reduceLE, Int.reduceEq, Int.reduceToNat, Nat.reduceMul]
          refine wends (by first | exact Or.inl rfl | exact Or.inr rfl) ?_ (by first | rfl | simp [AV.ids, idsL])
          simp only [go_sem, r_retention_rung, ↓reduceIte, Nat.reduceEqDiff, Nat.reduceAdd, Nat.reduceLeDiff, reduceCtorEq, Nat.reduceLT, Int.reduceLT, Int.reduceLE, Int.reduceEq, Int.reduceToNat, Nat.reduceMul]
        · simp only [go_sem, d, ↓reduceIte, Nat.reduceEqDiff, Nat.reduceAdd, Nat.reduceLeDiff, reduceCtorEq, Nat.reduceLT, Int.reduceLT, Int.reduceLE, Int.reduceEq, Int.reduceToNat, Nat.reduceMul]
          refine wends (by first | exact Or.inl rfl | exact Or.inr rfl) ?_ (by first | rfl | simp [AV.ids, idsL])
          simp only [go_sem, r_retention_rung, ↓reduceIte, Nat.reduceEqDiff, Nat.reduceAdd, Nat.reduceLeDiff, reduceCtorEq, Nat.reduceLT, Int.reduceLT, Int.reduceLE, Int.reduceEq, Int.reduceToNat, Nat.reduceMul]

end Go.Proofs.YtcadhlakhdndjaaDoor
