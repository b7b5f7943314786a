/- A span's text, the document's way. No statement of the seat is proved here. -/
import Derived.Test.YtcadhlakhdndjaaDoorRtNum
import Derived.Test.YtcadhlakhdndjaaDoorSxH
set_option linter.unusedSimpArgs false
set_option linter.unusedVariables false
namespace Go.Proofs.YtcadhlakhdndjaaDoor
open Go Go.Sx

theorem rtNum_suf : ∀ (l : List UInt8) (n : Nat), (rtNum n l).2 <:+ l
  | [], n => by simp [rtNum]
  | b :: l, n => by
    simp only [rtNum]
    split
    · exact (rtNum_suf l _).trans (List.suffix_cons b l)
    · exact List.suffix_refl _

/-- Seconds of a text; how it fails. -/
def rtSpn (l : List UInt8) : Int × Int := match rtNum 0 l with
  | (n, [c]) => if l.length = 1 then (0, 2) else if rtUnit c.toNat = 0 then (0, 2) else if (n : Int) > 1099511627776 / rtUnit c.toNat then (0, 3) else ((n : Int) * rtUnit c.toNat, 0)
  | _ => (0, 2)

theorem f_ref10_Span (s : ByteArray) (hs : s.size ≤ 4611686018427387904) : Meets Tryd.prog E0 n_ref10_Span [Str s] [] (.tp [I (rtSpn s.data.toList).1, I (rtSpn s.data.toList).2]) [] := by
  refine m_ref10_Span (by simp) (shut0 rfl) (shut0 rfl) (by simp) (by simp [keysOf]) ?_
  simp only [go_sem, s_ref10_Span, ↓reduceIte, Nat.reduceEqDiff, Nat.reduceAdd, Nat.reduceLeDiff, reduceCtorEq, Nat.reduceLT, Int.reduceLT, Int.reduceLE, Int.reduceEq, Int.reduceToNat, Nat.reduceMul]
  refine Cl_plain (f_ref10_number s hs) ?_
  have hsuf : Suf s (rtNum 0 s.data.toList).2 := rtNum_suf _ _
  have hn := (rtNum_le s.data.toList 0 (by omega)).1
  have hL := ba_len s
  have hsp : rtSpn s.data.toList = match rtNum 0 s.data.toList with
    | (n, [c]) => if s.data.toList.length = 1 then (0, 2) else if rtUnit c.toNat = 0 then (0, 2) else if (n : Int) > 1099511627776 / rtUnit c.toNat then (0, 3) else ((n : Int) * rtUnit c.toNat, 0)
    | _ => (0, 2) := rfl
  generalize rtSpn s.data.toList = sp at *
  generalize rtNum 0 s.data.toList = nm at *
  obtain ⟨n, rest⟩ := nm
  simp only at hsuf hn hsp ⊢
  have hl := hsuf.len
  have hg := hsuf.get 0
  simp only [Nat.add_zero] at hg
  obtain ⟨p, hp⟩ : ∃ p, s.size - rest.length = p := ⟨_, rfl⟩
  rw [hp] at hg ⊢
  by_cases h0 : (p : Int) = 0
  · have d0 : decide ((p : Int) = 0) = true := by simp; omega
    simp only [go_sem, d0, ↓reduceIte, Nat.reduceEqDiff, Nat.reduceAdd, Nat.reduceLeDiff, reduceCtorEq, Nat.reduceLT, Int.reduceLT, Int.reduceLE, Int.reduceEq, Int.reduceToNat, Nat.reduceMul]
    have hv : sp = (0, 2) := by
      rw [hsp]
      rcases rest with _ | ⟨c, _ | ⟨d, r⟩⟩
      · rfl
      · simp only [List.length_cons, List.length_nil] at hl hp; simp only [hL, if_pos (show s.size = 1 by omega)]
      · rfl
    rw [hv]
    refine wends (by first | exact Or.inl rfl | exact Or.inr rfl) ?_ (by first | rfl | simp [AV.ids, idsL])
    simp only [go_sem, r_ref10_Span, ↓reduceIte, Nat.reduceEqDiff, Nat.reduceAdd, Nat.reduceLeDiff, reduceCtorEq, Nat.reduceLT, Int.reduceLT, Int.reduceLE, Int.reduceEq, Int.reduceToNat, Nat.reduceMul]
  · have d0 : decide ((p : Int) = 0) = false := by simp; omega
    have w1 : IntKind.i64.wrap ((s.size : Int) - 1) = (s.size : Int) - 1 := wrap_i64_of (by omega) (by omega)
    by_cases h1 : (p : Int) = (s.size : Int) - 1
    · have d1 : decide ((p : Int) = (s.size : Int) - 1) = true := by simp; omega
      have hr1 : rest.length = 1 := by omega
      obtain ⟨c, rfl⟩ : ∃ c, rest = [c] := List.length_eq_one_iff.1 hr1
      simp only [List.getElem?_cons_zero] at hg
      simp only [hL, if_neg (show ¬ s.size = 1 by omega)] at hsp
      have hu := rtUnit_le c.toNat
      have hc := f_ref10_unit c.toNat (u8_lt c)
      generalize rtUnit c.toNat = u at *
      simp only [go_sem, d0, w1, d1, hg, ↓reduceIte, Nat.reduceEqDiff, Nat.reduceAdd, Nat.reduceLeDiff, reduceCtorEq, Nat.reduceLT, Int.reduceLT, Int.reduceLE, Int.reduceEq, Int.reduceToNat, Nat.reduceMul]
      refine Cl_plain hc ?_
      by_cases hu0 : u = 0
      · have du : decide (u = 0) = true := by simp; omega
        simp only [go_sem, du, ↓reduceIte, Nat.reduceEqDiff, Nat.reduceAdd, Nat.reduceLeDiff, reduceCtorEq, Nat.reduceLT, Int.reduceLT, Int.reduceLE, Int.reduceEq, Int.reduceToNat, Nat.reduceMul]
        rw [if_pos hu0] at hsp
        rw [hsp]
        refine wends (by first | exact Or.inl rfl | exact Or.inr rfl) ?_ (by first | rfl | simp [AV.ids, idsL])
        simp only [go_sem, r_ref10_Span, ↓reduceIte, Nat.reduceEqDiff, Nat.reduceAdd, Nat.reduceLeDiff, reduceCtorEq, Nat.reduceLT, Int.reduceLT, Int.reduceLE, Int.reduceEq, Int.reduceToNat, Nat.reduceMul]
      · have du : decide (u = 0) = false := by simp; omega
        simp only [go_sem, du, hg, ↓reduceIte, Nat.reduceEqDiff, Nat.reduceAdd, Nat.reduceLeDiff, reduceCtorEq, Nat.reduceLT, Int.reduceLT, Int.reduceLE, Int.reduceEq, Int.reduceToNat, Nat.reduceMul]
        refine Cl_plain hc ?_
        rw [if_neg hu0] at hsp
        have q0 : (0 : Int) ≤ 1099511627776 / u := Int.ediv_nonneg (by omega) (by omega)
        have q1 : (1099511627776 : Int) / u ≤ 1099511627776 := Int.ediv_le_self _ (by omega)
        have q2 : (1099511627776 : Int) / u * u ≤ 1099511627776 := Int.ediv_mul_le _ hu0
        have wq : binInt .quo .i64 1099511627776 u = some (.int .i64 (1099511627776 / u)) := by
          rw [i64_quo hu0, sdiv (by omega), wrap_i64_of (by omega) (by omega)]
        generalize (1099511627776 : Int) / u = q at *
        by_cases hnq : q < (n : Int)
        · have dq : decide (q < (n : Int)) = true := by simp; omega
          simp only [go_sem, du, wq, dq, ↓reduceIte, Nat.reduceEqDiff, Nat.reduceAdd, Nat.reduceLeDiff, reduceCtorEq, Nat.reduceLT, Int.reduceLT, Int.reduceLE, Int.reduceEq, Int.reduceToNat, Nat.reduceMul]
          rw [if_pos hnq] at hsp
          rw [hsp]
          refine wends (by first | exact Or.inl rfl | exact Or.inr rfl) ?_ (by first | rfl | simp [AV.ids, idsL])
          simp only [go_sem, r_ref10_Span, ↓reduceIte, Nat.reduceEqDiff, Nat.reduceAdd, Nat.reduceLeDiff, reduceCtorEq, Nat.reduceLT, Int.reduceLT, Int.reduceLE, Int.reduceEq, Int.reduceToNat, Nat.reduceMul]
        · have dq : decide (q < (n : Int)) = false := by simp; omega
          have wm : IntKind.i64.wrap ((n : Int) * u) = (n : Int) * u := by
            have m1 : (n : Int) * u ≤ q * u := Int.mul_le_mul_of_nonneg_right (by omega) (by omega)
            have m2 : 0 ≤ (n : Int) * u := Int.mul_nonneg (by omega) (by omega)
            exact wrap_i64_of (by omega) (by omega)
          simp only [go_sem, du, wq, dq, hg, ↓reduceIte, Nat.reduceEqDiff, Nat.reduceAdd, Nat.reduceLeDiff, reduceCtorEq, Nat.reduceLT, Int.reduceLT, Int.reduceLE, Int.reduceEq, Int.reduceToNat, Nat.reduceMul]
          refine Cl_plain hc ?_
          simp only [go_sem, wm, ↓reduceIte, Nat.reduceEqDiff, Nat.reduceAdd, Nat.reduceLeDiff, reduceCtorEq, Nat.reduceLT, Int.reduceLT, Int.reduceLE, Int.reduceEq, Int.reduceToNat, Nat.reduceMul]
          rw [if_neg hnq] at hsp
          rw [hsp]
          refine wends (by first | exact Or.inl rfl | exact Or.inr rfl) ?_ (by first | rfl | simp [AV.ids, idsL])
          simp only [go_sem, r_ref10_Span, ↓reduceIte, Nat.reduceEqDiff, Nat.reduceAdd, Nat.reduceLeDiff, reduceCtorEq, Nat.reduceLT, Int.reduceLT, Int.reduceLE, Int.reduceEq, Int.reduceToNat, Nat.reduceMul]
    · have d1 : decide ((p : Int) = (s.size : Int) - 1) = false := by simp; omega
      simp only [go_sem, d0, w1, d1, ↓reduceIte, Nat.reduceEqDiff, Nat.reduceAdd, Nat.reduceLeDiff, reduceCtorEq, Nat.reduceLT, Int.reduceLT, Int.reduceLE, Int.reduceEq, Int.reduceToNat, Nat.reduceMul]
      have hv : sp = (0, 2) := by
        rw [hsp]
        rcases rest with _ | ⟨c, _ | ⟨d, r⟩⟩
        · rfl
        · simp only [List.length_cons, List.length_nil] at hl hp; omega
        · rfl
      rw [hv]
      refine wends (by first | exact Or.inl rfl | exact Or.inr rfl) ?_ (by first | rfl | simp [AV.ids, idsL])
      simp only [go_sem, r_ref10_Span, ↓reduceIte, Nat.reduceEqDiff, Nat.reduceAdd, Nat.reduceLeDiff, reduceCtorEq, Nat.reduceLT, Int.reduceLT, Int.reduceLE, Int.reduceEq, Int.reduceToNat, Nat.reduceMul]

/-- A span's text, or digits alone. -/
def rtEith (l : List UInt8) : Int × Bool × Int := if l ≠ [] ∧ (rtNum 0 l).2 = [] then (if (rtNum 0 l).1 > 1099511627776 then (0, true, 3) else (((rtNum 0 l).1 : Nat), true, 0)) else ((rtSpn l).1, false, (rtSpn l).2)

theorem f_ref10_either (s : ByteArray) (hs : s.size ≤ 4611686018427387904) : Meets Tryd.prog E0 n_ref10_either [Str s] [] (.tp [I (rtEith s.data.toList).1, Bo (rtEith s.data.toList).2.1, I (rtEith s.data.toList).2.2]) [] := by
  refine m_ref10_either (by simp) (shut0 rfl) (shut0 rfl) (by simp) (by simp [keysOf]) ?_
  simp only [go_sem, s_ref10_either, ↓reduceIte, Nat.reduceEqDiff, Nat.reduceAdd, Nat.reduceLeDiff, reduceCtorEq, Nat.reduceLT, Int.reduceLT, Int.reduceLE, Int.reduceEq, Int.reduceToNat, Nat.reduceMul]
  refine Cl_plain (f_ref10_number s hs) ?_
  have hsuf : Suf s (rtNum 0 s.data.toList).2 := rtNum_suf _ _
  have hn := (rtNum_le s.data.toList 0 (by omega)).1
  have hL := ba_len s
  have hspan := f_ref10_Span s hs
  have hne : s.data.toList ≠ [] ↔ s.size ≠ 0 := by rw [← hL]; cases s.data.toList <;> simp
  have hsp : rtEith s.data.toList = (if s.size ≠ 0 ∧ (rtNum 0 s.data.toList).2 = [] then (if (rtNum 0 s.data.toList).1 > 1099511627776 then (0, true, 3) else (((rtNum 0 s.data.toList).1 : Nat), true, 0)) else ((rtSpn s.data.toList).1, false, (rtSpn s.data.toList).2) : Int × Bool × Int) := by
    unfold rtEith; simp only [hne]
  generalize rtEith s.data.toList = sp at *
  generalize rtSpn s.data.toList = sq at *
  generalize rtNum 0 s.data.toList = nm at *
  obtain ⟨n, rest⟩ := nm
  simp only at hsuf hn hsp ⊢
  have hl := hsuf.len
  obtain ⟨p, hp⟩ : ∃ p, s.size - rest.length = p := ⟨_, rfl⟩
  rw [hp]
  by_cases h0 : p = 0
  · have d0 : decide ((0 : Int) < (p : Int)) = false := by simp; omega
    rw [if_neg (by rintro ⟨h1, h2⟩; subst h2; simp at hp; omega)] at hsp
    simp only [go_sem, d0, ↓reduceIte, Nat.reduceEqDiff, Nat.reduceAdd, Nat.reduceLeDiff, reduceCtorEq, Nat.reduceLT, Int.reduceLT, Int.reduceLE, Int.reduceEq, Int.reduceToNat, Nat.reduceMul]
    refine Cl_plain hspan ?_
    simp only [go_sem, ↓reduceIte, Nat.reduceEqDiff, Nat.reduceAdd, Nat.reduceLeDiff, reduceCtorEq, Nat.reduceLT, Int.reduceLT, Int.reduceLE, Int.reduceEq, Int.reduceToNat, Nat.reduceMul]
    rw [hsp]
    refine wends (by first | exact Or.inl rfl | exact Or.inr rfl) ?_ (by first | rfl | simp [AV.ids, idsL])
    simp only [go_sem, r_ref10_either, ↓reduceIte, Nat.reduceEqDiff, Nat.reduceAdd, Nat.reduceLeDiff, reduceCtorEq, Nat.reduceLT, Int.reduceLT, Int.reduceLE, Int.reduceEq, Int.reduceToNat, Nat.reduceMul]
  · have d0 : decide ((0 : Int) < (p : Int)) = true := by simp; omega
    by_cases h1 : p = s.size
    · have hr0 : rest = [] := List.eq_nil_of_length_eq_zero (by omega)
      have d1 : decide (p = s.size) = true := by simp; omega
      rw [if_pos ⟨by omega, hr0⟩] at hsp
      by_cases h2 : n > 1099511627776
      · have d2 : decide ((1099511627776 : Int) < (n : Int)) = true := by simp; omega
        rw [if_pos h2] at hsp
        simp only [go_sem, d0, d1, d2, ↓reduceIte, Nat.reduceEqDiff, Nat.reduceAdd, Nat.reduceLeDiff, reduceCtorEq, Nat.reduceLT, Int.reduceLT, Int.reduceLE, Int.reduceEq, Int.reduceToNat, Nat.reduceMul]
        rw [hsp]
        refine wends (by first | exact Or.inl rfl | exact Or.inr rfl) ?_ (by first | rfl | simp [AV.ids, idsL])
        simp only [go_sem, r_ref10_either, ↓reduceIte, Nat.reduceEqDiff, Nat.reduceAdd, Nat.reduceLeDiff, reduceCtorEq, Nat.reduceLT, Int.reduceLT, Int.reduceLE, Int.reduceEq, Int.reduceToNat, Nat.reduceMul]
      · have d2 : decide ((1099511627776 : Int) < (n : Int)) = false := by simp; omega
        rw [if_neg h2] at hsp
        simp only [go_sem, d0, d1, d2, ↓reduceIte, Nat.reduceEqDiff, Nat.reduceAdd, Nat.reduceLeDiff, reduceCtorEq, Nat.reduceLT, Int.reduceLT, Int.reduceLE, Int.reduceEq, Int.reduceToNat, Nat.reduceMul]
        rw [hsp]
        refine wends (by first | exact Or.inl rfl | exact Or.inr rfl) ?_ (by first | rfl | simp [AV.ids, idsL])
        simp only [go_sem, r_ref10_either, ↓reduceIte, Nat.reduceEqDiff, Nat.reduceAdd, Nat.reduceLeDiff, reduceCtorEq, Nat.reduceLT, Int.reduceLT, Int.reduceLE, Int.reduceEq, Int.reduceToNat, Nat.reduceMul]
    · have d1 : decide (p = s.size) = false := by simp; omega
      rw [if_neg (by rintro ⟨g1, g2⟩; subst g2; simp at hp; omega)] at hsp
      simp only [go_sem, d0, d1, ↓reduceIte, Nat.reduceEqDiff, Nat.reduceAdd, Nat.reduceLeDiff, reduceCtorEq, Nat.reduceLT, Int.reduceLT, Int.reduceLE, Int.reduceEq, Int.reduceToNat, Nat.reduceMul]
      refine Cl_plain hspan ?_
      simp only [go_sem, ↓reduceIte, Nat.reduceEqDiff, Nat.reduceAdd, Nat.reduceLeDiff, reduceCtorEq, Nat.reduceLT, Int.reduceLT, Int.reduceLE, Int.reduceEq, Int.reduceToNat, Nat.reduceMul]
      rw [hsp]
      refine wends (by first | exact Or.inl rfl | exact Or.inr rfl) ?_ (by first | rfl | simp [AV.ids, idsL])
      simp only [go_sem, r_ref10_either, ↓reduceIte, Nat.reduceEqDiff, Nat.reduceAdd, Nat.reduceLeDiff, reduceCtorEq, Nat.reduceLT, Int.reduceLT, Int.reduceLE, Int.reduceEq, Int.reduceToNat, Nat.reduceMul]

end Go.Proofs.YtcadhlakhdndjaaDoor
