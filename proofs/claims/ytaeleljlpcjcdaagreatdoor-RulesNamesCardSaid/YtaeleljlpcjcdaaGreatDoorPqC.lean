/- Texts of mine, many in one. No statement of the seat is proved here. -/
import Derived.Test.YtaeleljlpcjcdaaGreatDoorPqB
import Derived.Test.YtaeleljlpcjcdaaGreatDoorCards
import Derived.Test.YtaeleljlpcjcdaaGreatDoorTie
import Derived.Test.YtaeleljlpcjcdaaGreatDoorSxH
import Derived.Test.YtaeleljlpcjcdaaGreatDoorSxRow
import Derived.Test.YtaeleljlpcjcdaaGreatDoorSxTab
import Derived.ProofKit
import Derived.WalkKit
import Derived.OpenShut
import Derived.Deep.DeepHandedRow
import Derived.Deep.DeepWitnessRowRef
import Derived.Lib.LaidTab
set_option linter.unusedSimpArgs false
set_option linter.unusedVariables false
namespace Go.Proofs.YtaeleljlpcjcdaaGreatDoor
open Go Go.Sx

theorem f_retention_single (a b : Int) : Meets Tryz.prog E0 n_retention_single [.ag [I a, I b]] [] (Bo (sizedB a b)) [] := by
  refine st0 m_retention_single ?_
  repeat' (first | (simp only [go_sem, s_retention_single, *]) | (simp (disch := omega) only [s_retention_single, wrap_i64_of, i64_quo, i64_rem, sdiv, smod]) | ((with_reducible refine W_split (by with_unfolding_all exact rfl) (fun hsp => ?_) (fun hsp => ?_)) <;> (try simp only [Bool.not_true, Bool.not_false, decide_eq_true_eq, decide_eq_false_iff_not, Bool.not_eq_true', Bool.not_eq_false', not_false_eq_true] at hsp)) | ((with_reducible refine R_split (by with_unfolding_all exact rfl) (fun hsp => ?_) (fun hsp => ?_)) <;> (try simp only [Bool.not_true, Bool.not_false, decide_eq_true_eq, decide_eq_false_iff_not, Bool.not_eq_true', Bool.not_eq_false', not_false_eq_true] at hsp)) | (with_reducible refine rF ?_))
  all_goals
    refine wE ?_
    simp only [go_sem, r_retention_single]
    simp [sizedB, *]

theorem f_ref10_Single (a b : Int) : Meets Tryz.prog E0 n_ref10_Single [.ag [I a, I b]] [] (Bo (sizedB a b)) [] := by
  refine st0 m_ref10_Single ?_
  repeat' (first | (simp only [go_sem, s_ref10_Single, *]) | (simp (disch := omega) only [s_ref10_Single, wrap_i64_of, i64_quo, i64_rem, sdiv, smod]) | ((with_reducible refine W_split (by with_unfolding_all exact rfl) (fun hsp => ?_) (fun hsp => ?_)) <;> (try simp only [Bool.not_true, Bool.not_false, decide_eq_true_eq, decide_eq_false_iff_not, Bool.not_eq_true', Bool.not_eq_false', not_false_eq_true] at hsp)) | ((with_reducible refine R_split (by with_unfolding_all exact rfl) (fun hsp => ?_) (fun hsp => ?_)) <;> (try simp only [Bool.not_true, Bool.not_false, decide_eq_true_eq, decide_eq_false_iff_not, Bool.not_eq_true', Bool.not_eq_false', not_false_eq_true] at hsp)) | (with_reducible refine rF ?_))
  all_goals
    refine wE ?_
    simp only [go_sem, r_ref10_Single]
    simp [sizedB, *]

theorem f_retention_Reach (a b : Int) : Meets Tryz.prog E0 n_retention_Reach [.ag [I a, I b]] [] (I (rchM (a, b))) [] := by
  refine st0 m_retention_Reach ?_
  cases h : sizedB a b
  · repeat' (first | (with_reducible refine Cl_plain (f_retention_single a b) ?_) | (simp only [go_sem, s_retention_Reach, *]) | (simp (disch := omega) only [s_retention_Reach, wrap_i64_of, i64_quo, i64_rem, sdiv, smod]) | ((with_reducible refine W_split (by with_unfolding_all exact rfl) (fun hsp => ?_) (fun hsp => ?_)) <;> (try simp only [Bool.not_true, Bool.not_false, decide_eq_true_eq, decide_eq_false_iff_not, Bool.not_eq_true', Bool.not_eq_false', not_false_eq_true] at hsp)) | ((with_reducible refine R_split (by with_unfolding_all exact rfl) (fun hsp => ?_) (fun hsp => ?_)) <;> (try simp only [Bool.not_true, Bool.not_false, decide_eq_true_eq, decide_eq_false_iff_not, Bool.not_eq_true', Bool.not_eq_false', not_false_eq_true] at hsp)) | (with_reducible refine rF ?_))
    refine wE ?_
    simp only [go_sem, r_retention_Reach]
    simp [rchM, szB, h]
  · have h' := sizedB_iff.1 h
    have hb := mul_bd h'.1 h'.2.1 h'.2.2.1 h'.2.2.2
    have hw : IntKind.i64.wrap (a * b) = a * b := wrap_i64_of (by omega) (by omega)
    clear h' hb
    repeat' (first | (with_reducible refine Cl_plain (f_retention_single a b) ?_) | (simp only [go_sem, s_retention_Reach, hw, *]) | (simp (disch := omega) only [s_retention_Reach, hw, wrap_i64_of, i64_quo, i64_rem, sdiv, smod]) | ((with_reducible refine W_split (by with_unfolding_all exact rfl) (fun hsp => ?_) (fun hsp => ?_)) <;> (try simp only [Bool.not_true, Bool.not_false, decide_eq_true_eq, decide_eq_false_iff_not, Bool.not_eq_true', Bool.not_eq_false', not_false_eq_true] at hsp)) | ((with_reducible refine R_split (by with_unfolding_all exact rfl) (fun hsp => ?_) (fun hsp => ?_)) <;> (try simp only [Bool.not_true, Bool.not_false, decide_eq_true_eq, decide_eq_false_iff_not, Bool.not_eq_true', Bool.not_eq_false', not_false_eq_true] at hsp)) | (with_reducible refine rF ?_))
    refine wE ?_
    simp only [go_sem, r_retention_Reach]
    simp [rchM, szB, h]

theorem f_ref10_Reach (a b : Int) : Meets Tryz.prog E0 n_ref10_Reach [.ag [I a, I b]] [] (I (rchM (a, b))) [] := by
  refine st0 m_ref10_Reach ?_
  cases h : sizedB a b
  · repeat' (first | (with_reducible refine Cl_plain (f_ref10_Single a b) ?_) | (simp only [go_sem, s_ref10_Reach, *]) | (simp (disch := omega) only [s_ref10_Reach, wrap_i64_of, i64_quo, i64_rem, sdiv, smod]) | ((with_reducible refine W_split (by with_unfolding_all exact rfl) (fun hsp => ?_) (fun hsp => ?_)) <;> (try simp only [Bool.not_true, Bool.not_false, decide_eq_true_eq, decide_eq_false_iff_not, Bool.not_eq_true', Bool.not_eq_false', not_false_eq_true] at hsp)) | ((with_reducible refine R_split (by with_unfolding_all exact rfl) (fun hsp => ?_) (fun hsp => ?_)) <;> (try simp only [Bool.not_true, Bool.not_false, decide_eq_true_eq, decide_eq_false_iff_not, Bool.not_eq_true', Bool.not_eq_false', not_false_eq_true] at hsp)) | (with_reducible refine rF ?_))
    refine wE ?_
    simp only [go_sem, r_ref10_Reach]
    simp [rchM, szB, h]
  · have h' := sizedB_iff.1 h
    have hb := mul_bd h'.1 h'.2.1 h'.2.2.1 h'.2.2.2
    have hw : IntKind.i64.wrap (a * b) = a * b := wrap_i64_of (by omega) (by omega)
    clear h' hb
    repeat' (first | (with_reducible refine Cl_plain (f_ref10_Single a b) ?_) | (simp only [go_sem, s_ref10_Reach, hw, *]) | (simp (disch := omega) only [s_ref10_Reach, hw, wrap_i64_of, i64_quo, i64_rem, sdiv, smod]) | ((with_reducible refine W_split (by with_unfolding_all exact rfl) (fun hsp => ?_) (fun hsp => ?_)) <;> (try simp only [Bool.not_true, Bool.not_false, decide_eq_true_eq, decide_eq_false_iff_not, Bool.not_eq_true', Bool.not_eq_false', not_false_eq_true] at hsp)) | ((with_reducible refine R_split (by with_unfolding_all exact rfl) (fun hsp => ?_) (fun hsp => ?_)) <;> (try simp only [Bool.not_true, Bool.not_false, decide_eq_true_eq, decide_eq_false_iff_not, Bool.not_eq_true', Bool.not_eq_false', not_false_eq_true] at hsp)) | (with_reducible refine rF ?_))
    refine wE ?_
    simp only [go_sem, r_ref10_Reach]
    simp [rchM, szB, h]

theorem f_retention_follows (a b c d : Int) (ha : szB (a, b) = true) (hb : szB (c, d) = true) : Meets Tryz.prog E0 n_retention_follows [.ag [I a, I b], .ag [I c, I d]] [] (Bo (flwB (a, b) (c, d))) [] := by
  refine st0 m_retention_follows ?_
  have h1 := szB_iff.1 ha
  have h2 := szB_iff.1 hb
  simp only at h1 h2
  have a0 : ¬ a = 0 := by omega
  have q1 : c.tmod a = c % a := smod (by omega)
  have q2 : c.tdiv a = c / a := sdiv (by omega)
  have q3 : 0 ≤ c / a := Int.ediv_nonneg (by omega) (by omega)
  have q4 : c / a ≤ c := Int.ediv_le_self _ (by omega)
  have q5 : IntKind.i64.wrap (c / a) = c / a := wrap_i64_of (by omega) (by omega)
  have q6 := Int.emod_nonneg c a0
  cases k1 : decide (c ≤ a)
  · have k1' := of_decide_eq_false k1
    cases k2 : decide (0 < c % a)
    · have k2' := of_decide_eq_false k2
      cases k3 : decide (rchM (c, d) ≤ rchM (a, b))
      · have k3' := of_decide_eq_false k3
        have e : flwB (a, b) (c, d) = decide (c / a ≤ b) := by
          simp only [flwB]
          rw [decide_eq_true (show a < c by omega), decide_eq_true (show c % a = 0 by omega), decide_eq_true (show rchM (a, b) < rchM (c, d) by omega)]; simp
        rw [e]
        clear e h1 h2 ha hb
        simp only [go_sem, s_retention_follows, k1, i64_rem a0, q1, k2]
        refine Cl_plain (f_retention_Reach c d) ?_
        simp only [go_sem]
        refine Cl_plain (f_retention_Reach a b) ?_
        simp only [go_sem, k3]
        ((try (with_reducible refine rF ?_)); (try simp only [go_sem, i64_quo a0, q2, q5]))
        refine wE ?_
        simp only [go_sem, r_retention_follows]
      · have k3' := of_decide_eq_true k3
        have e : flwB (a, b) (c, d) = false := by
          simp only [flwB]
          rw [decide_eq_false (show ¬ rchM (a, b) < rchM (c, d) by omega)]; simp
        rw [e]
        simp only [go_sem, s_retention_follows, k1, i64_rem a0, q1, k2]
        refine Cl_plain (f_retention_Reach c d) ?_
        simp only [go_sem]
        refine Cl_plain (f_retention_Reach a b) ?_
        simp only [go_sem, k3]
        ((try (with_reducible refine rF ?_)); (try simp only [go_sem]))
        refine wE ?_
        simp only [go_sem, r_retention_follows]
    · have k2' := of_decide_eq_true k2
      have e : flwB (a, b) (c, d) = false := by
        simp only [flwB]
        rw [decide_eq_false (show ¬ c % a = 0 by omega)]; simp
      rw [e]
      simp only [go_sem, s_retention_follows, k1, i64_rem a0, q1, k2]
      refine wE ?_
      simp only [go_sem, r_retention_follows]
  · have k1' := of_decide_eq_true k1
    have e : flwB (a, b) (c, d) = false := by
      simp only [flwB]
      rw [decide_eq_false (show ¬ a < c by omega)]; simp
    rw [e]
    simp only [go_sem, s_retention_follows, k1]
    refine wE ?_
    simp only [go_sem, r_retention_follows]

theorem all_drop {l : List Rung} {i : Nat} {r : Rung} (hs : l[i]? = some r) : (l.drop i).all szB = (szB r && (l.drop (i + 1)).all szB) := by
  rw [drop_get hs, List.all_cons]

theorem f_retention_Together (l : List Rung) : Meets Tryz.prog E0 n_retention_Together [slL l] [] (Bo (togB l)) [] := by
  refine st0 m_retention_Together ?_
  cases h0 : decide (1 ≤ l.length)
  · have h0' := of_decide_eq_false h0
    have e : togB l = false := by simp [togB, h0]
    have d0 : decide ((l.length : Int) = 0) = true := decide_eq_true (by omega)
    rw [e]
    simp only [go_sem, s_retention_Together, d0]
    refine wE ?_
    simp only [go_sem, r_retention_Together]
  · have h0' := of_decide_eq_true h0
    have d0 : decide ((l.length : Int) = 0) = false := decide_eq_false (by omega)
    cases h4 : decide (l.length ≤ 4)
    · have h4' := of_decide_eq_false h4
      have e : togB l = false := by simp [togB, h4]
      have d4 : decide (4 < (l.length : Int)) = true := decide_eq_true (by omega)
      rw [e]
      simp only [go_sem, s_retention_Together, d0, d4]
      refine wE ?_
      simp only [go_sem, r_retention_Together]
    · have h4' := of_decide_eq_true h4
      have d4 : decide (4 < (l.length : Int)) = false := decide_eq_false (by omega)
      have e : togB l = (l.all szB && chainB l) := by simp [togB, h0, h4]
      rw [e]
      generalize hout : (l.all szB && chainB l) = out
      simp only [go_sem, s_retention_Together, d0, d4]
      refine W_loop (fun i : Nat => l.length - i) (fun i => i ≤ l.length ∧ ((l.drop i).all szB && chainB (l.drop (i - 1))) = out ∧ ∀ j r, j < i → l[j]? = some r → szB r = true)
        (fun i => [(0, slL l), (2, Bo false), (13, slL l), (14, I l.length), (15, I i)])
        (fun i => []) 0 ⟨Nat.zero_le _, by simpa using hout, by omega⟩ sR0 ?_
      rintro i ⟨hi, hr, hp⟩
      simp only [go_sem]
      refine W_split rfl (fun h => ?_) (fun h => ?_)
      · simp at h
        obtain ⟨r, hs⟩ := get_of_lt h
        have ei : IntKind.i64.wrap ((i : Int) + 1) = ((i + 1 : Nat) : Int) := by rw [wrap_i64_of (by omega) (by omega)]; omega
        rw [all_drop hs] at hr
        cases hz : szB r
        · rw [hz, Bool.false_and, Bool.false_and] at hr
          subst hr
          simp only [go_sem, hs, slT]
          refine Cl_plain (f_retention_single r.1 r.2) ?_
          have hz' : sizedB r.1 r.2 = false := hz
          simp only [go_sem, hz']
          ((try (with_reducible refine rF ?_)); (try simp only [go_sem]))
          refine wE ?_
          simp only [go_sem, r_retention_Together]
        · rw [hz, Bool.true_and] at hr
          have hz' : sizedB r.1 r.2 = true := hz
          have hp' : ∀ j s, j < i + 1 → l[j]? = some s → szB s = true := by
            intro j s hj hg
            by_cases hji : j = i
            · subst hji; rw [hs] at hg; injection hg with hg; subst hg; exact hz
            · exact hp j s (by omega) hg
          simp only [go_sem, hs, slT]
          refine Cl_plain (f_retention_single r.1 r.2) ?_
          simp only [go_sem, hz']
          cases i with
          | zero =>
            simp only [go_sem, show decide ((0 : Int) < ((0 : Nat) : Int)) = false from rfl, show decide ((0 : Nat) < 0) = false from rfl]
            ((try (with_reducible refine rF ?_)); (try simp only [go_sem, ei]))
            exact rd_of 1 (by first | omega | (simp only; omega)) ⟨by first | omega | (simp only; omega), hr, hp'⟩ sR0
          | succ j =>
            obtain ⟨p, hpj⟩ := get_of_lt (l := l) (i := j) (by omega)
            have hzp := hp j p (by omega) hpj
            have hd : l.drop j = p :: r :: l.drop (j + 2) := by rw [drop_get hpj, drop_get hs]
            have hc : chainB (l.drop j) = (flwB p r && chainB (l.drop (j + 1))) := by rw [hd, drop_get hs]; rfl
            rw [Nat.add_sub_cancel, hc] at hr
            have dj : decide ((0 : Int) < ((j + 1 : Nat) : Int)) = true := decide_eq_true (by omega)
            have dj2 : decide (0 < j + 1) = true := decide_eq_true (by omega)
            have ej : IntKind.i64.wrap (((j + 1 : Nat) : Int) - 1) = (j : Int) := by rw [wrap_i64_of (by omega) (by omega)]; omega
            simp only [go_sem, dj, dj2, ej, hpj, slT]
            refine Cl_plain (f_retention_follows p.1 p.2 r.1 r.2 hzp hz) ?_
            have hpp : ((p.1, p.2) : Rung) = p := rfl
            have hrr : ((r.1, r.2) : Rung) = r := rfl
            cases hf : flwB p r
            · rw [hf, Bool.false_and, Bool.and_false] at hr
              subst hr
              simp only [go_sem, hpp, hrr, hf]
              ((try (with_reducible refine rF ?_)); (try simp only [go_sem]))
              refine wE ?_
              simp only [go_sem, r_retention_Together]
            · rw [hf, Bool.true_and] at hr
              simp only [go_sem, hpp, hrr, hf]
              ((try (with_reducible refine rF ?_)); (try simp only [go_sem, ei]))
              exact rd_of (j + 1 + 1) (by first | omega | (simp only; omega)) ⟨by first | omega | (simp only; omega), hr, hp'⟩ sR0
      · have e : i = l.length := by simp at h; omega
        subst e
        have hd : l.drop (l.length - 1) = [l[l.length - 1]'(by omega)] := by
          rw [List.drop_eq_getElem_cons (by omega), List.drop_eq_nil_of_le (by omega)]
        rw [List.drop_length, hd] at hr
        simp [chainB] at hr
        simp only [go_sem]
        refine wE ?_
        simp only [go_sem, r_retention_Together, hr]

theorem f_ref10_Together (l : List Rung) (hl : l.length ≤ 9223372036854775807) : Meets Tryz.prog E0 n_ref10_Together [slL l] [] (Bo (togB l)) [] := by
  refine st0 m_ref10_Together ?_
  cases h0 : decide (1 ≤ l.length)
  · have h0' := of_decide_eq_false h0
    have e : togB l = false := by simp [togB, h0]
    have d0 : decide ((l.length : Int) < 1) = true := decide_eq_true (by omega)
    rw [e]
    simp only [go_sem, s_ref10_Together, d0]
    refine wE ?_
    simp only [go_sem, r_ref10_Together]
  · have h0' := of_decide_eq_true h0
    have d0 : decide ((l.length : Int) < 1) = false := decide_eq_false (by omega)
    cases h4 : decide (l.length ≤ 4)
    · have h4' := of_decide_eq_false h4
      have e : togB l = false := by simp [togB, h4]
      have d4 : decide (4 < (l.length : Int)) = true := decide_eq_true (by omega)
      rw [e]
      simp only [go_sem, s_ref10_Together, d0, d4]
      refine wE ?_
      simp only [go_sem, r_ref10_Together]
    · have h4' := of_decide_eq_true h4
      have d4 : decide (4 < (l.length : Int)) = false := decide_eq_false (by omega)
      have e : togB l = (l.all szB && chainB l) := by simp [togB, h0, h4]
      rw [e]
      generalize hout : (l.all szB && chainB l) = out
      simp only [go_sem, s_ref10_Together, d0, d4]
      refine W_loop (fun i : Nat => l.length - i) (fun i => i ≤ l.length ∧ ((l.drop i).all szB && chainB l) = out ∧ ∀ j r, j < i → l[j]? = some r → szB r = true)
        (fun i => [(0, slL l), (2, Bo false), (3, I i)])
        (fun i => []) 0 ⟨Nat.zero_le _, by simpa using hout, by omega⟩ sR0 ?_
      rintro i ⟨hi, hr, hp⟩
      simp only [go_sem]
      refine W_split rfl (fun h => ?_) (fun h => ?_)
      · simp at h
        obtain ⟨r, hs⟩ := get_of_lt h
        have ei : IntKind.i64.wrap ((i : Int) + 1) = ((i + 1 : Nat) : Int) := by rw [wrap_i64_of (by omega) (by omega)]; omega
        rw [all_drop hs] at hr
        simp only [go_sem, hs, slT]
        refine Cl_plain (f_ref10_Single r.1 r.2) ?_
        cases hz : szB r
        · have hz' : sizedB r.1 r.2 = false := hz
          rw [hz, Bool.false_and, Bool.false_and] at hr
          subst hr
          simp only [go_sem, hz']
          refine wE ?_
          simp only [go_sem, r_ref10_Together]
        · have hz' : sizedB r.1 r.2 = true := hz
          rw [hz, Bool.true_and] at hr
          simp only [go_sem, hz', ei]
          refine rd_of (i + 1) (by first | omega | (simp only; omega)) ⟨by first | omega | (simp only; omega), hr, ?_⟩ sR0
          intro j s hj hg
          by_cases hji : j = i
          · subst hji; rw [hs] at hg; injection hg with hg; subst hg; exact hz
          · exact hp j s (by omega) hg
      · have e : i = l.length := by simp at h; omega
        subst e
        rw [List.drop_length, List.all_nil, Bool.true_and] at hr
        simp only [go_sem]
        refine W_loop (fun i : Nat => l.length - i) (fun i => 1 ≤ i ∧ i ≤ l.length ∧ chainB (l.drop (i - 1)) = out)
          (fun i => [(0, slL l), (2, Bo false), (4, I i)])
          (fun i => []) 1 ⟨Nat.le_refl _, h0', hr⟩ sR0 ?_
        rintro i ⟨h1, hi, hr⟩
        simp only [go_sem]
        refine W_split rfl (fun h => ?_) (fun h => ?_)
        · simp at h
          obtain ⟨j, rfl⟩ : ∃ j, i = j + 1 := ⟨i - 1, by omega⟩
          obtain ⟨r, hs⟩ := get_of_lt h
          obtain ⟨p, hpj⟩ := get_of_lt (l := l) (i := j) (by omega)
          have ei : IntKind.i64.wrap (((j + 1 : Nat) : Int) + 1) = ((j + 2 : Nat) : Int) := by rw [wrap_i64_of (by omega) (by omega)]; omega
          have ej : IntKind.i64.wrap (((j + 1 : Nat) : Int) - 1) = (j : Int) := by rw [wrap_i64_of (by omega) (by omega)]; omega
          have hzp := hp j p (by omega) hpj
          have hzr := hp (j + 1) r h hs
          have g1 := szB_iff.1 hzp
          have g2 := szB_iff.1 hzr
          have hd : l.drop j = p :: r :: l.drop (j + 2) := by rw [drop_get hpj, drop_get hs]
          have hc : chainB (l.drop j) = (flwB p r && chainB (l.drop (j + 1))) := by rw [hd, drop_get hs]; rfl
          rw [Nat.add_sub_cancel, hc] at hr
          have a0 : ¬ p.1 = 0 := by omega
          have q1 : r.1.tmod p.1 = r.1 % p.1 := smod (by omega)
          have q2 : r.1.tdiv p.1 = r.1 / p.1 := sdiv (by omega)
          have q3 : 0 ≤ r.1 / p.1 := Int.ediv_nonneg (by omega) (by omega)
          have q4 : r.1 / p.1 ≤ r.1 := Int.ediv_le_self _ (by omega)
          have q5 : IntKind.i64.wrap (r.1 / p.1) = r.1 / p.1 := wrap_i64_of (by omega) (by omega)
          simp only [go_sem, ej, hs, hpj, slT]
          ((try (with_reducible refine rF ?_)); (try simp only [go_sem]))
          cases k1 : decide (r.1 ≤ p.1)
          · have k1' := of_decide_eq_false k1
            cases k2 : decide (r.1 % p.1 = 0)
            · have k2' := of_decide_eq_false k2
              have e : flwB p r = false := by
                simp only [flwB]
                rw [k2]; simp
              rw [e, Bool.false_and] at hr
              subst hr
              simp only [go_sem, k1, i64_rem a0, q1, k2]
              ((try (with_reducible refine rF ?_)); (try simp only [go_sem]))
              refine wE ?_
              simp only [go_sem, r_ref10_Together]
            · have k2' := of_decide_eq_true k2
              cases k3 : decide (rchM r ≤ rchM p)
              · have k3' := of_decide_eq_false k3
                have e : flwB p r = decide (r.1 / p.1 ≤ p.2) := by
                  simp only [flwB]
                  rw [decide_eq_true (show p.1 < r.1 by omega), k2, decide_eq_true (show rchM p < rchM r by omega)]; simp
                rw [e] at hr
                simp only [go_sem, k1, i64_rem a0, q1, k2]
                refine Cl_plain (f_ref10_Reach r.1 r.2) ?_
                simp only [go_sem]
                refine Cl_plain (f_ref10_Reach p.1 p.2) ?_
                cases k4 : decide (r.1 / p.1 ≤ p.2)
                · have k5 : decide (p.2 < r.1 / p.1) = true := decide_eq_true (by have := of_decide_eq_false k4; omega)
                  rw [k4, Bool.false_and] at hr
                  subst hr
                  simp only [go_sem, k3, i64_quo a0, q2, q5, k5]
                  ((try (with_reducible refine rF ?_)); (try simp only [go_sem]))
                  refine wE ?_
                  simp only [go_sem, r_ref10_Together]
                · have k5 : decide (p.2 < r.1 / p.1) = false := decide_eq_false (by have := of_decide_eq_true k4; omega)
                  rw [k4, Bool.true_and] at hr
                  simp only [go_sem, k3, i64_quo a0, q2, q5, k5]
                  ((try (with_reducible refine rF ?_)); (try simp only [go_sem, ei]))
                  exact rd_of (j + 2) (by first | omega | (simp only; omega)) ⟨by omega, by first | omega | (simp only; omega), hr⟩ sR0
              · have k3' := of_decide_eq_true k3
                have e : flwB p r = false := by
                  simp only [flwB]
                  rw [decide_eq_false (show ¬ rchM p < rchM r by omega)]; simp
                rw [e, Bool.false_and] at hr
                subst hr
                simp only [go_sem, k1, i64_rem a0, q1, k2]
                refine Cl_plain (f_ref10_Reach r.1 r.2) ?_
                simp only [go_sem]
                refine Cl_plain (f_ref10_Reach p.1 p.2) ?_
                simp only [go_sem, k3]
                ((try (with_reducible refine rF ?_)); (try simp only [go_sem]))
                refine wE ?_
                simp only [go_sem, r_ref10_Together]
          · have k1' := of_decide_eq_true k1
            have e : flwB p r = false := by
              simp only [flwB]
              rw [decide_eq_false (show ¬ p.1 < r.1 by omega)]; simp
            rw [e, Bool.false_and] at hr
            subst hr
            simp only [go_sem, k1]
            ((try (with_reducible refine rF ?_)); (try simp only [go_sem]))
            refine wE ?_
            simp only [go_sem, r_ref10_Together]
        · have e : i = l.length := by simp at h; omega
          subst e
          have hd : l.drop (l.length - 1) = [l[l.length - 1]'(by omega)] := by
            rw [List.drop_eq_getElem_cons (by omega), List.drop_eq_nil_of_le (by omega)]
          rw [hd] at hr
          simp [chainB] at hr
          simp only [go_sem]
          refine wE ?_
          simp only [go_sem, r_ref10_Together, hr]

end Go.Proofs.YtaeleljlpcjcdaaGreatDoor
namespace Go.Proofs.YtaeleljlpcjcdaaGreatDoor
open Go Go.Sx

theorem sR_RtParse {io : List Nat} {env : List (Nat × AV)} {sto : List (Nat × Ob)} {env' : List (Nat × AV)} {sto' : List (Nat × Ob)} (rn : List (Nat × Nat)) (sn : List Nat)
    (h1 : envS sto sn rn env sto' env' := by simp [envS, go_sem, wkV, wkL, AV.ids, idsL, keysOf, ren, stoOf, slTrees, AV.asOwn, rowPart, AV.isNil, shA, rowsT, cellsT, cellT, wkLL, rowS] <;> assumption)
    (h2 : stoS sto sn rn sto' sto' := by simp [stoS, go_sem, wkV, wkL, wkO, AV.ids, Ob.ids, idsL, keysOf, ren, AV.one, stoOf, slTrees, AV.asOwn, rowPart, AV.isNil, shA, rowsT, cellsT, cellT, wkLL, rowS] <;> assumption)
    (h3 : ((keysOf sto').map (ren rn)).Nodup := by simp [keysOf, ren]) (h4 : ∀ i ∈ sn, 100 ≤ i ∧ isRow (stoOf sto i) = true ∧ ∀ j ∈ keysOf sto', ren rn j ≠ i := by simp [stoOf, keysOf, ren])
    (h5 : ∀ i ∈ io, ren rn i = i := by simp [keysOf, ren]) (h6 : ∀ i ∈ keysOf sto', ren rn i ∈ io → i = ren rn i := by simp [keysOf, ren]) :
    Sub io ⟨envOf env, stoOf sto⟩ ⟨envOf env', stoOf sto'⟩ := subL rn sn h1 h2 h3 h4 h5 h6

def rtStep (st : List Rung × Bool) (p : List UInt8) : Option (List Rung × Bool) :=
  if (rtRung p).2.2 = 0 then some (st.1 ++ [((rtRung p).1, (rtRung p).2.1)], st.2) else if (rtRung p).2.2 = 3 then some (st.1, true) else none

def rtGo : List (List UInt8) → List Rung × Bool → Option (List Rung × Bool)
  | [], st => some st
  | p :: ps, st => (rtStep st p).bind (rtGo ps)

theorem rtGo_app : ∀ (a b : List (List UInt8)) (st : List Rung × Bool), rtGo (a ++ b) st = (rtGo a st).bind (rtGo b)
  | [], b, st => rfl
  | p :: a, b, st => by
    simp only [List.cons_append, rtGo]
    cases rtStep st p with
    | none => rfl
    | some x => exact rtGo_app a b x

/-- Archives of a text; how it fails. -/
def rtParse (l : List UInt8) : List Rung × Int := match rtGo (partsB 44 l) ([], false) with
  | none => ([], 7)
  | some (r, far) => if far then ([], 3) else if 4 < r.length then ([], 11) else if togB r then (r, 0) else ([], 1)

/-- Behind so many parts. -/
def goAt (ps : List (List UInt8)) (j : Nat) : Option (List Rung × Bool) := rtGo (ps.take j) ([], false)

def stAt (ps : List (List UInt8)) (j : Nat) : List Rung × Bool := (goAt ps j).getD ([], false)

theorem goAt_succ {ps : List (List UInt8)} {j : Nat} {p : List UInt8} (hp : ps[j]? = some p) (h : (goAt ps j).isSome = true) : goAt ps (j + 1) = rtStep (stAt ps j) p := by
  unfold goAt stAt at *
  rw [List.take_add_one, hp, Option.toList_some, rtGo_app]
  obtain ⟨x, hx⟩ := Option.isSome_iff_exists.1 h
  rw [goAt, hx]
  show rtGo [p] x = _
  simp only [rtGo, Option.getD_some]
  cases rtStep x p <;> rfl

theorem goAt_len {ps : List (List UInt8)} : ∀ (j : Nat), (stAt ps j).1.length ≤ j
  | 0 => by simp [stAt, goAt, rtGo]
  | j + 1 => by
    have ih := goAt_len (ps := ps) j
    cases hp : ps[j]? with
    | none =>
      have e : goAt ps (j + 1) = goAt ps j := by unfold goAt; rw [List.take_add_one, hp, Option.toList_none, List.append_nil]
      unfold stAt at ih ⊢
      rw [e]; omega
    | some p =>
      cases hg : (goAt ps j).isSome with
      | true =>
        have e := goAt_succ hp hg
        unfold stAt at ih ⊢
        rw [e]
        unfold rtStep
        split
        · simp [stAt]; omega
        · split
          · simp [stAt]; omega
          · simp
      | false =>
        have e : goAt ps (j + 1) = none := by
          unfold goAt at *
          rw [List.take_add_one, rtGo_app]
          cases h : rtGo (ps.take j) ([], false) with
          | none => rfl
          | some x => rw [h] at hg; cases hg
        unfold stAt
        rw [e]; simp

theorem goAt_none {ps : List (List UInt8)} {j : Nat} (h : goAt ps j = none) : rtGo ps ([], false) = none := by
  have e : ps = ps.take j ++ ps.drop j := (List.take_append_drop j ps).symm
  rw [e, rtGo_app]
  unfold goAt at h
  rw [h]; rfl

theorem goAt_all (ps : List (List UInt8)) : goAt ps ps.length = rtGo ps ([], false) := by unfold goAt; rw [List.take_length]

theorem f_retention_Parse (s : ByteArray) (hs : s.size ≤ 1000000) : Meets Tryz.prog E0 n_retention_Parse [Str s] [] (.tp [slL (rtParse s.data.toList).1, I (rtParse s.data.toList).2]) [] := by
  refine st0 m_retention_Parse ?_
  simp only [go_sem, s_retention_Parse]
  refine Cl_io [] false (f_SplitSeq 300 301 302 (by omega) (by omega) (by omega) s (bs [44])) (Wks.refl _) (by simp [keysOf]) (by simp [keysOf, stoOf]) (by simp) (by simp) (by simp [keysOf]) ?_
  simp only [go_sem, froze]
  have hpar : rtParse s.data.toList = match rtGo (partsB 44 s.data.toList) ([], false) with
    | none => ([], 7)
    | some (r, far) => if far then ([], 3) else if 4 < r.length then ([], 11) else if togB r then (r, 0) else ([], 1) := rfl
  have hpl := parts_sum 44 s.data.toList
  rw [ba_len] at hpl
  have hi := iter_parts 44 s (by omega)
  generalize partsB 44 s.data.toList = ps at *
  refine W_rng (i0 := 300) (i1 := 301) (i2 := 302) (s0 := s) (v1 := .string (bs [44])) (v2 := .int .i64 0) (xs := ps.map fun l => .string ⟨l.toArray⟩) (fun j => j ≤ ps.length ∧ (goAt ps j).isSome = true)
    (fun j => [(2, .ptr 100 0), (3, .ptr 101 0), (4, .ptr 102 0), (5, .ptr 103 0), (10, .fn n_strings_splitSeq_1 [] [.ptr 301 0, .ptr 300 0, .ptr 302 0])])
    (fun j => [(301, .box [Str (bs [44])]), (302, .box [I 0]), (100, .box [.t (.v (.slice none 0 0))]), (101, .box [I 0]), (102, .box [.own 999 2 0 (stAt ps j).1.length (!(stAt ps j).1.isEmpty)]), (103, .box [Bo (stAt ps j).2]), (999, .row 2 (!(stAt ps j).1.isEmpty) ((stAt ps j).1.map slT))])
    hi (enters_of Tryz.func125 (by kernel_rfl) rfl) rfl rfl ?_ ⟨Nat.zero_le _, rfl⟩ ?_ (fun j _ => ⟨rfl, rfl, rfl⟩) (by decide) (by decide) ?_ ?_
  · intro x hx
    obtain ⟨l, _, rfl⟩ := List.mem_map.1 hx
    rfl
  · simp only [show stAt ps 0 = ([], false) from rfl, List.map_nil, List.length_nil, List.isEmpty_nil, Bool.not_true]
    exact (sR_RtParse [(999, 888)] [])
  · rintro j x r ⟨hj, hok⟩ hx
    rw [List.getElem?_map] at hx
    obtain ⟨q, hq, rfl⟩ := Option.map_eq_some_iff.1 hx
    have hjlt := (List.getElem?_eq_some_iff.1 hq).1
    have hr : Meets Tryz.prog E0 n_retention_rung [Str ⟨q.toArray⟩] [] (.tp [.ag [I (rtRung q).1, I (rtRung q).2.1], I (rtRung q).2.2]) [] := f_retention_rung ⟨q.toArray⟩ (by have := hpl.2 q (List.mem_of_getElem? hq); show q.length ≤ _; omega)
    have hb := rtRung_le q
    have hs1 := goAt_succ hq hok
    have hl := goAt_len (ps := ps) j
    unfold rtStep at hs1
    have hst : ∀ y, goAt ps (j + 1) = some y → stAt ps (j + 1) = y := fun y h => by unfold stAt; rw [h]; rfl
    have hnone : goAt ps (j + 1) = none → rtGo ps ([], false) = none := goAt_none
    generalize rtRung q = R at *
    obtain ⟨a, b, e⟩ := R
    simp only at hb hs1 hr
    generalize hX : stAt ps j = X at *
    obtain ⟨l, far⟩ := X
    simp only at hl
    simp only [go_sem, hX]
    refine Cl_plain hr ?_
    rcases hb.2.2 with rfl | rfl | rfl
    · rw [if_pos rfl] at hs1
      have b4 : (l.length + 1) * 16 ≤ 2 ^ 47 := by omega
      have b5 : l.length + 1 < 2 ^ 47 := by omega
      have em : l.map slT ++ [[.v (.int .i64 a), .v (.int .i64 b)]] = (l ++ [(a, b)]).map slT := by simp [slT]
      have hlen : (l.map slT).length = l.length := by simp
      simp only [go_sem, b4, b5, em, hlen]
      refine rg_of ⟨hjlt, by rw [hs1]; rfl⟩ ?_
      simp only [hst _ hs1, hX, List.length_append, List.length_cons, List.length_nil, Nat.zero_add, show (l ++ [(a, b)]).isEmpty = false from by simp, Bool.not_false]
      exact (sR_RtParse [(999, 122)] [])
    · rw [if_neg (by decide), if_pos rfl] at hs1
      simp only [go_sem]
      refine rg_of ⟨hjlt, by rw [hs1]; rfl⟩ ?_
      simp only [hst _ hs1, hX]
      exact (sR_RtParse [(999, 999)] [])
    · rw [if_neg (by decide), if_neg (by decide)] at hs1
      rw [hnone hs1] at hpar
      simp only at hpar
      rw [hpar]
      simp only [go_sem]
      refine wS [] ?_
      simp only [go_sem, r_retention_Parse, exists_eq_left', Option.some.injEq]
      simp [wkV, wkL, slTrees, AV.asOwn, rowPart, stoOf, AV.isNil, shA, rowsT, cellsT, cellT]
  · rintro r ⟨_, hok⟩
    rw [List.length_map] at hok ⊢
    rw [← goAt_all] at hpar
    have hl := goAt_len (ps := ps) ps.length
    obtain ⟨X, hX⟩ := Option.isSome_iff_exists.1 hok
    have hst : stAt ps ps.length = X := by unfold stAt; rw [hX]; rfl
    rw [hX] at hpar
    rw [hst] at hl
    obtain ⟨l, far⟩ := X
    simp only at hpar hl
    rw [hpar]
    simp only [go_sem, hst]
    cases far
    · rw [if_neg (by decide)]
      by_cases h4 : 4 < l.length
      · have d4 : decide ((4 : Int) < (l.length : Int)) = true := decide_eq_true (by omega)
        rw [if_pos h4]
        simp only [go_sem, d4]
        refine wS [] ?_
        simp only [go_sem, r_retention_Parse, exists_eq_left', Option.some.injEq]
        simp [wkV, wkL, slTrees, AV.asOwn, rowPart, stoOf, AV.isNil, shA, rowsT, cellsT, cellT]
      · have d4 : decide ((4 : Int) < (l.length : Int)) = false := decide_eq_false (by omega)
        rw [if_neg h4]
        have hT := f_retention_Together l
        cases l with
        | nil =>
          have ht : togB [] = false := by decide
          rw [ht] at hT ⊢
          have d5 : decide ((4 : Int) < ((0 : Nat) : Int)) = false := rfl
          simp only [go_sem, d5]
          refine Cl_keep [] hT ?_ (by simp) rfl ?_
          · exact .one (Wk.gone (by simp [slTrees, AV.asOwn, rowPart, stoOf]) (by simp [stoOf]; rfl)) .nil
          simp only [go_sem]
          refine wS [] ?_
          simp only [go_sem, r_retention_Parse, exists_eq_left', Option.some.injEq]
          simp [wkV, wkL, slTrees, AV.asOwn, rowPart, stoOf, AV.isNil, shA, rowsT, cellsT, cellT]
        | cons a l =>
          have d5 : decide ((4 : Int) < ((l.length + 1 : Nat) : Int)) = false := d4
          cases ht : togB (a :: l)
          · rw [ht] at hT
            simp only [go_sem, d5]
            refine Cl_keep [999] hT ?_ (by simp [stoOf]) rfl ?_
            · exact .one (Wk.row (by simp [slTrees, AV.asOwn, rowPart, stoOf, List.take_of_length_le]) (by simp)) .nil
            simp only [go_sem]
            refine wS [] ?_
            simp only [go_sem, r_retention_Parse, exists_eq_left', Option.some.injEq]
            simp [wkV, wkL, slTrees, AV.asOwn, rowPart, stoOf, AV.isNil, shA, rowsT, cellsT, cellT]
          · rw [ht] at hT
            simp only [go_sem, d5]
            refine Cl_keep [999] hT ?_ (by simp [stoOf]) rfl ?_
            · exact .one (Wk.row (by simp [slTrees, AV.asOwn, rowPart, stoOf, List.take_of_length_le]) (by simp)) .nil
            simp only [go_sem]
            refine wS [999] ?_
            simp only [go_sem, r_retention_Parse, exists_eq_left', Option.some.injEq]
            simp [wkV, wkL, slTrees, AV.asOwn, rowPart, stoOf, AV.isNil, shA, rowsT, cellsT, cellT, List.take_of_length_le]
    · rw [if_pos rfl]
      simp only [go_sem]
      refine wS [] ?_
      simp only [go_sem, r_retention_Parse, exists_eq_left', Option.some.injEq]
      simp [wkV, wkL, slTrees, AV.asOwn, rowPart, stoOf, AV.isNil, shA, rowsT, cellsT, cellT]

theorem f_ref10_Parse (s : ByteArray) (hs : s.size ≤ 1000000) : Meets Tryz.prog E0 n_ref10_Parse [Str s] [] (.tp [slL (rtParse s.data.toList).1, I (rtParse s.data.toList).2]) [] := by
  refine st0 m_ref10_Parse ?_
  simp only [go_sem, s_ref10_Parse]
  refine Cl_plain (f_ref10_split s 44 hs) ?_
  have hpar : rtParse s.data.toList = match rtGo (partsB 44 s.data.toList) ([], false) with
    | none => ([], 7)
    | some (r, far) => if far then ([], 3) else if 4 < r.length then ([], 11) else if togB r then (r, 0) else ([], 1) := rfl
  have hpl := parts_sum 44 s.data.toList
  rw [ba_len] at hpl
  have hpv : partsV 44 s.data.toList = .t (.sl 1 ((partsB 44 s.data.toList).map fun x => rowS (toB x))) := rfl
  generalize partsB 44 s.data.toList = ps at *
  rw [hpv]
  have hplen : (ps.map fun x => rowS (toB x)).length = ps.length := by simp
  simp only [go_sem]
  refine W_loop (fun j : Nat => ps.length - j) (fun j => j ≤ ps.length ∧ (goAt ps j).isSome = true)
    (fun j => [(4, .t (.sl 1 (ps.map fun x => rowS (toB x)))), (5, .own 999 2 0 (stAt ps j).1.length (!(stAt ps j).1.isEmpty)), (6, I (if (stAt ps j).2 then 3 else 0)), (7, I j)])
    (fun j => [(999, .row 2 (!(stAt ps j).1.isEmpty) ((stAt ps j).1.map slT))]) 0 ⟨Nat.zero_le _, rfl⟩ ?_ ?_
  · simp only [show stAt ps 0 = ([], false) from rfl, List.map_nil, List.length_nil, List.isEmpty_nil, Bool.not_true, Bool.false_eq_true, if_false]
    exact (sR_RtParse [(999, 888)] [])
  · rintro j ⟨hj, hok⟩
    have hl := goAt_len (ps := ps) j
    have hst : ∀ y, goAt ps (j + 1) = some y → stAt ps (j + 1) = y := fun y h => by unfold stAt; rw [h]; rfl
    have hnone : goAt ps (j + 1) = none → rtGo ps ([], false) = none := goAt_none
    by_cases hjl : j < ps.length
    · have dj : decide (j < ps.length) = true := decide_eq_true hjl
      obtain ⟨q, hq⟩ := get_of_lt hjl
      have hs1 := goAt_succ hq hok
      have hgq : (ps.map fun x => rowS (toB x))[j]? = some [.v (.string (toB q))] := by rw [List.getElem?_map, hq]; rfl
      have hqz : (toB q).size ≤ 1000000 := by have := hpl.2 q (List.mem_of_getElem? hq); show q.length ≤ _; omega
      have hT : Meets Tryz.prog E0 n_ref10_trim [Str (toB q)] [] (Str (toB (Lib.trimB q 32))) [] := f_ref10_trim (toB q) (by omega)
      have htl : (Lib.trimB q 32).length ≤ q.length := by
        unfold Lib.trimB Lib.trimLeftB Lib.trimRightB
        refine Nat.le_trans (List.dropWhile_suffix _).length_le ?_
        rw [List.length_reverse]
        refine Nat.le_trans (List.dropWhile_suffix _).length_le ?_
        rw [List.length_reverse]; exact Nat.le_refl _
      have hS := f_ref10_split (toB (Lib.trimB q 32)) 58 (by show (Lib.trimB q 32).length ≤ _; have : (toB q).size = q.length := rfl; omega)
      have hSv : partsV 58 (toB (Lib.trimB q 32)).data.toList = .t (.sl 1 ((partsB 58 (Lib.trimB q 32)).map fun x => rowS (toB x))) := rfl
      have hR : rtRung q = match partsB 58 (Lib.trimB q 32) with
        | [a, b] => if (rtEith a).2.2 = 2 ∨ (rtEith b).2.2 = 2 then (0, 0, 7) else if (rtEith a).2.2 ≠ 0 ∨ (rtEith b).2.2 ≠ 0 ∨ (rtEith a).1 = 0 then (0, 0, 3) else ((rtEith a).1, if (rtEith b).2.1 then (rtEith b).1 else (rtEith b).1 / (rtEith a).1, 0)
        | _ => (0, 0, 7) := rfl
      have hqp := parts_sum 58 (Lib.trimB q 32)
      rw [hSv] at hS
      have hnext : IntKind.i64.wrap ((j : Int) + 1) = ((j + 1 : Nat) : Int) := by rw [wrap_i64_of (by omega) (by omega)]; omega
      generalize partsB 58 (Lib.trimB q 32) = qs at *
      have hqlen : (qs.map fun x => rowS (toB x)).length = qs.length := by simp
      generalize hX : stAt ps j = X at *
      obtain ⟨l, far⟩ := X
      simp only at hl
      unfold rtStep at hs1
      simp only at hs1
      simp only [go_sem, dj, hgq, hX, hplen]
      refine Cl_plain hT ?_
      simp only [go_sem]
      refine Cl_plain hS ?_
      by_cases h2 : qs.length = 2
      · obtain ⟨a, b, rfl⟩ : ∃ a b, qs = [a, b] := by
          match qs, h2 with
          | [a, b], _ => exact ⟨a, b, rfl⟩
        have ha := f_ref10_either (toB a) (by have := hqp.2 a (by simp); have : (toB q).size = q.length := rfl; show a.length ≤ _; omega)
        have hb := f_ref10_either (toB b) (by have := hqp.2 b (by simp); have : (toB q).size = q.length := rfl; show b.length ≤ _; omega)
        rw [toB_data] at ha hb
        simp only at hR
        have la := rtEith_le a
        have lb := rtEith_le b
        generalize rtEith a = x at *
        generalize rtEith b = y at *
        obtain ⟨x1, xb, xe⟩ := x
        obtain ⟨y1, yb, ye⟩ := y
        simp only at la lb ha hb hR
        have d2 : decide (((2 : Nat) : Int) = 2) = true := rfl
        simp only [go_sem, rowS_get, d2]
        refine Cl_plain ha ?_
        simp only [go_sem, rowS_get]
        refine Cl_plain hb ?_
        by_cases q1 : xe = 2 ∨ ye = 2
        · rw [if_pos q1] at hR
          rw [hR, if_neg (by decide), if_neg (by decide)] at hs1
          rw [hnone hs1] at hpar
          simp only at hpar
          rw [hpar]
          clear hs1 hR hpar hnone hst
          rcases la.2.2 with rfl | rfl | rfl <;> rcases lb.2.2 with rfl | rfl | rfl <;> first | (exfalso; revert q1; decide) | skip
          all_goals
            simp only [go_sem]
            refine wS [] ?_
            simp only [go_sem, r_ref10_Parse, exists_eq_left', Option.some.injEq]
            simp [wkV, wkL, slTrees, AV.asOwn, rowPart, stoOf, AV.isNil, shA, rowsT, cellsT, cellT]
        · rw [if_neg q1] at hR
          by_cases q2 : xe ≠ 0 ∨ ye ≠ 0 ∨ x1 = 0
          · rw [if_pos q2] at hR
            rw [hR, if_neg (by decide), if_pos rfl] at hs1
            have hst' := hst _ hs1
            have hsome : (goAt ps (j + 1)).isSome = true := by rw [hs1]; rfl
            clear hs1 hR hpar hnone hst
            rcases la.2.2 with rfl | rfl | rfl <;> rcases lb.2.2 with rfl | rfl | rfl <;> first | (exfalso; revert q1; decide) | skip
            · have d : decide (x1 = 0) = true := by simpa using q2
              simp only [go_sem, d, hnext]
              refine rd_of (j + 1) (by first | omega | (simp only; omega)) ⟨hjl, hsome⟩ ?_
              simp only [hst', if_true]
              exact (sR_RtParse [(999, 999)] [])
            all_goals
              simp only [go_sem, hnext]
              refine rd_of (j + 1) (by first | omega | (simp only; omega)) ⟨hjl, hsome⟩ ?_
              simp only [hst', if_true]
              exact (sR_RtParse [(999, 999)] [])
          · obtain ⟨rfl, rfl, h0⟩ : xe = 0 ∧ ye = 0 ∧ ¬ x1 = 0 := by
              refine ⟨?_, ?_, ?_⟩ <;> (apply Decidable.byContradiction; intro h; apply q2; simp_all)
            rw [if_neg q2] at hR
            rw [hR, if_pos rfl] at hs1
            have hst' := hst _ hs1
            have hsome : (goAt ps (j + 1)).isSome = true := by rw [hs1]; rfl
            clear hs1 hR hpar hnone hst
            have d : decide (x1 = 0) = false := decide_eq_false h0
            have wq : binInt .quo .i64 y1 x1 = some (.int .i64 (y1 / x1)) := by
              have q0 : (0 : Int) ≤ y1 / x1 := Int.ediv_nonneg (by omega) (by omega)
              have q1 : y1 / x1 ≤ y1 := Int.ediv_le_self _ (by omega)
              rw [i64_quo h0, sdiv (by omega), wrap_i64_of (by omega) (by omega)]
            have b4 : (l.length + 1) * 16 ≤ 2 ^ 47 := by omega
            have b5 : l.length + 1 < 2 ^ 47 := by omega
            have em : ∀ z : Int, l.map slT ++ [[.v (.int .i64 x1), .v (.int .i64 z)]] = (l ++ [(x1, z)]).map slT := by intro z; simp [slT]
            have hlen : (l.map slT).length = l.length := by simp
            cases yb
            all_goals
              simp only [go_sem, d, wq, b4, b5, em, hlen, hnext]
              refine rd_of (j + 1) (by first | omega | (simp only; omega)) ⟨hjl, hsome⟩ ?_
              simp only [hst', List.length_append, List.length_cons, List.length_nil, Nat.zero_add, show ∀ z : Rung, (l ++ [z]).isEmpty = false from by simp, Bool.not_false, Bool.false_eq_true, if_false, if_true]
              exact (sR_RtParse [(999, 176)] [])
      · have d2 : decide ((qs.length : Int) = 2) = false := decide_eq_false (by omega)
        have hR' : rtRung q = (0, 0, 7) := by
          rw [hR]
          match qs, h2 with
          | [], _ => rfl
          | [a], _ => rfl
          | a :: b :: c :: r, _ => rfl
        rw [hR', if_neg (by decide), if_neg (by decide)] at hs1
        rw [hnone hs1] at hpar
        simp only at hpar
        rw [hpar]
        simp only [go_sem, hqlen, d2]
        refine wS [] ?_
        simp only [go_sem, r_ref10_Parse, exists_eq_left', Option.some.injEq]
        simp [wkV, wkL, slTrees, AV.asOwn, rowPart, stoOf, AV.isNil, shA, rowsT, cellsT, cellT]
    · obtain rfl : j = ps.length := by omega
      have dj : decide (ps.length < ps.length) = false := decide_eq_false (by omega)
      rw [← goAt_all] at hpar
      obtain ⟨X, hX⟩ := Option.isSome_iff_exists.1 hok
      have hst : stAt ps ps.length = X := by unfold stAt; rw [hX]; rfl
      rw [hX] at hpar
      rw [hst] at hl
      obtain ⟨l, far⟩ := X
      simp only at hpar hl
      rw [hpar]
      simp only [go_sem, dj, hst, hplen]
      cases far
      · rw [if_neg (by decide)]
        by_cases h4 : 4 < l.length
        · have d4 : decide ((4 : Int) < (l.length : Int)) = true := decide_eq_true (by omega)
          rw [if_pos h4]
          simp only [go_sem, d4]
          refine wS [] ?_
          simp only [go_sem, r_ref10_Parse, exists_eq_left', Option.some.injEq]
          simp [wkV, wkL, slTrees, AV.asOwn, rowPart, stoOf, AV.isNil, shA, rowsT, cellsT, cellT]
        · have d4 : decide ((4 : Int) < (l.length : Int)) = false := decide_eq_false (by omega)
          rw [if_neg h4]
          have hT := f_ref10_Together l (by omega)
          cases l with
          | nil =>
            have ht : togB [] = false := by decide
            rw [ht] at hT ⊢
            have d5 : decide ((4 : Int) < ((0 : Nat) : Int)) = false := rfl
            simp only [go_sem, d5]
            refine Cl_keep [] hT ?_ (by simp) rfl ?_
            · exact .one (Wk.gone (by simp [slTrees, AV.asOwn, rowPart, stoOf]) (by simp [stoOf]; rfl)) .nil
            simp only [go_sem]
            refine wS [] ?_
            simp only [go_sem, r_ref10_Parse, exists_eq_left', Option.some.injEq]
            simp [wkV, wkL, slTrees, AV.asOwn, rowPart, stoOf, AV.isNil, shA, rowsT, cellsT, cellT]
          | cons a l =>
            have d5 : decide ((4 : Int) < ((l.length + 1 : Nat) : Int)) = false := d4
            cases ht : togB (a :: l)
            · rw [ht] at hT
              simp only [go_sem, d5]
              refine Cl_keep [999] hT ?_ (by simp [stoOf]) rfl ?_
              · exact .one (Wk.row (by simp [slTrees, AV.asOwn, rowPart, stoOf, List.take_of_length_le]) (by simp)) .nil
              simp only [go_sem]
              refine wS [] ?_
              simp only [go_sem, r_ref10_Parse, exists_eq_left', Option.some.injEq]
              simp [wkV, wkL, slTrees, AV.asOwn, rowPart, stoOf, AV.isNil, shA, rowsT, cellsT, cellT]
            · rw [ht] at hT
              simp only [go_sem, d5]
              refine Cl_keep [999] hT ?_ (by simp [stoOf]) rfl ?_
              · exact .one (Wk.row (by simp [slTrees, AV.asOwn, rowPart, stoOf, List.take_of_length_le]) (by simp)) .nil
              simp only [go_sem]
              refine wS [999] ?_
              simp only [go_sem, r_ref10_Parse, exists_eq_left', Option.some.injEq]
              simp [wkV, wkL, slTrees, AV.asOwn, rowPart, stoOf, AV.isNil, shA, rowsT, cellsT, cellT, List.take_of_length_le]
      · rw [if_pos rfl]
        simp only [go_sem]
        refine wS [] ?_
        simp only [go_sem, r_ref10_Parse, exists_eq_left', Option.some.injEq]
        simp [wkV, wkL, slTrees, AV.asOwn, rowPart, stoOf, AV.isNil, shA, rowsT, cellsT, cellT]

end Go.Proofs.YtaeleljlpcjcdaaGreatDoor
namespace Go.Proofs.YtaeleljlpcjcdaaGreatDoor
open Go Go.Sx

def kPat : List UInt8 := [112, 97, 116, 116, 101, 114, 110]
def kRet : List UInt8 := [114, 101, 116, 101, 110, 116, 105, 111, 110, 115]
def kFac : List UInt8 := [120, 70, 105, 108, 101, 115, 70, 97, 99, 116, 111, 114]
def kMet : List UInt8 := [97, 103, 103, 114, 101, 103, 97, 116, 105, 111, 110, 77, 101, 116, 104, 111, 100]

theorem bsPat : bs [112, 97, 116, 116, 101, 114, 110] = toB kPat := rfl
theorem bsRet : bs [114, 101, 116, 101, 110, 116, 105, 111, 110, 115] = toB kRet := rfl
theorem bsFac : bs [120, 70, 105, 108, 101, 115, 70, 97, 99, 116, 111, 114] = toB kFac := rfl
theorem bsMet : bs [97, 103, 103, 114, 101, 103, 97, 116, 105, 111, 110, 77, 101, 116, 104, 111, 100] = toB kMet := rfl

def rungsM (r : List UInt8) : List Rung × Int := rtParse (toB r).data.toList

/-- How a section fails as a store. -/
def storeE (l : List CfPair) : Int :=
  errF (errF (errF (errF (errF 0 (noneE (cfGet l kPat))) (noneE (cfGet l kRet))) (overE (0 + someI (cfGet l kPat) + someI (cfGet l kRet)) l)) (compE ((cfGet l kPat).getD []))) (rungsM ((cfGet l kRet).getD [])).2

theorem someI_b (o : Option (List UInt8)) : 0 ≤ someI o ∧ someI o ≤ 1 := by unfold someI; split <;> omega

theorem f_rules_store (m : List UInt8) (l : List CfPair) (hl : l.length ≤ 1000000) (hv : ((cfGet l kRet).getD []).length ≤ 1000000) : Meets Tryz.prog E0 n_rules_store [.ag [Str (toB m), .t (.sl 2 (l.map pairT))]] [] (.tp [.ag [Str (toB m), Str (toB ((cfGet l kPat).getD [])), slL (rungsM ((cfGet l kRet).getD [])).1], I (storeE l)]) [] := by
  refine st0 m_rules_store ?_
  have b1 := someI_b (cfGet l kPat)
  have b2 := someI_b (cfGet l kRet)
  simp only [go_sem, s_rules_store, bsPat, bsRet]
  have ho1 := f_asked_must 105 m l 0 0 kPat hl (by omega) (by omega)
  simp only [askL] at ho1
  refine oB (ho1) ?_
  simp only [go_sem]
  have ho2 := f_asked_must 105 m l (0 + someI (cfGet l kPat)) (errF 0 (noneE (cfGet l kPat))) kRet hl (by omega) (by omega)
  simp only [askL] at ho2
  refine oB (ho2) ?_
  simp only [go_sem]
  have ho3 := f_asked_over 105 m l (0 + someI (cfGet l kPat) + someI (cfGet l kRet)) (errF (errF 0 (noneE (cfGet l kPat))) (noneE (cfGet l kRet)))
  simp only [askL] at ho3
  refine oB (ho3) ?_
  simp only [go_sem]
  have ho4 := f_asked_pattern 105 m l (0 + someI (cfGet l kPat) + someI (cfGet l kRet)) (errF (errF (errF 0 (noneE (cfGet l kPat))) (noneE (cfGet l kRet))) (overE (0 + someI (cfGet l kPat) + someI (cfGet l kRet)) l)) ((cfGet l kPat).getD [])
  simp only [askL] at ho4
  refine oB (ho4) ?_
  simp only [go_sem]
  unfold storeE rungsM
  refine Cl_plain (f_retention_Parse (toB ((cfGet l kRet).getD [])) (by rw [toB_size]; exact hv)) ?_
  generalize (errF (errF (errF (errF 0 (noneE (cfGet l kPat))) (noneE (cfGet l kRet))) (overE (0 + someI (cfGet l kPat) + someI (cfGet l kRet)) l)) (compE ((cfGet l kPat).getD []))) = e
  generalize 0 + someI (cfGet l kPat) + someI (cfGet l kRet) = u
  generalize rtParse (toB ((cfGet l kRet).getD [])).data.toList = w
  obtain ⟨g, x⟩ := w
  by_cases h : x = 0
  · have d0 : decide (x = 0) = true := decide_eq_true h
    simp only
    rw [h, errF_zero]
    simp only [go_sem]
    ((try (with_reducible refine rF ?_)); (try simp only [go_sem]))
    refine wE ?_
    simp only [go_sem, r_rules_store]
    first | done | rfl
  · have d0 : decide (x = 0) = false := decide_eq_false h
    simp only [go_sem, d0]
    have ho5 := f_asked_fail 105 m l u e x
    simp only [askL] at ho5
    refine oB (ho5) ?_
    simp only [go_sem]
    ((try (with_reducible refine rF ?_)); (try simp only [go_sem]))
    refine wE ?_
    simp only [go_sem, r_rules_store]
    first | done | rfl

end Go.Proofs.YtaeleljlpcjcdaaGreatDoor
namespace Go.Proofs.YtaeleljlpcjcdaaGreatDoor
open Go Go.Sx

/-- A factor's text. -/
def factorM (l : List UInt8) : Int × Int := if (dcParse l).2 = 0 then (if (dcParse l).1 < 0 then (0, 3) else if 1000000 < (dcParse l).1 then (0, 3) else ((dcParse l).1, 0)) else (0, (dcParse l).2)

theorem f_rules_factor (l : List UInt8) (hl : l.length ≤ 1000000) : Meets Tryz.prog E0 n_rules_factor [Str (toB l)] [] (.tp [I (factorM l).1, I (factorM l).2]) [] := by
  refine st0 m_rules_factor ?_
  simp only [go_sem, s_rules_factor]
  refine Cl_plain (f_decimal_Parse l hl) ?_
  unfold factorM
  generalize dcParse l = w
  obtain ⟨v, e⟩ := w
  by_cases he : e = 0
  · have d0 : decide (e = 0) = true := decide_eq_true he
    simp only
    subst he
    rw [if_pos rfl]
    by_cases h1 : v < 0
    · have d1 : decide (v < 0) = true := decide_eq_true h1
      rw [if_pos h1]
      simp only [go_sem, d1]
      refine wE ?_
      simp only [go_sem, r_rules_factor]
      first | done | rfl | simp [errF_zero]
    have d1 : decide (v < 0) = false := decide_eq_false h1
    rw [if_neg h1]
    by_cases h2 : 1000000 < v
    · have d2 : decide (1000000 < v) = true := decide_eq_true h2
      rw [if_pos h2]
      simp only [go_sem, d1, d2]
      refine wE ?_
      simp only [go_sem, r_rules_factor]
      first | done | rfl | simp [errF_zero]
    have d2 : decide (1000000 < v) = false := decide_eq_false h2
    rw [if_neg h2]
    simp only [go_sem, d1, d2]
    refine wE ?_
    simp only [go_sem, r_rules_factor]
    first | done | rfl | simp [errF_zero]
  · have d0 : decide (e = 0) = false := decide_eq_false he
    simp only
    rw [if_neg he]
    simp only [go_sem, d0]
    refine wE ?_
    simp only [go_sem, r_rules_factor]
    first | done | rfl | simp [errF_zero]

def facM (o : Option (List UInt8)) : Int × Int := if o.isSome then factorM (o.getD []) else (500000, 0)
def metM (o : Option (List UInt8)) : Int × Int := if o.isSome then ((methM (o.getD [])).1, if (methM (o.getD [])).2 then 0 else 7) else (1, 0)

/-- How a section fails as a rule of folding. -/
def foldE (l : List CfPair) : Int :=
  errF (errF (errF (errF (errF 0 (noneE (cfGet l kPat))) (overE (0 + someI (cfGet l kPat) + someI (cfGet l kFac) + someI (cfGet l kMet)) l)) (compE ((cfGet l kPat).getD []))) (facM (cfGet l kFac)).2) (metM (cfGet l kMet)).2

theorem f_rules_fold (m : List UInt8) (l : List CfPair) (hl : l.length ≤ 1000000) (hv : ((cfGet l kFac).getD []).length ≤ 1000000) : Meets Tryz.prog E0 n_rules_fold [.ag [Str (toB m), .t (.sl 2 (l.map pairT))]] [] (.tp [.ag [Str (toB m), Str (toB ((cfGet l kPat).getD [])), I (facM (cfGet l kFac)).1, I (metM (cfGet l kMet)).1], I (foldE l)]) [] := by
  refine st0 m_rules_fold ?_
  unfold foldE
  have b1 := someI_b (cfGet l kPat)
  have b2 := someI_b (cfGet l kFac)
  have b3 := someI_b (cfGet l kMet)
  simp only [go_sem, s_rules_fold, bsPat, bsFac, bsMet]
  have ho1 := f_asked_must 105 m l 0 0 kPat hl (by omega) (by omega)
  simp only [askL] at ho1
  refine oB (ho1) ?_
  simp only [go_sem]
  ((try (with_reducible refine rF ?_)); (try simp only [go_sem]))
  generalize errF 0 (noneE (cfGet l kPat)) = e1 at *
  have ho2 := f_asked_get 105 m l (0 + someI (cfGet l kPat)) e1 kFac hl (by omega) (by omega)
  simp only [askL] at ho2
  refine oB (ho2) ?_
  simp only [go_sem]
  have ho3 := f_asked_get 105 m l (0 + someI (cfGet l kPat) + someI (cfGet l kFac)) e1 kMet hl (by omega) (by omega)
  simp only [askL] at ho3
  refine oB (ho3) ?_
  simp only [go_sem]
  generalize hu : 0 + someI (cfGet l kPat) + someI (cfGet l kFac) + someI (cfGet l kMet) = u at *
  have ho4 := f_asked_over 105 m l u e1
  simp only [askL] at ho4
  refine oB (ho4) ?_
  simp only [go_sem]
  have ho5 := f_asked_pattern 105 m l u (errF e1 (overE u l)) ((cfGet l kPat).getD [])
  simp only [askL] at ho5
  refine oB (ho5) ?_
  simp only [go_sem]
  generalize errF (errF e1 (overE u l)) (compE ((cfGet l kPat).getD [])) = e2 at *
  unfold facM metM
  cases hF : (cfGet l kFac).isSome
  · simp only [if_neg (show ¬((false : Bool) = true) by decide)]
    rw [errF_zero]
    simp only [go_sem]
    cases hM : (cfGet l kMet).isSome
    · simp only [if_neg (show ¬((false : Bool) = true) by decide)]
      rw [errF_zero]
      simp only [go_sem]
      ((try (with_reducible refine rF ?_)); (try simp only [go_sem]))
      refine wE ?_
      simp only [go_sem, r_rules_fold]
      first | done | rfl | simp [errF_zero]
    · simp only [if_pos (show (true : Bool) = true from rfl)]
      simp only [go_sem]
      refine Cl_plain (f_rules_Method ((cfGet l kMet).getD [])) ?_
      generalize methM ((cfGet l kMet).getD []) = y
      obtain ⟨y, ok⟩ := y
      try dsimp only
      cases ok
      · simp only [if_neg (show ¬((false : Bool) = true) by decide)]
        simp only [go_sem]
        have ho7 := f_asked_fail 105 m l u e2 7
        simp only [askL] at ho7
        refine oB (ho7) ?_
        simp only [go_sem]
        ((try (with_reducible refine rF ?_)); (try simp only [go_sem]))
        refine wE ?_
        simp only [go_sem, r_rules_fold]
        first | done | rfl | simp [errF_zero]
      · try simp only [if_true]
        try rw [errF_zero]
        simp only [go_sem]
        ((try (with_reducible refine rF ?_)); (try simp only [go_sem]))
        refine wE ?_
        simp only [go_sem, r_rules_fold]
        first | done | rfl | simp [errF_zero]
  · simp only [if_pos (show (true : Bool) = true from rfl)]
    simp only [go_sem]
    refine Cl_plain (f_rules_factor ((cfGet l kFac).getD []) hv) ?_
    generalize factorM ((cfGet l kFac).getD []) = x
    obtain ⟨x, e3⟩ := x
    by_cases h3 : e3 = 0
    · have d3 : decide (e3 = 0) = true := decide_eq_true h3
      subst h3
      simp only
      rw [errF_zero]
      simp only [go_sem]
      cases hM : (cfGet l kMet).isSome
      · simp only [if_neg (show ¬((false : Bool) = true) by decide)]
        rw [errF_zero]
        simp only [go_sem]
        ((try (with_reducible refine rF ?_)); (try simp only [go_sem]))
        refine wE ?_
        simp only [go_sem, r_rules_fold]
        first | done | rfl | simp [errF_zero]
      · simp only [if_pos (show (true : Bool) = true from rfl)]
        simp only [go_sem]
        refine Cl_plain (f_rules_Method ((cfGet l kMet).getD [])) ?_
        generalize methM ((cfGet l kMet).getD []) = y
        obtain ⟨y, ok⟩ := y
        try dsimp only
        cases ok
        · simp only [if_neg (show ¬((false : Bool) = true) by decide)]
          simp only [go_sem]
          have ho7 := f_asked_fail 105 m l u e2 7
          simp only [askL] at ho7
          refine oB (ho7) ?_
          simp only [go_sem]
          ((try (with_reducible refine rF ?_)); (try simp only [go_sem]))
          refine wE ?_
          simp only [go_sem, r_rules_fold]
          first | done | rfl | simp [errF_zero]
        · try simp only [if_true]
          try rw [errF_zero]
          simp only [go_sem]
          ((try (with_reducible refine rF ?_)); (try simp only [go_sem]))
          refine wE ?_
          simp only [go_sem, r_rules_fold]
          first | done | rfl | simp [errF_zero]
    · have d3 : decide (e3 = 0) = false := decide_eq_false h3
      simp only
      simp only [go_sem, d3]
      have ho6 := f_asked_fail 105 m l u e2 e3
      simp only [askL] at ho6
      refine oB (ho6) ?_
      simp only [go_sem]
      cases hM : (cfGet l kMet).isSome
      · simp only [if_neg (show ¬((false : Bool) = true) by decide)]
        rw [errF_zero]
        simp only [go_sem]
        ((try (with_reducible refine rF ?_)); (try simp only [go_sem]))
        refine wE ?_
        simp only [go_sem, r_rules_fold]
        first | done | rfl | simp [errF_zero]
      · simp only [if_pos (show (true : Bool) = true from rfl)]
        simp only [go_sem]
        refine Cl_plain (f_rules_Method ((cfGet l kMet).getD [])) ?_
        generalize methM ((cfGet l kMet).getD []) = y
        obtain ⟨y, ok⟩ := y
        try dsimp only
        cases ok
        · simp only [if_neg (show ¬((false : Bool) = true) by decide)]
          simp only [go_sem]
          have ho7 := f_asked_fail 105 m l u (errF e2 e3) 7
          simp only [askL] at ho7
          refine oB (ho7) ?_
          simp only [go_sem]
          ((try (with_reducible refine rF ?_)); (try simp only [go_sem]))
          refine wE ?_
          simp only [go_sem, r_rules_fold]
          first | done | rfl | simp [errF_zero]
        · try simp only [if_true]
          try rw [errF_zero]
          simp only [go_sem]
          ((try (with_reducible refine rF ?_)); (try simp only [go_sem]))
          refine wE ?_
          simp only [go_sem, r_rules_fold]
          first | done | rfl | simp [errF_zero]

end Go.Proofs.YtaeleljlpcjcdaaGreatDoor
namespace Go.Proofs.YtaeleljlpcjcdaaGreatDoor
open Go Go.Sx

theorem go_small : ∀ (ls : List (List UInt8)) (st st' : CfSt), cfGo ls st = .ok st' → ((cfAll st).length ≤ 16 ∧ ∀ s ∈ cfAll st, s.2.length ≤ 16) → ((cfAll st').length ≤ 16 ∧ ∀ s ∈ cfAll st', s.2.length ≤ 16)
  | [], st, st', h, hs => by
    simp only [cfGo, Except.ok.injEq] at h; subst h; exact hs
  | l :: ls, st, st', h, hs => by
    cases hc : cfStep st l with
    | error e => simp only [cfGo, hc] at h; cases h
    | ok st1 =>
      simp only [cfGo, hc] at h
      refine go_small ls st1 st' h ?_
      unfold cfStep at hc
      split at hc
      · split at hc
        · cases hc
        · split at hc
          · cases hc
          · rename_i hn
            simp only [Except.ok.injEq] at hc; subst hc
            have e : cfAll (some (cfAll st, cfSecN l, [])) = cfAll st ++ [(cfSecN l, [])] := rfl
            rw [e]
            have h16 := hs.1
            refine ⟨by rw [List.length_append]; simp only [List.length_cons, List.length_nil]; omega, fun s hm => ?_⟩
            rcases List.mem_append.1 hm with h1 | h1
            · exact hs.2 s h1
            · obtain rfl : s = _ := by simpa using h1
              simp
      · cases st with
        | none => cases hc
        | some q =>
          obtain ⟨d, n, ks⟩ := q
          simp only at hc
          split at hc
          · cases hc
          · split at hc
            · cases hc
            · split at hc
              · cases hc
              · rename_i hn
                simp only [Except.ok.injEq] at hc; subst hc
                have hk := hs.2 (n, ks) (by simp [cfAll])
                simp only at hk
                refine ⟨by simpa [cfAll] using hs.1, fun s hm => ?_⟩
                simp only [cfAll] at hm
                rcases List.mem_append.1 hm with h1 | h1
                · exact hs.2 s (by simp [cfAll, h1])
                · obtain rfl : s = _ := by simpa using h1
                  simp; omega

theorem parse_small (t : List UInt8) : (cfParse t).1.length ≤ 16 ∧ ∀ s ∈ (cfParse t).1, s.2.length ≤ 16 := by
  unfold cfParse
  split
  · simp
  · cases h : cfGo (cfLines t) none with
    | error e => simp
    | ok st => exact go_small _ _ _ h (by simp [cfAll])

end Go.Proofs.YtaeleljlpcjcdaaGreatDoor
namespace Go.Proofs.YtaeleljlpcjcdaaGreatDoor
open Go Go.Sx

/-- Is a key one of these? -/
def oneOf (ks : List (List UInt8)) (k : List UInt8) : Bool := ks.any fun x => k == x
def onlyM (l : List CfPair) (ks : List (List UInt8)) : Bool := l.all fun p => oneOf ks p.1

def cntK (ks : List (List UInt8)) : List CfPair → Int
  | [] => 0
  | p :: l => (if oneOf ks p.1 then 1 else 0) + cntK ks l

theorem cntK_le (ks : List (List UInt8)) : ∀ l : List CfPair, cntK ks l ≤ l.length
  | [] => by simp [cntK]
  | p :: l => by
    have := cntK_le ks l
    simp only [cntK, List.length_cons]
    split <;> omega

theorem only_iff (ks : List (List UInt8)) : ∀ l : List CfPair, onlyM l ks = true ↔ (l.length : Int) ≤ cntK ks l
  | [] => by simp [cntK, onlyM]
  | p :: l => by
    have ih := only_iff ks l
    have hl := cntK_le ks l
    unfold onlyM at ih ⊢
    simp only [List.all_cons, cntK, List.length_cons, Bool.and_eq_true]
    by_cases h : oneOf ks p.1 = true
    · rw [if_pos h, ih]
      exact ⟨fun x => by omega, fun x => ⟨h, by omega⟩⟩
    · rw [if_neg h]
      exact ⟨fun x => absurd x.1 h, fun x => by omega⟩

theorem only_cnt (ks : List (List UInt8)) (l : List CfPair) : onlyM l ks = decide ((l.length : Int) ≤ cntK ks l) := by
  rw [Bool.eq_iff_iff, only_iff, decide_eq_true_eq]

theorem cfGet_no {k : List UInt8} : ∀ {l : List CfPair}, k ∉ l.map (·.1) → cfGet l k = none
  | [], _ => rfl
  | p :: l, h => by
    simp only [List.map_cons, List.mem_cons, not_or] at h
    simp only [cfGet]
    rw [if_neg (fun e => h.1 e.symm), cfGet_no h.2]

theorem some_cons {p : CfPair} {l : List CfPair} (k : List UInt8) (h : ((p :: l).map (·.1)).Nodup) : someI (cfGet (p :: l) k) = (if p.1 = k then 1 else 0) + someI (cfGet l k) := by
  simp only [List.map_cons, List.nodup_cons] at h
  simp only [cfGet]
  by_cases e : p.1 = k
  · rw [if_pos e, if_pos e, cfGet_no (by rw [← e]; exact h.1)]
    rfl
  · rw [if_neg e, if_neg e]; omega

theorem cnt2 {a b : List UInt8} (hab : a ≠ b) : ∀ {l : List CfPair}, (l.map (·.1)).Nodup → someI (cfGet l a) + someI (cfGet l b) = cntK [a, b] l
  | [], _ => rfl
  | p :: l, h => by
    have ih := cnt2 hab (l := l) (by simp only [List.map_cons, List.nodup_cons] at h; exact h.2)
    rw [some_cons a h, some_cons b h]
    simp only [cntK, oneOf, List.any_cons, List.any_nil, Bool.or_false, Bool.or_eq_true, beq_iff_eq]
    rw [← ih]
    by_cases e1 : p.1 = a
    · have e2 : ¬ p.1 = b := fun e => hab (by rw [← e1, e])
      rw [if_pos e1, if_neg e2, if_pos (Or.inl e1)]; omega
    · by_cases e2 : p.1 = b
      · rw [if_neg e1, if_pos e2, if_pos (Or.inr e2)]; omega
      · rw [if_neg e1, if_neg e2, if_neg (by rintro (h | h) <;> contradiction)]; omega

theorem cnt3 {a b c : List UInt8} (hab : a ≠ b) (hac : a ≠ c) (hbc : b ≠ c) : ∀ {l : List CfPair}, (l.map (·.1)).Nodup → someI (cfGet l a) + someI (cfGet l b) + someI (cfGet l c) = cntK [a, b, c] l
  | [], _ => rfl
  | p :: l, h => by
    have ih := cnt3 hab hac hbc (l := l) (by simp only [List.map_cons, List.nodup_cons] at h; exact h.2)
    rw [some_cons a h, some_cons b h, some_cons c h]
    simp only [cntK, oneOf, List.any_cons, List.any_nil, Bool.or_false, Bool.or_eq_true, beq_iff_eq]
    rw [← ih]
    by_cases e1 : p.1 = a
    · have e2 : ¬ p.1 = b := fun e => hab (by rw [← e1, e])
      have e3 : ¬ p.1 = c := fun e => hac (by rw [← e1, e])
      rw [if_pos e1, if_neg e2, if_neg e3, if_pos (Or.inl e1)]; omega
    · by_cases e2 : p.1 = b
      · have e3 : ¬ p.1 = c := fun e => hbc (by rw [← e2, e])
        rw [if_neg e1, if_pos e2, if_neg e3, if_pos (Or.inr (Or.inl e2))]; omega
      · by_cases e3 : p.1 = c
        · rw [if_neg e1, if_neg e2, if_pos e3, if_pos (Or.inr (Or.inr e3))]; omega
        · rw [if_neg e1, if_neg e2, if_neg e3, if_neg (by rintro (h | h | h) <;> contradiction)]; omega

/-- What is so of all sections that are parsed. -/
def secOk (n : Nat) (s : CfSec) : Prop := (s.2.map (·.1)).Nodup ∧ ∀ p ∈ s.2, p.2.length ≤ n

theorem cfGet_mem {k : List UInt8} : ∀ {l : List CfPair}, (cfGet l k).isSome = false → k ∉ l.map (·.1)
  | [], _ => by simp
  | p :: l, h => by
    simp only [cfGet] at h
    by_cases e : p.1 = k
    · rw [if_pos e] at h; cases h
    · rw [if_neg e] at h
      simp only [List.map_cons, List.mem_cons, not_or]
      exact ⟨fun q => e q.symm, cfGet_mem h⟩

theorem cfGet_val {k v : List UInt8} : ∀ {l : List CfPair}, cfGet l k = some v → ∃ p ∈ l, p.2 = v
  | [], h => by cases h
  | p :: l, h => by
    simp only [cfGet] at h
    by_cases e : p.1 = k
    · rw [if_pos e] at h; injection h with h; exact ⟨p, by simp, h⟩
    · rw [if_neg e] at h
      obtain ⟨q, h1, h2⟩ := cfGet_val h
      exact ⟨q, by simp [h1], h2⟩

theorem secOk_val {n : Nat} {s : CfSec} (h : secOk n s) (k : List UInt8) : ((cfGet s.2 k).getD []).length ≤ n := by
  cases hv : cfGet s.2 k with
  | none => simp
  | some v =>
    obtain ⟨p, h1, h2⟩ := cfGet_val hv
    have := h.2 p h1
    rw [h2] at this
    exact this

theorem trim_le (l : List UInt8) : (cfTrim l).length ≤ l.length := trimS_len l _

theorem cfPair_le (l : List UInt8) : (cfPair l).1.2.length ≤ l.length := by
  unfold cfPair
  split
  · have := trim_le (l.drop ((Lib.indexByte l 61).toNat + 1))
    rw [List.length_drop] at this
    simp only
    omega
  · simp

theorem go_ok (n : Nat) : ∀ (ls : List (List UInt8)) (st st' : CfSt), (∀ l ∈ ls, l.length ≤ n) → cfGo ls st = .ok st' → (∀ s ∈ cfAll st, secOk n s) → ∀ s ∈ cfAll st', secOk n s
  | [], st, st', _, h, hs => by
    simp only [cfGo, Except.ok.injEq] at h; subst h; exact hs
  | l :: ls, st, st', hl, h, hs => by
    cases hc : cfStep st l with
    | error e => simp only [cfGo, hc] at h; cases h
    | ok st1 =>
      simp only [cfGo, hc] at h
      refine go_ok n ls st1 st' (fun x hx => hl x (by simp [hx])) h ?_
      have hll := hl l (by simp)
      unfold cfStep at hc
      split at hc
      · split at hc
        · cases hc
        · split at hc
          · cases hc
          · simp only [Except.ok.injEq] at hc; subst hc
            have e : cfAll (some (cfAll st, cfSecN l, [])) = cfAll st ++ [(cfSecN l, [])] := rfl
            rw [e]
            intro s hm
            rcases List.mem_append.1 hm with h1 | h1
            · exact hs s h1
            · obtain rfl : s = _ := by simpa using h1
              exact ⟨by simp, by simp⟩
      · cases st with
        | none => cases hc
        | some q =>
          obtain ⟨d, m, ks⟩ := q
          simp only at hc
          split at hc
          · cases hc
          · split at hc
            · cases hc
            · rename_i hg
              split at hc
              · cases hc
              · simp only [Except.ok.injEq] at hc; subst hc
                have hk := hs (m, ks) (by simp [cfAll])
                intro s hm
                simp only [cfAll] at hm
                rcases List.mem_append.1 hm with h1 | h1
                · exact hs s (by simp [cfAll, h1])
                · obtain rfl : s = _ := by simpa using h1
                  have hp := cfPair_le l
                  have hno := cfGet_mem (by simpa using hg : (cfGet ks (cfPair l).1.1).isSome = false)
                  refine ⟨?_, fun p hp' => ?_⟩
                  · simp only [List.map_append, List.map_cons, List.map_nil]
                    rw [List.nodup_append]
                    refine ⟨hk.1, by simp, fun a ha b hb => ?_⟩
                    simp only [List.mem_singleton] at hb
                    subst hb
                    intro e; exact hno (e ▸ ha)
                  · rcases List.mem_append.1 hp' with h2 | h2
                    · exact hk.2 p h2
                    · obtain rfl : p = _ := by simpa using h2
                      omega

theorem parse_ok (t : List UInt8) : ∀ s ∈ (cfParse t).1, secOk t.length s := by
  unfold cfParse
  split
  · simp
  · cases h : cfGo (cfLines t) none with
    | error e => simp
    | ok st => exact go_ok t.length _ _ _ (lines_len t).2 h (by simp [cfAll])

/-- How a section fails as a store, the document's way. -/
def storeR (l : List CfPair) : Int :=
  if (cfGet l kPat).isSome && ((cfGet l kRet).isSome && onlyM l [kPat, kRet]) then (if compE ((cfGet l kPat).getD []) = 0 then (rungsM ((cfGet l kRet).getD [])).2 else compE ((cfGet l kPat).getD [])) else 7

theorem kPR : kPat ≠ kRet := by decide
theorem kPF : kPat ≠ kFac := by decide
theorem kPM : kPat ≠ kMet := by decide
theorem kFM : kFac ≠ kMet := by decide

theorem errF_0 (b : Int) : errF 0 b = b := by unfold errF; rw [if_pos rfl]
theorem errF_7 (b : Int) : errF 7 b = 7 := by unfold errF; rw [if_neg (by decide)]

theorem storeE_eq {l : List CfPair} (h : (l.map (·.1)).Nodup) : storeE l = storeR l := by
  have hc := cnt2 kPR h
  have ho := only_cnt [kPat, kRet] l
  unfold storeE storeR
  rw [Int.zero_add, hc]
  cases h1 : (cfGet l kPat).isSome
  · simp only [noneE, h1, Bool.false_and, Bool.false_eq_true, if_false, errF_0, errF_7]
  · cases h2 : (cfGet l kRet).isSome
    · simp only [noneE, h1, h2, Bool.true_and, Bool.false_and, Bool.false_eq_true, if_false, if_true, errF_0, errF_7]
    · simp only [noneE, h1, h2, Bool.true_and, if_true, errF_0]
      rw [ho]
      unfold overE
      by_cases h3 : cntK [kPat, kRet] l < (l.length : Int)
      · rw [if_pos h3, decide_eq_false (by omega)]
        simp only [errF_7, Bool.false_eq_true, if_false]
      · rw [if_neg h3, decide_eq_true (by omega)]
        simp only [errF_0, if_true]
        unfold errF
        rfl

/-- How a section fails as a rule of folding, the document's way. -/
def foldR (l : List CfPair) : Int :=
  if (cfGet l kPat).isSome && onlyM l [kPat, kFac, kMet] then (if compE ((cfGet l kPat).getD []) = 0 then (if (facM (cfGet l kFac)).2 = 0 then (metM (cfGet l kMet)).2 else (facM (cfGet l kFac)).2) else compE ((cfGet l kPat).getD [])) else 7

theorem foldE_eq {l : List CfPair} (h : (l.map (·.1)).Nodup) : foldE l = foldR l := by
  have hc := cnt3 kPF kPM kFM h
  have ho := only_cnt [kPat, kFac, kMet] l
  unfold foldE foldR
  rw [Int.zero_add, hc]
  cases h1 : (cfGet l kPat).isSome
  · simp only [noneE, h1, Bool.false_and, Bool.false_eq_true, if_false, errF_0, errF_7]
  · simp only [noneE, h1, Bool.true_and, if_true, errF_0]
    rw [ho]
    unfold overE
    by_cases h3 : cntK [kPat, kFac, kMet] l < (l.length : Int)
    · rw [if_pos h3, decide_eq_false (by omega)]
      simp only [errF_7, Bool.false_eq_true, if_false]
    · rw [if_neg h3, decide_eq_true (by omega)]
      simp only [errF_0, if_true]
      unfold errF
      by_cases h4 : compE ((cfGet l kPat).getD []) = 0
      · simp only [h4, if_true]
      · simp only [if_neg h4]

/-- A section as a store's row, and as a row of folding. -/
def storeT (s : CfSec) : List T := [.v (.string (toB s.1)), .v (.string (toB ((cfGet s.2 kPat).getD []))), .sl 2 ((rungsM ((cfGet s.2 kRet).getD [])).1.map slT)]
def foldT (s : CfSec) : List T := [.v (.string (toB s.1)), .v (.string (toB ((cfGet s.2 kPat).getD []))), .v (.int .i64 (facM (cfGet s.2 kFac)).1), .v (.int .i64 (metM (cfGet s.2 kMet)).1)]

/-- The first error of all sections. -/
def errAll (E : List CfPair → Int) : List CfSec → Int
  | [] => 0
  | s :: l => if E s.2 = 0 then errAll E l else E s.2

def readM (row : CfSec → List T) (E : List CfPair → Int) (t : List UInt8) : List (List T) × Int :=
  if (cfParse t).2 = 0 then (if errAll E (cfParse t).1 = 0 then ((cfParse t).1.map row, 0) else ([], errAll E (cfParse t).1)) else ([], (cfParse t).2)

def readGo (row : CfSec → List T) (E : List CfPair → Int) (l : List CfSec) : List (List T) × Int := if errAll E l = 0 then (l.map row, 0) else ([], errAll E l)

theorem errAll_app (E : List CfPair → Int) (b : List CfSec) : ∀ a : List CfSec, errAll E a = 0 → errAll E (a ++ b) = errAll E b
  | [], _ => rfl
  | s :: a, h => by
    simp only [List.cons_append, errAll] at h ⊢
    by_cases e : E s.2 = 0
    · rw [if_pos e] at h ⊢; exact errAll_app E b a h
    · rw [if_neg e] at h; exact absurd h e

theorem errAll_take {E : List CfPair → Int} {l : List CfSec} {i : Nat} {s : CfSec} (h : errAll E (l.take i) = 0) (hs : l[i]? = some s) : (E s.2 = 0 → errAll E (l.take (i + 1)) = 0) ∧ (E s.2 ≠ 0 → errAll E l = E s.2) := by
  constructor
  · intro e
    rw [List.take_add_one, hs, errAll_app E _ _ h]
    simp [errAll, e]
  · intro e
    have : l = l.take i ++ l.drop i := (List.take_append_drop i l).symm
    rw [this, errAll_app E _ _ h, drop_get hs]
    simp [errAll, e]

end Go.Proofs.YtaeleljlpcjcdaaGreatDoor
namespace Go.Proofs.YtaeleljlpcjcdaaGreatDoor
open Go Go.Sx

abbrev StoreV := List UInt8 × List UInt8 × List Rung
abbrev FoldV := List UInt8 × List UInt8 × Int × Int
def stT (s : StoreV) : List T := [.v (.string (toB s.1)), .v (.string (toB s.2.1)), .sl 2 (s.2.2.map slT)]
def fdT (f : FoldV) : List T := [.v (.string (toB f.1)), .v (.string (toB f.2.1)), .v (.int .i64 f.2.2.1), .v (.int .i64 f.2.2.2)]

def compB (p : List UInt8) : Bool := decide (compE p = 0)
def storB (s : StoreV) : Bool := compB s.2.1 && togB s.2.2
def fdB (f : FoldV) : Bool := compB f.2.1 && (decide (0 ≤ f.2.2.1) && (decide (f.2.2.1 ≤ 1000000) && (decide (1 ≤ f.2.2.2) && decide (f.2.2.2 ≤ 5))))
def rightM (ss : List StoreV) (fs : List FoldV) : Bool := decide (ss.length ≤ 16) && (decide (fs.length ≤ 16) && (ss.all storB && fs.all fdB))

theorem cfIdx_cons_t {α : Type} {p : α → Bool} {x : α} (l : List α) (h : p x = true) : cfIdx p (x :: l) = 0 := by
  unfold cfIdx; exact if_pos h
theorem cfIdx_cons_f {α : Type} {p : α → Bool} {x : α} (l : List α) (h : ¬ p x = true) : cfIdx p (x :: l) = if cfIdx p l < 0 then -1 else cfIdx p l + 1 := by
  rw [cfIdx]; exact if_neg h

theorem cfIdx_any {α : Type} (p : α → Bool) (l : List α) : decide (0 ≤ cfIdx p l) = l.any p := by
  induction l with
  | nil => rfl
  | cons x l ih =>
    have hg := cfIdx_ge p l
    rw [List.any_cons]
    by_cases hb : p x = true
    · rw [cfIdx_cons_t l hb, hb]; rfl
    · rw [cfIdx_cons_f l hb, show p x = false from by simpa using hb, Bool.false_or, ← ih]
      refine decide_eq_decide.2 ?_
      split <;> omega

theorem cfIdx_find {α : Type} (p : α → Bool) (l : List α) : l.find? p = if cfIdx p l < 0 then none else l[(cfIdx p l).toNat]? := by
  induction l with
  | nil => rfl
  | cons x l ih =>
    have hg := cfIdx_ge p l
    by_cases hb : p x = true
    · rw [cfIdx_cons_t l hb, List.find?_cons_of_pos hb, if_neg (by omega)]; rfl
    · rw [cfIdx_cons_f l hb, List.find?_cons_of_neg hb, ih]
      by_cases h : cfIdx p l < 0
      · rw [if_pos h, if_pos h, if_pos (by omega)]
      · rw [if_neg h, if_neg h, if_neg (by omega)]
        have e : (cfIdx p l + 1).toNat = (cfIdx p l).toNat + 1 := by omega
        rw [e, List.getElem?_cons_succ]

theorem f_rules_compiles (p : List UInt8) : Meets Tryz.prog E0 n_rules_compiles [Str (toB p)] [] (Bo (compB p)) [] := by
  refine st0 m_rules_compiles ?_
  have hc := f_needle_Compile_any (toB p)
  unfold compB compE
  simp only [go_sem, s_rules_compiles]
  refine Cl_plain hc ?_
  generalize compM (toB p).data.toList = w
  obtain ⟨⟨a, b, c⟩, x⟩ := w
  simp only
  unfold needleV
  simp only [go_sem]
  refine wE ?_
  simp only [go_sem, r_rules_compiles]

theorem f_ref12_compiles (p : List UInt8) : Meets Tryz.prog E0 n_ref12_compiles [Str (toB p)] [] (Bo (compB p)) [] := by
  refine st0 m_ref12_compiles ?_
  have hc := f_ref09_Compile_any (toB p)
  unfold compB compE
  simp only [go_sem, s_ref12_compiles]
  refine Cl_plain hc ?_
  generalize compM (toB p).data.toList = w
  obtain ⟨⟨a, b, c⟩, x⟩ := w
  simp only
  unfold needleV
  simp only [go_sem]
  refine wE ?_
  simp only [go_sem, r_ref12_compiles]

theorem f_rules_Right_1 (s : StoreV) : Meets Tryz.prog E0 n_rules_Right_1 [.ag ((stT s).map .t)] [] (Bo (!storB s)) [] := by
  refine st0 m_rules_Right_1 ?_
  unfold storB
  simp only [stT, List.map]
  simp only [go_sem, s_rules_Right_1]
  refine Cl_plain (f_rules_compiles s.2.1) ?_
  cases h1 : compB s.2.1
  · simp only [go_sem]
    refine wE ?_
    simp only [go_sem, r_rules_Right_1]
  · simp only [go_sem]
    refine Cl_plain (f_retention_Together s.2.2) ?_
    simp only [go_sem]
    refine wE ?_
    simp only [go_sem, r_rules_Right_1]

theorem f_rules_Right_2 (f : FoldV) : Meets Tryz.prog E0 n_rules_Right_2 [.ag ((fdT f).map .t)] [] (Bo (!fdB f)) [] := by
  refine st0 m_rules_Right_2 ?_
  have hc := f_rules_compiles f.2.1
  unfold fdB
  simp only [fdT, List.map]
  generalize f.2.2.1 = x
  generalize f.2.2.2 = y
  simp only [go_sem, s_rules_Right_2]
  refine Cl_plain hc ?_
  cases h1 : compB f.2.1
  · simp only [go_sem]
    refine wE ?_
    simp only [go_sem, r_rules_Right_2]
  · cases h2 : decide (x < 0)
    · have h2' : decide (0 ≤ x) = true := decide_eq_true (by have := of_decide_eq_false h2; omega)
      cases h3 : decide (1000000 < x)
      · have h3' : decide (x ≤ 1000000) = true := decide_eq_true (by have := of_decide_eq_false h3; omega)
        cases h4 : decide (y < 1)
        · have h4' : decide (1 ≤ y) = true := decide_eq_true (by have := of_decide_eq_false h4; omega)
          have h5 : decide (y ≤ 5) = !decide (5 < y) := by by_cases q : 5 < y <;> simp [q] <;> omega
          simp only [go_sem, h2, h3, h4]
          refine wE ?_
          simp only [go_sem, r_rules_Right_2, h2', h3', h4', h5, Bool.not_not]
        · have h4' : decide (1 ≤ y) = false := decide_eq_false (by have := of_decide_eq_true h4; omega)
          simp only [go_sem, h2, h3, h4]
          refine wE ?_
          simp only [go_sem, r_rules_Right_2, h2', h3', h4']
      · have h3' : decide (x ≤ 1000000) = false := decide_eq_false (by have := of_decide_eq_true h3; omega)
        simp only [go_sem, h2, h3]
        refine wE ?_
        simp only [go_sem, r_rules_Right_2, h2', h3']
    · have h2' : decide (0 ≤ x) = false := decide_eq_false (by have := of_decide_eq_true h2; omega)
      simp only [go_sem, h2]
      refine wE ?_
      simp only [go_sem, r_rules_Right_2, h2']

theorem f_IndexFunc_st (l : List StoreV) (p : StoreV → Bool) (g : Nat) (hp : ∀ s, Meets Tryz.prog E0 g [.ag ((stT s).map .t)] [] (Bo (p s)) []) (hl : l.length ≤ 1000000) : Meets Tryz.prog E0 n_slices_IndexFunc_Sapi_Store_api_Store [.t (.sl 3 (l.map stT)), .fn g [] []] [] (I (cfIdx p l)) [] := by
  refine st0 m_slices_IndexFunc_Sapi_Store_api_Store ?_
  have hlen : (l.map stT).length = l.length := by simp
  simp only [go_sem, s_slices_IndexFunc_Sapi_Store_api_Store, hlen]
  refine W_loop (fun i : Nat => l.length - i) (fun i => i ≤ l.length ∧ ∀ j x, j < i → l[j]? = some x → p x = false)
    (fun i => [(0, .t (.sl 3 (l.map stT))), (1, .fn g [] []), (7, I l.length), (8, I i)]) (fun _ => []) 0 ⟨Nat.zero_le _, fun j x h => absurd h (by omega)⟩ (sR [] []) ?_
  rintro i ⟨hi, hno⟩
  have hix := cfIdx_drop p l i hi hno
  by_cases hil : i < l.length
  · have d0 : decide (i < l.length) = true := decide_eq_true hil
    obtain ⟨s, hs⟩ := get_of_lt hil
    have ei : IntKind.i64.wrap ((i : Int) + 1) = ((i + 1 : Nat) : Int) := by rw [wrap_i64_of (by omega) (by omega)]; omega
    have hg : (l.map stT)[i]? = some (stT s) := by rw [List.getElem?_map, hs]; rfl
    have hf := hp s
    rw [drop_get hs] at hix
    have hsl : (stT s).length = 3 := rfl
    have htk : (stT s).take 3 = stT s := rfl
    simp only [go_sem, d0, hg, hsl, htk]
    refine Cl_plain hf ?_
    cases hb : p s
    · simp only [go_sem, ei]
      refine rd_of (i + 1) (by first | omega | (simp only; omega)) ⟨hil, fun j x hj hx => ?_⟩ (sR [] [])
      rcases Nat.lt_or_ge j i with h | h
      · exact hno j x h hx
      · obtain rfl : j = i := by omega
        rw [hs] at hx; injection hx with hx; subst hx; exact hb
    · have hz : cfIdx p (s :: l.drop (i + 1)) = 0 := by simp only [cfIdx, hb, if_true]
      rw [hz, if_neg (by omega)] at hix
      rw [hix, show (0 : Int) + (i : Int) = (i : Int) by omega]
      simp only [go_sem]
      refine wE ?_
      simp only [go_sem, r_slices_IndexFunc_Sapi_Store_api_Store]
  · obtain rfl : i = l.length := by omega
    have d0 : decide (l.length < l.length) = false := decide_eq_false (by omega)
    have hz : cfIdx p [] = -1 := rfl
    rw [List.drop_length, hz, if_pos (by omega)] at hix
    rw [hix]
    simp only [go_sem, d0]
    refine wE ?_
    simp only [go_sem, r_slices_IndexFunc_Sapi_Store_api_Store]

theorem f_IndexFunc_fd (l : List FoldV) (p : FoldV → Bool) (g : Nat) (hp : ∀ s, Meets Tryz.prog E0 g [.ag ((fdT s).map .t)] [] (Bo (p s)) []) (hl : l.length ≤ 1000000) : Meets Tryz.prog E0 n_slices_IndexFunc_Sapi_Fold_api_Fold [.t (.sl 4 (l.map fdT)), .fn g [] []] [] (I (cfIdx p l)) [] := by
  refine st0 m_slices_IndexFunc_Sapi_Fold_api_Fold ?_
  have hlen : (l.map fdT).length = l.length := by simp
  simp only [go_sem, s_slices_IndexFunc_Sapi_Fold_api_Fold, hlen]
  refine W_loop (fun i : Nat => l.length - i) (fun i => i ≤ l.length ∧ ∀ j x, j < i → l[j]? = some x → p x = false)
    (fun i => [(0, .t (.sl 4 (l.map fdT))), (1, .fn g [] []), (7, I l.length), (8, I i)]) (fun _ => []) 0 ⟨Nat.zero_le _, fun j x h => absurd h (by omega)⟩ (sR [] []) ?_
  rintro i ⟨hi, hno⟩
  have hix := cfIdx_drop p l i hi hno
  by_cases hil : i < l.length
  · have d0 : decide (i < l.length) = true := decide_eq_true hil
    obtain ⟨s, hs⟩ := get_of_lt hil
    have ei : IntKind.i64.wrap ((i : Int) + 1) = ((i + 1 : Nat) : Int) := by rw [wrap_i64_of (by omega) (by omega)]; omega
    have hg : (l.map fdT)[i]? = some (fdT s) := by rw [List.getElem?_map, hs]; rfl
    have hf := hp s
    rw [drop_get hs] at hix
    have hsl : (fdT s).length = 4 := rfl
    have htk : (fdT s).take 4 = fdT s := rfl
    simp only [go_sem, d0, hg, hsl, htk]
    refine Cl_plain hf ?_
    cases hb : p s
    · simp only [go_sem, ei]
      refine rd_of (i + 1) (by first | omega | (simp only; omega)) ⟨hil, fun j x hj hx => ?_⟩ (sR [] [])
      rcases Nat.lt_or_ge j i with h | h
      · exact hno j x h hx
      · obtain rfl : j = i := by omega
        rw [hs] at hx; injection hx with hx; subst hx; exact hb
    · have hz : cfIdx p (s :: l.drop (i + 1)) = 0 := by simp only [cfIdx, hb, if_true]
      rw [hz, if_neg (by omega)] at hix
      rw [hix, show (0 : Int) + (i : Int) = (i : Int) by omega]
      simp only [go_sem]
      refine wE ?_
      simp only [go_sem, r_slices_IndexFunc_Sapi_Fold_api_Fold]
  · obtain rfl : i = l.length := by omega
    have d0 : decide (l.length < l.length) = false := decide_eq_false (by omega)
    have hz : cfIdx p [] = -1 := rfl
    rw [List.drop_length, hz, if_pos (by omega)] at hix
    rw [hix]
    simp only [go_sem, d0]
    refine wE ?_
    simp only [go_sem, r_slices_IndexFunc_Sapi_Fold_api_Fold]

theorem f_ContainsFunc_st (l : List StoreV) (p : StoreV → Bool) (g : Nat) (hp : ∀ s, Meets Tryz.prog E0 g [.ag ((stT s).map .t)] [] (Bo (p s)) []) (hl : l.length ≤ 1000000) : Meets Tryz.prog E0 n_slices_ContainsFunc_Sapi_Store_api_Store [.t (.sl 3 (l.map stT)), .fn g [] []] [] (Bo (l.any p)) [] := by
  refine st0 m_slices_ContainsFunc_Sapi_Store_api_Store ?_
  have e := cfIdx_any p l
  simp only [go_sem, s_slices_ContainsFunc_Sapi_Store_api_Store]
  refine Cl_plain (f_IndexFunc_st l p g hp hl) ?_
  simp only [go_sem, e]
  refine wE ?_
  simp only [go_sem, r_slices_ContainsFunc_Sapi_Store_api_Store]

theorem f_ContainsFunc_fd (l : List FoldV) (p : FoldV → Bool) (g : Nat) (hp : ∀ s, Meets Tryz.prog E0 g [.ag ((fdT s).map .t)] [] (Bo (p s)) []) (hl : l.length ≤ 1000000) : Meets Tryz.prog E0 n_slices_ContainsFunc_Sapi_Fold_api_Fold [.t (.sl 4 (l.map fdT)), .fn g [] []] [] (Bo (l.any p)) [] := by
  refine st0 m_slices_ContainsFunc_Sapi_Fold_api_Fold ?_
  have e := cfIdx_any p l
  simp only [go_sem, s_slices_ContainsFunc_Sapi_Fold_api_Fold]
  refine Cl_plain (f_IndexFunc_fd l p g hp hl) ?_
  simp only [go_sem, e]
  refine wE ?_
  simp only [go_sem, r_slices_ContainsFunc_Sapi_Fold_api_Fold]

def rulesV (ss : List StoreV) (fs : List FoldV) : AV := .ag [.t (.sl 3 (ss.map stT)), .t (.sl 4 (fs.map fdT))]

theorem any_not {α : Type} (p : α → Bool) (l : List α) : l.any (fun x => !p x) = !l.all p := by
  induction l with
  | nil => rfl
  | cons x l ih => simp only [List.any_cons, List.all_cons, ih, Bool.not_and]

theorem f_rules_Right (ss : List StoreV) (fs : List FoldV) : Meets Tryz.prog E0 n_rules_Right [rulesV ss fs] [] (Bo (rightM ss fs)) [] := by
  refine st0 m_rules_Right ?_
  unfold rulesV rightM
  have hl1 : (ss.map stT).length = ss.length := by simp
  have hl2 : (fs.map fdT).length = fs.length := by simp
  cases h1 : decide ((16 : Int) < (ss.length : Int))
  · have h1n : ss.length ≤ 16 := by have := of_decide_eq_false h1; omega
    have h1' : decide (ss.length ≤ 16) = true := decide_eq_true h1n
    cases h2 : decide ((16 : Int) < (fs.length : Int))
    · have h2n : fs.length ≤ 16 := by have := of_decide_eq_false h2; omega
      have h2' : decide (fs.length ≤ 16) = true := decide_eq_true h2n
      have c1 := f_ContainsFunc_st ss (fun s => !storB s) n_rules_Right_1 f_rules_Right_1 (by omega)
      have c2 := f_ContainsFunc_fd fs (fun s => !fdB s) n_rules_Right_2 f_rules_Right_2 (by omega)
      rw [any_not] at c1 c2
      simp only [go_sem, s_rules_Right, hl1, hl2, h1, h2]
      refine Cl_plain c1 ?_
      cases h3 : ss.all storB
      · simp only [go_sem]
        refine wE ?_
        simp only [go_sem, r_rules_Right, h1', h2']
      · simp only [go_sem]
        refine Cl_plain c2 ?_
        simp only [go_sem, Bool.not_not]
        refine wE ?_
        simp only [go_sem, r_rules_Right, h1', h2']
    · have h2' : decide (fs.length ≤ 16) = false := decide_eq_false (by have := of_decide_eq_true h2; omega)
      simp only [go_sem, s_rules_Right, hl1, hl2, h1, h2]
      refine wE ?_
      simp only [go_sem, r_rules_Right, h1', h2']
  · have h1' : decide (ss.length ≤ 16) = false := decide_eq_false (by have := of_decide_eq_true h1; omega)
    simp only [go_sem, s_rules_Right, hl1, hl2, h1]
    refine wE ?_
    simp only [go_sem, r_rules_Right, h1']

end Go.Proofs.YtaeleljlpcjcdaaGreatDoor
namespace Go.Proofs.YtaeleljlpcjcdaaGreatDoor
open Go Go.Sx

theorem Tryz.own : ownKnob Tryz.prog.godebug = none := by kernel_rfl

theorem Tryz.laidOut : laidOutB Tryz.prog = true := by kernel_rfl

theorem u64_wf {i : Int} (h : (Lit.int .u64 i).wf = true) : ∃ x : Nat, x < 18446744073709551616 ∧ i = x := by
  simp [Lit.wf, IntKind.has, IntKind.min, IntKind.max, IntKind.signed, IntKind.bits] at h
  exact ⟨i.toNat, by omega, by omega⟩

theorem u8_wf {i : Int} (h : (Lit.int .u8 i).wf = true) : ∃ x : Nat, x < 256 ∧ i = x := by
  simp [Lit.wf, IntKind.has, IntKind.min, IntKind.max, IntKind.signed, IntKind.bits] at h
  exact ⟨i.toNat, by omega, by omega⟩

theorem u16_wf {i : Int} (h : (Lit.int .u16 i).wf = true) : ∃ x : Nat, x < 65536 ∧ i = x := by
  simp [Lit.wf, IntKind.has, IntKind.min, IntKind.max, IntKind.signed, IntKind.bits] at h
  exact ⟨i.toNat, by omega, by omega⟩

theorem i64_wf {i : Int} (h : (Lit.int .i64 i).wf = true) : -9223372036854775808 ≤ i ∧ i < 9223372036854775808 := by
  simp [Lit.wf, IntKind.has, IntKind.min, IntKind.max, IntKind.signed, IntKind.bits] at h
  omega

end Go.Proofs.YtaeleljlpcjcdaaGreatDoor
namespace Go.Proofs.YtaeleljlpcjcdaaGreatDoor
open Go Go.Sx Go.ChangeShapes Go.WideShapes Go.ChangeAt Go.RowKit

/-- The witness's world: the listed variables hold what their initialisers lay. -/
noncomputable def laidWorld (os : Os) : World :=
  let N := (World.settled Tryz.prog os).heap.size
  let w0 := World.holding Tryz.prog os ⟨#[.cells #[.string ⟨#[118, 97, 108, 117, 101, 32, 111, 117, 116, 32, 111, 102, 32, 114, 97, 110, 103, 101]⟩] 206, .cells #[.string ⟨#[105, 110, 118, 97, 108, 105, 100, 32, 115, 121, 110, 116, 97, 120]⟩] 206], #[], []⟩
  let put (h : Array Obj) (g : Nat) (cs : Array Value) : Array Obj := h.modify g fun
    | .cells _ t frozen => .cells cs t frozen
    | o => o
  let h0 := w0.heap
  let h1 := put h0 7 (([0, 1, 28, 2, 29, 14, 24, 3, 30, 22, 20, 15, 25, 17, 4, 8, 31, 27, 13, 23, 21, 19, 16, 7, 26, 12, 18, 6, 11, 5, 10, 9] : List Int).map fun z => Value.int .u8 z).toArray
  let h2 := put h1 8 (([0, 1, 56, 2, 57, 49, 28, 3, 61, 58, 42, 50, 38, 29, 17, 4, 62, 47, 59, 36, 45, 43, 51, 22, 53, 39, 33, 30, 24, 18, 12, 5, 63, 55, 48, 27, 60, 41, 37, 16, 46, 35, 44, 21, 52, 32, 23, 11, 54, 26, 40, 15, 34, 20, 31, 10, 25, 14, 19, 9, 13, 8, 7, 6] : List Int).map fun z => Value.int .u8 z).toArray
  let h3 := put h2 6 (([1, 10, 100, 1000, 10000, 100000, 1000000, 10000000, 100000000, 1000000000, 10000000000, 100000000000, 1000000000000, 10000000000000, 100000000000000, 1000000000000000, 10000000000000000, 100000000000000000, 1000000000000000000, 10000000000000000000] : List Int).map fun z => Value.int .u64 z).toArray
  let h4 := put h3 3 #[.int .u8 (128), .int .u8 (191), .int .u8 (160), .int .u8 (191), .int .u8 (128), .int .u8 (159), .int .u8 (144), .int .u8 (191), .int .u8 (128), .int .u8 (143), .int .u8 (0), .int .u8 (0), .int .u8 (0), .int .u8 (0), .int .u8 (0), .int .u8 (0), .int .u8 (0), .int .u8 (0), .int .u8 (0), .int .u8 (0), .int .u8 (0), .int .u8 (0), .int .u8 (0), .int .u8 (0), .int .u8 (0), .int .u8 (0), .int .u8 (0), .int .u8 (0), .int .u8 (0), .int .u8 (0), .int .u8 (0), .int .u8 (0)]
  let h5 := put h4 5 #[.iface 204 (.pointer (some ⟨N + 0, 0, none⟩))]
  let h6 := put h5 4 #[.iface 204 (.pointer (some ⟨N + 1, 0, none⟩))]
  let h7 := put h6 0 (([1, 60, 3600, 86400, 604800, 31536000] : List Int).map fun z => Value.int .i64 z).toArray
  let h8 := put h7 2 (Go.Pinned.utf8FirstZ.map fun z : Nat => Value.int .u8 (z : Int)).toArray
  { w0 with heap := h8 }

theorem toB_self (s : ByteArray) : toB s.data.toList = s := bytes_ext (by rw [toB_data])

theorem rungs_of {es : List (List T)} (h : ∀ c ∈ es, okS (.st [.it .i64, .it .i64]) c) : ∃ l : List Rung, es = l.map slT := by
  induction es with
  | nil => exact ⟨[], rfl⟩
  | cons e es ih =>
    obtain ⟨l, rfl⟩ := ih (fun c hc => h c (by simp [hc]))
    have he := h e (by simp)
    simp only [okSs, okS] at he
    obtain ⟨_, _, rfl, ⟨i, rfl, _⟩, _, _, rfl, ⟨j, rfl, _⟩, rfl⟩ := he
    exact ⟨(i, j) :: l, rfl⟩

abbrev shSt : Sh := .st [.str, .str, .sl 2 (.st [.it .i64, .it .i64])]
abbrev shFd : Sh := .st [.str, .str, .it .i64, .it .i64]

theorem st_of {e : List T} (h : okS shSt e) : ∃ s : StoreV, e = stT s ∧ s.2.2.length ≤ 4611686018427387904 := by
  rw [okS] at h
  simp only [okSs] at h
  obtain ⟨_, _, rfl, h1, _, _, rfl, h2, _, _, rfl, h3, rfl⟩ := h
  simp only [okS] at h1 h2
  obtain ⟨a, rfl, _⟩ := h1
  obtain ⟨b, rfl, _⟩ := h2
  rw [okS] at h3
  obtain ⟨es, rfl, hl, he⟩ := h3
  obtain ⟨l, rfl⟩ := rungs_of he
  rw [List.length_map] at hl
  refine ⟨(a.data.toList, b.data.toList, l), ?_, by unfold reachBytes at hl; simp only; omega⟩
  simp only [stT, toB_self]
  rfl

theorem fd_of {e : List T} (h : okS shFd e) : ∃ s : FoldV, e = fdT s := by
  rw [okS] at h
  simp only [okSs] at h
  obtain ⟨_, _, rfl, h1, _, _, rfl, h2, _, _, rfl, h3, _, _, rfl, h4, rfl⟩ := h
  simp only [okS] at h1 h2 h3 h4
  obtain ⟨a, rfl, _⟩ := h1
  obtain ⟨b, rfl, _⟩ := h2
  obtain ⟨x, rfl, _⟩ := h3
  obtain ⟨y, rfl, _⟩ := h4
  refine ⟨(a.data.toList, b.data.toList, x, y), ?_⟩
  simp only [fdT, toB_self]
  rfl

theorem sts_of {es : List (List T)} (h : ∀ c ∈ es, okS shSt c) : ∃ l : List StoreV, es = l.map stT ∧ ∀ s ∈ l, s.2.2.length ≤ 4611686018427387904 := by
  induction es with
  | nil => exact ⟨[], rfl, by simp⟩
  | cons e es ih =>
    obtain ⟨l, rfl, hl⟩ := ih (fun c hc => h c (by simp [hc]))
    obtain ⟨s, rfl, hs⟩ := st_of (h e (by simp))
    refine ⟨s :: l, rfl, fun x hx => ?_⟩
    rcases List.mem_cons.1 hx with rfl | hx
    · exact hs
    · exact hl x hx

theorem fds_of {es : List (List T)} (h : ∀ c ∈ es, okS shFd c) : ∃ l : List FoldV, es = l.map fdT := by
  induction es with
  | nil => exact ⟨[], rfl⟩
  | cons e es ih =>
    obtain ⟨l, rfl⟩ := ih (fun c hc => h c (by simp [hc]))
    obtain ⟨s, rfl⟩ := fd_of (h e (by simp))
    exact ⟨s :: l, rfl⟩

abbrev shRules : Sh := .st [.sl 3 shSt, .sl 4 shFd]

theorem rules_of {e : List T} (h : okS shRules e) : ∃ (ss : List StoreV) (fs : List FoldV), AV.ag (e.map .t) = rulesV ss fs ∧ ss.length ≤ 4611686018427387903 ∧ fs.length ≤ 4611686018427387903 ∧ ∀ s ∈ ss, s.2.2.length ≤ 4611686018427387904 := by
  rw [okS] at h
  simp only [okSs] at h
  obtain ⟨_, _, rfl, h1, _, _, rfl, h2, rfl⟩ := h
  rw [okS] at h1 h2
  obtain ⟨es, rfl, hl1, he1⟩ := h1
  obtain ⟨ds, rfl, hl2, he2⟩ := h2
  obtain ⟨ss, rfl, hs⟩ := sts_of he1
  obtain ⟨fs, rfl⟩ := fds_of he2
  rw [List.length_map] at hl1 hl2
  exact ⟨ss, fs, rfl, by unfold reachBytes at hl1; omega, by unfold reachBytes at hl2; omega, hs⟩

end Go.Proofs.YtaeleljlpcjcdaaGreatDoor
namespace Go.Proofs.YtaeleljlpcjcdaaGreatDoor
open Go Go.Sx

theorem sR_CfLines {io : List Nat} {env : List (Nat × AV)} {sto : List (Nat × Ob)} {env' : List (Nat × AV)} {sto' : List (Nat × Ob)} (rn : List (Nat × Nat)) (sn : List Nat)
    (h1 : envS sto sn rn env sto' env' := by simp [envS, go_sem, wkV, wkL, AV.ids, idsL, keysOf, ren, stoOf, slTrees, AV.asOwn, rowPart, AV.isNil, shA, rowsT, cellsT, cellT, wkLL, rowS, linesV] <;> assumption)
    (h2 : stoS sto sn rn sto' sto' := by simp [stoS, go_sem, wkV, wkL, wkO, AV.ids, Ob.ids, idsL, keysOf, ren, AV.one, stoOf, slTrees, AV.asOwn, rowPart, AV.isNil, shA, rowsT, cellsT, cellT, wkLL, rowS, linesV] <;> assumption)
    (h3 : ((keysOf sto').map (ren rn)).Nodup := by simp [keysOf, ren]) (h4 : ∀ i ∈ sn, 100 ≤ i ∧ isRow (stoOf sto i) = true ∧ ∀ j ∈ keysOf sto', ren rn j ≠ i := by simp [stoOf, keysOf, ren])
    (h5 : ∀ i ∈ io, ren rn i = i := by simp [keysOf, ren]) (h6 : ∀ i ∈ keysOf sto', ren rn i ∈ io → i = ren rn i := by simp [keysOf, ren]) :
    Sub io ⟨envOf env, stoOf sto⟩ ⟨envOf env', stoOf sto'⟩ := subL rn sn h1 h2 h3 h4 h5 h6

theorem keep_nil : cfKeep [] = false := rfl

/-- Lines of the parts ahead of a place. -/
def linesAt (ps : List (List UInt8)) (j : Nat) : List (List UInt8) := ((ps.take j).map cfLine).filter cfKeep

theorem linesAt_succ {ps : List (List UInt8)} {j : Nat} {p : List UInt8} (hp : ps[j]? = some p) : linesAt ps (j + 1) = if cfKeep (cfLine p) then linesAt ps j ++ [cfLine p] else linesAt ps j := by
  unfold linesAt
  rw [List.take_add_one, hp, Option.toList_some, List.map_append, List.filter_append]
  simp only [List.map_cons, List.map_nil, List.filter_cons, List.filter_nil]
  split <;> simp

theorem linesAt_len (ps : List (List UInt8)) (j : Nat) : (linesAt ps j).length ≤ j := by
  unfold linesAt
  refine Nat.le_trans (List.length_filter_le _ _) ?_
  rw [List.length_map, List.length_take]; omega

theorem f_config_Lines (t : List UInt8) (ht : t.length ≤ 1000000) : Meets Tryz.prog E0 n_config_Lines [Str (toB t)] [] (linesV (cfLines t)) [] := by
  refine st0 m_config_Lines ?_
  simp only [go_sem, s_config_Lines]
  refine Cl_io [] false (f_SplitSeq 300 301 302 (by omega) (by omega) (by omega) (toB t) (bs [10])) (Wks.refl _) (by simp [keysOf]) (by simp [keysOf, stoOf]) (by simp) (by simp) (by simp [keysOf]) ?_
  simp only [go_sem, froze]
  have hv : cfLines t = linesAt (partsB 10 t) (partsB 10 t).length := by unfold cfLines linesAt; rw [List.take_length]
  have hpl := parts_sum 10 t
  have hi := iter_parts 10 (toB t) (by show t.length < _; omega)
  rw [toB_data] at hi
  rw [hv]
  generalize partsB 10 t = ps at *
  refine W_rng (i0 := 300) (i1 := 301) (i2 := 302) (s0 := toB t) (v1 := .string (bs [10])) (v2 := .int .i64 0) (xs := ps.map fun l => .string ⟨l.toArray⟩) (fun j => j ≤ ps.length)
    (fun j => [(3, .ptr 101 0), (6, .fn n_strings_splitSeq_1 [] [.ptr 301 0, .ptr 300 0, .ptr 302 0])])
    (fun j => [(301, .box [Str (bs [10])]), (302, .box [I 0]), (101, .box [.own 999 1 0 (linesAt ps j).length (!(linesAt ps j).isEmpty)]), (999, .row 1 (!(linesAt ps j).isEmpty) ((linesAt ps j).map fun x => rowS (toB x)))])
    hi (enters_of Tryz.func125 (by kernel_rfl) rfl) rfl rfl ?_ (Nat.zero_le _) ?_ (fun j _ => ⟨rfl, rfl, rfl⟩) (by decide) (by decide) ?_ ?_
  · intro x hx
    obtain ⟨l, _, rfl⟩ := List.mem_map.1 hx
    rfl
  · simp only [show linesAt ps 0 = [] from rfl, List.map_nil, List.length_nil, List.isEmpty_nil, Bool.not_true]
    exact (sR_CfLines [(999, 888)] [])
  · rintro j x r hj hx
    rw [List.getElem?_map] at hx
    obtain ⟨q, hq, rfl⟩ := Option.map_eq_some_iff.1 hx
    have hjlt := (List.getElem?_eq_some_iff.1 hq).1
    have hqz := hpl.2 q (List.mem_of_getElem? hq)
    have hq1 : Meets Tryz.prog E0 n_strings_TrimSuffix [Str ⟨q.toArray⟩, Str (toB [13])] [] (Str (toB (stripB 13 q))) [] := f_TrimSuffix q 13 (by omega)
    have hz := strip_len 13 q
    have hq2 : Meets Tryz.prog E0 n_config_trim [Str (toB (stripB 13 q))] [] (Str (toB (cfLine q))) [] := f_config_trim (stripB 13 q) (by omega)
    have hs := linesAt_succ hq
    have hl := linesAt_len ps j
    generalize cfLine q = k at *
    have es : binStr .eql (toB k) (bs []) = some (.bool k.isEmpty) := strT k
    simp only [go_sem]
    refine Cl_plain hq1 ?_
    simp only [go_sem]
    refine Cl_plain hq2 ?_
    cases k with
    | nil =>
      rw [keep_nil, if_neg (by decide)] at hs
      simp only [go_sem, es, List.isEmpty_nil]
      refine rg_of hjlt ?_
      simp only [hs]
      exact (sR_CfLines [(999, 999)] [])
    | cons b k =>
      have hg : (toB (b :: k))[0]? = some b := by rw [getT]; rfl
      have hk : cfKeep (b :: k) = (!(b == 35) && !(b == 59)) := rfl
      have n35 : decide (b.toNat = 35) = (b == 35) := eqN b 35
      have n59 : decide (b.toNat = 59) = (b == 59) := eqN b 59
      cases h35 : (b == 35)
      · cases h59 : (b == 59)
        · rw [h35] at n35
          rw [h59] at n59
          rw [hk, h35, h59, if_pos (by decide)] at hs
          generalize hL : linesAt ps j = L at *
          have b4 : (L.length + 1) * 16 ≤ 2 ^ 47 := by omega
          have b5 : L.length + 1 < 2 ^ 47 := by omega
          have em : (L.map fun x => rowS (toB x)) ++ [[.v (.string (toB (b :: k)))]] = (L ++ [b :: k]).map fun x => rowS (toB x) := by simp [rowS]
          have hlen : (L.map fun x => rowS (toB x)).length = L.length := by simp
          simp only [go_sem, es, List.isEmpty_cons, hg, n35, n59, hL, b4, b5, em, hlen]
          refine rg_of hjlt ?_
          simp only [hs, List.length_append, List.length_cons, List.length_nil, Nat.zero_add, show (L ++ [b :: k]).isEmpty = false from by simp, Bool.not_false]
          exact (sR_CfLines [(999, 124)] [])
        · rw [h35] at n35
          rw [h59] at n59
          rw [hk, h35, h59, if_neg (by simp)] at hs
          simp only [go_sem, es, List.isEmpty_cons, hg, n35, n59]
          refine rg_of hjlt ?_
          simp only [hs]
          exact (sR_CfLines [(999, 999)] [])
      · rw [h35] at n35
        rw [hk, h35, if_neg (by simp)] at hs
        simp only [go_sem, es, List.isEmpty_cons, hg, n35]
        refine rg_of hjlt ?_
        simp only [hs]
        exact (sR_CfLines [(999, 999)] [])
  · rintro r _
    rw [List.length_map]
    simp only [go_sem]
    cases hL : linesAt ps ps.length with
    | nil =>
      unfold linesV
      refine wS [] ?_
      simp only [go_sem, r_config_Lines, exists_eq_left', Option.some.injEq]
      simp [wkV, wkL, slTrees, AV.asOwn, rowPart, stoOf, AV.isNil, shA, rowsT, cellsT, cellT]
    | cons a L =>
      unfold linesV
      refine wS [999] ?_
      simp only [go_sem, r_config_Lines, exists_eq_left', Option.some.injEq]
      simp [wkV, wkL, slTrees, AV.asOwn, rowPart, stoOf, AV.isNil, shA, rowsT, cellsT, cellT, List.take_of_length_le]

/-- Lines between feeds, behind what stands in hand. -/
def linesGo (cur : List UInt8) : List UInt8 → List (List UInt8)
  | [] => if cfKeep (cfLine cur) then [cfLine cur] else []
  | b :: l => if b = 10 then (if cfKeep (cfLine cur) then cfLine cur :: linesGo [] l else linesGo [] l) else linesGo (cur ++ [b]) l

theorem linesGo_eq : ∀ (l cur : List UInt8), linesGo cur l = ((match partsB 10 l with | p :: ps => (cur ++ p) :: ps | [] => []).map cfLine).filter cfKeep
  | [], cur => by simp only [linesGo, partsB, List.append_nil, List.map_cons, List.map_nil, List.filter_cons, List.filter_nil]
  | b :: l, cur => by
    have hne := partsB_ne 10 l
    by_cases hb : b = 10
    · subst hb
      have ih := linesGo_eq l []
      have e : linesGo cur (10 :: l) = if cfKeep (cfLine cur) then cfLine cur :: linesGo [] l else linesGo [] l := by
        rw [linesGo, if_pos rfl]
      rw [e, ih]
      simp only [partsB, if_pos, List.append_nil, List.map_cons, List.filter_cons]
      generalize partsB 10 l = ps at *
      cases ps with
      | nil => exact absurd rfl hne
      | cons p ps => simp only [List.nil_append, List.map_cons, List.filter_cons]
    · have ih := linesGo_eq l (cur ++ [b])
      have e : linesGo cur (b :: l) = linesGo (cur ++ [b]) l := by rw [linesGo, if_neg hb]
      rw [e, ih]
      simp only [partsB, if_neg hb]
      generalize partsB 10 l = ps at *
      cases ps with
      | nil => exact absurd rfl hne
      | cons p ps => simp only [List.append_assoc, List.cons_append, List.nil_append]

theorem lines_go (t : List UInt8) : linesGo [] t = cfLines t := by
  rw [linesGo_eq]
  unfold cfLines
  have hne := partsB_ne 10 t
  generalize partsB 10 t = ps at *
  cases ps with
  | nil => exact absurd rfl hne
  | cons p ps => rfl

end Go.Proofs.YtaeleljlpcjcdaaGreatDoor
namespace Go.Proofs.YtaeleljlpcjcdaaGreatDoor
open Go Go.Sx

theorem sR_CfLines2 {io : List Nat} {env : List (Nat × AV)} {sto : List (Nat × Ob)} {env' : List (Nat × AV)} {sto' : List (Nat × Ob)} (rn : List (Nat × Nat)) (sn : List Nat)
    (h1 : envS sto sn rn env sto' env' := by simp [envS, go_sem, wkV, wkL, AV.ids, idsL, keysOf, ren, stoOf, slTrees, AV.asOwn, rowPart, AV.isNil, shA, rowsT, cellsT, cellT, wkLL, rowS, linesV] <;> assumption)
    (h2 : stoS sto sn rn sto' sto' := by simp [stoS, go_sem, wkV, wkL, wkO, AV.ids, Ob.ids, idsL, keysOf, ren, AV.one, stoOf, slTrees, AV.asOwn, rowPart, AV.isNil, shA, rowsT, cellsT, cellT, wkLL, rowS, linesV] <;> assumption)
    (h3 : ((keysOf sto').map (ren rn)).Nodup := by simp [keysOf, ren]) (h4 : ∀ i ∈ sn, 100 ≤ i ∧ isRow (stoOf sto i) = true ∧ ∀ j ∈ keysOf sto', ren rn j ≠ i := by simp [stoOf, keysOf, ren])
    (h5 : ∀ i ∈ io, ren rn i = i := by simp [keysOf, ren]) (h6 : ∀ i ∈ keysOf sto', ren rn i ∈ io → i = ren rn i := by simp [keysOf, ren]) :
    Sub io ⟨envOf env, stoOf sto⟩ ⟨envOf env', stoOf sto'⟩ := subL rn sn h1 h2 h3 h4 h5 h6

def lnInv (t : List UInt8) (s : Nat × Nat × List (List UInt8)) : Prop :=
  s.1 ≤ t.length + 1 ∧ s.2.2.length ≤ s.1 ∧ (s.1 ≤ t.length → s.2.1 ≤ s.1 ∧ s.2.2 ++ linesGo ((t.take s.1).drop s.2.1) (t.drop s.1) = cfLines t) ∧ (s.1 = t.length + 1 → s.2.2 = cfLines t)

theorem go_feed (cur l : List UInt8) : linesGo cur (10 :: l) = (if cfKeep (cfLine cur) then [cfLine cur] else []) ++ linesGo [] l := by
  rw [linesGo, if_pos rfl]
  split <;> rfl

theorem go_end (cur : List UInt8) : linesGo cur [] = if cfKeep (cfLine cur) then [cfLine cur] else [] := rfl

theorem f_ref11_Lines (t : List UInt8) (ht : t.length ≤ 1000000) : Meets Tryz.prog E0 n_ref11_Lines [Str (toB t)] [] (linesV (cfLines t)) [] := by
  refine st0 m_ref11_Lines ?_
  simp only [go_sem, s_ref11_Lines]
  refine W_loop (fun s : Nat × Nat × List (List UInt8) => t.length + 1 - s.1) (lnInv t)
    (fun s => [(0, Str (toB t)), (3, .own 999 1 0 s.2.2.length (!s.2.2.isEmpty)), (4, I (s.2.1 : Nat)), (5, I (s.1 : Nat))]) (fun s => [(999, .row 1 (!s.2.2.isEmpty) (s.2.2.map fun x => rowS (toB x)))])
    (0, 0, []) ⟨by simp, by simp, fun _ => ⟨Nat.le_refl _, by simpa using lines_go t⟩, fun h => absurd h (by simp)⟩ ?_ ?_
  · exact (sR_CfLines2 [(999, 888)] [])
  · rintro ⟨i, from_, out⟩ ⟨h1, h2, h3, h4⟩
    simp only at h1 h2 h3 h4
    by_cases hle : i ≤ t.length
    · obtain ⟨hf, h3⟩ := h3 hle
      have d0 : decide (i ≤ t.length) = true := decide_eq_true hle
      have ei : IntKind.i64.wrap ((i : Int) + 1) = ((i + 1 : Nat) : Int) := by rw [wrap_i64_of (by omega) (by omega)]; omega
      have hcase : (i < t.length ∧ ∃ b, t[i]? = some b ∧ b ≠ 10) ∨ (i < t.length ∧ t[i]? = some 10) ∨ i = t.length := by
        by_cases hl : i < t.length
        · obtain ⟨b, hb⟩ := get_of_lt hl
          by_cases h10 : b = 10
          · subst h10; exact Or.inr (Or.inl ⟨hl, hb⟩)
          · exact Or.inl ⟨hl, b, hb, h10⟩
        · exact Or.inr (Or.inr (by omega))
      have hnext : (∀ tail, t.drop i = 10 :: tail ∨ (t.drop i = [] ∧ tail = []) → True) := fun _ _ => trivial
      clear hnext
      rcases hcase with ⟨hl, b, hb, h10⟩ | hcase
      · have d1 : decide (i < t.length) = true := decide_eq_true hl
        have d2 : decide (b.toNat = 10) = false := decide_eq_false (fun e => h10 (UInt8.toNat_inj.1 e))
        have hg : (toB t)[i]? = some b := by rw [getT]; exact hb
        simp only [go_sem, d0, toB_size, d1, hg, d2, ei]
        refine rd_of (i + 1, from_, out) (by simp only; omega) ⟨by simp only; omega, by simp only; omega, fun _ => ⟨by simp only; omega, ?_⟩, fun h => absurd h (by simp only; omega)⟩ ?_
        · simp only
          rw [← h3, drop_get hb, linesGo, if_neg h10]
          congr 2
          rw [List.take_add_one, hb, Option.toList_some, List.drop_append_of_le_length (by simp; omega)]
        · exact (sR_CfLines2 [(999, 999)] [])
      · have hgo : ∀ out', out' = out ++ (if cfKeep (cfLine ((t.take i).drop from_)) then [cfLine ((t.take i).drop from_)] else []) → lnInv t (i + 1, i + 1, out') := by
          intro out' ho
          have hol : out'.length ≤ i + 1 := by rw [ho]; split <;> simp <;> omega
          refine ⟨by simp only; omega, hol, fun hle2 => ⟨Nat.le_refl _, ?_⟩, fun hlast => ?_⟩
          · simp only at hle2 ⊢
            rcases hcase with ⟨hl, hb⟩ | rfl
            · rw [drop_get hb, go_feed, ← List.append_assoc, ← ho] at h3
              rw [← h3]
              congr 2
              rw [List.drop_eq_nil_of_le (by simp; omega)]
            · omega
          · simp only at hlast ⊢
            have : i = t.length := by omega
            subst this
            rw [List.drop_length, go_end, ← ho] at h3
            exact h3
        have hcl : ((t.take i).drop from_).length ≤ 1000000 := by simp; omega
        have hex : (toB t).extract from_ i = toB ((t.take i).drop from_) := extT t from_ i
        have c1 : ((from_ : Int) ≤ (i : Int)) = True := eq_true (by omega)
        have c2 : ((i : Int) ≤ (t.length : Int)) = True := eq_true (by omega)
        generalize (t.take i).drop from_ = c at *
        clear h3 h4
        have hz := strip_len 13 c
        have hT : Meets Tryz.prog E0 n_ref11_Trim [Str (toB (stripB 13 c))] [] (Str (toB (cfLine c))) [] := f_ref11_Trim (stripB 13 c) (by omega)
        rw [strip_eq] at hT
        generalize cfLine c = k at *
        have en := neE k
        rcases hcase with ⟨hl, hb⟩ | hlen
        case' inl =>
          have d1 : decide (i < t.length) = true := decide_eq_true hl
          have d2 : decide (UInt8.toNat 10 = 10) = true := rfl
          have hg : (toB t)[i]? = some 10 := by rw [getT]; exact hb
          simp only [go_sem, d0, toB_size, d1, hg, d2, ei, c1, c2, hex]
          clear hg d1 d2 hb hl
        case' inr =>
          have d1 : decide (i < t.length) = false := decide_eq_false (by omega)
          simp only [go_sem, d0, toB_size, d1, ei, c1, c2, hex]
          clear hlen d1
        all_goals
          by_cases hc0 : c = []
          · have d3 : decide ((0 : Int) < (c.length : Int)) = false := decide_eq_false (by rw [hc0]; simp)
            have hl13 : lastB 13 c = false := by rw [hc0]; rfl
            rw [hl13, if_neg (by decide)] at hT
            clear hc0 hl13
            simp only [go_sem, d3]
            refine Cl_plain hT ?_
            cases k with
            | nil =>
              simp only [go_sem, en, List.isEmpty_nil, ei]
              exact rd_of (i + 1, i + 1, out) (by simp only; omega) (hgo out (by rw [keep_nil]; simp)) (sR_CfLines2 [(999, 999)] [])
            | cons b0 k =>
              have hg0 : (toB (b0 :: k))[0]? = some b0 := by rw [getT]; rfl
              have hk : cfKeep (b0 :: k) = (!(b0 == 35) && !(b0 == 59)) := rfl
              have n35 : decide (b0.toNat = 35) = (b0 == 35) := eqN b0 35
              have n59 : decide (b0.toNat = 59) = (b0 == 59) := eqN b0 59
              cases h35 : (b0 == 35)
              · cases h59 : (b0 == 59)
                · rw [h35] at n35
                  rw [h59] at n59
                  have hgo' := hgo (out ++ [b0 :: k]) (by rw [hk, h35, h59]; rfl)
                  have b4 : (out.length + 1) * 16 ≤ 2 ^ 47 := by omega
                  have b5 : out.length + 1 < 2 ^ 47 := by omega
                  have em : (out.map fun x => rowS (toB x)) ++ [[.v (.string (toB (b0 :: k)))]] = (out ++ [b0 :: k]).map fun x => rowS (toB x) := by simp [rowS]
                  have hlen : (out.map fun x => rowS (toB x)).length = out.length := by simp
                  simp only [go_sem, en, List.isEmpty_cons, hg0, n35, n59, b4, b5, em, hlen, ei]
                  refine rd_of (i + 1, i + 1, out ++ [b0 :: k]) (by simp only; omega) hgo' ?_
                  simp only [List.length_append, List.length_cons, List.length_nil, Nat.zero_add, show (out ++ [b0 :: k]).isEmpty = false from by simp, Bool.not_false]
                  exact (sR_CfLines2 [(999, 161)] [])
                · rw [h35] at n35
                  rw [h59] at n59
                  simp only [go_sem, en, List.isEmpty_cons, hg0, n35, n59, ei]
                  exact rd_of (i + 1, i + 1, out) (by simp only; omega) (hgo out (by rw [hk, h35, h59]; simp)) (sR_CfLines2 [(999, 999)] [])
              · rw [h35] at n35
                simp only [go_sem, en, List.isEmpty_cons, hg0, n35, ei]
                exact rd_of (i + 1, i + 1, out) (by simp only; omega) (hgo out (by rw [hk, h35]; simp)) (sR_CfLines2 [(999, 999)] [])
          · obtain ⟨c0, b, hcb⟩ := snoc_of hc0
            have hcl0 : c.length = c0.length + 1 := by rw [hcb]; simp
            have d3 : decide ((0 : Int) < (c.length : Int)) = true := decide_eq_true (by omega)
            have w : IntKind.i64.wrap ((c.length : Int) - 1) = (c0.length : Int) := by rw [wrap_i64_of (by omega) (by omega)]; omega
            have hgb : (toB c)[c0.length]? = some b := by rw [getT, hcb]; simp
            have hl13 : lastB 13 c = (b == 13) := by rw [hcb, last_snoc]
            have n13 : decide (b.toNat = 13) = (b == 13) := eqN b 13
            have exc : (toB c).extract 0 c0.length = toB c0 := by rw [extT, hcb, List.take_left]; rfl
            have c3 : ((c0.length : Int) ≤ (c.length : Int)) = True := eq_true (by omega)
            have hdl : c.dropLast = c0 := by rw [hcb, List.dropLast_concat]
            rw [hl13] at hT
            cases hb13 : (b == 13)
            · rw [hb13] at n13 hT
              rw [if_neg (by decide)] at hT
              clear hcb hdl hl13 hb13
              simp only [go_sem, d3, w, hgb, n13, toB_size]
              refine Cl_plain hT ?_
              cases k with
              | nil =>
                simp only [go_sem, en, List.isEmpty_nil, ei]
                exact rd_of (i + 1, i + 1, out) (by simp only; omega) (hgo out (by rw [keep_nil]; simp)) (sR_CfLines2 [(999, 999)] [])
              | cons b0 k =>
                have hg0 : (toB (b0 :: k))[0]? = some b0 := by rw [getT]; rfl
                have hk : cfKeep (b0 :: k) = (!(b0 == 35) && !(b0 == 59)) := rfl
                have n35 : decide (b0.toNat = 35) = (b0 == 35) := eqN b0 35
                have n59 : decide (b0.toNat = 59) = (b0 == 59) := eqN b0 59
                cases h35 : (b0 == 35)
                · cases h59 : (b0 == 59)
                  · rw [h35] at n35
                    rw [h59] at n59
                    have hgo' := hgo (out ++ [b0 :: k]) (by rw [hk, h35, h59]; rfl)
                    have b4 : (out.length + 1) * 16 ≤ 2 ^ 47 := by omega
                    have b5 : out.length + 1 < 2 ^ 47 := by omega
                    have em : (out.map fun x => rowS (toB x)) ++ [[.v (.string (toB (b0 :: k)))]] = (out ++ [b0 :: k]).map fun x => rowS (toB x) := by simp [rowS]
                    have hlen : (out.map fun x => rowS (toB x)).length = out.length := by simp
                    simp only [go_sem, en, List.isEmpty_cons, hg0, n35, n59, b4, b5, em, hlen, ei]
                    refine rd_of (i + 1, i + 1, out ++ [b0 :: k]) (by simp only; omega) hgo' ?_
                    simp only [List.length_append, List.length_cons, List.length_nil, Nat.zero_add, show (out ++ [b0 :: k]).isEmpty = false from by simp, Bool.not_false]
                    exact (sR_CfLines2 [(999, 161)] [])
                  · rw [h35] at n35
                    rw [h59] at n59
                    simp only [go_sem, en, List.isEmpty_cons, hg0, n35, n59, ei]
                    exact rd_of (i + 1, i + 1, out) (by simp only; omega) (hgo out (by rw [hk, h35, h59]; simp)) (sR_CfLines2 [(999, 999)] [])
                · rw [h35] at n35
                  simp only [go_sem, en, List.isEmpty_cons, hg0, n35, ei]
                  exact rd_of (i + 1, i + 1, out) (by simp only; omega) (hgo out (by rw [hk, h35]; simp)) (sR_CfLines2 [(999, 999)] [])
            · rw [hb13] at n13 hT
              rw [if_pos rfl, hdl] at hT
              clear hcb hdl hl13 hb13
              simp only [go_sem, d3, w, hgb, n13, toB_size, exc, c3]
              refine Cl_plain hT ?_
              cases k with
              | nil =>
                simp only [go_sem, en, List.isEmpty_nil, ei]
                exact rd_of (i + 1, i + 1, out) (by simp only; omega) (hgo out (by rw [keep_nil]; simp)) (sR_CfLines2 [(999, 999)] [])
              | cons b0 k =>
                have hg0 : (toB (b0 :: k))[0]? = some b0 := by rw [getT]; rfl
                have hk : cfKeep (b0 :: k) = (!(b0 == 35) && !(b0 == 59)) := rfl
                have n35 : decide (b0.toNat = 35) = (b0 == 35) := eqN b0 35
                have n59 : decide (b0.toNat = 59) = (b0 == 59) := eqN b0 59
                cases h35 : (b0 == 35)
                · cases h59 : (b0 == 59)
                  · rw [h35] at n35
                    rw [h59] at n59
                    have hgo' := hgo (out ++ [b0 :: k]) (by rw [hk, h35, h59]; rfl)
                    have b4 : (out.length + 1) * 16 ≤ 2 ^ 47 := by omega
                    have b5 : out.length + 1 < 2 ^ 47 := by omega
                    have em : (out.map fun x => rowS (toB x)) ++ [[.v (.string (toB (b0 :: k)))]] = (out ++ [b0 :: k]).map fun x => rowS (toB x) := by simp [rowS]
                    have hlen : (out.map fun x => rowS (toB x)).length = out.length := by simp
                    simp only [go_sem, en, List.isEmpty_cons, hg0, n35, n59, b4, b5, em, hlen, ei]
                    refine rd_of (i + 1, i + 1, out ++ [b0 :: k]) (by simp only; omega) hgo' ?_
                    simp only [List.length_append, List.length_cons, List.length_nil, Nat.zero_add, show (out ++ [b0 :: k]).isEmpty = false from by simp, Bool.not_false]
                    exact (sR_CfLines2 [(999, 161)] [])
                  · rw [h35] at n35
                    rw [h59] at n59
                    simp only [go_sem, en, List.isEmpty_cons, hg0, n35, n59, ei]
                    exact rd_of (i + 1, i + 1, out) (by simp only; omega) (hgo out (by rw [hk, h35, h59]; simp)) (sR_CfLines2 [(999, 999)] [])
                · rw [h35] at n35
                  simp only [go_sem, en, List.isEmpty_cons, hg0, n35, ei]
                  exact rd_of (i + 1, i + 1, out) (by simp only; omega) (hgo out (by rw [hk, h35]; simp)) (sR_CfLines2 [(999, 999)] [])
    · have hil : i = t.length + 1 := by omega
      have d0 : decide (i ≤ t.length) = false := decide_eq_false hle
      rw [← h4 hil]
      simp only [go_sem, toB_size, d0]
      unfold linesV
      cases out with
      | nil =>
        refine wS [] ?_
        simp only [go_sem, r_ref11_Lines, exists_eq_left', Option.some.injEq]
        simp [wkV, wkL, slTrees, AV.asOwn, rowPart, stoOf, AV.isNil, shA, rowsT, cellsT, cellT]
      | cons a L =>
        refine wS [999] ?_
        simp only [go_sem, r_ref11_Lines, exists_eq_left', Option.some.injEq]
        simp [wkV, wkL, slTrees, AV.asOwn, rowPart, stoOf, AV.isNil, shA, rowsT, cellsT, cellT, List.take_of_length_le]

end Go.Proofs.YtaeleljlpcjcdaaGreatDoor
namespace Go.Proofs.YtaeleljlpcjcdaaGreatDoor
open Go Go.Sx

theorem sR_CfParse {io : List Nat} {env : List (Nat × AV)} {sto : List (Nat × Ob)} {env' : List (Nat × AV)} {sto' : List (Nat × Ob)} (rn : List (Nat × Nat)) (sn : List Nat)
    (h1 : envS sto sn rn env sto' env' := by simp [envS, go_sem, wkV, wkL, AV.ids, idsL, keysOf, ren, stoOf, slTrees, AV.asOwn, rowPart, AV.isNil, shA, rowsT, cellsT, cellT, wkLL, rowS, linesV, pairT, secT, secsV, List.take_of_length_le] <;> assumption)
    (h2 : stoS sto sn rn sto' sto' := by simp [stoS, go_sem, wkV, wkL, wkO, AV.ids, Ob.ids, idsL, keysOf, ren, AV.one, stoOf, slTrees, AV.asOwn, rowPart, AV.isNil, shA, rowsT, cellsT, cellT, wkLL, rowS, linesV, pairT, secT, secsV, List.take_of_length_le] <;> assumption)
    (h3 : ((keysOf sto').map (ren rn)).Nodup := by simp [keysOf, ren]) (h4 : ∀ i ∈ sn, 100 ≤ i ∧ isRow (stoOf sto i) = true ∧ ∀ j ∈ keysOf sto', ren rn j ≠ i := by simp [stoOf, keysOf, ren])
    (h5 : ∀ i ∈ io, ren rn i = i := by simp [keysOf, ren]) (h6 : ∀ i ∈ keysOf sto', ren rn i ∈ io → i = ren rn i := by simp [keysOf, ren]) :
    Sub io ⟨envOf env, stoOf sto⟩ ⟨envOf env', stoOf sto'⟩ := subL rn sn h1 h2 h3 h4 h5 h6

/-- The slice of sections, its row, and the row of the last one's keys. -/
def stV : CfSt → AV
  | none => .own 999 2 0 0 false
  | some (d, _, _) => .own 999 2 0 (d.length + 1) true

def stA : CfSt → Ob
  | none => .row 2 false []
  | some (d, n, ks) => .rowA 2 ((d.map secT).map (List.map AV.t) ++ [[Str (toB n), .own 998 2 0 ks.length (!ks.isEmpty)]])

def stB : CfSt → Ob
  | none => .row 2 false []
  | some (_, _, ks) => .row 2 (!ks.isEmpty) (ks.map pairT)

def stLen (st : CfSt) : Nat := match st with
  | none => 0
  | some (d, _, ks) => d.length + 1 + ks.length

@[simp] theorem wkLL_pre {β : Type} {so : Nat → Option Ob} {sn : List Nat} {π : Nat → Nat} (f : β → List T) (xs ys : List (List AV)) : ∀ l : List β, wkLL so sn π (l.map (List.map AV.t ∘ f) ++ xs) (l.map (List.map AV.t ∘ f) ++ ys) = wkLL so sn π xs ys
  | [] => rfl
  | b :: l => by
    simp only [List.map_cons, List.cons_append, wkLL, wkLL_pre f xs ys l, Function.comp, wkL_t, true_and]

@[simp] theorem wkLL_tc {β : Type} {so : Nat → Option Ob} {sn : List Nat} {π : Nat → Nat} (f : β → List T) : ∀ l : List β, wkLL so sn π (l.map (List.map AV.t ∘ f)) (l.map (List.map AV.t ∘ f)) = True
  | [] => by simp [wkLL]
  | b :: l => by simp only [List.map_cons, wkLL, wkLL_tc f l, Function.comp, wkL_t, true_and]

@[simp] theorem rowsT_pre {β : Type} {so : Nat → Option Ob} {sn : List Nat} (f : β → List T) (xs : List (List AV)) : ∀ l : List β, rowsT so sn (l.map (List.map AV.t ∘ f) ++ xs) = (rowsT so sn xs).map fun r => l.map f ++ r
  | [] => by simp
  | b :: l => by
    simp only [List.map_cons, List.cons_append, rowsT, rowsT_pre f xs l, Function.comp, cellsT_t]
    cases rowsT so sn xs <;> rfl

theorem idsL_app : ∀ xs ys : List AV, idsL (xs ++ ys) = idsL xs ++ idsL ys
  | [], ys => rfl
  | x :: xs, ys => by simp only [List.cons_append, idsL, idsL_app xs ys, List.append_assoc]

@[simp] theorem idsL_pre {β : Type} (f : β → List T) (xs : List AV) : ∀ l : List β, idsL ((l.map (List.map AV.t ∘ f)).flatten ++ xs) = idsL xs
  | [] => by simp
  | b :: l => by
    have ih := idsL_pre f xs l
    simp only [List.map_cons, List.flatten_cons, List.append_assoc, Function.comp]
    rw [idsL_app, idsL_map_t, List.nil_append]
    exact ih

theorem cfStep_eq (st : CfSt) (l : List UInt8) : cfStep st l = (if cfSecB l then
    (if cfHas (cfAll st) (cfSecN l) then .error 5 else if (cfAll st).length = 16 then .error 11 else .ok (some (cfAll st, cfSecN l, [])))
  else match st with
    | none => .error 7
    | some (d, n, ks) => if (cfPair l).2 = false then .error 7 else if (cfGet ks (cfPair l).1.1).isSome then .error 5 else if ks.length = 16 then .error 11 else .ok (some (d, n, ks ++ [(cfPair l).1]))) := rfl

theorem goS_none (ls : List (List UInt8)) (e : Int) (l : List UInt8) (st : CfSt) (h : cfStep st l = .error e) : cfGo (l :: ls) st = .error e := by
  simp only [cfGo, h]

theorem goS_some (ls : List (List UInt8)) (l : List UInt8) (st st' : CfSt) (h : cfStep st l = .ok st') : cfGo (l :: ls) st = cfGo ls st' := by
  simp only [cfGo, h]

theorem f_config_Parse (t : List UInt8) (ht : t.length ≤ 1000000000) : Meets Tryz.prog E0 n_config_Parse [Str (toB t)] [] (.tp [secsV (cfParse t).1, I (cfParse t).2]) [] := by
  refine st0 m_config_Parse ?_
  have hp : cfParse t = if 4096 < t.length then ([], 12) else match cfGo (cfLines t) none with
    | .error e => ([], e)
    | .ok st => (cfAll st, 0) := rfl
  by_cases hlong : 4096 < t.length
  · have d0 : decide ((4096 : Int) < (t.length : Int)) = true := decide_eq_true (by omega)
    rw [if_pos hlong] at hp
    rw [hp]
    unfold secsV
    simp only [go_sem, s_config_Parse, toB_size, d0]
    refine wS [] ?_
    simp only [go_sem, r_config_Parse, exists_eq_left', Option.some.injEq]
    simp [wkV, wkL, slTrees, AV.asOwn, rowPart, stoOf, AV.isNil, shA, rowsT, cellsT, cellT]
  · have d0 : decide ((4096 : Int) < (t.length : Int)) = false := decide_eq_false (by omega)
    rw [if_neg hlong] at hp
    have hL := f_config_Lines t (by omega)
    have hll := lines_len t
    have hlv : linesV (cfLines t) = .t (.sl 1 ((cfLines t).map fun x => rowS (toB x))) := rfl
    rw [hlv] at hL
    generalize cfLines t = ls at *
    have hlen : (ls.map fun x => rowS (toB x)).length = ls.length := by simp
    simp only [go_sem, s_config_Parse, toB_size, d0]
    refine Cl_plain hL ?_
    simp only [go_sem, hlen]
    refine W_loop (fun i : Nat × CfSt => ls.length - i.1) (fun i => i.1 ≤ ls.length ∧ stLen i.2 ≤ i.1 ∧ cfGo (ls.drop i.1) i.2 = cfGo ls none)
      (fun i => [(4, stV i.2), (18, .t (.sl 1 (ls.map fun x => rowS (toB x)))), (19, I ls.length), (20, I i.1)]) (fun i => [(999, stA i.2), (998, stB i.2)]) (0, none) ⟨Nat.zero_le _, Nat.le_refl _, by simp⟩ ?_ ?_
    · simp only [stV, stA, stB]
      exact (sR_CfParse [(999, 888), (998, 887)] [])
    · rintro ⟨i, st⟩ ⟨hi, hsl, hgo⟩
      simp only at hi hsl hgo
      by_cases hil : i < ls.length
      · have d1 : decide (i < ls.length) = true := decide_eq_true hil
        obtain ⟨l, hl⟩ := get_of_lt hil
        have hg : (ls.map fun x => rowS (toB x))[i]? = some (rowS (toB l)) := by rw [List.getElem?_map, hl]; rfl
        have hl0 := hll.2 l (List.mem_of_getElem? hl)
        have ei : IntKind.i64.wrap ((i : Int) + 1) = ((i + 1 : Nat) : Int) := by rw [wrap_i64_of (by omega) (by omega)]; omega
        have hsec := f_config_section l (by omega)
        have hpair := f_config_pair l (by omega)
        rw [drop_get hl] at hgo
        have herr : ∀ e, cfStep st l = .error e → cfParse t = ([], e) := fun e h => by rw [hp, ← hgo, goS_none _ e _ _ h]
        have hok : ∀ st', cfStep st l = .ok st' → cfGo (ls.drop (i + 1)) st' = cfGo ls none := fun st' h => by rw [← hgo, goS_some _ _ _ _ h]
        have hstep := cfStep_eq st l
        simp only [go_sem, d1, hg, rowS_get]
        refine Cl_plain hsec ?_
        cases hsb : cfSecB l
        · rw [hsb, if_neg (by decide)] at hstep
          simp only [go_sem]
          refine Cl_plain hpair ?_
          generalize cfPair l = p at *
          obtain ⟨⟨pk, pv⟩, pb⟩ := p
          simp only at hstep hpair ⊢
          cases st with
          | none =>
            have he := herr 7 hstep
            rw [he]
            unfold secsV
            simp only [stV, stA, stB]
            cases pb
            · simp only [go_sem]
              refine wS [] ?_
              simp only [go_sem, r_config_Parse, exists_eq_left', Option.some.injEq]
              simp [wkV, wkL, slTrees, AV.asOwn, rowPart, stoOf, AV.isNil, shA, rowsT, cellsT, cellT]
            · have d2 : decide (((0 : Nat) : Int) = 0) = true := rfl
              simp only [go_sem, d2]
              refine wS [] ?_
              simp only [go_sem, r_config_Parse, exists_eq_left', Option.some.injEq]
              simp [wkV, wkL, slTrees, AV.asOwn, rowPart, stoOf, AV.isNil, shA, rowsT, cellsT, cellT]
          | some q =>
            obtain ⟨d, n, ks⟩ := q
            simp only [stLen] at hsl hstep
            cases pb
            · have he := herr 7 hstep
              rw [he]
              unfold secsV
              simp only [stV, stA, stB]
              simp only [go_sem]
              refine wS [] ?_
              simp only [go_sem, r_config_Parse, exists_eq_left', Option.some.injEq]
              simp [wkV, wkL, slTrees, AV.asOwn, rowPart, stoOf, AV.isNil, shA, rowsT, cellsT, cellT]
            · simp only [stV, stA, stB]
              rw [if_neg (by decide)] at hstep
              have hG := f_config_Get n ks pk (by omega)
              have d2 : decide (((d.length + 1 : Nat) : Int) = 0) = false := decide_eq_false (by omega)
              have w1 : IntKind.i64.wrap (((d.length + 1 : Nat) : Int) - 1) = (d.length : Int) := by rw [wrap_i64_of (by omega) (by omega)]; omega
              have c1 : ((d.length : Int) < ((d.length + 1 : Nat) : Int)) = True := eq_true (by omega)
              have hE : ∀ x : List AV, ((d.map secT).map (List.map AV.t) ++ [x])[d.length]? = some x := by intro x; simp
              have hS : ∀ x y : List AV, ((d.map secT).map (List.map AV.t) ++ [x]).set d.length y = (d.map secT).map (List.map AV.t) ++ [y] := by intro x y; simp
              cases ks with
              | nil =>
                have hst := hok (some (d, n, [(pk, pv)])) hstep
                simp only [go_sem, d2, w1, c1, hE]
                refine Cl_keep [] hG ?_ (by simp) rfl ?_
                · exact .ag (.one (Wk.refl _) (.one (Wk.gone (by simp [slTrees, AV.asOwn, rowPart, stoOf]) (by simp [stoOf]; rfl)) .nil)) (.one (Wk.refl _) .nil)
                have g0 : (cfGet [] pk).isSome = false := rfl
                have d3 : decide (((0 : Nat) : Int) = 16) = false := rfl
                have b0 : ((32 : Nat) ≤ 2 ^ 47) = True := eq_true (by decide)
                ((try (with_reducible refine rF ?_)); (try simp only [go_sem, g0]))
                simp only [go_sem, hE, d3, b0, hS]
                ((try (with_reducible refine rF ?_)); (try simp only [go_sem, hE, d3, b0, hS, ei]))
                refine rd_of (i + 1, some (d, n, [(pk, pv)])) (by first | omega | (simp only; omega)) ⟨hil, by simp only [stLen]; simp; simp at hsl; omega, hst⟩ ?_
                simp only [stV, stA, stB]
                exact (sR_CfParse [(999, 999), (998, 196)] [])
              | cons k0 ks =>
                have hcl : (k0 :: ks).length = ks.length + 1 := rfl
                have g0 : (cfGet (k0 :: ks) pk).isSome = (cfGet (k0 :: ks) pk).isSome := rfl
                generalize hgv : cfGet (k0 :: ks) pk = gv at *
                simp only [go_sem, d2, w1, c1, hE]
                refine Cl_keep [998] hG ?_ (by simp [stoOf]) rfl ?_
                · exact .ag (.one (Wk.refl _) (.one (Wk.row (by simp [slTrees, AV.asOwn, rowPart, stoOf, List.take_of_length_le]) (by simp)) .nil)) (.one (Wk.refl _) .nil)
                cases gv with
                | some v =>
                  have he := herr 5 (by rw [hstep]; rfl)
                  rw [he]
                  unfold secsV
                  ((try (with_reducible refine rF ?_)); (try simp only [go_sem, Option.isSome_some]))
                  refine wS [] ?_
                  simp only [go_sem, r_config_Parse, exists_eq_left', Option.some.injEq]
                  simp [wkV, wkL, slTrees, AV.asOwn, rowPart, stoOf, AV.isNil, shA, rowsT, cellsT, cellT]
                | none =>
                  rw [if_neg (by decide)] at hstep
                  by_cases h16 : (k0 :: ks).length = 16
                  · have he := herr 11 (by rw [hstep, if_pos h16])
                    rw [he]
                    unfold secsV
                    have d3 : decide (((ks.length + 1 : Nat) : Int) = 16) = true := decide_eq_true (by rw [hcl] at h16; omega)
                    ((try (with_reducible refine rF ?_)); (try simp only [go_sem, Option.isSome_none]))
                    simp only [go_sem, hE, d3]
                    refine wS [] ?_
                    simp only [go_sem, r_config_Parse, exists_eq_left', Option.some.injEq]
                    simp [wkV, wkL, slTrees, AV.asOwn, rowPart, stoOf, AV.isNil, shA, rowsT, cellsT, cellT]
                  · rw [if_neg h16] at hstep
                    have hst := hok _ hstep
                    have d3 : decide (((ks.length + 1 : Nat) : Int) = 16) = false := decide_eq_false (by rw [hcl] at h16; omega)
                    rw [hcl] at hsl
                    have b4 : ((ks.length + 1 + 1) * 32 ≤ 2 ^ 47) = True := eq_true (by omega)
                    have b5 : (ks.length + 1 + 1 < 2 ^ 47) = True := eq_true (by omega)
                    have em : (k0 :: ks).map pairT ++ [[.v (.string (toB pk)), .v (.string (toB pv))]] = ((k0 :: ks) ++ [(pk, pv)]).map pairT := by simp [pairT]
                    have hlm : ((k0 :: ks).map pairT).length = ks.length + 1 := by simp
                    ((try (with_reducible refine rF ?_)); (try simp only [go_sem, Option.isSome_none]))
                    simp only [go_sem, hE, d3, b4, b5, hS]
                    ((try (with_reducible refine rF ?_)); (try simp only [go_sem, hE, d3, b4, b5, hS, ei]))
                    refine rd_of (i + 1, some (d, n, k0 :: ks ++ [(pk, pv)])) (by first | omega | (simp only; omega)) ⟨hil, by simp only [stLen]; simp; omega, hst⟩ ?_
                    simp only [stV, stA, stB, List.length_append, List.length_cons, List.length_nil, Nat.zero_add, show (k0 :: ks ++ [(pk, pv)]).isEmpty = false from by simp, Bool.not_false]
                    exact (sR_CfParse [(999, 999), (998, 196)] [])
        · rw [hsb, if_pos rfl] at hstep
          have hal : (cfAll st).length ≤ i := by
            cases st with
            | none => simp [cfAll]
            | some q => obtain ⟨d, n, ks⟩ := q; simp only [stLen] at hsl; simp [cfAll]; omega
          have hH := f_config_has (cfAll st) (cfSecN l) (by omega)
          cases st with
          | none =>
            have hst := hok _ hstep
            have hH : Meets Tryz.prog E0 n_config_has [.t (.sl 2 []), Str (toB (cfSecN l))] [] (Bo false) [] := hH
            have d3 : decide (((0 : Nat) : Int) = 16) = false := rfl
            simp only [stV, stA, stB]
            simp only [go_sem]
            refine Cl_keep [] hH ?_ (by simp) rfl ?_
            · exact .one (Wk.gone (by simp [slTrees, AV.asOwn, rowPart, stoOf]) (by simp [stoOf]; rfl)) (.one (Wk.refl _) .nil)
            have b0 : ((40 : Nat) ≤ 2 ^ 47) = True := eq_true (by decide)
            simp only [go_sem, d3, b0, ei]
            refine rd_of (i + 1, some ([], cfSecN l, [])) (by first | omega | (simp only; omega)) ⟨hil, by simp only [stLen]; simp, hst⟩ ?_
            simp only [stV, stA, stB, List.length_nil, List.map_nil, List.nil_append, List.isEmpty_nil, Bool.not_true, Nat.zero_add]
            exact (sR_CfParse [(999, 140), (998, 886)] [])
          | some q =>
            obtain ⟨d, n, ks⟩ := q
            have hH : Meets Tryz.prog E0 n_config_has [.t (.sl 2 ((d ++ [(n, ks)]).map secT)), Str (toB (cfSecN l))] [] (Bo (cfHas (d ++ [(n, ks)]) (cfSecN l))) [] := hH
            have hstep : cfStep (some (d, n, ks)) l = if cfHas (d ++ [(n, ks)]) (cfSecN l) then .error 5 else if (d ++ [(n, ks)]).length = 16 then .error 11 else .ok (some (d ++ [(n, ks)], cfSecN l, [])) := hstep
            have hdl : (d ++ [(n, ks)]).length = d.length + 1 := by simp
            rw [hdl] at hstep
            simp only [stLen] at hsl
            simp only [stV, stA, stB]
            have b4 : (d.length + 1 + 1) * 40 ≤ 2 ^ 47 := by omega
            have b5 : d.length + 1 + 1 < 2 ^ 47 := by omega
            have hlm : ((d.map secT).map (List.map AV.t) ++ [[Str (toB n), .own 998 2 0 ks.length (!ks.isEmpty)]]).length = d.length + 1 := by simp
            cases ks with
            | nil =>
              simp only [go_sem]
              refine Cl_keep [999] hH ?_ (by simp [stoOf]) rfl ?_
              · exact .one (Wk.rowA (by simp) (by simp [shA, rowsT, cellsT, cellT, stoOf, secT])) (.one (Wk.refl _) .nil)
              cases hh : cfHas (d ++ [(n, [])]) (cfSecN l)
              · rw [hh, if_neg (by decide)] at hstep
                by_cases h16 : d.length + 1 = 16
                · have he := herr 11 (by rw [hstep, if_pos h16])
                  rw [he]
                  unfold secsV
                  have d3 : decide (((d.length + 1 : Nat) : Int) = 16) = true := decide_eq_true (by omega)
                  simp only [go_sem, d3]
                  refine wS [] ?_
                  simp only [go_sem, r_config_Parse, exists_eq_left', Option.some.injEq]
                  simp [wkV, wkL, slTrees, AV.asOwn, rowPart, stoOf, AV.isNil, shA, rowsT, cellsT, cellT]
                · have hst := hok _ (by rw [hstep, if_neg h16])
                  have d3 : decide (((d.length + 1 : Nat) : Int) = 16) = false := decide_eq_false (by omega)
                  simp only [go_sem, d3, b4, b5, ei]
                  refine rd_of (i + 1, some (d ++ [(n, [])], cfSecN l, [])) (by first | omega | (simp only; omega)) ⟨hil, by simp only [stLen]; simp; simp at hsl; omega, hst⟩ ?_
                  simp only [stV, stA, stB, List.length_append, List.length_cons, List.length_nil, Nat.zero_add, List.isEmpty_nil, Bool.not_true, List.map_nil]
                  exact (sR_CfParse [(999, 140), (998, 886)] [])
              · have he := herr 5 (by rw [hstep, hh]; rfl)
                rw [he]
                unfold secsV
                simp only [go_sem]
                refine wS [] ?_
                simp only [go_sem, r_config_Parse, exists_eq_left', Option.some.injEq]
                simp [wkV, wkL, slTrees, AV.asOwn, rowPart, stoOf, AV.isNil, shA, rowsT, cellsT, cellT]
            | cons k0 ks =>
              simp only [go_sem]
              refine Cl_keep [999, 998] hH ?_ (by simp [stoOf]) rfl ?_
              · exact .one (Wk.rowA (by simp) (by simp [shA, rowsT, cellsT, cellT, stoOf, secT, rowPart, List.take_of_length_le])) (.one (Wk.refl _) .nil)
              cases hh : cfHas (d ++ [(n, k0 :: ks)]) (cfSecN l)
              · rw [hh, if_neg (by decide)] at hstep
                by_cases h16 : d.length + 1 = 16
                · have he := herr 11 (by rw [hstep, if_pos h16])
                  rw [he]
                  unfold secsV
                  have d3 : decide (((d.length + 1 : Nat) : Int) = 16) = true := decide_eq_true (by omega)
                  simp only [go_sem, d3]
                  refine wS [] ?_
                  simp only [go_sem, r_config_Parse, exists_eq_left', Option.some.injEq]
                  simp [wkV, wkL, slTrees, AV.asOwn, rowPart, stoOf, AV.isNil, shA, rowsT, cellsT, cellT]
                · have hst := hok _ (by rw [hstep, if_neg h16])
                  have d3 : decide (((d.length + 1 : Nat) : Int) = 16) = false := decide_eq_false (by omega)
                  simp only [go_sem, d3, b4, b5, ei]
                  refine rd_of (i + 1, some (d ++ [(n, k0 :: ks)], cfSecN l, [])) (by first | omega | (simp only; omega)) ⟨hil, by simp only [stLen]; simp; simp at hsl; omega, hst⟩ ?_
                  simp only [stV, stA, stB, List.length_append, List.length_cons, List.length_nil, Nat.zero_add, List.isEmpty_nil, Bool.not_true, List.map_nil]
                  exact (sR_CfParse [(999, 140), (998, 886)] [998])
              · have he := herr 5 (by rw [hstep, hh]; rfl)
                rw [he]
                unfold secsV
                simp only [go_sem]
                refine wS [] ?_
                simp only [go_sem, r_config_Parse, exists_eq_left', Option.some.injEq]
                simp [wkV, wkL, slTrees, AV.asOwn, rowPart, stoOf, AV.isNil, shA, rowsT, cellsT, cellT]
      · obtain rfl : i = ls.length := by omega
        have d1 : decide (ls.length < ls.length) = false := decide_eq_false (by omega)
        rw [List.drop_length] at hgo
        have hgo' : cfGo ls none = .ok st := hgo.symm
        rw [hgo'] at hp
        simp only at hp
        rw [hp]
        unfold secsV
        cases st with
        | none =>
          simp only [stV, stA, stB, cfAll, List.map_nil]
          simp only [go_sem, d1]
          refine wS [] ?_
          simp only [go_sem, r_config_Parse, exists_eq_left', Option.some.injEq]
          simp [wkV, wkL, slTrees, AV.asOwn, rowPart, stoOf, AV.isNil, shA, rowsT, cellsT, cellT]
        | some q =>
          obtain ⟨d, n, ks⟩ := q
          simp only [stV, stA, stB, cfAll]
          cases ks with
          | nil =>
            simp only [go_sem, d1]
            refine wS [999] ?_
            simp only [go_sem, r_config_Parse, exists_eq_left', Option.some.injEq]
            simp [wkV, wkL, slTrees, AV.asOwn, rowPart, stoOf, AV.isNil, shA, rowsT, cellsT, cellT, secT, and_assoc]
          | cons k0 ks =>
            simp only [go_sem, d1]
            refine wS [999, 998] ?_
            simp only [go_sem, r_config_Parse, exists_eq_left', Option.some.injEq]
            simp [wkV, wkL, slTrees, AV.asOwn, rowPart, stoOf, AV.isNil, shA, rowsT, cellsT, cellT, secT, and_assoc, List.take_of_length_le]

end Go.Proofs.YtaeleljlpcjcdaaGreatDoor
namespace Go.Proofs.YtaeleljlpcjcdaaGreatDoor
open Go Go.Sx

theorem sR_RuRead {io : List Nat} {env : List (Nat × AV)} {sto : List (Nat × Ob)} {env' : List (Nat × AV)} {sto' : List (Nat × Ob)} (rn : List (Nat × Nat)) (sn : List Nat)
    (h1 : envS sto sn rn env sto' env' := by simp [envS, go_sem, wkV, wkL, AV.ids, idsL, keysOf, ren, stoOf, slTrees, AV.asOwn, rowPart, AV.isNil, shA, rowsT, cellsT, cellT, wkLL, pairT, secT, secsV, List.take_of_length_le] <;> assumption)
    (h2 : stoS sto sn rn sto' sto' := by simp [stoS, go_sem, wkV, wkL, wkO, AV.ids, Ob.ids, idsL, keysOf, ren, AV.one, stoOf, slTrees, AV.asOwn, rowPart, AV.isNil, shA, rowsT, cellsT, cellT, wkLL, pairT, secT, secsV, List.take_of_length_le] <;> assumption)
    (h3 : ((keysOf sto').map (ren rn)).Nodup := by simp [keysOf, ren]) (h4 : ∀ i ∈ sn, 100 ≤ i ∧ isRow (stoOf sto i) = true ∧ ∀ j ∈ keysOf sto', ren rn j ≠ i := by simp [stoOf, keysOf, ren])
    (h5 : ∀ i ∈ io, ren rn i = i := by simp [keysOf, ren]) (h6 : ∀ i ∈ keysOf sto', ren rn i ∈ io → i = ren rn i := by simp [keysOf, ren]) :
    Sub io ⟨envOf env, stoOf sto⟩ ⟨envOf env', stoOf sto'⟩ := subL rn sn h1 h2 h3 h4 h5 h6

theorem f_read_Store (t : List UInt8) (ht : t.length ≤ 1000000) : Meets Tryz.prog E0 n_rules_read_api_Store [Str (toB t), .fn n_rules_store [] []] [] (.tp [.t (.sl 3 (readM storeT storeE t).1), I (readM storeT storeE t).2]) [] := by
  refine st0 m_rules_read_api_Store ?_
  have hP := f_config_Parse t (by omega)
  have hs := parse_small t
  have hok := parse_ok t
  unfold readM
  simp only [go_sem, s_rules_read_api_Store]
  refine Cl_plain hP ?_
  generalize cfParse t = x at *
  obtain ⟨l, e⟩ := x
  simp only at hs hok ⊢
  by_cases he : e = 0
  · have d0 : decide (e = 0) = true := decide_eq_true he
    rw [if_pos he]
    have hlen : (l.map secT).length = l.length := by simp
    simp only [go_sem, d0, secsV, hlen]
    refine W_loop (fun i : Nat => l.length - i) (fun i => i ≤ l.length ∧ errAll storeE (l.take i) = 0)
      (fun i => [(1, .fn n_rules_store [] []), (8, .own 999 3 0 (l.take i).length (!(l.take i).isEmpty)), (21, .t (.sl 2 (l.map secT))), (22, I l.length), (23, I i)])
      (fun i => [(999, .row 3 (!(l.take i).isEmpty) ((l.take i).map storeT))]) 0 ⟨Nat.zero_le _, rfl⟩ ?_ ?_
    · simp only [List.take_zero, List.map_nil, List.length_nil, List.isEmpty_nil, Bool.not_true]
      exact (sR_RuRead [(999, 888)] [])
    · rintro i ⟨hi, hf⟩
      by_cases hil : i < l.length
      · have d1 : decide (i < l.length) = true := decide_eq_true hil
        obtain ⟨s, hs1⟩ := get_of_lt hil
        have hg : (l.map secT)[i]? = some [.v (.string (toB s.1)), .sl 2 (s.2.map pairT)] := by rw [List.getElem?_map, hs1]; rfl
        have ei : IntKind.i64.wrap ((i : Int) + 1) = ((i + 1 : Nat) : Int) := by rw [wrap_i64_of (by omega) (by omega)]; omega
        have hm := List.mem_of_getElem? hs1
        have hS := f_rules_store s.1 s.2 (by have := hs.2 s hm; omega) (by have := secOk_val (hok s hm) kRet; omega)
        have hT := errAll_take hf hs1
        have htk : (l.take (i + 1)) = l.take i ++ [s] := by rw [List.take_add_one, hs1]; rfl
        have hil2 : (l.take i).length = i := by rw [List.length_take]; omega
        generalize hE : storeE s.2 = E1 at *
        by_cases h1 : E1 = 0
        · have d2 : decide (E1 = 0) = true := decide_eq_true h1
          have hn := hT.1 h1
          rw [htk] at hn
          have b4 : (i + 1) * 56 ≤ 2 ^ 47 := by omega
          have b5 : i + 1 < 2 ^ 47 := by omega
          have em : (l.take i).map storeT ++ [[.v (.string (toB s.1)), .v (.string (toB ((cfGet s.2 kPat).getD []))), .sl 2 ((rungsM ((cfGet s.2 kRet).getD [])).1.map slT)]] = (l.take i ++ [s]).map storeT := by simp [storeT]
          have hml : ((l.take i).map storeT).length = i := by rw [List.length_map]; exact hil2
          simp only [go_sem, d1, hg, hlen]
          refine Cl_plain hS ?_
          simp only [go_sem, d2, hil2, b4, b5, em, hml, ei]
          refine rd_of (i + 1) (by first | omega | (simp only; omega)) ⟨hil, by rw [htk]; exact hn⟩ ?_
          simp only [htk, List.length_append, List.length_cons, List.length_nil, Nat.zero_add, hil2, show (l.take i ++ [s]).isEmpty = false from by simp, Bool.not_false]
          exact (sR_RuRead [(999, 140)] [])
        · have d2 : decide (E1 = 0) = false := decide_eq_false h1
          rw [hT.2 h1, if_neg h1]
          simp only [go_sem, d1, hg, hlen]
          refine Cl_plain hS ?_
          simp only [go_sem, d2]
          refine wS [] ?_
          simp only [go_sem, r_rules_read_api_Store, exists_eq_left', Option.some.injEq]
          simp [wkV, wkL, slTrees, AV.asOwn, rowPart, stoOf, AV.isNil, shA, rowsT, cellsT, cellT]
      · obtain rfl : i = l.length := by omega
        have d1 : decide (l.length < l.length) = false := decide_eq_false (by omega)
        rw [List.take_length] at hf
        rw [if_pos hf]
        simp only [List.take_length]
        simp only [go_sem, d1]
        cases l with
        | nil =>
          refine wS [] ?_
          simp only [go_sem, r_rules_read_api_Store, exists_eq_left', Option.some.injEq]
          simp [wkV, wkL, slTrees, AV.asOwn, rowPart, stoOf, AV.isNil, shA, rowsT, cellsT, cellT]
        | cons s l =>
          refine wS [999] ?_
          simp only [go_sem, r_rules_read_api_Store, exists_eq_left', Option.some.injEq]
          simp [wkV, wkL, slTrees, AV.asOwn, rowPart, stoOf, AV.isNil, shA, rowsT, cellsT, cellT, List.take_of_length_le]
  · have d0 : decide (e = 0) = false := decide_eq_false he
    rw [if_neg he]
    simp only [go_sem, d0]
    refine wS [] ?_
    simp only [go_sem, r_rules_read_api_Store, exists_eq_left', Option.some.injEq]
    simp [wkV, wkL, slTrees, AV.asOwn, rowPart, stoOf, AV.isNil, shA, rowsT, cellsT, cellT]

theorem f_read_Fold (t : List UInt8) (ht : t.length ≤ 1000000) : Meets Tryz.prog E0 n_rules_read_api_Fold [Str (toB t), .fn n_rules_fold [] []] [] (.tp [.t (.sl 4 (readM foldT foldE t).1), I (readM foldT foldE t).2]) [] := by
  refine st0 m_rules_read_api_Fold ?_
  have hP := f_config_Parse t (by omega)
  have hs := parse_small t
  have hok := parse_ok t
  unfold readM
  simp only [go_sem, s_rules_read_api_Fold]
  refine Cl_plain hP ?_
  generalize cfParse t = x at *
  obtain ⟨l, e⟩ := x
  simp only at hs hok ⊢
  by_cases he : e = 0
  · have d0 : decide (e = 0) = true := decide_eq_true he
    rw [if_pos he]
    have hlen : (l.map secT).length = l.length := by simp
    simp only [go_sem, d0, secsV, hlen]
    refine W_loop (fun i : Nat => l.length - i) (fun i => i ≤ l.length ∧ errAll foldE (l.take i) = 0)
      (fun i => [(1, .fn n_rules_fold [] []), (8, .own 999 4 0 (l.take i).length (!(l.take i).isEmpty)), (21, .t (.sl 2 (l.map secT))), (22, I l.length), (23, I i)])
      (fun i => [(999, .row 4 (!(l.take i).isEmpty) ((l.take i).map foldT))]) 0 ⟨Nat.zero_le _, rfl⟩ ?_ ?_
    · simp only [List.take_zero, List.map_nil, List.length_nil, List.isEmpty_nil, Bool.not_true]
      exact (sR_RuRead [(999, 888)] [])
    · rintro i ⟨hi, hf⟩
      by_cases hil : i < l.length
      · have d1 : decide (i < l.length) = true := decide_eq_true hil
        obtain ⟨s, hs1⟩ := get_of_lt hil
        have hg : (l.map secT)[i]? = some [.v (.string (toB s.1)), .sl 2 (s.2.map pairT)] := by rw [List.getElem?_map, hs1]; rfl
        have ei : IntKind.i64.wrap ((i : Int) + 1) = ((i + 1 : Nat) : Int) := by rw [wrap_i64_of (by omega) (by omega)]; omega
        have hm := List.mem_of_getElem? hs1
        have hS := f_rules_fold s.1 s.2 (by have := hs.2 s hm; omega) (by have := secOk_val (hok s hm) kFac; omega)
        have hT := errAll_take hf hs1
        have htk : (l.take (i + 1)) = l.take i ++ [s] := by rw [List.take_add_one, hs1]; rfl
        have hil2 : (l.take i).length = i := by rw [List.length_take]; omega
        generalize hE : foldE s.2 = E1 at *
        by_cases h1 : E1 = 0
        · have d2 : decide (E1 = 0) = true := decide_eq_true h1
          have hn := hT.1 h1
          rw [htk] at hn
          have b4 : (i + 1) * 48 ≤ 2 ^ 47 := by omega
          have b5 : i + 1 < 2 ^ 47 := by omega
          have em : (l.take i).map foldT ++ [[.v (.string (toB s.1)), .v (.string (toB ((cfGet s.2 kPat).getD []))), .v (.int .i64 (facM (cfGet s.2 kFac)).1), .v (.int .i64 (metM (cfGet s.2 kMet)).1)]] = (l.take i ++ [s]).map foldT := by simp [foldT]
          have hml : ((l.take i).map foldT).length = i := by rw [List.length_map]; exact hil2
          simp only [go_sem, d1, hg, hlen]
          refine Cl_plain hS ?_
          simp only [go_sem, d2, hil2, b4, b5, em, hml, ei]
          refine rd_of (i + 1) (by first | omega | (simp only; omega)) ⟨hil, by rw [htk]; exact hn⟩ ?_
          simp only [htk, List.length_append, List.length_cons, List.length_nil, Nat.zero_add, hil2, show (l.take i ++ [s]).isEmpty = false from by simp, Bool.not_false]
          exact (sR_RuRead [(999, 140)] [])
        · have d2 : decide (E1 = 0) = false := decide_eq_false h1
          rw [hT.2 h1, if_neg h1]
          simp only [go_sem, d1, hg, hlen]
          refine Cl_plain hS ?_
          simp only [go_sem, d2]
          refine wS [] ?_
          simp only [go_sem, r_rules_read_api_Fold, exists_eq_left', Option.some.injEq]
          simp [wkV, wkL, slTrees, AV.asOwn, rowPart, stoOf, AV.isNil, shA, rowsT, cellsT, cellT]
      · obtain rfl : i = l.length := by omega
        have d1 : decide (l.length < l.length) = false := decide_eq_false (by omega)
        rw [List.take_length] at hf
        rw [if_pos hf]
        simp only [List.take_length]
        simp only [go_sem, d1]
        cases l with
        | nil =>
          refine wS [] ?_
          simp only [go_sem, r_rules_read_api_Fold, exists_eq_left', Option.some.injEq]
          simp [wkV, wkL, slTrees, AV.asOwn, rowPart, stoOf, AV.isNil, shA, rowsT, cellsT, cellT]
        | cons s l =>
          refine wS [999] ?_
          simp only [go_sem, r_rules_read_api_Fold, exists_eq_left', Option.some.injEq]
          simp [wkV, wkL, slTrees, AV.asOwn, rowPart, stoOf, AV.isNil, shA, rowsT, cellsT, cellT, List.take_of_length_le]
  · have d0 : decide (e = 0) = false := decide_eq_false he
    rw [if_neg he]
    simp only [go_sem, d0]
    refine wS [] ?_
    simp only [go_sem, r_rules_read_api_Fold, exists_eq_left', Option.some.injEq]
    simp [wkV, wkL, slTrees, AV.asOwn, rowPart, stoOf, AV.isNil, shA, rowsT, cellsT, cellT]

theorem f_rules_Stores (t : List UInt8) (ht : t.length ≤ 1000000) : Meets Tryz.prog E0 n_rules_Stores [Str (toB t)] [] (.tp [.t (.sl 3 (readM storeT storeE t).1), I (readM storeT storeE t).2]) [] := by
  refine st0 m_rules_Stores ?_
  simp only [go_sem, s_rules_Stores]
  refine Cl_plain (f_read_Store t ht) ?_
  simp only [go_sem]
  refine wE ?_
  simp only [go_sem, r_rules_Stores]

theorem f_rules_Folds (t : List UInt8) (ht : t.length ≤ 1000000) : Meets Tryz.prog E0 n_rules_Folds [Str (toB t)] [] (.tp [.t (.sl 4 (readM foldT foldE t).1), I (readM foldT foldE t).2]) [] := by
  refine st0 m_rules_Folds ?_
  simp only [go_sem, s_rules_Folds]
  refine Cl_plain (f_read_Fold t ht) ?_
  simp only [go_sem]
  refine wE ?_
  simp only [go_sem, r_rules_Folds]

end Go.Proofs.YtaeleljlpcjcdaaGreatDoor
namespace Go.Proofs.YtaeleljlpcjcdaaGreatDoor
open Go Go.Sx

theorem f_ref08_SameRungs (l : List Rung) (hn : l.length ≤ maxLen) : Meets Tryz.prog E0 n_ref08_SameRungs [slL l, slL l] [] (Bo true) [] := by
  refine st0 m_ref08_SameRungs ?_
  have hn2 : l.length ≤ 9223372036854775807 := hn
  have d1 : decide (l.length = l.length) = true := decide_eq_true rfl
  simp only [go_sem, s_ref08_SameRungs, d1]
  refine W_loop (fun i : Nat => l.length - i) (fun i => i ≤ l.length)
    (fun i => [(0, slL l), (1, slL l), (5, I i)]) (fun _ => []) 0 (Nat.zero_le _) sR0 ?_
  intro i hi
  simp only [go_sem]
  refine W_split rfl (fun h => ?_) (fun h => ?_)
  · simp at h
    obtain ⟨r, hget⟩ := get_of_lt h
    have ei : IntKind.i64.wrap ((i : Int) + 1) = ((i + 1 : Nat) : Int) := by rw [wrap_i64_of (by omega) (by omega)]; omega
    simp only [go_sem, hget, slT, beq_self_eq_true]
    ((try (with_reducible refine rF ?_)); (try simp only [go_sem, ei]))
    exact rd_of (i + 1) (by first | omega | (simp only; omega)) (by first | omega | (simp only; omega)) sR0
  · simp only [go_sem]
    refine wE ?_
    simp only [go_sem, r_ref08_SameRungs]

end Go.Proofs.YtaeleljlpcjcdaaGreatDoor
namespace Go.Proofs.YtaeleljlpcjcdaaGreatDoor
open Go Go.Sx

/-- Is a pattern found in a path? -/
def matchP (p t : List UInt8) : Bool := if (compM (toB p).data.toList).2 = 0 then foundM (compM (toB p).data.toList).1.1 (compM (toB p).data.toList).1.2.1 (compM (toB p).data.toList).1.2.2 (toB t).data.toList else false

abbrev SchV := List Rung × Int × Int
abbrev schV (x : SchV) : AV := .ag [slL x.1, I x.2.1, I x.2.2]

def howM (fs : List FoldV) (path : List UInt8) : Int × Int := match fs.find? (fun f => matchP f.2.1 path) with
  | some f => (f.2.2.2, f.2.2.1)
  | none => (1, 500000)

def findM (ss : List StoreV) (fs : List FoldV) (path : List UInt8) : SchV × Int :=
  if rightM ss fs then (match ss.find? (fun s => matchP s.2.1 path) with
    | some s => ((s.2.2, (howM fs path).1, (howM fs path).2), 0)
    | none => (([], 0, 0), 15)) else (([], 0, 0), 1)

theorem f_rules_found (p t : List UInt8) (ht : t.length ≤ 1000000) : Meets Tryz.prog E0 n_rules_found [Str (toB p), Str (toB t)] [] (Bo (matchP p t)) [] := by
  refine st0 m_rules_found ?_
  have hc := f_needle_Match_any (toB p) (toB t) (by rw [toB_size]; omega)
  unfold matchP
  simp only [go_sem, s_rules_found]
  refine Cl_plain hc ?_
  by_cases he : (compM (toB p).data.toList).2 = 0
  · have d0 : decide ((compM (toB p).data.toList).2 = 0) = true := decide_eq_true he
    simp only [if_pos he]
    simp only [go_sem, d0]
    refine wE ?_
    simp only [go_sem, r_rules_found]
  · have d0 : decide ((compM (toB p).data.toList).2 = 0) = false := decide_eq_false he
    simp only [if_neg he]
    simp only [go_sem, d0]
    refine wE ?_
    simp only [go_sem, r_rules_found]

theorem f_rules_Find_1 (n : List UInt8) (s : StoreV) (hn : n.length ≤ 1000000) : Meets Tryz.prog E0 n_rules_Find_1 [.ag ((stT s).map .t), .ptr 0 0] [(0, .box [Str (toB n)])] (Bo (matchP s.2.1 n)) [(0, .box [Str (toB n)])] := by
  simp only [stT, List.map]
  refine m_rules_Find_1 (by simp) (shut_of (by simp [idsL, AV.ids, keysOf]) (by simp [Ob.live, Ob.ids, keysOf, idsL, AV.ids])) (shut_of (by simp [idsL, AV.ids, keysOf]) (by simp [Ob.live, Ob.ids, keysOf, idsL, AV.ids])) (by simp [keysOf]) (by simp [keysOf]) ?_
  simp only [go_sem, s_rules_Find_1]
  refine Cl_plain (f_rules_found s.2.1 n hn) ?_
  simp only [go_sem]
  refine wO [] [] ?_
  simp only [go_sem, r_rules_Find_1, exists_eq_left', Option.some.injEq]
  simp [wkV, wkL, slTrees, AV.asOwn, rowPart, stoOf, AV.isNil, shA, rowsT, cellsT, cellT, ren]

theorem f_rules_Find_2 (n : List UInt8) (s : FoldV) (hn : n.length ≤ 1000000) : Meets Tryz.prog E0 n_rules_Find_2 [.ag ((fdT s).map .t), .ptr 0 0] [(0, .box [Str (toB n)])] (Bo (matchP s.2.1 n)) [(0, .box [Str (toB n)])] := by
  simp only [fdT, List.map]
  refine m_rules_Find_2 (by simp) (shut_of (by simp [idsL, AV.ids, keysOf]) (by simp [Ob.live, Ob.ids, keysOf, idsL, AV.ids])) (shut_of (by simp [idsL, AV.ids, keysOf]) (by simp [Ob.live, Ob.ids, keysOf, idsL, AV.ids])) (by simp [keysOf]) (by simp [keysOf]) ?_
  simp only [go_sem, s_rules_Find_2]
  refine Cl_plain (f_rules_found s.2.1 n hn) ?_
  simp only [go_sem]
  refine wO [] [] ?_
  simp only [go_sem, r_rules_Find_2, exists_eq_left', Option.some.injEq]
  simp [wkV, wkL, slTrees, AV.asOwn, rowPart, stoOf, AV.isNil, shA, rowsT, cellsT, cellT, ren]

theorem f_IndexFunc_stc (l : List StoreV) (p : StoreV → Bool) (g : Nat) (n : List UInt8) (hp : ∀ s, Meets Tryz.prog E0 g [.ag ((stT s).map .t), .ptr 0 0] [(0, .box [Str (toB n)])] (Bo (p s)) [(0, .box [Str (toB n)])]) (hl : l.length ≤ 1000000) : Meets Tryz.prog E0 n_slices_IndexFunc_Sapi_Store_api_Store [.t (.sl 3 (l.map stT)), .fn g [] [.ptr 0 0]] [(0, .box [Str (toB n)])] (I (cfIdx p l)) [(0, .box [Str (toB n)])] := by
  refine m_slices_IndexFunc_Sapi_Store_api_Store (by simp) (shut_of (by simp [idsL, AV.ids, keysOf]) (by simp [Ob.live, Ob.ids, keysOf, idsL, AV.ids])) (shut_of (by simp [idsL, AV.ids, keysOf]) (by simp [Ob.live, Ob.ids, keysOf, idsL, AV.ids])) (by simp [keysOf]) (by simp [keysOf]) ?_
  have hlen : (l.map stT).length = l.length := by simp
  simp only [go_sem, s_slices_IndexFunc_Sapi_Store_api_Store, hlen]
  refine W_loop (fun i : Nat => l.length - i) (fun i => i ≤ l.length ∧ ∀ j x, j < i → l[j]? = some x → p x = false)
    (fun i => [(0, .t (.sl 3 (l.map stT))), (1, .fn g [] [.ptr 0 0]), (7, I l.length), (8, I i)]) (fun _ => [(0, .box [Str (toB n)])]) 0 ⟨Nat.zero_le _, fun j x h => absurd h (by omega)⟩ (sR [] []) ?_
  rintro i ⟨hi, hno⟩
  have hix := cfIdx_drop p l i hi hno
  by_cases hil : i < l.length
  · have d0 : decide (i < l.length) = true := decide_eq_true hil
    obtain ⟨s, hs⟩ := get_of_lt hil
    have ei : IntKind.i64.wrap ((i : Int) + 1) = ((i + 1 : Nat) : Int) := by rw [wrap_i64_of (by omega) (by omega)]; omega
    have hg : (l.map stT)[i]? = some (stT s) := by rw [List.getElem?_map, hs]; rfl
    have hf := hp s
    rw [drop_get hs] at hix
    have hsl : (stT s).length = 3 := rfl
    have htk : (stT s).take 3 = stT s := rfl
    simp only [go_sem, d0, hg, hsl, htk]
    refine Cl_cap hf (by simp [keysOf, stoOf]) (by simp [keysOf]) (by simp [keysOf]) ?_
    cases hb : p s
    · simp only [go_sem, ei]
      refine rd_of (i + 1) (by first | omega | (simp only; omega)) ⟨hil, fun j x hj hx => ?_⟩ (sR [] [])
      rcases Nat.lt_or_ge j i with h | h
      · exact hno j x h hx
      · obtain rfl : j = i := by omega
        rw [hs] at hx; injection hx with hx; subst hx; exact hb
    · have hz : cfIdx p (s :: l.drop (i + 1)) = 0 := by simp only [cfIdx, hb, if_true]
      rw [hz, if_neg (by omega)] at hix
      rw [hix, show (0 : Int) + (i : Int) = (i : Int) by omega]
      simp only [go_sem]
      refine wO [] [] ?_
      simp only [go_sem, r_slices_IndexFunc_Sapi_Store_api_Store, exists_eq_left', Option.some.injEq]
      simp [wkV, wkL, slTrees, AV.asOwn, rowPart, stoOf, AV.isNil, shA, rowsT, cellsT, cellT, ren]
  · obtain rfl : i = l.length := by omega
    have d0 : decide (l.length < l.length) = false := decide_eq_false (by omega)
    have hz : cfIdx p [] = -1 := rfl
    rw [List.drop_length, hz, if_pos (by omega)] at hix
    rw [hix]
    simp only [go_sem, d0]
    refine wO [] [] ?_
    simp only [go_sem, r_slices_IndexFunc_Sapi_Store_api_Store, exists_eq_left', Option.some.injEq]
    simp [wkV, wkL, slTrees, AV.asOwn, rowPart, stoOf, AV.isNil, shA, rowsT, cellsT, cellT, ren]

theorem f_IndexFunc_fdc (l : List FoldV) (p : FoldV → Bool) (g : Nat) (n : List UInt8) (hp : ∀ s, Meets Tryz.prog E0 g [.ag ((fdT s).map .t), .ptr 0 0] [(0, .box [Str (toB n)])] (Bo (p s)) [(0, .box [Str (toB n)])]) (hl : l.length ≤ 1000000) : Meets Tryz.prog E0 n_slices_IndexFunc_Sapi_Fold_api_Fold [.t (.sl 4 (l.map fdT)), .fn g [] [.ptr 0 0]] [(0, .box [Str (toB n)])] (I (cfIdx p l)) [(0, .box [Str (toB n)])] := by
  refine m_slices_IndexFunc_Sapi_Fold_api_Fold (by simp) (shut_of (by simp [idsL, AV.ids, keysOf]) (by simp [Ob.live, Ob.ids, keysOf, idsL, AV.ids])) (shut_of (by simp [idsL, AV.ids, keysOf]) (by simp [Ob.live, Ob.ids, keysOf, idsL, AV.ids])) (by simp [keysOf]) (by simp [keysOf]) ?_
  have hlen : (l.map fdT).length = l.length := by simp
  simp only [go_sem, s_slices_IndexFunc_Sapi_Fold_api_Fold, hlen]
  refine W_loop (fun i : Nat => l.length - i) (fun i => i ≤ l.length ∧ ∀ j x, j < i → l[j]? = some x → p x = false)
    (fun i => [(0, .t (.sl 4 (l.map fdT))), (1, .fn g [] [.ptr 0 0]), (7, I l.length), (8, I i)]) (fun _ => [(0, .box [Str (toB n)])]) 0 ⟨Nat.zero_le _, fun j x h => absurd h (by omega)⟩ (sR [] []) ?_
  rintro i ⟨hi, hno⟩
  have hix := cfIdx_drop p l i hi hno
  by_cases hil : i < l.length
  · have d0 : decide (i < l.length) = true := decide_eq_true hil
    obtain ⟨s, hs⟩ := get_of_lt hil
    have ei : IntKind.i64.wrap ((i : Int) + 1) = ((i + 1 : Nat) : Int) := by rw [wrap_i64_of (by omega) (by omega)]; omega
    have hg : (l.map fdT)[i]? = some (fdT s) := by rw [List.getElem?_map, hs]; rfl
    have hf := hp s
    rw [drop_get hs] at hix
    have hsl : (fdT s).length = 4 := rfl
    have htk : (fdT s).take 4 = fdT s := rfl
    simp only [go_sem, d0, hg, hsl, htk]
    refine Cl_cap hf (by simp [keysOf, stoOf]) (by simp [keysOf]) (by simp [keysOf]) ?_
    cases hb : p s
    · simp only [go_sem, ei]
      refine rd_of (i + 1) (by first | omega | (simp only; omega)) ⟨hil, fun j x hj hx => ?_⟩ (sR [] [])
      rcases Nat.lt_or_ge j i with h | h
      · exact hno j x h hx
      · obtain rfl : j = i := by omega
        rw [hs] at hx; injection hx with hx; subst hx; exact hb
    · have hz : cfIdx p (s :: l.drop (i + 1)) = 0 := by simp only [cfIdx, hb, if_true]
      rw [hz, if_neg (by omega)] at hix
      rw [hix, show (0 : Int) + (i : Int) = (i : Int) by omega]
      simp only [go_sem]
      refine wO [] [] ?_
      simp only [go_sem, r_slices_IndexFunc_Sapi_Fold_api_Fold, exists_eq_left', Option.some.injEq]
      simp [wkV, wkL, slTrees, AV.asOwn, rowPart, stoOf, AV.isNil, shA, rowsT, cellsT, cellT, ren]
  · obtain rfl : i = l.length := by omega
    have d0 : decide (l.length < l.length) = false := decide_eq_false (by omega)
    have hz : cfIdx p [] = -1 := rfl
    rw [List.drop_length, hz, if_pos (by omega)] at hix
    rw [hix]
    simp only [go_sem, d0]
    refine wO [] [] ?_
    simp only [go_sem, r_slices_IndexFunc_Sapi_Fold_api_Fold, exists_eq_left', Option.some.injEq]
    simp [wkV, wkL, slTrees, AV.asOwn, rowPart, stoOf, AV.isNil, shA, rowsT, cellsT, cellT, ren]

theorem f_CloneR_own (id : Nat) (e : List T) (es : List (List T)) (hl : es.length ≤ 1000000000) : Meets Tryz.prog E0 n_slices_Clone_Sapi_Rung_api_Rung [.t (.sl 2 (e :: es))] [] (.own id 2 0 (es.length + 1) true) [(id, .row 2 true (e :: es))] := by
  have h0 : Meets Tryz.prog E0 n_slices_Clone_Sapi_Rung_api_Rung [.t (.sl 2 (e :: es))] [] (.own 0 2 0 (es.length + 1) true) [(0, .row 2 true (e :: es))] := by
    have h1 : (es.length + 1) * 16 ≤ 2 ^ 47 := by omega
    have h2 : es.length + 1 < 2 ^ 47 := by omega
    refine m_slices_Clone_Sapi_Rung_api_Rung (by simp) (shut_of (by simp [idsL, AV.ids, keysOf]) (by simp [Ob.live, Ob.ids, keysOf, idsL, AV.ids])) (shut_of (by simp [idsL, AV.ids, keysOf]) (by simp [Ob.live, Ob.ids, keysOf, idsL, AV.ids])) (by simp [keysOf]) (by simp [keysOf]) ?_
    simp only [go_sem, s_slices_Clone_Sapi_Rung_api_Rung, h1, h2]
    refine wO [(0, 106)] [] ?_
    simp only [go_sem, r_slices_Clone_Sapi_Rung_api_Rung, exists_eq_left', Option.some.injEq]
    simp [wkV, wkL, slTrees, AV.asOwn, rowPart, stoOf, AV.isNil, shA, rowsT, cellsT, cellT, ren]
  have := h0.ren (fun _ => id) (by simp [keysOf])
  simpa [renL, renA, renS, renO] using this

theorem right_len {ss : List StoreV} {fs : List FoldV} (h : rightM ss fs = true) : ss.length ≤ 16 ∧ fs.length ≤ 16 ∧ ∀ s ∈ ss, togB s.2.2 = true := by
  unfold rightM at h
  simp only [Bool.and_eq_true, decide_eq_true_eq, List.all_eq_true] at h
  refine ⟨h.1, h.2.1, fun s hs => ?_⟩
  have := h.2.2.1 s hs
  unfold storB at this
  simp only [Bool.and_eq_true] at this
  exact this.2

theorem f_rules_Find (ss : List StoreV) (fs : List FoldV) (n : List UInt8) (hn : n.length ≤ 1000000) : Meets Tryz.prog E0 n_rules_Find [rulesV ss fs, Str (toB n)] [] (.tp [schV (findM ss fs n).1, I (findM ss fs n).2]) [] := by
  refine st0 m_rules_Find ?_
  have hR := f_rules_Right ss fs
  unfold rulesV at hR ⊢
  unfold findM
  simp only [go_sem, s_rules_Find]
  refine Cl_plain hR ?_
  cases hr : rightM ss fs
  · simp only [Bool.false_eq_true, if_false]
    simp only [go_sem]
    refine wS [] ?_
    simp only [go_sem, r_rules_Find, exists_eq_left', Option.some.injEq]
    simp [wkV, wkL, slTrees, AV.asOwn, rowPart, stoOf, AV.isNil, shA, rowsT, cellsT, cellT]
  · simp only [if_true]
    have hrl := right_len hr
    have c1 := (f_IndexFunc_stc ss (fun s => matchP s.2.1 n) n_rules_Find_1 n (fun s => f_rules_Find_1 n s hn) (by omega)).ren (fun _ => 101) (by simp [keysOf])
    have c2 := (f_IndexFunc_fdc fs (fun s => matchP s.2.1 n) n_rules_Find_2 n (fun s => f_rules_Find_2 n s hn) (by omega)).ren (fun _ => 101) (by simp [keysOf])
    simp only [renL, renA, renS, renO] at c1 c2
    have hf1 := cfIdx_find (fun s : StoreV => matchP s.2.1 n) ss
    have hg1 := cfIdx_ge (fun s : StoreV => matchP s.2.1 n) ss
    simp only [go_sem]
    refine oB (c1) ?_
    generalize cfIdx (fun s : StoreV => matchP s.2.1 n) ss = i at *
    by_cases hi : i < 0
    · have d0 : decide (i < 0) = true := decide_eq_true hi
      rw [if_pos hi] at hf1
      rw [hf1]
      simp only [go_sem, d0]
      refine wS [] ?_
      simp only [go_sem, r_rules_Find, exists_eq_left', Option.some.injEq]
      simp [wkV, wkL, slTrees, AV.asOwn, rowPart, stoOf, AV.isNil, shA, rowsT, cellsT, cellT]
    · have d0 : decide (i < 0) = false := decide_eq_false hi
      rw [if_neg hi] at hf1
      obtain ⟨k, rfl⟩ : ∃ k : Nat, i = k := ⟨i.toNat, by omega⟩
      obtain ⟨s, hs⟩ := get_of_lt (show k < ss.length by omega)
      simp only [Int.toNat_natCast, hs] at hf1
      have hgs : (ss.map stT)[k]? = some [.v (.string (toB s.1)), .v (.string (toB s.2.1)), .sl 2 (s.2.2.map slT)] := by rw [List.getElem?_map, hs]; rfl
      have htg := hrl.2.2 s (List.mem_of_getElem? hs)
      rw [hf1]
      unfold howM
      simp only
      generalize s.2.2 = rs at *
      cases rs with
      | nil => simp [togB] at htg
      | cons r rs =>
        have hlen := tog_len htg
        simp only [List.length_cons] at hlen
        have hc := f_CloneR_own 700 (slT r) (rs.map slT) (by rw [List.length_map]; omega)
        rw [List.length_map] at hc
        simp only [go_sem, d0, hgs]
        refine Cl_new hc (by simp [keysOf, stoOf]) (by simp [keysOf]) ?_
        simp only [go_sem]
        refine oB (c2) ?_
        have hf2 := cfIdx_find (fun s : FoldV => matchP s.2.1 n) fs
        have hg2 := cfIdx_ge (fun s : FoldV => matchP s.2.1 n) fs
        generalize cfIdx (fun s : FoldV => matchP s.2.1 n) fs = j at *
        by_cases hj : j < 0
        · have d1 : decide (0 ≤ j) = false := decide_eq_false (by omega)
          rw [if_pos hj] at hf2
          rw [hf2]
          simp only [go_sem, d1]
          refine wS [700] ?_
          simp only [go_sem, r_rules_Find, exists_eq_left', Option.some.injEq]
          simp [wkV, wkL, slTrees, AV.asOwn, rowPart, stoOf, AV.isNil, shA, rowsT, cellsT, cellT, List.take_of_length_le]
        · have d1 : decide (0 ≤ j) = true := decide_eq_true (by omega)
          rw [if_neg hj] at hf2
          obtain ⟨m, rfl⟩ : ∃ m : Nat, j = m := ⟨j.toNat, by omega⟩
          obtain ⟨f, hf⟩ := get_of_lt (show m < fs.length by omega)
          simp only [Int.toNat_natCast, hf] at hf2
          have hgf : (fs.map fdT)[m]? = some [.v (.string (toB f.1)), .v (.string (toB f.2.1)), .v (.int .i64 f.2.2.1), .v (.int .i64 f.2.2.2)] := by rw [List.getElem?_map, hf]; rfl
          rw [hf2]
          simp only [go_sem, d1, hgf]
          ((try (with_reducible refine rF ?_)); (try simp only [go_sem, hgf]))
          refine wS [700] ?_
          simp only [go_sem, r_rules_Find, exists_eq_left', Option.some.injEq]
          simp [wkV, wkL, slTrees, AV.asOwn, rowPart, stoOf, AV.isNil, shA, rowsT, cellsT, cellT, List.take_of_length_le]

end Go.Proofs.YtaeleljlpcjcdaaGreatDoor
namespace Go.Proofs.YtaeleljlpcjcdaaGreatDoor
open Go Go.Sx

def tAll : List UInt8 := [91, 97, 108, 108, 93, 10, 112, 97, 116, 116, 101, 114, 110, 32, 61, 32, 46, 42, 10, 114, 101, 116, 101, 110, 116, 105, 111, 110, 115, 32, 61, 32, 54, 48, 115, 58, 49, 104, 10]
def tX : List UInt8 := [91, 120, 93, 10, 112, 97, 116, 116, 101, 114, 110, 32, 61, 32, 97, 10]
def secAll : CfSec := ([97, 108, 108], [(kPat, [46, 42]), (kRet, [54, 48, 115, 58, 49, 104])])
def secX : CfSec := ([120], [(kPat, [97])])

theorem al1 : cfParse tAll = ([secAll], 0) := by decide +kernel
theorem al2 : cfParse tX = ([secX], 0) := by decide +kernel
theorem al3 : storeE secAll.2 = 0 := by decide +kernel
theorem al4 : storeE secX.2 = 7 := by decide +kernel
theorem al5 : rungsM [54, 48, 115, 58, 49, 104] = ([(60, 60)], 0) := by decide +kernel
def stAll : StoreV := ([97, 108, 108], [46, 42], [(60, 60)])
theorem al6 : findM [stAll] [] [97, 46, 98] = (([(60, 60)], 1, 500000), 0) := by decide +kernel

theorem storeT_of (s : CfSec) : storeT s = stT (s.1, (cfGet s.2 kPat).getD [], (rungsM ((cfGet s.2 kRet).getD [])).1) := rfl

theorem al7 : readM storeT storeE tAll = ([stT stAll], 0) := by
  have e : storeT secAll = stT stAll := by
    rw [storeT_of, show (cfGet secAll.2 kRet).getD [] = [54, 48, 115, 58, 49, 104] from by decide +kernel, al5]
    rfl
  unfold readM
  rw [al1]
  simp only [if_true, errAll, al3, List.map_cons, List.map_nil, e]

theorem al8 : readM storeT storeE tX = ([], 7) := by
  unfold readM
  rw [al2]
  simp only [if_true, errAll, al4]
  rw [if_neg (by decide), if_neg (by decide)]

theorem f_law12_alive : Meets Tryz.prog E0 n_law12_alive [] [] (Bo true) [] := by
  refine st0 m_law12_alive ?_
  have h1 : Meets Tryz.prog E0 n_rules_Stores [Str k_law12_alive_0] [] (.tp [.t (.sl 3 [stT stAll]), I 0]) [] := by
    have := f_rules_Stores tAll (by decide)
    rw [al7] at this
    exact this
  have h2 : Meets Tryz.prog E0 n_rules_Stores [Str (bs [91, 120, 93, 10, 112, 97, 116, 116, 101, 114, 110, 32, 61, 32, 97, 10])] [] (.tp [.t (.sl 3 []), I 7]) [] := by
    have := f_rules_Stores tX (by decide)
    rw [al8] at this
    exact this
  have h3 : Meets Tryz.prog E0 n_rules_Find [.ag [.t (.sl 3 [stT stAll]), .t (.sl 4 [])], Str (bs [97, 46, 98])] [] (.tp [.ag [slL [(60, 60)], I 1, I 500000], I 0]) [] := by
    have := f_rules_Find [stAll] [] [97, 46, 98] (by decide)
    rw [al6] at this
    exact this
  have h4 := f_ref08_SameRungs [(60, 60)] (by decide)
  simp only [go_sem, s_law12_alive]
  refine Cl_plain h1 ?_
  simp only [go_sem]
  refine Cl_show [] h3 ?_ (by simp) ?_
  · exact .ag (.one (Wk.refl _) (.one Wk.empty .nil)) (.one (Wk.refl _) .nil)
  simp only [go_sem]
  refine Cl_plain h2 ?_
  have d1 : decide (((1 : Nat) : Int) = 1) = true := rfl
  simp only [go_sem, d1]
  refine Cl_keep [151] h4 ?_ (by simp [stoOf]) rfl ?_
  · exact .one (Wk.refl _) (.one (Wk.row (by simp [slTrees, AV.asOwn, rowPart, stoOf, slT]) (by simp)) .nil)
  simp only [go_sem]
  refine wE ?_
  simp only [go_sem, r_law12_alive]

theorem name_le (m : Int) : m < 1 ∨ 5 < m → nameM m = [] := by
  intro h
  unfold nameM
  simp only [if_neg (show ¬ m = 1 by omega), if_neg (show ¬ m = 2 by omega), if_neg (show ¬ m = 3 by omega), if_neg (show ¬ m = 4 by omega), if_neg (show ¬ m = 5 by omega)]

theorem meth_name (m : Int) : methM (nameM m) = if 1 ≤ m ∧ m ≤ 5 then (m, true) else (0, false) := by
  by_cases h : 1 ≤ m ∧ m ≤ 5
  · rw [if_pos h]
    have : m = 1 ∨ m = 2 ∨ m = 3 ∨ m = 4 ∨ m = 5 := by omega
    rcases this with rfl | rfl | rfl | rfl | rfl <;> decide +kernel
  · rw [if_neg h, name_le m (by omega)]
    decide +kernel

theorem name_inj {a b : Int} (h : a ≠ b) (ha : 1 ≤ a ∧ a ≤ 5) : nameM a ≠ nameM b := by
  intro e
  have h1 := meth_name a
  have h2 := meth_name b
  rw [← e, h1, if_pos ha] at h2
  by_cases hb : 1 ≤ b ∧ b ≤ 5
  · rw [if_pos hb] at h2; injection h2 with h2 _; exact h h2
  · rw [if_neg hb] at h2; injection h2 with _ h2; cases h2

theorem f_law12_RulesNames (a b : Int) (ha1 : -9223372036854775808 ≤ a) (ha2 : a < 9223372036854775808) (hb1 : -9223372036854775808 ≤ b) (hb2 : b < 9223372036854775808) : Meets Tryz.prog E0 n_law12_RulesNames [I a, I b] [] (Bo true) [] := by
  refine st0 m_law12_RulesNames ?_
  have n1 := f_rules_Name a ha1 ha2
  have n2 := f_rules_Name b hb1 hb2
  have m1 := f_rules_Method (nameM a)
  rw [meth_name] at m1
  simp only [go_sem, s_law12_RulesNames]
  refine Cl_plain f_law12_alive ?_
  simp only [go_sem]
  refine Cl_plain n1 ?_
  simp only [go_sem]
  refine Cl_plain n2 ?_
  simp only [go_sem]
  refine Cl_plain m1 ?_
  by_cases h : 1 ≤ a ∧ a ≤ 5
  · simp only [if_pos h]
    have d1 : decide (1 ≤ a) = true := decide_eq_true h.1
    have d2 : decide (a ≤ 5) = true := decide_eq_true h.2
    have d3 : decide (a = a) = true := decide_eq_true rfl
    by_cases hab : a = b
    · have d4 : decide (a = b) = true := decide_eq_true hab
      simp only [go_sem, d1, d2, d3, d4, beq_self_eq_true]
      refine wE ?_
      simp only [go_sem, r_law12_RulesNames]
    · have d4 : decide (a = b) = false := decide_eq_false hab
      have hne := name_inj hab h
      have q1 : binStr .eql (toB (nameM a)) (bs []) = some (.bool (nameM a == [])) := eqT _ []
      have q2 : binStr .neq (toB (nameM a)) (toB (nameM b)) = some (.bool true) := by rw [neT]; simp [hne]
      simp only [go_sem, d1, d2, d3, d4, beq_self_eq_true, q1, q2]
      cases hz : (nameM a == [])
      · simp only [go_sem, q2]
        refine wE ?_
        simp only [go_sem, r_law12_RulesNames]
      · simp only [go_sem]
        refine wE ?_
        simp only [go_sem, r_law12_RulesNames]
  · simp only [if_neg h]
    rw [name_le a (by omega)]
    have q1 : binStr .eql (toB []) (bs []) = some (.bool true) := (eqT [] []).trans (by simp)
    have fin : decide (1 ≤ a) = false ∨ decide (1 ≤ a) = true ∧ decide (a ≤ 5) = false := by
      by_cases h1 : 1 ≤ a
      · exact Or.inr ⟨decide_eq_true h1, decide_eq_false (by omega)⟩
      · exact Or.inl (decide_eq_false h1)
    rcases fin with d1 | ⟨d1, d2⟩
    · simp only [go_sem, d1, beq_self_eq_true, q1]
      cases h4 : decide (a = b)
      · simp only [go_sem, q1]
        refine wE ?_
        simp only [go_sem, r_law12_RulesNames]
      · simp only [go_sem]
        refine wE ?_
        simp only [go_sem, r_law12_RulesNames]
    · simp only [go_sem, d1, d2, beq_self_eq_true, q1]
      cases h4 : decide (a = b)
      · simp only [go_sem, q1]
        refine wE ?_
        simp only [go_sem, r_law12_RulesNames]
      · simp only [go_sem]
        refine wE ?_
        simp only [go_sem, r_law12_RulesNames]

end Go.Proofs.YtaeleljlpcjcdaaGreatDoor
namespace Go.Proofs.YtaeleljlpcjcdaaGreatDoor
open Go Go.Sx

theorem fdB_no (c : Bool) (x y : Int) : (!(c && (decide (0 ≤ x) && (decide (x ≤ 1000000) && (decide (1 ≤ y) && decide (y ≤ 5)))))) = ((((!c || decide (x < 0)) || decide (1000000 < x)) || decide (y < 1)) || decide (5 < y)) := by
  have e1 : decide (0 ≤ x) = !decide (x < 0) := by by_cases q : x < 0 <;> simp [q] <;> omega
  have e2 : decide (x ≤ 1000000) = !decide (1000000 < x) := by by_cases q : 1000000 < x <;> simp [q] <;> omega
  have e3 : decide (1 ≤ y) = !decide (y < 1) := by by_cases q : y < 1 <;> simp [q] <;> omega
  have e4 : decide (y ≤ 5) = !decide (5 < y) := by by_cases q : 5 < y <;> simp [q] <;> omega
  rw [e1, e2, e3, e4]
  generalize decide (x < 0) = a
  generalize decide (1000000 < x) = b
  generalize decide (y < 1) = d
  generalize decide (5 < y) = e
  cases a <;> cases b <;> cases c <;> cases d <;> cases e <;> rfl

theorem f_ref10_Together_any (l : List Rung) : Meets Tryz.prog E0 n_ref10_Together [slL l] [] (Bo (togB l)) [] := by
  by_cases h : l.length ≤ 4
  · exact f_ref10_Together l (by omega)
  · refine st0 m_ref10_Together ?_
    have d0 : decide ((l.length : Int) < 1) = false := decide_eq_false (by omega)
    have e : togB l = false := by simp [togB, h]
    have d4 : decide (4 < (l.length : Int)) = true := decide_eq_true (by omega)
    rw [e]
    simp only [go_sem, s_ref10_Together, d0, d4]
    refine wE ?_
    simp only [go_sem, r_ref10_Together]

theorem f_ref12_Right (ss : List StoreV) (fs : List FoldV) : Meets Tryz.prog E0 n_ref12_Right [rulesV ss fs] [] (Bo (rightM ss fs)) [] := by
  refine st0 m_ref12_Right ?_
  unfold rulesV rightM
  have hl1 : (ss.map stT).length = ss.length := by simp
  have hl2 : (fs.map fdT).length = fs.length := by simp
  cases h1 : decide ((16 : Int) < (ss.length : Int))
  · have h1n : ss.length ≤ 16 := by have := of_decide_eq_false h1; omega
    rw [decide_eq_true h1n, Bool.true_and]
    cases h2 : decide ((16 : Int) < (fs.length : Int))
    · have h2n : fs.length ≤ 16 := by have := of_decide_eq_false h2; omega
      rw [decide_eq_true h2n, Bool.true_and]
      generalize hv : (ss.all storB && fs.all fdB) = v
      simp only [go_sem, s_ref12_Right, hl1, hl2, h1, h2]
      refine W_loop (fun i : Nat => ss.length - i) (fun i => i ≤ ss.length ∧ ((ss.drop i).all storB && fs.all fdB) = v) (fun i => [(1, .ptr 100 0), (3, I i)]) (fun _ => [(100, .box [.t (.sl 3 (ss.map stT)), .t (.sl 4 (fs.map fdT))])]) 0 ⟨Nat.zero_le _, hv⟩ (sR [] []) ?_
      rintro i ⟨hi, hm⟩
      by_cases hil : i < ss.length
      · have d0 : decide (i < ss.length) = true := decide_eq_true hil
        obtain ⟨s, hs⟩ := get_of_lt hil
        have hg : (ss.map stT)[i]? = some [.v (.string (toB s.1)), .v (.string (toB s.2.1)), .sl 2 (s.2.2.map slT)] := by rw [List.getElem?_map, hs]; rfl
        have ei : IntKind.i64.wrap ((i : Int) + 1) = ((i + 1 : Nat) : Int) := by rw [wrap_i64_of (by omega) (by omega)]; omega
        rw [drop_get hs, List.all_cons] at hm
        unfold storB at hm
        have hT : Meets Tryz.prog E0 n_ref10_Together [.t (.sl 2 (s.2.2.map slT))] [] (Bo (togB s.2.2)) [] := f_ref10_Together_any s.2.2
        simp only [go_sem, hl1, d0, hg]
        refine Cl_plain (f_ref12_compiles s.2.1) ?_
        cases hc : compB s.2.1
        · rw [hc] at hm
          simp only [Bool.false_and] at hm
          simp only [go_sem]
          rw [← hm]
          refine wE ?_
          simp only [go_sem, r_ref12_Right]
        · rw [hc] at hm
          simp only [Bool.true_and] at hm
          simp only [go_sem, hl1, d0, hg]
          refine Cl_plain hT ?_
          cases ht : togB s.2.2
          · rw [ht] at hm
            simp only [Bool.false_and] at hm
            simp only [go_sem]
            rw [← hm]
            refine wE ?_
            simp only [go_sem, r_ref12_Right]
          · rw [ht] at hm
            simp only [Bool.true_and] at hm
            simp only [go_sem, ei]
            exact rd_of (i + 1) (by first | omega | (simp only; omega)) ⟨hil, hm⟩ (sR [] [])
      · obtain rfl : i = ss.length := by omega
        have d0 : decide (ss.length < ss.length) = false := decide_eq_false (by omega)
        rw [List.drop_length] at hm
        simp only [List.all_nil, Bool.true_and] at hm
        simp only [go_sem, hl1, d0]
        refine W_loop (fun i : Nat => fs.length - i) (fun i => i ≤ fs.length ∧ ((fs.drop i).all fdB) = v) (fun i => [(1, .ptr 100 0), (4, I i)]) (fun _ => [(100, .box [.t (.sl 3 (ss.map stT)), .t (.sl 4 (fs.map fdT))])]) 0 ⟨Nat.zero_le _, hm⟩ (sR [] []) ?_
        rintro k ⟨hk, hm2⟩
        by_cases hkl : k < fs.length
        · have d1 : decide (k < fs.length) = true := decide_eq_true hkl
          obtain ⟨f, hf⟩ := get_of_lt hkl
          have hg : (fs.map fdT)[k]? = some [.v (.string (toB f.1)), .v (.string (toB f.2.1)), .v (.int .i64 f.2.2.1), .v (.int .i64 f.2.2.2)] := by rw [List.getElem?_map, hf]; rfl
          have ei : IntKind.i64.wrap ((k : Int) + 1) = ((k + 1 : Nat) : Int) := by rw [wrap_i64_of (by omega) (by omega)]; omega
          rw [drop_get hf, List.all_cons] at hm2
          have hb := fdB_no (compB f.2.1) f.2.2.1 f.2.2.2
          have hfd : fdB f = (compB f.2.1 && (decide (0 ≤ f.2.2.1) && (decide (f.2.2.1 ≤ 1000000) && (decide (1 ≤ f.2.2.2) && decide (f.2.2.2 ≤ 5))))) := rfl
          rw [← hfd] at hb
          simp only [go_sem, hl2, d1, hg]
          refine Cl_plain (f_ref12_compiles f.2.1) ?_
          generalize compB f.2.1 = c at *
          generalize f.2.2.1 = x at *
          generalize f.2.2.2 = y at *
          clear hfd
          cases hfv : fdB f
          · rw [hfv, Bool.false_and] at hm2
            rw [hfv] at hb
            subst hm2
            have fin : ∀ (env : List (Nat × AV)) (sto : List (Nat × Ob)), True := fun _ _ => trivial
            cases c
            · simp only [go_sem]
              refine wE ?_
              simp only [go_sem, r_ref12_Right]
            · cases q1 : decide (x < 0)
              · cases q2 : decide (1000000 < x)
                · cases q3 : decide (y < 1)
                  · have q4 : decide (5 < y) = true := by rw [q1, q2, q3] at hb; simpa using hb.symm
                    simp only [go_sem, q1, q2, q3, q4]
                    refine wE ?_
                    simp only [go_sem, r_ref12_Right]
                  · simp only [go_sem, q1, q2, q3]
                    refine wE ?_
                    simp only [go_sem, r_ref12_Right]
                · simp only [go_sem, q1, q2]
                  refine wE ?_
                  simp only [go_sem, r_ref12_Right]
              · simp only [go_sem, q1]
                refine wE ?_
                simp only [go_sem, r_ref12_Right]
          · rw [hfv, Bool.true_and] at hm2
            rw [hfv] at hb
            have hb' := hb.symm
            simp only [Bool.not_true, Bool.or_eq_false_iff] at hb'
            obtain ⟨⟨⟨⟨q0, q1⟩, q2⟩, q3⟩, q4⟩ := hb'
            obtain rfl : c = true := by simpa using q0
            simp only [go_sem, q1, q2, q3, q4, ei]
            exact rd_of (k + 1) (by first | omega | (simp only; omega)) ⟨hkl, hm2⟩ (sR [] [])
        · obtain rfl : k = fs.length := by omega
          have d1 : decide (fs.length < fs.length) = false := decide_eq_false (by omega)
          rw [List.drop_length] at hm2
          simp only [List.all_nil] at hm2
          subst hm2
          simp only [go_sem, hl2, d1]
          refine wE ?_
          simp only [go_sem, r_ref12_Right]
    · rw [decide_eq_false (by have := of_decide_eq_true h2; omega : ¬ fs.length ≤ 16), Bool.false_and]
      simp only [go_sem, s_ref12_Right, hl1, hl2, h1, h2]
      refine wE ?_
      simp only [go_sem, r_ref12_Right]
  · rw [decide_eq_false (by have := of_decide_eq_true h1; omega : ¬ ss.length ≤ 16), Bool.false_and]
    simp only [go_sem, s_ref12_Right, hl1, hl2, h1]
    refine wE ?_
    simp only [go_sem, r_ref12_Right]

end Go.Proofs.YtaeleljlpcjcdaaGreatDoor
namespace Go.Proofs.YtaeleljlpcjcdaaGreatDoor
open Go Go.Sx

theorem f_ref09_MatchP (p t : List UInt8) (ht : t.length ≤ 1000000) : ∃ e : Int, Meets Tryz.prog E0 n_ref09_Match [Str (toB p), Str (toB t)] [] (.tp [Bo (matchP p t), I e]) [] :=
  ⟨_, f_ref09_Match_any (toB p) (toB t) (by rw [toB_size]; omega)⟩

set_option maxHeartbeats 2000000 in
theorem f_ref12_Find (ss : List StoreV) (fs : List FoldV) (n : List UInt8) (hn : n.length ≤ 1000000) : Meets Tryz.prog E0 n_ref12_Find [rulesV ss fs, Str (toB n)] [] (.tp [schV (findM ss fs n).1, I (findM ss fs n).2]) [] := by
  refine st0 m_ref12_Find ?_
  have hR := f_ref12_Right ss fs
  unfold rulesV at hR ⊢
  unfold findM
  simp only [go_sem, s_ref12_Find]
  refine Cl_plain hR ?_
  cases hr : rightM ss fs
  · simp only [Bool.false_eq_true, if_false]
    simp only [go_sem]
    refine wS [] ?_
    simp only [go_sem, r_ref12_Find, exists_eq_left', Option.some.injEq]
    simp [wkV, wkL, slTrees, AV.asOwn, rowPart, stoOf, AV.isNil, shA, rowsT, cellsT, cellT]
  · simp only [if_true]
    have hrl := right_len hr
    have hl1 : (ss.map stT).length = ss.length := by simp
    have hl2 : (fs.map fdT).length = fs.length := by simp
    simp only [go_sem]
    refine W_loop (fun i : Nat => ss.length - i) (fun i => i ≤ ss.length ∧ (ss.drop i).find? (fun s => matchP s.2.1 n) = ss.find? (fun s => matchP s.2.1 n)) (fun i => [(1, Str (toB n)), (2, .ptr 100 0), (4, .ptr 101 0), (6, I i)])
      (fun _ => [(100, .box [.t (.sl 3 (ss.map stT)), .t (.sl 4 (fs.map fdT))]), (101, .box [.t (.v (.slice none 0 0)), I 0, I 0])]) 0 ⟨Nat.zero_le _, rfl⟩ (sR [] []) ?_
    rintro i ⟨hi, hm⟩
    by_cases hil : i < ss.length
    · have d0 : decide (i < ss.length) = true := decide_eq_true hil
      obtain ⟨s, hs⟩ := get_of_lt hil
      have hg : (ss.map stT)[i]? = some [.v (.string (toB s.1)), .v (.string (toB s.2.1)), .sl 2 (s.2.2.map slT)] := by rw [List.getElem?_map, hs]; rfl
      have ei : IntKind.i64.wrap ((i : Int) + 1) = ((i + 1 : Nat) : Int) := by rw [wrap_i64_of (by omega) (by omega)]; omega
      obtain ⟨e1, hM⟩ := f_ref09_MatchP s.2.1 n hn
      rw [drop_get hs] at hm
      simp only [go_sem, hl1, d0, hg]
      refine Cl_plain hM ?_
      cases hb : matchP s.2.1 n
      · rw [List.find?_cons_of_neg (by rw [hb]; decide)] at hm
        simp only [go_sem, ei]
        exact rd_of (i + 1) (by first | omega | (simp only; omega)) ⟨hil, hm⟩ (sR [] [])
      · rw [List.find?_cons_of_pos (p := fun s : StoreV => matchP s.2.1 n) hb] at hm
        rw [← hm]
        simp only
        have htg := hrl.2.2 s (List.mem_of_getElem? hs)
        generalize s.2.2 = rs at *
        cases rs with
        | nil => simp [togB] at htg
        | cons r rs =>
          have hlen := tog_len htg
          simp only [List.length_cons] at hlen
          have hz : (rs.map slT).length = rs.length := by simp
          have b1 : (rs.length + 1) * 16 ≤ 2 ^ 47 := by omega
          have b2 : rs.length + 1 < 2 ^ 47 := by omega
          simp only [go_sem, hl1, d0, hg, b1, b2, hz]
          refine W_loop (fun k : Nat => fs.length - k) (fun k => k ≤ fs.length ∧ (fs.drop k).find? (fun f => matchP f.2.1 n) = fs.find? (fun f => matchP f.2.1 n)) (fun k => [(1, Str (toB n)), (2, .ptr 100 0), (4, .ptr 101 0), (9, .ptr 139 0), (10, I k)])
            (fun _ => [(100, .box [.t (.sl 3 (ss.map stT)), .t (.sl 4 (fs.map fdT))]), (101, .box [.t (.v (.slice none 0 0)), I 0, I 0]), (139, .box [.own 137 2 0 (rs.length + 1) true, I 1, I 500000]), (137, .row 2 true (slT r :: rs.map slT))]) 0 ⟨Nat.zero_le _, rfl⟩ (sR [] []) ?_
          rintro k ⟨hk, hm2⟩
          by_cases hkl : k < fs.length
          · have d1 : decide (k < fs.length) = true := decide_eq_true hkl
            obtain ⟨f, hf⟩ := get_of_lt hkl
            have hgf : (fs.map fdT)[k]? = some [.v (.string (toB f.1)), .v (.string (toB f.2.1)), .v (.int .i64 f.2.2.1), .v (.int .i64 f.2.2.2)] := by rw [List.getElem?_map, hf]; rfl
            have ek : IntKind.i64.wrap ((k : Int) + 1) = ((k + 1 : Nat) : Int) := by rw [wrap_i64_of (by omega) (by omega)]; omega
            obtain ⟨e2, hM2⟩ := f_ref09_MatchP f.2.1 n hn
            rw [drop_get hf] at hm2
            simp only [go_sem, hl2, d1, hgf]
            refine Cl_plain hM2 ?_
            cases hb2 : matchP f.2.1 n
            · rw [List.find?_cons_of_neg (by rw [hb2]; decide)] at hm2
              simp only [go_sem, ek]
              exact rd_of (k + 1) (by first | omega | (simp only; omega)) ⟨hkl, hm2⟩ (sR [] [])
            · rw [List.find?_cons_of_pos (p := fun s : FoldV => matchP s.2.1 n) hb2] at hm2
              unfold howM
              rw [← hm2]
              simp only [go_sem, hl2, d1, hgf]
              ((try (with_reducible refine rF ?_)); (try simp only [go_sem, hl2, d1, hgf]))
              refine wS [137] ?_
              simp only [go_sem, r_ref12_Find, exists_eq_left', Option.some.injEq]
              simp [wkV, wkL, slTrees, AV.asOwn, rowPart, stoOf, AV.isNil, shA, rowsT, cellsT, cellT, List.take_of_length_le]
          · obtain rfl : k = fs.length := by omega
            have d1 : decide (fs.length < fs.length) = false := decide_eq_false (by omega)
            rw [List.drop_length] at hm2
            unfold howM
            rw [← hm2]
            simp only [go_sem, hl2, d1]
            refine wS [137] ?_
            simp only [go_sem, r_ref12_Find, exists_eq_left', Option.some.injEq]
            simp [wkV, wkL, slTrees, AV.asOwn, rowPart, stoOf, AV.isNil, shA, rowsT, cellsT, cellT, List.take_of_length_le]
    · obtain rfl : i = ss.length := by omega
      have d0 : decide (ss.length < ss.length) = false := decide_eq_false (by omega)
      rw [List.drop_length] at hm
      rw [← hm]
      simp only [go_sem, hl1, d0]
      refine wS [] ?_
      simp only [go_sem, r_ref12_Find, exists_eq_left', Option.some.injEq]
      simp [wkV, wkL, slTrees, AV.asOwn, rowPart, stoOf, AV.isNil, shA, rowsT, cellsT, cellT]

end Go.Proofs.YtaeleljlpcjcdaaGreatDoor
namespace Go.Proofs.YtaeleljlpcjcdaaGreatDoor
open Go Go.Sx

theorem sR_RuLawF {io : List Nat} {env : List (Nat × AV)} {sto : List (Nat × Ob)} {env' : List (Nat × AV)} {sto' : List (Nat × Ob)} (rn : List (Nat × Nat)) (sn : List Nat)
    (h1 : envS sto sn rn env sto' env' := by simp [envS, go_sem, wkV, wkL, AV.ids, idsL, keysOf, ren, stoOf, slTrees, AV.asOwn, rowPart, AV.isNil, shA, rowsT, cellsT, cellT, wkLL, stT, fdT] <;> assumption)
    (h2 : stoS sto sn rn sto' sto' := by simp [stoS, go_sem, wkV, wkL, wkO, AV.ids, Ob.ids, idsL, keysOf, ren, AV.one, stoOf, slTrees, AV.asOwn, rowPart, AV.isNil, shA, rowsT, cellsT, cellT, wkLL, stT, fdT] <;> assumption)
    (h3 : ((keysOf sto').map (ren rn)).Nodup := by simp [keysOf, ren]) (h4 : ∀ i ∈ sn, 100 ≤ i ∧ isRow (stoOf sto i) = true ∧ ∀ j ∈ keysOf sto', ren rn j ≠ i := by simp [stoOf, keysOf, ren])
    (h5 : ∀ i ∈ io, ren rn i = i := by simp [keysOf, ren]) (h6 : ∀ i ∈ keysOf sto', ren rn i ∈ io → i = ren rn i := by simp [keysOf, ren]) :
    Sub io ⟨envOf env, stoOf sto⟩ ⟨envOf env', stoOf sto'⟩ := subL rn sn h1 h2 h3 h4 h5 h6

theorem f_ref12_SameSchema (x : SchV) (h : x.1.length ≤ 1000) : Meets Tryz.prog E0 n_ref12_SameSchema [schV x, schV x] [] (Bo true) [] := by
  refine st0 m_ref12_SameSchema ?_
  have hS := f_ref08_SameRungs x.1 (by unfold maxLen; omega)
  have e : ∀ i : Int, decide (i = i) = true := fun i => decide_eq_true rfl
  simp only [go_sem, s_ref12_SameSchema]
  refine Cl_plain hS ?_
  simp only [go_sem, e]
  refine wE ?_
  simp only [go_sem, r_ref12_SameSchema]

theorem find_len (ss : List StoreV) (fs : List FoldV) (n : List UInt8) : (findM ss fs n).1.1.length ≤ 4 := by
  unfold findM
  cases hr : rightM ss fs
  · simp
  · simp only [if_true]
    cases hf : ss.find? (fun s => matchP s.2.1 n) with
    | none => simp
    | some s => exact (tog_len ((right_len hr).2.2 s (List.mem_of_find?_eq_some hf))).2

/-- How many there are, as far as is counted. -/
def greatN : List StoreV → Int → Int
  | [], n => n
  | s :: l, n => if n ≤ 500 then greatN l (n + (s.2.2.length : Int)) else n

theorem f_law12_great (ss : List StoreV) (fs : List FoldV) (h1 : ss.length ≤ 4611686018427387904) (h2 : fs.length ≤ 4611686018427387903) (h3 : ∀ s ∈ ss, s.2.2.length ≤ 4611686018427387904) : Meets Tryz.prog E0 n_law12_great [rulesV ss fs] [] (Bo (decide (500 < greatN ss ((ss.length : Int) + (fs.length : Int))))) [] := by
  refine st0 m_law12_great ?_
  unfold rulesV
  have hl1 : (ss.map stT).length = ss.length := by simp
  have hl2 : (fs.map fdT).length = fs.length := by simp
  have w0 : IntKind.i64.wrap ((ss.length : Int) + (fs.length : Int)) = (ss.length : Int) + (fs.length : Int) := wrap_i64_of (by omega) (by omega)
  generalize hv : greatN ss ((ss.length : Int) + (fs.length : Int)) = v
  simp only [go_sem, s_law12_great, hl1, hl2, w0]
  refine W_loop (fun i : Nat × Int => ss.length - i.1) (fun i => i.1 ≤ ss.length ∧ 0 ≤ i.2 ∧ i.2 ≤ 9223372036854775807 ∧ greatN (ss.drop i.1) i.2 = v) (fun i => [(1, .ptr 100 0), (3, I i.2), (4, I i.1)]) (fun _ => [(100, .box [.t (.sl 3 (ss.map stT)), .t (.sl 4 (fs.map fdT))])]) (0, (ss.length : Int) + (fs.length : Int)) ⟨Nat.zero_le _, by simp only; omega, by simp only; omega, hv⟩ (sR_RuLawF [] []) ?_
  rintro ⟨i, n⟩ ⟨hi, hn0, hn1, hm⟩
  simp only at hi hn0 hn1 hm
  by_cases hil : i < ss.length
  · have d0 : decide (i < ss.length) = true := decide_eq_true hil
    obtain ⟨s, hs⟩ := get_of_lt hil
    have hg : (ss.map stT)[i]? = some [.v (.string (toB s.1)), .v (.string (toB s.2.1)), .sl 2 (s.2.2.map slT)] := by rw [List.getElem?_map, hs]; rfl
    have hz : (s.2.2.map slT).length = s.2.2.length := by simp
    have h3s := h3 s (List.mem_of_getElem? hs)
    rw [drop_get hs] at hm
    simp only [greatN] at hm
    by_cases hle : n ≤ 500
    · have d1 : decide (n ≤ 500) = true := decide_eq_true hle
      have ei : IntKind.i64.wrap ((i : Int) + 1) = ((i + 1 : Nat) : Int) := by rw [wrap_i64_of (by omega) (by omega)]; omega
      have en : IntKind.i64.wrap (n + (s.2.2.length : Int)) = n + (s.2.2.length : Int) := wrap_i64_of (by omega) (by omega)
      rw [if_pos hle] at hm
      simp only [go_sem, hl1, d0, d1, hg, hz, ei, en]
      refine rd_of (i + 1, n + (s.2.2.length : Int)) (by first | omega | (simp only; omega)) ⟨hil, by simp only; omega, by simp only; omega, hm⟩ (sR_RuLawF [] [])
    · have d1 : decide (n ≤ 500) = false := decide_eq_false hle
      rw [if_neg hle] at hm
      simp only [go_sem, hl1, d0, d1]
      rw [← hm]
      refine wE ?_
      simp only [go_sem, r_law12_great]
  · obtain rfl : i = ss.length := by omega
    have d0 : decide (ss.length < ss.length) = false := decide_eq_false (by omega)
    rw [List.drop_length] at hm
    simp only [greatN] at hm
    simp only [go_sem, hl1, d0]
    rw [← hm]
    refine wE ?_
    simp only [go_sem, r_law12_great]

theorem f_law12_RulesFinds (ss : List StoreV) (fs : List FoldV) (n : List UInt8) (h1 : ss.length ≤ 4611686018427387904) (h2 : fs.length ≤ 4611686018427387903) (h3 : ∀ s ∈ ss, s.2.2.length ≤ 4611686018427387904) : Meets Tryz.prog E0 n_law12_RulesFinds [rulesV ss fs, Str (toB n)] [] (Bo true) [] := by
  refine st0 m_law12_RulesFinds ?_
  have c0 := f_law12_great ss fs h1 h2 h3
  have c1 := f_rules_Right ss fs
  have c2 := f_ref12_Right ss fs
  have hG : ∀ y : Int, decide (y = y) = true := fun y => decide_eq_true rfl
  generalize greatN ss ((ss.length : Int) + (fs.length : Int)) = gn at *
  by_cases hn : 500 < n.length
  · have d0 : decide ((500 : Int) < (n.length : Int)) = true := decide_eq_true (by omega)
    unfold rulesV at *
    simp only [go_sem, s_law12_RulesFinds]
    refine Cl_plain f_law12_alive ?_
    simp only [go_sem]
    refine Cl_plain c0 ?_
    cases hg : decide (500 < gn)
    · simp only [go_sem, toB_size, d0]
      refine wE ?_
      simp only [go_sem, r_law12_RulesFinds]
    · simp only [go_sem]
      refine wE ?_
      simp only [go_sem, r_law12_RulesFinds]
  · have d0 : decide ((500 : Int) < (n.length : Int)) = false := decide_eq_false (by omega)
    have c3 := f_rules_Find ss fs n (by omega)
    have c4 := f_ref12_Find ss fs n (by omega)
    have hl := find_len ss fs n
    have c5 := f_ref12_SameSchema (findM ss fs n).1 (by omega)
    generalize findM ss fs n = x at *
    obtain ⟨x, e⟩ := x
    simp only at c3 c4 c5
    generalize rightM ss fs = rb at *
    unfold rulesV at *
    simp only [go_sem, s_law12_RulesFinds]
    refine Cl_plain f_law12_alive ?_
    simp only [go_sem]
    refine Cl_plain c0 ?_
    cases hg : decide (500 < gn)
    · simp only [go_sem, toB_size, d0]
      refine Cl_plain c3 ?_
      simp only [go_sem]
      refine Cl_plain c4 ?_
      simp only [go_sem]
      refine Cl_plain c1 ?_
      simp only [go_sem]
      refine Cl_plain c2 ?_
      simp only [go_sem, beq_self_eq_true]
      refine Cl_plain c5 ?_
      simp only [go_sem, hG]
      ((try (with_reducible refine rF ?_)); (try simp only [go_sem]))
      refine wE ?_
      simp only [go_sem, r_law12_RulesFinds]
    · simp only [go_sem]
      refine wE ?_
      simp only [go_sem, r_law12_RulesFinds]

end Go.Proofs.YtaeleljlpcjcdaaGreatDoor
namespace Go.Proofs.YtaeleljlpcjcdaaGreatDoor
open Go Go.Sx

def noneS : StoreV := ([110, 111, 110, 101], [94, 36], [(1, 1)])

theorem none_ok : storB noneS = true := by decide +kernel

theorem none_no (n : List UInt8) : matchP noneS.2.1 (n ++ [120]) = false := by
  have hc : compM (toB [94, 36]).data.toList = ((true, true, []), 0) := by decide +kernel
  unfold matchP
  rw [show noneS.2.1 = [94, 36] from rfl, hc]
  simp only [if_true]
  have := found_iff true true [] (toB (n ++ [120])).data.toList
  rw [if_pos rfl, toB_data, List.length_nil, endI_zero] at this
  rw [toB_data]
  cases h : foundM true true [] (n ++ [120])
  · rfl
  · have h2 := this.1 h
    simp [firstE] at h2

theorem right_snoc {ss : List StoreV} {fs : List FoldV} {m : StoreV} (h : rightM (ss ++ [m]) fs = true) : rightM ss fs = true ∧ rightM [m] fs = true := by
  unfold rightM at h ⊢
  simp only [Bool.and_eq_true, decide_eq_true_eq, List.all_append, List.length_append, List.length_cons, List.length_nil, List.all_cons, List.all_nil, Bool.and_true] at h ⊢
  exact ⟨⟨by omega, h.2.1, h.2.2.1.1, h.2.2.2⟩, by omega, h.2.1, h.2.2.1.2, h.2.2.2⟩

theorem find_none {ss : List StoreV} {fs : List FoldV} (n : List UInt8) (h : rightM ss fs = true) (hl : ss.length ≤ 15) : findM (noneS :: ss) fs (n ++ [120]) = findM ss fs (n ++ [120]) := by
  have h1 : rightM (noneS :: ss) fs = true := by
    unfold rightM at h ⊢
    simp only [Bool.and_eq_true, decide_eq_true_eq, List.length_cons, List.all_cons] at h ⊢
    exact ⟨by omega, h.2.1, ⟨none_ok, h.2.2.1⟩, h.2.2.2⟩
  unfold findM
  rw [h, h1]
  rw [List.find?_cons_of_neg (p := fun s : StoreV => matchP s.2.1 (n ++ [120])) (by rw [none_no]; decide)]

theorem find_behind {ss : List StoreV} {fs : List FoldV} {m : StoreV} (n : List UInt8) (h : rightM (ss ++ [m]) fs = true) : ((findM ss fs n).2 = 0 ∧ findM (ss ++ [m]) fs n = findM ss fs n) ∨ ((findM ss fs n).2 = 15 ∧ findM (ss ++ [m]) fs n = findM [m] fs n) := by
  obtain ⟨h1, h2⟩ := right_snoc h
  unfold findM
  rw [h, h1, h2]
  simp only [if_true]
  rw [List.find?_append]
  cases hf : ss.find? (fun s => matchP s.2.1 n) with
  | some s => left; exact ⟨rfl, rfl⟩
  | none => right; exact ⟨rfl, rfl⟩

theorem f_law12_RulesFirst (ss : List StoreV) (fs : List FoldV) (n : List UInt8) (m : StoreV) (h1 : ss.length ≤ 4611686018427387904) (h2 : fs.length ≤ 4611686018427387903) (h3 : ∀ s ∈ ss, s.2.2.length ≤ 4611686018427387904) : Meets Tryz.prog E0 n_law12_RulesFirst [rulesV ss fs, Str (toB n), .ag ((stT m).map .t)] [] (Bo true) [] := by
  simp only [stT, List.map]
  refine st0 m_law12_RulesFirst ?_
  have c0 := f_law12_great ss fs h1 h2 h3
  have hl1 : (ss.map stT).length = ss.length := by simp
  have hG : ∀ y : Int, decide (y = y) = true := fun y => decide_eq_true rfl
  have hz : (m.2.2.map slT).length = m.2.2.length := by simp
  generalize greatN ss ((ss.length : Int) + (fs.length : Int)) = gn at *
  unfold rulesV at c0 ⊢
  simp only [go_sem, s_law12_RulesFirst]
  refine Cl_plain f_law12_alive ?_
  simp only [go_sem]
  refine Cl_plain c0 ?_
  cases hg : decide (500 < gn)
  case true =>
    simp only [go_sem]
    refine wE ?_
    simp only [go_sem, r_law12_RulesFirst]
  case false =>
    cases hn : decide ((500 : Int) < (n.length : Int))
    case true =>
      simp only [go_sem, toB_size, hn]
      refine wE ?_
      simp only [go_sem, r_law12_RulesFirst]
    case false =>
      cases hm : decide ((100 : Int) < (m.2.2.length : Int))
      case true =>
        simp only [go_sem, toB_size, hn, hz, hm]
        refine wE ?_
        simp only [go_sem, r_law12_RulesFirst]
      case false =>
        cases hs : decide ((15 : Int) < (ss.length : Int))
        case true =>
          simp only [go_sem, toB_size, hn, hz, hm, hl1, hs]
          refine wE ?_
          simp only [go_sem, r_law12_RulesFirst]
        case false =>
          have hn' := of_decide_eq_false hn
          have hs' := of_decide_eq_false hs
          have c1 := f_rules_Find ss fs n (by omega)
          have c2 := f_rules_Find (ss ++ [m]) fs n (by omega)
          have c3 := f_ref12_Right (ss ++ [m]) fs
          have c4 := f_rules_Find [m] fs n (by omega)
          have c5 := f_rules_Find (noneS :: ss) fs (n ++ [120]) (by simp; omega)
          have c6 := f_rules_Find ss fs (n ++ [120]) (by simp; omega)
          have g1 := f_ref12_SameSchema (findM ss fs n).1 (by have := find_len ss fs n; omega)
          have g4 := f_ref12_SameSchema (findM [m] fs n).1 (by have := find_len [m] fs n; omega)
          have g6 := f_ref12_SameSchema (findM ss fs (n ++ [120])).1 (by have := find_len ss fs (n ++ [120]); omega)
          have ha : binStr .add (toB n) (bs [120]) = some (.string (toB (n ++ [120]))) := addT n [120] (by simp; omega)
          have hb1 : (ss.length + 1) * 56 ≤ 2 ^ 47 := by omega
          have hb2 : ss.length + 1 < 2 ^ 47 := by omega
          have hb3 : ss.length * 56 ≤ 2 ^ 47 := by omega
          have hb4 : ss.length < 2 ^ 47 := by omega
          have em : ss.map stT ++ [[.v (.string (toB m.1)), .v (.string (toB m.2.1)), .sl 2 (m.2.2.map slT)]] = (ss ++ [m]).map stT := by simp [stT]
          have hl5 : ((ss ++ [m]).map stT).length = ss.length + 1 := by simp
          unfold rulesV at c1 c2 c3 c4 c5 c6
          simp only [go_sem, toB_size, hn, hz, hm, hl1, hs]
          refine Cl_plain c1 ?_
          simp only [go_sem, toB_size, hl1, hb1, hb2, hb3, hb4, em]
          ((try (with_reducible refine rF ?_)); (try simp only [go_sem, toB_size, hl1, hb1, hb2, hb3, hb4, em]))
          refine Cl_show [144] c2 ?_ (by simp [stoOf]) ?_
          · exact .ag (.one (Wk.row (by simp [slTrees, AV.asOwn, rowPart, stoOf, List.take_of_length_le]) (by simp)) (.one (Wk.refl _) .nil)) (.one (Wk.refl _) .nil)
          simp only [go_sem, froze, stoOf]
          refine Cl_keep [] c3 ?_ (by simp) rfl ?_
          · exact .ag (.one (Wk.fro (by simp [slTrees, AV.asOwn, rowPart, stoOf, List.take_of_length_le]) (by simp [stoOf]; rfl)) (.one (Wk.refl _) .nil)) .nil
          cases hr : rightM (ss ++ [m]) fs
          case false =>
            have hf1 : (findM (ss ++ [m]) fs n).2 = 1 := by unfold findM; rw [hr]; rfl
            rw [hf1]
            simp only [go_sem]
            refine wE ?_
            simp only [go_sem, r_law12_RulesFirst]
          case true =>
            have hno := find_none n (right_snoc hr).1 (by omega)
            rw [hno] at c5
            rcases find_behind n hr with ⟨e0, e1⟩ | ⟨e0, e1⟩
            · rw [e1, e0]
              simp only [go_sem]
              refine Cl_plain g1 ?_
              simp only [go_sem]
              refine wE ?_
              simp only [go_sem, r_law12_RulesFirst]
            · rw [e1, e0]
              simp only [go_sem]
              refine Cl_show [173] c4 ?_ (by simp [stoOf]) ?_
              · exact .ag (.one (Wk.row (by simp [slTrees, AV.asOwn, rowPart, stoOf, stT]) (by simp)) (.one (Wk.refl _) .nil)) (.one (Wk.refl _) .nil)
              simp only [go_sem, froze, stoOf, hG]
              refine Cl_plain g4 ?_
              have el : (ss.map stT).length = ss.length := by simp
              have b5 : (1 + ss.length) * 56 ≤ 2 ^ 47 := by omega
              have b6 : 1 + ss.length < 2 ^ 47 := by omega
              simp only [go_sem, ha, b5, b6, el]
              refine Cl_show [207, 196] c5 ?_ (by simp [stoOf]) ?_
              · exact .ag (.one (Wk.rowA (by simp) (by simp [-List.map_map, shA, rowsT, cellsT, cellT, stoOf, noneS, rowPart, slTrees, AV.asOwn, slT, Nat.add_comm]; rfl)) (.one (Wk.refl _) .nil)) (.one (Wk.refl _) .nil)
              simp only [go_sem, froze, stoOf, ha]
              refine Cl_plain c6 ?_
              simp only [go_sem, hG]
              refine Cl_plain g6 ?_
              simp only [go_sem]
              refine wE ?_
              simp only [go_sem, r_law12_RulesFirst]

end Go.Proofs.YtaeleljlpcjcdaaGreatDoor
