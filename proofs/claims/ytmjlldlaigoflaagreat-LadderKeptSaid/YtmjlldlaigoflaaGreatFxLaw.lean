/- Contracts of the laws on numbers with six decimals. No statement of the seat is proved here. -/
import Derived.Test.YtmjlldlaigoflaaGreatFxRound
set_option linter.unusedSimpArgs false
set_option linter.unusedVariables false
namespace Go.Proofs.YtmjlldlaigoflaaGreat
open Go Go.Sx

theorem addM_rt (a b : Option Int) : Rt (addM a b) := by
  intro z h
  cases a <;> cases b <;> simp only [addM] at h
  all_goals first | exact tell_range h | cases h

theorem quo_rt (x y d : Nat) (b : Bool) : Rt (quoM x y d b) := by
  intro z h
  simp only [quoM] at h
  split at h
  · cases h
  · exact sgn_range h

theorem mulM_rt (a b : Option Int) : Rt (mulM a b) := by
  intro z h
  cases a <;> cases b <;> simp only [mulM] at h
  all_goals first | exact quo_rt _ _ _ _ z h | cases h

theorem divM_rt (a b : Option Int) : Rt (divM a b) := by
  intro z h
  cases a <;> cases b <;> simp only [divM] at h
  all_goals first | exact quo_rt _ _ _ _ z h | cases h

theorem valM_rt {x : Bool} {v : Int} (h2 : v < 9223372036854775808) : Rt (valM x v) := fun _ h => val_range h2 h

theorem negM_rt {a : Option Int} (h : Rt a) : Rt (negM a) := by
  intro z hz
  simp only [negM, Option.map_eq_some_iff] at hz
  obtain ⟨y, hy, rfl⟩ := hz
  have := h y hy
  omega

theorem addM_comm (a b : Option Int) : addM a b = addM b a := by
  cases a <;> cases b <;> simp only [addM]
  rw [Int.add_comm]

theorem quo_comm (x y d : Nat) (b : Bool) : quoM x y d b = quoM y x d b := by
  unfold quoM; rw [Nat.mul_comm]

theorem mulM_comm (a b : Option Int) : mulM a b = mulM b a := by
  cases a <;> cases b <;> simp only [mulM]
  rename_i x y
  rw [quo_comm, show (neg x != neg y) = (neg y != neg x) from by cases neg x <;> cases neg y <;> rfl]

theorem sub_swap (a b : Option Int) : addM a (negM b) = negM (addM b (negM a)) := by
  cases a <;> cases b <;> simp only [addM, negM, Option.map_none, Option.map_some]
  rename_i x y
  simp only [tellM]
  split
  · rw [if_pos (by omega), Option.map_some]; congr 1; omega
  · rw [if_neg (by omega)]; rfl

theorem rnd_one (n : Nat) : rnd (n * 1000000) 1000000 = n := by
  unfold rnd
  rw [if_neg (by omega)]; omega

theorem sgn_self {z : Int} (h : -9223372036854775808 < z ∧ z < 9223372036854775808) (b : Bool) (hb : b = neg z) : sgnM z.natAbs b = some z := by
  rw [sgn_tell (z := z), tell_in h.1 h.2]
  subst hb
  by_cases h0 : z < 0
  · simp only [neg, decide_eq_true h0, if_true]; omega
  · simp only [neg, decide_eq_false h0, Bool.false_eq_true, if_false]; omega

theorem mul_one' {z : Int} (h : -9223372036854775808 < z ∧ z < 9223372036854775808) : mulM (some z) (some 1000000) = some z := by
  show (if (1000000 : Nat) = 0 then none else sgnM (rnd (z.natAbs * 1000000) 1000000) (neg z != neg 1000000)) = _
  rw [if_neg (by decide), rnd_one, sgn_self h]
  cases neg z <;> rfl

theorem div_one' {z : Int} (h : -9223372036854775808 < z ∧ z < 9223372036854775808) : divM (some z) (some 1000000) = some z := by
  show (if (1000000 : Nat) = 0 then none else sgnM (rnd (z.natAbs * 1000000) 1000000) (neg z != neg 1000000)) = _
  rw [if_neg (by decide), rnd_one, sgn_self h]
  cases neg z <;> rfl

theorem add_sub {z : Int} {b : Option Int} {s : Int} (h : -9223372036854775808 < z ∧ z < 9223372036854775808) (he : addM (some z) b = some s) : addM (some s) (negM b) = some z := by
  cases b with
  | none => simp [addM] at he
  | some y =>
    simp only [addM, tellM] at he
    split at he
    · injection he with he; subst he
      simp only [negM, Option.map_some, addM]
      rw [tell_in (by omega) (by omega)]
      congr 1; omega
    · cases he

theorem add_assoc' (a b c : Option Int) (h1 : (addM (addM a b) c).isNone = false) (h2 : (addM a (addM b c)).isNone = false) : addM (addM a b) c = addM a (addM b c) := by
  cases a with
  | none => simp [addM] at h1
  | some x =>
    cases b with
    | none => simp [addM] at h1
    | some y =>
      cases c with
      | none => cases hxy : addM (some x) (some y) <;> simp [hxy, addM] at h1
      | some w =>
        simp only [addM, tellM] at h1 h2 ⊢
        by_cases a1 : -9223372036854775808 < x + y ∧ x + y < 9223372036854775808
        · by_cases a2 : -9223372036854775808 < y + w ∧ y + w < 9223372036854775808
          · simp only [if_pos a1, if_pos a2]; rw [Int.add_assoc]
          · rw [if_neg a2] at h2; simp at h2
        · rw [if_neg a1] at h1; simp at h1

theorem root_is {n m : Nat} (h1 : m * m ≤ n) (h2 : n < (m + 1) * (m + 1)) : n.sqrt = m := by
  have a1 := (root_le (m := m) (Nat.sqrt_le n) (Nat.lt_succ_sqrt n)).1 h1
  have a2 : ¬ (m + 1 ≤ n.sqrt) := by
    rw [← root_le (m := m + 1) (Nat.sqrt_le n) (Nat.lt_succ_sqrt n)]; omega
  omega

theorem right_f (x : Bool) (v : Int) (h : valM x v = none) : (!(if x then decide (v = 0) else decide (-9223372036854775808 < v)) || x) = true := by
  cases x
  · unfold valM at h
    simp at h
    simp; omega
  · simp

end Go.Proofs.YtmjlldlaigoflaaGreat
