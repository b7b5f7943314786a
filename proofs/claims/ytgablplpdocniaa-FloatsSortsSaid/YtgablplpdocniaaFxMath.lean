/- Numbers with six decimals, as whole numbers or nothing. No statement of the seat is proved here. -/
import Derived.Test.YtgablplpdocniaaWdLaw
set_option linter.unusedSimpArgs false
set_option linter.unusedVariables false
namespace Go.Proofs.Ytgablplpdocniaa
open Go Go.Sx

/-- A number, or nothing. -/
abbrev NV (x : Bool) (v : Int) : AV := .ag [Bo x, I v]

/-- A number that is right, or nothing. -/
abbrev NO (o : Option Int) : AV := .ag [Bo o.isNone, I (o.getD 0)]

/-- What counts of a number. -/
def valM (x : Bool) (v : Int) : Option Int := if x = false ∧ -9223372036854775808 < v then some v else none

/-- What can be told. -/
def tellM (z : Int) : Option Int := if -9223372036854775808 < z ∧ z < 9223372036854775808 then some z else none

/-- A size with a sign. -/
def sgnM (n : Nat) (b : Bool) : Option Int := if n < 9223372036854775808 then some (if b then -(n : Int) else n) else none

def okN (x : Bool) (v : Int) : Bool := !x && decide (-9223372036854775808 < v)

theorem okN_t {x : Bool} {v : Int} (h : okN x v = true) : valM x v = some v ∧ x = false ∧ -9223372036854775808 < v := by
  simp [okN] at h; exact ⟨by simp [valM, h], h.1, h.2⟩

theorem okN_f {x : Bool} {v : Int} (h : okN x v = false) : valM x v = none := by
  simp only [okN, Bool.and_eq_false_iff, Bool.not_eq_false', decide_eq_false_iff_not] at h
  unfold valM
  rcases h with h | h
  · simp [h]
  · rw [if_neg (fun h2 => h h2.2)]

theorem valM_isSome (x : Bool) (v : Int) : (valM x v).isSome = okN x v := by
  cases h : okN x v
  · rw [okN_f h]; rfl
  · rw [(okN_t h).1]; rfl

theorem val_range {x : Bool} {v z : Int} (hv : v < 9223372036854775808) (h : valM x v = some z) : -9223372036854775808 < z ∧ z < 9223372036854775808 := by
  simp only [valM] at h
  split at h
  · injection h with h; omega
  · cases h

theorem tell_range {y z : Int} (h : tellM y = some z) : -9223372036854775808 < z ∧ z < 9223372036854775808 := by
  simp only [tellM] at h
  split at h
  · injection h with h; omega
  · cases h

theorem sgn_range {n : Nat} {b : Bool} {z : Int} (h : sgnM n b = some z) : -9223372036854775808 < z ∧ z < 9223372036854775808 := by
  simp only [sgnM] at h
  split at h
  · injection h with h; subst h; split <;> omega
  · cases h

/-- A number that came of a reckoning. -/
def Rt (o : Option Int) : Prop := ∀ z, o = some z → -9223372036854775808 < z ∧ z < 9223372036854775808

theorem Rt.lo {o : Option Int} (h : Rt o) : -9223372036854775808 ≤ o.getD 0 := by
  cases o with
  | none => simp
  | some z => have := (h z rfl).1; simp only [Option.getD_some]; omega
theorem Rt.hi {o : Option Int} (h : Rt o) : o.getD 0 < 9223372036854775808 := by
  cases o with
  | none => simp
  | some z => have := (h z rfl).2; simp only [Option.getD_some]; omega
theorem Rt.val {o : Option Int} (h : Rt o) : valM o.isNone (o.getD 0) = o := by
  cases o with
  | none => rfl
  | some z => have := (h z rfl).1; simp [valM, this]

theorem val_in {v : Int} (h : -9223372036854775808 < v) : valM false v = some v := by simp [valM, h]
theorem val_out {x : Bool} {v : Int} (h : v ≤ -9223372036854775808) : valM x v = none := by
  unfold valM; rw [if_neg (fun h2 => by have := h2.2; omega)]
theorem tell_in {z : Int} (h1 : -9223372036854775808 < z) (h2 : z < 9223372036854775808) : tellM z = some z := if_pos ⟨h1, h2⟩
theorem tell_out {z : Int} (h : z ≤ -9223372036854775808 ∨ 9223372036854775808 ≤ z) : tellM z = none := if_neg (by omega)
theorem sgn_pos {n : Nat} (h : n < 9223372036854775808) : sgnM n false = some (n : Int) := if_pos h
theorem sgn_neg {n : Nat} (h : n < 9223372036854775808) : sgnM n true = some (-(n : Int)) := if_pos h
theorem sgn_out {n : Nat} {b : Bool} (h : 9223372036854775808 ≤ n) : sgnM n b = none := if_neg (by omega)
theorem sgn_tell {n : Nat} {b : Bool} {z : Int} (h : z = if b then -(n : Int) else n) : sgnM n b = tellM z := by
  subst h
  by_cases hn : n < 9223372036854775808
  · cases b
    · rw [sgn_pos hn, if_neg (by decide), tell_in (by omega) (by omega)]
    · rw [sgn_neg hn, if_pos rfl, tell_in (by omega) (by omega)]
  · rw [sgn_out (by omega)]
    cases b
    · rw [if_neg (by decide), tell_out (by omega)]
    · rw [if_pos rfl, tell_out (by omega)]
theorem NO_some (z : Int) : NO (some z) = NV false z := rfl
theorem NO_none : NO none = NV true 0 := rfl
theorem none_getD : (none : Option Int).getD 0 = 0 := rfl

def addM (a b : Option Int) : Option Int := match a, b with
  | some x, some y => tellM (x + y)
  | _, _ => none
def negM (a : Option Int) : Option Int := a.map fun x => -x
def absM (a : Option Int) : Option Int := a.map fun x => (x.natAbs : Int)
/-- Two sizes' product, divided by a third one, and rounded, with a sign. -/
def quoM (x y d : Nat) (b : Bool) : Option Int := if d = 0 then none else sgnM (rnd (x * y) d) b
def neg (x : Int) : Bool := decide (x < 0)
def mulM (a b : Option Int) : Option Int := match a, b with
  | some x, some y => quoM x.natAbs y.natAbs 1000000 (neg x != neg y)
  | _, _ => none
def divM (a b : Option Int) : Option Int := match a, b with
  | some x, some y => quoM x.natAbs 1000000 y.natAbs (neg x != neg y)
  | _, _ => none
def rootM (a : Option Int) : Option Int := match a with
  | some x => if x < 0 then none else sgnM (Nat.sqrt (x.natAbs * 1000000)) false
  | none => none
def unitM (k : Int) : Nat := 10 ^ (6 - k.toNat)
def roundM (a : Option Int) (k : Int) : Option Int := match a with
  | some x => if k < 0 ∨ 6 < k then none else if 18446744073709551616 ≤ rnd x.natAbs (unitM k) * unitM k then none else sgnM (rnd x.natAbs (unitM k) * unitM k) (neg x)
  | none => none
def cmpM (a b : Option Int) : Int := match a, b with
  | some x, some y => if x < y then -1 else if y < x then 1 else 0
  | some _, none => 1
  | none, some _ => -1
  | none, none => 0
def lessM (a b : Option Int) : Option Int := match a, b with
  | some x, some y => if x ≤ y then some x else some y
  | some x, none => some x
  | none, y => y
def moreM (a b : Option Int) : Option Int := match a, b with
  | some x, some y => if y ≤ x then some x else some y
  | some x, none => some x
  | none, y => y

end Go.Proofs.Ytgablplpdocniaa
