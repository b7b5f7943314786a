/- Numbers and units of a span's text. No statement of the seat is proved here. -/
import Derived.Test.YtbkchhjdjijhkaaDoorStrMath
import Derived.Test.YtbkchhjdjijhkaaDoorSpSeq
import Derived.Test.YtbkchhjdjijhkaaDoorSxH
set_option linter.unusedSimpArgs false
set_option linter.unusedVariables false
namespace Go.Proofs.YtbkchhjdjijhkaaDoor
open Go Go.Sx

/-- Seconds of a unit; 0: there is no such one. -/
def rtUnit (c : Nat) : Int := if c = 115 then 1 else if c = 109 then 60 else if c = 104 then 3600 else if c = 100 then 86400 else if c = 119 then 604800 else if c = 121 then 31536000 else 0

theorem rtUnit_le (c : Nat) : 0 ≤ rtUnit c ∧ rtUnit c ≤ 31536000 := by
  unfold rtUnit
  repeat' split
  all_goals omega

abbrev B8 (c : Nat) : AV := .t (.v (.int .u8 (c : Int)))

/-- Is it a digit? -/
def digB (b : UInt8) : Bool := decide (48 ≤ b.toNat) && decide (b.toNat ≤ 57)

/-- Digits that a text begins with, up to 2^40 and one; what is left. -/
def rtNum (n : Nat) : List UInt8 → Nat × List UInt8
  | [] => (n, [])
  | b :: l => if digB b then rtNum (min (n * 10 + (b.toNat - 48)) 1099511627777) l else (n, b :: l)

theorem rtNum_le : ∀ (l : List UInt8) (n : Nat), n ≤ 1099511627777 → (rtNum n l).1 ≤ 1099511627777 ∧ (rtNum n l).2.length ≤ l.length
  | [], n, h => by simp [rtNum, h]
  | b :: l, n, h => by
    simp only [rtNum]
    split
    · have := rtNum_le l (min (n * 10 + (b.toNat - 48)) 1099511627777) (Nat.min_le_right ..)
      simp only [List.length_cons]; omega
    · simp [h]

end Go.Proofs.YtbkchhjdjijhkaaDoor
