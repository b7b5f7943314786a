/- A span's text, the document's way. No statement of the seat is proved here. -/
import Derived.Test.YtbkchhjdjijhkaaDoorRtNum
import Derived.Test.YtbkchhjdjijhkaaDoorSxH
set_option linter.unusedSimpArgs false
set_option linter.unusedVariables false
namespace Go.Proofs.YtbkchhjdjijhkaaDoor
open Go Go.Sx

theorem rtNum_suf : ∀ (l : List UInt8) (n : Nat), (rtNum n l).2 <:+ l
  | [], n => by simp [rtNum]
  | b :: l, n => by
    simp only [rtNum]
    split
    · exact (rtNum_suf l _).trans (List.suffix_cons b l)
    · exact List.suffix_refl _

/-- Seconds of a text; how it fails. -/
def rtSpn (l : List UInt8) : Int × Int := match rtNum 0 l with
  | (n, [c]) => if l.length = 1 then (0, 2) else if rtUnit c.toNat = 0 then (0, 2) else if (n : Int) > 1099511627776 / rtUnit c.toNat then (0, 3) else ((n : Int) * rtUnit c.toNat, 0)
  | _ => (0, 2)

/-- A span's text, or digits alone. -/
def rtEith (l : List UInt8) : Int × Bool × Int := if l ≠ [] ∧ (rtNum 0 l).2 = [] then (if (rtNum 0 l).1 > 1099511627776 then (0, true, 3) else (((rtNum 0 l).1 : Nat), true, 0)) else ((rtSpn l).1, false, (rtSpn l).2)

end Go.Proofs.YtbkchhjdjijhkaaDoor
