/- Contracts of spans of rings. No statement of the seat is proved here. -/
import Derived.Test.YtmjlldlaigoflaaGreatRgSet
set_option linter.unusedSimpArgs false
set_option linter.unusedVariables false
namespace Go.Proofs.YtmjlldlaigoflaaGreat
open Go Go.Sx

theorem spanM_bad {w : Int} {l : List Slot} {a b : Int} (h : (ringB w l && timedB a && timedB b) = false) : spanM w l a b = ([], 1) := by
  simp only [spanM, h]; rfl

theorem spanM_many {w : Int} {l : List Slot} {a b : Int} (h : (ringB w l && timedB a && timedB b) = true) (h2 : 2000 < cntM w a b) : spanM w l a b = ([], 11) := by
  simp only [spanM, h, if_true, if_pos h2]

theorem spanM_ok {w : Int} {l : List Slot} {a b : Int} (h : (ringB w l && timedB a && timedB b) = true) (h2 : ¬ 2000 < cntM w a b) : spanM w l a b = (spanL w l a (cntM w a b), 0) := by
  simp only [spanM, h, if_true, if_neg h2]

theorem cnt_lt {w a b : Int} (hw : 0 < w) (i : Nat) : (ceilM w a + (i : Int)) * w < b ↔ i < cntM w a b := by
  rw [ceil_lt hw]; unfold cntM; omega

theorem ringB_value {w : Int} {l : List Slot} {k : Int} (h : timedB (k * w) = true) (hr : ringB w l = true) : getM w l (k * w) = valueM w l (k * w) := by
  simp [getM, h, hr]

end Go.Proofs.YtmjlldlaigoflaaGreat
