/- The contract of the plain ladder's accepting a point. No statement of the seat is proved here. -/
import Derived.Test.YtmjlldlaigoflaaGreatLdAccM
set_option linter.unusedSimpArgs false
set_option linter.unusedVariables false
namespace Go.Proofs.YtmjlldlaigoflaaGreat
open Go Go.Sx

theorem setM_slot {w t v : Int} {l : List Slot} (h : ringB w l = true) (ht : timedB t = true) (hv : v ≠ -9223372036854775808) : setM w l (t - t % w) v = setM w l t v := by
  have h1 := ring_bd h
  have ht' := timedB_iff.1 ht
  have hs := slot_bd h1.1 ht'.1
  have hts : timedB (t - t % w) = true := timedB_iff.2 ⟨hs.1, by omega⟩
  rw [setM_ok h hts hv, setM_ok h ht hv, hs.2.2, Int.sub_zero]

end Go.Proofs.YtmjlldlaigoflaaGreat
