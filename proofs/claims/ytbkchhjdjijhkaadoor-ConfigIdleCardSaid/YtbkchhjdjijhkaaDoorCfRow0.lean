/- The witness's world of the rows on configurations. No statement of the seat is proved here. -/
import Derived.Test.YtbkchhjdjijhkaaDoorCfLaw2
import Derived.Test.YtbkchhjdjijhkaaDoorRowBase
import Derived.Test.YtbkchhjdjijhkaaDoorCards
import Derived.Test.YtbkchhjdjijhkaaDoorTie
import Derived.Test.YtbkchhjdjijhkaaDoorSxTab
import Derived.ProofKit
import Derived.WalkKit
import Derived.OpenShut
import Derived.Deep.DeepHandedRow
import Derived.Deep.DeepWitnessRowRef
import Derived.Lib.LaidTab
set_option linter.unusedSimpArgs false
set_option linter.unusedVariables false
namespace Go.Proofs.YtbkchhjdjijhkaaDoor
open Go Go.Sx Go.ChangeShapes Go.WideShapes Go.ChangeAt Go.RowKit

/-- The witness's world: the listed variables hold what their initialisers lay. -/
noncomputable def laidWorld (os : Os) : World :=
  let N := (World.settled Tryd.prog os).heap.size
  let w0 := World.holding Tryd.prog os ⟨#[], #[], []⟩
  let put (h : Array Obj) (g : Nat) (cs : Array Value) : Array Obj := h.modify g fun
    | .cells _ t frozen => .cells cs t frozen
    | o => o
  let h0 := w0.heap
  let h1 := put h0 2 #[.int .u8 (128), .int .u8 (191), .int .u8 (160), .int .u8 (191), .int .u8 (128), .int .u8 (159), .int .u8 (144), .int .u8 (191), .int .u8 (128), .int .u8 (143), .int .u8 (0), .int .u8 (0), .int .u8 (0), .int .u8 (0), .int .u8 (0), .int .u8 (0), .int .u8 (0), .int .u8 (0), .int .u8 (0), .int .u8 (0), .int .u8 (0), .int .u8 (0), .int .u8 (0), .int .u8 (0), .int .u8 (0), .int .u8 (0), .int .u8 (0), .int .u8 (0), .int .u8 (0), .int .u8 (0), .int .u8 (0), .int .u8 (0)]
  let h2 := put h1 1 (Go.Pinned.utf8FirstZ.map fun z : Nat => Value.int .u8 (z : Int)).toArray
  { w0 with heap := h2 }

theorem toB_self (s : ByteArray) : toB s.data.toList = s := bytes_ext (by rw [toB_data])

end Go.Proofs.YtbkchhjdjijhkaaDoor
