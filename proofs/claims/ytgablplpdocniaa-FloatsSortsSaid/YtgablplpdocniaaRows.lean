/-
  No cell of these rows narrows 'for every input' (looked for: loops, veiled, ifaces, maps, wideKeys, modest, calm, conditions, laid).
  DERIVED. THE GIVEN ROWS OF THIS SEAT. 5 by the template 'for every input the law returns true; each argument reads behind the call as it read before'; 0 by the template 'total and deterministic' (their statements: YtgablplpdocniaaTotals.lean).
  GIVEN WITH THE SEED: the statements are not yours to turn. If you find one false, say at which input.
  Laid BY PROGRAM, IN A SANDBOX (cutbox-rows.mjs): the forced cells as the released guide's own fill.sh prints them over the translation a24da9ce6254415c… (all of the seat's roots in one cut). By AI agents, Wed Nov 11 2026. No macro, syntax, notation, axiom, sorry.
-/
import Derived.Test.YtgablplpdocniaaChecked
import GoSem.Claim
import GoSem.ClaimJoined
import GoSem.ClaimMapViews
import Derived.JoinedTies
import Derived.KernelRfl
namespace Go.Proofs.Ytgablplpdocniaa
/- THE CELL 'sum', in the pinned program and in every row, IS THE sha256 OF THE DUMP (.gsa) THAT YtgablplpdocniaaProg.lean LOADS. Nothing in Lean hashes anything: it is a label: what it is worth is what the hold of that sum in a sandbox is worth. -/
noncomputable def Try.pinned : Pinned := { name := "ytgablplpdocniaa", sum := "a24da9ce6254415c04928347beb685979fe7e154161f6723fea5df0031cdeb37", checked := Try.checked }
namespace Rows
def none {H : Type} : Left H := { results := [], args := [] }

/-- 'isobarlaw04.FloatsFrom': WHATEVER THE INPUT: true; the input reads as it did. -/
def floatsFromSpec : ChangeSpec := { name := "floatsFrom", fn := fun _ => fun
  | [d] => { results := [.lit (.bool true)], args := [d] }
  | _ => none }
def floatsFromRow : OpenClaim := { program := "ytgablplpdocniaa", sum := "a24da9ce6254415c04928347beb685979fe7e154161f6723fea5df0031cdeb37", func := "isobar/isobarlaw04.FloatsFrom", spec := "floatsFrom", inPlace := ["math.Float64bits", "math/bits.Add64", "math.Float64frombits"], unfollowed := true, recurses := true, named := ["math/bits.divideError", "math/bits.overflowError"], apart := false }
def FloatsFromSaid : Prop := floatsFromRow.holds Try.pinned (OpenSpec.ofChange floatsFromSpec)

/-- ITS FALSE NEIGHBOUR: 'it returns false'. Refute it at one input. -/
def floatsFromWrong : ChangeSpec := { name := "floatsFrom", fn := fun _ => fun
  | [d] => { results := [.lit (.bool false)], args := [d] }
  | _ => none }
def FloatsFromWrongFalsely : Prop := floatsFromRow.holds Try.pinned (OpenSpec.ofChange floatsFromWrong)

/-- 'isobarlaw04.FloatsTo': WHATEVER THE INPUT: true; the input reads as it did. -/
def floatsToSpec : ChangeSpec := { name := "floatsTo", fn := fun _ => fun
  | [d] => { results := [.lit (.bool true)], args := [d] }
  | _ => none }
def floatsToRow : OpenClaim := { program := "ytgablplpdocniaa", sum := "a24da9ce6254415c04928347beb685979fe7e154161f6723fea5df0031cdeb37", func := "isobar/isobarlaw04.FloatsTo", spec := "floatsTo", inPlace := ["math.Float64bits", "math/bits.Add64", "math.Float64frombits"], unfollowed := true, recurses := true, named := ["math/bits.divideError", "math/bits.overflowError"], apart := false }
def FloatsToSaid : Prop := floatsToRow.holds Try.pinned (OpenSpec.ofChange floatsToSpec)

/-- ITS FALSE NEIGHBOUR: 'it returns false'. Refute it at one input. -/
def floatsToWrong : ChangeSpec := { name := "floatsTo", fn := fun _ => fun
  | [d] => { results := [.lit (.bool false)], args := [d] }
  | _ => none }
def FloatsToWrongFalsely : Prop := floatsToRow.holds Try.pinned (OpenSpec.ofChange floatsToWrong)

/-- 'isobarlaw04.FloatsOrder': WHATEVER THE INPUT: true; the input reads as it did. -/
def floatsOrderSpec : ChangeSpec := { name := "floatsOrder", fn := fun _ => fun
  | [d1, d2, d3] => { results := [.lit (.bool true)], args := [d1, d2, d3] }
  | _ => none }
def floatsOrderRow : OpenClaim := { program := "ytgablplpdocniaa", sum := "a24da9ce6254415c04928347beb685979fe7e154161f6723fea5df0031cdeb37", func := "isobar/isobarlaw04.FloatsOrder", spec := "floatsOrder", inPlace := ["math.Float64bits", "math/bits.Add64", "math.Float64frombits"], unfollowed := true, recurses := true, named := ["math/bits.divideError", "math/bits.overflowError"], apart := false }
def FloatsOrderSaid : Prop := floatsOrderRow.holds Try.pinned (OpenSpec.ofChange floatsOrderSpec)

/-- ITS FALSE NEIGHBOUR: 'it returns false'. Refute it at one input. -/
def floatsOrderWrong : ChangeSpec := { name := "floatsOrder", fn := fun _ => fun
  | [d1, d2, d3] => { results := [.lit (.bool false)], args := [d1, d2, d3] }
  | _ => none }
def FloatsOrderWrongFalsely : Prop := floatsOrderRow.holds Try.pinned (OpenSpec.ofChange floatsOrderWrong)

/-- 'isobarlaw04.FloatsBack': WHATEVER THE INPUT: true; the input reads as it did. -/
def floatsBackSpec : ChangeSpec := { name := "floatsBack", fn := fun _ => fun
  | [d1, d2] => { results := [.lit (.bool true)], args := [d1, d2] }
  | _ => none }
def floatsBackRow : OpenClaim := { program := "ytgablplpdocniaa", sum := "a24da9ce6254415c04928347beb685979fe7e154161f6723fea5df0031cdeb37", func := "isobar/isobarlaw04.FloatsBack", spec := "floatsBack", inPlace := ["math.Float64bits", "math/bits.Add64", "math.Float64frombits"], unfollowed := true, recurses := true, named := ["math/bits.divideError", "math/bits.overflowError"], apart := false }
def FloatsBackSaid : Prop := floatsBackRow.holds Try.pinned (OpenSpec.ofChange floatsBackSpec)

/-- ITS FALSE NEIGHBOUR: 'it returns false'. Refute it at one input. -/
def floatsBackWrong : ChangeSpec := { name := "floatsBack", fn := fun _ => fun
  | [d1, d2] => { results := [.lit (.bool false)], args := [d1, d2] }
  | _ => none }
def FloatsBackWrongFalsely : Prop := floatsBackRow.holds Try.pinned (OpenSpec.ofChange floatsBackWrong)

/-- 'isobarlaw04.FloatsSorts': WHATEVER THE INPUT: true; the input reads as it did. -/
def floatsSortsSpec : ChangeSpec := { name := "floatsSorts", fn := fun _ => fun
  | [d] => { results := [.lit (.bool true)], args := [d] }
  | _ => none }
def floatsSortsRow : OpenClaim := { program := "ytgablplpdocniaa", sum := "a24da9ce6254415c04928347beb685979fe7e154161f6723fea5df0031cdeb37", func := "isobar/isobarlaw04.FloatsSorts", spec := "floatsSorts", inPlace := ["math.Float64bits", "math/bits.Add64", "math.Float64frombits"], unfollowed := true, recurses := true, named := ["math/bits.divideError", "math/bits.overflowError"], apart := false }
def FloatsSortsSaid : Prop := floatsSortsRow.holds Try.pinned (OpenSpec.ofChange floatsSortsSpec)

/-- ITS FALSE NEIGHBOUR: 'it returns false'. Refute it at one input. -/
def floatsSortsWrong : ChangeSpec := { name := "floatsSorts", fn := fun _ => fun
  | [d] => { results := [.lit (.bool false)], args := [d] }
  | _ => none }
def FloatsSortsWrongFalsely : Prop := floatsSortsRow.holds Try.pinned (OpenSpec.ofChange floatsSortsWrong)

/- THE SECOND FORM. 'bulk': how many values and letters a reading holds, each counted each time it is reached (what is shared counts as often as it is met; a slice's spare places count too). A statement '..UptoSaid' is the law's where the arguments, and the package variables that the reading takes, are together of bulk at most 1048576: NARROWER than '..Said'. Prove '..Said' where nothing that the law and all that it calls make is longer than what came in: it says more and counts as full. Else prove '..UptoSaid'. A law counts once. -/
mutual
def uptoBulk {H : Type} : DataW H → Nat
  | .lit (.string bytes) => bytes.length + 1
  | .lit _ => 1
  | .nil => 1
  | .ptr d => uptoBulk d + 1
  | .slice elems spare => uptoBulkAll elems + uptoBulkAll spare + 1
  | .agg parts => uptoBulkAll parts + 1
  | .iface _ d => uptoBulk d + 1
  | .map entries => uptoBulkEntries entries + 1
  | .held _ => 1
def uptoBulkAll {H : Type} : List (DataW H) → Nat
  | [] => 0
  | d :: r => uptoBulk d + uptoBulkAll r
def uptoBulkEntries {H : Type} : List (Lit × DataW H) → Nat
  | [] => 0
  | x :: r => uptoBulkEntry x + uptoBulkEntries r
def uptoBulkEntry {H : Type} : Lit × DataW H → Nat
  | (.string bytes, d) => bytes.length + uptoBulk d + 1
  | (_, d) => uptoBulk d + 1
 end
def uptoSmall : (H : Type) → List (DataW H) → Bool := fun _ ds => decide (uptoBulkAll ds ≤ 1048576)
def OpenSpec.upto (s : _root_.Go.ChangeSpec) : _root_.Go.OpenSpec := { _root_.Go.OpenSpec.ofChange s with cond := some uptoSmall }

/-- 'isobarlaw04.FloatsFrom', WHERE WHAT IT READS IS OF BULK AT MOST 1048576: true; the input reads as it did. -/
def floatsFromUptoRow : OpenClaim := { program := "ytgablplpdocniaa", sum := "a24da9ce6254415c04928347beb685979fe7e154161f6723fea5df0031cdeb37", func := "isobar/isobarlaw04.FloatsFrom", spec := "floatsFrom", inPlace := ["math.Float64bits", "math/bits.Add64", "math.Float64frombits"], unfollowed := true, recurses := true, named := ["math/bits.divideError", "math/bits.overflowError"], apart := false, narrowed := true }
def FloatsFromUptoSaid : Prop := floatsFromUptoRow.holds Try.pinned (OpenSpec.upto floatsFromSpec)

/-- 'isobarlaw04.FloatsTo', WHERE WHAT IT READS IS OF BULK AT MOST 1048576: true; the input reads as it did. -/
def floatsToUptoRow : OpenClaim := { program := "ytgablplpdocniaa", sum := "a24da9ce6254415c04928347beb685979fe7e154161f6723fea5df0031cdeb37", func := "isobar/isobarlaw04.FloatsTo", spec := "floatsTo", inPlace := ["math.Float64bits", "math/bits.Add64", "math.Float64frombits"], unfollowed := true, recurses := true, named := ["math/bits.divideError", "math/bits.overflowError"], apart := false, narrowed := true }
def FloatsToUptoSaid : Prop := floatsToUptoRow.holds Try.pinned (OpenSpec.upto floatsToSpec)

/-- 'isobarlaw04.FloatsOrder', WHERE WHAT IT READS IS OF BULK AT MOST 1048576: true; the input reads as it did. -/
def floatsOrderUptoRow : OpenClaim := { program := "ytgablplpdocniaa", sum := "a24da9ce6254415c04928347beb685979fe7e154161f6723fea5df0031cdeb37", func := "isobar/isobarlaw04.FloatsOrder", spec := "floatsOrder", inPlace := ["math.Float64bits", "math/bits.Add64", "math.Float64frombits"], unfollowed := true, recurses := true, named := ["math/bits.divideError", "math/bits.overflowError"], apart := false, narrowed := true }
def FloatsOrderUptoSaid : Prop := floatsOrderUptoRow.holds Try.pinned (OpenSpec.upto floatsOrderSpec)

/-- 'isobarlaw04.FloatsBack', WHERE WHAT IT READS IS OF BULK AT MOST 1048576: true; the input reads as it did. -/
def floatsBackUptoRow : OpenClaim := { program := "ytgablplpdocniaa", sum := "a24da9ce6254415c04928347beb685979fe7e154161f6723fea5df0031cdeb37", func := "isobar/isobarlaw04.FloatsBack", spec := "floatsBack", inPlace := ["math.Float64bits", "math/bits.Add64", "math.Float64frombits"], unfollowed := true, recurses := true, named := ["math/bits.divideError", "math/bits.overflowError"], apart := false, narrowed := true }
def FloatsBackUptoSaid : Prop := floatsBackUptoRow.holds Try.pinned (OpenSpec.upto floatsBackSpec)

/-- 'isobarlaw04.FloatsSorts', WHERE WHAT IT READS IS OF BULK AT MOST 1048576: true; the input reads as it did. -/
def floatsSortsUptoRow : OpenClaim := { program := "ytgablplpdocniaa", sum := "a24da9ce6254415c04928347beb685979fe7e154161f6723fea5df0031cdeb37", func := "isobar/isobarlaw04.FloatsSorts", spec := "floatsSorts", inPlace := ["math.Float64bits", "math/bits.Add64", "math.Float64frombits"], unfollowed := true, recurses := true, named := ["math/bits.divideError", "math/bits.overflowError"], apart := false, narrowed := true }
def FloatsSortsUptoSaid : Prop := floatsSortsUptoRow.holds Try.pinned (OpenSpec.upto floatsSortsSpec)

end Rows
end Go.Proofs.Ytgablplpdocniaa
