/-
  No cell of these rows narrows 'for every input' (looked for: loops, veiled, ifaces, maps, wideKeys, modest, calm, conditions, laid).
  DERIVED. THE GIVEN ROWS OF THIS SEAT. 9 by the template 'for every input the law returns true; each argument reads behind the call as it read before'; 0 by the template 'total and deterministic' (their statements: YtkfobemhnonejaaTotals.lean).
  GIVEN WITH THE SEED: the statements are not yours to turn. If you find one false, say at which input.
  Laid BY PROGRAM, IN A SANDBOX (cutbox-rows.mjs): the forced cells as the released guide's own fill.sh prints them over the translation 1262f4fa2da4f623… (all of the seat's roots in one cut). By AI agents, Wed Nov 11 2026. No macro, syntax, notation, axiom, sorry.
-/
import Derived.Test.YtkfobemhnonejaaChecked
import GoSem.Claim
import GoSem.ClaimJoined
import GoSem.ClaimMapViews
import Derived.JoinedTies
import Derived.KernelRfl
namespace Go.Proofs.Ytkfobemhnonejaa
/- THE CELL 'sum', in the pinned program and in every row, IS THE sha256 OF THE DUMP (.gsa) THAT YtkfobemhnonejaaProg.lean LOADS. Nothing in Lean hashes anything: it is a label: what it is worth is what the hold of that sum in a sandbox is worth. -/
noncomputable def Try.pinned : Pinned := { name := "ytkfobemhnonejaa", sum := "1262f4fa2da4f6232f1cfaf36e0d11e8898ff30d426e18fd8ab4b64944849ae7", checked := Try.checked }
namespace Rows
def none {H : Type} : Left H := { results := [], args := [] }

/-- 'isobarlaw02.FixedMuls': WHATEVER THE INPUT: true; the input reads as it did. -/
def fixedMulsSpec : ChangeSpec := { name := "fixedMuls", fn := fun _ => fun
  | [d1, d2] => { results := [.lit (.bool true)], args := [d1, d2] }
  | _ => none }
def fixedMulsRow : OpenClaim := { program := "ytkfobemhnonejaa", sum := "1262f4fa2da4f6232f1cfaf36e0d11e8898ff30d426e18fd8ab4b64944849ae7", func := "isobar/isobarlaw02.FixedMuls", spec := "fixedMuls", inPlace := ["math/bits.Add64"], named := ["math/bits.divideError", "math/bits.overflowError"], apart := false }
def FixedMulsSaid : Prop := fixedMulsRow.holds Try.pinned (OpenSpec.ofChange fixedMulsSpec)

/-- ITS FALSE NEIGHBOUR: 'it returns false'. Refute it at one input. -/
def fixedMulsWrong : ChangeSpec := { name := "fixedMuls", fn := fun _ => fun
  | [d1, d2] => { results := [.lit (.bool false)], args := [d1, d2] }
  | _ => none }
def FixedMulsWrongFalsely : Prop := fixedMulsRow.holds Try.pinned (OpenSpec.ofChange fixedMulsWrong)

/-- 'isobarlaw02.FixedRoots': WHATEVER THE INPUT: true; the input reads as it did. -/
def fixedRootsSpec : ChangeSpec := { name := "fixedRoots", fn := fun _ => fun
  | [d1, d2] => { results := [.lit (.bool true)], args := [d1, d2] }
  | _ => none }
def fixedRootsRow : OpenClaim := { program := "ytkfobemhnonejaa", sum := "1262f4fa2da4f6232f1cfaf36e0d11e8898ff30d426e18fd8ab4b64944849ae7", func := "isobar/isobarlaw02.FixedRoots", spec := "fixedRoots", inPlace := ["math/bits.Add64"], named := ["math/bits.divideError", "math/bits.overflowError"], apart := false }
def FixedRootsSaid : Prop := fixedRootsRow.holds Try.pinned (OpenSpec.ofChange fixedRootsSpec)

/-- ITS FALSE NEIGHBOUR: 'it returns false'. Refute it at one input. -/
def fixedRootsWrong : ChangeSpec := { name := "fixedRoots", fn := fun _ => fun
  | [d1, d2] => { results := [.lit (.bool false)], args := [d1, d2] }
  | _ => none }
def FixedRootsWrongFalsely : Prop := fixedRootsRow.holds Try.pinned (OpenSpec.ofChange fixedRootsWrong)

/-- 'isobarlaw02.FixedNear': WHATEVER THE INPUT: true; the input reads as it did. -/
def fixedNearSpec : ChangeSpec := { name := "fixedNear", fn := fun _ => fun
  | [d1, d2] => { results := [.lit (.bool true)], args := [d1, d2] }
  | _ => none }
def fixedNearRow : OpenClaim := { program := "ytkfobemhnonejaa", sum := "1262f4fa2da4f6232f1cfaf36e0d11e8898ff30d426e18fd8ab4b64944849ae7", func := "isobar/isobarlaw02.FixedNear", spec := "fixedNear", inPlace := ["math/bits.Add64"], named := ["math/bits.divideError", "math/bits.overflowError"], apart := false }
def FixedNearSaid : Prop := fixedNearRow.holds Try.pinned (OpenSpec.ofChange fixedNearSpec)

/-- ITS FALSE NEIGHBOUR: 'it returns false'. Refute it at one input. -/
def fixedNearWrong : ChangeSpec := { name := "fixedNear", fn := fun _ => fun
  | [d1, d2] => { results := [.lit (.bool false)], args := [d1, d2] }
  | _ => none }
def FixedNearWrongFalsely : Prop := fixedNearRow.holds Try.pinned (OpenSpec.ofChange fixedNearWrong)

/-- 'isobarlaw02.FixedRoot': WHATEVER THE INPUT: true; the input reads as it did. -/
def fixedRootSpec : ChangeSpec := { name := "fixedRoot", fn := fun _ => fun
  | [d] => { results := [.lit (.bool true)], args := [d] }
  | _ => none }
def fixedRootRow : OpenClaim := { program := "ytkfobemhnonejaa", sum := "1262f4fa2da4f6232f1cfaf36e0d11e8898ff30d426e18fd8ab4b64944849ae7", func := "isobar/isobarlaw02.FixedRoot", spec := "fixedRoot", inPlace := ["math/bits.Add64"], named := ["math/bits.divideError", "math/bits.overflowError"], apart := false }
def FixedRootSaid : Prop := fixedRootRow.holds Try.pinned (OpenSpec.ofChange fixedRootSpec)

/-- ITS FALSE NEIGHBOUR: 'it returns false'. Refute it at one input. -/
def fixedRootWrong : ChangeSpec := { name := "fixedRoot", fn := fun _ => fun
  | [d] => { results := [.lit (.bool false)], args := [d] }
  | _ => none }
def FixedRootWrongFalsely : Prop := fixedRootRow.holds Try.pinned (OpenSpec.ofChange fixedRootWrong)

/-- 'isobarlaw02.FixedMakes': WHATEVER THE INPUT: true; the input reads as it did. -/
def fixedMakesSpec : ChangeSpec := { name := "fixedMakes", fn := fun _ => fun
  | [d1, d2, d3] => { results := [.lit (.bool true)], args := [d1, d2, d3] }
  | _ => none }
def fixedMakesRow : OpenClaim := { program := "ytkfobemhnonejaa", sum := "1262f4fa2da4f6232f1cfaf36e0d11e8898ff30d426e18fd8ab4b64944849ae7", func := "isobar/isobarlaw02.FixedMakes", spec := "fixedMakes", inPlace := ["math/bits.Add64"], named := ["math/bits.divideError", "math/bits.overflowError"], apart := false }
def FixedMakesSaid : Prop := fixedMakesRow.holds Try.pinned (OpenSpec.ofChange fixedMakesSpec)

/-- ITS FALSE NEIGHBOUR: 'it returns false'. Refute it at one input. -/
def fixedMakesWrong : ChangeSpec := { name := "fixedMakes", fn := fun _ => fun
  | [d1, d2, d3] => { results := [.lit (.bool false)], args := [d1, d2, d3] }
  | _ => none }
def FixedMakesWrongFalsely : Prop := fixedMakesRow.holds Try.pinned (OpenSpec.ofChange fixedMakesWrong)

/-- 'isobarlaw02.FixedThree': WHATEVER THE INPUT: true; the input reads as it did. -/
def fixedThreeSpec : ChangeSpec := { name := "fixedThree", fn := fun _ => fun
  | [d1, d2, d3] => { results := [.lit (.bool true)], args := [d1, d2, d3] }
  | _ => none }
def fixedThreeRow : OpenClaim := { program := "ytkfobemhnonejaa", sum := "1262f4fa2da4f6232f1cfaf36e0d11e8898ff30d426e18fd8ab4b64944849ae7", func := "isobar/isobarlaw02.FixedThree", spec := "fixedThree", inPlace := ["math/bits.Add64"], named := ["math/bits.divideError", "math/bits.overflowError"], apart := false }
def FixedThreeSaid : Prop := fixedThreeRow.holds Try.pinned (OpenSpec.ofChange fixedThreeSpec)

/-- ITS FALSE NEIGHBOUR: 'it returns false'. Refute it at one input. -/
def fixedThreeWrong : ChangeSpec := { name := "fixedThree", fn := fun _ => fun
  | [d1, d2, d3] => { results := [.lit (.bool false)], args := [d1, d2, d3] }
  | _ => none }
def FixedThreeWrongFalsely : Prop := fixedThreeRow.holds Try.pinned (OpenSpec.ofChange fixedThreeWrong)

/-- 'isobarlaw02.FixedLaws': WHATEVER THE INPUT: true; the input reads as it did. -/
def fixedLawsSpec : ChangeSpec := { name := "fixedLaws", fn := fun _ => fun
  | [d1, d2] => { results := [.lit (.bool true)], args := [d1, d2] }
  | _ => none }
def fixedLawsRow : OpenClaim := { program := "ytkfobemhnonejaa", sum := "1262f4fa2da4f6232f1cfaf36e0d11e8898ff30d426e18fd8ab4b64944849ae7", func := "isobar/isobarlaw02.FixedLaws", spec := "fixedLaws", inPlace := ["math/bits.Add64"], named := ["math/bits.divideError", "math/bits.overflowError"], apart := false }
def FixedLawsSaid : Prop := fixedLawsRow.holds Try.pinned (OpenSpec.ofChange fixedLawsSpec)

/-- ITS FALSE NEIGHBOUR: 'it returns false'. Refute it at one input. -/
def fixedLawsWrong : ChangeSpec := { name := "fixedLaws", fn := fun _ => fun
  | [d1, d2] => { results := [.lit (.bool false)], args := [d1, d2] }
  | _ => none }
def FixedLawsWrongFalsely : Prop := fixedLawsRow.holds Try.pinned (OpenSpec.ofChange fixedLawsWrong)

/-- 'isobarlaw02.FixedAdds': WHATEVER THE INPUT: true; the input reads as it did. -/
def fixedAddsSpec : ChangeSpec := { name := "fixedAdds", fn := fun _ => fun
  | [d1, d2] => { results := [.lit (.bool true)], args := [d1, d2] }
  | _ => none }
def fixedAddsRow : OpenClaim := { program := "ytkfobemhnonejaa", sum := "1262f4fa2da4f6232f1cfaf36e0d11e8898ff30d426e18fd8ab4b64944849ae7", func := "isobar/isobarlaw02.FixedAdds", spec := "fixedAdds", inPlace := ["math/bits.Add64"], named := ["math/bits.divideError", "math/bits.overflowError"], apart := false }
def FixedAddsSaid : Prop := fixedAddsRow.holds Try.pinned (OpenSpec.ofChange fixedAddsSpec)

/-- ITS FALSE NEIGHBOUR: 'it returns false'. Refute it at one input. -/
def fixedAddsWrong : ChangeSpec := { name := "fixedAdds", fn := fun _ => fun
  | [d1, d2] => { results := [.lit (.bool false)], args := [d1, d2] }
  | _ => none }
def FixedAddsWrongFalsely : Prop := fixedAddsRow.holds Try.pinned (OpenSpec.ofChange fixedAddsWrong)

/-- 'isobarlaw02.FixedOrders': WHATEVER THE INPUT: true; the input reads as it did. -/
def fixedOrdersSpec : ChangeSpec := { name := "fixedOrders", fn := fun _ => fun
  | [d1, d2] => { results := [.lit (.bool true)], args := [d1, d2] }
  | _ => none }
def fixedOrdersRow : OpenClaim := { program := "ytkfobemhnonejaa", sum := "1262f4fa2da4f6232f1cfaf36e0d11e8898ff30d426e18fd8ab4b64944849ae7", func := "isobar/isobarlaw02.FixedOrders", spec := "fixedOrders", inPlace := ["math/bits.Add64"], named := ["math/bits.divideError", "math/bits.overflowError"], apart := false }
def FixedOrdersSaid : Prop := fixedOrdersRow.holds Try.pinned (OpenSpec.ofChange fixedOrdersSpec)

/-- ITS FALSE NEIGHBOUR: 'it returns false'. Refute it at one input. -/
def fixedOrdersWrong : ChangeSpec := { name := "fixedOrders", fn := fun _ => fun
  | [d1, d2] => { results := [.lit (.bool false)], args := [d1, d2] }
  | _ => none }
def FixedOrdersWrongFalsely : Prop := fixedOrdersRow.holds Try.pinned (OpenSpec.ofChange fixedOrdersWrong)

/- THE SECOND FORM. 'bulk': how many values and letters a reading holds, each counted each time it is reached (what is shared counts as often as it is met; a slice's spare places count too). A statement '..UptoSaid' is the law's where the arguments, and the package variables that the reading takes, are together of bulk at most 1048576: NARROWER than '..Said'. Prove '..Said' where nothing that the law and all that it calls make is longer than what came in: it says more and counts as full. Else prove '..UptoSaid'. A law counts once. -/
mutual
def uptoBulk {H : Type} : DataW H → Nat
  | .lit (.string bytes) => bytes.length + 1
  | .lit _ => 1
  | .nil => 1
  | .ptr d => uptoBulk d + 1
  | .slice elems spare => uptoBulkAll elems + uptoBulkAll spare + 1
  | .agg parts => uptoBulkAll parts + 1
  | .iface _ d => uptoBulk d + 1
  | .map entries => uptoBulkEntries entries + 1
  | .held _ => 1
def uptoBulkAll {H : Type} : List (DataW H) → Nat
  | [] => 0
  | d :: r => uptoBulk d + uptoBulkAll r
def uptoBulkEntries {H : Type} : List (Lit × DataW H) → Nat
  | [] => 0
  | x :: r => uptoBulkEntry x + uptoBulkEntries r
def uptoBulkEntry {H : Type} : Lit × DataW H → Nat
  | (.string bytes, d) => bytes.length + uptoBulk d + 1
  | (_, d) => uptoBulk d + 1
 end
def uptoSmall : (H : Type) → List (DataW H) → Bool := fun _ ds => decide (uptoBulkAll ds ≤ 1048576)
def OpenSpec.upto (s : _root_.Go.ChangeSpec) : _root_.Go.OpenSpec := { _root_.Go.OpenSpec.ofChange s with cond := some uptoSmall }

/-- 'isobarlaw02.FixedMuls', WHERE WHAT IT READS IS OF BULK AT MOST 1048576: true; the input reads as it did. -/
def fixedMulsUptoRow : OpenClaim := { program := "ytkfobemhnonejaa", sum := "1262f4fa2da4f6232f1cfaf36e0d11e8898ff30d426e18fd8ab4b64944849ae7", func := "isobar/isobarlaw02.FixedMuls", spec := "fixedMuls", inPlace := ["math/bits.Add64"], named := ["math/bits.divideError", "math/bits.overflowError"], apart := false, narrowed := true }
def FixedMulsUptoSaid : Prop := fixedMulsUptoRow.holds Try.pinned (OpenSpec.upto fixedMulsSpec)

/-- 'isobarlaw02.FixedRoots', WHERE WHAT IT READS IS OF BULK AT MOST 1048576: true; the input reads as it did. -/
def fixedRootsUptoRow : OpenClaim := { program := "ytkfobemhnonejaa", sum := "1262f4fa2da4f6232f1cfaf36e0d11e8898ff30d426e18fd8ab4b64944849ae7", func := "isobar/isobarlaw02.FixedRoots", spec := "fixedRoots", inPlace := ["math/bits.Add64"], named := ["math/bits.divideError", "math/bits.overflowError"], apart := false, narrowed := true }
def FixedRootsUptoSaid : Prop := fixedRootsUptoRow.holds Try.pinned (OpenSpec.upto fixedRootsSpec)

/-- 'isobarlaw02.FixedNear', WHERE WHAT IT READS IS OF BULK AT MOST 1048576: true; the input reads as it did. -/
def fixedNearUptoRow : OpenClaim := { program := "ytkfobemhnonejaa", sum := "1262f4fa2da4f6232f1cfaf36e0d11e8898ff30d426e18fd8ab4b64944849ae7", func := "isobar/isobarlaw02.FixedNear", spec := "fixedNear", inPlace := ["math/bits.Add64"], named := ["math/bits.divideError", "math/bits.overflowError"], apart := false, narrowed := true }
def FixedNearUptoSaid : Prop := fixedNearUptoRow.holds Try.pinned (OpenSpec.upto fixedNearSpec)

/-- 'isobarlaw02.FixedRoot', WHERE WHAT IT READS IS OF BULK AT MOST 1048576: true; the input reads as it did. -/
def fixedRootUptoRow : OpenClaim := { program := "ytkfobemhnonejaa", sum := "1262f4fa2da4f6232f1cfaf36e0d11e8898ff30d426e18fd8ab4b64944849ae7", func := "isobar/isobarlaw02.FixedRoot", spec := "fixedRoot", inPlace := ["math/bits.Add64"], named := ["math/bits.divideError", "math/bits.overflowError"], apart := false, narrowed := true }
def FixedRootUptoSaid : Prop := fixedRootUptoRow.holds Try.pinned (OpenSpec.upto fixedRootSpec)

/-- 'isobarlaw02.FixedMakes', WHERE WHAT IT READS IS OF BULK AT MOST 1048576: true; the input reads as it did. -/
def fixedMakesUptoRow : OpenClaim := { program := "ytkfobemhnonejaa", sum := "1262f4fa2da4f6232f1cfaf36e0d11e8898ff30d426e18fd8ab4b64944849ae7", func := "isobar/isobarlaw02.FixedMakes", spec := "fixedMakes", inPlace := ["math/bits.Add64"], named := ["math/bits.divideError", "math/bits.overflowError"], apart := false, narrowed := true }
def FixedMakesUptoSaid : Prop := fixedMakesUptoRow.holds Try.pinned (OpenSpec.upto fixedMakesSpec)

/-- 'isobarlaw02.FixedThree', WHERE WHAT IT READS IS OF BULK AT MOST 1048576: true; the input reads as it did. -/
def fixedThreeUptoRow : OpenClaim := { program := "ytkfobemhnonejaa", sum := "1262f4fa2da4f6232f1cfaf36e0d11e8898ff30d426e18fd8ab4b64944849ae7", func := "isobar/isobarlaw02.FixedThree", spec := "fixedThree", inPlace := ["math/bits.Add64"], named := ["math/bits.divideError", "math/bits.overflowError"], apart := false, narrowed := true }
def FixedThreeUptoSaid : Prop := fixedThreeUptoRow.holds Try.pinned (OpenSpec.upto fixedThreeSpec)

/-- 'isobarlaw02.FixedLaws', WHERE WHAT IT READS IS OF BULK AT MOST 1048576: true; the input reads as it did. -/
def fixedLawsUptoRow : OpenClaim := { program := "ytkfobemhnonejaa", sum := "1262f4fa2da4f6232f1cfaf36e0d11e8898ff30d426e18fd8ab4b64944849ae7", func := "isobar/isobarlaw02.FixedLaws", spec := "fixedLaws", inPlace := ["math/bits.Add64"], named := ["math/bits.divideError", "math/bits.overflowError"], apart := false, narrowed := true }
def FixedLawsUptoSaid : Prop := fixedLawsUptoRow.holds Try.pinned (OpenSpec.upto fixedLawsSpec)

/-- 'isobarlaw02.FixedAdds', WHERE WHAT IT READS IS OF BULK AT MOST 1048576: true; the input reads as it did. -/
def fixedAddsUptoRow : OpenClaim := { program := "ytkfobemhnonejaa", sum := "1262f4fa2da4f6232f1cfaf36e0d11e8898ff30d426e18fd8ab4b64944849ae7", func := "isobar/isobarlaw02.FixedAdds", spec := "fixedAdds", inPlace := ["math/bits.Add64"], named := ["math/bits.divideError", "math/bits.overflowError"], apart := false, narrowed := true }
def FixedAddsUptoSaid : Prop := fixedAddsUptoRow.holds Try.pinned (OpenSpec.upto fixedAddsSpec)

/-- 'isobarlaw02.FixedOrders', WHERE WHAT IT READS IS OF BULK AT MOST 1048576: true; the input reads as it did. -/
def fixedOrdersUptoRow : OpenClaim := { program := "ytkfobemhnonejaa", sum := "1262f4fa2da4f6232f1cfaf36e0d11e8898ff30d426e18fd8ab4b64944849ae7", func := "isobar/isobarlaw02.FixedOrders", spec := "fixedOrders", inPlace := ["math/bits.Add64"], named := ["math/bits.divideError", "math/bits.overflowError"], apart := false, narrowed := true }
def FixedOrdersUptoSaid : Prop := fixedOrdersUptoRow.holds Try.pinned (OpenSpec.upto fixedOrdersSpec)

end Rows
end Go.Proofs.Ytkfobemhnonejaa
