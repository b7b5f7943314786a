/-
  DERIVED. GIVEN WITH THE SEED: THE CARDS: each row of YtgmpceijcdimkaaGreatDoorRows.lean that lists a variable, with what it lists TIED to the program's text (the seventh form; the later family's looks); each row that meets fmt, with fmt's text TOLD by the authors' own Lean function (tested against real Go, not proved from fmt's source: count such statements apart). THE CARD IS WHAT COUNTS. Prove the row's statement (the work); the ties are given (YtgmpceijcdimkaaGreatDoorTie.lean); close each card by the builder's one call (the guide's Derived/Test/ToyasCard.lean, 'card_holds'). Laid BY PROGRAM, IN A SANDBOX (cutbox-door.mjs). By AI agents, Wed Nov 11 2026. No macro, syntax, notation, axiom, sorry.
-/
import Derived.Test.YtgmpceijcdimkaaGreatDoorRows
import GoSem.ClaimSeven
namespace Go.Proofs.YtgmpceijcdimkaaGreatDoor
namespace Rows

/-- THE TIED CARD OF 'isobarlaw27.ChooseApplies'. -/
def chooseAppliesCard : Claim7 := { stood := { row := chooseAppliesRow, standIns := [], harness := (true, "e9e976a385f6b172b5309bb6fc2ee6dda3e6883077a77133a1665f4a937ecb84"), looks := false }, kinds := [], alts := [], laidByText := true, laidKinds := [.data, .pinned], laidTests := true, laidLooks := .later }
def ChooseAppliesCardSaid : Prop := Claim7.holds Tryz.pinned (.plain (OpenSpec.ofChange chooseAppliesSpec)) chooseAppliesCard

/-- THE TIED CARD OF 'isobarlaw27.ChooseMeasures'. -/
def chooseMeasuresCard : Claim7 := { stood := { row := chooseMeasuresRow, standIns := [], harness := (true, "e9e976a385f6b172b5309bb6fc2ee6dda3e6883077a77133a1665f4a937ecb84"), looks := false }, kinds := [], alts := [], laidByText := true, laidKinds := [.data, .pinned], laidTests := true, laidLooks := .later }
def ChooseMeasuresCardSaid : Prop := Claim7.holds Tryz.pinned (.plain (OpenSpec.ofChange chooseMeasuresSpec)) chooseMeasuresCard

/-- THE TIED CARD OF 'isobarlaw27.ChooseOf'. -/
def chooseOfCard : Claim7 := { stood := { row := chooseOfRow, standIns := [], harness := (true, "e9e976a385f6b172b5309bb6fc2ee6dda3e6883077a77133a1665f4a937ecb84"), looks := false }, kinds := [], alts := [], laidByText := true, laidKinds := [.data, .pinned], laidTests := true, laidLooks := .later }
def ChooseOfCardSaid : Prop := Claim7.holds Tryz.pinned (.plain (OpenSpec.ofChange chooseOfSpec)) chooseOfCard

/-- THE TIED CARD OF 'isobarlaw27.ChooseWays'. -/
def chooseWaysCard : Claim7 := { stood := { row := chooseWaysRow, standIns := [], harness := (true, "e9e976a385f6b172b5309bb6fc2ee6dda3e6883077a77133a1665f4a937ecb84"), looks := false }, kinds := [], alts := [], laidByText := true, laidKinds := [.data, .pinned], laidTests := true, laidLooks := .later }
def ChooseWaysCardSaid : Prop := Claim7.holds Tryz.pinned (.plain (OpenSpec.ofChange chooseWaysSpec)) chooseWaysCard

/-- THE TIED CARD OF 'isobarlaw27.ChooseFirst'. -/
def chooseFirstCard : Claim7 := { stood := { row := chooseFirstRow, standIns := [], harness := (true, "e9e976a385f6b172b5309bb6fc2ee6dda3e6883077a77133a1665f4a937ecb84"), looks := false }, kinds := [], alts := [], laidByText := true, laidKinds := [.data, .pinned], laidTests := true, laidLooks := .later }
def ChooseFirstCardSaid : Prop := Claim7.holds Tryz.pinned (.plain (OpenSpec.ofChange chooseFirstSpec)) chooseFirstCard

/-- THE SECOND FORM's CARD OF 'isobarlaw27.ChooseApplies'. -/
def chooseAppliesUptoCard : Claim7 := { stood := { row := chooseAppliesUptoRow, standIns := [], harness := (true, "e9e976a385f6b172b5309bb6fc2ee6dda3e6883077a77133a1665f4a937ecb84"), looks := false }, kinds := [], alts := [], laidByText := true, laidKinds := [.data, .pinned], laidTests := true, laidLooks := .later }
def ChooseAppliesUptoCardSaid : Prop := Claim7.holds Tryz.pinned (.plain (OpenSpec.upto chooseAppliesSpec)) chooseAppliesUptoCard

/-- THE SECOND FORM's CARD OF 'isobarlaw27.ChooseMeasures'. -/
def chooseMeasuresUptoCard : Claim7 := { stood := { row := chooseMeasuresUptoRow, standIns := [], harness := (true, "e9e976a385f6b172b5309bb6fc2ee6dda3e6883077a77133a1665f4a937ecb84"), looks := false }, kinds := [], alts := [], laidByText := true, laidKinds := [.data, .pinned], laidTests := true, laidLooks := .later }
def ChooseMeasuresUptoCardSaid : Prop := Claim7.holds Tryz.pinned (.plain (OpenSpec.upto chooseMeasuresSpec)) chooseMeasuresUptoCard

/-- THE SECOND FORM's CARD OF 'isobarlaw27.ChooseOf'. -/
def chooseOfUptoCard : Claim7 := { stood := { row := chooseOfUptoRow, standIns := [], harness := (true, "e9e976a385f6b172b5309bb6fc2ee6dda3e6883077a77133a1665f4a937ecb84"), looks := false }, kinds := [], alts := [], laidByText := true, laidKinds := [.data, .pinned], laidTests := true, laidLooks := .later }
def ChooseOfUptoCardSaid : Prop := Claim7.holds Tryz.pinned (.plain (OpenSpec.upto chooseOfSpec)) chooseOfUptoCard

/-- THE SECOND FORM's CARD OF 'isobarlaw27.ChooseWays'. -/
def chooseWaysUptoCard : Claim7 := { stood := { row := chooseWaysUptoRow, standIns := [], harness := (true, "e9e976a385f6b172b5309bb6fc2ee6dda3e6883077a77133a1665f4a937ecb84"), looks := false }, kinds := [], alts := [], laidByText := true, laidKinds := [.data, .pinned], laidTests := true, laidLooks := .later }
def ChooseWaysUptoCardSaid : Prop := Claim7.holds Tryz.pinned (.plain (OpenSpec.upto chooseWaysSpec)) chooseWaysUptoCard

/-- THE SECOND FORM's CARD OF 'isobarlaw27.ChooseFirst'. -/
def chooseFirstUptoCard : Claim7 := { stood := { row := chooseFirstUptoRow, standIns := [], harness := (true, "e9e976a385f6b172b5309bb6fc2ee6dda3e6883077a77133a1665f4a937ecb84"), looks := false }, kinds := [], alts := [], laidByText := true, laidKinds := [.data, .pinned], laidTests := true, laidLooks := .later }
def ChooseFirstUptoCardSaid : Prop := Claim7.holds Tryz.pinned (.plain (OpenSpec.upto chooseFirstSpec)) chooseFirstUptoCard
end Rows
end Go.Proofs.YtgmpceijcdimkaaGreatDoor
