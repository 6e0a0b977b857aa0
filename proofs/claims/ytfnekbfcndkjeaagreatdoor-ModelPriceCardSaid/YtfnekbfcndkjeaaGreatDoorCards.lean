/-
  DERIVED. GIVEN WITH THE SEED: THE CARDS: each row of YtfnekbfcndkjeaaGreatDoorRows.lean that lists a variable, with what it lists TIED to the program's text (the seventh form; the later family's looks); each row that meets fmt, with fmt's text TOLD by the authors' own Lean function (tested against real Go, not proved from fmt's source: count such statements apart). THE CARD IS WHAT COUNTS. Prove the row's statement (the work); the ties are given (YtfnekbfcndkjeaaGreatDoorTie.lean); close each card by the builder's one call (the guide's Derived/Test/ToyasCard.lean, 'card_holds'). Laid BY PROGRAM, IN A SANDBOX (cutbox-door.mjs). By AI agents, Wed Nov 11 2026. No macro, syntax, notation, axiom, sorry.
-/
import Derived.Test.YtfnekbfcndkjeaaGreatDoorRows
import GoSem.ClaimSeven
namespace Go.Proofs.YtfnekbfcndkjeaaGreatDoor
namespace Rows

/-- THE TIED CARD OF 'consignlaw31.ModelTells'. -/
def modelTellsCard : Claim7 := { stood := { row := modelTellsRow, standIns := [], harness := (true, "0d854bc990c0d20877250d7239623f56cd80a7e84696e5d0bc947f12e7ce1415"), looks := true }, kinds := [], alts := [], laidByText := true, laidKinds := [.handle], laidTests := true, laidLooks := .later }
def ModelTellsCardSaid : Prop := Claim7.holds Tryz.pinned (.plain (OpenSpec.ofChange modelTellsSpec)) modelTellsCard

/-- THE TIED CARD OF 'consignlaw31.ModelPrice'. -/
def modelPriceCard : Claim7 := { stood := { row := modelPriceRow, standIns := [], harness := (true, "0d854bc990c0d20877250d7239623f56cd80a7e84696e5d0bc947f12e7ce1415"), looks := true }, kinds := [], alts := [], laidByText := true, laidKinds := [.handle], laidTests := true, laidLooks := .later }
def ModelPriceCardSaid : Prop := Claim7.holds Tryz.pinned (.plain (OpenSpec.ofChange modelPriceSpec)) modelPriceCard

/-- THE TIED CARD OF 'consignlaw31.ModelTwice'. -/
def modelTwiceCard : Claim7 := { stood := { row := modelTwiceRow, standIns := [], harness := (true, "0d854bc990c0d20877250d7239623f56cd80a7e84696e5d0bc947f12e7ce1415"), looks := true }, kinds := [], alts := [], laidByText := true, laidKinds := [.handle], laidTests := true, laidLooks := .later }
def ModelTwiceCardSaid : Prop := Claim7.holds Tryz.pinned (.plain (OpenSpec.ofChange modelTwiceSpec)) modelTwiceCard

/-- THE TIED CARD OF 'consignlaw31.ModelOne'. -/
def modelOneCard : Claim7 := { stood := { row := modelOneRow, standIns := [], harness := (true, "0d854bc990c0d20877250d7239623f56cd80a7e84696e5d0bc947f12e7ce1415"), looks := true }, kinds := [], alts := [], laidByText := true, laidKinds := [.handle], laidTests := true, laidLooks := .later }
def ModelOneCardSaid : Prop := Claim7.holds Tryz.pinned (.plain (OpenSpec.ofChange modelOneSpec)) modelOneCard

/-- THE TIED CARD OF 'consignlaw31.ModelTime'. -/
def modelTimeCard : Claim7 := { stood := { row := modelTimeRow, standIns := [], harness := (true, "0d854bc990c0d20877250d7239623f56cd80a7e84696e5d0bc947f12e7ce1415"), looks := true }, kinds := [], alts := [], laidByText := true, laidKinds := [.handle], laidTests := true, laidLooks := .later }
def ModelTimeCardSaid : Prop := Claim7.holds Tryz.pinned (.plain (OpenSpec.ofChange modelTimeSpec)) modelTimeCard

/-- THE TIED CARD OF 'consignlaw31.ModelTakes'. -/
def modelTakesCard : Claim7 := { stood := { row := modelTakesRow, standIns := [], harness := (true, "0d854bc990c0d20877250d7239623f56cd80a7e84696e5d0bc947f12e7ce1415"), looks := true }, kinds := [], alts := [], laidByText := true, laidKinds := [.handle], laidTests := true, laidLooks := .later }
def ModelTakesCardSaid : Prop := Claim7.holds Tryz.pinned (.plain (OpenSpec.ofChange modelTakesSpec)) modelTakesCard

/-- THE TIED CARD OF 'consignlaw31.ModelKnown'. -/
def modelKnownCard : Claim7 := { stood := { row := modelKnownRow, standIns := [], harness := (true, "0d854bc990c0d20877250d7239623f56cd80a7e84696e5d0bc947f12e7ce1415"), looks := true }, kinds := [], alts := [], laidByText := true, laidKinds := [.handle], laidTests := true, laidLooks := .later }
def ModelKnownCardSaid : Prop := Claim7.holds Tryz.pinned (.plain (OpenSpec.ofChange modelKnownSpec)) modelKnownCard

/-- THE SECOND FORM's CARD OF 'consignlaw31.ModelTells'. -/
def modelTellsUptoCard : Claim7 := { stood := { row := modelTellsUptoRow, standIns := [], harness := (true, "0d854bc990c0d20877250d7239623f56cd80a7e84696e5d0bc947f12e7ce1415"), looks := true }, kinds := [], alts := [], laidByText := true, laidKinds := [.handle], laidTests := true, laidLooks := .later }
def ModelTellsUptoCardSaid : Prop := Claim7.holds Tryz.pinned (.plain (OpenSpec.upto modelTellsSpec)) modelTellsUptoCard

/-- THE SECOND FORM's CARD OF 'consignlaw31.ModelPrice'. -/
def modelPriceUptoCard : Claim7 := { stood := { row := modelPriceUptoRow, standIns := [], harness := (true, "0d854bc990c0d20877250d7239623f56cd80a7e84696e5d0bc947f12e7ce1415"), looks := true }, kinds := [], alts := [], laidByText := true, laidKinds := [.handle], laidTests := true, laidLooks := .later }
def ModelPriceUptoCardSaid : Prop := Claim7.holds Tryz.pinned (.plain (OpenSpec.upto modelPriceSpec)) modelPriceUptoCard

/-- THE SECOND FORM's CARD OF 'consignlaw31.ModelTwice'. -/
def modelTwiceUptoCard : Claim7 := { stood := { row := modelTwiceUptoRow, standIns := [], harness := (true, "0d854bc990c0d20877250d7239623f56cd80a7e84696e5d0bc947f12e7ce1415"), looks := true }, kinds := [], alts := [], laidByText := true, laidKinds := [.handle], laidTests := true, laidLooks := .later }
def ModelTwiceUptoCardSaid : Prop := Claim7.holds Tryz.pinned (.plain (OpenSpec.upto modelTwiceSpec)) modelTwiceUptoCard

/-- THE SECOND FORM's CARD OF 'consignlaw31.ModelOne'. -/
def modelOneUptoCard : Claim7 := { stood := { row := modelOneUptoRow, standIns := [], harness := (true, "0d854bc990c0d20877250d7239623f56cd80a7e84696e5d0bc947f12e7ce1415"), looks := true }, kinds := [], alts := [], laidByText := true, laidKinds := [.handle], laidTests := true, laidLooks := .later }
def ModelOneUptoCardSaid : Prop := Claim7.holds Tryz.pinned (.plain (OpenSpec.upto modelOneSpec)) modelOneUptoCard

/-- THE SECOND FORM's CARD OF 'consignlaw31.ModelTime'. -/
def modelTimeUptoCard : Claim7 := { stood := { row := modelTimeUptoRow, standIns := [], harness := (true, "0d854bc990c0d20877250d7239623f56cd80a7e84696e5d0bc947f12e7ce1415"), looks := true }, kinds := [], alts := [], laidByText := true, laidKinds := [.handle], laidTests := true, laidLooks := .later }
def ModelTimeUptoCardSaid : Prop := Claim7.holds Tryz.pinned (.plain (OpenSpec.upto modelTimeSpec)) modelTimeUptoCard

/-- THE SECOND FORM's CARD OF 'consignlaw31.ModelTakes'. -/
def modelTakesUptoCard : Claim7 := { stood := { row := modelTakesUptoRow, standIns := [], harness := (true, "0d854bc990c0d20877250d7239623f56cd80a7e84696e5d0bc947f12e7ce1415"), looks := true }, kinds := [], alts := [], laidByText := true, laidKinds := [.handle], laidTests := true, laidLooks := .later }
def ModelTakesUptoCardSaid : Prop := Claim7.holds Tryz.pinned (.plain (OpenSpec.upto modelTakesSpec)) modelTakesUptoCard

/-- THE SECOND FORM's CARD OF 'consignlaw31.ModelKnown'. -/
def modelKnownUptoCard : Claim7 := { stood := { row := modelKnownUptoRow, standIns := [], harness := (true, "0d854bc990c0d20877250d7239623f56cd80a7e84696e5d0bc947f12e7ce1415"), looks := true }, kinds := [], alts := [], laidByText := true, laidKinds := [.handle], laidTests := true, laidLooks := .later }
def ModelKnownUptoCardSaid : Prop := Claim7.holds Tryz.pinned (.plain (OpenSpec.upto modelKnownSpec)) modelKnownUptoCard
end Rows
end Go.Proofs.YtfnekbfcndkjeaaGreatDoor
