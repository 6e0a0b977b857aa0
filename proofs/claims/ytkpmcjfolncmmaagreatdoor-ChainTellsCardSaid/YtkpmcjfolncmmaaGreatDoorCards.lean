/-
  DERIVED. GIVEN WITH THE SEED: THE CARDS: each row of YtkpmcjfolncmmaaGreatDoorRows.lean that lists a variable, with what it lists TIED to the program's text (the seventh form; the later family's looks); each row that meets fmt, with fmt's text TOLD by the authors' own Lean function (tested against real Go, not proved from fmt's source: count such statements apart). THE CARD IS WHAT COUNTS. Prove the row's statement (the work); the ties are given (YtkpmcjfolncmmaaGreatDoorTie.lean); close each card by the builder's one call (the guide's Derived/Test/ToyasCard.lean, 'card_holds'). Laid BY PROGRAM, IN A SANDBOX (cutbox-door.mjs). By AI agents, Wed Nov 11 2026. No macro, syntax, notation, axiom, sorry.
-/
import Derived.Test.YtkpmcjfolncmmaaGreatDoorRows
import GoSem.ClaimSeven
namespace Go.Proofs.YtkpmcjfolncmmaaGreatDoor
namespace Rows

/-- THE TIED CARD OF 'consignlaw30.ChainReads'. -/
def chainReadsCard : Claim7 := { stood := { row := chainReadsRow, standIns := [], harness := (true, "c37a0be53985c291e1ae0365713eaf8187f1c085348c28b0b3c66f6c0fbaff0d"), looks := true }, kinds := [], alts := [], laidByText := true, laidKinds := [.handle, .data, .data], laidTests := true, laidLooks := .later }
def ChainReadsCardSaid : Prop := Claim7.holds Tryz.pinned (.plain (OpenSpec.ofChange chainReadsSpec)) chainReadsCard

/-- THE TIED CARD OF 'consignlaw30.ChainParses'. -/
def chainParsesCard : Claim7 := { stood := { row := chainParsesRow, standIns := [], harness := (true, "c37a0be53985c291e1ae0365713eaf8187f1c085348c28b0b3c66f6c0fbaff0d"), looks := true }, kinds := [], alts := [], laidByText := true, laidKinds := [.handle, .data, .data], laidTests := true, laidLooks := .later }
def ChainParsesCardSaid : Prop := Claim7.holds Tryz.pinned (.plain (OpenSpec.ofChange chainParsesSpec)) chainParsesCard

/-- THE TIED CARD OF 'consignlaw30.ChainTells'. -/
def chainTellsCard : Claim7 := { stood := { row := chainTellsRow, standIns := [], harness := (true, "c37a0be53985c291e1ae0365713eaf8187f1c085348c28b0b3c66f6c0fbaff0d"), looks := true }, kinds := [], alts := [], laidByText := true, laidKinds := [.handle, .data, .data], laidTests := true, laidLooks := .later }
def ChainTellsCardSaid : Prop := Claim7.holds Tryz.pinned (.plain (OpenSpec.ofChange chainTellsSpec)) chainTellsCard

/-- THE SECOND FORM's CARD OF 'consignlaw30.ChainReads'. -/
def chainReadsUptoCard : Claim7 := { stood := { row := chainReadsUptoRow, standIns := [], harness := (true, "c37a0be53985c291e1ae0365713eaf8187f1c085348c28b0b3c66f6c0fbaff0d"), looks := true }, kinds := [], alts := [], laidByText := true, laidKinds := [.handle, .data, .data], laidTests := true, laidLooks := .later }
def ChainReadsUptoCardSaid : Prop := Claim7.holds Tryz.pinned (.plain (OpenSpec.upto chainReadsSpec)) chainReadsUptoCard

/-- THE SECOND FORM's CARD OF 'consignlaw30.ChainParses'. -/
def chainParsesUptoCard : Claim7 := { stood := { row := chainParsesUptoRow, standIns := [], harness := (true, "c37a0be53985c291e1ae0365713eaf8187f1c085348c28b0b3c66f6c0fbaff0d"), looks := true }, kinds := [], alts := [], laidByText := true, laidKinds := [.handle, .data, .data], laidTests := true, laidLooks := .later }
def ChainParsesUptoCardSaid : Prop := Claim7.holds Tryz.pinned (.plain (OpenSpec.upto chainParsesSpec)) chainParsesUptoCard

/-- THE SECOND FORM's CARD OF 'consignlaw30.ChainTells'. -/
def chainTellsUptoCard : Claim7 := { stood := { row := chainTellsUptoRow, standIns := [], harness := (true, "c37a0be53985c291e1ae0365713eaf8187f1c085348c28b0b3c66f6c0fbaff0d"), looks := true }, kinds := [], alts := [], laidByText := true, laidKinds := [.handle, .data, .data], laidTests := true, laidLooks := .later }
def ChainTellsUptoCardSaid : Prop := Claim7.holds Tryz.pinned (.plain (OpenSpec.upto chainTellsSpec)) chainTellsUptoCard
end Rows
end Go.Proofs.YtkpmcjfolncmmaaGreatDoor
