/-
  DERIVED. GIVEN WITH THE SEED: THE CARDS: each row of YtkpmcjfolncmmaaDoorRows.lean that lists a variable, with what it lists TIED to the program's text (the seventh form; the later family's looks); each row that meets fmt, with fmt's text TOLD by the authors' own Lean function (tested against real Go, not proved from fmt's source: count such statements apart). THE CARD IS WHAT COUNTS. Prove the row's statement (the work); the ties are given (YtkpmcjfolncmmaaDoorTie.lean); close each card by the builder's one call (the guide's Derived/Test/ToyasCard.lean, 'card_holds'). Laid BY PROGRAM, IN A SANDBOX (cutbox-door.mjs). By AI agents, Wed Nov 11 2026. No macro, syntax, notation, axiom, sorry.
-/
import Derived.Test.YtkpmcjfolncmmaaDoorRows
import GoSem.ClaimSeven
namespace Go.Proofs.YtkpmcjfolncmmaaDoor
namespace Rows

/-- THE TIED CARD OF 'consignlaw30.ChainCut'. -/
def chainCutCard : Claim7 := { stood := { row := chainCutRow, standIns := [], harness := (true, "223445185843ac06db7e5c4b7ec18dc9d3ebf2e84a8f6a280183219988c548e4"), looks := true }, kinds := [], alts := [], laidByText := true, laidKinds := [.handle, .data, .data], laidTests := true, laidLooks := .later }
def ChainCutCardSaid : Prop := Claim7.holds Tryd.pinned (.plain (OpenSpec.ofChange chainCutSpec)) chainCutCard

/-- THE TIED CARD OF 'consignlaw30.ChainBack'. -/
def chainBackCard : Claim7 := { stood := { row := chainBackRow, standIns := [], harness := (true, "223445185843ac06db7e5c4b7ec18dc9d3ebf2e84a8f6a280183219988c548e4"), looks := true }, kinds := [], alts := [], laidByText := true, laidKinds := [.handle, .data, .data], laidTests := true, laidLooks := .later }
def ChainBackCardSaid : Prop := Claim7.holds Tryd.pinned (.plain (OpenSpec.ofChange chainBackSpec)) chainBackCard

/-- THE TIED CARD OF 'consignlaw30.ChainWatches'. -/
def chainWatchesCard : Claim7 := { stood := { row := chainWatchesRow, standIns := [], harness := (true, "223445185843ac06db7e5c4b7ec18dc9d3ebf2e84a8f6a280183219988c548e4"), looks := true }, kinds := [], alts := [], laidByText := true, laidKinds := [.handle, .data, .data], laidTests := true, laidLooks := .later }
def ChainWatchesCardSaid : Prop := Claim7.holds Tryd.pinned (.plain (OpenSpec.ofChange chainWatchesSpec)) chainWatchesCard

/-- THE TIED CARD OF 'consignlaw30.ChainKnown'. -/
def chainKnownCard : Claim7 := { stood := { row := chainKnownRow, standIns := [], harness := (true, "223445185843ac06db7e5c4b7ec18dc9d3ebf2e84a8f6a280183219988c548e4"), looks := true }, kinds := [], alts := [], laidByText := true, laidKinds := [.handle, .data, .data], laidTests := true, laidLooks := .later }
def ChainKnownCardSaid : Prop := Claim7.holds Tryd.pinned (.plain (OpenSpec.ofChange chainKnownSpec)) chainKnownCard

/-- THE SECOND FORM's CARD OF 'consignlaw30.ChainCut'. -/
def chainCutUptoCard : Claim7 := { stood := { row := chainCutUptoRow, standIns := [], harness := (true, "223445185843ac06db7e5c4b7ec18dc9d3ebf2e84a8f6a280183219988c548e4"), looks := true }, kinds := [], alts := [], laidByText := true, laidKinds := [.handle, .data, .data], laidTests := true, laidLooks := .later }
def ChainCutUptoCardSaid : Prop := Claim7.holds Tryd.pinned (.plain (OpenSpec.upto chainCutSpec)) chainCutUptoCard

/-- THE SECOND FORM's CARD OF 'consignlaw30.ChainBack'. -/
def chainBackUptoCard : Claim7 := { stood := { row := chainBackUptoRow, standIns := [], harness := (true, "223445185843ac06db7e5c4b7ec18dc9d3ebf2e84a8f6a280183219988c548e4"), looks := true }, kinds := [], alts := [], laidByText := true, laidKinds := [.handle, .data, .data], laidTests := true, laidLooks := .later }
def ChainBackUptoCardSaid : Prop := Claim7.holds Tryd.pinned (.plain (OpenSpec.upto chainBackSpec)) chainBackUptoCard

/-- THE SECOND FORM's CARD OF 'consignlaw30.ChainWatches'. -/
def chainWatchesUptoCard : Claim7 := { stood := { row := chainWatchesUptoRow, standIns := [], harness := (true, "223445185843ac06db7e5c4b7ec18dc9d3ebf2e84a8f6a280183219988c548e4"), looks := true }, kinds := [], alts := [], laidByText := true, laidKinds := [.handle, .data, .data], laidTests := true, laidLooks := .later }
def ChainWatchesUptoCardSaid : Prop := Claim7.holds Tryd.pinned (.plain (OpenSpec.upto chainWatchesSpec)) chainWatchesUptoCard

/-- THE SECOND FORM's CARD OF 'consignlaw30.ChainKnown'. -/
def chainKnownUptoCard : Claim7 := { stood := { row := chainKnownUptoRow, standIns := [], harness := (true, "223445185843ac06db7e5c4b7ec18dc9d3ebf2e84a8f6a280183219988c548e4"), looks := true }, kinds := [], alts := [], laidByText := true, laidKinds := [.handle, .data, .data], laidTests := true, laidLooks := .later }
def ChainKnownUptoCardSaid : Prop := Claim7.holds Tryd.pinned (.plain (OpenSpec.upto chainKnownSpec)) chainKnownUptoCard
end Rows
end Go.Proofs.YtkpmcjfolncmmaaDoor
