/-
  No cell of these rows narrows 'for every input' (looked for: loops, veiled, ifaces, maps, wideKeys, modest, calm, conditions, laid).
  DERIVED. THE GIVEN ROWS OF THIS SEAT. 12 by the template 'for every input the law returns true; each argument reads behind the call as it read before'; 0 by the template 'total and deterministic' (their statements: YtdgedckfaefohaaTotals.lean).
  GIVEN WITH THE SEED: the statements are not yours to turn. If you find one false, say at which input.
  Laid BY PROGRAM, IN A SANDBOX (cutbox-rows.mjs): the forced cells as the released guide's own fill.sh prints them over the translation eb078df8e7afe05c… (all of the seat's roots in one cut). By AI agents, Wed Nov 11 2026. No macro, syntax, notation, axiom, sorry.
-/
import Derived.Test.YtdgedckfaefohaaChecked
import GoSem.Claim
import GoSem.ClaimJoined
import GoSem.ClaimMapViews
import Derived.JoinedTies
import Derived.KernelRfl
namespace Go.Proofs.Ytdgedckfaefohaa
/- THE CELL 'sum', in the pinned program and in every row, IS THE sha256 OF THE DUMP (.gsa) THAT YtdgedckfaefohaaProg.lean LOADS. Nothing in Lean hashes anything: it is a label: what it is worth is what the hold of that sum in a sandbox is worth. -/
noncomputable def Try.pinned : Pinned := { name := "ytdgedckfaefohaa", sum := "eb078df8e7afe05ccce10355650a48eed30d3078408281751d523147956fe5f1", checked := Try.checked }
namespace Rows
def none {H : Type} : Left H := { results := [], args := [] }

/-- 'consignlaw21.VickTells': WHATEVER THE INPUT: true; the input reads as it did. -/
def vickTellsSpec : ChangeSpec := { name := "vickTells", fn := fun _ => fun
  | [d1, d2] => { results := [.lit (.bool true)], args := [d1, d2] }
  | _ => none }
def vickTellsRow : OpenClaim := { program := "ytdgedckfaefohaa", sum := "eb078df8e7afe05ccce10355650a48eed30d3078408281751d523147956fe5f1", func := "consign/consignlaw21.VickTells", spec := "vickTells", unfollowed := true, recurses := true, plainKeys := false, apart := false }
def VickTellsSaid : Prop := vickTellsRow.holds Try.pinned (OpenSpec.ofChange vickTellsSpec)

/-- ITS FALSE NEIGHBOUR: 'it returns false'. Refute it at one input. -/
def vickTellsWrong : ChangeSpec := { name := "vickTells", fn := fun _ => fun
  | [d1, d2] => { results := [.lit (.bool false)], args := [d1, d2] }
  | _ => none }
def VickTellsWrongFalsely : Prop := vickTellsRow.holds Try.pinned (OpenSpec.ofChange vickTellsWrong)

/-- 'consignlaw21.VickIs': WHATEVER THE INPUT: true; the input reads as it did. -/
def vickIsSpec : ChangeSpec := { name := "vickIs", fn := fun _ => fun
  | [d1, d2] => { results := [.lit (.bool true)], args := [d1, d2] }
  | _ => none }
def vickIsRow : OpenClaim := { program := "ytdgedckfaefohaa", sum := "eb078df8e7afe05ccce10355650a48eed30d3078408281751d523147956fe5f1", func := "consign/consignlaw21.VickIs", spec := "vickIs", unfollowed := true, recurses := true, plainKeys := false, apart := false }
def VickIsSaid : Prop := vickIsRow.holds Try.pinned (OpenSpec.ofChange vickIsSpec)

/-- ITS FALSE NEIGHBOUR: 'it returns false'. Refute it at one input. -/
def vickIsWrong : ChangeSpec := { name := "vickIs", fn := fun _ => fun
  | [d1, d2] => { results := [.lit (.bool false)], args := [d1, d2] }
  | _ => none }
def VickIsWrongFalsely : Prop := vickIsRow.holds Try.pinned (OpenSpec.ofChange vickIsWrong)

/-- 'consignlaw21.VickTruth': WHATEVER THE INPUT: true; the input reads as it did. -/
def vickTruthSpec : ChangeSpec := { name := "vickTruth", fn := fun _ => fun
  | [d1, d2, d3, d4, d5] => { results := [.lit (.bool true)], args := [d1, d2, d3, d4, d5] }
  | _ => none }
def vickTruthRow : OpenClaim := { program := "ytdgedckfaefohaa", sum := "eb078df8e7afe05ccce10355650a48eed30d3078408281751d523147956fe5f1", func := "consign/consignlaw21.VickTruth", spec := "vickTruth", unfollowed := true, recurses := true, plainKeys := false, apart := false }
def VickTruthSaid : Prop := vickTruthRow.holds Try.pinned (OpenSpec.ofChange vickTruthSpec)

/-- ITS FALSE NEIGHBOUR: 'it returns false'. Refute it at one input. -/
def vickTruthWrong : ChangeSpec := { name := "vickTruth", fn := fun _ => fun
  | [d1, d2, d3, d4, d5] => { results := [.lit (.bool false)], args := [d1, d2, d3, d4, d5] }
  | _ => none }
def VickTruthWrongFalsely : Prop := vickTruthRow.holds Try.pinned (OpenSpec.ofChange vickTruthWrong)

/-- 'consignlaw21.VickOwn': WHATEVER THE INPUT: true; the input reads as it did. -/
def vickOwnSpec : ChangeSpec := { name := "vickOwn", fn := fun _ => fun
  | [d1, d2, d3, d4, d5] => { results := [.lit (.bool true)], args := [d1, d2, d3, d4, d5] }
  | _ => none }
def vickOwnRow : OpenClaim := { program := "ytdgedckfaefohaa", sum := "eb078df8e7afe05ccce10355650a48eed30d3078408281751d523147956fe5f1", func := "consign/consignlaw21.VickOwn", spec := "vickOwn", unfollowed := true, recurses := true, plainKeys := false, apart := false }
def VickOwnSaid : Prop := vickOwnRow.holds Try.pinned (OpenSpec.ofChange vickOwnSpec)

/-- ITS FALSE NEIGHBOUR: 'it returns false'. Refute it at one input. -/
def vickOwnWrong : ChangeSpec := { name := "vickOwn", fn := fun _ => fun
  | [d1, d2, d3, d4, d5] => { results := [.lit (.bool false)], args := [d1, d2, d3, d4, d5] }
  | _ => none }
def VickOwnWrongFalsely : Prop := vickOwnRow.holds Try.pinned (OpenSpec.ofChange vickOwnWrong)

/-- 'consignlaw21.VickOrder': WHATEVER THE INPUT: true; the input reads as it did. -/
def vickOrderSpec : ChangeSpec := { name := "vickOrder", fn := fun _ => fun
  | [d1, d2, d3, d4] => { results := [.lit (.bool true)], args := [d1, d2, d3, d4] }
  | _ => none }
def vickOrderRow : OpenClaim := { program := "ytdgedckfaefohaa", sum := "eb078df8e7afe05ccce10355650a48eed30d3078408281751d523147956fe5f1", func := "consign/consignlaw21.VickOrder", spec := "vickOrder", unfollowed := true, recurses := true, plainKeys := false, apart := false }
def VickOrderSaid : Prop := vickOrderRow.holds Try.pinned (OpenSpec.ofChange vickOrderSpec)

/-- ITS FALSE NEIGHBOUR: 'it returns false'. Refute it at one input. -/
def vickOrderWrong : ChangeSpec := { name := "vickOrder", fn := fun _ => fun
  | [d1, d2, d3, d4] => { results := [.lit (.bool false)], args := [d1, d2, d3, d4] }
  | _ => none }
def VickOrderWrongFalsely : Prop := vickOrderRow.holds Try.pinned (OpenSpec.ofChange vickOrderWrong)

/-- 'consignlaw21.VickKnown': WHATEVER THE INPUT: true; the input reads as it did. -/
def vickKnownSpec : ChangeSpec := { name := "vickKnown", fn := fun _ => fun
  | [] => { results := [.lit (.bool true)], args := [] }
  | _ => none }
def vickKnownRow : OpenClaim := { program := "ytdgedckfaefohaa", sum := "eb078df8e7afe05ccce10355650a48eed30d3078408281751d523147956fe5f1", func := "consign/consignlaw21.VickKnown", spec := "vickKnown", unfollowed := true, recurses := true, plainKeys := false, apart := false }
def VickKnownSaid : Prop := vickKnownRow.holds Try.pinned (OpenSpec.ofChange vickKnownSpec)

/-- ITS FALSE NEIGHBOUR: 'it returns false'. Refute it at one input. -/
def vickKnownWrong : ChangeSpec := { name := "vickKnown", fn := fun _ => fun
  | [] => { results := [.lit (.bool false)], args := [] }
  | _ => none }
def VickKnownWrongFalsely : Prop := vickKnownRow.holds Try.pinned (OpenSpec.ofChange vickKnownWrong)

/-- 'consignlaw22.RoundPhases': WHATEVER THE INPUT: true; the input reads as it did. -/
def roundPhasesSpec : ChangeSpec := { name := "roundPhases", fn := fun _ => fun
  | [d1, d2, d3] => { results := [.lit (.bool true)], args := [d1, d2, d3] }
  | _ => none }
def roundPhasesRow : OpenClaim := { program := "ytdgedckfaefohaa", sum := "eb078df8e7afe05ccce10355650a48eed30d3078408281751d523147956fe5f1", func := "consign/consignlaw22.RoundPhases", spec := "roundPhases", unfollowed := true, recurses := true, plainKeys := false, apart := false }
def RoundPhasesSaid : Prop := roundPhasesRow.holds Try.pinned (OpenSpec.ofChange roundPhasesSpec)

/-- ITS FALSE NEIGHBOUR: 'it returns false'. Refute it at one input. -/
def roundPhasesWrong : ChangeSpec := { name := "roundPhases", fn := fun _ => fun
  | [d1, d2, d3] => { results := [.lit (.bool false)], args := [d1, d2, d3] }
  | _ => none }
def RoundPhasesWrongFalsely : Prop := roundPhasesRow.holds Try.pinned (OpenSpec.ofChange roundPhasesWrong)

/-- 'consignlaw22.RoundCounts': WHATEVER THE INPUT: true; the input reads as it did. -/
def roundCountsSpec : ChangeSpec := { name := "roundCounts", fn := fun _ => fun
  | [d] => { results := [.lit (.bool true)], args := [d] }
  | _ => none }
def roundCountsRow : OpenClaim := { program := "ytdgedckfaefohaa", sum := "eb078df8e7afe05ccce10355650a48eed30d3078408281751d523147956fe5f1", func := "consign/consignlaw22.RoundCounts", spec := "roundCounts", unfollowed := true, recurses := true, plainKeys := false, apart := false }
def RoundCountsSaid : Prop := roundCountsRow.holds Try.pinned (OpenSpec.ofChange roundCountsSpec)

/-- ITS FALSE NEIGHBOUR: 'it returns false'. Refute it at one input. -/
def roundCountsWrong : ChangeSpec := { name := "roundCounts", fn := fun _ => fun
  | [d] => { results := [.lit (.bool false)], args := [d] }
  | _ => none }
def RoundCountsWrongFalsely : Prop := roundCountsRow.holds Try.pinned (OpenSpec.ofChange roundCountsWrong)

/-- 'consignlaw22.RoundKnown': WHATEVER THE INPUT: true; the input reads as it did. -/
def roundKnownSpec : ChangeSpec := { name := "roundKnown", fn := fun _ => fun
  | [] => { results := [.lit (.bool true)], args := [] }
  | _ => none }
def roundKnownRow : OpenClaim := { program := "ytdgedckfaefohaa", sum := "eb078df8e7afe05ccce10355650a48eed30d3078408281751d523147956fe5f1", func := "consign/consignlaw22.RoundKnown", spec := "roundKnown", unfollowed := true, recurses := true, plainKeys := false, apart := false }
def RoundKnownSaid : Prop := roundKnownRow.holds Try.pinned (OpenSpec.ofChange roundKnownSpec)

/-- ITS FALSE NEIGHBOUR: 'it returns false'. Refute it at one input. -/
def roundKnownWrong : ChangeSpec := { name := "roundKnown", fn := fun _ => fun
  | [] => { results := [.lit (.bool false)], args := [] }
  | _ => none }
def RoundKnownWrongFalsely : Prop := roundKnownRow.holds Try.pinned (OpenSpec.ofChange roundKnownWrong)

/-- 'consignlaw22.RoundTells': WHATEVER THE INPUT: true; the input reads as it did. -/
def roundTellsSpec : ChangeSpec := { name := "roundTells", fn := fun _ => fun
  | [d1, d2, d3] => { results := [.lit (.bool true)], args := [d1, d2, d3] }
  | _ => none }
def roundTellsRow : OpenClaim := { program := "ytdgedckfaefohaa", sum := "eb078df8e7afe05ccce10355650a48eed30d3078408281751d523147956fe5f1", func := "consign/consignlaw22.RoundTells", spec := "roundTells", unfollowed := true, recurses := true, plainKeys := false, apart := false }
def RoundTellsSaid : Prop := roundTellsRow.holds Try.pinned (OpenSpec.ofChange roundTellsSpec)

/-- ITS FALSE NEIGHBOUR: 'it returns false'. Refute it at one input. -/
def roundTellsWrong : ChangeSpec := { name := "roundTells", fn := fun _ => fun
  | [d1, d2, d3] => { results := [.lit (.bool false)], args := [d1, d2, d3] }
  | _ => none }
def RoundTellsWrongFalsely : Prop := roundTellsRow.holds Try.pinned (OpenSpec.ofChange roundTellsWrong)

/-- 'consignlaw22.RoundOrder': WHATEVER THE INPUT: true; the input reads as it did. -/
def roundOrderSpec : ChangeSpec := { name := "roundOrder", fn := fun _ => fun
  | [d1, d2] => { results := [.lit (.bool true)], args := [d1, d2] }
  | _ => none }
def roundOrderRow : OpenClaim := { program := "ytdgedckfaefohaa", sum := "eb078df8e7afe05ccce10355650a48eed30d3078408281751d523147956fe5f1", func := "consign/consignlaw22.RoundOrder", spec := "roundOrder", unfollowed := true, recurses := true, plainKeys := false, apart := false }
def RoundOrderSaid : Prop := roundOrderRow.holds Try.pinned (OpenSpec.ofChange roundOrderSpec)

/-- ITS FALSE NEIGHBOUR: 'it returns false'. Refute it at one input. -/
def roundOrderWrong : ChangeSpec := { name := "roundOrder", fn := fun _ => fun
  | [d1, d2] => { results := [.lit (.bool false)], args := [d1, d2] }
  | _ => none }
def RoundOrderWrongFalsely : Prop := roundOrderRow.holds Try.pinned (OpenSpec.ofChange roundOrderWrong)

/-- 'consignlaw22.RoundDeaf': WHATEVER THE INPUT: true; the input reads as it did. -/
def roundDeafSpec : ChangeSpec := { name := "roundDeaf", fn := fun _ => fun
  | [d1, d2] => { results := [.lit (.bool true)], args := [d1, d2] }
  | _ => none }
def roundDeafRow : OpenClaim := { program := "ytdgedckfaefohaa", sum := "eb078df8e7afe05ccce10355650a48eed30d3078408281751d523147956fe5f1", func := "consign/consignlaw22.RoundDeaf", spec := "roundDeaf", unfollowed := true, recurses := true, plainKeys := false, apart := false }
def RoundDeafSaid : Prop := roundDeafRow.holds Try.pinned (OpenSpec.ofChange roundDeafSpec)

/-- ITS FALSE NEIGHBOUR: 'it returns false'. Refute it at one input. -/
def roundDeafWrong : ChangeSpec := { name := "roundDeaf", fn := fun _ => fun
  | [d1, d2] => { results := [.lit (.bool false)], args := [d1, d2] }
  | _ => none }
def RoundDeafWrongFalsely : Prop := roundDeafRow.holds Try.pinned (OpenSpec.ofChange roundDeafWrong)

/- THE SECOND FORM. 'bulk': how many values and letters a reading holds, each counted each time it is reached (what is shared counts as often as it is met; a slice's spare places count too). A statement '..UptoSaid' is the law's where the arguments, and the package variables that the reading takes, are together of bulk at most 1048576: NARROWER than '..Said'. Prove '..Said' where nothing that the law and all that it calls make is longer than what came in: it says more and counts as full. Else prove '..UptoSaid'. A law counts once. -/
mutual
def uptoBulk {H : Type} : DataW H → Nat
  | .lit (.string bytes) => bytes.length + 1
  | .lit _ => 1
  | .nil => 1
  | .ptr d => uptoBulk d + 1
  | .slice elems spare => uptoBulkAll elems + uptoBulkAll spare + 1
  | .agg parts => uptoBulkAll parts + 1
  | .iface _ d => uptoBulk d + 1
  | .map entries => uptoBulkEntries entries + 1
  | .held _ => 1
def uptoBulkAll {H : Type} : List (DataW H) → Nat
  | [] => 0
  | d :: r => uptoBulk d + uptoBulkAll r
def uptoBulkEntries {H : Type} : List (Lit × DataW H) → Nat
  | [] => 0
  | x :: r => uptoBulkEntry x + uptoBulkEntries r
def uptoBulkEntry {H : Type} : Lit × DataW H → Nat
  | (.string bytes, d) => bytes.length + uptoBulk d + 1
  | (_, d) => uptoBulk d + 1
 end
def uptoSmall : (H : Type) → List (DataW H) → Bool := fun _ ds => decide (uptoBulkAll ds ≤ 1048576)
def OpenSpec.upto (s : _root_.Go.ChangeSpec) : _root_.Go.OpenSpec := { _root_.Go.OpenSpec.ofChange s with cond := some uptoSmall }

/-- 'consignlaw21.VickTells', WHERE WHAT IT READS IS OF BULK AT MOST 1048576: true; the input reads as it did. -/
def vickTellsUptoRow : OpenClaim := { program := "ytdgedckfaefohaa", sum := "eb078df8e7afe05ccce10355650a48eed30d3078408281751d523147956fe5f1", func := "consign/consignlaw21.VickTells", spec := "vickTells", unfollowed := true, recurses := true, plainKeys := false, apart := false, narrowed := true }
def VickTellsUptoSaid : Prop := vickTellsUptoRow.holds Try.pinned (OpenSpec.upto vickTellsSpec)

/-- 'consignlaw21.VickIs', WHERE WHAT IT READS IS OF BULK AT MOST 1048576: true; the input reads as it did. -/
def vickIsUptoRow : OpenClaim := { program := "ytdgedckfaefohaa", sum := "eb078df8e7afe05ccce10355650a48eed30d3078408281751d523147956fe5f1", func := "consign/consignlaw21.VickIs", spec := "vickIs", unfollowed := true, recurses := true, plainKeys := false, apart := false, narrowed := true }
def VickIsUptoSaid : Prop := vickIsUptoRow.holds Try.pinned (OpenSpec.upto vickIsSpec)

/-- 'consignlaw21.VickTruth', WHERE WHAT IT READS IS OF BULK AT MOST 1048576: true; the input reads as it did. -/
def vickTruthUptoRow : OpenClaim := { program := "ytdgedckfaefohaa", sum := "eb078df8e7afe05ccce10355650a48eed30d3078408281751d523147956fe5f1", func := "consign/consignlaw21.VickTruth", spec := "vickTruth", unfollowed := true, recurses := true, plainKeys := false, apart := false, narrowed := true }
def VickTruthUptoSaid : Prop := vickTruthUptoRow.holds Try.pinned (OpenSpec.upto vickTruthSpec)

/-- 'consignlaw21.VickOwn', WHERE WHAT IT READS IS OF BULK AT MOST 1048576: true; the input reads as it did. -/
def vickOwnUptoRow : OpenClaim := { program := "ytdgedckfaefohaa", sum := "eb078df8e7afe05ccce10355650a48eed30d3078408281751d523147956fe5f1", func := "consign/consignlaw21.VickOwn", spec := "vickOwn", unfollowed := true, recurses := true, plainKeys := false, apart := false, narrowed := true }
def VickOwnUptoSaid : Prop := vickOwnUptoRow.holds Try.pinned (OpenSpec.upto vickOwnSpec)

/-- 'consignlaw21.VickOrder', WHERE WHAT IT READS IS OF BULK AT MOST 1048576: true; the input reads as it did. -/
def vickOrderUptoRow : OpenClaim := { program := "ytdgedckfaefohaa", sum := "eb078df8e7afe05ccce10355650a48eed30d3078408281751d523147956fe5f1", func := "consign/consignlaw21.VickOrder", spec := "vickOrder", unfollowed := true, recurses := true, plainKeys := false, apart := false, narrowed := true }
def VickOrderUptoSaid : Prop := vickOrderUptoRow.holds Try.pinned (OpenSpec.upto vickOrderSpec)

/-- 'consignlaw21.VickKnown', WHERE WHAT IT READS IS OF BULK AT MOST 1048576: true; the input reads as it did. -/
def vickKnownUptoRow : OpenClaim := { program := "ytdgedckfaefohaa", sum := "eb078df8e7afe05ccce10355650a48eed30d3078408281751d523147956fe5f1", func := "consign/consignlaw21.VickKnown", spec := "vickKnown", unfollowed := true, recurses := true, plainKeys := false, apart := false, narrowed := true }
def VickKnownUptoSaid : Prop := vickKnownUptoRow.holds Try.pinned (OpenSpec.upto vickKnownSpec)

/-- 'consignlaw22.RoundPhases', WHERE WHAT IT READS IS OF BULK AT MOST 1048576: true; the input reads as it did. -/
def roundPhasesUptoRow : OpenClaim := { program := "ytdgedckfaefohaa", sum := "eb078df8e7afe05ccce10355650a48eed30d3078408281751d523147956fe5f1", func := "consign/consignlaw22.RoundPhases", spec := "roundPhases", unfollowed := true, recurses := true, plainKeys := false, apart := false, narrowed := true }
def RoundPhasesUptoSaid : Prop := roundPhasesUptoRow.holds Try.pinned (OpenSpec.upto roundPhasesSpec)

/-- 'consignlaw22.RoundCounts', WHERE WHAT IT READS IS OF BULK AT MOST 1048576: true; the input reads as it did. -/
def roundCountsUptoRow : OpenClaim := { program := "ytdgedckfaefohaa", sum := "eb078df8e7afe05ccce10355650a48eed30d3078408281751d523147956fe5f1", func := "consign/consignlaw22.RoundCounts", spec := "roundCounts", unfollowed := true, recurses := true, plainKeys := false, apart := false, narrowed := true }
def RoundCountsUptoSaid : Prop := roundCountsUptoRow.holds Try.pinned (OpenSpec.upto roundCountsSpec)

/-- 'consignlaw22.RoundKnown', WHERE WHAT IT READS IS OF BULK AT MOST 1048576: true; the input reads as it did. -/
def roundKnownUptoRow : OpenClaim := { program := "ytdgedckfaefohaa", sum := "eb078df8e7afe05ccce10355650a48eed30d3078408281751d523147956fe5f1", func := "consign/consignlaw22.RoundKnown", spec := "roundKnown", unfollowed := true, recurses := true, plainKeys := false, apart := false, narrowed := true }
def RoundKnownUptoSaid : Prop := roundKnownUptoRow.holds Try.pinned (OpenSpec.upto roundKnownSpec)

/-- 'consignlaw22.RoundTells', WHERE WHAT IT READS IS OF BULK AT MOST 1048576: true; the input reads as it did. -/
def roundTellsUptoRow : OpenClaim := { program := "ytdgedckfaefohaa", sum := "eb078df8e7afe05ccce10355650a48eed30d3078408281751d523147956fe5f1", func := "consign/consignlaw22.RoundTells", spec := "roundTells", unfollowed := true, recurses := true, plainKeys := false, apart := false, narrowed := true }
def RoundTellsUptoSaid : Prop := roundTellsUptoRow.holds Try.pinned (OpenSpec.upto roundTellsSpec)

/-- 'consignlaw22.RoundOrder', WHERE WHAT IT READS IS OF BULK AT MOST 1048576: true; the input reads as it did. -/
def roundOrderUptoRow : OpenClaim := { program := "ytdgedckfaefohaa", sum := "eb078df8e7afe05ccce10355650a48eed30d3078408281751d523147956fe5f1", func := "consign/consignlaw22.RoundOrder", spec := "roundOrder", unfollowed := true, recurses := true, plainKeys := false, apart := false, narrowed := true }
def RoundOrderUptoSaid : Prop := roundOrderUptoRow.holds Try.pinned (OpenSpec.upto roundOrderSpec)

/-- 'consignlaw22.RoundDeaf', WHERE WHAT IT READS IS OF BULK AT MOST 1048576: true; the input reads as it did. -/
def roundDeafUptoRow : OpenClaim := { program := "ytdgedckfaefohaa", sum := "eb078df8e7afe05ccce10355650a48eed30d3078408281751d523147956fe5f1", func := "consign/consignlaw22.RoundDeaf", spec := "roundDeaf", unfollowed := true, recurses := true, plainKeys := false, apart := false, narrowed := true }
def RoundDeafUptoSaid : Prop := roundDeafUptoRow.holds Try.pinned (OpenSpec.upto roundDeafSpec)

end Rows
end Go.Proofs.Ytdgedckfaefohaa
