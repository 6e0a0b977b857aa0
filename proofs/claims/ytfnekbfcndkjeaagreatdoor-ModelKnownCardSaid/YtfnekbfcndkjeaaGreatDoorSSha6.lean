/- sha.Sum, walked. -/
import Derived.Test.YtfnekbfcndkjeaaGreatDoorSSha5
set_option linter.all false
namespace Go.Proofs.YtfnekbfcndkjeaaGreatDoor
open Go.RowKit
structure ShaTabs (F : S8) (K : Nat → Int) (kk : Array Value) (w : World) : Prop where
  first : ∀ j, j < 8 → w.cell? ⟨1, j, none⟩ = some (.int .u32 (F.get j))
  rounds : TabIn kk w
  size : kk.size = 64
  get : ∀ j, j < 64 → kk[j]? = some (.int .u32 (K j))
  ok : F.ok
theorem ShaTabs.on {F : S8} {K : Nat → Int} {kk : Array Value} {w w' : World} (h : ShaTabs F K kk w) (hb : Below w.heap.size w w') : ShaTabs F K kk w' :=
  ⟨fun j hj => (hb.cell (cell_lt (h.first j hj))).trans (h.first j hj), h.rounds.of_block (hb.block _ h.rounds.lt), h.size, h.get, h.ok⟩
end Go.Proofs.YtfnekbfcndkjeaaGreatDoor
