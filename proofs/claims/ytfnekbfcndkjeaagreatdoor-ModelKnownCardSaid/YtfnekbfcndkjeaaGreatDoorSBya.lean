/- A text as bytes in memory, one of them turned; what that leaves of a text. -/
import Derived.Test.YtfnekbfcndkjeaaGreatDoorSBytZ
import Derived.Laws.IdiomCopy
import Derived.Test.YtfnekbfcndkjeaaGreatDoorSPln5
import Derived.Lib.ConvBytes
set_option linter.all false
namespace Go.Proofs.YtfnekbfcndkjeaaGreatDoor
open Go.RowKit
structure SumAt (w : World) (b : Nat) (s : ByteArray) : Prop where
  len : s.size = 32
  cell : ∀ j, j < 32 → w.cell? ⟨b, j, none⟩ = some (.int .u8 (byteOf s j))
  free : ∀ j, w.frozen? ⟨b, j, none⟩ = false
theorem SumAt.lt {w : World} {b : Nat} {s : ByteArray} (h : SumAt w b s) : b < w.heap.size := cell_lt (h.cell 0 (by omega))
theorem SumAt.on {w w' : World} {b : Nat} {s : ByteArray} (h : SumAt w b s) (hb : Below w.heap.size w w') : SumAt w' b s :=
  ⟨h.len, fun j hj => (hb.cell (p := ⟨b, j, none⟩) h.lt).trans (h.cell j hj), fun j => (hb.frozen (p := ⟨b, j, none⟩) h.lt).trans (h.free j)⟩
theorem SumAt.keeps {K : Nat → Prop} {w w' : World} {b : Nat} {s : ByteArray} (h : SumAt w b s) (hk : Keeps K w w') (hK : K b) : SumAt w' b s :=
  ⟨h.len, fun j hj => cell_keeps (h.cell j hj) hk hK, fun j => (World.frozen?_of_block (w := w) (a := ⟨b, j, none⟩) (hk.block b h.lt hK)).trans (h.free j)⟩
theorem ShaTabs.keeps {F : S8} {K : Nat → Int} {kk : Array Value} {w w' : World} {b : Nat} (h : ShaTabs F K kk w) (hk : Keeps (· ≠ b) w w') (h1 : 1 ≠ b) (h2 : 2 ≠ b) : ShaTabs F K kk w' :=
  ⟨fun j hj => cell_keeps (h.first j hj) hk h1, h.rounds.of_block (hk.block _ h.rounds.lt h2), h.size, h.get, h.ok⟩
end Go.Proofs.YtfnekbfcndkjeaaGreatDoor
namespace Go.Proofs.YtfnekbfcndkjeaaGreatDoor
open Go.RowKit
structure LogAt (w : World) (b : Nat) (t s : ByteArray) (n : Int) : Prop where
  sum : SumAt w b s
  text : w.cell? ⟨b, 32, none⟩ = some (.string t)
  many : w.cell? ⟨b, 33, none⟩ = some (.int .i64 n)
theorem LogAt.on {w w' : World} {b : Nat} {t s : ByteArray} {n : Int} (h : LogAt w b t s n) (hb : Below w.heap.size w w') : LogAt w' b t s n :=
  ⟨h.sum.on hb, (hb.cell (p := ⟨b, 32, none⟩) h.sum.lt).trans h.text, (hb.cell (p := ⟨b, 33, none⟩) h.sum.lt).trans h.many⟩
theorem LogAt.keeps {K : Nat → Prop} {w w' : World} {b : Nat} {t s : ByteArray} {n : Int} (h : LogAt w b t s n) (hk : Keeps K w w') (hK : K b) : LogAt w' b t s n :=
  ⟨h.sum.keeps hk hK, cell_keeps h.text hk hK, cell_keeps h.many hk hK⟩
theorem LogAt.sums {w w' : World} {b : Nat} {t s s' : ByteArray} {n : Int} (h : LogAt w b t s n) (hs : SumAt w' b s') (ho : ∀ j, 32 ≤ j → w'.cell? ⟨b, j, none⟩ = w.cell? ⟨b, j, none⟩) : LogAt w' b t s' n :=
  ⟨hs, (ho 32 (by omega)).trans h.text, (ho 33 (by omega)).trans h.many⟩
end Go.Proofs.YtfnekbfcndkjeaaGreatDoor
namespace Go.Proofs.YtfnekbfcndkjeaaGreatDoor
open Go.RowKit
section
variable {S : ByteArray → ByteArray} (hS : ∀ x, (S x).size = 32)
end
end Go.Proofs.YtfnekbfcndkjeaaGreatDoor
namespace Go.Proofs.YtfnekbfcndkjeaaGreatDoor
open Go.RowKit
structure BytAt (w : World) (b : Nat) (xs : List Int) : Prop where
  cell : ∀ j, j < xs.length → w.cell? ⟨b, j, none⟩ = some (.int .u8 (xs.getD j 0))
  free : ∀ j, j < xs.length → w.frozen? ⟨b, j, none⟩ = false
theorem BytAt.set {w : World} {b : Nat} {xs : List Int} (h : BytAt w b xs) (j : Nat) (hj : j < xs.length) (y : Int) : BytAt (w.setCell ⟨b, j, none⟩ (.int .u8 y)) b (xs.set j y) := by
  refine ⟨fun i hi => ?_, fun i hi => by rw [World.frozen?_setCell]; exact h.free i (by simpa using hi)⟩
  rw [List.length_set] at hi
  by_cases e : i = j
  · subst e
    rw [World.cell?_setCell_same _ _ _ (h.cell i hj)]
    simp [List.getD_eq_getElem?_getD, List.getElem?_set_self hj]
  · rw [World.cell?_setCell_other _ _ _ _ (by simp <;> omega), h.cell i hi]
    simp [List.getD_eq_getElem?_getD, List.getElem?_set_ne (Ne.symm e)]
theorem BytAt.on {w w' : World} {b : Nat} {xs : List Int} (h : BytAt w b xs) (hb : b < w.heap.size) (hn : Below w.heap.size w w') : BytAt w' b xs :=
  ⟨fun j hj => (hn.cell (p := ⟨b, j, none⟩) hb).trans (h.cell j hj), fun j hj => (hn.frozen (p := ⟨b, j, none⟩) hb).trans (h.free j hj)⟩
theorem BytAt.keeps {K : Nat → Prop} {w w' : World} {b : Nat} {xs : List Int} (h : BytAt w b xs) (hb : b < w.heap.size) (hk : Keeps K w w') (hK : K b) : BytAt w' b xs :=
  ⟨fun j hj => cell_keeps (h.cell j hj) hk hK, fun j hj => (World.frozen?_of_block (w := w) (a := ⟨b, j, none⟩) (hk.block b hb hK)).trans (h.free j hj)⟩
end Go.Proofs.YtfnekbfcndkjeaaGreatDoor
