/- sha's (*Hash).Write, walked. -/
import Derived.RangeFuncNested
import Derived.RangeFuncBound
import Derived.RangeFuncCalls
import Derived.RangeFuncLeaves
import Derived.Shelf.Abstract
import Derived.Shelf.RegionOpen
import Derived.OwnWalkIn
import Derived.TacticsInMore
import Derived.LoopNIn
import Derived.LoopIn
import Derived.Test.YtfnekbfcndkjeaaGreatDoorSSha2
set_option linter.all false
namespace Go.Proofs.YtfnekbfcndkjeaaGreatDoor
open Go.RowKit Go.Shelf
attribute [local go_sem] Oper.semAt_some
end Go.Proofs.YtfnekbfcndkjeaaGreatDoor
namespace Go.Proofs.YtfnekbfcndkjeaaGreatDoor
open Go.RowKit Go.Shelf
attribute [local go_sem] Oper.semAt_some
structure HashAt (b : Nat) (st : S8) (rest : ByteArray) (ln : Int) (w : World) : Prop where
  st : ∀ j, j < 8 → w.cell? ⟨b, j, none⟩ = some (.int .u32 (st.get j)) ∧ w.frozen? ⟨b, j, none⟩ = false
  rest : w.cell? ⟨b, 8, none⟩ = some (.string rest)
  restf : w.frozen? ⟨b, 8, none⟩ = false
  len : w.cell? ⟨b, 9, none⟩ = some (.int .u64 ln)
  lenf : w.frozen? ⟨b, 9, none⟩ = false
theorem HashAt.on {b : Nat} {st : S8} {rest : ByteArray} {ln : Int} {w w' : World} (h : HashAt b st rest ln w) (hb : Below w.heap.size w w') : HashAt b st rest ln w' := by
  have hl : b < w.heap.size := cell_lt h.rest
  exact ⟨fun j hj => ⟨(hb.cell (p := ⟨b, j, none⟩) hl).trans (h.st j hj).1, (hb.frozen (p := ⟨b, j, none⟩) hl).trans (h.st j hj).2⟩, (hb.cell (p := ⟨b, 8, none⟩) hl).trans h.rest, (hb.frozen (p := ⟨b, 8, none⟩) hl).trans h.restf, (hb.cell (p := ⟨b, 9, none⟩) hl).trans h.len, (hb.frozen (p := ⟨b, 9, none⟩) hl).trans h.lenf⟩
structure WriteI (b H : Nat) (t : ByteArray) (ln : Int) (kk : Array Value) (K : Nat → Int) (st : S8) (w : World) (k : Nat) (W : World) : Prop where
  hash : HashAt b (blocksF K st t k) t ln W
  keep : Keeps (· ≠ b) w W
  tab : TabIn kk W
  box : W.cell? ⟨H, 0, none⟩ = some (.pointer (some ⟨b, 0, none⟩))
theorem WriteI.on {b H B : Nat} {t : ByteArray} {ln : Int} {kk : Array Value} {K : Nat → Int} {st : S8} {w : World} {k : Nat} {W W' : World} (h : WriteI b H t ln kk K st w k W) (hb : Below B W W') (h1 : b < B) (h2 : H < B) (h3 : 2 < B) (h4 : w.heap.size ≤ B) : WriteI b H t ln kk K st w k W' where
  hash := ⟨fun j hj => ⟨(hb.cell (p := ⟨b, j, none⟩) h1).trans (h.hash.st j hj).1, (hb.frozen (p := ⟨b, j, none⟩) h1).trans (h.hash.st j hj).2⟩, (hb.cell (p := ⟨b, 8, none⟩) h1).trans h.hash.rest, (hb.frozen (p := ⟨b, 8, none⟩) h1).trans h.hash.restf, (hb.cell (p := ⟨b, 9, none⟩) h1).trans h.hash.len, (hb.frozen (p := ⟨b, 9, none⟩) h1).trans h.hash.lenf⟩
  keep := ⟨hb.os.trans h.keep.os, hb.tape.trans h.keep.tape, hb.output.trans h.keep.output, Nat.le_trans h.keep.size hb.size, fun j hj hk => (hb.block j (by omega)).trans (h.keep.block j hj hk)⟩
  tab := h.tab.of_block (hb.block _ h3)
  box := (hb.cell (p := ⟨H, 0, none⟩) h2).trans h.box
theorem WriteI.set {b H Bs : Nat} {t : ByteArray} {ln : Int} {kk : Array Value} {K : Nat → Int} {st : S8} {w : World} {k : Nat} {W : World} (h : WriteI b H t ln kk K st w k W) (h1 : b ≠ Bs) (h2 : H ≠ Bs) (h3 : 2 ≠ Bs) (h4 : w.heap.size ≤ Bs) (v : Value) : WriteI b H t ln kk K st w k (W.setCell ⟨Bs, 0, none⟩ v) where
  hash := ⟨fun j hj => ⟨(World.cell?_setCell_other _ _ _ _ (by intro e; simp only [Addr.mk.injEq] at e; omega)).trans (h.hash.st j hj).1, (World.frozen?_setCell _ _ _ _).trans (h.hash.st j hj).2⟩, (World.cell?_setCell_other _ _ _ _ (by intro e; simp only [Addr.mk.injEq] at e; omega)).trans h.hash.rest, (World.frozen?_setCell _ _ _ _).trans h.hash.restf, (World.cell?_setCell_other _ _ _ _ (by intro e; simp only [Addr.mk.injEq] at e; omega)).trans h.hash.len, (World.frozen?_setCell _ _ _ _).trans h.hash.lenf⟩
  keep := h.keep.setCell (p := ⟨Bs, 0, none⟩) (.inl h4) v
  tab := h.tab.of_block (Below.heap_setCell _ _ _ _ h3)
  box := (World.cell?_setCell_other _ _ _ _ (by intro e; simp only [Addr.mk.injEq] at e; omega)).trans h.box
theorem WriteI.step {b H : Nat} {t : ByteArray} {ln : Int} {kk : Array Value} {K : Nat → Int} {st : S8} {w : World} {k : Nat} {W W' : World} {x : ByteArray} (h : WriteI b H t ln kk K st w k W) (hx : x = t.extract (64 * k) (64 * k + 64)) (hk : Keeps (· ≠ b) W W')
    (hc : ∀ j, j < 8 → W'.cell? ⟨b, j, none⟩ = some (.int .u32 ((blockF K (blocksF K st t k) x).get j)) ∧ W'.frozen? ⟨b, j, none⟩ = false) (ht : TailAt b W W') (hg : b ≠ 2) (hH : H ≠ b) : WriteI b H t ln kk K st w (k + 1) W' where
  hash := by
    subst hx
    exact ⟨hc, (ht 8 (by omega)).1.trans h.hash.rest, (ht 8 (by omega)).2.trans h.hash.restf, (ht 9 (by omega)).1.trans h.hash.len, (ht 9 (by omega)).2.trans h.hash.lenf⟩
  keep := h.keep.trans hk
  tab := h.tab.of_block (hk.block _ h.tab.lt (Ne.symm hg))
  box := (World.cell?_of_block (w := W) (a := ⟨H, 0, none⟩) (hk.block H (cell_lt h.box) hH)).trans h.box
theorem HashAt.of_block {b : Nat} {st : S8} {rest : ByteArray} {ln : Int} {w w' : World} (h : HashAt b st rest ln w) (hb : w'.heap[b]? = w.heap[b]?) : HashAt b st rest ln w' :=
  ⟨fun j hj => ⟨(World.cell?_of_block (w := w) (a := ⟨b, j, none⟩) hb).trans (h.st j hj).1, (World.frozen?_of_block (w := w) (a := ⟨b, j, none⟩) hb).trans (h.st j hj).2⟩, (World.cell?_of_block (w := w) (a := ⟨b, 8, none⟩) hb).trans h.rest, (World.frozen?_of_block (w := w) (a := ⟨b, 8, none⟩) hb).trans h.restf, (World.cell?_of_block (w := w) (a := ⟨b, 9, none⟩) hb).trans h.len, (World.frozen?_of_block (w := w) (a := ⟨b, 9, none⟩) hb).trans h.lenf⟩
end Go.Proofs.YtfnekbfcndkjeaaGreatDoor
