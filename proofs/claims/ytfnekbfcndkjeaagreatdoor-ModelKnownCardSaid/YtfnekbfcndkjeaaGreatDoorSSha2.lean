/- sha's (*state).take, walked: one block. -/
import Derived.Test.YtfnekbfcndkjeaaGreatDoorSShaPlain
import Derived.Test.YtfnekbfcndkjeaaGreatDoorSMem
import Derived.Laws.Rows
import Derived.Lib.ConvBytes
import Derived.Deep.RegionHeld3
import Derived.Deep.DeepCutAuto
import Derived.Test.YtfnekbfcndkjeaaGreatDoorSAside
set_option linter.all false
namespace Go.Proofs.YtfnekbfcndkjeaaGreatDoor
open Go.RowKit
def WordsP (B : Nat → Int) (A t : Nat) (x : Int) (W : World) : Prop :=
  ∀ j, j < 64 → W.cell? ⟨A, j, none⟩ = some (.int .u32 (if j < t then wd B j else if j = t then x else 0)) ∧ W.frozen? ⟨A, j, none⟩ = false
theorem WordsP.on {B : Nat → Int} {A t : Nat} {x : Int} {W W' : World} (h : WordsP B A t x W) (hb : Below W.heap.size W W') : WordsP B A t x W' := fun j hj =>
  have hA := cell_lt (h j hj).1
  ⟨(hb.cell hA).trans (h j hj).1, (hb.frozen hA).trans (h j hj).2⟩
theorem WordsP.set {B : Nat → Int} {A t : Nat} {x : Int} {W : World} (h : WordsP B A t x W) (ht : t < 64) (y : Int) : WordsP B A t y (W.setCell ⟨A, t, none⟩ (.int .u32 y)) := fun j hj => by
  refine ⟨?_, by rw [World.frozen?_setCell]; exact (h j hj).2⟩
  by_cases e : j = t
  · subst e
    rw [World.cell?_setCell_same _ _ _ (h j hj).1, if_neg (by omega), if_pos rfl]
  · rw [World.cell?_setCell_other _ _ _ _ (by intro e'; simp only [Addr.mk.injEq] at e'; omega), (h j hj).1, if_neg e, if_neg e]
theorem WordsP.next {B : Nat → Int} {A t : Nat} {W : World} (h : WordsP B A t (wd B t) W) : WordsP B A (t + 1) 0 W := fun j hj => by
  refine ⟨?_, (h j hj).2⟩
  rw [(h j hj).1]
  by_cases e : j < t
  · rw [if_pos e, if_pos (by omega)]
  · by_cases e2 : j = t
    · rw [if_neg e, if_pos e2, if_pos (by omega), e2]
    · rw [if_neg e, if_neg e2, if_neg (by omega), ite_self]
theorem WordsP.low {B : Nat → Int} {A t j : Nat} {x : Int} {W : World} (h : WordsP B A t x W) (hj : j < t) (ht : t ≤ 64) : W.cell? ⟨A, j, none⟩ = some (.int .u32 (wd B j)) := by
  rw [(h j (by omega)).1, if_pos hj]
def AddAt (b i : Nat) (s x : S8) (W : World) : Prop := ∀ j, j < 8 → W.cell? ⟨b, j, none⟩ = some (.int .u32 (if j < i then (addS s x).get j else s.get j)) ∧ W.frozen? ⟨b, j, none⟩ = false
theorem AddAt.step {b i : Nat} {s x : S8} {W : World} (h : AddAt b i s x W) (hi : i < 8) (v : Int) (hv : v = (addS s x).get i) : AddAt b (i + 1) s x (W.setCell ⟨b, i, none⟩ (.int .u32 v)) := fun j hj => by
  refine ⟨?_, by rw [World.frozen?_setCell]; exact (h j hj).2⟩
  by_cases e : j = i
  · subst e
    rw [World.cell?_setCell_same _ _ _ (h j hj).1, if_pos (by omega), hv]
  · rw [World.cell?_setCell_other _ _ _ _ (by intro e'; simp only [Addr.mk.injEq] at e'; omega), (h j hj).1]
    by_cases e2 : j < i
    · rw [if_pos e2, if_pos (by omega)]
    · rw [if_neg e2, if_neg (by omega)]
def TailAt (b : Nat) (w W : World) : Prop := ∀ j, 8 ≤ j → W.cell? ⟨b, j, none⟩ = w.cell? ⟨b, j, none⟩ ∧ W.frozen? ⟨b, j, none⟩ = w.frozen? ⟨b, j, none⟩
theorem TailAt.set {b i : Nat} {w W : World} (h : TailAt b w W) (hi : i < 8) (v : Value) : TailAt b w (W.setCell ⟨b, i, none⟩ v) := fun j hj =>
  ⟨by rw [World.cell?_setCell_other _ _ _ _ (by intro e'; simp only [Addr.mk.injEq] at e'; omega)]; exact (h j hj).1, by rw [World.frozen?_setCell]; exact (h j hj).2⟩
theorem AddAt.drew {b i : Nat} {s x : S8} {W : World} (h : AddAt b i s x W) : AddAt b i s x W.drew := h
theorem TailAt.drew {b : Nat} {w W : World} (h : TailAt b w W) : TailAt b w W.drew := h
def TabIn (kk : Array Value) (w : World) : Prop := ∃ T fr, w.heap[2]? = some (.cells kk T fr)
theorem TabIn.lt {kk : Array Value} {w : World} (h : TabIn kk w) : 2 < w.heap.size := by
  obtain ⟨_, _, h⟩ := h
  exact (Array.getElem?_eq_some_iff.1 h).1
theorem TabIn.of_block {kk : Array Value} {w w' : World} (h : TabIn kk w) (e : w'.heap[2]? = w.heap[2]?) : TabIn kk w' := by
  obtain ⟨T, fr, h⟩ := h
  exact ⟨T, fr, e.trans h⟩
end Go.Proofs.YtfnekbfcndkjeaaGreatDoor
