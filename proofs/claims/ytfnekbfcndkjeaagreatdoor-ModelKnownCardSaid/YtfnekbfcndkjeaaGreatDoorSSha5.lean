/- sha's New and (*Hash).Digest, walked. -/
import Derived.Test.YtfnekbfcndkjeaaGreatDoorSSha4
import Derived.Test.YtfnekbfcndkjeaaGreatDoorSOwnB
set_option linter.all false
namespace Go.Proofs.YtfnekbfcndkjeaaGreatDoor
open Go.RowKit
theorem get_lit10 (z : S8) (r l : Value) (i : Nat) (hi : i < 8) : (#[Value.int .u32 z.a, .int .u32 z.b, .int .u32 z.c, .int .u32 z.d, .int .u32 z.e, .int .u32 z.f, .int .u32 z.g, .int .u32 z.h, r, l] : Array Value)[i]? = some (.int .u32 (z.get i)) := by
  match i, hi with
  | 0, _ | 1, _ | 2, _ | 3, _ | 4, _ | 5, _ | 6, _ | 7, _ => rfl
  | _ + 8, h => omega
theorem HashAt.new (w : World) (z : S8) (rest : ByteArray) (ln : Int) (t : TypeId) :
    HashAt w.heap.size z rest ln (w.alloc (.cells #[.int .u32 z.a, .int .u32 z.b, .int .u32 z.c, .int .u32 z.d, .int .u32 z.e, .int .u32 z.f, .int .u32 z.g, .int .u32 z.h, .string rest, .int .u64 ln] t)) :=
  ⟨fun j hj => ⟨by rw [cell_new]; exact get_lit10 z _ _ j hj, frozen_new _ _ _ _⟩, by rw [cell_new]; rfl, frozen_new _ _ _ _, by rw [cell_new]; rfl, frozen_new _ _ _ _⟩
def dgB (z : S8) (j : Nat) : Int := z.get (j / 4) / 2 ^ (24 - 8 * (j % 4)) % 256
def digestA (z : S8) : Array Value := Array.ofFn (n := 32) fun j => .int .u8 (dgB z j.val)
def DgAt (D : Nat) (z : S8) (n : Nat) (w : World) : Prop := ∃ cs, w.heap[D]? = some (.cells cs 43 (0, 0)) ∧ cs.size = 32 ∧ ∀ j, j < n → cs[j]? = some (.int .u8 (dgB z j))
theorem DgAt.set {D : Nat} {z : S8} {n : Nat} {w : World} (h : DgAt D z n w) (hn : n < 32) (x : Int) (hx : x = dgB z n) : DgAt D z (n + 1) (w.setCell ⟨D, n, none⟩ (.int .u8 x)) := by
  obtain ⟨cs, h1, h2, h3⟩ := h
  subst hx
  refine ⟨_, heap_setCell_same w D n cs _ _ h1, by simpa using h2, fun j hj => ?_⟩
  rw [Array.getElem?_setIfInBounds]
  by_cases e : n = j
  · rw [if_pos e, if_pos (by omega), e]
  · rw [if_neg e]
    exact h3 j (by omega)
theorem DgAt.cell {D : Nat} {z : S8} {n : Nat} {w : World} (h : DgAt D z n w) (j : Nat) (hj : j < 32) : ∃ v, w.cell? ⟨D, j, none⟩ = some v ∧ w.frozen? ⟨D, j, none⟩ = false := by
  obtain ⟨cs, h1, h2, h3⟩ := h
  refine ⟨cs[j]'(by omega), ?_, ?_⟩
  · unfold World.cell?
    simp only [h1]
    simp [h2, hj]
  · unfold World.frozen?
    simp only [h1]
    simp
theorem digestA_size (z : S8) : (digestA z).size = 32 := by unfold digestA; exact Array.size_ofFn
theorem digestA_get (z : S8) (i : Nat) (hi : i < 32) : (digestA z)[i]? = some (.int .u8 (dgB z i)) := by
  unfold digestA
  rw [Array.getElem?_ofFn, dif_pos hi]
theorem digestA_eq (z : S8) (cs : Array Value) (h2 : cs.size = 32) (h3 : ∀ j, j < 32 → cs[j]? = some (.int .u8 (dgB z j))) : cs = digestA z := by
  refine Array.ext ?_ fun i hi1 hi2 => ?_
  · rw [h2, digestA_size]
  · have h4 := h3 i (by omega)
    have h5 := digestA_get z i (by omega)
    rw [Array.getElem?_eq_getElem hi1] at h4
    rw [Array.getElem?_eq_getElem hi2] at h5
    exact (Option.some.inj h4).trans (Option.some.inj h5).symm
theorem DgAt.full {D : Nat} {z : S8} {w : World} (h : DgAt D z 32 w) : w.heap[D]? = some (.cells (digestA z) 43 (0, 0)) := by
  obtain ⟨cs, h1, h2, h3⟩ := h
  rw [h1, digestA_eq z cs h2 h3]
end Go.Proofs.YtfnekbfcndkjeaaGreatDoor
