/- Bytes in a row of the call's own; one byte appended. -/
import Derived.Test.YtfnekbfcndkjeaaGreatDoorSMem
import Derived.Laws.AppendOwnNone
import Derived.Deep.AppendLies
import Derived.Laws.BytesArg
set_option linter.all false
namespace Go.Proofs.YtfnekbfcndkjeaaGreatDoor
open Go.RowKit
theorem Tryz.infoU8 : (Tryz.prog.info? 5).map (fun i => (i.zero, i.size, i.bytes)) = some (some (.int .u8 0), 1, 1) := by kernel_rfl
def OwnB (base : Nat) (w : World) (v : Value) (xs : List Int) : Prop := w.ownsRow base 5 1 v xs.length (xs.map (Value.int .u8))
theorem OwnB.form {base : Nat} {w : World} {v : Value} {xs : List Int} (h : OwnB base w v xs) : ∃ a cap, v = .slice a xs.length cap ∧ (0 < xs.length → ∃ g, a = some ⟨g, 0, none⟩ ∧ base ≤ g ∧ ∀ i, i < xs.length → w.cell? ⟨g, i, none⟩ = some (.int .u8 (xs.getD i 0))) := by
  obtain ⟨h1, h2⟩ := h
  rcases h2 with ⟨rfl, h3⟩ | ⟨g, cap, cur, rfl, hg, hh, hnc, hcm, hcs, htk⟩
  · exact ⟨none, 0, by rw [h3], fun h => by omega⟩
  · refine ⟨_, cap, rfl, fun _ => ⟨g, rfl, hg, fun i hi => ?_⟩⟩
    have hc : (xs.map (Value.int .u8))[i]? = some (.int .u8 (xs.getD i 0)) := by
      rw [List.getElem?_map, List.getElem?_eq_getElem hi, List.getD_eq_getElem?_getD, List.getElem?_eq_getElem hi]
      rfl
    rw [← htk, List.getElem?_take_of_lt (by omega)] at hc
    unfold World.cell?
    simp only [hh]
    simpa using hc
theorem OwnB.alloc {base : Nat} {w : World} {v : Value} {xs : List Int} (h : OwnB base w v xs) (o : Obj) : OwnB base (w.alloc o) v xs := World.ownsRow.alloc h o
theorem OwnB.block {base : Nat} {w : World} {v : Value} {xs : List Int} (h : OwnB base w v xs) : ∀ k, v.ownBlock = some k → base ≤ k ∧ k < w.heap.size := World.ownsRow.lt h
theorem OwnB.below {base : Nat} {w w' : World} {v : Value} {xs : List Int} (h : OwnB base w v xs) (hb : Below w.heap.size w w') : OwnB base w' v xs := by
  obtain ⟨h1, h2⟩ := h
  refine ⟨h1, h2.imp_right ?_⟩
  rintro ⟨g, cap, cur, e, hg, hh, r⟩
  exact ⟨g, cap, cur, e, hg, by rw [hb.block g (Array.getElem?_eq_some_iff.1 hh).1]; exact hh, r⟩
end Go.Proofs.YtfnekbfcndkjeaaGreatDoor
