/- What stays: facts on memory that abide new blocks and writes to a call's own blocks, in one form; and the frame of a call that writes some blocks that were there. -/
import Derived.Test.YtfnekbfcndkjeaaGreatDoorSAside
import Derived.Below
import Derived.Deep.Draws
set_option linter.all false
namespace Go.Proofs.YtfnekbfcndkjeaaGreatDoor
open Go.RowKit
structure Keeps (K : Nat → Prop) (w w' : World) : Prop where
  os : w'.os = w.os
  tape : w'.tape = w.tape
  output : w'.output = w.output
  size : w.heap.size ≤ w'.heap.size
  block : ∀ k, k < w.heap.size → K k → w'.heap[k]? = w.heap[k]?
theorem Keeps.refl (K : Nat → Prop) (w : World) : Keeps K w w := ⟨rfl, rfl, rfl, Nat.le_refl _, fun _ _ _ => rfl⟩
theorem Keeps.trans {K : Nat → Prop} {a b c : World} (h : Keeps K a b) (k : Keeps K b c) : Keeps K a c :=
  ⟨k.os.trans h.os, k.tape.trans h.tape, k.output.trans h.output, Nat.le_trans h.size k.size, fun i hi hk => (k.block i (Nat.lt_of_lt_of_le hi h.size) hk).trans (h.block i hi hk)⟩
theorem Keeps.mono {K K' : Nat → Prop} {w w' : World} (h : Keeps K w w') (hk : ∀ k, k < w.heap.size → K' k → K k) : Keeps K' w w' :=
  ⟨h.os, h.tape, h.output, h.size, fun i hi hk' => h.block i hi (hk i hi hk')⟩
abbrev New (w w' : World) : Prop := Below w.heap.size w w'
theorem keeps_of_new {w w' : World} (h : Below w.heap.size w w') (K : Nat → Prop) : Keeps K w w' := ⟨h.os, h.tape, h.output, h.size, fun k hk _ => h.block k hk⟩
theorem Keeps.below {w w' : World} {B : Nat} (h : Keeps (· < B) w w') (hB : B ≤ w.heap.size) : Below B w w' := ⟨h.os, h.tape, h.output, h.size, fun k hk => h.block k (Nat.lt_of_lt_of_le hk hB) hk⟩
theorem below_keeps {w w' : World} {B : Nat} (h : Below B w w') : Keeps (· < B) w w' := ⟨h.os, h.tape, h.output, h.size, fun k _ hk => h.block k hk⟩
theorem Keeps.alloc {K : Nat → Prop} {a w : World} (h : Keeps K a w) (o : Obj) : Keeps K a (w.alloc o) :=
  h.trans ⟨rfl, rfl, rfl, by simp, fun k hk _ => Below.heap_alloc _ _ _ hk⟩
theorem Keeps.drew {K : Nat → Prop} {a w : World} (h : Keeps K a w) : Keeps K a w.drew := ⟨h.os, h.tape, h.output, h.size, h.block⟩
theorem Keeps.drewN {K : Nat → Prop} {a w : World} (h : Keeps K a w) (n : Nat) : Keeps K a (w.drewN n) := ⟨h.os, h.tape, h.output, h.size, h.block⟩
theorem Keeps.setCell {K : Nat → Prop} {a w : World} (h : Keeps K a w) {p : Addr} (hp : a.heap.size ≤ p.block ∨ ¬ K p.block) (u : Value) : Keeps K a (w.setCell p u) := by
  refine ⟨h.os, h.tape, h.output, by simpa [World.setCell] using h.size, fun k hk hK => ?_⟩
  rw [Below.heap_setCell _ _ _ _ (by rcases hp with hp | hp; omega; exact fun e => hp (e ▸ hK))]
  exact h.block k hk hK
theorem Keeps.new {K : Nat → Prop} {a w w' : World} (h : Keeps K a w) (hb : Below w.heap.size w w') : Keeps K a w' := h.trans (keeps_of_new hb K)
def St (I : World → Prop) : Prop := ∀ w w', I w → Below w.heap.size w w' → I w'
theorem St.and {I J : World → Prop} (h : St I) (k : St J) : St (fun w => I w ∧ J w) := fun w w' hi hb => ⟨h w w' hi.1 hb, k w w' hi.2 hb⟩
theorem cell_lt {w : World} {a : Addr} {v : Value} (h : w.cell? a = some v) : a.block < w.heap.size := by
  unfold World.cell? at h
  rcases Nat.lt_or_ge a.block w.heap.size with h' | h'
  · exact h'
  · rw [Array.getElem?_eq_none h'] at h; cases h
theorem heap_new (W : World) (o : Obj) : (W.alloc o).heap[W.heap.size]? = some o := by
  show (W.heap.push o)[W.heap.size]? = _
  simp
theorem cell_new (W : World) (cs : Array Value) (t : TypeId) (j : Nat) : (W.alloc (.cells cs t)).cell? ⟨W.heap.size, j, none⟩ = cs[j]? := by
  unfold World.cell?
  simp only [heap_new]
  simp
theorem frozen_new (W : World) (cs : Array Value) (t : TypeId) (j : Nat) : (W.alloc (.cells cs t)).frozen? ⟨W.heap.size, j, none⟩ = false := by
  unfold World.frozen?
  simp only [heap_new]
  simp
theorem cell_whole {w : World} {L : Nat} {cs : Array Value} {t : TypeId} {fr : Nat × Nat} (h : w.heap[L]? = some (.cells cs t fr)) (j : Nat) : w.cell? ⟨L, j, none⟩ = cs[j]? := by
  unfold World.cell?
  simp only [h]
  simp
theorem frozen_whole {w : World} {L : Nat} {cs : Array Value} {t : TypeId} (h : w.heap[L]? = some (.cells cs t (0, 0))) (j : Nat) : w.frozen? ⟨L, j, none⟩ = false := by
  unfold World.frozen?
  simp only [h]
  simp
theorem whole_set {w : World} {L : Nat} {cs : Array Value} {t : TypeId} {fr : Nat × Nat} (h : w.heap[L]? = some (.cells cs t fr)) (j : Nat) (v : Value) : (w.setCell ⟨L, j, none⟩ v).heap[L]? = some (.cells (cs.setIfInBounds j v) t fr) := by
  unfold World.setCell
  simp only [Array.getElem?_modify, if_pos rfl, h]
  rfl
theorem whole_other {w : World} {L M : Nat} {o : Obj} (h : w.heap[L]? = some o) (hne : L ≠ M) (j : Nat) (v : Value) : (w.setCell ⟨M, j, none⟩ v).heap[L]? = some o := by
  rw [Below.heap_setCell _ _ _ _ hne]
  exact h
theorem whole_lt {w : World} {L : Nat} {o : Obj} (h : w.heap[L]? = some o) : L < w.heap.size := (Array.getElem?_eq_some_iff.1 h).1
theorem whole_new {w w' : World} {L : Nat} {o : Obj} (h : w.heap[L]? = some o) (hb : Below w.heap.size w w') : w'.heap[L]? = some o := (hb.block L (whole_lt h)).trans h
theorem whole_keeps {K : Nat → Prop} {w w' : World} {L : Nat} {o : Obj} (h : w.heap[L]? = some o) (hk : Keeps K w w') (hK : K L) : w'.heap[L]? = some o := (hk.block L (whole_lt h) hK).trans h
theorem cell_keeps {K : Nat → Prop} {w w' : World} {b j : Nat} {v : Value} (h : w.cell? ⟨b, j, none⟩ = some v) (hk : Keeps K w w') (hK : K b) : w'.cell? ⟨b, j, none⟩ = some v := by
  have hb := cell_lt h
  exact (by unfold World.cell?; rw [hk.block b hb hK] : w'.cell? ⟨b, j, none⟩ = w.cell? ⟨b, j, none⟩).trans h
theorem st_new (a : World) : St (fun w => Below a.heap.size a w) := fun _ _ h hb => h.trans (hb.mono h.size)
theorem new_alloc (w : World) (o : Obj) : Below w.heap.size w (w.alloc o) := (Below.refl _ w).alloc (Nat.le_refl _) o
theorem new_drew (w : World) : Below w.heap.size w w.drew := (Below.refl _ w).drew
theorem new_drewN (w : World) (n : Nat) : Below w.heap.size w (w.drewN n) := ⟨rfl, rfl, rfl, Nat.le_refl _, fun _ _ => rfl⟩
theorem new_trans {a b c : World} (h : Below a.heap.size a b) (k : Below b.heap.size b c) : Below a.heap.size a c := h.trans (k.mono h.size)
end Go.Proofs.YtfnekbfcndkjeaaGreatDoor
