/- vick.Rank: the places of all bids, what is ahead first. -/
import Derived.Test.YtdgedckfaefohaaSortWalk7
import Derived.Test.YtdgedckfaefohaaVickPlain
namespace Go.Proofs.Ytdgedckfaefohaa
open Go.RowKit Go.Sort
open Go.Proofs.Ytdgedckfaefohaa.Srt Go.Proofs.Ytdgedckfaefohaa.Vk

/-- The value v reads, in w, as the bids bs. -/
def BidsAt (w : World) (v : Value) (bs : List Bd) : Prop :=
  ((v = .slice none 0 0 ∨ ∃ a cap, v = .slice (some a) 0 cap) ∧ bs = []) ∨ ∃ lb lo cap, v = .slice (some ⟨lb, lo, none⟩) bs.length cap ∧ (0 < bs.length → lb < w.heap.size) ∧
    ∀ j, j < bs.length → w.cell? ⟨lb, lo + j * 2, none⟩ = some (.int .i64 bs[j]!.1) ∧ w.cell? ⟨lb, lo + j * 2 + 1, none⟩ = some (.int .u64 bs[j]!.2)

theorem BidsAt.below {w w' : World} {v : Value} {bs : List Bd} (h : BidsAt w v bs) (hb : Below w.heap.size w w') : BidsAt w' v bs := by
  rcases h with h | ⟨lb, lo, cap, h1, h2, h3⟩
  · exact .inl h
  · exact .inr ⟨lb, lo, cap, h1, fun h => Nat.lt_of_lt_of_le (h2 h) hb.size, fun j hj => ⟨(hb.cell (p := ⟨lb, _, none⟩) (h2 (by omega))).trans (h3 j hj).1, (hb.cell (p := ⟨lb, _, none⟩) (h2 (by omega))).trans (h3 j hj).2⟩⟩

/-- A row of places in memory of the call's own. -/
def PlacesAt (w : World) (w' : World) (r : List Nat) (v : Value) : Prop :=
  ∃ b, v = .slice (some ⟨b, 0, none⟩) r.length r.length ∧ w.heap.size ≤ b ∧ b < w'.heap.size ∧ ∀ p, p < r.length → w'.cell? ⟨b, p, none⟩ = some (.int .i64 (r[p]! : Int)) ∧ w'.frozen? ⟨b, p, none⟩ = false

/-- The row that is made. -/
def zeroRow (n : Nat) : Array Value := madeCells #[.int .i64 0] n

theorem size_zeroRow (n : Nat) : (zeroRow n).size = n := size_madeCells _ _
theorem get_zeroRow (n j : Nat) (h : j < n) : (zeroRow n)[j]? = some (.int .i64 0) := by
  unfold zeroRow madeCells
  rw [Array.getElem?_map, Array.getElem?_range, if_pos h]
  simp [Nat.mod_one]

theorem Try.infoInt : (Try.prog.info? 3).map (fun i => (i.zero, i.size, i.bytes)) = some (some (.int .i64 0), 1, 8) := by kernel_rfl

theorem make_ints (n : Nat) (w : World) (hn : n ≤ 17592186044416) : (Instr.makeSlice 27 (.int .i64 (n : Int)) (.int .i64 (n : Int))).run Try.prog w = .ok (.slice (some ⟨w.heap.size, 0, none⟩) n n) (w.alloc (.cells (zeroRow n) 3)) := by
  obtain ⟨i0, hi, hz0, hz1, hz2⟩ := info_parts Try.infoInt
  have := run_make (P := Try.prog) w 27 3 i0 (.int .i64 0) Try.underlying27 hi hz0 .i64 .i64 n n (by omega) (by omega) (by rw [hz2]; omega) (by omega)
  rw [hz1] at this
  simpa [zeroRow, Value.cells] using this

/-- Behind k rounds of Rank's first loop. -/
structure FillInv (w : World) (v : Value) (n k : Nat) (wr : World) : Prop where
  size : wr.heap.size = w.heap.size + 2
  below : Below w.heap.size w wr
  box : wr.cell? ⟨w.heap.size, 0, none⟩ = some v
  row : ∀ j, j < n → wr.cell? ⟨w.heap.size + 1, j, none⟩ = some (.int .i64 (if j < k then (j : Int) else 0)) ∧ wr.frozen? ⟨w.heap.size + 1, j, none⟩ = false

theorem heap_two (w : World) (a b : Obj) : ((w.alloc a).alloc b).heap[w.heap.size]? = some a ∧ ((w.alloc a).alloc b).heap[w.heap.size + 1]? = some b := by
  constructor
  · show ((w.heap.push a).push b)[w.heap.size]? = some a
    simp [Array.getElem?_push]
  · show ((w.heap.push a).push b)[w.heap.size + 1]? = some b
    rw [Array.getElem?_push, Array.size_push, if_pos rfl]

theorem cell_of_heap {w : World} {b : Nat} {cs : Array Value} {t : TypeId} {fz : Nat × Nat} (h : w.heap[b]? = some (.cells cs t fz)) (j : Nat) : w.cell? ⟨b, j, none⟩ = cs[j]? := by
  simp [World.cell?, h]

theorem frozen_of_heap {w : World} {b : Nat} {cs : Array Value} {t : TypeId} (h : w.heap[b]? = some (.cells cs t (0, 0))) (j : Nat) : w.frozen? ⟨b, j, none⟩ = false := by
  simp [World.frozen?, h]

theorem FillInv.start (w : World) (v : Value) (n : Nat) : FillInv w v n 0 ((w.alloc (.cells #[v] 22)).alloc (.cells (zeroRow n) 3)) := by
  obtain ⟨h1, h2⟩ := heap_two w (.cells #[v] 22) (.cells (zeroRow n) 3)
  refine ⟨by simp, ((Below.refl _ w).alloc (Nat.le_refl _) _).alloc (by simp) _, by rw [cell_of_heap h1]; rfl, fun j hj => ⟨?_, frozen_of_heap h2 j⟩⟩
  rw [cell_of_heap h2, if_neg (by omega)]
  exact get_zeroRow n j hj

theorem FillInv.step {w wr : World} {v : Value} {n k : Nat} (h : FillInv w v n k wr) (hk : k < n) : FillInv w v n (k + 1) (wr.setCell ⟨w.heap.size + 1, k, none⟩ (.int .i64 (k : Int))) := by
  refine ⟨by simpa [World.setCell] using h.size, h.below.setCell (p := ⟨w.heap.size + 1, k, none⟩) (by simp) _, ?_, fun j hj => ⟨?_, by rw [World.frozen?_setCell]; exact (h.row j hj).2⟩⟩
  · rw [World.cell?_setCell_other _ _ _ _ (by intro e; simp only [Addr.mk.injEq] at e; omega)]; exact h.box
  · by_cases c : j = k
    · subst c
      rw [World.cell?_setCell_same _ _ _ (h.row j hj).1, if_pos (by omega)]
    · rw [World.cell?_setCell_other _ _ _ _ (by intro e; simp only [Addr.mk.injEq] at e; omega), (h.row j hj).1]
      by_cases c2 : j < k
      · rw [if_pos c2, if_pos (by omega)]
      · rw [if_neg c2, if_neg (by omega)]

end Go.Proofs.Ytdgedckfaefohaa
