/- consignlaw21.is, and small helpers for rows of literals. -/
import Derived.Test.YtdgedckfaefohaaOf2
import Derived.Laws.StructEq
namespace Go.Proofs.Ytdgedckfaefohaa
open Go.RowKit Go.Sort
open Go.Proofs.Ytdgedckfaefohaa.Srt Go.Proofs.Ytdgedckfaefohaa.Vk

theorem Try.structOut : Try.prog.underlying 25 = some (.struct (Try.prog.fieldsOf 25)) := by kernel_rfl
theorem Try.heldOut : Try.prog.stoodInHeld 25 = false := by kernel_rfl

/-- '==' of two outcomes. -/
theorem eqOut (a b c x y z : Int) (w : World) : (binOp .eql 25 (.agg #[.int .i64 a, .int .i64 b, .int .u64 c]) (.agg #[.int .i64 x, .int .i64 y, .int .u64 z])).run Try.prog w = .ok (.bool (a == x && (b == y && c == z))) w := by
  have u3 := Try.underlying3
  have a3 := Try.isAgg3
  have z3 := Try.sizeOf3
  have u23 := Try.underlying23
  have a23 := Try.isAgg23
  have z23 := Try.sizeOf23
  rw [run_eql_struct, show (10000 : Nat) = 9999 + 1 from rfl, run_equalIn_agg w 9999 25 _ _ Try.structOut Try.heldOut]
  simp only [Program.fieldsOf, Try.underlying25]
  go_simp
  by_cases h1 : a = x <;> by_cases h2 : b = y <;> by_cases h3 : c = z <;> simp [h1, h2, h3]

set_option maxHeartbeats 1000000 in
theorem is_any (a b c x y z : Int) (w : World) : Calls Try.prog 20 #[.agg #[.int .i64 a, .int .i64 b, .int .u64 c], .int .i64 x, .int .i64 y, .int .u64 z] w fun e w' =>
    e = .returned (.bool (a == x && (b == y && c == z))) ∧ Below w.heap.size w w' := by
  have he := fun W => eqOut a b c x y z W
  go_enter Try.func20, Try.ntmps20
  go_wp2
  go_ret
  exact ⟨rfl, (Below.refl _ w).alloc (Nat.le_refl _) _⟩

theorem is_yes (a b c : Int) (w : World) : Calls Try.prog 20 #[.agg #[.int .i64 a, .int .i64 b, .int .u64 c], .int .i64 a, .int .i64 b, .int .u64 c] w fun e w' =>
    e = .returned (.bool true) ∧ Below w.heap.size w w' :=
  (is_any a b c a b c w).mono fun _ _ ⟨h1, h2⟩ => ⟨by simpa using h1, h2⟩

/-- The cells of a row of bids. -/
def cellsOf : List Bd → List Value
  | [] => []
  | x :: l => .int .i64 x.1 :: .int .u64 x.2 :: cellsOf l

theorem length_cellsOf : ∀ bs, (cellsOf bs).length = bs.length * 2
  | [] => rfl
  | x :: l => by simp only [cellsOf, List.length_cons, length_cellsOf l]; omega

theorem get_cellsOf : ∀ (bs : List Bd) (j : Nat), j < bs.length → (cellsOf bs)[j * 2]? = some (.int .i64 bs[j]!.1) ∧ (cellsOf bs)[j * 2 + 1]? = some (.int .u64 bs[j]!.2)
  | [], j, h => absurd h (Nat.not_lt_zero _)
  | x :: l, 0, _ => ⟨rfl, rfl⟩
  | x :: l, j + 1, h => by
    have := get_cellsOf l j (by simpa using h)
    rw [show (j + 1) * 2 = j * 2 + 1 + 1 by omega, show j * 2 + 1 + 1 + 1 = (j * 2 + 1) + 1 + 1 by omega]
    simpa [cellsOf] using this

theorem bidsAt_lit (w : World) (bs : List Bd) (cs : Array Value) (g n : Nat) (h : cs = (cellsOf bs).toArray) (hg : g = w.heap.size) (hn : n = bs.length) : BidsAt (w.alloc (.cells cs 32)) (.slice (some ⟨g, 0, none⟩) n n) bs := by
  subst h hg hn
  have hh : (w.alloc (.cells (cellsOf bs).toArray 32)).heap[w.heap.size]? = some (.cells (cellsOf bs).toArray 32 (0, 0)) := by
    show (w.heap.push _)[w.heap.size]? = _
    rw [Array.getElem?_push, if_pos rfl]
  refine .inr ⟨w.heap.size, 0, bs.length, rfl, fun _ => by simp, fun j hj => ?_⟩
  rw [Nat.zero_add]
  rw [cell_of_heap hh, cell_of_heap hh]
  simpa using get_cellsOf bs j hj

theorem of_lit (bs : List Bd) (v : Value) (r s c p : Int) (w : World) (hv : BidsAt w v bs) (hn : bs.length ≤ 40) (h : vickOf bs r = (s, c, p)) :
    Calls Try.prog 15 #[v, .int .u64 r] w fun e w' => e = .returned (.agg #[.int .i64 s, .int .i64 c, .int .u64 p]) ∧ Below w.heap.size w w' :=
  (of_any bs v r w hv (by omega)).mono fun _ _ ⟨h1, h2⟩ => ⟨by rw [h1, h]; rfl, h2⟩

/-- The row of three places, each cell by itself. -/
theorem rank_lit (bs : List Bd) (v : Value) (w : World) (hv : BidsAt w v bs) (hn : bs.length ≤ 40) (a b c : Nat) (h : rankOf bs = [a, b, c]) :
    Calls Try.prog 17 #[v] w fun e w' => ∃ g, e = .returned (.slice (some ⟨g, 0, none⟩) 3 3) ∧ g < w'.heap.size ∧ w'.cell? ⟨g, 0, none⟩ = some (.int .i64 a) ∧ w'.cell? ⟨g, 1, none⟩ = some (.int .i64 b) ∧ w'.cell? ⟨g, 2, none⟩ = some (.int .i64 c) ∧ Below w.heap.size w w' :=
  (rank_any bs v w hv (by omega)).mono fun _ w' ⟨v', h1, ⟨g, h2, _, h4, h5⟩, h6⟩ => by
    rw [h] at h2 h5
    subst h2
    exact ⟨g, h1, h4, (h5 0 (by simp)).1, (h5 1 (by simp)).1, (h5 2 (by simp)).1, h6⟩

end Go.Proofs.Ytdgedckfaefohaa
