/- Records: as they lie in memory, and as data. -/
import Derived.Test.YtfnekbfcndkjeaaGreatDoorSApp1
import Derived.Laws.Rows
set_option linter.all false
namespace Go.Proofs.YtfnekbfcndkjeaaGreatDoor
open Go.RowKit
structure RecV where
  kind : Int := 0
  round : Int := 0
  lot : Int := 0
  carrier : Int := 0
  tick : Int := 0
  barred : Value := .slice none 0 0
  dig : Nat → Int := fun _ => 0
  bid : Int := 0
  nonce : Int := 0
  state : Int := 0
  winner : Int := 0
  price : Int := 0
  carriers : Int := 0
  commit : Int := 0
  reveal : Int := 0
  scheme : Int := 0
  lots : Value := .slice none 0 0
  owners : Value := .slice none 0 0
def recCells (r : RecV) : Array Value :=
  #[.int .i64 r.kind, .int .i64 r.round, .int .i64 r.lot, .int .i64 r.carrier, .int .i64 r.tick, r.barred,
    .int .u8 (r.dig 0), .int .u8 (r.dig 1), .int .u8 (r.dig 2), .int .u8 (r.dig 3), .int .u8 (r.dig 4), .int .u8 (r.dig 5), .int .u8 (r.dig 6), .int .u8 (r.dig 7),
    .int .u8 (r.dig 8), .int .u8 (r.dig 9), .int .u8 (r.dig 10), .int .u8 (r.dig 11), .int .u8 (r.dig 12), .int .u8 (r.dig 13), .int .u8 (r.dig 14), .int .u8 (r.dig 15),
    .int .u8 (r.dig 16), .int .u8 (r.dig 17), .int .u8 (r.dig 18), .int .u8 (r.dig 19), .int .u8 (r.dig 20), .int .u8 (r.dig 21), .int .u8 (r.dig 22), .int .u8 (r.dig 23),
    .int .u8 (r.dig 24), .int .u8 (r.dig 25), .int .u8 (r.dig 26), .int .u8 (r.dig 27), .int .u8 (r.dig 28), .int .u8 (r.dig 29), .int .u8 (r.dig 30), .int .u8 (r.dig 31),
    .int .u64 r.bid, .int .u64 r.nonce, .int .i64 r.state, .int .i64 r.winner, .int .u64 r.price, .int .i64 r.carriers, .int .i64 r.commit, .int .i64 r.reveal, .int .i64 r.scheme, r.lots, r.owners]
theorem zR : (#[.int .i64 0, .int .i64 0, .int .i64 0, .int .i64 0, .int .i64 0, .slice none 0 0, .int .u8 0, .int .u8 0, .int .u8 0, .int .u8 0, .int .u8 0, .int .u8 0, .int .u8 0, .int .u8 0, .int .u8 0, .int .u8 0, .int .u8 0, .int .u8 0, .int .u8 0, .int .u8 0, .int .u8 0, .int .u8 0, .int .u8 0, .int .u8 0, .int .u8 0, .int .u8 0, .int .u8 0, .int .u8 0, .int .u8 0, .int .u8 0, .int .u8 0, .int .u8 0, .int .u8 0, .int .u8 0, .int .u8 0, .int .u8 0, .int .u8 0, .int .u8 0, .int .u64 0, .int .u64 0, .int .i64 0, .int .i64 0, .int .u64 0, .int .i64 0, .int .i64 0, .int .i64 0, .int .i64 0, .slice none 0 0, .slice none 0 0] : Array Value) = recCells {} := rfl
theorem recCells_size (r : RecV) : (recCells r).size = 49 := rfl
theorem recCells_dig (r : RecV) (k : Nat) (hk : k < 32) : (recCells r)[6 + k]? = some (.int .u8 (r.dig k)) := by
  match k, hk with
  | 0, _ | 1, _ | 2, _ | 3, _ | 4, _ | 5, _ | 6, _ | 7, _ | 8, _ | 9, _ | 10, _ | 11, _ | 12, _ | 13, _ | 14, _ | 15, _ | 16, _ | 17, _ | 18, _ | 19, _ | 20, _ | 21, _ | 22, _ | 23, _ | 24, _ | 25, _ | 26, _ | 27, _ | 28, _ | 29, _ | 30, _ | 31, _ => rfl
  | _ + 32, h => omega
def upD (d : Nat → Int) (k : Nat) (v : Int) : Nat → Int := fun j => if j = k then v else d j
theorem recCells_setDig (r : RecV) (k : Nat) (hk : k < 32) (v : Int) : (recCells r).setIfInBounds (6 + k) (.int .u8 v) = recCells { r with dig := upD r.dig k v } := by
  match k, hk with
  | 0, _ | 1, _ | 2, _ | 3, _ | 4, _ | 5, _ | 6, _ | 7, _ | 8, _ | 9, _ | 10, _ | 11, _ | 12, _ | 13, _ | 14, _ | 15, _ | 16, _ | 17, _ | 18, _ | 19, _ | 20, _ | 21, _ | 22, _ | 23, _ | 24, _ | 25, _ | 26, _ | 27, _ | 28, _ | 29, _ | 30, _ | 31, _ => rfl
  | _ + 32, h => omega
def RecIn (w : World) (L : Nat) (r : RecV) : Prop := w.heap[L]? = some (.cells (recCells r) 49 (0, 0))
theorem RecIn.new {w w' : World} {L : Nat} {r : RecV} (h : RecIn w L r) (hb : Below w.heap.size w w') : RecIn w' L r := whole_new h hb
theorem RecIn.keeps {K : Nat → Prop} {w w' : World} {L : Nat} {r : RecV} (h : RecIn w L r) (hk : Keeps K w w') (hK : K L) : RecIn w' L r := whole_keeps h hk hK
theorem RecIn.free {w : World} {L : Nat} {r : RecV} (h : RecIn w L r) (j : Nat) : w.frozen? ⟨L, j, none⟩ = false := frozen_whole h j
theorem RecIn.cell {w : World} {L : Nat} {r : RecV} (h : RecIn w L r) (j : Nat) : w.cell? ⟨L, j, none⟩ = (recCells r)[j]? := cell_whole h j
theorem RecIn.box (w : World) (r : RecV) : RecIn (w.alloc (.cells (recCells r) 49)) w.heap.size r := heap_new _ _
theorem RecIn.other {w : World} {L M j : Nat} {r : RecV} (h : RecIn w L r) (hne : L ≠ M) (v : Value) : RecIn (w.setCell ⟨M, j, none⟩ v) L r := whole_other h hne j v
theorem RecIn.drew {w : World} {L : Nat} {r : RecV} (h : RecIn w L r) : RecIn w.drew L r := h
theorem RecIn.drewN {w : World} {L : Nat} {r : RecV} (h : RecIn w L r) (n : Nat) : RecIn (w.drewN n) L r := h
theorem RecIn.lt {w : World} {L : Nat} {r : RecV} (h : RecIn w L r) : L < w.heap.size := whole_lt h
theorem RecIn.dig {w : World} {L : Nat} {r : RecV} (h : RecIn w L r) (k : Nat) (hk : k < 32) : w.cell? ⟨L, 6 + k, none⟩ = some (.int .u8 (r.dig k)) := (h.cell _).trans (recCells_dig r k hk)
theorem RecIn.setDig {w : World} {L : Nat} {r : RecV} (h : RecIn w L r) (k : Nat) (hk : k < 32) (v : Int) : RecIn (w.setCell ⟨L, 6 + k, none⟩ (.int .u8 v)) L { r with dig := upD r.dig k v } := by
  have := whole_set h (6 + k) (.int .u8 v)
  rw [recCells_setDig r k hk] at this
  exact this
theorem RecIn.kind {w : World} {L : Nat} {r : RecV} (h : RecIn w L r) : w.cell? ⟨L, 0, none⟩ = some (.int .i64 r.kind) := h.cell 0
theorem RecIn.round {w : World} {L : Nat} {r : RecV} (h : RecIn w L r) : w.cell? ⟨L, 1, none⟩ = some (.int .i64 r.round) := h.cell 1
theorem RecIn.lot {w : World} {L : Nat} {r : RecV} (h : RecIn w L r) : w.cell? ⟨L, 2, none⟩ = some (.int .i64 r.lot) := h.cell 2
theorem RecIn.setLot {w : World} {L : Nat} {r : RecV} (h : RecIn w L r) (v : Int) : RecIn (w.setCell ⟨L, 2, none⟩ (.int .i64 v)) L { r with lot := v } := whole_set h 2 (.int .i64 v)
theorem RecIn.carrier {w : World} {L : Nat} {r : RecV} (h : RecIn w L r) : w.cell? ⟨L, 3, none⟩ = some (.int .i64 r.carrier) := h.cell 3
theorem RecIn.setCarrier {w : World} {L : Nat} {r : RecV} (h : RecIn w L r) (v : Int) : RecIn (w.setCell ⟨L, 3, none⟩ (.int .i64 v)) L { r with carrier := v } := whole_set h 3 (.int .i64 v)
theorem RecIn.tick {w : World} {L : Nat} {r : RecV} (h : RecIn w L r) : w.cell? ⟨L, 4, none⟩ = some (.int .i64 r.tick) := h.cell 4
theorem RecIn.setTick {w : World} {L : Nat} {r : RecV} (h : RecIn w L r) (v : Int) : RecIn (w.setCell ⟨L, 4, none⟩ (.int .i64 v)) L { r with tick := v } := whole_set h 4 (.int .i64 v)
theorem RecIn.barred {w : World} {L : Nat} {r : RecV} (h : RecIn w L r) : w.cell? ⟨L, 5, none⟩ = some r.barred := h.cell 5
theorem RecIn.setBarred {w : World} {L : Nat} {r : RecV} (h : RecIn w L r) (v : Value) : RecIn (w.setCell ⟨L, 5, none⟩ v) L { r with barred := v } := whole_set h 5 v
theorem RecIn.bid {w : World} {L : Nat} {r : RecV} (h : RecIn w L r) : w.cell? ⟨L, 38, none⟩ = some (.int .u64 r.bid) := h.cell 38
theorem RecIn.setBid {w : World} {L : Nat} {r : RecV} (h : RecIn w L r) (v : Int) : RecIn (w.setCell ⟨L, 38, none⟩ (.int .u64 v)) L { r with bid := v } := whole_set h 38 (.int .u64 v)
theorem RecIn.nonce {w : World} {L : Nat} {r : RecV} (h : RecIn w L r) : w.cell? ⟨L, 39, none⟩ = some (.int .u64 r.nonce) := h.cell 39
theorem RecIn.setNonce {w : World} {L : Nat} {r : RecV} (h : RecIn w L r) (v : Int) : RecIn (w.setCell ⟨L, 39, none⟩ (.int .u64 v)) L { r with nonce := v } := whole_set h 39 (.int .u64 v)
theorem RecIn.state {w : World} {L : Nat} {r : RecV} (h : RecIn w L r) : w.cell? ⟨L, 40, none⟩ = some (.int .i64 r.state) := h.cell 40
theorem RecIn.setState {w : World} {L : Nat} {r : RecV} (h : RecIn w L r) (v : Int) : RecIn (w.setCell ⟨L, 40, none⟩ (.int .i64 v)) L { r with state := v } := whole_set h 40 (.int .i64 v)
theorem RecIn.winner {w : World} {L : Nat} {r : RecV} (h : RecIn w L r) : w.cell? ⟨L, 41, none⟩ = some (.int .i64 r.winner) := h.cell 41
theorem RecIn.setWinner {w : World} {L : Nat} {r : RecV} (h : RecIn w L r) (v : Int) : RecIn (w.setCell ⟨L, 41, none⟩ (.int .i64 v)) L { r with winner := v } := whole_set h 41 (.int .i64 v)
theorem RecIn.price {w : World} {L : Nat} {r : RecV} (h : RecIn w L r) : w.cell? ⟨L, 42, none⟩ = some (.int .u64 r.price) := h.cell 42
theorem RecIn.setPrice {w : World} {L : Nat} {r : RecV} (h : RecIn w L r) (v : Int) : RecIn (w.setCell ⟨L, 42, none⟩ (.int .u64 v)) L { r with price := v } := whole_set h 42 (.int .u64 v)
theorem RecIn.carriers {w : World} {L : Nat} {r : RecV} (h : RecIn w L r) : w.cell? ⟨L, 43, none⟩ = some (.int .i64 r.carriers) := h.cell 43
theorem RecIn.setCarriers {w : World} {L : Nat} {r : RecV} (h : RecIn w L r) (v : Int) : RecIn (w.setCell ⟨L, 43, none⟩ (.int .i64 v)) L { r with carriers := v } := whole_set h 43 (.int .i64 v)
theorem RecIn.commit {w : World} {L : Nat} {r : RecV} (h : RecIn w L r) : w.cell? ⟨L, 44, none⟩ = some (.int .i64 r.commit) := h.cell 44
theorem RecIn.setCommit {w : World} {L : Nat} {r : RecV} (h : RecIn w L r) (v : Int) : RecIn (w.setCell ⟨L, 44, none⟩ (.int .i64 v)) L { r with commit := v } := whole_set h 44 (.int .i64 v)
theorem RecIn.reveal {w : World} {L : Nat} {r : RecV} (h : RecIn w L r) : w.cell? ⟨L, 45, none⟩ = some (.int .i64 r.reveal) := h.cell 45
theorem RecIn.setReveal {w : World} {L : Nat} {r : RecV} (h : RecIn w L r) (v : Int) : RecIn (w.setCell ⟨L, 45, none⟩ (.int .i64 v)) L { r with reveal := v } := whole_set h 45 (.int .i64 v)
theorem RecIn.scheme {w : World} {L : Nat} {r : RecV} (h : RecIn w L r) : w.cell? ⟨L, 46, none⟩ = some (.int .i64 r.scheme) := h.cell 46
theorem RecIn.setScheme {w : World} {L : Nat} {r : RecV} (h : RecIn w L r) (v : Int) : RecIn (w.setCell ⟨L, 46, none⟩ (.int .i64 v)) L { r with scheme := v } := whole_set h 46 (.int .i64 v)
theorem RecIn.lots {w : World} {L : Nat} {r : RecV} (h : RecIn w L r) : w.cell? ⟨L, 47, none⟩ = some r.lots := h.cell 47
theorem RecIn.setLots {w : World} {L : Nat} {r : RecV} (h : RecIn w L r) (v : Value) : RecIn (w.setCell ⟨L, 47, none⟩ v) L { r with lots := v } := whole_set h 47 v
theorem RecIn.owners {w : World} {L : Nat} {r : RecV} (h : RecIn w L r) : w.cell? ⟨L, 48, none⟩ = some r.owners := h.cell 48
theorem RecIn.setOwners {w : World} {L : Nat} {r : RecV} (h : RecIn w L r) (v : Value) : RecIn (w.setCell ⟨L, 48, none⟩ v) L { r with owners := v } := whole_set h 48 v
theorem recCells_one (r : RecV) (hb : r.barred.oneCell' = true) (hl : r.lots.oneCell' = true) (ho : r.owners.oneCell' = true) : (recCells r).all (·.oneCell') = true := by
  have : (recCells r).toList.all (·.oneCell') = true := by
    simp [recCells, show ∀ k n, (Value.int k n).oneCell' = true from fun _ _ => rfl, hb, hl, ho]
  simpa using this
end Go.Proofs.YtfnekbfcndkjeaaGreatDoor
