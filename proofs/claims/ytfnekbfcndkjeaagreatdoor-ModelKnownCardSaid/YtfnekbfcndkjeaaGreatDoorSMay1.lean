/- chain's told, all, and the closures of may and scene, walked. -/
import Derived.Test.YtfnekbfcndkjeaaGreatDoorSPln1
import Derived.Laws.EntriesVeiled
import Derived.BigRegion
import Derived.Test.YtfnekbfcndkjeaaGreatDoorSApp1
import Derived.Test.YtfnekbfcndkjeaaGreatDoorSRec1
import Derived.Deep.RegionHeld3
import Derived.Deep.RegionWith
set_option linter.all false
namespace Go.Proofs.YtfnekbfcndkjeaaGreatDoor
open Go.RowKit
end Go.Proofs.YtfnekbfcndkjeaaGreatDoor
namespace Go.Proofs.YtfnekbfcndkjeaaGreatDoor
open Go.RowKit
end Go.Proofs.YtfnekbfcndkjeaaGreatDoor
namespace Go.Proofs.YtfnekbfcndkjeaaGreatDoor
open Go.RowKit
end Go.Proofs.YtfnekbfcndkjeaaGreatDoor
namespace Go.Proofs.YtfnekbfcndkjeaaGreatDoor
open Go.RowKit
theorem Tryz.infoInt : (Tryz.prog.info? 3).map (fun i => (i.zero, i.size, i.bytes)) = some (some (.int .i64 0), 1, 8) := by kernel_rfl
def cntR (t : ByteArray) (p : Int) : Nat := (getV t p 1).toNat
def intsOk (t : ByteArray) (p : Int) : Prop := 1 ≤ t.size - p ∧ (cntR t p : Int) ≤ t.size - (p + 1)
instance (t : ByteArray) (p : Int) : Decidable (intsOk t p) := by unfold intsOk; infer_instance
end Go.Proofs.YtfnekbfcndkjeaaGreatDoor
namespace Go.Proofs.YtfnekbfcndkjeaaGreatDoor
open Go.RowKit
def lotsOk (t : ByteArray) (p : Int) : Prop := 1 ≤ t.size - p ∧ 5 * (cntR t p : Int) ≤ t.size - (p + 1)
instance (t : ByteArray) (p : Int) : Decidable (lotsOk t p) := by unfold lotsOk; infer_instance
end Go.Proofs.YtfnekbfcndkjeaaGreatDoor
namespace Go.Proofs.YtfnekbfcndkjeaaGreatDoor
open Go.RowKit
def RowI (w : World) (v : Value) (xs : List Int) : Prop :=
  ∃ a cap, v = .slice a xs.length cap ∧ xs.length ≤ cap ∧ (0 < xs.length → ∃ lb lo, a = some ⟨lb, lo, none⟩ ∧ lb < w.heap.size ∧ ∀ j, j < xs.length → w.cell? ⟨lb, lo + j, none⟩ = some (.int .i64 (xs.getD j 0)))
def RowL (w : World) (v : Value) (xs : List (Int × Int)) : Prop :=
  ∃ a cap, v = .slice a xs.length cap ∧ xs.length ≤ cap ∧ (0 < xs.length → ∃ lb lo, a = some ⟨lb, lo, none⟩ ∧ lb < w.heap.size ∧ ∀ j, j < xs.length → w.cell? ⟨lb, lo + j * 2, none⟩ = some (.int .i64 (xs.getD j (0, 0)).1) ∧ w.cell? ⟨lb, lo + j * 2 + 1, none⟩ = some (.int .i64 (xs.getD j (0, 0)).2))
theorem RowI.on {w w' : World} {v : Value} {xs : List Int} (h : RowI w v xs) (hb : Below w.heap.size w w') : RowI w' v xs := by
  obtain ⟨a, cap, e, hc, h⟩ := h
  refine ⟨a, cap, e, hc, fun h0 => ?_⟩
  obtain ⟨lb, lo, e, hl, hj⟩ := h h0
  exact ⟨lb, lo, e, Nat.lt_of_lt_of_le hl hb.size, fun j h1 => (hb.cell (p := ⟨lb, lo + j, none⟩) hl).trans (hj j h1)⟩
theorem RowL.on {w w' : World} {v : Value} {xs : List (Int × Int)} (h : RowL w v xs) (hb : Below w.heap.size w w') : RowL w' v xs := by
  obtain ⟨a, cap, e, hc, h⟩ := h
  refine ⟨a, cap, e, hc, fun h0 => ?_⟩
  obtain ⟨lb, lo, e, hl, hj⟩ := h h0
  exact ⟨lb, lo, e, Nat.lt_of_lt_of_le hl hb.size, fun j h1 => ⟨(hb.cell (p := ⟨lb, lo + j * 2, none⟩) hl).trans (hj j h1).1, (hb.cell (p := ⟨lb, lo + j * 2 + 1, none⟩) hl).trans (hj j h1).2⟩⟩
theorem RowI.nil (w : World) : RowI w (.slice none 0 0) [] := ⟨none, 0, rfl, Nat.le_refl _, fun h => by simp at h⟩
theorem RowL.nil (w : World) : RowL w (.slice none 0 0) [] := ⟨none, 0, rfl, Nat.le_refl _, fun h => by simp at h⟩
structure RecD where
  kind : Int := 0
  round : Int := 0
  lot : Int := 0
  carrier : Int := 0
  tick : Int := 0
  barred : List Int := []
  dig : List Int := List.replicate 32 0
  bid : Int := 0
  nonce : Int := 0
  state : Int := 0
  winner : Int := 0
  price : Int := 0
  carriers : Int := 0
  commit : Int := 0
  reveal : Int := 0
  scheme : Int := 0
  lots : List (Int × Int) := []
  owners : List Int := []
deriving DecidableEq
def RecD.toV (d : RecD) (b l o : Value) : RecV :=
  { kind := d.kind, round := d.round, lot := d.lot, carrier := d.carrier, tick := d.tick, barred := b, dig := fun k => d.dig.getD k 0, bid := d.bid, nonce := d.nonce, state := d.state, winner := d.winner, price := d.price,
    carriers := d.carriers, commit := d.commit, reveal := d.reveal, scheme := d.scheme, lots := l, owners := o }
theorem rep_getD (n k : Nat) : (List.replicate n (0 : Int)).getD k 0 = 0 := by
  rw [List.getD_eq_getElem?_getD, List.getElem?_replicate]
  split <;> rfl
def RecAt (w : World) (v : RecV) (d : RecD) : Prop :=
  ∃ b l o, v = d.toV b l o ∧ RowI w b d.barred ∧ RowL w l d.lots ∧ RowI w o d.owners
theorem RecAt.on {w w' : World} {v : RecV} {d : RecD} (h : RecAt w v d) (hb : Below w.heap.size w w') : RecAt w' v d := by
  obtain ⟨b, l, o, e, h1, h2, h3⟩ := h
  exact ⟨b, l, o, e, h1.on hb, h2.on hb, h3.on hb⟩
def RowIF (B : Nat) (w : World) (v : Value) (xs : List Int) : Prop :=
  ∃ a cap, v = .slice a xs.length cap ∧ xs.length ≤ cap ∧ (0 < xs.length → ∃ lb lo cur, a = some ⟨lb, lo, none⟩ ∧ B ≤ lb ∧ w.heap[lb]? = some (.cells cur 3 (0, 0)) ∧ ∀ j, j < xs.length → w.cell? ⟨lb, lo + j, none⟩ = some (.int .i64 (xs.getD j 0)))
def RowLF (B : Nat) (w : World) (v : Value) (xs : List (Int × Int)) : Prop :=
  ∃ a cap, v = .slice a xs.length cap ∧ xs.length ≤ cap ∧ (0 < xs.length → ∃ lb lo cur, a = some ⟨lb, lo, none⟩ ∧ B ≤ lb ∧ w.heap[lb]? = some (.cells cur 63 (0, 0)) ∧ ∀ j, j < xs.length → w.cell? ⟨lb, lo + j * 2, none⟩ = some (.int .i64 (xs.getD j (0, 0)).1) ∧ w.cell? ⟨lb, lo + j * 2 + 1, none⟩ = some (.int .i64 (xs.getD j (0, 0)).2))
theorem RowIF.nil (B : Nat) (w : World) : RowIF B w (.slice none 0 0) [] := ⟨none, 0, rfl, Nat.le_refl _, fun h => by simp at h⟩
theorem RowLF.nil (B : Nat) (w : World) : RowLF B w (.slice none 0 0) [] := ⟨none, 0, rfl, Nat.le_refl _, fun h => by simp at h⟩
theorem RowIF.row {B : Nat} {w : World} {v : Value} {xs : List Int} (h : RowIF B w v xs) : RowI w v xs := by
  obtain ⟨a, cap, e, hc, h⟩ := h
  refine ⟨a, cap, e, hc, fun h0 => ?_⟩
  obtain ⟨lb, lo, cur, e, _, hl, hj⟩ := h h0
  exact ⟨lb, lo, e, whole_lt hl, hj⟩
theorem RowLF.row {B : Nat} {w : World} {v : Value} {xs : List (Int × Int)} (h : RowLF B w v xs) : RowL w v xs := by
  obtain ⟨a, cap, e, hc, h⟩ := h
  refine ⟨a, cap, e, hc, fun h0 => ?_⟩
  obtain ⟨lb, lo, cur, e, _, hl, hj⟩ := h h0
  exact ⟨lb, lo, e, whole_lt hl, hj⟩
def RowBlock (B : Nat) (w : World) (k : Nat) : Prop := B ≤ k ∧ ∃ cur, w.heap[k]? = some (.cells cur 3 (0, 0)) ∨ w.heap[k]? = some (.cells cur 63 (0, 0))
theorem RowIF.keepsT {B : Nat} {K : Nat → Prop} {w w' : World} {v : Value} {xs : List Int} (h : RowIF B w v xs) (hk : Keeps K w w') (hK : ∀ k, RowBlock B w k → K k) : RowIF B w' v xs := by
  obtain ⟨a, cap, e, hc, h⟩ := h
  refine ⟨a, cap, e, hc, fun h0 => ?_⟩
  obtain ⟨lb, lo, cur, e, hB, hl, hj⟩ := h h0
  have hK' := hK lb ⟨hB, cur, .inl hl⟩
  exact ⟨lb, lo, cur, e, hB, whole_keeps hl hk hK', fun j h1 => cell_keeps (hj j h1) hk hK'⟩
theorem RowLF.keepsT {B : Nat} {K : Nat → Prop} {w w' : World} {v : Value} {xs : List (Int × Int)} (h : RowLF B w v xs) (hk : Keeps K w w') (hK : ∀ k, RowBlock B w k → K k) : RowLF B w' v xs := by
  obtain ⟨a, cap, e, hc, h⟩ := h
  refine ⟨a, cap, e, hc, fun h0 => ?_⟩
  obtain ⟨lb, lo, cur, e, hB, hl, hj⟩ := h h0
  have hK' := hK lb ⟨hB, cur, .inr hl⟩
  exact ⟨lb, lo, cur, e, hB, whole_keeps hl hk hK', fun j h1 => ⟨cell_keeps (hj j h1).1 hk hK', cell_keeps (hj j h1).2 hk hK'⟩⟩
theorem RowIF.keeps {B : Nat} {K : Nat → Prop} {w w' : World} {v : Value} {xs : List Int} (h : RowIF B w v xs) (hk : Keeps K w w') (hK : ∀ k, B ≤ k → K k) : RowIF B w' v xs := h.keepsT hk fun k hb => hK k hb.1
theorem RowLF.keeps {B : Nat} {K : Nat → Prop} {w w' : World} {v : Value} {xs : List (Int × Int)} (h : RowLF B w v xs) (hk : Keeps K w w') (hK : ∀ k, B ≤ k → K k) : RowLF B w' v xs := h.keepsT hk fun k hb => hK k hb.1
theorem RowIF.mono {B B' : Nat} {w : World} {v : Value} {xs : List Int} (h : RowIF B w v xs) (hB : B' ≤ B) : RowIF B' w v xs := by
  obtain ⟨a, cap, e, hc, h⟩ := h
  refine ⟨a, cap, e, hc, fun h0 => ?_⟩
  obtain ⟨lb, lo, cur, e, hb, hl, hj⟩ := h h0
  exact ⟨lb, lo, cur, e, Nat.le_trans hB hb, hl, hj⟩
theorem RowLF.mono {B B' : Nat} {w : World} {v : Value} {xs : List (Int × Int)} (h : RowLF B w v xs) (hB : B' ≤ B) : RowLF B' w v xs := by
  obtain ⟨a, cap, e, hc, h⟩ := h
  refine ⟨a, cap, e, hc, fun h0 => ?_⟩
  obtain ⟨lb, lo, cur, e, hb, hl, hj⟩ := h h0
  exact ⟨lb, lo, cur, e, Nat.le_trans hB hb, hl, hj⟩
def RecFrom (B : Nat) (w : World) (v : RecV) (d : RecD) : Prop :=
  ∃ b l o, v = d.toV b l o ∧ RowIF B w b d.barred ∧ RowLF B w l d.lots ∧ RowIF B w o d.owners
theorem RecFrom.at_ {B : Nat} {w : World} {v : RecV} {d : RecD} (h : RecFrom B w v d) : RecAt w v d := by
  obtain ⟨b, l, o, e, h1, h2, h3⟩ := h
  exact ⟨b, l, o, e, h1.row, h2.row, h3.row⟩
theorem RecFrom.keepsT {B : Nat} {K : Nat → Prop} {w w' : World} {v : RecV} {d : RecD} (h : RecFrom B w v d) (hk : Keeps K w w') (hK : ∀ k, RowBlock B w k → K k) : RecFrom B w' v d := by
  obtain ⟨b, l, o, e, h1, h2, h3⟩ := h
  exact ⟨b, l, o, e, h1.keepsT hk hK, h2.keepsT hk hK, h3.keepsT hk hK⟩
theorem RecFrom.keeps {B : Nat} {K : Nat → Prop} {w w' : World} {v : RecV} {d : RecD} (h : RecFrom B w v d) (hk : Keeps K w w') (hK : ∀ k, B ≤ k → K k) : RecFrom B w' v d := by
  obtain ⟨b, l, o, e, h1, h2, h3⟩ := h
  exact ⟨b, l, o, e, h1.keeps hk hK, h2.keeps hk hK, h3.keeps hk hK⟩
theorem RecFrom.on {B : Nat} {w w' : World} {v : RecV} {d : RecD} (h : RecFrom B w v d) (hb : Below w.heap.size w w') : RecFrom B w' v d := h.keeps (keeps_of_new hb (fun _ => True)) (fun _ _ => trivial)
theorem RecFrom.mono {B B' : Nat} {w : World} {v : RecV} {d : RecD} (h : RecFrom B w v d) (hB : B' ≤ B) : RecFrom B' w v d := by
  obtain ⟨b, l, o, e, h1, h2, h3⟩ := h
  exact ⟨b, l, o, e, h1.mono hB, h2.mono hB, h3.mono hB⟩
theorem RecFrom.nil (B : Nat) (w : World) : RecFrom B w {} {} := ⟨.slice none 0 0, .slice none 0 0, .slice none 0 0, by simp only [RecD.toV, rep_getD], RowIF.nil _ _, RowLF.nil _ _, RowIF.nil _ _⟩
theorem RecFrom.one {B : Nat} {w : World} {v : RecV} {d : RecD} (h : RecFrom B w v d) : (recCells v).all (·.oneCell') = true := by
  obtain ⟨b, l, o, rfl, ⟨a1, c1, rfl, _⟩, ⟨a2, c2, rfl, _⟩, ⟨a3, c3, rfl, _⟩⟩ := h
  exact recCells_one _ rfl rfl rfl
end Go.Proofs.YtfnekbfcndkjeaaGreatDoor
namespace Go.Proofs.YtfnekbfcndkjeaaGreatDoor
open Go.RowKit
structure ModV where
  scn : RecV := {}
  owners : Value := .slice none 0 0
  states : Value := .slice none 0 0
  outs : Value := .slice none 0 0
  opn : Value := .pointer none
  barred : Value := .slice none 0 0
  tick : Int := 0
  ended : Bool := false
def modCells (v : ModV) : Array Value :=
  #[.int .i64 v.scn.kind, .int .i64 v.scn.round, .int .i64 v.scn.lot, .int .i64 v.scn.carrier, .int .i64 v.scn.tick, v.scn.barred, .int .u8 (v.scn.dig 0), .int .u8 (v.scn.dig 1),
    .int .u8 (v.scn.dig 2), .int .u8 (v.scn.dig 3), .int .u8 (v.scn.dig 4), .int .u8 (v.scn.dig 5), .int .u8 (v.scn.dig 6), .int .u8 (v.scn.dig 7), .int .u8 (v.scn.dig 8), .int .u8 (v.scn.dig 9),
    .int .u8 (v.scn.dig 10), .int .u8 (v.scn.dig 11), .int .u8 (v.scn.dig 12), .int .u8 (v.scn.dig 13), .int .u8 (v.scn.dig 14), .int .u8 (v.scn.dig 15), .int .u8 (v.scn.dig 16), .int .u8 (v.scn.dig 17),
    .int .u8 (v.scn.dig 18), .int .u8 (v.scn.dig 19), .int .u8 (v.scn.dig 20), .int .u8 (v.scn.dig 21), .int .u8 (v.scn.dig 22), .int .u8 (v.scn.dig 23), .int .u8 (v.scn.dig 24), .int .u8 (v.scn.dig 25),
    .int .u8 (v.scn.dig 26), .int .u8 (v.scn.dig 27), .int .u8 (v.scn.dig 28), .int .u8 (v.scn.dig 29), .int .u8 (v.scn.dig 30), .int .u8 (v.scn.dig 31), .int .u64 v.scn.bid, .int .u64 v.scn.nonce,
    .int .i64 v.scn.state, .int .i64 v.scn.winner, .int .u64 v.scn.price, .int .i64 v.scn.carriers, .int .i64 v.scn.commit, .int .i64 v.scn.reveal, .int .i64 v.scn.scheme, v.scn.lots,
    v.scn.owners, v.owners, v.states, v.outs, v.opn, v.barred, .int .i64 v.tick, .bool v.ended]
theorem modCells_size (v : ModV) : (modCells v).size = 56 := rfl
def MdIn (w : World) (p : Nat) (v : ModV) : Prop := w.heap[p]? = some (.cells (modCells v) 93 (0, 0))
theorem MdIn.keeps {K : Nat → Prop} {w w' : World} {p : Nat} {v : ModV} (h : MdIn w p v) (hk : Keeps K w w') (hK : K p) : MdIn w' p v := whole_keeps h hk hK
theorem MdIn.new {w w' : World} {p : Nat} {v : ModV} (h : MdIn w p v) (hb : Below w.heap.size w w') : MdIn w' p v := whole_new h hb
theorem MdIn.lt {w : World} {p : Nat} {v : ModV} (h : MdIn w p v) : p < w.heap.size := whole_lt h
theorem MdIn.free {w : World} {p : Nat} {v : ModV} (h : MdIn w p v) (j : Nat) : w.frozen? ⟨p, j, none⟩ = false := frozen_whole h j
theorem MdIn.other {w : World} {p M j : Nat} {v : ModV} (h : MdIn w p v) (hne : p ≠ M) (x : Value) : MdIn (w.setCell ⟨M, j, none⟩ x) p v := whole_other h hne j x
theorem MdIn.rkind {w : World} {p : Nat} {v : ModV} (h : MdIn w p v) : w.cell? ⟨p, 0, none⟩ = some (.int .i64 v.scn.kind) := cell_whole h 0
theorem MdIn.rcarriers {w : World} {p : Nat} {v : ModV} (h : MdIn w p v) : w.cell? ⟨p, 43, none⟩ = some (.int .i64 v.scn.carriers) := cell_whole h 43
theorem MdIn.rcommit {w : World} {p : Nat} {v : ModV} (h : MdIn w p v) : w.cell? ⟨p, 44, none⟩ = some (.int .i64 v.scn.commit) := cell_whole h 44
theorem MdIn.rreveal {w : World} {p : Nat} {v : ModV} (h : MdIn w p v) : w.cell? ⟨p, 45, none⟩ = some (.int .i64 v.scn.reveal) := cell_whole h 45
theorem MdIn.rscheme {w : World} {p : Nat} {v : ModV} (h : MdIn w p v) : w.cell? ⟨p, 46, none⟩ = some (.int .i64 v.scn.scheme) := cell_whole h 46
theorem MdIn.rlots {w : World} {p : Nat} {v : ModV} (h : MdIn w p v) : w.cell? ⟨p, 47, none⟩ = some (v.scn.lots) := cell_whole h 47
theorem MdIn.setRlots {w : World} {p : Nat} {v : ModV} (h : MdIn w p v) (x : Value) : MdIn (w.setCell ⟨p, 47, none⟩ (x)) p { v with scn := { v.scn with lots := x } } := whole_set h 47 (x)
theorem MdIn.rowners {w : World} {p : Nat} {v : ModV} (h : MdIn w p v) : w.cell? ⟨p, 48, none⟩ = some (v.scn.owners) := cell_whole h 48
theorem MdIn.setRowners {w : World} {p : Nat} {v : ModV} (h : MdIn w p v) (x : Value) : MdIn (w.setCell ⟨p, 48, none⟩ (x)) p { v with scn := { v.scn with owners := x } } := whole_set h 48 (x)
theorem MdIn.owners {w : World} {p : Nat} {v : ModV} (h : MdIn w p v) : w.cell? ⟨p, 49, none⟩ = some (v.owners) := cell_whole h 49
theorem MdIn.setOwners {w : World} {p : Nat} {v : ModV} (h : MdIn w p v) (x : Value) : MdIn (w.setCell ⟨p, 49, none⟩ (x)) p { v with owners := x } := whole_set h 49 (x)
theorem MdIn.states {w : World} {p : Nat} {v : ModV} (h : MdIn w p v) : w.cell? ⟨p, 50, none⟩ = some (v.states) := cell_whole h 50
theorem MdIn.setStates {w : World} {p : Nat} {v : ModV} (h : MdIn w p v) (x : Value) : MdIn (w.setCell ⟨p, 50, none⟩ (x)) p { v with states := x } := whole_set h 50 (x)
theorem MdIn.outs {w : World} {p : Nat} {v : ModV} (h : MdIn w p v) : w.cell? ⟨p, 51, none⟩ = some (v.outs) := cell_whole h 51
theorem MdIn.setOuts {w : World} {p : Nat} {v : ModV} (h : MdIn w p v) (x : Value) : MdIn (w.setCell ⟨p, 51, none⟩ (x)) p { v with outs := x } := whole_set h 51 (x)
theorem MdIn.opn {w : World} {p : Nat} {v : ModV} (h : MdIn w p v) : w.cell? ⟨p, 52, none⟩ = some (v.opn) := cell_whole h 52
theorem MdIn.setOpn {w : World} {p : Nat} {v : ModV} (h : MdIn w p v) (x : Value) : MdIn (w.setCell ⟨p, 52, none⟩ (x)) p { v with opn := x } := whole_set h 52 (x)
theorem MdIn.barred {w : World} {p : Nat} {v : ModV} (h : MdIn w p v) : w.cell? ⟨p, 53, none⟩ = some (v.barred) := cell_whole h 53
theorem MdIn.setBarred {w : World} {p : Nat} {v : ModV} (h : MdIn w p v) (x : Value) : MdIn (w.setCell ⟨p, 53, none⟩ (x)) p { v with barred := x } := whole_set h 53 (x)
theorem MdIn.tick {w : World} {p : Nat} {v : ModV} (h : MdIn w p v) : w.cell? ⟨p, 54, none⟩ = some (.int .i64 v.tick) := cell_whole h 54
theorem MdIn.setTick {w : World} {p : Nat} {v : ModV} (h : MdIn w p v) (x : Int) : MdIn (w.setCell ⟨p, 54, none⟩ (.int .i64 x)) p { v with tick := x } := whole_set h 54 (.int .i64 x)
theorem MdIn.ended {w : World} {p : Nat} {v : ModV} (h : MdIn w p v) : w.cell? ⟨p, 55, none⟩ = some (.bool v.ended) := cell_whole h 55
theorem MdIn.setEnded {w : World} {p : Nat} {v : ModV} (h : MdIn w p v) (x : Bool) : MdIn (w.setCell ⟨p, 55, none⟩ (.bool x)) p { v with ended := x } := whole_set h 55 (.bool x)
end Go.Proofs.YtfnekbfcndkjeaaGreatDoor
namespace Go.Proofs.YtfnekbfcndkjeaaGreatDoor
open Go.RowKit
def endOk (t : ByteArray) : Prop := 9 ≤ t.size
instance (t : ByteArray) : Decidable (endOk t) := by unfold endOk; infer_instance
def revealOk (t : ByteArray) : Prop := 27 ≤ t.size
instance (t : ByteArray) : Decidable (revealOk t) := by unfold revealOk; infer_instance
def closeOk (t : ByteArray) : Prop := 20 ≤ t.size
instance (t : ByteArray) : Decidable (closeOk t) := by unfold closeOk; infer_instance
end Go.Proofs.YtfnekbfcndkjeaaGreatDoor
namespace Go.Proofs.YtfnekbfcndkjeaaGreatDoor
open Go.RowKit
def commitOk (t : ByteArray) : Prop := 43 ≤ t.size
instance (t : ByteArray) : Decidable (commitOk t) := by unfold commitOk; infer_instance
end Go.Proofs.YtfnekbfcndkjeaaGreatDoor
namespace Go.Proofs.YtfnekbfcndkjeaaGreatDoor
open Go.RowKit
def openOk (t : ByteArray) : Prop := 11 ≤ t.size ∧ intsOk t 11
instance (t : ByteArray) : Decidable (openOk t) := by unfold openOk; infer_instance
end Go.Proofs.YtfnekbfcndkjeaaGreatDoor
namespace Go.Proofs.YtfnekbfcndkjeaaGreatDoor
open Go.RowKit
def sceneP (t : ByteArray) : Int := 5 + 1 + 5 * (cntR t 5 : Int)
def sceneOk (t : ByteArray) : Prop := 5 ≤ t.size ∧ lotsOk t 5 ∧ intsOk t (sceneP t)
instance (t : ByteArray) : Decidable (sceneOk t) := by unfold sceneOk; infer_instance
end Go.Proofs.YtfnekbfcndkjeaaGreatDoor
namespace Go.Proofs.YtfnekbfcndkjeaaGreatDoor
open Go.RowKit
end Go.Proofs.YtfnekbfcndkjeaaGreatDoor
namespace Go.Proofs.YtfnekbfcndkjeaaGreatDoor
open Go.RowKit
def toldB (s x p : Int) : Bool := if s = 3 then decide (x = -1) && decide (p = 0) else (decide (s = 2) || decide (s = 4)) && withinB x 0 7 && decide (p ≤ 16777216)
set_option maxHeartbeats 2000000 in
theorem told_any (s x p : Int) (w : World) : Calls Tryz.prog 104 #[.agg #[.int .i64 s, .int .i64 x, .int .u64 p]] w fun e w' => e = .returned (.bool (toldB s x p)) ∧ Below w.heap.size w w' := by
  have hb : Below w.heap.size w (w.alloc (.cells #[.int .i64 s, .int .i64 x, .int .u64 p] 46)) := new_alloc _ _
  have HB := aside hb
  clear hb
  go_enter Tryz.func104, Tryz.ntmps104
  by_cases h3 : s = 3
  · subst h3
    by_cases h1 : x = -1
    · subst h1
      by_cases h2 : p = 0
      · subst h2
        go_wp2
        go_ret
        exact ⟨rfl, HB.out⟩
      · have e2 : (p == 0) = false := by simpa using h2
        have HR : Aside (toldB 3 (-1) p = false) := by simp [Aside, toldB, h2]
        go_wp2
        go_ret
        exact ⟨by rw [HR.out]; rfl, HB.out⟩
    · have e1 : (x == -1) = false := by simpa using h1
      have HR : Aside (toldB 3 x p = false) := by simp [Aside, toldB, h1]
      go_wp2
      go_ret
      exact ⟨by rw [HR.out]; rfl, HB.out⟩
  · have e3 : (s == 3) = false := by simpa using h3
    by_cases h24 : s = 2 ∨ s = 4
    · have HR0 : toldB s x p = (withinB x 0 7 && decide (p ≤ 16777216)) := by
        rcases h24 with rfl | rfl <;> simp [toldB]
      have HR := aside HR0
      clear HR0 h3
      rcases h24 with rfl | rfl
      all_goals
        go_wp2_with fail
        refine (within_any x 0 7 _).mono ?_
        rintro e w1 ⟨rfl, rfl⟩
        by_cases hw : withinB x 0 7 = true
        · by_cases hp : p ≤ 16777216
          · have HF := HR.out
            rw [hw, decide_eq_true hp] at HF
            have HF := aside HF
            have e4 : decide (p ≤ 16777216) = true := decide_eq_true hp
            clear hp
            go_wp2
            go_ret
            exact ⟨by rw [HF.out]; rfl, HB.out⟩
          · have HF := HR.out
            rw [hw, decide_eq_false hp] at HF
            have HF := aside HF
            have e4 : decide (p ≤ 16777216) = false := decide_eq_false hp
            clear hp
            go_wp2
            go_ret
            exact ⟨by rw [HF.out]; rfl, HB.out⟩
        · have hw' : withinB x 0 7 = false := by simpa using hw
          have HF := HR.out
          rw [hw'] at HF
          have HF := aside HF
          clear hw
          go_wp2
          go_ret
          exact ⟨by rw [HF.out]; rfl, HB.out⟩
    · have h2 : ¬ s = 2 := fun h => h24 (.inl h)
      have h4 : ¬ s = 4 := fun h => h24 (.inr h)
      have e2 : (s == 2) = false := by simpa using h2
      have e4 : (s == 4) = false := by simpa using h4
      have HR : Aside (toldB s x p = false) := by simp [Aside, toldB, h2, h3, h4]
      clear h24 h2 h3 h4
      go_wp2
      go_ret
      exact ⟨by rw [HR.out]; rfl, HB.out⟩
def allTo (f : Nat → Bool) : Nat → Bool
  | 0 => true
  | k + 1 => allTo f k && f k
theorem allTo_no (f : Nat → Bool) (k : Nat) : ∀ n, k < n → f k = false → allTo f n = false
  | 0, h, _ => by omega
  | n + 1, h, hf => by
    by_cases e : k = n
    · subst e; rw [allTo, hf, Bool.and_false]
    · rw [allTo, allTo_no f k n (by omega) hf, Bool.false_and]
theorem allTo_iff (f : Nat → Bool) : ∀ n, allTo f n = true ↔ ∀ k, k < n → f k = true
  | 0 => by simp [allTo]
  | n + 1 => by
    rw [allTo, Bool.and_eq_true, allTo_iff f n]
    constructor
    · rintro ⟨h1, h2⟩ k hk
      by_cases e : k = n
      · exact e ▸ h2
      · exact h1 k (by omega)
    · intro h
      exact ⟨fun k hk => h k (by omega), h n (by omega)⟩
def riseAt (xs : List Int) (k : Nat) : Bool := withinB (xs.getD k 0) 0 7 && (decide (k = 0) || decide (xs.getD (k - 1) 0 < xs.getD k 0))
set_option maxHeartbeats 2000000 in
theorem may1_any (L : Nat) (rv : RecV) (xs : List Int) (hxs : xs.length ≤ 9223372036854775807) (k : Nat) (hk : k < xs.length) (w : World) (hr : RecIn w L rv) (hx : RowI w rv.barred xs) :
    Calls Tryz.prog 103 #[.int .i64 k, .int .i64 (xs.getD k 0), .pointer (some ⟨L, 0, none⟩)] w fun e w' => e = .returned (.bool (riseAt xs k)) ∧ w' = w := by
  obtain ⟨a, cap, hv, hcap, hx⟩ := hx
  obtain ⟨lb, lo, rfl, hlb, hj⟩ := hx (by omega)
  have c5 := hr.barred
  rw [hv] at c5
  obtain ⟨x, hxk⟩ : ∃ x, x = xs.getD k 0 := ⟨_, rfl⟩
  have HX := aside hxk
  obtain ⟨n, hn⟩ : ∃ n, n = xs.length := ⟨_, rfl⟩
  have HN := aside hn
  rw [← hn] at hk c5 hcap hxs
  rw [← hxk]
  have HJ := aside hj
  clear hv hx hj hr hxk hn
  go_enter Tryz.func103, Tryz.ntmps103
  go_wp2_with fail
  refine (within_any x 0 7 _).mono ?_
  rintro e w1 ⟨rfl, rfl⟩
  by_cases hw : withinB x 0 7 = true
  · by_cases h0 : k = 0
    · subst h0
      have HF : Aside (riseAt xs 0 = true) := by
        have := HX.out
        simp only [Aside, riseAt, ← this, hw]; rfl
      go_wp2
      go_ret
      exact ⟨by rw [HF.out]; rfl, rfl⟩
    · obtain ⟨j, rfl⟩ : ∃ j, k = j + 1 := ⟨k - 1, by omega⟩
      have hjn := HJ.out j (by have := HN.out; omega)
      obtain ⟨y, hy⟩ : ∃ y, y = xs.getD j 0 := ⟨_, rfl⟩
      rw [← hy] at hjn
      have e0 : ((((j + 1 : Nat) : Int)) == 0) = false := by simp; omega
      have e1 : IntKind.i64.wrap (((j + 1 : Nat) : Int) - 1) = (j : Int) := by
        rw [show ((j + 1 : Nat) : Int) - 1 = (j : Int) by omega]
        exact IntWalk.i64_in _ (by omega)
      have hji : (j : Int) < n := by omega
      have hji0 : (0 : Int) ≤ j := by omega
      have HF0 : riseAt xs (j + 1) = decide (y < x) := by
        rw [riseAt, ← HX.out, hw, Nat.add_sub_cancel, ← hy]; simp
      by_cases hlt : y < x
      · have e2 : decide (y < x) = true := decide_eq_true hlt
        rw [e2] at HF0
        have HF := aside HF0
        clear HF0 hlt hy h0 hk
        go_wp2
        go_ret
        exact ⟨by rw [HF.out]; rfl, rfl⟩
      · have e2 : decide (y < x) = false := decide_eq_false hlt
        rw [e2] at HF0
        have HF := aside HF0
        clear HF0 hlt hy h0 hk
        go_wp2
        go_ret
        exact ⟨by rw [HF.out]; rfl, rfl⟩
  · have hw' : withinB x 0 7 = false := by simpa using hw
    have HF : Aside (riseAt xs k = false) := by rw [Aside, riseAt, ← HX.out, hw', Bool.false_and]
    clear hw
    go_wp2
    go_ret
    exact ⟨by rw [HF.out]; rfl, rfl⟩
set_option maxHeartbeats 2000000 in
theorem scene2_any (k x : Int) (w : World) : Calls Tryz.prog 122 #[.int .i64 k, .int .i64 x] w fun e w' => e = .returned (.bool (withinB x 0 7)) ∧ w' = w := by
  go_enter Tryz.func122, Tryz.ntmps122
  go_wp2_with fail
  refine (within_any x 0 7 _).mono ?_
  rintro e w1 ⟨rfl, rfl⟩
  go_wp2
  go_ret
  exact ⟨rfl, rfl⟩
def lotB (x : Int × Int) : Bool := withinB x.1 0 63 && withinB x.2 0 16777216
set_option maxHeartbeats 2000000 in
theorem scene1_any (k x y : Int) (w : World) : Calls Tryz.prog 121 #[.int .i64 k, .agg #[.int .i64 x, .int .i64 y]] w fun e w' => e = .returned (.bool (lotB (x, y))) ∧ Below w.heap.size w w' := by
  have HB := aside (new_alloc w (.cells #[.int .i64 x, .int .i64 y] 63))
  go_enter Tryz.func121, Tryz.ntmps121
  go_wp2_with fail
  refine (within_any x 0 63 _).mono ?_
  rintro e w1 ⟨rfl, rfl⟩
  by_cases hw : withinB x 0 63 = true
  · go_wp2_with fail
    refine (within_any y 0 16777216 _).mono ?_
    rintro e w2 ⟨rfl, rfl⟩
    have HF : Aside (lotB (x, y) = withinB y 0 16777216) := by rw [Aside, lotB, hw, Bool.true_and]
    clear hw
    go_wp2
    go_ret
    exact ⟨by rw [HF.out]; rfl, HB.out⟩
  · have hw' : withinB x 0 63 = false := by simpa using hw
    have HF : Aside (lotB (x, y) = false) := by rw [Aside, lotB, hw', Bool.false_and]
    clear hw
    go_wp2
    go_ret
    exact ⟨by rw [HF.out]; rfl, HB.out⟩
def inAt (xs : List Int) (k : Nat) : Bool := withinB (xs.getD k 0) 0 7
def lotAt (xs : List (Int × Int)) (k : Nat) : Bool := lotB (xs.getD k (0, 0))
set_option maxHeartbeats 2000000 in
theorem allRise_any (L : Nat) (rv : RecV) (v : Value) (xs : List Int) (hxs : xs.length ≤ 9223372036854775807) (w : World) (hx : RowI w v xs) (hr : RecIn w L rv) (hv : rv.barred = v) :
    Calls Tryz.prog 102 #[v, .func (.func 103) #[] #[.pointer (some ⟨L, 0, none⟩)]] w fun e w' => e = .returned (.bool (allTo (riseAt xs) xs.length)) ∧ w' = w := by
  have HX := aside hx
  have HRV := aside hr
  have HV := aside hv
  clear hr hv
  obtain ⟨a, cap, rfl, hcap, _⟩ := hx
  obtain ⟨n, hn⟩ : ∃ n, n = xs.length := ⟨_, rfl⟩
  have HN := aside hn
  have HNX := aside hxs
  rw [← hn] at hxs ⊢
  have H0 : Aside (allTo (riseAt xs) 0 = true) := rfl
  clear hn hcap
  go_enter Tryz.func102, Tryz.ntmps102
  go_wp2_with fail
  go_loopg [9] n (fun gk v9 wr => ∃ k : Nat, k ≤ n ∧ v9 = .int .i64 k ∧ n - k ≤ gk ∧ Aside (allTo (riseAt xs) k = true) ∧ wr = w)
  case atStart => exact ⟨0, by omega, rfl, by omega, H0, rfl⟩
  case round =>
    clear H0
    obtain ⟨k, hk, rfl, hgk, HA, rfl⟩ := hrel
    by_cases hlt : k < n
    · have hki : (k : Int) < n := by omega
      obtain ⟨a', cap', e, _, hj0⟩ := HX.out
      obtain ⟨lb, lo, ea, hlb, hj⟩ := hj0 (by have := HN.out; omega)
      obtain ⟨ea2, _, ec2⟩ := Value.slice.inj e
      clear hj0
      subst ec2
      subst ea2
      subst ea
      have c0 := hj k (by rw [← HN.out]; exact hlt)
      have HC := aside c0
      obtain ⟨x, hxk⟩ : ∃ x, x = xs.getD k 0 := ⟨_, rfl⟩
      rw [← hxk] at c0
      have HXK := aside hxk
      clear hj hxk e
      go_wp2_with fail
      rw [HXK.out]
      refine (may1_any L rv xs HNX.out k (by rw [← HN.out]; exact hlt) _ HRV.out (by rw [HV.out]; exact HX.out)).mono ?_
      rintro e w2 ⟨rfl, rfl⟩
      clear c0
      by_cases hf : (riseAt xs) k = true
      · have HA2 : Aside (allTo (riseAt xs) (k + 1) = true) := by
          rw [Aside, allTo, HA.out, hf]; rfl
        rw [show riseAt xs k = true from hf]
        clear hf
        go_wp2_with fail
        go_roundg (n - (k + 1))
        case measure => omega
        case rel => exact ⟨k + 1, by omega, rfl, by omega, HA2, rfl⟩
      · have hf' : (riseAt xs) k = false := by simpa using hf
        have HF : Aside (allTo (riseAt xs) n = false) := allTo_no _ k n hlt hf'
        rw [show riseAt xs k = false from hf']
        clear hf hf'
        go_wp2_with fail
        go_ret
        exact ⟨by rw [HF.out]; rfl, rfl⟩
    · have hki : ¬ (k : Int) < n := by omega
      have hkn : k = n := by omega
      have HF : Aside (allTo (riseAt xs) n = true) := by rw [← hkn]; exact HA
      clear hkn hlt HA
      go_wp2_with fail
      go_ret
      exact ⟨by rw [HF.out]; rfl, rfl⟩
set_option maxHeartbeats 2000000 in
theorem allIn_any  (v : Value) (xs : List Int) (hxs : xs.length ≤ 9223372036854775807) (w : World) (hx : RowI w v xs) :
    Calls Tryz.prog 102 #[v, .func (.func 122) #[] #[]] w fun e w' => e = .returned (.bool (allTo (inAt xs) xs.length)) ∧ w' = w := by
  have HX := aside hx
  obtain ⟨a, cap, rfl, hcap, _⟩ := hx
  obtain ⟨n, hn⟩ : ∃ n, n = xs.length := ⟨_, rfl⟩
  have HN := aside hn
  have HNX := aside hxs
  rw [← hn] at hxs ⊢
  have H0 : Aside (allTo (inAt xs) 0 = true) := rfl
  clear hn hcap
  go_enter Tryz.func102, Tryz.ntmps102
  go_wp2_with fail
  go_loopg [9] n (fun gk v9 wr => ∃ k : Nat, k ≤ n ∧ v9 = .int .i64 k ∧ n - k ≤ gk ∧ Aside (allTo (inAt xs) k = true) ∧ wr = w)
  case atStart => exact ⟨0, by omega, rfl, by omega, H0, rfl⟩
  case round =>
    clear H0
    obtain ⟨k, hk, rfl, hgk, HA, rfl⟩ := hrel
    by_cases hlt : k < n
    · have hki : (k : Int) < n := by omega
      obtain ⟨a', cap', e, _, hj0⟩ := HX.out
      obtain ⟨lb, lo, ea, hlb, hj⟩ := hj0 (by have := HN.out; omega)
      obtain ⟨ea2, _, ec2⟩ := Value.slice.inj e
      clear hj0
      subst ec2
      subst ea2
      subst ea
      have c0 := hj k (by rw [← HN.out]; exact hlt)
      have HC := aside c0
      obtain ⟨x, hxk⟩ : ∃ x, x = xs.getD k 0 := ⟨_, rfl⟩
      rw [← hxk] at c0
      have HXK := aside hxk
      clear hj hxk e
      go_wp2_with fail
      rw [HXK.out]
      refine (scene2_any (k : Int) (xs.getD k 0) _).mono ?_
      rintro e w2 ⟨rfl, rfl⟩
      rw [← HXK.out]
      clear c0
      by_cases hf : withinB (xs.getD k 0) 0 7 = true
      · have HA2 : Aside (allTo (inAt xs) (k + 1) = true) := by
          rw [Aside, allTo, HA.out, inAt, hf]; rfl
        rw [show withinB x 0 7 = true from by rw [HXK.out]; exact hf]
        clear hf
        go_wp2_with fail
        go_roundg (n - (k + 1))
        case measure => omega
        case rel => exact ⟨k + 1, by omega, rfl, by omega, HA2, rfl⟩
      · have hf' : withinB (xs.getD k 0) 0 7 = false := by simpa using hf
        have HF : Aside (allTo (inAt xs) n = false) := allTo_no _ k n hlt hf'
        rw [show withinB x 0 7 = false from by rw [HXK.out]; exact hf']
        clear hf hf'
        go_wp2_with fail
        go_ret
        exact ⟨by rw [HF.out]; rfl, rfl⟩
    · have hki : ¬ (k : Int) < n := by omega
      have hkn : k = n := by omega
      have HF : Aside (allTo (inAt xs) n = true) := by rw [← hkn]; exact HA
      clear hkn hlt HA
      go_wp2_with fail
      go_ret
      exact ⟨by rw [HF.out]; rfl, rfl⟩
set_option maxHeartbeats 2000000 in
theorem allL_any (v : Value) (xs : List (Int × Int)) (hxs : xs.length ≤ 9223372036854775807) (w : World) (hx : RowL w v xs) :
    Calls Tryz.prog 120 #[v, .func (.func 121) #[] #[]] w fun e w' => e = .returned (.bool (allTo (lotAt xs) xs.length)) ∧ Below w.heap.size w w' := by
  have HX := aside hx
  obtain ⟨a, cap, rfl, hcap, _⟩ := hx
  obtain ⟨n, hn⟩ : ∃ n, n = xs.length := ⟨_, rfl⟩
  have HN := aside hn
  rw [← hn] at hxs ⊢
  have H0 : Aside (allTo (lotAt xs) 0 = true) := rfl
  have HB0 : Aside (Below w.heap.size w w) := Below.refl _ _
  clear hn hcap
  go_enter Tryz.func120, Tryz.ntmps120
  go_wp2_with fail
  go_loopg [9] n (fun gk v9 wr => ∃ k : Nat, k ≤ n ∧ v9 = .int .i64 k ∧ n - k ≤ gk ∧ Aside (allTo (lotAt xs) k = true) ∧ Aside (Below w.heap.size w wr))
  case atStart => exact ⟨0, by omega, rfl, by omega, H0, HB0⟩
  case round =>
    clear H0 HB0
    obtain ⟨k, hk, rfl, hgk, HA, HB⟩ := hrel
    by_cases hlt : k < n
    · have hki : (k : Int) < n := by omega
      obtain ⟨a', cap', e, _, hj0⟩ := HX.out
      obtain ⟨lb, lo, ea, hlb, hj⟩ := hj0 (by have := HN.out; omega)
      obtain ⟨ea2, _, ec2⟩ := Value.slice.inj e
      clear hj0
      subst ec2
      subst ea2
      subst ea
      have hjk := hj k (by rw [← HN.out]; exact hlt)
      obtain ⟨x, hxk⟩ : ∃ x, x = xs.getD k (0, 0) := ⟨_, rfl⟩
      rw [← hxk] at hjk
      obtain ⟨x, y⟩ := x
      have HXK := aside hxk
      have c0 : wr.cell? ⟨lb, lo + k * 2, none⟩ = some (.int .i64 x) := (HB.out.cell (p := ⟨lb, lo + k * 2, none⟩) hlb).trans hjk.1
      have c1 : wr.cell? ⟨lb, lo + k * 2 + 1, none⟩ = some (.int .i64 y) := (HB.out.cell (p := ⟨lb, lo + k * 2 + 1, none⟩) hlb).trans hjk.2
      have HB1 : Aside (Below w.heap.size w (wr.alloc (.cells #[.int .i64 x, .int .i64 y] 63))) := HB.out.alloc HB.out.size _
      clear hj hjk hxk HB e
      go_wp2_with fail
      refine (scene1_any (k : Int) x y _).mono ?_
      rintro e w2 ⟨rfl, hb2⟩
      have HB2 := aside (HB1.out.trans (hb2.mono HB1.out.size))
      clear hb2 c0 c1
      by_cases hf : lotB (x, y) = true
      · have HA2 : Aside (allTo (lotAt xs) (k + 1) = true) := by
          rw [Aside, allTo, HA.out, lotAt, ← HXK.out, hf]; rfl
        rw [hf]
        clear hf
        go_wp2_with fail
        go_roundg (n - (k + 1))
        case measure => omega
        case rel => exact ⟨k + 1, by omega, rfl, by omega, HA2, HB2⟩
      · have hf' : lotB (x, y) = false := by simpa using hf
        have HF : Aside (allTo (lotAt xs) n = false) := allTo_no _ k n hlt (by rw [lotAt, ← HXK.out]; exact hf')
        rw [hf']
        clear hf hf'
        go_wp2_with fail
        go_ret
        exact ⟨by rw [HF.out]; rfl, HB2.out⟩
    · have hki : ¬ (k : Int) < n := by omega
      have hkn : k = n := by omega
      have HF : Aside (allTo (lotAt xs) n = true) := by rw [← hkn]; exact HA
      clear hkn hlt HA
      go_wp2_with fail
      go_ret
      exact ⟨by rw [HF.out]; rfl, HB.out⟩
end Go.Proofs.YtfnekbfcndkjeaaGreatDoor
