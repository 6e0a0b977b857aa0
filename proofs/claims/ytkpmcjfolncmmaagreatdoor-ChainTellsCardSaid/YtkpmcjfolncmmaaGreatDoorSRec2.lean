/- Records as data; rows of ints and lots that are read. -/
import Derived.Test.YtkpmcjfolncmmaaGreatDoorSOwnG
import Derived.Test.YtkpmcjfolncmmaaGreatDoorSLst1
import Derived.Deep.RegionHeld3
import Derived.Deep.RegionWith
import Derived.Test.YtkpmcjfolncmmaaGreatDoorSOct2
import Derived.Laws.BitsAllLaws
import Derived.ChangeKeysEq
import Derived.Laws.StructEq
import Derived.Deep.MidRow
set_option linter.all false
namespace Go.Proofs.YtkpmcjfolncmmaaGreatDoor
open Go.RowKit
def RowI (w : World) (v : Value) (xs : List Int) : Prop :=
  ∃ a cap, v = .slice a xs.length cap ∧ xs.length ≤ cap ∧ (0 < xs.length → ∃ lb lo, a = some ⟨lb, lo, none⟩ ∧ lb < w.heap.size ∧ ∀ j, j < xs.length → w.cell? ⟨lb, lo + j, none⟩ = some (.int .i64 (xs.getD j 0)))
def RowL (w : World) (v : Value) (xs : List (Int × Int)) : Prop :=
  ∃ a cap, v = .slice a xs.length cap ∧ xs.length ≤ cap ∧ (0 < xs.length → ∃ lb lo, a = some ⟨lb, lo, none⟩ ∧ lb < w.heap.size ∧ ∀ j, j < xs.length → w.cell? ⟨lb, lo + j * 2, none⟩ = some (.int .i64 (xs.getD j (0, 0)).1) ∧ w.cell? ⟨lb, lo + j * 2 + 1, none⟩ = some (.int .i64 (xs.getD j (0, 0)).2))
theorem RowI.on {w w' : World} {v : Value} {xs : List Int} (h : RowI w v xs) (hb : Below w.heap.size w w') : RowI w' v xs := by
  obtain ⟨a, cap, e, hc, h⟩ := h
  refine ⟨a, cap, e, hc, fun h0 => ?_⟩
  obtain ⟨lb, lo, e, hl, hj⟩ := h h0
  exact ⟨lb, lo, e, Nat.lt_of_lt_of_le hl hb.size, fun j h1 => (hb.cell (p := ⟨lb, lo + j, none⟩) hl).trans (hj j h1)⟩
theorem RowL.on {w w' : World} {v : Value} {xs : List (Int × Int)} (h : RowL w v xs) (hb : Below w.heap.size w w') : RowL w' v xs := by
  obtain ⟨a, cap, e, hc, h⟩ := h
  refine ⟨a, cap, e, hc, fun h0 => ?_⟩
  obtain ⟨lb, lo, e, hl, hj⟩ := h h0
  exact ⟨lb, lo, e, Nat.lt_of_lt_of_le hl hb.size, fun j h1 => ⟨(hb.cell (p := ⟨lb, lo + j * 2, none⟩) hl).trans (hj j h1).1, (hb.cell (p := ⟨lb, lo + j * 2 + 1, none⟩) hl).trans (hj j h1).2⟩⟩
theorem RowI.nil (w : World) : RowI w (.slice none 0 0) [] := ⟨none, 0, rfl, Nat.le_refl _, fun h => by simp at h⟩
theorem RowL.nil (w : World) : RowL w (.slice none 0 0) [] := ⟨none, 0, rfl, Nat.le_refl _, fun h => by simp at h⟩
theorem lotCells_get (xs : List (Int × Int)) : ∀ j, j < xs.length → (lotCells xs)[j * 2]? = some (.int .i64 (xs.getD j (0, 0)).1) ∧ (lotCells xs)[j * 2 + 1]? = some (.int .i64 (xs.getD j (0, 0)).2) := by
  induction xs with
  | nil => intro j h; simp at h
  | cons x xs ih =>
    intro j h
    have hc : lotCells (x :: xs) = .int .i64 x.1 :: .int .i64 x.2 :: lotCells xs := rfl
    cases j with
    | zero => rw [hc]; exact ⟨rfl, rfl⟩
    | succ j =>
      have h2 := ih j (by rw [List.length_cons] at h; omega)
      rw [hc, show (j + 1) * 2 = j * 2 + 1 + 1 by omega]
      exact h2
theorem rowI_owned {base : Nat} {w : World} {v : Value} {xs : List Int} {n : Nat} (hn : n = xs.length) (h : w.ownsRow base 3 1 v n (xs.map (Value.int .i64))) : RowI w v xs := by
  subst hn
  obtain ⟨a, cap, e, hc, h⟩ := ownsRow_form h
  refine ⟨a, cap, e, hc, fun h0 => ?_⟩
  obtain ⟨g, e, _, hg, hj⟩ := h h0
  refine ⟨g, 0, e, hg, fun j h1 => ?_⟩
  rw [Nat.zero_add]
  refine hj j _ ?_
  rw [List.getElem?_map, List.getElem?_eq_getElem h1, List.getD_eq_getElem?_getD, List.getElem?_eq_getElem h1]
  rfl
theorem rowL_owned {base : Nat} {w : World} {v : Value} {xs : List (Int × Int)} {n : Nat} (hn : n = xs.length) (h : w.ownsRow base 68 2 v n (lotCells xs)) : RowL w v xs := by
  subst hn
  obtain ⟨a, cap, e, hc, h⟩ := ownsRow_form h
  refine ⟨a, cap, e, hc, fun h0 => ?_⟩
  obtain ⟨g, e, _, hg, hj⟩ := h h0
  refine ⟨g, 0, e, hg, fun j h1 => ?_⟩
  rw [Nat.zero_add]
  exact ⟨hj _ _ (lotCells_get xs j h1).1, hj _ _ (lotCells_get xs j h1).2⟩
structure RecD where
  kind : Int := 0
  round : Int := 0
  lot : Int := 0
  carrier : Int := 0
  tick : Int := 0
  barred : List Int := []
  dig : List Int := List.replicate 32 0
  bid : Int := 0
  nonce : Int := 0
  state : Int := 0
  winner : Int := 0
  price : Int := 0
  carriers : Int := 0
  commit : Int := 0
  reveal : Int := 0
  scheme : Int := 0
  lots : List (Int × Int) := []
  owners : List Int := []
deriving DecidableEq
def RecD.toV (d : RecD) (b l o : Value) : RecV :=
  { kind := d.kind, round := d.round, lot := d.lot, carrier := d.carrier, tick := d.tick, barred := b, dig := fun k => d.dig.getD k 0, bid := d.bid, nonce := d.nonce, state := d.state, winner := d.winner, price := d.price,
    carriers := d.carriers, commit := d.commit, reveal := d.reveal, scheme := d.scheme, lots := l, owners := o }
theorem rep_getD (n k : Nat) : (List.replicate n (0 : Int)).getD k 0 = 0 := by
  rw [List.getD_eq_getElem?_getD, List.getElem?_replicate]
  split <;> rfl
def RecAt (w : World) (v : RecV) (d : RecD) : Prop :=
  ∃ b l o, v = d.toV b l o ∧ RowI w b d.barred ∧ RowL w l d.lots ∧ RowI w o d.owners
theorem RecAt.on {w w' : World} {v : RecV} {d : RecD} (h : RecAt w v d) (hb : Below w.heap.size w w') : RecAt w' v d := by
  obtain ⟨b, l, o, e, h1, h2, h3⟩ := h
  exact ⟨b, l, o, e, h1.on hb, h2.on hb, h3.on hb⟩
def RowIF (B : Nat) (w : World) (v : Value) (xs : List Int) : Prop :=
  ∃ a cap, v = .slice a xs.length cap ∧ xs.length ≤ cap ∧ (0 < xs.length → ∃ lb lo cur, a = some ⟨lb, lo, none⟩ ∧ B ≤ lb ∧ w.heap[lb]? = some (.cells cur 3 (0, 0)) ∧ ∀ j, j < xs.length → w.cell? ⟨lb, lo + j, none⟩ = some (.int .i64 (xs.getD j 0)))
def RowLF (B : Nat) (w : World) (v : Value) (xs : List (Int × Int)) : Prop :=
  ∃ a cap, v = .slice a xs.length cap ∧ xs.length ≤ cap ∧ (0 < xs.length → ∃ lb lo cur, a = some ⟨lb, lo, none⟩ ∧ B ≤ lb ∧ w.heap[lb]? = some (.cells cur 68 (0, 0)) ∧ ∀ j, j < xs.length → w.cell? ⟨lb, lo + j * 2, none⟩ = some (.int .i64 (xs.getD j (0, 0)).1) ∧ w.cell? ⟨lb, lo + j * 2 + 1, none⟩ = some (.int .i64 (xs.getD j (0, 0)).2))
theorem RowIF.nil (B : Nat) (w : World) : RowIF B w (.slice none 0 0) [] := ⟨none, 0, rfl, Nat.le_refl _, fun h => by simp at h⟩
theorem RowLF.nil (B : Nat) (w : World) : RowLF B w (.slice none 0 0) [] := ⟨none, 0, rfl, Nat.le_refl _, fun h => by simp at h⟩
theorem RowIF.row {B : Nat} {w : World} {v : Value} {xs : List Int} (h : RowIF B w v xs) : RowI w v xs := by
  obtain ⟨a, cap, e, hc, h⟩ := h
  refine ⟨a, cap, e, hc, fun h0 => ?_⟩
  obtain ⟨lb, lo, cur, e, _, hl, hj⟩ := h h0
  exact ⟨lb, lo, e, whole_lt hl, hj⟩
theorem RowLF.row {B : Nat} {w : World} {v : Value} {xs : List (Int × Int)} (h : RowLF B w v xs) : RowL w v xs := by
  obtain ⟨a, cap, e, hc, h⟩ := h
  refine ⟨a, cap, e, hc, fun h0 => ?_⟩
  obtain ⟨lb, lo, cur, e, _, hl, hj⟩ := h h0
  exact ⟨lb, lo, e, whole_lt hl, hj⟩
def RowBlock (B : Nat) (w : World) (k : Nat) : Prop := B ≤ k ∧ ∃ cur, w.heap[k]? = some (.cells cur 3 (0, 0)) ∨ w.heap[k]? = some (.cells cur 68 (0, 0))
theorem RowIF.keepsT {B : Nat} {K : Nat → Prop} {w w' : World} {v : Value} {xs : List Int} (h : RowIF B w v xs) (hk : Keeps K w w') (hK : ∀ k, RowBlock B w k → K k) : RowIF B w' v xs := by
  obtain ⟨a, cap, e, hc, h⟩ := h
  refine ⟨a, cap, e, hc, fun h0 => ?_⟩
  obtain ⟨lb, lo, cur, e, hB, hl, hj⟩ := h h0
  have hK' := hK lb ⟨hB, cur, .inl hl⟩
  exact ⟨lb, lo, cur, e, hB, whole_keeps hl hk hK', fun j h1 => cell_keeps (hj j h1) hk hK'⟩
theorem RowLF.keepsT {B : Nat} {K : Nat → Prop} {w w' : World} {v : Value} {xs : List (Int × Int)} (h : RowLF B w v xs) (hk : Keeps K w w') (hK : ∀ k, RowBlock B w k → K k) : RowLF B w' v xs := by
  obtain ⟨a, cap, e, hc, h⟩ := h
  refine ⟨a, cap, e, hc, fun h0 => ?_⟩
  obtain ⟨lb, lo, cur, e, hB, hl, hj⟩ := h h0
  have hK' := hK lb ⟨hB, cur, .inr hl⟩
  exact ⟨lb, lo, cur, e, hB, whole_keeps hl hk hK', fun j h1 => ⟨cell_keeps (hj j h1).1 hk hK', cell_keeps (hj j h1).2 hk hK'⟩⟩
theorem RowIF.keeps {B : Nat} {K : Nat → Prop} {w w' : World} {v : Value} {xs : List Int} (h : RowIF B w v xs) (hk : Keeps K w w') (hK : ∀ k, B ≤ k → K k) : RowIF B w' v xs := h.keepsT hk fun k hb => hK k hb.1
theorem RowLF.keeps {B : Nat} {K : Nat → Prop} {w w' : World} {v : Value} {xs : List (Int × Int)} (h : RowLF B w v xs) (hk : Keeps K w w') (hK : ∀ k, B ≤ k → K k) : RowLF B w' v xs := h.keepsT hk fun k hb => hK k hb.1
theorem RowIF.mono {B B' : Nat} {w : World} {v : Value} {xs : List Int} (h : RowIF B w v xs) (hB : B' ≤ B) : RowIF B' w v xs := by
  obtain ⟨a, cap, e, hc, h⟩ := h
  refine ⟨a, cap, e, hc, fun h0 => ?_⟩
  obtain ⟨lb, lo, cur, e, hb, hl, hj⟩ := h h0
  exact ⟨lb, lo, cur, e, Nat.le_trans hB hb, hl, hj⟩
theorem RowLF.mono {B B' : Nat} {w : World} {v : Value} {xs : List (Int × Int)} (h : RowLF B w v xs) (hB : B' ≤ B) : RowLF B' w v xs := by
  obtain ⟨a, cap, e, hc, h⟩ := h
  refine ⟨a, cap, e, hc, fun h0 => ?_⟩
  obtain ⟨lb, lo, cur, e, hb, hl, hj⟩ := h h0
  exact ⟨lb, lo, cur, e, Nat.le_trans hB hb, hl, hj⟩
theorem rowIF_owned {base B : Nat} {w : World} {v : Value} {xs : List Int} {n : Nat} (hn : n = xs.length) (h : w.ownsRow base 3 1 v n (xs.map (Value.int .i64))) (hB : B ≤ base) : RowIF B w v xs := by
  subst hn
  have hf := rowI_owned rfl h
  obtain ⟨_, h2⟩ := h
  rcases h2 with ⟨rfl, h3⟩ | ⟨g, cap, cur, rfl, hg, hh, hnc, _⟩
  · exact ⟨none, 0, by rw [h3], by omega, fun h => by omega⟩
  · refine ⟨_, cap, rfl, hnc, fun h0 => ?_⟩
    obtain ⟨a, cap', e, _, hx⟩ := hf
    obtain ⟨lb, lo, ea, _, hj⟩ := hx h0
    obtain ⟨ea2, _, _⟩ := Value.slice.inj e
    rw [ea] at ea2
    obtain ⟨rfl, rfl, _⟩ : g = lb ∧ 0 = lo ∧ True := by injection ea2 with ea2; injection ea2 with h1 h2; exact ⟨h1, h2, trivial⟩
    exact ⟨g, 0, cur, rfl, Nat.le_trans hB hg, hh, hj⟩
theorem rowLF_owned {base B : Nat} {w : World} {v : Value} {xs : List (Int × Int)} {n : Nat} (hn : n = xs.length) (h : w.ownsRow base 68 2 v n (lotCells xs)) (hB : B ≤ base) : RowLF B w v xs := by
  subst hn
  have hf := rowL_owned rfl h
  obtain ⟨_, h2⟩ := h
  rcases h2 with ⟨rfl, h3⟩ | ⟨g, cap, cur, rfl, hg, hh, hnc, _⟩
  · exact ⟨none, 0, by rw [h3], by omega, fun h => by omega⟩
  · refine ⟨_, cap, rfl, hnc, fun h0 => ?_⟩
    obtain ⟨a, cap', e, _, hx⟩ := hf
    obtain ⟨lb, lo, ea, _, hj⟩ := hx h0
    obtain ⟨ea2, _, _⟩ := Value.slice.inj e
    rw [ea] at ea2
    obtain ⟨rfl, rfl, _⟩ : g = lb ∧ 0 = lo ∧ True := by injection ea2 with ea2; injection ea2 with h1 h2; exact ⟨h1, h2, trivial⟩
    exact ⟨g, 0, cur, rfl, Nat.le_trans hB hg, hh, hj⟩
def RecFrom (B : Nat) (w : World) (v : RecV) (d : RecD) : Prop :=
  ∃ b l o, v = d.toV b l o ∧ RowIF B w b d.barred ∧ RowLF B w l d.lots ∧ RowIF B w o d.owners
theorem RecFrom.at_ {B : Nat} {w : World} {v : RecV} {d : RecD} (h : RecFrom B w v d) : RecAt w v d := by
  obtain ⟨b, l, o, e, h1, h2, h3⟩ := h
  exact ⟨b, l, o, e, h1.row, h2.row, h3.row⟩
theorem RecFrom.keepsT {B : Nat} {K : Nat → Prop} {w w' : World} {v : RecV} {d : RecD} (h : RecFrom B w v d) (hk : Keeps K w w') (hK : ∀ k, RowBlock B w k → K k) : RecFrom B w' v d := by
  obtain ⟨b, l, o, e, h1, h2, h3⟩ := h
  exact ⟨b, l, o, e, h1.keepsT hk hK, h2.keepsT hk hK, h3.keepsT hk hK⟩
theorem RecFrom.keeps {B : Nat} {K : Nat → Prop} {w w' : World} {v : RecV} {d : RecD} (h : RecFrom B w v d) (hk : Keeps K w w') (hK : ∀ k, B ≤ k → K k) : RecFrom B w' v d := by
  obtain ⟨b, l, o, e, h1, h2, h3⟩ := h
  exact ⟨b, l, o, e, h1.keeps hk hK, h2.keeps hk hK, h3.keeps hk hK⟩
theorem RecFrom.on {B : Nat} {w w' : World} {v : RecV} {d : RecD} (h : RecFrom B w v d) (hb : Below w.heap.size w w') : RecFrom B w' v d := h.keeps (keeps_of_new hb (fun _ => True)) (fun _ _ => trivial)
theorem RecFrom.mono {B B' : Nat} {w : World} {v : RecV} {d : RecD} (h : RecFrom B w v d) (hB : B' ≤ B) : RecFrom B' w v d := by
  obtain ⟨b, l, o, e, h1, h2, h3⟩ := h
  exact ⟨b, l, o, e, h1.mono hB, h2.mono hB, h3.mono hB⟩
theorem RecFrom.nil (B : Nat) (w : World) : RecFrom B w {} {} := ⟨.slice none 0 0, .slice none 0 0, .slice none 0 0, by simp only [RecD.toV, rep_getD], RowIF.nil _ _, RowLF.nil _ _, RowIF.nil _ _⟩
theorem RecFrom.one {B : Nat} {w : World} {v : RecV} {d : RecD} (h : RecFrom B w v d) : (recCells v).all (·.oneCell') = true := by
  obtain ⟨b, l, o, rfl, ⟨a1, c1, rfl, _⟩, ⟨a2, c2, rfl, _⟩, ⟨a3, c3, rfl, _⟩⟩ := h
  exact recCells_one _ rfl rfl rfl
end Go.Proofs.YtkpmcjfolncmmaaGreatDoor
namespace Go.Proofs.YtkpmcjfolncmmaaGreatDoor
open Go.RowKit
def GotPost (ok : Prop) [Decidable ok] (d : RecD) (q : Int) (b g : Nat) (t : ByteArray) (w : World) (e : Ending) (w' : World) : Prop :=
  if ok then ∃ rv, e = .returned (.agg (recCells rv)) ∧ RecFrom w.heap.size w' rv d ∧ Keeps (· ≠ b) w w' ∧ ROpen b g t q false w'
  else e = .panicked gaveUp ∧ Keeps (· ≠ b) w w'
def endOk (t : ByteArray) : Prop := 9 ≤ t.size
instance (t : ByteArray) : Decidable (endOk t) := by unfold endOk; infer_instance
def endR (t : ByteArray) : RecD := { kind := 6, tick := wrap64 (getV t 1 8) }
def endQ (_ : ByteArray) : Int := 9
set_option maxHeartbeats 4000000 in
set_option maxRecDepth 100000 in
theorem parts_end (b g : Nat) (t : ByteArray) (hts : t.size ≤ 9223372036854775807) (h1 : 1 ≤ t.size) (w : World) (h : ROpen b g t 1 false w) :
    Calls Tryz.prog 30 #[.agg #[.pointer (some ⟨b, 0, none⟩)], .int .i64 6] w (GotPost (endOk t) (endR t) (endQ t) b g t w) := by
  have H := aside h
  have hbl := h.bound.1
  have hgl := h.bound.2
  have HTS := aside hts
  clear h hts
  go_enter Tryz.func30, Tryz.ntmps30
  go_wp2_with fail
  rw [show (#[.int .i64 6, .int .i64 0, .int .i64 0, .int .i64 0, .int .i64 0, .slice none 0 0, .int .u8 0, .int .u8 0, .int .u8 0, .int .u8 0, .int .u8 0, .int .u8 0, .int .u8 0, .int .u8 0, .int .u8 0, .int .u8 0, .int .u8 0, .int .u8 0, .int .u8 0, .int .u8 0, .int .u8 0, .int .u8 0, .int .u8 0, .int .u8 0, .int .u8 0, .int .u8 0, .int .u8 0, .int .u8 0, .int .u8 0, .int .u8 0, .int .u8 0, .int .u8 0, .int .u8 0, .int .u8 0, .int .u8 0, .int .u8 0, .int .u8 0, .int .u8 0, .int .u64 0, .int .u64 0, .int .i64 0, .int .i64 0, .int .u64 0, .int .i64 0, .int .i64 0, .int .i64 0, .int .i64 0, .slice none 0 0, .slice none 0 0] : Array Value) = recCells { kind := 6 } from rfl]
  obtain ⟨R, hR⟩ : ∃ x, x = w.heap.size := ⟨_, rfl⟩
  obtain ⟨L, hL⟩ : ∃ x, x = w.heap.size + 1 := ⟨_, rfl⟩
  obtain ⟨w0, hw0⟩ : ∃ z, z = (w.alloc (.cells #[.pointer (some ⟨b, 0, none⟩)] 75)).alloc (.cells (recCells { kind := 6 }) 38) := ⟨_, rfl⟩
  have HN0 : Aside (Below w.heap.size w w0) := by rw [hw0]; exact new_trans (new_alloc _ _) (new_alloc _ _)
  have HR0 : RecIn w0 L { kind := 6 } := by rw [hw0, hL]; have := RecIn.box (w.alloc (.cells #[.pointer (some ⟨b, 0, none⟩)] 75)) { kind := 6 }; simpa using this
  have HR0 := aside HR0
  have HB0 : Aside (w0.cell? ⟨R, 0, none⟩ = some (.pointer (some ⟨b, 0, none⟩))) := by
    rw [hw0, hR]; exact ((new_alloc _ _).cell (p := ⟨w.heap.size, 0, none⟩) (by simp)).trans (cell_new _ _ _ 0)
  have hLb : L ≠ b := by omega
  have hRb : R ≠ b := by omega
  have hLg : L ≠ g := by omega
  have hLR : L ≠ R := by omega
  have hRL : R ≠ L := by omega
  have hLw : w.heap.size ≤ L := by omega
  have HK0 : Aside (Keeps (· ≠ b) w w0) := keeps_of_new HN0.out _
  have HO0 : Aside (ROpen b g t 1 false w0) := H.out.on HN0.out
  rw [← hw0, ← hL, ← hR]
  clear hw0 hR hL
  refine (cnum_any b g t HTS.out 1 8 (by omega) (by omega) w0 HO0.out).mono ?_
  intro e u1 hr
  by_cases hle1 : 8 ≤ (t.size : Int) - 1
  case neg =>
    rw [CNumPost, if_neg hle1] at hr
    obtain ⟨rfl, hk⟩ := hr
    have HE : Aside (GotPost (endOk t) (endR t) (endQ t) b g t w (.panicked gaveUp) u1) := by
      rw [Aside, GotPost, if_neg (fun h => by unfold endOk at h; omega)]
      exact ⟨rfl, HK0.out.trans hk⟩
    clear hk hle1
    go_wp2_with fail
    exact ⟨rfl, HE.out⟩
  rw [CNumPost, if_pos hle1] at hr
  obtain ⟨rfl, hk, ho⟩ := hr
  obtain ⟨x1, hx⟩ : ∃ x, x = getV t 1 8 := ⟨_, rfl⟩
  rw [← hx]
  have HX1 := aside hx
  have hbd := getV_bound t 1 8 (by omega)
  rw [← hx] at hbd
  have hx0 : 0 ≤ x1 := hbd.1
  have hx9 : x1 ≤ 18446744073709551615 := by have := hbd.2; simp at this; omega
  clear hbd
  have HK := aside (HK0.out.trans hk)
  have HO : Aside (ROpen b g t 9 false u1) := ho
  have HR := aside (HR0.out.keeps hk hLb)
  have HB := aside (cell_keeps HB0.out hk hRb)
  have cb := HB.out
  have cf := HR.out.tick
  have ff := HR.out.free 4
  clear hx hk ho HO0 HK0 HR0 HB0
  obtain ⟨r1, hr1⟩ : ∃ r : RecV, r = { ({ kind := 6 } : RecV) with tick := wrap64 x1 } := ⟨_, rfl⟩
  have HV1 := aside hr1
  have HK1 : Aside (Keeps (· ≠ b) w (u1.setCell ⟨L, 4, none⟩ (.int .i64 (wrap64 x1)))) := keeps_set HK.out hLw _ _
  have HRX : RecIn (u1.setCell ⟨L, 4, none⟩ (.int .i64 (wrap64 x1))) L r1 := by rw [hr1]; exact HR.out.setTick _
  have HR1 := aside HRX
  have HO1 := aside (HO.out.other hLb hLg 4 (.int .i64 (wrap64 x1)))
  clear hr1 HRX HK HO HR
  have hone : (recCells r1).all (·.oneCell') = true := by
    refine recCells_one _ ?_ ?_ ?_ <;> (simp only [HV1.out]; rfl)
  have hi0 : (Tryz.prog.info? 38).map (·.size) = some (recCells r1).size := by rw [recCells_size]; kernel_rfl
  have hsame := HR1.out.setSame
  go_wp2_with (first
    | (refine wpList_load_row rfl _ _ rfl L rfl _ (recCells r1) (0, 0) _ HR1.out Tryz.underlying38 rfl hi0 ?_)
    | (refine wpList_store_row rfl _ _ _ rfl L (recCells r1) rfl rfl 38 _ HR1.out hi0 rfl hone ?_)
    | fail)
  rw [hsame]
  refine bodyPost_ret (results_cell_row rfl _ _ L 38 (recCells r1) (0, 0) _ rfl HR1.out Tryz.underlying38 rfl hi0) rfl ?_
  rw [GotPost, if_pos (by unfold endOk; omega)]
  exact ⟨_, rfl, ⟨_, _, _, by simp only [HV1.out, HX1.out]; simp only [endR, RecD.toV, rep_getD], RowIF.nil _ _, RowLF.nil _ _, RowIF.nil _ _⟩, HK1.out, HO1.out⟩
def revealOk (t : ByteArray) : Prop := 27 ≤ t.size
instance (t : ByteArray) : Decidable (revealOk t) := by unfold revealOk; infer_instance
def revealR (t : ByteArray) : RecD := { kind := 4, round := getV t 1 1, carrier := getV t 2 1, bid := getV t 3 8, nonce := getV t 11 8, tick := wrap64 (getV t 19 8) }
def revealQ (_ : ByteArray) : Int := 27
set_option maxHeartbeats 4000000 in
set_option maxRecDepth 100000 in
theorem parts_reveal (b g : Nat) (t : ByteArray) (hts : t.size ≤ 9223372036854775807) (h1 : 1 ≤ t.size) (w : World) (h : ROpen b g t 1 false w) :
    Calls Tryz.prog 30 #[.agg #[.pointer (some ⟨b, 0, none⟩)], .int .i64 4] w (GotPost (revealOk t) (revealR t) (revealQ t) b g t w) := by
  have H := aside h
  have hbl := h.bound.1
  have hgl := h.bound.2
  have HTS := aside hts
  clear h hts
  go_enter Tryz.func30, Tryz.ntmps30
  go_wp2_with fail
  rw [show (#[.int .i64 4, .int .i64 0, .int .i64 0, .int .i64 0, .int .i64 0, .slice none 0 0, .int .u8 0, .int .u8 0, .int .u8 0, .int .u8 0, .int .u8 0, .int .u8 0, .int .u8 0, .int .u8 0, .int .u8 0, .int .u8 0, .int .u8 0, .int .u8 0, .int .u8 0, .int .u8 0, .int .u8 0, .int .u8 0, .int .u8 0, .int .u8 0, .int .u8 0, .int .u8 0, .int .u8 0, .int .u8 0, .int .u8 0, .int .u8 0, .int .u8 0, .int .u8 0, .int .u8 0, .int .u8 0, .int .u8 0, .int .u8 0, .int .u8 0, .int .u8 0, .int .u64 0, .int .u64 0, .int .i64 0, .int .i64 0, .int .u64 0, .int .i64 0, .int .i64 0, .int .i64 0, .int .i64 0, .slice none 0 0, .slice none 0 0] : Array Value) = recCells { kind := 4 } from rfl]
  obtain ⟨R, hR⟩ : ∃ x, x = w.heap.size := ⟨_, rfl⟩
  obtain ⟨L, hL⟩ : ∃ x, x = w.heap.size + 1 := ⟨_, rfl⟩
  obtain ⟨w0, hw0⟩ : ∃ z, z = (w.alloc (.cells #[.pointer (some ⟨b, 0, none⟩)] 75)).alloc (.cells (recCells { kind := 4 }) 38) := ⟨_, rfl⟩
  have HN0 : Aside (Below w.heap.size w w0) := by rw [hw0]; exact new_trans (new_alloc _ _) (new_alloc _ _)
  have HR0 : RecIn w0 L { kind := 4 } := by rw [hw0, hL]; have := RecIn.box (w.alloc (.cells #[.pointer (some ⟨b, 0, none⟩)] 75)) { kind := 4 }; simpa using this
  have HR0 := aside HR0
  have HB0 : Aside (w0.cell? ⟨R, 0, none⟩ = some (.pointer (some ⟨b, 0, none⟩))) := by
    rw [hw0, hR]; exact ((new_alloc _ _).cell (p := ⟨w.heap.size, 0, none⟩) (by simp)).trans (cell_new _ _ _ 0)
  have hLb : L ≠ b := by omega
  have hRb : R ≠ b := by omega
  have hLg : L ≠ g := by omega
  have hLR : L ≠ R := by omega
  have hRL : R ≠ L := by omega
  have hLw : w.heap.size ≤ L := by omega
  have HK0 : Aside (Keeps (· ≠ b) w w0) := keeps_of_new HN0.out _
  have HO0 : Aside (ROpen b g t 1 false w0) := H.out.on HN0.out
  rw [← hw0, ← hL, ← hR]
  clear hw0 hR hL
  refine (csmall_any b g t HTS.out 1 (by omega) w0 HO0.out).mono ?_
  intro e u1 hr
  by_cases hle1 : 1 ≤ (t.size : Int) - 1
  case neg =>
    rw [CNumPost, if_neg hle1] at hr
    obtain ⟨rfl, hk⟩ := hr
    have HE : Aside (GotPost (revealOk t) (revealR t) (revealQ t) b g t w (.panicked gaveUp) u1) := by
      rw [Aside, GotPost, if_neg (fun h => by unfold revealOk at h; omega)]
      exact ⟨rfl, HK0.out.trans hk⟩
    clear hk hle1
    go_wp2_with fail
    exact ⟨rfl, HE.out⟩
  rw [CNumPost, if_pos hle1] at hr
  obtain ⟨rfl, hk, ho⟩ := hr
  obtain ⟨x1, hx⟩ : ∃ x, x = getV t 1 1 := ⟨_, rfl⟩
  rw [← hx]
  have HX1 := aside hx
  have hbd := getV_bound t 1 1 (by omega)
  rw [← hx] at hbd
  have hx0 : 0 ≤ x1 := hbd.1
  have hx9 : x1 ≤ 255 := by have := hbd.2; simp at this; omega
  clear hbd
  have HK := aside (HK0.out.trans hk)
  have HO : Aside (ROpen b g t 2 false u1) := ho
  have HR := aside (HR0.out.keeps hk hLb)
  have HB := aside (cell_keeps HB0.out hk hRb)
  have cb := HB.out
  have cf := HR.out.round
  have ff := HR.out.free 1
  clear hx hk ho HO0 HK0 HR0 HB0
  go_wp2_with fail
  clear cb cf ff hx0 hx9
  obtain ⟨r1, hr1⟩ : ∃ r : RecV, r = { ({ kind := 4 } : RecV) with round := x1 } := ⟨_, rfl⟩
  have HV1 := aside hr1
  obtain ⟨w1, hw⟩ : ∃ z, z = u1.setCell ⟨L, 1, none⟩ (.int .i64 x1) := ⟨_, rfl⟩
  have HK1 : Aside (Keeps (· ≠ b) w w1) := by rw [hw]; exact keeps_set HK.out hLw _ _
  have HO1 : Aside (ROpen b g t 2 false w1) := by rw [hw]; exact HO.out.other hLb hLg _ _
  have HR1 : Aside (RecIn w1 L r1) := by rw [hw, hr1]; exact HR.out.setRound _
  have HB1 : Aside (w1.cell? ⟨R, 0, none⟩ = some (.pointer (some ⟨b, 0, none⟩))) := by rw [hw]; exact (World.cell?_setCell_other _ _ _ _ (by simp [hRL])).trans HB.out
  rw [← hw]
  clear hw HK HO HR HB hr1
  refine (csmall_any b g t HTS.out 2 (by omega) w1 HO1.out).mono ?_
  intro e u2 hr
  by_cases hle2 : 1 ≤ (t.size : Int) - 2
  case neg =>
    rw [CNumPost, if_neg hle2] at hr
    obtain ⟨rfl, hk⟩ := hr
    have HE : Aside (GotPost (revealOk t) (revealR t) (revealQ t) b g t w (.panicked gaveUp) u2) := by
      rw [Aside, GotPost, if_neg (fun h => by unfold revealOk at h; omega)]
      exact ⟨rfl, HK1.out.trans hk⟩
    clear hk hle2
    go_wp2_with fail
    exact ⟨rfl, HE.out⟩
  rw [CNumPost, if_pos hle2] at hr
  obtain ⟨rfl, hk, ho⟩ := hr
  obtain ⟨x2, hx⟩ : ∃ x, x = getV t 2 1 := ⟨_, rfl⟩
  rw [← hx]
  have HX2 := aside hx
  have hbd := getV_bound t 2 1 (by omega)
  rw [← hx] at hbd
  have hx0 : 0 ≤ x2 := hbd.1
  have hx9 : x2 ≤ 255 := by have := hbd.2; simp at this; omega
  clear hbd
  have HK := aside (HK1.out.trans hk)
  have HO : Aside (ROpen b g t 3 false u2) := ho
  have HR := aside (HR1.out.keeps hk hLb)
  have HB := aside (cell_keeps HB1.out hk hRb)
  have cb := HB.out
  have cf := HR.out.carrier
  have ff := HR.out.free 3
  clear hx hk ho HO1 HK1 HR1 HB1
  go_wp2_with fail
  clear cb cf ff hx0 hx9
  obtain ⟨r2, hr2⟩ : ∃ r : RecV, r = { r1 with carrier := x2 } := ⟨_, rfl⟩
  have HV2 := aside hr2
  obtain ⟨w2, hw⟩ : ∃ z, z = u2.setCell ⟨L, 3, none⟩ (.int .i64 x2) := ⟨_, rfl⟩
  have HK2 : Aside (Keeps (· ≠ b) w w2) := by rw [hw]; exact keeps_set HK.out hLw _ _
  have HO2 : Aside (ROpen b g t 3 false w2) := by rw [hw]; exact HO.out.other hLb hLg _ _
  have HR2 : Aside (RecIn w2 L r2) := by rw [hw, hr2]; exact HR.out.setCarrier _
  have HB2 : Aside (w2.cell? ⟨R, 0, none⟩ = some (.pointer (some ⟨b, 0, none⟩))) := by rw [hw]; exact (World.cell?_setCell_other _ _ _ _ (by simp [hRL])).trans HB.out
  rw [← hw]
  clear hw HK HO HR HB hr2
  refine (cnum_any b g t HTS.out 3 8 (by omega) (by omega) w2 HO2.out).mono ?_
  intro e u3 hr
  by_cases hle3 : 8 ≤ (t.size : Int) - 3
  case neg =>
    rw [CNumPost, if_neg hle3] at hr
    obtain ⟨rfl, hk⟩ := hr
    have HE : Aside (GotPost (revealOk t) (revealR t) (revealQ t) b g t w (.panicked gaveUp) u3) := by
      rw [Aside, GotPost, if_neg (fun h => by unfold revealOk at h; omega)]
      exact ⟨rfl, HK2.out.trans hk⟩
    clear hk hle3
    go_wp2_with fail
    exact ⟨rfl, HE.out⟩
  rw [CNumPost, if_pos hle3] at hr
  obtain ⟨rfl, hk, ho⟩ := hr
  obtain ⟨x3, hx⟩ : ∃ x, x = getV t 3 8 := ⟨_, rfl⟩
  rw [← hx]
  have HX3 := aside hx
  have hbd := getV_bound t 3 8 (by omega)
  rw [← hx] at hbd
  have hx0 : 0 ≤ x3 := hbd.1
  have hx9 : x3 ≤ 18446744073709551615 := by have := hbd.2; simp at this; omega
  clear hbd
  have HK := aside (HK2.out.trans hk)
  have HO : Aside (ROpen b g t 11 false u3) := ho
  have HR := aside (HR2.out.keeps hk hLb)
  have HB := aside (cell_keeps HB2.out hk hRb)
  have cb := HB.out
  have cf := HR.out.bid
  have ff := HR.out.free 38
  clear hx hk ho HO2 HK2 HR2 HB2
  go_wp2_with fail
  clear cb cf ff hx0 hx9
  obtain ⟨r3, hr3⟩ : ∃ r : RecV, r = { r2 with bid := x3 } := ⟨_, rfl⟩
  have HV3 := aside hr3
  obtain ⟨w3, hw⟩ : ∃ z, z = u3.setCell ⟨L, 38, none⟩ (.int .u64 x3) := ⟨_, rfl⟩
  have HK3 : Aside (Keeps (· ≠ b) w w3) := by rw [hw]; exact keeps_set HK.out hLw _ _
  have HO3 : Aside (ROpen b g t 11 false w3) := by rw [hw]; exact HO.out.other hLb hLg _ _
  have HR3 : Aside (RecIn w3 L r3) := by rw [hw, hr3]; exact HR.out.setBid _
  have HB3 : Aside (w3.cell? ⟨R, 0, none⟩ = some (.pointer (some ⟨b, 0, none⟩))) := by rw [hw]; exact (World.cell?_setCell_other _ _ _ _ (by simp [hRL])).trans HB.out
  rw [← hw]
  clear hw HK HO HR HB hr3
  refine (cnum_any b g t HTS.out 11 8 (by omega) (by omega) w3 HO3.out).mono ?_
  intro e u4 hr
  by_cases hle4 : 8 ≤ (t.size : Int) - 11
  case neg =>
    rw [CNumPost, if_neg hle4] at hr
    obtain ⟨rfl, hk⟩ := hr
    have HE : Aside (GotPost (revealOk t) (revealR t) (revealQ t) b g t w (.panicked gaveUp) u4) := by
      rw [Aside, GotPost, if_neg (fun h => by unfold revealOk at h; omega)]
      exact ⟨rfl, HK3.out.trans hk⟩
    clear hk hle4
    go_wp2_with fail
    exact ⟨rfl, HE.out⟩
  rw [CNumPost, if_pos hle4] at hr
  obtain ⟨rfl, hk, ho⟩ := hr
  obtain ⟨x4, hx⟩ : ∃ x, x = getV t 11 8 := ⟨_, rfl⟩
  rw [← hx]
  have HX4 := aside hx
  have hbd := getV_bound t 11 8 (by omega)
  rw [← hx] at hbd
  have hx0 : 0 ≤ x4 := hbd.1
  have hx9 : x4 ≤ 18446744073709551615 := by have := hbd.2; simp at this; omega
  clear hbd
  have HK := aside (HK3.out.trans hk)
  have HO : Aside (ROpen b g t 19 false u4) := ho
  have HR := aside (HR3.out.keeps hk hLb)
  have HB := aside (cell_keeps HB3.out hk hRb)
  have cb := HB.out
  have cf := HR.out.nonce
  have ff := HR.out.free 39
  clear hx hk ho HO3 HK3 HR3 HB3
  go_wp2_with fail
  clear cb cf ff hx0 hx9
  obtain ⟨r4, hr4⟩ : ∃ r : RecV, r = { r3 with nonce := x4 } := ⟨_, rfl⟩
  have HV4 := aside hr4
  obtain ⟨w4, hw⟩ : ∃ z, z = u4.setCell ⟨L, 39, none⟩ (.int .u64 x4) := ⟨_, rfl⟩
  have HK4 : Aside (Keeps (· ≠ b) w w4) := by rw [hw]; exact keeps_set HK.out hLw _ _
  have HO4 : Aside (ROpen b g t 19 false w4) := by rw [hw]; exact HO.out.other hLb hLg _ _
  have HR4 : Aside (RecIn w4 L r4) := by rw [hw, hr4]; exact HR.out.setNonce _
  have HB4 : Aside (w4.cell? ⟨R, 0, none⟩ = some (.pointer (some ⟨b, 0, none⟩))) := by rw [hw]; exact (World.cell?_setCell_other _ _ _ _ (by simp [hRL])).trans HB.out
  rw [← hw]
  clear hw HK HO HR HB hr4
  refine (cnum_any b g t HTS.out 19 8 (by omega) (by omega) w4 HO4.out).mono ?_
  intro e u5 hr
  by_cases hle5 : 8 ≤ (t.size : Int) - 19
  case neg =>
    rw [CNumPost, if_neg hle5] at hr
    obtain ⟨rfl, hk⟩ := hr
    have HE : Aside (GotPost (revealOk t) (revealR t) (revealQ t) b g t w (.panicked gaveUp) u5) := by
      rw [Aside, GotPost, if_neg (fun h => by unfold revealOk at h; omega)]
      exact ⟨rfl, HK4.out.trans hk⟩
    clear hk hle5
    go_wp2_with fail
    exact ⟨rfl, HE.out⟩
  rw [CNumPost, if_pos hle5] at hr
  obtain ⟨rfl, hk, ho⟩ := hr
  obtain ⟨x5, hx⟩ : ∃ x, x = getV t 19 8 := ⟨_, rfl⟩
  rw [← hx]
  have HX5 := aside hx
  have hbd := getV_bound t 19 8 (by omega)
  rw [← hx] at hbd
  have hx0 : 0 ≤ x5 := hbd.1
  have hx9 : x5 ≤ 18446744073709551615 := by have := hbd.2; simp at this; omega
  clear hbd
  have HK := aside (HK4.out.trans hk)
  have HO : Aside (ROpen b g t 27 false u5) := ho
  have HR := aside (HR4.out.keeps hk hLb)
  have HB := aside (cell_keeps HB4.out hk hRb)
  have cb := HB.out
  have cf := HR.out.tick
  have ff := HR.out.free 4
  clear hx hk ho HO4 HK4 HR4 HB4
  obtain ⟨r5, hr5⟩ : ∃ r : RecV, r = { r4 with tick := wrap64 x5 } := ⟨_, rfl⟩
  have HV5 := aside hr5
  have HK5 : Aside (Keeps (· ≠ b) w (u5.setCell ⟨L, 4, none⟩ (.int .i64 (wrap64 x5)))) := keeps_set HK.out hLw _ _
  have HRX : RecIn (u5.setCell ⟨L, 4, none⟩ (.int .i64 (wrap64 x5))) L r5 := by rw [hr5]; exact HR.out.setTick _
  have HR5 := aside HRX
  have HO5 := aside (HO.out.other hLb hLg 4 (.int .i64 (wrap64 x5)))
  clear hr5 HRX HK HO HR
  have hone : (recCells r5).all (·.oneCell') = true := by
    refine recCells_one _ ?_ ?_ ?_ <;> (simp only [HV5.out, HV4.out, HV3.out, HV2.out, HV1.out]; rfl)
  have hi0 : (Tryz.prog.info? 38).map (·.size) = some (recCells r5).size := by rw [recCells_size]; kernel_rfl
  have hsame := HR5.out.setSame
  go_wp2_with (first
    | (refine wpList_load_row rfl _ _ rfl L rfl _ (recCells r5) (0, 0) _ HR5.out Tryz.underlying38 rfl hi0 ?_)
    | (refine wpList_store_row rfl _ _ _ rfl L (recCells r5) rfl rfl 38 _ HR5.out hi0 rfl hone ?_)
    | fail)
  rw [hsame]
  refine bodyPost_ret (results_cell_row rfl _ _ L 38 (recCells r5) (0, 0) _ rfl HR5.out Tryz.underlying38 rfl hi0) rfl ?_
  rw [GotPost, if_pos (by unfold revealOk; omega)]
  exact ⟨_, rfl, ⟨_, _, _, by simp only [HV5.out, HV4.out, HV3.out, HV2.out, HV1.out, HX5.out, HX4.out, HX3.out, HX2.out, HX1.out]; simp only [revealR, RecD.toV, rep_getD], RowIF.nil _ _, RowLF.nil _ _, RowIF.nil _ _⟩, HK5.out, HO5.out⟩
def closeOk (t : ByteArray) : Prop := 20 ≤ t.size
instance (t : ByteArray) : Decidable (closeOk t) := by unfold closeOk; infer_instance
def closeR (t : ByteArray) : RecD := { kind := 5, round := getV t 1 1, state := getV t 2 1, winner := getV t 3 1 - 1, price := getV t 4 8, tick := wrap64 (getV t 12 8) }
def closeQ (_ : ByteArray) : Int := 20
set_option maxHeartbeats 4000000 in
set_option maxRecDepth 100000 in
theorem parts_close (b g : Nat) (t : ByteArray) (hts : t.size ≤ 9223372036854775807) (h1 : 1 ≤ t.size) (w : World) (h : ROpen b g t 1 false w) :
    Calls Tryz.prog 30 #[.agg #[.pointer (some ⟨b, 0, none⟩)], .int .i64 5] w (GotPost (closeOk t) (closeR t) (closeQ t) b g t w) := by
  have H := aside h
  have hbl := h.bound.1
  have hgl := h.bound.2
  have HTS := aside hts
  clear h hts
  go_enter Tryz.func30, Tryz.ntmps30
  go_wp2_with fail
  rw [show (#[.int .i64 5, .int .i64 0, .int .i64 0, .int .i64 0, .int .i64 0, .slice none 0 0, .int .u8 0, .int .u8 0, .int .u8 0, .int .u8 0, .int .u8 0, .int .u8 0, .int .u8 0, .int .u8 0, .int .u8 0, .int .u8 0, .int .u8 0, .int .u8 0, .int .u8 0, .int .u8 0, .int .u8 0, .int .u8 0, .int .u8 0, .int .u8 0, .int .u8 0, .int .u8 0, .int .u8 0, .int .u8 0, .int .u8 0, .int .u8 0, .int .u8 0, .int .u8 0, .int .u8 0, .int .u8 0, .int .u8 0, .int .u8 0, .int .u8 0, .int .u8 0, .int .u64 0, .int .u64 0, .int .i64 0, .int .i64 0, .int .u64 0, .int .i64 0, .int .i64 0, .int .i64 0, .int .i64 0, .slice none 0 0, .slice none 0 0] : Array Value) = recCells { kind := 5 } from rfl]
  obtain ⟨R, hR⟩ : ∃ x, x = w.heap.size := ⟨_, rfl⟩
  obtain ⟨L, hL⟩ : ∃ x, x = w.heap.size + 1 := ⟨_, rfl⟩
  obtain ⟨w0, hw0⟩ : ∃ z, z = (w.alloc (.cells #[.pointer (some ⟨b, 0, none⟩)] 75)).alloc (.cells (recCells { kind := 5 }) 38) := ⟨_, rfl⟩
  have HN0 : Aside (Below w.heap.size w w0) := by rw [hw0]; exact new_trans (new_alloc _ _) (new_alloc _ _)
  have HR0 : RecIn w0 L { kind := 5 } := by rw [hw0, hL]; have := RecIn.box (w.alloc (.cells #[.pointer (some ⟨b, 0, none⟩)] 75)) { kind := 5 }; simpa using this
  have HR0 := aside HR0
  have HB0 : Aside (w0.cell? ⟨R, 0, none⟩ = some (.pointer (some ⟨b, 0, none⟩))) := by
    rw [hw0, hR]; exact ((new_alloc _ _).cell (p := ⟨w.heap.size, 0, none⟩) (by simp)).trans (cell_new _ _ _ 0)
  have hLb : L ≠ b := by omega
  have hRb : R ≠ b := by omega
  have hLg : L ≠ g := by omega
  have hLR : L ≠ R := by omega
  have hRL : R ≠ L := by omega
  have hLw : w.heap.size ≤ L := by omega
  have HK0 : Aside (Keeps (· ≠ b) w w0) := keeps_of_new HN0.out _
  have HO0 : Aside (ROpen b g t 1 false w0) := H.out.on HN0.out
  rw [← hw0, ← hL, ← hR]
  clear hw0 hR hL
  refine (csmall_any b g t HTS.out 1 (by omega) w0 HO0.out).mono ?_
  intro e u1 hr
  by_cases hle1 : 1 ≤ (t.size : Int) - 1
  case neg =>
    rw [CNumPost, if_neg hle1] at hr
    obtain ⟨rfl, hk⟩ := hr
    have HE : Aside (GotPost (closeOk t) (closeR t) (closeQ t) b g t w (.panicked gaveUp) u1) := by
      rw [Aside, GotPost, if_neg (fun h => by unfold closeOk at h; omega)]
      exact ⟨rfl, HK0.out.trans hk⟩
    clear hk hle1
    go_wp2_with fail
    exact ⟨rfl, HE.out⟩
  rw [CNumPost, if_pos hle1] at hr
  obtain ⟨rfl, hk, ho⟩ := hr
  obtain ⟨x1, hx⟩ : ∃ x, x = getV t 1 1 := ⟨_, rfl⟩
  rw [← hx]
  have HX1 := aside hx
  have hbd := getV_bound t 1 1 (by omega)
  rw [← hx] at hbd
  have hx0 : 0 ≤ x1 := hbd.1
  have hx9 : x1 ≤ 255 := by have := hbd.2; simp at this; omega
  clear hbd
  have HK := aside (HK0.out.trans hk)
  have HO : Aside (ROpen b g t 2 false u1) := ho
  have HR := aside (HR0.out.keeps hk hLb)
  have HB := aside (cell_keeps HB0.out hk hRb)
  have cb := HB.out
  have cf := HR.out.round
  have ff := HR.out.free 1
  clear hx hk ho HO0 HK0 HR0 HB0
  go_wp2_with fail
  clear cb cf ff hx0 hx9
  obtain ⟨r1, hr1⟩ : ∃ r : RecV, r = { ({ kind := 5 } : RecV) with round := x1 } := ⟨_, rfl⟩
  have HV1 := aside hr1
  obtain ⟨w1, hw⟩ : ∃ z, z = u1.setCell ⟨L, 1, none⟩ (.int .i64 x1) := ⟨_, rfl⟩
  have HK1 : Aside (Keeps (· ≠ b) w w1) := by rw [hw]; exact keeps_set HK.out hLw _ _
  have HO1 : Aside (ROpen b g t 2 false w1) := by rw [hw]; exact HO.out.other hLb hLg _ _
  have HR1 : Aside (RecIn w1 L r1) := by rw [hw, hr1]; exact HR.out.setRound _
  have HB1 : Aside (w1.cell? ⟨R, 0, none⟩ = some (.pointer (some ⟨b, 0, none⟩))) := by rw [hw]; exact (World.cell?_setCell_other _ _ _ _ (by simp [hRL])).trans HB.out
  rw [← hw]
  clear hw HK HO HR HB hr1
  refine (csmall_any b g t HTS.out 2 (by omega) w1 HO1.out).mono ?_
  intro e u2 hr
  by_cases hle2 : 1 ≤ (t.size : Int) - 2
  case neg =>
    rw [CNumPost, if_neg hle2] at hr
    obtain ⟨rfl, hk⟩ := hr
    have HE : Aside (GotPost (closeOk t) (closeR t) (closeQ t) b g t w (.panicked gaveUp) u2) := by
      rw [Aside, GotPost, if_neg (fun h => by unfold closeOk at h; omega)]
      exact ⟨rfl, HK1.out.trans hk⟩
    clear hk hle2
    go_wp2_with fail
    exact ⟨rfl, HE.out⟩
  rw [CNumPost, if_pos hle2] at hr
  obtain ⟨rfl, hk, ho⟩ := hr
  obtain ⟨x2, hx⟩ : ∃ x, x = getV t 2 1 := ⟨_, rfl⟩
  rw [← hx]
  have HX2 := aside hx
  have hbd := getV_bound t 2 1 (by omega)
  rw [← hx] at hbd
  have hx0 : 0 ≤ x2 := hbd.1
  have hx9 : x2 ≤ 255 := by have := hbd.2; simp at this; omega
  clear hbd
  have HK := aside (HK1.out.trans hk)
  have HO : Aside (ROpen b g t 3 false u2) := ho
  have HR := aside (HR1.out.keeps hk hLb)
  have HB := aside (cell_keeps HB1.out hk hRb)
  have cb := HB.out
  have cf := HR.out.state
  have ff := HR.out.free 40
  clear hx hk ho HO1 HK1 HR1 HB1
  go_wp2_with fail
  clear cb cf ff hx0 hx9
  obtain ⟨r2, hr2⟩ : ∃ r : RecV, r = { r1 with state := x2 } := ⟨_, rfl⟩
  have HV2 := aside hr2
  obtain ⟨w2, hw⟩ : ∃ z, z = u2.setCell ⟨L, 40, none⟩ (.int .i64 x2) := ⟨_, rfl⟩
  have HK2 : Aside (Keeps (· ≠ b) w w2) := by rw [hw]; exact keeps_set HK.out hLw _ _
  have HO2 : Aside (ROpen b g t 3 false w2) := by rw [hw]; exact HO.out.other hLb hLg _ _
  have HR2 : Aside (RecIn w2 L r2) := by rw [hw, hr2]; exact HR.out.setState _
  have HB2 : Aside (w2.cell? ⟨R, 0, none⟩ = some (.pointer (some ⟨b, 0, none⟩))) := by rw [hw]; exact (World.cell?_setCell_other _ _ _ _ (by simp [hRL])).trans HB.out
  rw [← hw]
  clear hw HK HO HR HB hr2
  refine (csmall_any b g t HTS.out 3 (by omega) w2 HO2.out).mono ?_
  intro e u3 hr
  by_cases hle3 : 1 ≤ (t.size : Int) - 3
  case neg =>
    rw [CNumPost, if_neg hle3] at hr
    obtain ⟨rfl, hk⟩ := hr
    have HE : Aside (GotPost (closeOk t) (closeR t) (closeQ t) b g t w (.panicked gaveUp) u3) := by
      rw [Aside, GotPost, if_neg (fun h => by unfold closeOk at h; omega)]
      exact ⟨rfl, HK2.out.trans hk⟩
    clear hk hle3
    go_wp2_with fail
    exact ⟨rfl, HE.out⟩
  rw [CNumPost, if_pos hle3] at hr
  obtain ⟨rfl, hk, ho⟩ := hr
  obtain ⟨x3, hx⟩ : ∃ x, x = getV t 3 1 := ⟨_, rfl⟩
  rw [← hx]
  have HX3 := aside hx
  have hbd := getV_bound t 3 1 (by omega)
  rw [← hx] at hbd
  have hx0 : 0 ≤ x3 := hbd.1
  have hx9 : x3 ≤ 255 := by have := hbd.2; simp at this; omega
  clear hbd
  have hw1 : IntKind.i64.wrap (x3 - 1) = x3 - 1 := IntWalk.i64_in _ (by omega)
  have HK := aside (HK2.out.trans hk)
  have HO : Aside (ROpen b g t 4 false u3) := ho
  have HR := aside (HR2.out.keeps hk hLb)
  have HB := aside (cell_keeps HB2.out hk hRb)
  have cb := HB.out
  have cf := HR.out.winner
  have ff := HR.out.free 41
  clear hx hk ho HO2 HK2 HR2 HB2
  go_wp2_with fail
  clear cb cf ff hx0 hx9 hw1
  obtain ⟨r3, hr3⟩ : ∃ r : RecV, r = { r2 with winner := x3 - 1 } := ⟨_, rfl⟩
  have HV3 := aside hr3
  obtain ⟨w3, hw⟩ : ∃ z, z = u3.setCell ⟨L, 41, none⟩ (.int .i64 (x3 - 1)) := ⟨_, rfl⟩
  have HK3 : Aside (Keeps (· ≠ b) w w3) := by rw [hw]; exact keeps_set HK.out hLw _ _
  have HO3 : Aside (ROpen b g t 4 false w3) := by rw [hw]; exact HO.out.other hLb hLg _ _
  have HR3 : Aside (RecIn w3 L r3) := by rw [hw, hr3]; exact HR.out.setWinner _
  have HB3 : Aside (w3.cell? ⟨R, 0, none⟩ = some (.pointer (some ⟨b, 0, none⟩))) := by rw [hw]; exact (World.cell?_setCell_other _ _ _ _ (by simp [hRL])).trans HB.out
  rw [← hw]
  clear hw HK HO HR HB hr3
  refine (cnum_any b g t HTS.out 4 8 (by omega) (by omega) w3 HO3.out).mono ?_
  intro e u4 hr
  by_cases hle4 : 8 ≤ (t.size : Int) - 4
  case neg =>
    rw [CNumPost, if_neg hle4] at hr
    obtain ⟨rfl, hk⟩ := hr
    have HE : Aside (GotPost (closeOk t) (closeR t) (closeQ t) b g t w (.panicked gaveUp) u4) := by
      rw [Aside, GotPost, if_neg (fun h => by unfold closeOk at h; omega)]
      exact ⟨rfl, HK3.out.trans hk⟩
    clear hk hle4
    go_wp2_with fail
    exact ⟨rfl, HE.out⟩
  rw [CNumPost, if_pos hle4] at hr
  obtain ⟨rfl, hk, ho⟩ := hr
  obtain ⟨x4, hx⟩ : ∃ x, x = getV t 4 8 := ⟨_, rfl⟩
  rw [← hx]
  have HX4 := aside hx
  have hbd := getV_bound t 4 8 (by omega)
  rw [← hx] at hbd
  have hx0 : 0 ≤ x4 := hbd.1
  have hx9 : x4 ≤ 18446744073709551615 := by have := hbd.2; simp at this; omega
  clear hbd
  have HK := aside (HK3.out.trans hk)
  have HO : Aside (ROpen b g t 12 false u4) := ho
  have HR := aside (HR3.out.keeps hk hLb)
  have HB := aside (cell_keeps HB3.out hk hRb)
  have cb := HB.out
  have cf := HR.out.price
  have ff := HR.out.free 42
  clear hx hk ho HO3 HK3 HR3 HB3
  go_wp2_with fail
  clear cb cf ff hx0 hx9
  obtain ⟨r4, hr4⟩ : ∃ r : RecV, r = { r3 with price := x4 } := ⟨_, rfl⟩
  have HV4 := aside hr4
  obtain ⟨w4, hw⟩ : ∃ z, z = u4.setCell ⟨L, 42, none⟩ (.int .u64 x4) := ⟨_, rfl⟩
  have HK4 : Aside (Keeps (· ≠ b) w w4) := by rw [hw]; exact keeps_set HK.out hLw _ _
  have HO4 : Aside (ROpen b g t 12 false w4) := by rw [hw]; exact HO.out.other hLb hLg _ _
  have HR4 : Aside (RecIn w4 L r4) := by rw [hw, hr4]; exact HR.out.setPrice _
  have HB4 : Aside (w4.cell? ⟨R, 0, none⟩ = some (.pointer (some ⟨b, 0, none⟩))) := by rw [hw]; exact (World.cell?_setCell_other _ _ _ _ (by simp [hRL])).trans HB.out
  rw [← hw]
  clear hw HK HO HR HB hr4
  refine (cnum_any b g t HTS.out 12 8 (by omega) (by omega) w4 HO4.out).mono ?_
  intro e u5 hr
  by_cases hle5 : 8 ≤ (t.size : Int) - 12
  case neg =>
    rw [CNumPost, if_neg hle5] at hr
    obtain ⟨rfl, hk⟩ := hr
    have HE : Aside (GotPost (closeOk t) (closeR t) (closeQ t) b g t w (.panicked gaveUp) u5) := by
      rw [Aside, GotPost, if_neg (fun h => by unfold closeOk at h; omega)]
      exact ⟨rfl, HK4.out.trans hk⟩
    clear hk hle5
    go_wp2_with fail
    exact ⟨rfl, HE.out⟩
  rw [CNumPost, if_pos hle5] at hr
  obtain ⟨rfl, hk, ho⟩ := hr
  obtain ⟨x5, hx⟩ : ∃ x, x = getV t 12 8 := ⟨_, rfl⟩
  rw [← hx]
  have HX5 := aside hx
  have hbd := getV_bound t 12 8 (by omega)
  rw [← hx] at hbd
  have hx0 : 0 ≤ x5 := hbd.1
  have hx9 : x5 ≤ 18446744073709551615 := by have := hbd.2; simp at this; omega
  clear hbd
  have HK := aside (HK4.out.trans hk)
  have HO : Aside (ROpen b g t 20 false u5) := ho
  have HR := aside (HR4.out.keeps hk hLb)
  have HB := aside (cell_keeps HB4.out hk hRb)
  have cb := HB.out
  have cf := HR.out.tick
  have ff := HR.out.free 4
  clear hx hk ho HO4 HK4 HR4 HB4
  obtain ⟨r5, hr5⟩ : ∃ r : RecV, r = { r4 with tick := wrap64 x5 } := ⟨_, rfl⟩
  have HV5 := aside hr5
  have HK5 : Aside (Keeps (· ≠ b) w (u5.setCell ⟨L, 4, none⟩ (.int .i64 (wrap64 x5)))) := keeps_set HK.out hLw _ _
  have HRX : RecIn (u5.setCell ⟨L, 4, none⟩ (.int .i64 (wrap64 x5))) L r5 := by rw [hr5]; exact HR.out.setTick _
  have HR5 := aside HRX
  have HO5 := aside (HO.out.other hLb hLg 4 (.int .i64 (wrap64 x5)))
  clear hr5 HRX HK HO HR
  have hone : (recCells r5).all (·.oneCell') = true := by
    refine recCells_one _ ?_ ?_ ?_ <;> (simp only [HV5.out, HV4.out, HV3.out, HV2.out, HV1.out]; rfl)
  have hi0 : (Tryz.prog.info? 38).map (·.size) = some (recCells r5).size := by rw [recCells_size]; kernel_rfl
  have hsame := HR5.out.setSame
  go_wp2_with (first
    | (refine wpList_load_row rfl _ _ rfl L rfl _ (recCells r5) (0, 0) _ HR5.out Tryz.underlying38 rfl hi0 ?_)
    | (refine wpList_store_row rfl _ _ _ rfl L (recCells r5) rfl rfl 38 _ HR5.out hi0 rfl hone ?_)
    | fail)
  rw [hsame]
  refine bodyPost_ret (results_cell_row rfl _ _ L 38 (recCells r5) (0, 0) _ rfl HR5.out Tryz.underlying38 rfl hi0) rfl ?_
  rw [GotPost, if_pos (by unfold closeOk; omega)]
  exact ⟨_, rfl, ⟨_, _, _, by simp only [HV5.out, HV4.out, HV3.out, HV2.out, HV1.out, HX5.out, HX4.out, HX3.out, HX2.out, HX1.out]; simp only [closeR, RecD.toV, rep_getD], RowIF.nil _ _, RowLF.nil _ _, RowIF.nil _ _⟩, HK5.out, HO5.out⟩
end Go.Proofs.YtkpmcjfolncmmaaGreatDoor
namespace Go.Proofs.YtkpmcjfolncmmaaGreatDoor
open Go.RowKit
def commitOk (t : ByteArray) : Prop := 43 ≤ t.size
instance (t : ByteArray) : Decidable (commitOk t) := by unfold commitOk; infer_instance
def digTo (t : ByteArray) (k : Nat) : List Int := (List.range k).map fun (j : Nat) => getV t (3 + j) 1
def commitR (t : ByteArray) : RecD := { kind := 3, round := getV t 1 1, carrier := getV t 2 1, dig := digTo t 32, tick := wrap64 (getV t 35 8) }
def commitQ (_ : ByteArray) : Int := 43
theorem digTo_get (t : ByteArray) (n j : Nat) : (digTo t n).getD j 0 = if j < n then getV t (3 + j) 1 else 0 := by
  rw [digTo, List.getD_eq_getElem?_getD, List.getElem?_map]
  by_cases h : j < n
  · rw [if_pos h, List.getElem?_range h]; rfl
  · rw [if_neg h, List.getElem?_eq_none (by simp; omega)]; rfl
theorem digTo_zero (t : ByteArray) : (fun j => (digTo t 0).getD j 0) = fun _ => (0 : Int) := by
  funext j; rw [digTo_get]; rfl
theorem digTo_upd (t : ByteArray) (k : Nat) : upD (fun j => (digTo t k).getD j 0) k (getV t (3 + k) 1) = fun j => (digTo t (k + 1)).getD j 0 := by
  funext j
  rw [digTo_get, upD]
  by_cases e : j = k
  · subst e; rw [if_pos rfl, if_pos (by omega)]
  · rw [if_neg e, digTo_get]
    by_cases h : j < k
    · rw [if_pos h, if_pos (by omega)]
    · rw [if_neg h, if_neg (by omega)]
set_option maxHeartbeats 4000000 in
set_option maxRecDepth 100000 in
theorem parts_commit (b g : Nat) (t : ByteArray) (hts : t.size ≤ 9223372036854775807) (h1 : 1 ≤ t.size) (w : World) (h : ROpen b g t 1 false w) :
    Calls Tryz.prog 30 #[.agg #[.pointer (some ⟨b, 0, none⟩)], .int .i64 3] w (GotPost (commitOk t) (commitR t) (commitQ t) b g t w) := by
  have H := aside h
  have hbl := h.bound.1
  have hgl := h.bound.2
  have HTS := aside hts
  clear h hts
  go_enter Tryz.func30, Tryz.ntmps30
  go_wp2_with fail
  rw [show (#[.int .i64 3, .int .i64 0, .int .i64 0, .int .i64 0, .int .i64 0, .slice none 0 0, .int .u8 0, .int .u8 0, .int .u8 0, .int .u8 0, .int .u8 0, .int .u8 0, .int .u8 0, .int .u8 0, .int .u8 0, .int .u8 0, .int .u8 0, .int .u8 0, .int .u8 0, .int .u8 0, .int .u8 0, .int .u8 0, .int .u8 0, .int .u8 0, .int .u8 0, .int .u8 0, .int .u8 0, .int .u8 0, .int .u8 0, .int .u8 0, .int .u8 0, .int .u8 0, .int .u8 0, .int .u8 0, .int .u8 0, .int .u8 0, .int .u8 0, .int .u8 0, .int .u64 0, .int .u64 0, .int .i64 0, .int .i64 0, .int .u64 0, .int .i64 0, .int .i64 0, .int .i64 0, .int .i64 0, .slice none 0 0, .slice none 0 0] : Array Value) = recCells { kind := 3 } from rfl]
  obtain ⟨R, hR⟩ : ∃ x, x = w.heap.size := ⟨_, rfl⟩
  obtain ⟨L, hL⟩ : ∃ x, x = w.heap.size + 1 := ⟨_, rfl⟩
  obtain ⟨w0, hw0⟩ : ∃ z, z = (w.alloc (.cells #[.pointer (some ⟨b, 0, none⟩)] 75)).alloc (.cells (recCells { kind := 3 }) 38) := ⟨_, rfl⟩
  have HN0 : Aside (Below w.heap.size w w0) := by rw [hw0]; exact new_trans (new_alloc _ _) (new_alloc _ _)
  have HR0 : RecIn w0 L { kind := 3 } := by rw [hw0, hL]; have := RecIn.box (w.alloc (.cells #[.pointer (some ⟨b, 0, none⟩)] 75)) { kind := 3 }; simpa using this
  have HR0 := aside HR0
  have HB0 : Aside (w0.cell? ⟨R, 0, none⟩ = some (.pointer (some ⟨b, 0, none⟩))) := by
    rw [hw0, hR]; exact ((new_alloc _ _).cell (p := ⟨w.heap.size, 0, none⟩) (by simp)).trans (cell_new _ _ _ 0)
  have hLb : L ≠ b := by omega
  have hRb : R ≠ b := by omega
  have hLg : L ≠ g := by omega
  have hLR : L ≠ R := by omega
  have hRL : R ≠ L := by omega
  have hLw : w.heap.size ≤ L := by omega
  have HK0 : Aside (Keeps (· ≠ b) w w0) := keeps_of_new HN0.out _
  have HO0 : Aside (ROpen b g t 1 false w0) := H.out.on HN0.out
  rw [← hw0, ← hL, ← hR]
  clear hw0 hR hL
  refine (csmall_any b g t HTS.out 1 (by omega) w0 HO0.out).mono ?_
  intro e u1 hr
  by_cases hle1 : 1 ≤ (t.size : Int) - 1
  case neg =>
    rw [CNumPost, if_neg hle1] at hr
    obtain ⟨rfl, hk⟩ := hr
    have HE : Aside (GotPost (commitOk t) (commitR t) (commitQ t) b g t w (.panicked gaveUp) u1) := by
      rw [Aside, GotPost, if_neg (fun h => by unfold commitOk at h; omega)]
      exact ⟨rfl, HK0.out.trans hk⟩
    clear hk hle1
    go_wp2_with fail
    exact ⟨rfl, HE.out⟩
  rw [CNumPost, if_pos hle1] at hr
  obtain ⟨rfl, hk, ho⟩ := hr
  obtain ⟨x1, hx⟩ : ∃ x, x = getV t 1 1 := ⟨_, rfl⟩
  rw [← hx]
  have HX1 := aside hx
  have hbd := getV_bound t 1 1 (by omega)
  rw [← hx] at hbd
  have hx0 : 0 ≤ x1 := hbd.1
  have hx9 : x1 ≤ 255 := by have := hbd.2; simp at this; omega
  clear hbd
  have HK := aside (HK0.out.trans hk)
  have HO : Aside (ROpen b g t 2 false u1) := ho
  have HR := aside (HR0.out.keeps hk hLb)
  have HB := aside (cell_keeps HB0.out hk hRb)
  have cb := HB.out
  have cf := HR.out.round
  have ff := HR.out.free 1
  clear hx hk ho HO0 HK0 HR0 HB0
  go_wp2_with fail
  clear cb cf ff hx0 hx9
  obtain ⟨r1, hr1⟩ : ∃ r : RecV, r = { ({ kind := 3 } : RecV) with round := x1 } := ⟨_, rfl⟩
  have HV1 := aside hr1
  obtain ⟨w1, hw⟩ : ∃ z, z = u1.setCell ⟨L, 1, none⟩ (.int .i64 x1) := ⟨_, rfl⟩
  have HK1 : Aside (Keeps (· ≠ b) w w1) := by rw [hw]; exact keeps_set HK.out hLw _ _
  have HO1 : Aside (ROpen b g t 2 false w1) := by rw [hw]; exact HO.out.other hLb hLg _ _
  have HR1 : Aside (RecIn w1 L r1) := by rw [hw, hr1]; exact HR.out.setRound _
  have HB1 : Aside (w1.cell? ⟨R, 0, none⟩ = some (.pointer (some ⟨b, 0, none⟩))) := by rw [hw]; exact (World.cell?_setCell_other _ _ _ _ (by simp [hRL])).trans HB.out
  rw [← hw]
  clear hw HK HO HR HB hr1
  refine (csmall_any b g t HTS.out 2 (by omega) w1 HO1.out).mono ?_
  intro e u2 hr
  by_cases hle2 : 1 ≤ (t.size : Int) - 2
  case neg =>
    rw [CNumPost, if_neg hle2] at hr
    obtain ⟨rfl, hk⟩ := hr
    have HE : Aside (GotPost (commitOk t) (commitR t) (commitQ t) b g t w (.panicked gaveUp) u2) := by
      rw [Aside, GotPost, if_neg (fun h => by unfold commitOk at h; omega)]
      exact ⟨rfl, HK1.out.trans hk⟩
    clear hk hle2
    go_wp2_with fail
    exact ⟨rfl, HE.out⟩
  rw [CNumPost, if_pos hle2] at hr
  obtain ⟨rfl, hk, ho⟩ := hr
  obtain ⟨x2, hx⟩ : ∃ x, x = getV t 2 1 := ⟨_, rfl⟩
  rw [← hx]
  have HX2 := aside hx
  have hbd := getV_bound t 2 1 (by omega)
  rw [← hx] at hbd
  have hx0 : 0 ≤ x2 := hbd.1
  have hx9 : x2 ≤ 255 := by have := hbd.2; simp at this; omega
  clear hbd
  have HK := aside (HK1.out.trans hk)
  have HO : Aside (ROpen b g t 3 false u2) := ho
  have HR := aside (HR1.out.keeps hk hLb)
  have HB := aside (cell_keeps HB1.out hk hRb)
  have cb := HB.out
  have cf := HR.out.carrier
  have ff := HR.out.free 3
  clear hx hk ho HO1 HK1 HR1 HB1
  go_wp2_with fail
  clear cb cf ff hx0 hx9
  obtain ⟨r2, hr2⟩ : ∃ r : RecV, r = { r1 with carrier := x2 } := ⟨_, rfl⟩
  have HV2 := aside hr2
  obtain ⟨w2, hw⟩ : ∃ z, z = u2.setCell ⟨L, 3, none⟩ (.int .i64 x2) := ⟨_, rfl⟩
  have HK2 : Aside (Keeps (· ≠ b) w w2) := by rw [hw]; exact keeps_set HK.out hLw _ _
  have HO2 : Aside (ROpen b g t 3 false w2) := by rw [hw]; exact HO.out.other hLb hLg _ _
  have HR2 : Aside (RecIn w2 L r2) := by rw [hw, hr2]; exact HR.out.setCarrier _
  have HB2 : Aside (w2.cell? ⟨R, 0, none⟩ = some (.pointer (some ⟨b, 0, none⟩))) := by rw [hw]; exact (World.cell?_setCell_other _ _ _ _ (by simp [hRL])).trans HB.out
  rw [← hw]
  clear hw HK HO HR HB hr2
  have HR2d : Aside (RecIn w2 L { r2 with dig := fun j => (digTo t 0).getD j 0 }) := by
    rw [digTo_zero]
    have e : ({ r2 with dig := fun _ => 0 } : RecV) = r2 := by rw [HV2.out, HV1.out]
    rw [e]; exact HR2
  clear HR2
  go_wp2_with fail
  go_loopg [48] 32 (fun gk v48 wr => ∃ k : Nat, k ≤ 32 ∧ v48 = .int .i64 k ∧ 32 - k ≤ gk ∧ Aside (Keeps (· ≠ b) w wr) ∧ Aside (ROpen b g t (3 + k) false wr) ∧ Aside (RecIn wr L { r2 with dig := fun j => (digTo t k).getD j 0 }) ∧ Aside (wr.cell? ⟨R, 0, none⟩ = some (.pointer (some ⟨b, 0, none⟩))) ∧ Aside ((k : Int) ≤ t.size - 3))
  case atStart => exact ⟨0, by omega, rfl, by omega, HK2, HO2, HR2d, HB2, by rw [Aside]; omega⟩
  case round =>
    clear HK2 HO2 HR2d HB2
    obtain ⟨k, hk32, rfl, hgk, HK2, HO2, HR2, HB2, HS⟩ := hrel
    by_cases hlt : k < 32
    · have hki : (k : Int) < 32 := by omega
      have cb := HB2.out
      go_wp2_with fail
      clear cb
      refine (cnum_any b g t HTS.out (3 + k) 1 (by have := HS.out; omega) (by omega) wr HO2.out).mono ?_
      intro e u hr
      by_cases hle : 1 ≤ (t.size : Int) - (3 + k)
      case neg =>
        rw [CNumPost, if_neg hle] at hr
        obtain ⟨rfl, hk⟩ := hr
        have HE : Aside (GotPost (commitOk t) (commitR t) (commitQ t) b g t w (.panicked gaveUp) u) := by
          rw [Aside, GotPost, if_neg (fun h => by unfold commitOk at h; omega)]
          exact ⟨rfl, HK2.out.trans hk⟩
        clear hk hle
        go_wp2_with fail
        exact ⟨rfl, HE.out⟩
      rw [CNumPost, if_pos hle] at hr
      obtain ⟨rfl, hk, ho⟩ := hr
      have hbd := getV_bound t (3 + k) 1 (by omega)
      obtain ⟨x, hx⟩ : ∃ x, x = getV t (3 + k) 1 := ⟨_, rfl⟩
      rw [← hx] at hbd ⊢
      have HX := aside hx
      have hx0 : 0 ≤ x := hbd.1
      have hx9 : x ≤ 255 := by have := hbd.2; simp at this; omega
      have HK := aside (HK2.out.trans hk)
      have HO : Aside (ROpen b g t (3 + ((k + 1 : Nat) : Int)) false u) := by
        rw [show (3 : Int) + ((k + 1 : Nat) : Int) = 3 + k + 1 by omega]; exact ho
      have HR := aside (HR2.out.keeps hk hLb)
      have HB := aside (cell_keeps HB2.out hk hRb)
      have HS2 : Aside (((k + 1 : Nat) : Int) ≤ t.size - 3) := by rw [Aside]; omega
      have cd := HR.out.dig k hlt
      have fd := HR.out.free (6 + k)
      clear hbd hx hk ho hle
      go_wp2_with fail
      obtain ⟨w4, hw⟩ : ∃ z, z = u.setCell ⟨L, 6 + k, none⟩ (.int .u8 x) := ⟨_, rfl⟩
      rw [← hw]
      have HK4 : Aside (Keeps (· ≠ b) w w4) := by rw [hw]; exact keeps_set HK.out hLw _ _
      have HO4 : Aside (ROpen b g t (3 + ((k + 1 : Nat) : Int)) false w4) := by rw [hw]; exact HO.out.other hLb hLg _ _
      have HR4 : Aside (RecIn w4 L { r2 with dig := fun j => (digTo t (k + 1)).getD j 0 }) := by
        have := HR.out.setDig k hlt x
        rw [HX.out, digTo_upd, ← HX.out, ← hw] at this
        exact this
      have HB4 : Aside (w4.cell? ⟨R, 0, none⟩ = some (.pointer (some ⟨b, 0, none⟩))) := by rw [hw]; exact (World.cell?_setCell_other _ _ _ _ (by simp [hRL])).trans HB.out
      clear hw cd fd HK HO HR HB
      go_roundg (32 - (k + 1))
      case measure => omega
      case rel => exact ⟨k + 1, by omega, rfl, by omega, HK4, HO4, HR4, HB4, HS2⟩
    · have hki : ¬ (k : Int) < 32 := by omega
      have hk : k = 32 := by omega
      subst hk
      obtain ⟨w3, hw3⟩ : ∃ z, z = wr := ⟨_, rfl⟩
      subst hw3
      obtain ⟨r3, hr3⟩ : ∃ r : RecV, r = { r2 with dig := fun j => (digTo t 32).getD j 0 } := ⟨_, rfl⟩
      have HV3 := aside hr3
      have HR3 : Aside (RecIn w3 L r3) := by rw [hr3]; exact HR2
      have HO3 : Aside (ROpen b g t 35 false w3) := HO2
      have HK3 := HK2
      have HB3 := HB2
      have hs3 : 32 ≤ (t.size : Int) - 3 := HS.out
      have cb := HB3.out
      clear HR2 HO2 HK2 HB2 hr3 HS
      go_wp2_with fail
      clear cb
      refine (cnum_any b g t HTS.out 35 8 (by omega) (by omega) w3 HO3.out).mono ?_
      intro e u4 hr
      by_cases hle4 : 8 ≤ (t.size : Int) - 35
      case neg =>
        rw [CNumPost, if_neg hle4] at hr
        obtain ⟨rfl, hk⟩ := hr
        have HE : Aside (GotPost (commitOk t) (commitR t) (commitQ t) b g t w (.panicked gaveUp) u4) := by
          rw [Aside, GotPost, if_neg (fun h => by unfold commitOk at h; omega)]
          exact ⟨rfl, HK3.out.trans hk⟩
        clear hk hle4
        go_wp2_with fail
        exact ⟨rfl, HE.out⟩
      rw [CNumPost, if_pos hle4] at hr
      obtain ⟨rfl, hk, ho⟩ := hr
      obtain ⟨x4, hx⟩ : ∃ x, x = getV t 35 8 := ⟨_, rfl⟩
      rw [← hx]
      have HX4 := aside hx
      have hbd := getV_bound t 35 8 (by omega)
      rw [← hx] at hbd
      have hx0 : 0 ≤ x4 := hbd.1
      have hx9 : x4 ≤ 18446744073709551615 := by have := hbd.2; simp at this; omega
      clear hbd
      have HK := aside (HK3.out.trans hk)
      have HO : Aside (ROpen b g t 43 false u4) := ho
      have HR := aside (HR3.out.keeps hk hLb)
      have HB := aside (cell_keeps HB3.out hk hRb)
      have cb := HB.out
      have cf := HR.out.tick
      have ff := HR.out.free 4
      clear hx hk ho HO3 HK3 HR3 HB3
      obtain ⟨r4, hr4⟩ : ∃ r : RecV, r = { r3 with tick := wrap64 x4 } := ⟨_, rfl⟩
      have HV4 := aside hr4
      have HK4 : Aside (Keeps (· ≠ b) w (u4.setCell ⟨L, 4, none⟩ (.int .i64 (wrap64 x4)))) := keeps_set HK.out hLw _ _
      have HRX : RecIn (u4.setCell ⟨L, 4, none⟩ (.int .i64 (wrap64 x4))) L r4 := by rw [hr4]; exact HR.out.setTick _
      have HR4 := aside HRX
      have HO4 := aside (HO.out.other hLb hLg 4 (.int .i64 (wrap64 x4)))
      clear hr4 HRX HK HO HR
      have hone : (recCells r4).all (·.oneCell') = true := by
        refine recCells_one _ ?_ ?_ ?_ <;> (simp only [HV4.out, HV3.out, HV2.out, HV1.out]; rfl)
      have hi0 : (Tryz.prog.info? 38).map (·.size) = some (recCells r4).size := by rw [recCells_size]; kernel_rfl
      have hsame := HR4.out.setSame
      go_wp2_with (first
        | (refine wpList_load_row rfl _ _ rfl L rfl _ (recCells r4) (0, 0) _ HR4.out Tryz.underlying38 rfl hi0 ?_)
        | (refine wpList_store_row rfl _ _ _ rfl L (recCells r4) rfl rfl 38 _ HR4.out hi0 rfl hone ?_)
        | fail)
      rw [hsame]
      refine bodyPost_ret (results_cell_row rfl _ _ L 38 (recCells r4) (0, 0) _ rfl HR4.out Tryz.underlying38 rfl hi0) rfl ?_
      rw [GotPost, if_pos (by unfold commitOk; omega)]
      exact ⟨_, rfl, ⟨_, _, _, by simp only [HV4.out, HV3.out, HV2.out, HV1.out, HX4.out, HX2.out, HX1.out]; simp only [commitR, RecD.toV], RowIF.nil _ _, RowLF.nil _ _, RowIF.nil _ _⟩, HK4.out, HO4.out⟩
end Go.Proofs.YtkpmcjfolncmmaaGreatDoor
namespace Go.Proofs.YtkpmcjfolncmmaaGreatDoor
open Go.RowKit
def openOk (t : ByteArray) : Prop := 11 ≤ t.size ∧ intsOk t 11
instance (t : ByteArray) : Decidable (openOk t) := by unfold openOk; infer_instance
def openR (t : ByteArray) : RecD := { kind := 2, round := getV t 1 1, lot := getV t 2 1, tick := wrap64 (getV t 3 8), barred := intsTo t 11 (cntR t 11) }
def openQ (t : ByteArray) : Int := 11 + 1 + cntR t 11
set_option maxHeartbeats 4000000 in
set_option maxRecDepth 100000 in
theorem parts_open (b g : Nat) (t : ByteArray) (hts : t.size ≤ 9223372036854775807) (h1 : 1 ≤ t.size) (w : World) (h : ROpen b g t 1 false w) :
    Calls Tryz.prog 30 #[.agg #[.pointer (some ⟨b, 0, none⟩)], .int .i64 2] w (GotPost (openOk t) (openR t) (openQ t) b g t w) := by
  have H := aside h
  have hbl := h.bound.1
  have hgl := h.bound.2
  have HTS := aside hts
  clear h hts
  go_enter Tryz.func30, Tryz.ntmps30
  go_wp2_with fail
  rw [show (#[.int .i64 2, .int .i64 0, .int .i64 0, .int .i64 0, .int .i64 0, .slice none 0 0, .int .u8 0, .int .u8 0, .int .u8 0, .int .u8 0, .int .u8 0, .int .u8 0, .int .u8 0, .int .u8 0, .int .u8 0, .int .u8 0, .int .u8 0, .int .u8 0, .int .u8 0, .int .u8 0, .int .u8 0, .int .u8 0, .int .u8 0, .int .u8 0, .int .u8 0, .int .u8 0, .int .u8 0, .int .u8 0, .int .u8 0, .int .u8 0, .int .u8 0, .int .u8 0, .int .u8 0, .int .u8 0, .int .u8 0, .int .u8 0, .int .u8 0, .int .u8 0, .int .u64 0, .int .u64 0, .int .i64 0, .int .i64 0, .int .u64 0, .int .i64 0, .int .i64 0, .int .i64 0, .int .i64 0, .slice none 0 0, .slice none 0 0] : Array Value) = recCells { kind := 2 } from rfl]
  obtain ⟨R, hR⟩ : ∃ x, x = w.heap.size := ⟨_, rfl⟩
  obtain ⟨L, hL⟩ : ∃ x, x = w.heap.size + 1 := ⟨_, rfl⟩
  obtain ⟨w0, hw0⟩ : ∃ z, z = (w.alloc (.cells #[.pointer (some ⟨b, 0, none⟩)] 75)).alloc (.cells (recCells { kind := 2 }) 38) := ⟨_, rfl⟩
  have HN0 : Aside (Below w.heap.size w w0) := by rw [hw0]; exact new_trans (new_alloc _ _) (new_alloc _ _)
  have HR0 : RecIn w0 L { kind := 2 } := by rw [hw0, hL]; have := RecIn.box (w.alloc (.cells #[.pointer (some ⟨b, 0, none⟩)] 75)) { kind := 2 }; simpa using this
  have HR0 := aside HR0
  have HB0 : Aside (w0.cell? ⟨R, 0, none⟩ = some (.pointer (some ⟨b, 0, none⟩))) := by
    rw [hw0, hR]; exact ((new_alloc _ _).cell (p := ⟨w.heap.size, 0, none⟩) (by simp)).trans (cell_new _ _ _ 0)
  have hLb : L ≠ b := by omega
  have hRb : R ≠ b := by omega
  have hLg : L ≠ g := by omega
  have hLR : L ≠ R := by omega
  have hRL : R ≠ L := by omega
  have hLw : w.heap.size ≤ L := by omega
  have HK0 : Aside (Keeps (· ≠ b) w w0) := keeps_of_new HN0.out _
  have HO0 : Aside (ROpen b g t 1 false w0) := H.out.on HN0.out
  rw [← hw0, ← hL, ← hR]
  clear hw0 hR hL
  refine (csmall_any b g t HTS.out 1 (by omega) w0 HO0.out).mono ?_
  intro e u1 hr
  by_cases hle1 : 1 ≤ (t.size : Int) - 1
  case neg =>
    rw [CNumPost, if_neg hle1] at hr
    obtain ⟨rfl, hk⟩ := hr
    have HE : Aside (GotPost (openOk t) (openR t) (openQ t) b g t w (.panicked gaveUp) u1) := by
      rw [Aside, GotPost, if_neg (fun h => by unfold openOk at h; have := h.1; omega)]
      exact ⟨rfl, HK0.out.trans hk⟩
    clear hk hle1
    go_wp2_with fail
    exact ⟨rfl, HE.out⟩
  rw [CNumPost, if_pos hle1] at hr
  obtain ⟨rfl, hk, ho⟩ := hr
  obtain ⟨x1, hx⟩ : ∃ x, x = getV t 1 1 := ⟨_, rfl⟩
  rw [← hx]
  have HX1 := aside hx
  have hbd := getV_bound t 1 1 (by omega)
  rw [← hx] at hbd
  have hx0 : 0 ≤ x1 := hbd.1
  have hx9 : x1 ≤ 255 := by have := hbd.2; simp at this; omega
  clear hbd
  have HK := aside (HK0.out.trans hk)
  have HO : Aside (ROpen b g t 2 false u1) := ho
  have HR := aside (HR0.out.keeps hk hLb)
  have HB := aside (cell_keeps HB0.out hk hRb)
  have cb := HB.out
  have cf := HR.out.round
  have ff := HR.out.free 1
  clear hx hk ho HO0 HK0 HR0 HB0
  go_wp2_with fail
  clear cb cf ff hx0 hx9
  obtain ⟨r1, hr1⟩ : ∃ r : RecV, r = { ({ kind := 2 } : RecV) with round := x1 } := ⟨_, rfl⟩
  have HV1 := aside hr1
  obtain ⟨w1, hw⟩ : ∃ z, z = u1.setCell ⟨L, 1, none⟩ (.int .i64 x1) := ⟨_, rfl⟩
  have HK1 : Aside (Keeps (· ≠ b) w w1) := by rw [hw]; exact keeps_set HK.out hLw _ _
  have HO1 : Aside (ROpen b g t 2 false w1) := by rw [hw]; exact HO.out.other hLb hLg _ _
  have HR1 : Aside (RecIn w1 L r1) := by rw [hw, hr1]; exact HR.out.setRound _
  have HB1 : Aside (w1.cell? ⟨R, 0, none⟩ = some (.pointer (some ⟨b, 0, none⟩))) := by rw [hw]; exact (World.cell?_setCell_other _ _ _ _ (by simp [hRL])).trans HB.out
  rw [← hw]
  clear hw HK HO HR HB hr1
  refine (csmall_any b g t HTS.out 2 (by omega) w1 HO1.out).mono ?_
  intro e u2 hr
  by_cases hle2 : 1 ≤ (t.size : Int) - 2
  case neg =>
    rw [CNumPost, if_neg hle2] at hr
    obtain ⟨rfl, hk⟩ := hr
    have HE : Aside (GotPost (openOk t) (openR t) (openQ t) b g t w (.panicked gaveUp) u2) := by
      rw [Aside, GotPost, if_neg (fun h => by unfold openOk at h; have := h.1; omega)]
      exact ⟨rfl, HK1.out.trans hk⟩
    clear hk hle2
    go_wp2_with fail
    exact ⟨rfl, HE.out⟩
  rw [CNumPost, if_pos hle2] at hr
  obtain ⟨rfl, hk, ho⟩ := hr
  obtain ⟨x2, hx⟩ : ∃ x, x = getV t 2 1 := ⟨_, rfl⟩
  rw [← hx]
  have HX2 := aside hx
  have hbd := getV_bound t 2 1 (by omega)
  rw [← hx] at hbd
  have hx0 : 0 ≤ x2 := hbd.1
  have hx9 : x2 ≤ 255 := by have := hbd.2; simp at this; omega
  clear hbd
  have HK := aside (HK1.out.trans hk)
  have HO : Aside (ROpen b g t 3 false u2) := ho
  have HR := aside (HR1.out.keeps hk hLb)
  have HB := aside (cell_keeps HB1.out hk hRb)
  have cb := HB.out
  have cf := HR.out.lot
  have ff := HR.out.free 2
  clear hx hk ho HO1 HK1 HR1 HB1
  go_wp2_with fail
  clear cb cf ff hx0 hx9
  obtain ⟨r2, hr2⟩ : ∃ r : RecV, r = { r1 with lot := x2 } := ⟨_, rfl⟩
  have HV2 := aside hr2
  obtain ⟨w2, hw⟩ : ∃ z, z = u2.setCell ⟨L, 2, none⟩ (.int .i64 x2) := ⟨_, rfl⟩
  have HK2 : Aside (Keeps (· ≠ b) w w2) := by rw [hw]; exact keeps_set HK.out hLw _ _
  have HO2 : Aside (ROpen b g t 3 false w2) := by rw [hw]; exact HO.out.other hLb hLg _ _
  have HR2 : Aside (RecIn w2 L r2) := by rw [hw, hr2]; exact HR.out.setLot _
  have HB2 : Aside (w2.cell? ⟨R, 0, none⟩ = some (.pointer (some ⟨b, 0, none⟩))) := by rw [hw]; exact (World.cell?_setCell_other _ _ _ _ (by simp [hRL])).trans HB.out
  rw [← hw]
  clear hw HK HO HR HB hr2
  refine (cnum_any b g t HTS.out 3 8 (by omega) (by omega) w2 HO2.out).mono ?_
  intro e u3 hr
  by_cases hle3 : 8 ≤ (t.size : Int) - 3
  case neg =>
    rw [CNumPost, if_neg hle3] at hr
    obtain ⟨rfl, hk⟩ := hr
    have HE : Aside (GotPost (openOk t) (openR t) (openQ t) b g t w (.panicked gaveUp) u3) := by
      rw [Aside, GotPost, if_neg (fun h => by unfold openOk at h; have := h.1; omega)]
      exact ⟨rfl, HK2.out.trans hk⟩
    clear hk hle3
    go_wp2_with fail
    exact ⟨rfl, HE.out⟩
  rw [CNumPost, if_pos hle3] at hr
  obtain ⟨rfl, hk, ho⟩ := hr
  obtain ⟨x3, hx⟩ : ∃ x, x = getV t 3 8 := ⟨_, rfl⟩
  rw [← hx]
  have HX3 := aside hx
  have hbd := getV_bound t 3 8 (by omega)
  rw [← hx] at hbd
  have hx0 : 0 ≤ x3 := hbd.1
  have hx9 : x3 ≤ 18446744073709551615 := by have := hbd.2; simp at this; omega
  clear hbd
  have HK := aside (HK2.out.trans hk)
  have HO : Aside (ROpen b g t 11 false u3) := ho
  have HR := aside (HR2.out.keeps hk hLb)
  have HB := aside (cell_keeps HB2.out hk hRb)
  have cb := HB.out
  have cf := HR.out.tick
  have ff := HR.out.free 4
  clear hx hk ho HO2 HK2 HR2 HB2
  go_wp2_with fail
  clear cb cf ff hx0 hx9
  obtain ⟨r3, hr3⟩ : ∃ r : RecV, r = { r2 with tick := wrap64 x3 } := ⟨_, rfl⟩
  have HV3 := aside hr3
  obtain ⟨w3, hw⟩ : ∃ z, z = u3.setCell ⟨L, 4, none⟩ (.int .i64 (wrap64 x3)) := ⟨_, rfl⟩
  have HK3 : Aside (Keeps (· ≠ b) w w3) := by rw [hw]; exact keeps_set HK.out hLw _ _
  have HO3 : Aside (ROpen b g t 11 false w3) := by rw [hw]; exact HO.out.other hLb hLg _ _
  have HR3 : Aside (RecIn w3 L r3) := by rw [hw, hr3]; exact HR.out.setTick _
  have HB3 : Aside (w3.cell? ⟨R, 0, none⟩ = some (.pointer (some ⟨b, 0, none⟩))) := by rw [hw]; exact (World.cell?_setCell_other _ _ _ _ (by simp [hRL])).trans HB.out
  rw [← hw]
  clear hw HK HO HR HB hr3
  refine (ints_any b g t HTS.out 11 (by omega) w3 HO3.out).mono ?_
  intro e u4 hr
  by_cases hle4 : intsOk t 11
  case neg =>
    rw [IntsPost, if_neg hle4] at hr
    obtain ⟨rfl, hk⟩ := hr
    have HE : Aside (GotPost (openOk t) (openR t) (openQ t) b g t w (.panicked gaveUp) u4) := by
      rw [Aside, GotPost, if_neg (fun h => by unfold openOk at h; exact hle4 h.2)]
      exact ⟨rfl, HK3.out.trans hk⟩
    clear hk hle4
    go_wp2_with fail
    exact ⟨rfl, HE.out⟩
  rw [IntsPost, if_pos hle4] at hr
  obtain ⟨_, rfl, how, hk, ho⟩ := hr
  obtain ⟨a4, cap4, rfl, _, _⟩ := ownsRow_form how
  have HOWN := aside how
  have HIN4 := aside hle4
  have HLU : Aside (L < w3.heap.size) := HR3.out.lt
  have HK := aside (HK3.out.trans hk)
  have HO := aside ho
  have HR := aside (HR3.out.keeps hk hLb)
  have cf := HR.out.barred
  have ff := HR.out.free 5
  obtain ⟨r4, hr4⟩ : ∃ r : RecV, r = { r3 with barred := (Value.slice a4 (cntR t 11) cap4) } := ⟨_, rfl⟩
  have HV4 := aside hr4
  have HK4 : Aside (Keeps (· ≠ b) w (u4.setCell ⟨L, 5, none⟩ (Value.slice a4 (cntR t 11) cap4))) := keeps_set HK.out hLw _ _
  have HRX : RecIn (u4.setCell ⟨L, 5, none⟩ (Value.slice a4 (cntR t 11) cap4)) L r4 := by rw [hr4]; exact HR.out.setBarred _
  have HR4 := aside HRX
  have HO4 := aside (HO.out.other hLb hLg 5 (Value.slice a4 (cntR t 11) cap4))
  have HI4 : Aside (RowIF w.heap.size (u4.setCell ⟨L, 5, none⟩ (Value.slice a4 (cntR t 11) cap4)) (Value.slice a4 (cntR t 11) cap4) (intsTo t 11 (cntR t 11))) :=
    rowIF_owned (by rw [intsTo, List.length_map, List.length_range]) (ownsRow_keeps HOWN.out (Keeps.setCell (K := (· ≠ L)) (Keeps.refl _ _) (p := ⟨L, 5, none⟩) (.inr (fun h => h rfl)) _) (fun k hk => by have := HLU.out; omega)) (by have := HLU.out; omega)
  clear hr4 HRX HK HO HR hle4 how hk ho
  have hone : (recCells r4).all (·.oneCell') = true := by
    refine recCells_one _ ?_ ?_ ?_ <;> (simp only [HV4.out, HV3.out, HV2.out, HV1.out]; rfl)
  have hi0 : (Tryz.prog.info? 38).map (·.size) = some (recCells r4).size := by rw [recCells_size]; kernel_rfl
  have hsame := HR4.out.setSame
  go_wp2_with (first
    | (refine wpList_load_row rfl _ _ rfl L rfl _ (recCells r4) (0, 0) _ HR4.out Tryz.underlying38 rfl hi0 ?_)
    | (refine wpList_store_row rfl _ _ _ rfl L (recCells r4) rfl rfl 38 _ HR4.out hi0 rfl hone ?_)
    | fail)
  rw [hsame]
  refine bodyPost_ret (results_cell_row rfl _ _ L 38 (recCells r4) (0, 0) _ rfl HR4.out Tryz.underlying38 rfl hi0) rfl ?_
  rw [GotPost, if_pos (show openOk t from ⟨by omega, HIN4.out⟩)]
  exact ⟨_, rfl, ⟨_, _, _, by simp only [HV4.out, HV3.out, HV2.out, HV1.out, HX3.out, HX2.out, HX1.out]; simp only [openR, RecD.toV, rep_getD], HI4.out, RowLF.nil _ _, RowIF.nil _ _⟩, HK4.out, HO4.out⟩
end Go.Proofs.YtkpmcjfolncmmaaGreatDoor
namespace Go.Proofs.YtkpmcjfolncmmaaGreatDoor
open Go.RowKit
theorem csmall_ok (b g : Nat) (t : ByteArray) (hts : t.size ≤ 9223372036854775807) (p q v : Int) (hp : 0 ≤ p ∧ p ≤ t.size) (hle : 1 ≤ t.size - p) (hq : q = p + 1) (hv : v = getV t p 1) (w : World) (h : ROpen b g t p false w) :
    Calls Tryz.prog 28 #[.agg #[.pointer (some ⟨b, 0, none⟩)]] w fun e w' => e = .returned (.int .i64 v) ∧ Keeps (· ≠ b) w w' ∧ ROpen b g t q false w' := by
  refine (csmall_any b g t hts p hp w h).mono ?_
  intro e w1 hr
  rw [CNumPost, if_pos hle] at hr
  rw [hq, hv]
  exact hr
theorem csmall_no (b g : Nat) (t : ByteArray) (hts : t.size ≤ 9223372036854775807) (p : Int) (hp : 0 ≤ p ∧ p ≤ t.size) (hle : ¬ 1 ≤ t.size - p) (w : World) (h : ROpen b g t p false w) :
    Calls Tryz.prog 28 #[.agg #[.pointer (some ⟨b, 0, none⟩)]] w fun e w' => e = .panicked gaveUp ∧ Keeps (· ≠ b) w w' := by
  refine (csmall_any b g t hts p hp w h).mono ?_
  intro e w1 hr
  rw [CNumPost, if_neg hle] at hr
  exact hr
theorem cell_kept {b : Nat} {w w' : World} {R j : Nat} {v : Value} (hk : Keeps (· ≠ b) w w') (hK : R ≠ b) (h : w.cell? ⟨R, j, none⟩ = some v) : w'.cell? ⟨R, j, none⟩ = some v := cell_keeps h hk hK
theorem cell_past {L R : Nat} (h : R ≠ L) {W : World} {i j : Nat} {v : Value} : (W.setCell ⟨L, j, none⟩ v).cell? ⟨R, i, none⟩ = W.cell? ⟨R, i, none⟩ := World.cell?_setCell_other _ _ _ _ (by simp [h])
def sceneP (t : ByteArray) : Int := 5 + 1 + 5 * (cntR t 5 : Int)
def sceneOk (t : ByteArray) : Prop := 5 ≤ t.size ∧ lotsOk t 5 ∧ intsOk t (sceneP t)
instance (t : ByteArray) : Decidable (sceneOk t) := by unfold sceneOk; infer_instance
def sceneR (t : ByteArray) : RecD := { kind := 1, carriers := getV t 1 1, commit := getV t 2 1, reveal := getV t 3 1, scheme := getV t 4 1, lots := lotsTo t 5 (cntR t 5), owners := intsTo t (sceneP t) (cntR t (sceneP t)) }
def sceneQ (t : ByteArray) : Int := sceneP t + 1 + cntR t (sceneP t)
set_option maxHeartbeats 4000000 in
set_option maxRecDepth 100000 in
theorem parts_scene_ok (b g : Nat) (t : ByteArray) (hts : t.size ≤ 9223372036854775807) (h1 : 1 ≤ t.size) (hs4 : 5 ≤ t.size) (w : World) (h : ROpen b g t 1 false w) :
    Calls Tryz.prog 30 #[.agg #[.pointer (some ⟨b, 0, none⟩)], .int .i64 1] w (GotPost (sceneOk t) (sceneR t) (sceneQ t) b g t w) := by
  have H := aside h
  have hbl := h.bound.1
  have hgl := h.bound.2
  have HTS := aside hts
  clear h hts
  go_enter Tryz.func30, Tryz.ntmps30
  go_wp2_with fail
  rw [show (#[.int .i64 1, .int .i64 0, .int .i64 0, .int .i64 0, .int .i64 0, .slice none 0 0, .int .u8 0, .int .u8 0, .int .u8 0, .int .u8 0, .int .u8 0, .int .u8 0, .int .u8 0, .int .u8 0, .int .u8 0, .int .u8 0, .int .u8 0, .int .u8 0, .int .u8 0, .int .u8 0, .int .u8 0, .int .u8 0, .int .u8 0, .int .u8 0, .int .u8 0, .int .u8 0, .int .u8 0, .int .u8 0, .int .u8 0, .int .u8 0, .int .u8 0, .int .u8 0, .int .u8 0, .int .u8 0, .int .u8 0, .int .u8 0, .int .u8 0, .int .u8 0, .int .u64 0, .int .u64 0, .int .i64 0, .int .i64 0, .int .u64 0, .int .i64 0, .int .i64 0, .int .i64 0, .int .i64 0, .slice none 0 0, .slice none 0 0] : Array Value) = recCells { kind := 1 } from rfl]
  obtain ⟨R, hR⟩ : ∃ x, x = w.heap.size := ⟨_, rfl⟩
  obtain ⟨L, hL⟩ : ∃ x, x = w.heap.size + 1 := ⟨_, rfl⟩
  obtain ⟨w0, hw0⟩ : ∃ z, z = (w.alloc (.cells #[.pointer (some ⟨b, 0, none⟩)] 75)).alloc (.cells (recCells { kind := 1 }) 38) := ⟨_, rfl⟩
  have HN0 : Aside (Below w.heap.size w w0) := by rw [hw0]; exact new_trans (new_alloc _ _) (new_alloc _ _)
  have HR0 : RecIn w0 L { kind := 1 } := by rw [hw0, hL]; have := RecIn.box (w.alloc (.cells #[.pointer (some ⟨b, 0, none⟩)] 75)) { kind := 1 }; simpa using this
  have HR0 := aside HR0
  have HB0 : Aside (w0.cell? ⟨R, 0, none⟩ = some (.pointer (some ⟨b, 0, none⟩))) := by
    rw [hw0, hR]; exact ((new_alloc _ _).cell (p := ⟨w.heap.size, 0, none⟩) (by simp)).trans (cell_new _ _ _ 0)
  have hLb : L ≠ b := by omega
  have hRb : R ≠ b := by omega
  have hLg : L ≠ g := by omega
  have hLR : L ≠ R := by omega
  have hRL : R ≠ L := by omega
  have hLw : w.heap.size ≤ L := by omega
  have HK0 : Aside (Keeps (· ≠ b) w w0) := keeps_of_new HN0.out _
  have HO0 : Aside (ROpen b g t 1 false w0) := H.out.on HN0.out
  rw [← hw0, ← hL, ← hR]
  clear hw0 hR hL
  obtain ⟨x1, hx1⟩ : ∃ x, x = getV t 1 1 := ⟨_, rfl⟩
  obtain ⟨x2, hx2⟩ : ∃ x, x = getV t 2 1 := ⟨_, rfl⟩
  obtain ⟨x3, hx3⟩ : ∃ x, x = getV t 3 1 := ⟨_, rfl⟩
  obtain ⟨x4, hx4⟩ : ∃ x, x = getV t 4 1 := ⟨_, rfl⟩
  have HX1 := aside hx1
  have HX2 := aside hx2
  have HX3 := aside hx3
  have HX4 := aside hx4
  clear hx1 hx2 hx3 hx4
  have c0 := HB0.out
  go_region_held3 (fun W => W.cell? ⟨R, 0, none⟩ = some (.pointer (some ⟨b, 0, none⟩))) (first | exact c0 | exact c1 | exact c2 | exact c3 | exact c4 | ((repeat rw [cell_past hRL]); exact c4)) (first
      | (go_at_call 28
         refine (csmall_ok b g t HTS.out 1 2 x1 ?_ ?_ rfl HX1.out _ ?_).mono ?_
         · omega
         · omega
         · first | exact HO0.out | exact HO0.out.drew
         rintro e u1 ⟨rfl, k1, O1⟩
         have c1 := cell_kept k1 hRb c0)
      | (go_at_call 28
         refine (csmall_ok b g t HTS.out 2 3 x2 ?_ ?_ rfl HX2.out _ ?_).mono ?_
         · omega
         · omega
         · first | exact O1 | exact O1.drew
         rintro e u2 ⟨rfl, k2, O2⟩
         have c2 := cell_kept k2 hRb c1)
      | (go_at_call 28
         refine (csmall_ok b g t HTS.out 3 4 x3 ?_ ?_ rfl HX3.out _ ?_).mono ?_
         · omega
         · omega
         · first | exact O2 | exact O2.drew
         rintro e u3 ⟨rfl, k3, O3⟩
         have c3 := cell_kept k3 hRb c2)
      | (go_at_call 28
         refine (csmall_ok b g t HTS.out 4 5 x4 ?_ ?_ rfl HX4.out _ ?_).mono ?_
         · omega
         · omega
         · first | exact O3 | exact O3.drew
         rintro e u4 ⟨rfl, k4, O4⟩
         have c4 := cell_kept k4 hRb c3
         have R4 : RecIn u4 L { kind := 1 } := (((HR0.out.drew.keeps k1 hLb).keeps k2 hLb).keeps k3 hLb).keeps k4 hLb
         have d43 := R4.carriers
         have d44 := R4.commit
         have d45 := R4.reveal
         have d46 := R4.scheme
         have f43 := R4.free 43
         have f44 := R4.free 44
         have f45 := R4.free 45
         have f46 := R4.free 46))
  have HKR := aside (keeps_set (keeps_set (keeps_set (keeps_set ((((HK0.out.drew.trans k1).trans k2).trans k3).trans k4) hLw 43 (.int .i64 x1)) hLw 44 (.int .i64 x2)) hLw 45 (.int .i64 x3)) hLw 46 (.int .i64 x4))
  obtain ⟨r4, hr4⟩ : ∃ r : RecV, r = { kind := 1, carriers := x1, commit := x2, reveal := x3, scheme := x4 } := ⟨_, rfl⟩
  have HV4 := aside hr4
  have HRR := (((R4.setCarriers x1).setCommit x2).setReveal x3).setScheme x4
  have HOR := aside ((((O4.other hLb hLg 43 (.int .i64 x1)).other hLb hLg 44 (.int .i64 x2)).other hLb hLg 45 (.int .i64 x3)).other hLb hLg 46 (.int .i64 x4))
  obtain ⟨w4, hw4⟩ : ∃ z, z = (((u4.setCell ⟨L, 43, none⟩ (.int .i64 x1)).setCell ⟨L, 44, none⟩ (.int .i64 x2)).setCell ⟨L, 45, none⟩ (.int .i64 x3)).setCell ⟨L, 46, none⟩ (.int .i64 x4) := ⟨_, rfl⟩
  have HK4 : Aside (Keeps (· ≠ b) w w4) := by rw [hw4]; exact HKR
  have HO4 : Aside (ROpen b g t 5 false w4) := by rw [hw4]; exact HOR
  have HR4 : Aside (RecIn w4 L r4) := by rw [hw4, hr4]; exact HRR
  have HB4 : Aside (w4.cell? ⟨R, 0, none⟩ = some (.pointer (some ⟨b, 0, none⟩))) := by rw [hw4]; exact (by (repeat rw [cell_past hRL]); exact c4)
  rw [← hw4]
  clear hw4 hr4 HKR HRR HOR R4 k1 k2 k3 k4 O1 O2 O3 O4 c0 c1 c2 c3 c4 d43 d44 d45 d46 f43 f44 f45 f46
  have cb := HB4.out
  go_wp2_with fail
  clear cb
  refine (lots_any R b g t HTS.out 5 (by omega) w4 HO4.out HB4.out hRb).mono ?_
  intro e u5 hr
  by_cases hle5 : lotsOk t 5
  case neg =>
    rw [LotsPost, if_neg hle5] at hr
    obtain ⟨rfl, hk⟩ := hr
    have HE : Aside (GotPost (sceneOk t) (sceneR t) (sceneQ t) b g t w (.panicked gaveUp) u5) := by
      rw [Aside, GotPost, if_neg (fun h => by unfold sceneOk at h; exact hle5 h.2.1)]
      exact ⟨rfl, HK4.out.trans hk⟩
    clear hk hle5
    go_wp2_with fail
    exact ⟨rfl, HE.out⟩
  rw [LotsPost, if_pos hle5] at hr
  obtain ⟨_, rfl, how, hk, ho⟩ := hr
  obtain ⟨a5, cap5, rfl, _, _⟩ := ownsRow_form how
  have HLOK := aside hle5
  have hsp : 0 ≤ sceneP t ∧ sceneP t ≤ t.size := by have := hle5.2; unfold sceneP; omega
  have HSP := aside hsp
  have HLU4 : Aside (L < w4.heap.size) := HR4.out.lt
  have HBU : Aside (b < w4.heap.size) := HO4.out.bound.1
  have HK := aside (HK4.out.trans hk)
  have HO : Aside (ROpen b g t (sceneP t) false u5) := ho
  have HR := aside (HR4.out.keeps hk hLb)
  have HB := aside (cell_keeps HB4.out hk hRb)
  have cb := HB.out
  have cf := HR.out.lots
  have ff := HR.out.free 47
  obtain ⟨r5, hr5⟩ : ∃ r : RecV, r = { r4 with lots := (Value.slice a5 (cntR t 5) cap5) } := ⟨_, rfl⟩
  have HV5 := aside hr5
  have HOWL := aside how
  clear how hk ho hle5 hsp HO4 HK4 HR4 HB4
  go_wp2_with fail
  clear cb cf ff
  obtain ⟨w5, hw⟩ : ∃ z, z = u5.setCell ⟨L, 47, none⟩ (Value.slice a5 (cntR t 5) cap5) := ⟨_, rfl⟩
  have HK5 : Aside (Keeps (· ≠ b) w w5) := by rw [hw]; exact keeps_set HK.out hLw _ _
  have HO5 : Aside (ROpen b g t (sceneP t) false w5) := by rw [hw]; exact HO.out.other hLb hLg _ _
  have HR5 : Aside (RecIn w5 L r5) := by rw [hw, hr5]; exact HR.out.setLots _
  have HB5 : Aside (w5.cell? ⟨R, 0, none⟩ = some (.pointer (some ⟨b, 0, none⟩))) := by rw [hw]; exact (World.cell?_setCell_other _ _ _ _ (by simp [hRL])).trans HB.out
  have HOW5 : Aside (w5.ownsRow w4.heap.size 68 2 (Value.slice a5 (cntR t 5) cap5) (cntR t 5) (lotCells (lotsTo t 5 (cntR t 5)))) := by
    rw [hw]; exact ownsRow_keeps HOWL.out (Keeps.setCell (K := (· ≠ L)) (Keeps.refl _ _) (p := ⟨L, 47, none⟩) (.inr (fun h => h rfl)) _) (fun k hk => by have := HLU4.out; omega)
  rw [← hw]
  clear hw HK HO HR HB hr5 HOWL
  refine (ints_any b g t HTS.out (sceneP t) HSP.out w5 HO5.out).mono ?_
  intro e u6 hr
  by_cases hle6 : intsOk t (sceneP t)
  case neg =>
    rw [IntsPost, if_neg hle6] at hr
    obtain ⟨rfl, hk⟩ := hr
    have HE : Aside (GotPost (sceneOk t) (sceneR t) (sceneQ t) b g t w (.panicked gaveUp) u6) := by
      rw [Aside, GotPost, if_neg (fun h => by unfold sceneOk at h; exact hle6 h.2.2)]
      exact ⟨rfl, HK5.out.trans hk⟩
    clear hk hle6
    go_wp2_with fail
    exact ⟨rfl, HE.out⟩
  rw [IntsPost, if_pos hle6] at hr
  obtain ⟨_, rfl, how, hk, ho⟩ := hr
  obtain ⟨a6, cap6, rfl, _, _⟩ := ownsRow_form how
  have HOWN := aside how
  have HIN6 := aside hle6
  have HLU : Aside (L < w5.heap.size) := HR5.out.lt
  have HK := aside (HK5.out.trans hk)
  have HO := aside ho
  have HR := aside (HR5.out.keeps hk hLb)
  have cf := HR.out.owners
  have ff := HR.out.free 48
  obtain ⟨r6, hr6⟩ : ∃ r : RecV, r = { r5 with owners := (Value.slice a6 (cntR t (sceneP t)) cap6) } := ⟨_, rfl⟩
  have HV6 := aside hr6
  have HK6 : Aside (Keeps (· ≠ b) w (u6.setCell ⟨L, 48, none⟩ (Value.slice a6 (cntR t (sceneP t)) cap6))) := keeps_set HK.out hLw _ _
  have HRX : RecIn (u6.setCell ⟨L, 48, none⟩ (Value.slice a6 (cntR t (sceneP t)) cap6)) L r6 := by rw [hr6]; exact HR.out.setOwners _
  have HR6 := aside HRX
  have HO6 := aside (HO.out.other hLb hLg 48 (Value.slice a6 (cntR t (sceneP t)) cap6))
  have HI6 : Aside (RowIF w.heap.size (u6.setCell ⟨L, 48, none⟩ (Value.slice a6 (cntR t (sceneP t)) cap6)) (Value.slice a6 (cntR t (sceneP t)) cap6) (intsTo t (sceneP t) (cntR t (sceneP t)))) :=
    rowIF_owned (by rw [intsTo, List.length_map, List.length_range]) (ownsRow_keeps HOWN.out (Keeps.setCell (K := (· ≠ L)) (Keeps.refl _ _) (p := ⟨L, 48, none⟩) (.inr (fun h => h rfl)) _) (fun k hk => by have := HLU.out; omega)) (by have := HLU.out; omega)
  have HL6 : Aside (RowLF w.heap.size (u6.setCell ⟨L, 48, none⟩ (Value.slice a6 (cntR t (sceneP t)) cap6)) (Value.slice a5 (cntR t 5) cap5) (lotsTo t 5 (cntR t 5))) :=
    rowLF_owned (by rw [lotsTo, List.length_map, List.length_range]) (ownsRow_keeps (ownsRow_keeps HOW5.out hk (fun k hk => by have := HBU.out; omega)) (Keeps.setCell (K := (· ≠ L)) (Keeps.refl _ _) (p := ⟨L, 48, none⟩) (.inr (fun h => h rfl)) _) (fun k hk => by have := HLU4.out; omega)) (by have := HLU4.out; omega)
  clear hr6 HRX HK HO HR hle6 how hk ho
  have hone : (recCells r6).all (·.oneCell') = true := by
    refine recCells_one _ ?_ ?_ ?_ <;> (simp only [HV6.out, HV5.out, HV4.out]; rfl)
  have hi0 : (Tryz.prog.info? 38).map (·.size) = some (recCells r6).size := by rw [recCells_size]; kernel_rfl
  have hsame := HR6.out.setSame
  go_wp2_with (first
    | (refine wpList_load_row rfl _ _ rfl L rfl _ (recCells r6) (0, 0) _ HR6.out Tryz.underlying38 rfl hi0 ?_)
    | (refine wpList_store_row rfl _ _ _ rfl L (recCells r6) rfl rfl 38 _ HR6.out hi0 rfl hone ?_)
    | fail)
  rw [hsame]
  refine bodyPost_ret (results_cell_row rfl _ _ L 38 (recCells r6) (0, 0) _ rfl HR6.out Tryz.underlying38 rfl hi0) rfl ?_
  rw [GotPost, if_pos (show sceneOk t from ⟨hs4, HLOK.out, HIN6.out⟩)]
  exact ⟨_, rfl, ⟨_, _, _, by simp only [HV6.out, HV5.out, HV4.out, HX4.out, HX3.out, HX2.out, HX1.out]; simp only [sceneR, RecD.toV, rep_getD], RowIF.nil _ _, HL6.out, HI6.out⟩, HK6.out, HO6.out⟩
end Go.Proofs.YtkpmcjfolncmmaaGreatDoor
namespace Go.Proofs.YtkpmcjfolncmmaaGreatDoor
open Go.RowKit
set_option maxHeartbeats 4000000 in
set_option maxRecDepth 100000 in
theorem parts_scene_no0 (b g : Nat) (t : ByteArray) (hts : t.size ≤ 9223372036854775807) (hs4 : t.size = 1) (w : World) (h : ROpen b g t 1 false w) :
    Calls Tryz.prog 30 #[.agg #[.pointer (some ⟨b, 0, none⟩)], .int .i64 1] w (GotPost (sceneOk t) (sceneR t) (sceneQ t) b g t w) := by
  have HNO : Aside (∀ u, Keeps (· ≠ b) w u → GotPost (sceneOk t) (sceneR t) (sceneQ t) b g t w (.panicked gaveUp) u) := by
    intro u hk
    rw [GotPost, if_neg (fun h => by unfold sceneOk at h; have := h.1; omega)]
    exact ⟨rfl, hk⟩
  have H := aside h
  have hbl := h.bound.1
  have hgl := h.bound.2
  have HTS := aside hts
  have h1 : 1 ≤ t.size := by omega
  have h2 : t.size ≤ 1 := by omega
  clear h hts hs4
  go_enter Tryz.func30, Tryz.ntmps30
  go_wp2_with fail
  rw [show (#[.int .i64 1, .int .i64 0, .int .i64 0, .int .i64 0, .int .i64 0, .slice none 0 0, .int .u8 0, .int .u8 0, .int .u8 0, .int .u8 0, .int .u8 0, .int .u8 0, .int .u8 0, .int .u8 0, .int .u8 0, .int .u8 0, .int .u8 0, .int .u8 0, .int .u8 0, .int .u8 0, .int .u8 0, .int .u8 0, .int .u8 0, .int .u8 0, .int .u8 0, .int .u8 0, .int .u8 0, .int .u8 0, .int .u8 0, .int .u8 0, .int .u8 0, .int .u8 0, .int .u8 0, .int .u8 0, .int .u8 0, .int .u8 0, .int .u8 0, .int .u8 0, .int .u64 0, .int .u64 0, .int .i64 0, .int .i64 0, .int .u64 0, .int .i64 0, .int .i64 0, .int .i64 0, .int .i64 0, .slice none 0 0, .slice none 0 0] : Array Value) = recCells { kind := 1 } from rfl]
  obtain ⟨R, hR⟩ : ∃ x, x = w.heap.size := ⟨_, rfl⟩
  obtain ⟨L, hL⟩ : ∃ x, x = w.heap.size + 1 := ⟨_, rfl⟩
  obtain ⟨w0, hw0⟩ : ∃ z, z = (w.alloc (.cells #[.pointer (some ⟨b, 0, none⟩)] 75)).alloc (.cells (recCells { kind := 1 }) 38) := ⟨_, rfl⟩
  have HN0 : Aside (Below w.heap.size w w0) := by rw [hw0]; exact new_trans (new_alloc _ _) (new_alloc _ _)
  have HR0 : RecIn w0 L { kind := 1 } := by rw [hw0, hL]; have := RecIn.box (w.alloc (.cells #[.pointer (some ⟨b, 0, none⟩)] 75)) { kind := 1 }; simpa using this
  have HR0 := aside HR0
  have HB0 : Aside (w0.cell? ⟨R, 0, none⟩ = some (.pointer (some ⟨b, 0, none⟩))) := by
    rw [hw0, hR]; exact ((new_alloc _ _).cell (p := ⟨w.heap.size, 0, none⟩) (by simp)).trans (cell_new _ _ _ 0)
  have hLb : L ≠ b := by omega
  have hRb : R ≠ b := by omega
  have hLg : L ≠ g := by omega
  have hLR : L ≠ R := by omega
  have hRL : R ≠ L := by omega
  have hLw : w.heap.size ≤ L := by omega
  have HK0 : Aside (Keeps (· ≠ b) w w0) := keeps_of_new HN0.out _
  have HO0 : Aside (ROpen b g t 1 false w0) := H.out.on HN0.out
  rw [← hw0, ← hL, ← hR]
  clear hw0 hR hL
  refine wp_region_held_drew (S := fun W => W.cell? ⟨R, 0, none⟩ = some (.pointer (some ⟨b, 0, none⟩))) (by kernel_rfl) HB0.out (fun hHeld => ?_)
  refine wpAnyH_take (i := 0) (oi := { dst := some 10, op := Op.load 75 (Operand.tmp 2), type := 75, pos := "chain.go:161", after := #[], guard := none }) (v := .agg #[.pointer (some ⟨b, 0, none⟩)]) rfl (by kernel_rfl) (by kernel_rfl) (by kernel_rfl) (fun _ _ _ h => h) (Or.inl ⟨by rfl, ?_⟩) hHeld ?_
  · intro w hSw
    go_simp
  simp only [Act.put, ps]
  refine wpAnyH_take (i := 2) (oi := { dst := some 12, op := Op.load 75 (Operand.tmp 2), type := 75, pos := "chain.go:161", after := #[], guard := none }) (v := .agg #[.pointer (some ⟨b, 0, none⟩)]) rfl (by kernel_rfl) (by kernel_rfl) (by kernel_rfl) (fun _ _ _ h => h) (Or.inl ⟨by rfl, ?_⟩) hHeld ?_
  · intro w hSw
    go_simp
  simp only [Act.put, ps]
  refine wpAnyH_take (i := 4) (oi := { dst := some 14, op := Op.load 75 (Operand.tmp 2), type := 75, pos := "chain.go:161", after := #[], guard := none }) (v := .agg #[.pointer (some ⟨b, 0, none⟩)]) rfl (by kernel_rfl) (by kernel_rfl) (by kernel_rfl) (fun _ _ _ h => h) (Or.inl ⟨by rfl, ?_⟩) hHeld ?_
  · intro w hSw
    go_simp
  simp only [Act.put, ps]
  refine wpAnyH_take (i := 6) (oi := { dst := some 16, op := Op.load 75 (Operand.tmp 2), type := 75, pos := "chain.go:161", after := #[], guard := none }) (v := .agg #[.pointer (some ⟨b, 0, none⟩)]) rfl (by kernel_rfl) (by kernel_rfl) (by kernel_rfl) (fun _ _ _ h => h) (Or.inl ⟨by rfl, ?_⟩) hHeld ?_
  · intro w hSw
    go_simp
  simp only [Act.put, ps]
  refine wpAnyH_ready (rs := [1]) (by kernel_rfl) (by simp) ?_
  refine AllReadyH.cons (o := { dst := some 11, op := Op.call { callee := Callee.value (Operand.func 28), args := #[Operand.tmp 10], argTypes := #[75] }, type := 3, pos := "chain.go:161", after := #[{ on := 0, ground := Ground.data }], guard := none }) rfl (fun K hK => ?_) AllReadyH.nil
  go_simp
  refine (csmall_no b g t HTS.out 1 (by omega) (by omega) _ HO0.out.drew).mono ?_
  rintro e u1 ⟨rfl, k1⟩
  exact ⟨rfl, HNO.out _ (HK0.out.drew.trans k1)⟩
set_option maxHeartbeats 4000000 in
set_option maxRecDepth 100000 in
theorem parts_scene_no1 (b g : Nat) (t : ByteArray) (hts : t.size ≤ 9223372036854775807) (hs4 : t.size = 2) (w : World) (h : ROpen b g t 1 false w) :
    Calls Tryz.prog 30 #[.agg #[.pointer (some ⟨b, 0, none⟩)], .int .i64 1] w (GotPost (sceneOk t) (sceneR t) (sceneQ t) b g t w) := by
  have HNO : Aside (∀ u, Keeps (· ≠ b) w u → GotPost (sceneOk t) (sceneR t) (sceneQ t) b g t w (.panicked gaveUp) u) := by
    intro u hk
    rw [GotPost, if_neg (fun h => by unfold sceneOk at h; have := h.1; omega)]
    exact ⟨rfl, hk⟩
  have H := aside h
  have hbl := h.bound.1
  have hgl := h.bound.2
  have HTS := aside hts
  have h1 : 2 ≤ t.size := by omega
  have h2 : t.size ≤ 2 := by omega
  clear h hts hs4
  go_enter Tryz.func30, Tryz.ntmps30
  go_wp2_with fail
  rw [show (#[.int .i64 1, .int .i64 0, .int .i64 0, .int .i64 0, .int .i64 0, .slice none 0 0, .int .u8 0, .int .u8 0, .int .u8 0, .int .u8 0, .int .u8 0, .int .u8 0, .int .u8 0, .int .u8 0, .int .u8 0, .int .u8 0, .int .u8 0, .int .u8 0, .int .u8 0, .int .u8 0, .int .u8 0, .int .u8 0, .int .u8 0, .int .u8 0, .int .u8 0, .int .u8 0, .int .u8 0, .int .u8 0, .int .u8 0, .int .u8 0, .int .u8 0, .int .u8 0, .int .u8 0, .int .u8 0, .int .u8 0, .int .u8 0, .int .u8 0, .int .u8 0, .int .u64 0, .int .u64 0, .int .i64 0, .int .i64 0, .int .u64 0, .int .i64 0, .int .i64 0, .int .i64 0, .int .i64 0, .slice none 0 0, .slice none 0 0] : Array Value) = recCells { kind := 1 } from rfl]
  obtain ⟨R, hR⟩ : ∃ x, x = w.heap.size := ⟨_, rfl⟩
  obtain ⟨L, hL⟩ : ∃ x, x = w.heap.size + 1 := ⟨_, rfl⟩
  obtain ⟨w0, hw0⟩ : ∃ z, z = (w.alloc (.cells #[.pointer (some ⟨b, 0, none⟩)] 75)).alloc (.cells (recCells { kind := 1 }) 38) := ⟨_, rfl⟩
  have HN0 : Aside (Below w.heap.size w w0) := by rw [hw0]; exact new_trans (new_alloc _ _) (new_alloc _ _)
  have HR0 : RecIn w0 L { kind := 1 } := by rw [hw0, hL]; have := RecIn.box (w.alloc (.cells #[.pointer (some ⟨b, 0, none⟩)] 75)) { kind := 1 }; simpa using this
  have HR0 := aside HR0
  have HB0 : Aside (w0.cell? ⟨R, 0, none⟩ = some (.pointer (some ⟨b, 0, none⟩))) := by
    rw [hw0, hR]; exact ((new_alloc _ _).cell (p := ⟨w.heap.size, 0, none⟩) (by simp)).trans (cell_new _ _ _ 0)
  have hLb : L ≠ b := by omega
  have hRb : R ≠ b := by omega
  have hLg : L ≠ g := by omega
  have hLR : L ≠ R := by omega
  have hRL : R ≠ L := by omega
  have hLw : w.heap.size ≤ L := by omega
  have HK0 : Aside (Keeps (· ≠ b) w w0) := keeps_of_new HN0.out _
  have HO0 : Aside (ROpen b g t 1 false w0) := H.out.on HN0.out
  rw [← hw0, ← hL, ← hR]
  clear hw0 hR hL
  obtain ⟨x1, hx1⟩ : ∃ x, x = getV t 1 1 := ⟨_, rfl⟩
  have HX1 := aside hx1
  clear hx1
  refine wp_region_held_drew (S := fun W => W.cell? ⟨R, 0, none⟩ = some (.pointer (some ⟨b, 0, none⟩))) (by kernel_rfl) HB0.out (fun hHeld => ?_)
  refine wpAnyH_take (i := 0) (oi := { dst := some 10, op := Op.load 75 (Operand.tmp 2), type := 75, pos := "chain.go:161", after := #[], guard := none }) (v := .agg #[.pointer (some ⟨b, 0, none⟩)]) rfl (by kernel_rfl) (by kernel_rfl) (by kernel_rfl) (fun _ _ _ h => h) (Or.inl ⟨by rfl, ?_⟩) hHeld ?_
  · intro w hSw
    go_simp
  simp only [Act.put, ps]
  refine wpAnyH_take (i := 2) (oi := { dst := some 12, op := Op.load 75 (Operand.tmp 2), type := 75, pos := "chain.go:161", after := #[], guard := none }) (v := .agg #[.pointer (some ⟨b, 0, none⟩)]) rfl (by kernel_rfl) (by kernel_rfl) (by kernel_rfl) (fun _ _ _ h => h) (Or.inl ⟨by rfl, ?_⟩) hHeld ?_
  · intro w hSw
    go_simp
  simp only [Act.put, ps]
  refine wpAnyH_take (i := 4) (oi := { dst := some 14, op := Op.load 75 (Operand.tmp 2), type := 75, pos := "chain.go:161", after := #[], guard := none }) (v := .agg #[.pointer (some ⟨b, 0, none⟩)]) rfl (by kernel_rfl) (by kernel_rfl) (by kernel_rfl) (fun _ _ _ h => h) (Or.inl ⟨by rfl, ?_⟩) hHeld ?_
  · intro w hSw
    go_simp
  simp only [Act.put, ps]
  refine wpAnyH_take (i := 6) (oi := { dst := some 16, op := Op.load 75 (Operand.tmp 2), type := 75, pos := "chain.go:161", after := #[], guard := none }) (v := .agg #[.pointer (some ⟨b, 0, none⟩)]) rfl (by kernel_rfl) (by kernel_rfl) (by kernel_rfl) (fun _ _ _ h => h) (Or.inl ⟨by rfl, ?_⟩) hHeld ?_
  · intro w hSw
    go_simp
  simp only [Act.put, ps]
  refine wpAnyH_ready (rs := [1]) (by kernel_rfl) (by simp) ?_
  refine AllReadyH.cons (o := { dst := some 11, op := Op.call { callee := Callee.value (Operand.func 28), args := #[Operand.tmp 10], argTypes := #[75] }, type := 3, pos := "chain.go:161", after := #[{ on := 0, ground := Ground.data }], guard := none }) rfl (fun K hK => ?_) AllReadyH.nil
  go_simp
  refine (csmall_ok b g t HTS.out 1 2 x1 (by omega) (by omega) rfl HX1.out _ HO0.out.drew).mono ?_
  rintro e u1 ⟨rfl, k1, O1⟩
  refine hK.out _ _ (cell_kept k1 hRb hHeld) (fun hHeld => ?_)
  clear hK K
  refine wpAnyH_take (i := 8) (oi := _) (v := .pointer (some ⟨L, 43, none⟩)) rfl (by kernel_rfl) (by kernel_rfl) (by kernel_rfl) (fun _ _ _ h => h) (Or.inl ⟨by rfl, ?_⟩) hHeld ?_
  · intro w hSw
    go_simp
  simp only [Act.put, ps]
  refine wpAnyH_ready (rs := [3]) (by kernel_rfl) (by simp) ?_
  refine AllReadyH.cons (o := { dst := some 13, op := Op.call { callee := Callee.value (Operand.func 28), args := #[Operand.tmp 12], argTypes := #[75] }, type := 3, pos := "chain.go:161", after := #[{ on := 2, ground := Ground.data }, { on := 1, ground := Ground.chain }], guard := none }) rfl (fun K hK => ?_) AllReadyH.nil
  go_simp
  refine (csmall_no b g t HTS.out 2 (by omega) (by omega) _ O1).mono ?_
  rintro e u2 ⟨rfl, k2⟩
  exact ⟨rfl, HNO.out _ ((HK0.out.drew.trans k1).trans k2)⟩
set_option maxHeartbeats 4000000 in
set_option maxRecDepth 100000 in
theorem parts_scene_no2 (b g : Nat) (t : ByteArray) (hts : t.size ≤ 9223372036854775807) (hs4 : t.size = 3) (w : World) (h : ROpen b g t 1 false w) :
    Calls Tryz.prog 30 #[.agg #[.pointer (some ⟨b, 0, none⟩)], .int .i64 1] w (GotPost (sceneOk t) (sceneR t) (sceneQ t) b g t w) := by
  have HNO : Aside (∀ u, Keeps (· ≠ b) w u → GotPost (sceneOk t) (sceneR t) (sceneQ t) b g t w (.panicked gaveUp) u) := by
    intro u hk
    rw [GotPost, if_neg (fun h => by unfold sceneOk at h; have := h.1; omega)]
    exact ⟨rfl, hk⟩
  have H := aside h
  have hbl := h.bound.1
  have hgl := h.bound.2
  have HTS := aside hts
  have h1 : 3 ≤ t.size := by omega
  have h2 : t.size ≤ 3 := by omega
  clear h hts hs4
  go_enter Tryz.func30, Tryz.ntmps30
  go_wp2_with fail
  rw [show (#[.int .i64 1, .int .i64 0, .int .i64 0, .int .i64 0, .int .i64 0, .slice none 0 0, .int .u8 0, .int .u8 0, .int .u8 0, .int .u8 0, .int .u8 0, .int .u8 0, .int .u8 0, .int .u8 0, .int .u8 0, .int .u8 0, .int .u8 0, .int .u8 0, .int .u8 0, .int .u8 0, .int .u8 0, .int .u8 0, .int .u8 0, .int .u8 0, .int .u8 0, .int .u8 0, .int .u8 0, .int .u8 0, .int .u8 0, .int .u8 0, .int .u8 0, .int .u8 0, .int .u8 0, .int .u8 0, .int .u8 0, .int .u8 0, .int .u8 0, .int .u8 0, .int .u64 0, .int .u64 0, .int .i64 0, .int .i64 0, .int .u64 0, .int .i64 0, .int .i64 0, .int .i64 0, .int .i64 0, .slice none 0 0, .slice none 0 0] : Array Value) = recCells { kind := 1 } from rfl]
  obtain ⟨R, hR⟩ : ∃ x, x = w.heap.size := ⟨_, rfl⟩
  obtain ⟨L, hL⟩ : ∃ x, x = w.heap.size + 1 := ⟨_, rfl⟩
  obtain ⟨w0, hw0⟩ : ∃ z, z = (w.alloc (.cells #[.pointer (some ⟨b, 0, none⟩)] 75)).alloc (.cells (recCells { kind := 1 }) 38) := ⟨_, rfl⟩
  have HN0 : Aside (Below w.heap.size w w0) := by rw [hw0]; exact new_trans (new_alloc _ _) (new_alloc _ _)
  have HR0 : RecIn w0 L { kind := 1 } := by rw [hw0, hL]; have := RecIn.box (w.alloc (.cells #[.pointer (some ⟨b, 0, none⟩)] 75)) { kind := 1 }; simpa using this
  have HR0 := aside HR0
  have HB0 : Aside (w0.cell? ⟨R, 0, none⟩ = some (.pointer (some ⟨b, 0, none⟩))) := by
    rw [hw0, hR]; exact ((new_alloc _ _).cell (p := ⟨w.heap.size, 0, none⟩) (by simp)).trans (cell_new _ _ _ 0)
  have hLb : L ≠ b := by omega
  have hRb : R ≠ b := by omega
  have hLg : L ≠ g := by omega
  have hLR : L ≠ R := by omega
  have hRL : R ≠ L := by omega
  have hLw : w.heap.size ≤ L := by omega
  have HK0 : Aside (Keeps (· ≠ b) w w0) := keeps_of_new HN0.out _
  have HO0 : Aside (ROpen b g t 1 false w0) := H.out.on HN0.out
  rw [← hw0, ← hL, ← hR]
  clear hw0 hR hL
  obtain ⟨x1, hx1⟩ : ∃ x, x = getV t 1 1 := ⟨_, rfl⟩
  have HX1 := aside hx1
  clear hx1
  obtain ⟨x2, hx2⟩ : ∃ x, x = getV t 2 1 := ⟨_, rfl⟩
  have HX2 := aside hx2
  clear hx2
  refine wp_region_held_drew (S := fun W => W.cell? ⟨R, 0, none⟩ = some (.pointer (some ⟨b, 0, none⟩))) (by kernel_rfl) HB0.out (fun hHeld => ?_)
  refine wpAnyH_take (i := 0) (oi := { dst := some 10, op := Op.load 75 (Operand.tmp 2), type := 75, pos := "chain.go:161", after := #[], guard := none }) (v := .agg #[.pointer (some ⟨b, 0, none⟩)]) rfl (by kernel_rfl) (by kernel_rfl) (by kernel_rfl) (fun _ _ _ h => h) (Or.inl ⟨by rfl, ?_⟩) hHeld ?_
  · intro w hSw
    go_simp
  simp only [Act.put, ps]
  refine wpAnyH_take (i := 2) (oi := { dst := some 12, op := Op.load 75 (Operand.tmp 2), type := 75, pos := "chain.go:161", after := #[], guard := none }) (v := .agg #[.pointer (some ⟨b, 0, none⟩)]) rfl (by kernel_rfl) (by kernel_rfl) (by kernel_rfl) (fun _ _ _ h => h) (Or.inl ⟨by rfl, ?_⟩) hHeld ?_
  · intro w hSw
    go_simp
  simp only [Act.put, ps]
  refine wpAnyH_take (i := 4) (oi := { dst := some 14, op := Op.load 75 (Operand.tmp 2), type := 75, pos := "chain.go:161", after := #[], guard := none }) (v := .agg #[.pointer (some ⟨b, 0, none⟩)]) rfl (by kernel_rfl) (by kernel_rfl) (by kernel_rfl) (fun _ _ _ h => h) (Or.inl ⟨by rfl, ?_⟩) hHeld ?_
  · intro w hSw
    go_simp
  simp only [Act.put, ps]
  refine wpAnyH_take (i := 6) (oi := { dst := some 16, op := Op.load 75 (Operand.tmp 2), type := 75, pos := "chain.go:161", after := #[], guard := none }) (v := .agg #[.pointer (some ⟨b, 0, none⟩)]) rfl (by kernel_rfl) (by kernel_rfl) (by kernel_rfl) (fun _ _ _ h => h) (Or.inl ⟨by rfl, ?_⟩) hHeld ?_
  · intro w hSw
    go_simp
  simp only [Act.put, ps]
  refine wpAnyH_ready (rs := [1]) (by kernel_rfl) (by simp) ?_
  refine AllReadyH.cons (o := { dst := some 11, op := Op.call { callee := Callee.value (Operand.func 28), args := #[Operand.tmp 10], argTypes := #[75] }, type := 3, pos := "chain.go:161", after := #[{ on := 0, ground := Ground.data }], guard := none }) rfl (fun K hK => ?_) AllReadyH.nil
  go_simp
  refine (csmall_ok b g t HTS.out 1 2 x1 (by omega) (by omega) rfl HX1.out _ HO0.out.drew).mono ?_
  rintro e u1 ⟨rfl, k1, O1⟩
  refine hK.out _ _ (cell_kept k1 hRb hHeld) (fun hHeld => ?_)
  clear hK K
  refine wpAnyH_take (i := 8) (oi := _) (v := .pointer (some ⟨L, 43, none⟩)) rfl (by kernel_rfl) (by kernel_rfl) (by kernel_rfl) (fun _ _ _ h => h) (Or.inl ⟨by rfl, ?_⟩) hHeld ?_
  · intro w hSw
    go_simp
  simp only [Act.put, ps]
  refine wpAnyH_ready (rs := [3]) (by kernel_rfl) (by simp) ?_
  refine AllReadyH.cons (o := { dst := some 13, op := Op.call { callee := Callee.value (Operand.func 28), args := #[Operand.tmp 12], argTypes := #[75] }, type := 3, pos := "chain.go:161", after := #[{ on := 2, ground := Ground.data }, { on := 1, ground := Ground.chain }], guard := none }) rfl (fun K hK => ?_) AllReadyH.nil
  go_simp
  refine (csmall_ok b g t HTS.out 2 3 x2 (by omega) (by omega) rfl HX2.out _ O1).mono ?_
  rintro e u2 ⟨rfl, k2, O2⟩
  refine hK.out _ _ (cell_kept k2 hRb hHeld) (fun hHeld => ?_)
  clear hK K
  refine wpAnyH_ready (rs := [5]) (by kernel_rfl) (by simp) ?_
  refine AllReadyH.cons (o := { dst := some 15, op := Op.call { callee := Callee.value (Operand.func 28), args := #[Operand.tmp 14], argTypes := #[75] }, type := 3, pos := "chain.go:161", after := #[{ on := 4, ground := Ground.data }, { on := 3, ground := Ground.chain }], guard := none }) rfl (fun K hK => ?_) AllReadyH.nil
  go_simp
  refine (csmall_no b g t HTS.out 3 (by omega) (by omega) _ O2).mono ?_
  rintro e u3 ⟨rfl, k3⟩
  exact ⟨rfl, HNO.out _ (((HK0.out.drew.trans k1).trans k2).trans k3)⟩
set_option maxHeartbeats 4000000 in
set_option maxRecDepth 100000 in
theorem parts_scene_no3 (b g : Nat) (t : ByteArray) (hts : t.size ≤ 9223372036854775807) (hs4 : t.size = 4) (w : World) (h : ROpen b g t 1 false w) :
    Calls Tryz.prog 30 #[.agg #[.pointer (some ⟨b, 0, none⟩)], .int .i64 1] w (GotPost (sceneOk t) (sceneR t) (sceneQ t) b g t w) := by
  have HNO : Aside (∀ u, Keeps (· ≠ b) w u → GotPost (sceneOk t) (sceneR t) (sceneQ t) b g t w (.panicked gaveUp) u) := by
    intro u hk
    rw [GotPost, if_neg (fun h => by unfold sceneOk at h; have := h.1; omega)]
    exact ⟨rfl, hk⟩
  have H := aside h
  have hbl := h.bound.1
  have hgl := h.bound.2
  have HTS := aside hts
  have h1 : 4 ≤ t.size := by omega
  have h2 : t.size ≤ 4 := by omega
  clear h hts hs4
  go_enter Tryz.func30, Tryz.ntmps30
  go_wp2_with fail
  rw [show (#[.int .i64 1, .int .i64 0, .int .i64 0, .int .i64 0, .int .i64 0, .slice none 0 0, .int .u8 0, .int .u8 0, .int .u8 0, .int .u8 0, .int .u8 0, .int .u8 0, .int .u8 0, .int .u8 0, .int .u8 0, .int .u8 0, .int .u8 0, .int .u8 0, .int .u8 0, .int .u8 0, .int .u8 0, .int .u8 0, .int .u8 0, .int .u8 0, .int .u8 0, .int .u8 0, .int .u8 0, .int .u8 0, .int .u8 0, .int .u8 0, .int .u8 0, .int .u8 0, .int .u8 0, .int .u8 0, .int .u8 0, .int .u8 0, .int .u8 0, .int .u8 0, .int .u64 0, .int .u64 0, .int .i64 0, .int .i64 0, .int .u64 0, .int .i64 0, .int .i64 0, .int .i64 0, .int .i64 0, .slice none 0 0, .slice none 0 0] : Array Value) = recCells { kind := 1 } from rfl]
  obtain ⟨R, hR⟩ : ∃ x, x = w.heap.size := ⟨_, rfl⟩
  obtain ⟨L, hL⟩ : ∃ x, x = w.heap.size + 1 := ⟨_, rfl⟩
  obtain ⟨w0, hw0⟩ : ∃ z, z = (w.alloc (.cells #[.pointer (some ⟨b, 0, none⟩)] 75)).alloc (.cells (recCells { kind := 1 }) 38) := ⟨_, rfl⟩
  have HN0 : Aside (Below w.heap.size w w0) := by rw [hw0]; exact new_trans (new_alloc _ _) (new_alloc _ _)
  have HR0 : RecIn w0 L { kind := 1 } := by rw [hw0, hL]; have := RecIn.box (w.alloc (.cells #[.pointer (some ⟨b, 0, none⟩)] 75)) { kind := 1 }; simpa using this
  have HR0 := aside HR0
  have HB0 : Aside (w0.cell? ⟨R, 0, none⟩ = some (.pointer (some ⟨b, 0, none⟩))) := by
    rw [hw0, hR]; exact ((new_alloc _ _).cell (p := ⟨w.heap.size, 0, none⟩) (by simp)).trans (cell_new _ _ _ 0)
  have hLb : L ≠ b := by omega
  have hRb : R ≠ b := by omega
  have hLg : L ≠ g := by omega
  have hLR : L ≠ R := by omega
  have hRL : R ≠ L := by omega
  have hLw : w.heap.size ≤ L := by omega
  have HK0 : Aside (Keeps (· ≠ b) w w0) := keeps_of_new HN0.out _
  have HO0 : Aside (ROpen b g t 1 false w0) := H.out.on HN0.out
  rw [← hw0, ← hL, ← hR]
  clear hw0 hR hL
  obtain ⟨x1, hx1⟩ : ∃ x, x = getV t 1 1 := ⟨_, rfl⟩
  have HX1 := aside hx1
  clear hx1
  obtain ⟨x2, hx2⟩ : ∃ x, x = getV t 2 1 := ⟨_, rfl⟩
  have HX2 := aside hx2
  clear hx2
  obtain ⟨x3, hx3⟩ : ∃ x, x = getV t 3 1 := ⟨_, rfl⟩
  have HX3 := aside hx3
  clear hx3
  refine wp_region_held_drew (S := fun W => W.cell? ⟨R, 0, none⟩ = some (.pointer (some ⟨b, 0, none⟩))) (by kernel_rfl) HB0.out (fun hHeld => ?_)
  refine wpAnyH_take (i := 0) (oi := { dst := some 10, op := Op.load 75 (Operand.tmp 2), type := 75, pos := "chain.go:161", after := #[], guard := none }) (v := .agg #[.pointer (some ⟨b, 0, none⟩)]) rfl (by kernel_rfl) (by kernel_rfl) (by kernel_rfl) (fun _ _ _ h => h) (Or.inl ⟨by rfl, ?_⟩) hHeld ?_
  · intro w hSw
    go_simp
  simp only [Act.put, ps]
  refine wpAnyH_take (i := 2) (oi := { dst := some 12, op := Op.load 75 (Operand.tmp 2), type := 75, pos := "chain.go:161", after := #[], guard := none }) (v := .agg #[.pointer (some ⟨b, 0, none⟩)]) rfl (by kernel_rfl) (by kernel_rfl) (by kernel_rfl) (fun _ _ _ h => h) (Or.inl ⟨by rfl, ?_⟩) hHeld ?_
  · intro w hSw
    go_simp
  simp only [Act.put, ps]
  refine wpAnyH_take (i := 4) (oi := { dst := some 14, op := Op.load 75 (Operand.tmp 2), type := 75, pos := "chain.go:161", after := #[], guard := none }) (v := .agg #[.pointer (some ⟨b, 0, none⟩)]) rfl (by kernel_rfl) (by kernel_rfl) (by kernel_rfl) (fun _ _ _ h => h) (Or.inl ⟨by rfl, ?_⟩) hHeld ?_
  · intro w hSw
    go_simp
  simp only [Act.put, ps]
  refine wpAnyH_take (i := 6) (oi := { dst := some 16, op := Op.load 75 (Operand.tmp 2), type := 75, pos := "chain.go:161", after := #[], guard := none }) (v := .agg #[.pointer (some ⟨b, 0, none⟩)]) rfl (by kernel_rfl) (by kernel_rfl) (by kernel_rfl) (fun _ _ _ h => h) (Or.inl ⟨by rfl, ?_⟩) hHeld ?_
  · intro w hSw
    go_simp
  simp only [Act.put, ps]
  refine wpAnyH_ready (rs := [1]) (by kernel_rfl) (by simp) ?_
  refine AllReadyH.cons (o := { dst := some 11, op := Op.call { callee := Callee.value (Operand.func 28), args := #[Operand.tmp 10], argTypes := #[75] }, type := 3, pos := "chain.go:161", after := #[{ on := 0, ground := Ground.data }], guard := none }) rfl (fun K hK => ?_) AllReadyH.nil
  go_simp
  refine (csmall_ok b g t HTS.out 1 2 x1 (by omega) (by omega) rfl HX1.out _ HO0.out.drew).mono ?_
  rintro e u1 ⟨rfl, k1, O1⟩
  refine hK.out _ _ (cell_kept k1 hRb hHeld) (fun hHeld => ?_)
  clear hK K
  refine wpAnyH_take (i := 8) (oi := _) (v := .pointer (some ⟨L, 43, none⟩)) rfl (by kernel_rfl) (by kernel_rfl) (by kernel_rfl) (fun _ _ _ h => h) (Or.inl ⟨by rfl, ?_⟩) hHeld ?_
  · intro w hSw
    go_simp
  simp only [Act.put, ps]
  refine wpAnyH_ready (rs := [3]) (by kernel_rfl) (by simp) ?_
  refine AllReadyH.cons (o := { dst := some 13, op := Op.call { callee := Callee.value (Operand.func 28), args := #[Operand.tmp 12], argTypes := #[75] }, type := 3, pos := "chain.go:161", after := #[{ on := 2, ground := Ground.data }, { on := 1, ground := Ground.chain }], guard := none }) rfl (fun K hK => ?_) AllReadyH.nil
  go_simp
  refine (csmall_ok b g t HTS.out 2 3 x2 (by omega) (by omega) rfl HX2.out _ O1).mono ?_
  rintro e u2 ⟨rfl, k2, O2⟩
  refine hK.out _ _ (cell_kept k2 hRb hHeld) (fun hHeld => ?_)
  clear hK K
  refine wpAnyH_ready (rs := [5]) (by kernel_rfl) (by simp) ?_
  refine AllReadyH.cons (o := { dst := some 15, op := Op.call { callee := Callee.value (Operand.func 28), args := #[Operand.tmp 14], argTypes := #[75] }, type := 3, pos := "chain.go:161", after := #[{ on := 4, ground := Ground.data }, { on := 3, ground := Ground.chain }], guard := none }) rfl (fun K hK => ?_) AllReadyH.nil
  go_simp
  refine (csmall_ok b g t HTS.out 3 4 x3 (by omega) (by omega) rfl HX3.out _ O2).mono ?_
  rintro e u3 ⟨rfl, k3, O3⟩
  refine hK.out _ _ (cell_kept k3 hRb hHeld) (fun hHeld => ?_)
  clear hK K
  refine wpAnyH_ready (rs := [7]) (by kernel_rfl) (by simp) ?_
  refine AllReadyH.cons (o := { dst := some 17, op := Op.call { callee := Callee.value (Operand.func 28), args := #[Operand.tmp 16], argTypes := #[75] }, type := 3, pos := "chain.go:161", after := #[{ on := 6, ground := Ground.data }, { on := 5, ground := Ground.chain }], guard := none }) rfl (fun K hK => ?_) AllReadyH.nil
  go_simp
  refine (csmall_no b g t HTS.out 4 (by omega) (by omega) _ O3).mono ?_
  rintro e u4 ⟨rfl, k4⟩
  exact ⟨rfl, HNO.out _ ((((HK0.out.drew.trans k1).trans k2).trans k3).trans k4)⟩
theorem parts_scene (b g : Nat) (t : ByteArray) (hts : t.size ≤ 9223372036854775807) (h1 : 1 ≤ t.size) (w : World) (h : ROpen b g t 1 false w) :
    Calls Tryz.prog 30 #[.agg #[.pointer (some ⟨b, 0, none⟩)], .int .i64 1] w (GotPost (sceneOk t) (sceneR t) (sceneQ t) b g t w) := by
  by_cases h5 : 5 ≤ t.size
  · exact parts_scene_ok b g t hts h1 h5 w h
  · have h4 : t.size = 1 ∨ t.size = 2 ∨ t.size = 3 ∨ t.size = 4 := by omega
    rcases h4 with h4 | h4 | h4 | h4
    · exact parts_scene_no0 b g t hts h4 w h
    · exact parts_scene_no1 b g t hts h4 w h
    · exact parts_scene_no2 b g t hts h4 w h
    · exact parts_scene_no3 b g t hts h4 w h
end Go.Proofs.YtkpmcjfolncmmaaGreatDoor
namespace Go.Proofs.YtkpmcjfolncmmaaGreatDoor
open Go.RowKit
theorem or64_in (a b : Int) : -9223372036854775808 ≤ bits .or .i64 a b ∧ bits .or .i64 a b ≤ 9223372036854775807 := by
  show -9223372036854775808 ≤ IntKind.i64.wrap _ ∧ IntKind.i64.wrap _ ≤ 9223372036854775807
  simp only [IntKind.wrap_i64]
  omega
theorem or64 (a b : Int) (ha : -9223372036854775808 ≤ a ∧ a ≤ 9223372036854775807) (hb : -9223372036854775808 ≤ b ∧ b ≤ 9223372036854775807) : bits .or .i64 a b = 0 ↔ a = 0 ∧ b = 0 := by
  have e : bits .or .i64 a b = IntKind.i64.wrap ((BitVec.ofInt 64 a ||| BitVec.ofInt 64 b).toNat : Int) := rfl
  have h0 : ∀ x : Int, -9223372036854775808 ≤ x ∧ x ≤ 9223372036854775807 → (BitVec.ofInt 64 x = 0#64 ↔ x = 0) := by
    intro x hx
    constructor
    · intro h
      have h1 := congrArg BitVec.toInt h
      rw [BitVec.toInt_ofInt_eq_self (by decide) (by simpa using hx.1) (by simp; omega)] at h1
      simpa using h1
    · rintro rfl; rfl
  have hz : ∀ r : BitVec 64, IntKind.i64.wrap (r.toNat : Int) = 0 ↔ r = 0#64 := by
    intro r
    have hr := r.isLt
    rw [IntKind.wrap_i64]
    constructor
    · intro h
      apply BitVec.eq_of_toNat_eq
      rw [BitVec.toNat_ofNat]
      omega
    · rintro rfl; decide
  rw [e, hz, BitVec.or_eq_zero_iff, h0 a ha, h0 b hb]
theorem oru64 (a b : Int) (ha : 0 ≤ a ∧ a ≤ 18446744073709551615) (hb : 0 ≤ b ∧ b ≤ 18446744073709551615) : bits .or .u64 a b = 0 ↔ a = 0 ∧ b = 0 := by
  rw [u64_or a b ha.1 (by omega) hb.1 (by omega)]
  constructor
  · intro h
    have h1 : a.toNat ||| b.toNat = 0 := by omega
    rw [Nat.or_eq_zero_iff] at h1
    omega
  · rintro ⟨rfl, rfl⟩; rfl
theorem new_of_keeps {L : Nat} {w w0 w1 : World} (h : Below w.heap.size w w0) (hk : Keeps (· ≠ L) w0 w1) (hL : w.heap.size ≤ L) : Below w.heap.size w w1 :=
  h.trans ((hk.mono (K' := (· < w.heap.size)) (fun k _ h => by omega)).below h.size)
theorem wpList_load_midG {P : Program} {ops : Array Oper} {rest : List Oper} {op : Oper} {a : Act} {w : World} {Q : Exit → Act → World → Prop} (hw : Region.wanted op (yielded ops a.tmps) = true) (ty : TypeId) (x : Operand) (ho : op.op = .load ty x)
    (b o : Nat) (hx : a.eval x = .pointer (some ⟨b, o, none⟩)) (cs : List Value) (d : TypeDesc) (hc : w.rangeAt b o cs)
    (hu : P.underlying ty = some d) (hd : d.isRow = true) (hi : (P.info? ty).map (·.size) = some cs.length) (ds : Array Value) (hds : cs.toArray = ds)
    (h : wpList P ops Q rest (a.put op.dst (.agg ds)) w) : wpList P ops Q (op :: rest) a w :=
  wpList_step fun K hK => by
    subst hds
    rw [if_pos hw]
    exact wp_load_mid ty x ho b o hx cs d hc hu hd hi (hK _ _ h)
theorem wpList_store_by {P : Program} {ops : Array Oper} {rest : List Oper} {op : Oper} {a : Act} {w w1 : World} {Q : Exit → Act → World → Prop} (hgd : op.guard = none) (ty : TypeId) (x y : Operand) (ho : op.op = .store ty x y)
    (p v : Value) (hx : a.eval x = p) (hy : a.eval y = v) (hr : (Instr.storeAt ty p v).run P w = .ok () w1)
    (h : wpList P ops Q rest (a.put op.dst undef) w1) : wpList P ops Q (op :: rest) a w :=
  wpList_plain hgd fun _ hK => by
    unfold Oper.wp execOp
    simp only [ho, hx, hy, Sem.run_bind, hr, Result.andThen_ok, Sem.run_pure]
    exact hK _ _ h
theorem eqDig (xs ys : Array Value) (f g : Nat → Int) (hx : ∀ j, j < 32 → xs[j]? = some (.int .u8 (f j))) (hy : ∀ j, j < 32 → ys[j]? = some (.int .u8 (g j))) (w : World) :
    (binOp .eql 33 (.agg xs) (.agg ys)).run Tryz.prog w = .ok (.bool (decide (∀ j ∈ List.range 32, f j = g j))) w := by
  have hu : Tryz.prog.underlying 33 = some (.array 32 5) := by kernel_rfl
  obtain ⟨i, hi⟩ : ∃ i, Tryz.prog.info? 5 = some i := Option.isSome_iff_exists.1 (by kernel_rfl)
  have hc : Tryz.prog.cellsOf 5 = 1 := by kernel_rfl
  have ag := Tryz.isAgg5
  have key : ∀ (is : List Nat), (∀ j ∈ is, j < 32) → (Op.eqItems 9999 5 1 xs ys is).run Tryz.prog w = .ok (decide (∀ j ∈ is, f j = g j)) w := by
    intro is
    induction is with
    | nil => intro _; simp [Op.eqItems]
    | cons j is ih =>
      intro hlt
      have hj := hlt j (by simp)
      have h1 : (part 5 xs (j * 1)).run Tryz.prog w = .ok (.int .u8 (f j)) w := by
        rw [Nat.mul_one]
        simp [part, ag, hx j hj]
      have h2 : (part 5 ys (j * 1)).run Tryz.prog w = .ok (.int .u8 (g j)) w := by
        rw [Nat.mul_one]
        simp [part, ag, hy j hj]
      have h3 : (Op.equalIn 9999 5 (.int .u8 (f j)) (.int .u8 (g j))).run Tryz.prog w = .ok (f j == g j) w := run_equalIn_int w 9998 5 .u8 .u8 (f j) (g j) Tryz.underlying5
      have ih2 := ih (fun k hk => hlt k (by simp [hk]))
      simp only [Op.eqItems, Sem.run_bind, h1, h2, h3, Result.andThen_ok]
      by_cases e : f j = g j
      · have eb : (f j == g j) = true := by simpa using e
        rw [eb]
        simp [ih2, e]
      · have eb : (f j == g j) = false := by simpa using e
        rw [eb]
        simp [e]
  rw [run_eql_struct, show (10000 : Nat) = 9999 + 1 from rfl, run_equalIn_array w 9999 xs ys hu hi, hc, key (List.range 32) (fun j hj => List.mem_range.1 hj)]
  simp only [Result.andThen_ok]
theorem RecIn.zeroDig : ∀ (n k : Nat) (w : World) (L : Nat) (r : RecV), k + n = 32 → RecIn w L r → RecIn (w.setCells L (6 + k) (List.replicate n (.int .u8 0))) L { r with dig := fun j => if k ≤ j then 0 else r.dig j }
  | 0, k, w, L, r, hk, h => by
    have e : recCells { r with dig := fun j => if k ≤ j then 0 else r.dig j } = recCells r := by
      have : k = 32 := by omega
      subst this
      rfl
    show w.heap[L]? = _
    rw [e]
    exact h
  | n + 1, k, w, L, r, hk, h => by
    rw [List.replicate_succ, World.setCells]
    have h1 := h.setDig k (by omega) 0
    have h2 := RecIn.zeroDig n (k + 1) _ L _ (by omega) h1
    have e : ∀ j, (if k + 1 ≤ j then (0 : Int) else upD r.dig k 0 j) = if k ≤ j then 0 else r.dig j := by
      intro j
      unfold upD
      by_cases a : k + 1 ≤ j
      · rw [if_pos a, if_pos (by omega)]
      · rw [if_neg a]
        by_cases b : j = k
        · rw [if_pos b, if_pos (by omega)]
        · rw [if_neg b, if_neg (by omega)]
    simp only [e] at h2
    exact h2
theorem RecIn.noDig {w : World} {L : Nat} {r : RecV} (h : RecIn w L r) : RecIn (w.setCells L 6 (List.replicate 32 (.int .u8 0))) L { r with dig := fun _ => 0 } := by
  have := RecIn.zeroDig 32 0 w L r rfl h
  simpa using this
theorem RecIn.there {w : World} {L : Nat} {r : RecV} (h : RecIn w L r) : w.there L 6 32 := fun j hj => ⟨by rw [h.dig j hj]; rfl, h.free _⟩
theorem zeroD_one : (#[.int .u8 0, .int .u8 0, .int .u8 0, .int .u8 0, .int .u8 0, .int .u8 0, .int .u8 0, .int .u8 0, .int .u8 0, .int .u8 0, .int .u8 0, .int .u8 0, .int .u8 0, .int .u8 0, .int .u8 0, .int .u8 0, .int .u8 0, .int .u8 0, .int .u8 0, .int .u8 0, .int .u8 0, .int .u8 0, .int .u8 0, .int .u8 0, .int .u8 0, .int .u8 0, .int .u8 0, .int .u8 0, .int .u8 0, .int .u8 0, .int .u8 0, .int .u8 0] : Array Value).all (·.oneCell') = true := by kernel_rfl
theorem zeroD_list : (#[.int .u8 0, .int .u8 0, .int .u8 0, .int .u8 0, .int .u8 0, .int .u8 0, .int .u8 0, .int .u8 0, .int .u8 0, .int .u8 0, .int .u8 0, .int .u8 0, .int .u8 0, .int .u8 0, .int .u8 0, .int .u8 0, .int .u8 0, .int .u8 0, .int .u8 0, .int .u8 0, .int .u8 0, .int .u8 0, .int .u8 0, .int .u8 0, .int .u8 0, .int .u8 0, .int .u8 0, .int .u8 0, .int .u8 0, .int .u8 0, .int .u8 0, .int .u8 0] : Array Value).toList = List.replicate 32 (.int .u8 0) := by kernel_rfl
theorem zeroD_size : (Tryz.prog.info? 33).map (·.size) = some (#[.int .u8 0, .int .u8 0, .int .u8 0, .int .u8 0, .int .u8 0, .int .u8 0, .int .u8 0, .int .u8 0, .int .u8 0, .int .u8 0, .int .u8 0, .int .u8 0, .int .u8 0, .int .u8 0, .int .u8 0, .int .u8 0, .int .u8 0, .int .u8 0, .int .u8 0, .int .u8 0, .int .u8 0, .int .u8 0, .int .u8 0, .int .u8 0, .int .u8 0, .int .u8 0, .int .u8 0, .int .u8 0, .int .u8 0, .int .u8 0, .int .u8 0, .int .u8 0] : Array Value).size := by kernel_rfl
theorem zeroD_get (j : Nat) (hj : j < 32) : (#[.int .u8 0, .int .u8 0, .int .u8 0, .int .u8 0, .int .u8 0, .int .u8 0, .int .u8 0, .int .u8 0, .int .u8 0, .int .u8 0, .int .u8 0, .int .u8 0, .int .u8 0, .int .u8 0, .int .u8 0, .int .u8 0, .int .u8 0, .int .u8 0, .int .u8 0, .int .u8 0, .int .u8 0, .int .u8 0, .int .u8 0, .int .u8 0, .int .u8 0, .int .u8 0, .int .u8 0, .int .u8 0, .int .u8 0, .int .u8 0, .int .u8 0, .int .u8 0] : Array Value)[j]? = some (.int .u8 0) := by
  rw [← Array.getElem?_toList, zeroD_list, List.getElem?_replicate, if_pos hj]
theorem store_zero {w : World} {L : Nat} {r : RecV} (h : RecIn w L r) : ∃ wz, (Instr.storeAt 33 (.pointer (some ⟨L, 6, none⟩)) (.agg #[.int .u8 0, .int .u8 0, .int .u8 0, .int .u8 0, .int .u8 0, .int .u8 0, .int .u8 0, .int .u8 0, .int .u8 0, .int .u8 0, .int .u8 0, .int .u8 0, .int .u8 0, .int .u8 0, .int .u8 0, .int .u8 0, .int .u8 0, .int .u8 0, .int .u8 0, .int .u8 0, .int .u8 0, .int .u8 0, .int .u8 0, .int .u8 0, .int .u8 0, .int .u8 0, .int .u8 0, .int .u8 0, .int .u8 0, .int .u8 0, .int .u8 0, .int .u8 0])).run Tryz.prog w = .ok () wz ∧ RecIn wz L { r with dig := fun _ => 0 } ∧ (∀ (a : World) (B : Nat), B ≤ L → Below B a w → Below B a wz) ∧ Keeps (· ≠ L) w wz := by
  refine ⟨w.setCells L 6 (List.replicate 32 (.int .u8 0)), ?_, h.noDig, fun a B hB hb => below_cells hB _ _ _ hb, ?_⟩
  · have := run_storeAt_mid (P := Tryz.prog) w L 6 33 #[.int .u8 0, .int .u8 0, .int .u8 0, .int .u8 0, .int .u8 0, .int .u8 0, .int .u8 0, .int .u8 0, .int .u8 0, .int .u8 0, .int .u8 0, .int .u8 0, .int .u8 0, .int .u8 0, .int .u8 0, .int .u8 0, .int .u8 0, .int .u8 0, .int .u8 0, .int .u8 0, .int .u8 0, .int .u8 0, .int .u8 0, .int .u8 0, .int .u8 0, .int .u8 0, .int .u8 0, .int .u8 0, .int .u8 0, .int .u8 0, .int .u8 0, .int .u8 0] h.there zeroD_size zeroD_one
    rw [zeroD_list] at this
    exact this
  · have : ∀ (vs : List Value) (o : Nat) (u : World), Keeps (· ≠ L) w u → Keeps (· ≠ L) w (u.setCells L o vs) := by
      intro vs
      induction vs with
      | nil => intro o u hu; exact hu
      | cons v vs ih => intro o u hu; exact ih _ _ (hu.setCell (p := ⟨L, o, none⟩) (.inr (fun e => e rfl)) v)
    exact this _ _ _ (Keeps.refl _ _)
theorem RecIn.digRange {w : World} {L : Nat} {r : RecV} (h : RecIn w L r) : w.rangeAt L 6 ((List.range 32).map fun j => .int .u8 (r.dig j)) := by
  intro j v hv
  by_cases hj : j < 32
  · rw [List.getElem?_map, List.getElem?_range hj] at hv
    rw [h.dig j hj]
    exact hv
  · rw [List.getElem?_eq_none (by simp; omega)] at hv
    cases hv
end Go.Proofs.YtkpmcjfolncmmaaGreatDoor
namespace Go.Proofs.YtkpmcjfolncmmaaGreatDoor
open Go.RowKit
theorem wpList_build_by {P : Program} {ops : Array Oper} {rest : List Oper} {op : Oper} {a : Act} {w : World} {Q : Exit → Act → World → Prop} (hgd : op.guard = none) (t : TypeId) (l : List (Nat × Operand)) (ho : op.op = .build t l.toArray)
    (ql : List (Nat × Value)) (hq : (l.map fun x => (x.1, a.eval x.2)) = ql) (v : Value) (hr : (Instr.build t ql.toArray).run P w = .ok v w)
    (h : wpList P ops Q rest (a.put op.dst v) w) : wpList P ops Q (op :: rest) a w :=
  wpList_plain hgd fun _ hK => by
    subst hq
    unfold Oper.wp execOp
    simp only [ho]
    simp [hr]
    exact hK _ _ h
def endD : RecD := { kind := 6, tick := 258 }
def opnD : RecD := { kind := 2, round := 1, lot := 2, tick := 3, barred := [0, 5] }
theorem build_end (w : World) : (Instr.build 38 #[(0, .int .i64 6), (4, .int .i64 258)]).run Tryz.prog w = .ok (.agg (recCells (endD.toV (.slice none 0 0) (.slice none 0 0) (.slice none 0 0)))) w := by kernel_rfl
theorem build_opn (w : World) (G : Nat) : (Instr.build 38 #[(0, .int .i64 2), (1, .int .i64 1), (2, .int .i64 2), (4, .int .i64 3), (5, .slice (some ⟨G, 0, none⟩) 2 2)]).run Tryz.prog w = .ok (.agg (recCells (opnD.toV (.slice (some ⟨G, 0, none⟩) 2 2) (.slice none 0 0) (.slice none 0 0)))) w := by kernel_rfl
end Go.Proofs.YtkpmcjfolncmmaaGreatDoor
namespace Go.Proofs.YtkpmcjfolncmmaaGreatDoor
open Go.RowKit
theorem fill_fold (D : List Value) : ∀ (pre Z : List Value), Z.length = D.length →
    ((D.zipIdx pre.length).foldl (fun (cs : Array Value) (x : Value × Nat) => cs.setIfInBounds (0 + x.2) x.1) (pre ++ Z).toArray) = (pre ++ D).toArray := by
  induction D with
  | nil => intro pre Z h; simp [List.eq_nil_of_length_eq_zero (by simpa using h)]
  | cons x D ih =>
    intro pre Z h
    cases Z with
    | nil => simp at h
    | cons z Z =>
      rw [List.zipIdx_cons, List.foldl_cons]
      have e : ((pre ++ z :: Z).toArray.setIfInBounds (0 + pre.length) x) = ((pre ++ [x]) ++ Z).toArray := by
        rw [Nat.zero_add]
        simp [List.set_append]
      have := ih (pre ++ [x]) Z (by simpa using h)
      rw [show (pre ++ [x]).length = pre.length + 1 by simp] at this
      rw [show (0 + ((x, pre.length) : Value × Nat).2) = 0 + pre.length from rfl]
      show ((D.zipIdx (pre.length + 1)).foldl _ ((pre ++ z :: Z).toArray.setIfInBounds (0 + pre.length) x)) = _
      rw [e, this]
      simp
theorem fill_one (place : Nat → Option (Nat × Nat)) (Z D : Array Value) (n : Nat) (hp : place 0 = some (0, n)) (hD : D.size = n) (hZ : Z.size = n) : Instr.fill place Z [(0, Value.agg D)] = some D := by
  have hc : (Value.agg D).cells = D := rfl
  simp only [Instr.fill, hp, hc]
  rw [if_neg (by simp [hD, hZ])]
  congr 1
  have := fill_fold D.toList [] Z.toList (by rw [Array.length_toList, Array.length_toList, hZ, hD])
  simp only [List.nil_append, List.length_nil, Array.toArray_toList] at this
  rw [← Array.foldl_toList, Array.toList_zipIdx]
  simpa using this
theorem rec_slice (D : Array Value) (h : D.size = 49) (w : World) : (Instr.buildSlice 48 1 #[(0, .agg D)]).run Tryz.prog w = .ok (.slice (some ⟨w.heap.size, 0, none⟩) 1 1) (w.alloc (.cells D 38)) := by
  have u := Tryz.underlying48
  have hz : ∀ w, (zeroValue 38).run Tryz.prog w = .ok (.agg (recCells {})) w := fun w => by kernel_rfl
  have hs : ∀ w, (sizeOf 38).run Tryz.prog w = .ok 49 w := fun w => by kernel_rfl
  have hf : Instr.fill (fun i => some (i * 49, 49)) ((Array.range (1 * 49)).map ((recCells {})[· % (recCells {}).size]!)) [(0, Value.agg D)] = some D :=
    fill_one _ _ D 49 rfl h (by rw [Array.size_map, Array.size_range])
  have hq : (Value.agg (recCells {})).cells = recCells {} := rfl
  simp only [Instr.buildSlice, Sem.run_bind, run_underlying u, Result.andThen_ok, hs]
  rw [if_neg (by decide), if_neg (by decide)]
  simp only [Sem.run_bind, hz, Result.andThen_ok, Sem.run_pure, hq, hf]
  rfl
theorem wpList_slice_by {P : Program} {ops : Array Oper} {rest : List Oper} {op : Oper} {a : Act} {w w1 : World} {Q : Exit → Act → World → Prop} (hgd : op.guard = none) (t : TypeId) (n : Nat) (x : Operand) (ho : op.op = .buildSlice t n #[(0, x)])
    (v1 v : Value) (hx : a.eval x = v1) (hr : (Instr.buildSlice t n #[(0, v1)]).run P w = .ok v w1)
    (h : wpList P ops Q rest (a.put op.dst v) w1) : wpList P ops Q (op :: rest) a w :=
  wpList_plain hgd fun _ hK => by
    unfold Oper.wp execOp
    simp [ho, hx, hr]
    exact hK _ _ h
end Go.Proofs.YtkpmcjfolncmmaaGreatDoor
