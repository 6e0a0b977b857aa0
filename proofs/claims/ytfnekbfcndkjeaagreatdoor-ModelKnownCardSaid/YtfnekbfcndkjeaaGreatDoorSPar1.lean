/- chain.Parse, walked. -/
import Derived.Test.YtfnekbfcndkjeaaGreatDoorSBya
import Derived.Defers
import Derived.Recover
import Derived.Test.YtfnekbfcndkjeaaGreatDoorSPln5
import Derived.Test.YtfnekbfcndkjeaaGreatDoorSBld
import Derived.Deep.RegionHeld3
set_option linter.all false
namespace Go.Proofs.YtfnekbfcndkjeaaGreatDoor
open Go.RowKit
theorem RecIn.setRow {w : World} {X : Nat} {r : RecV} (h : RecIn w X r) (r' : RecV) : RecIn (w.setRow X (recCells r')) X r' := setRow_heap w X _ _ _ _ h
theorem keeps_setRow {K : Nat → Prop} (w : World) (X : Nat) (cs : Array Value) (hX : ¬ K X) : Keeps K w (w.setRow X cs) :=
  ⟨rfl, rfl, rfl, by simp, fun k _ hK => setRow_other w X k cs (fun e => hX (e ▸ hK))⟩
structure RdAt (w : World) (X E : Nat) (r : RecV) (c : Int) : Prop where
  record : RecIn w X r
  code : w.cell? ⟨E, 0, none⟩ = some (.int .i64 c)
  free : w.frozen? ⟨E, 0, none⟩ = false
  ne : X ≠ E
theorem RdAt.lt {w : World} {X E : Nat} {r : RecV} {c : Int} (h : RdAt w X E r c) : X < w.heap.size ∧ E < w.heap.size := ⟨h.record.lt, cell_lt h.code⟩
theorem RdAt.keeps {K : Nat → Prop} {w w' : World} {X E : Nat} {r : RecV} {c : Int} (h : RdAt w X E r c) (hk : Keeps K w w') (hX : K X) (hE : K E) : RdAt w' X E r c :=
  ⟨h.record.keeps hk hX, cell_keeps h.code hk hE, (World.frozen?_of_block (w := w) (a := ⟨E, 0, none⟩) (hk.block E h.lt.2 hE)).trans h.free, h.ne⟩
theorem RdAt.on {w w' : World} {X E : Nat} {r : RecV} {c : Int} (h : RdAt w X E r c) (hb : Below w.heap.size w w') : RdAt w' X E r c := h.keeps (keeps_of_new hb (fun _ => True)) trivial trivial
theorem RdAt.lay {w : World} {X E : Nat} {r : RecV} {c : Int} (h : RdAt w X E r c) (r' : RecV) (c' : Int) : RdAt ((w.setRow X (recCells r')).setCell ⟨E, 0, none⟩ (.int .i64 c')) X E r' c' := by
  have hne := h.ne
  have hE : (w.setRow X (recCells r')).cell? ⟨E, 0, none⟩ = some (.int .i64 c) := cell_keeps h.code (keeps_setRow (K := (· ≠ X)) w X (recCells r') (fun h => h rfl)) (Ne.symm hne)
  refine ⟨(h.record.setRow r').other hne _, World.cell?_setCell_same _ _ _ hE, ?_, hne⟩
  rw [World.frozen?_setCell]
  exact (World.frozen?_of_block (w := w) (a := ⟨E, 0, none⟩) (setRow_other w X E _ (Ne.symm hne))).trans h.free
end Go.Proofs.YtfnekbfcndkjeaaGreatDoor
namespace Go.Proofs.YtfnekbfcndkjeaaGreatDoor
open Go.RowKit
end Go.Proofs.YtfnekbfcndkjeaaGreatDoor
namespace Go.Proofs.YtfnekbfcndkjeaaGreatDoor
open Go.RowKit
theorem RdAt.row {w : World} {X E : Nat} {r : RecV} {c : Int} (h : RdAt w X E r c) (r' : RecV) : RdAt (w.setRow X (recCells r')) X E r' c :=
  ⟨h.record.setRow r', cell_keeps h.code (keeps_setRow (K := (· ≠ X)) w X (recCells r') (fun h => h rfl)) (Ne.symm h.ne),
    (World.frozen?_of_block (w := w) (a := ⟨E, 0, none⟩) (setRow_other w X E _ (Ne.symm h.ne))).trans h.free, h.ne⟩
end Go.Proofs.YtfnekbfcndkjeaaGreatDoor
namespace Go.Proofs.YtfnekbfcndkjeaaGreatDoor
open Go.RowKit
def RecsF (B : Nat) (w : World) (v : Value) (ds : List RecD) : Prop :=
  ∃ rvs : List RecV, rvs.length = ds.length ∧ w.ownsRow B 49 49 v ds.length (rvs.flatMap fun r => (recCells r).toList) ∧ ∀ j, j < ds.length → RecFrom B w (rvs.getD j {}) (ds.getD j {})
theorem RecsF.nil (B : Nat) (w : World) : RecsF B w (.slice none 0 0) [] := ⟨[], rfl, ⟨rfl, .inl ⟨rfl, rfl⟩⟩, fun j h => by simp at h⟩
theorem RecsF.on {B : Nat} {w w' : World} {v : Value} {ds : List RecD} (h : RecsF B w v ds) (hb : Below w.heap.size w w') : RecsF B w' v ds := by
  obtain ⟨rvs, h1, h2, h3⟩ := h
  exact ⟨rvs, h1, ownsRow_new h2 hb, fun j hj => (h3 j hj).on hb⟩
theorem RecsF.keeps {B : Nat} {K : Nat → Prop} {w w' : World} {v : Value} {ds : List RecD} (h : RecsF B w v ds) (hk : Keeps K w w') (hK : ∀ k, B ≤ k → K k) : RecsF B w' v ds := by
  obtain ⟨rvs, h1, h2, h3⟩ := h
  exact ⟨rvs, h1, ownsRow_keeps h2 hk hK, fun j hj => (h3 j hj).keeps hk hK⟩
theorem RecsF.mono {B B' : Nat} {w : World} {v : Value} {ds : List RecD} (h : RecsF B w v ds) (hB : B' ≤ B) : RecsF B' w v ds := by
  obtain ⟨rvs, h1, h2, h3⟩ := h
  exact ⟨rvs, h1, ownsRow_mono h2 hB, fun j hj => (h3 j hj).mono hB⟩
theorem RecsF.own {B : Nat} {w : World} {v : Value} {ds : List RecD} (h : RecsF B w v ds) : ∀ k, v.ownBlock = some k → B ≤ k ∧ k < w.heap.size ∧ ∃ cur, w.heap[k]? = some (.cells cur 49 (0, 0)) := by
  obtain ⟨rvs, h1, ⟨_, h2⟩, h3⟩ := h
  intro k hk
  rcases h2 with ⟨rfl, _⟩ | ⟨g, cap, cur, rfl, hg, hh, _⟩
  · cases hk
  · have : g = k := by simpa [Value.ownBlock] using hk
    subst this
    exact ⟨hg, whole_lt hh, cur, hh⟩
theorem Tryz.infoRec : (Tryz.prog.info? 49).map (fun i => (i.zero, i.size, i.bytes)) = some (some (.agg (recCells {})), 49, 216) := by kernel_rfl
end Go.Proofs.YtfnekbfcndkjeaaGreatDoor
