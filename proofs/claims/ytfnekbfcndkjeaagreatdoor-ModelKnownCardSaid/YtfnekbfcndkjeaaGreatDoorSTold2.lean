/- api.Told, of a fault, walked. -/
import Derived.Test.YtfnekbfcndkjeaaGreatDoorSTold1
import Derived.Test.YtfnekbfcndkjeaaGreatDoorSBld
set_option linter.all false
namespace Go.Proofs.YtfnekbfcndkjeaaGreatDoor
open Go.RowKit
def ErrTab (w : World) : Prop := w.cell? ⟨0, 0, none⟩ = some (.iface 182 (.agg #[.pointer (some ⟨3, 67, none⟩)]))
theorem ErrTab.on {w w' : World} (h : ErrTab w) (hb : Below w.heap.size w w') : ErrTab w' := (hb.cell (cell_lt h)).trans h
theorem ErrTab.keeps {K : Nat → Prop} {w w' : World} (h : ErrTab w) (hk : Keeps K w w') (hK : K 0) : ErrTab w' := cell_keeps h hk hK
set_option maxHeartbeats 2000000 in
set_option maxRecDepth 100000 in
theorem told_fault (e : Nat) (c p i : Int) (w : World) (hg : ErrTab w) (h0 : w.cell? ⟨e, 0, none⟩ = some (.int .i64 c)) (h1 : w.cell? ⟨e, 1, none⟩ = some (.int .i64 p)) (h2 : w.cell? ⟨e, 2, none⟩ = some (.int .i64 i)) :
    Calls Tryz.prog 35 #[.iface 104 (.pointer (some ⟨e, 0, none⟩))] w fun ev w' => ev = .returned (.agg #[.int .i64 c, .int .i64 p, .int .i64 i]) ∧ Below w.heap.size w w' := by
  obtain ⟨R, hR⟩ : ∃ x, x = w.heap.size := ⟨_, rfl⟩
  obtain ⟨T, hT⟩ : ∃ x, x = w.heap.size + 1 := ⟨_, rfl⟩
  obtain ⟨w2, hw2⟩ : ∃ z, z = (w.alloc (.cells #[.int .i64 0, .int .i64 0, .int .i64 0] 85)).alloc (.cells #[.pointer none] 104) := ⟨_, rfl⟩
  have hn := new_alloc (w.alloc (.cells #[.int .i64 0, .int .i64 0, .int .i64 0] 85)) (.cells #[.pointer none] 104)
  have hs : (w.alloc (.cells #[.int .i64 0, .int .i64 0, .int .i64 0] 85)).heap.size = w.heap.size + 1 := by simp
  have HN2 : Aside (Below w.heap.size w w2) := by rw [hw2]; exact new_trans (new_alloc _ _) (new_alloc _ _)
  have HR : Aside (w2.heap[R]? = some (.cells #[.int .i64 0, .int .i64 0, .int .i64 0] 85 (0, 0))) := by rw [hw2, hR]; exact whole_new (heap_new _ _) hn
  have HTC : Aside (w2.cell? ⟨T, 0, none⟩ = some (.pointer none) ∧ w2.frozen? ⟨T, 0, none⟩ = false) := by
    have c := cell_new (w.alloc (.cells #[.int .i64 0, .int .i64 0, .int .i64 0] 85)) #[.pointer none] 104 0
    have f := frozen_new (w.alloc (.cells #[.int .i64 0, .int .i64 0, .int .i64 0] 85)) #[.pointer none] 104 0
    rw [hs] at c f
    rw [hw2, hT]
    exact ⟨c, f⟩
  have HG := aside (hg.on HN2.out)
  have hel : e < w.heap.size := cell_lt h0
  have HNE : Aside (R ≠ T ∧ e ≠ T ∧ e ≠ R ∧ w.heap.size ≤ R ∧ w.heap.size ≤ T) := by refine ⟨by omega, by omega, by omega, by omega, by omega⟩
  have H0 : Aside (w2.cell? ⟨e, 0, none⟩ = some (.int .i64 c)) := (HN2.out.cell (p := ⟨e, 0, none⟩) hel).trans h0
  have H1 : Aside (w2.cell? ⟨e, 1, none⟩ = some (.int .i64 p)) := (HN2.out.cell (p := ⟨e, 1, none⟩) hel).trans h1
  have H2 : Aside (w2.cell? ⟨e, 2, none⟩ = some (.int .i64 i)) := (HN2.out.cell (p := ⟨e, 2, none⟩) hel).trans h2
  clear hg h0 h1 h2 hn hs hel
  go_enter Tryz.func35, Tryz.ntmps35
  go_wp2_with fail
  rw [← hw2, ← hT, ← hR]
  clear hw2 hT hR
  refine (as_hit ⟨e, 0, none⟩ ⟨T, 0, none⟩ (.pointer none) w2 HG.out HTC.out.1 HTC.out.2).mono ?_
  rintro ev w3 ⟨rfl, hw3⟩
  have hb3 : ∃ w4, Below w2.heap.size w2 w4 ∧ w3 = w4.setCell ⟨T, 0, none⟩ (.pointer (some ⟨e, 0, none⟩)) :=
    ⟨_, new_trans (new_trans (new_trans (new_alloc _ _) (new_alloc _ _)) (new_alloc _ _)) (new_alloc _ _), hw3⟩
  clear hw3
  obtain ⟨w4, hb4, hw3⟩ := hb3
  have hk3 : Keeps (· ≠ T) w2 w3 := by rw [hw3]; exact (keeps_of_new hb4 _).setCell (p := ⟨T, 0, none⟩) (.inr (fun h => h rfl)) _
  have cT : w3.cell? ⟨T, 0, none⟩ = some (.pointer (some ⟨e, 0, none⟩)) := by rw [hw3]; exact World.cell?_setCell_same _ _ _ ((hb4.cell (cell_lt HTC.out.1)).trans HTC.out.1)
  have c0 := cell_keeps H0.out hk3 HNE.out.2.1
  have c1 := cell_keeps H1.out hk3 HNE.out.2.1
  have c2 := cell_keeps H2.out hk3 HNE.out.2.1
  have HR3 := aside (whole_keeps HR.out hk3 HNE.out.1)
  have r0 : w3.cell? ⟨R, 0, none⟩ = some (.int .i64 0) := cell_whole HR3.out 0
  have r1 : w3.cell? ⟨R, 1, none⟩ = some (.int .i64 0) := cell_whole HR3.out 1
  have r2 : w3.cell? ⟨R, 2, none⟩ = some (.int .i64 0) := cell_whole HR3.out 2
  have q0 := frozen_whole HR3.out 0
  have q1 := frozen_whole HR3.out 1
  have q2 := frozen_whole HR3.out 2
  have HB3 : Aside (Below w.heap.size w w3) := new_of_keeps HN2.out hk3 HNE.out.2.2.2.2
  have HF : Aside (Below w.heap.size w _) := ((HB3.out.setCell (p := ⟨R, 0, none⟩) HNE.out.2.2.2.1 (.int .i64 c)).setCell (p := ⟨R, 1, none⟩) HNE.out.2.2.2.1 (.int .i64 p)).setCell (p := ⟨R, 2, none⟩) HNE.out.2.2.2.1 (.int .i64 i)
  clear hb4 hw3 hk3
  go_wp2_with fail
  refine bodyPost_ret (v := .agg #[.int .i64 c, .int .i64 p, .int .i64 i]) ?_ rfl ⟨rfl, HF.out⟩
  simp [results, Tryz.results35, go_sem, r0, r1, r2]
end Go.Proofs.YtfnekbfcndkjeaaGreatDoor
