/- ChainKnown's full record: what makes it, and where it lies. -/
import Derived.Test.YtkpmcjfolncmmaaDoorMKnw2
set_option linter.all false
namespace Go.Proofs.YtkpmcjfolncmmaaDoor
open Go.RowKit

theorem make_lots (W : World) : (Instr.makeSlice 51 (.int .i64 16) (.int .i64 16)).run Tryd.prog W = .ok (.slice (some ⟨W.heap.size, 0, none⟩) 16 16) (W.alloc (.cells (Array.replicate 32 (.int .i64 0)) 59)) := by
  kernel_rfl
theorem make_ints64 (W : World) : (Instr.makeSlice 52 (.int .i64 64) (.int .i64 64)).run Tryd.prog W = .ok (.slice (some ⟨W.heap.size, 0, none⟩) 64 64) (W.alloc (.cells (Array.replicate 64 (.int .i64 0)) 3)) := by
  kernel_rfl
def fullV (A B : Nat) : RecV := { kind := 1, carriers := 8, commit := 64, reveal := 64, scheme := 1, lots := .slice (some ⟨A, 0, none⟩) 16 16, owners := .slice (some ⟨B, 0, none⟩) 64 64 }
theorem build_full (A B : Nat) (w : World) : (Instr.build 57 #[(0, .int .i64 1), (10, .int .i64 8), (11, .int .i64 64), (12, .int .i64 64), (13, .int .i64 1), (14, .slice (some ⟨A, 0, none⟩) 16 16), (15, .slice (some ⟨B, 0, none⟩) 64 64)]).run Tryd.prog w = .ok (.agg (recCells (fullV A B))) w := by kernel_rfl

/-- What the full record's variable and rows hold. -/
structure FullIn (w wx : World) (X A B : Nat) : Prop where
  x : RecIn wx X (fullV A B)
  a : wx.heap[A]? = some (.cells (Array.replicate 32 (.int .i64 0)) 59 (0, 0))
  b : wx.heap[B]? = some (.cells (Array.replicate 64 (.int .i64 0)) 3 (0, 0))
  bel : Below w.heap.size w wx
  wa : w.heap.size ≤ A
  wb : w.heap.size ≤ B
  wx : w.heap.size ≤ X

theorem yields_build {ops : Array Oper} {S : World → Prop} {o : Oper} {a : Act} (hgd : Region.wanted o (yielded ops a.tmps) = true) (t : TypeId) (l : List (Nat × Operand)) (ho : o.op = .build t l.toArray) (ql : List (Nat × Value)) (hq : (l.map fun x => (x.1, a.eval x.2)) = ql) (v : Value)
    (hr : ∀ w, (Instr.build t ql.toArray).run Tryd.prog w = .ok v w) : YieldsIf Tryd.prog ops S o v a := Or.inl ⟨hgd, fun w _ => by
    subst hq
    have := hr w
    unfold execOp
    simp only [ho]
    simp [this]⟩
theorem step_build_by {ops : Array Oper} {o : Oper} {a : Act} {K : Act → World → Prop} {Q : Exit → Act → World → Prop} {E' : Prop} {w : World} (hgd : o.guard = none) (t : TypeId) (l : List (Nat × Operand)) (ho : o.op = .build t l.toArray) (ql : List (Nat × Value)) (hq : (l.map fun x => (x.1, a.eval x.2)) = ql) (v : Value)
    (hr : (Instr.build t ql.toArray).run Tryd.prog w = .ok v w) (h : K (a.put o.dst v) w) : if Region.wanted o (yielded ops a.tmps) = true then Oper.wp Tryd.prog o a w K Q else E' := by
  rw [if_pos (by simp [Region.wanted, hgd])]
  subst hq
  unfold Oper.wp execOp
  simp only [ho]
  simp [hr]
  exact h
theorem full_info {A B : Nat} : (Tryd.prog.info? 57).map (·.size) = some (recCells (fullV A B)).size := by rw [recCells_size]; kernel_rfl
theorem full_one {A B : Nat} : (recCells (fullV A B)).all (·.oneCell') = true := recCells_one _ rfl rfl rfl
theorem three_allocs (w : World) (a b c : Array Value) (s t u : TypeId) : (((w.alloc (.cells a s)).alloc (.cells b t)).alloc (.cells c u)).drew.heap[w.heap.size]? = some (.cells a s (0, 0)) ∧ (((w.alloc (.cells a s)).alloc (.cells b t)).alloc (.cells c u)).drew.heap[w.heap.size + 1]? = some (.cells b t (0, 0)) ∧ (((w.alloc (.cells a s)).alloc (.cells b t)).alloc (.cells c u)).drew.heap[w.heap.size + 1 + 1]? = some (.cells c u (0, 0)) ∧ Below w.heap.size w (((w.alloc (.cells a s)).alloc (.cells b t)).alloc (.cells c u)).drew := by
  obtain ⟨w1, hw1⟩ : ∃ z, z = w.alloc (.cells a s) := ⟨_, rfl⟩
  have n1 : Below w.heap.size w w1 := by rw [hw1]; exact new_alloc _ _
  have b1 : w1.heap[w.heap.size]? = some (.cells a s (0, 0)) := by rw [hw1]; exact heap_new _ _
  have s1 : w1.heap.size = w.heap.size + 1 := by rw [hw1]; simp
  rw [← hw1]
  obtain ⟨w2, hw2⟩ : ∃ z, z = w1.alloc (.cells b t) := ⟨_, rfl⟩
  have n2 : Below w1.heap.size w1 w2 := by rw [hw2]; exact new_alloc _ _
  have b2 : w2.heap[w.heap.size + 1]? = some (.cells b t (0, 0)) := by rw [hw2, ← s1]; exact heap_new _ _
  have s2 : w2.heap.size = w.heap.size + 1 + 1 := by rw [hw2]; simp [s1]
  rw [← hw2]
  have n3 := new_alloc w2 (.cells c u)
  have b3 : (w2.alloc (.cells c u)).heap[w.heap.size + 1 + 1]? = some (.cells c u (0, 0)) := by rw [← s2]; exact heap_new _ _
  have n4 := new_drew (w2.alloc (.cells c u))
  exact ⟨whole_new (whole_new (whole_new b1 n2) n3) n4, whole_new (whole_new b2 n3) n4, whole_new b3 n4, new_trans (new_trans (new_trans n1 n2) n3) n4⟩
theorem full_in {w W : World} {X A B : Nat} (hx : RecIn W X {}) (ha : W.heap[A]? = some (.cells (Array.replicate 32 (.int .i64 0)) 59 (0, 0))) (hb : W.heap[B]? = some (.cells (Array.replicate 64 (.int .i64 0)) 3 (0, 0))) (hbel : Below w.heap.size w W)
    (hA : A ≠ X) (hB : B ≠ X) (wa : w.heap.size ≤ A) (wb : w.heap.size ≤ B) (wx : w.heap.size ≤ X) : FullIn w (W.setRow X (recCells (fullV A B))) X A B := by
  have hk : Keeps (· ≠ X) W (W.setRow X (recCells (fullV A B))) := keeps_setRow W X _ (fun h => h rfl)
  exact ⟨hx.setRow _, whole_keeps ha hk hA, whole_keeps hb hk hB, new_of_keeps hbel hk wx, wa, wb, wx⟩

/-- The full record, its last lot and its last owner laid. -/
theorem full_at {w wc : World} {X A B : Nat} (h : FullIn w wc X A B) (w4 : World) (e : w4 = ((wc.setCell ⟨A, 30, none⟩ (.int .i64 63)).setCell ⟨A, 31, none⟩ (.int .i64 16777216)).setCell ⟨B, 63, none⟩ (.int .i64 7)) :
    RecIn w4 X (fullV A B) ∧ RecAt w4 (fullV A B) fullD ∧ Below w.heap.size w w4 := by
  have hx := h.x
  unfold RecIn at hx
  have hXA : X ≠ A := fun q => by subst q; have := h.a; rw [hx] at this; simp at this
  have hXB : X ≠ B := fun q => by subst q; have := h.b; rw [hx] at this; simp at this
  have hAB : A ≠ B := fun q => by subst q; have h1 := h.a; have h2 := h.b; rw [h1] at h2; simp at h2
  have hk : Keeps (fun k => k ≠ A ∧ k ≠ B) wc w4 := by
    rw [e]
    exact (((Keeps.refl _ _).setCell (p := ⟨A, 30, none⟩) (.inr (fun h => h.1 rfl)) _).setCell (p := ⟨A, 31, none⟩) (.inr (fun h => h.1 rfl)) _).setCell (p := ⟨B, 63, none⟩) (.inr (fun h => h.2 rfl)) _
  have hA : ∀ i, i < 30 → w4.cell? ⟨A, i, none⟩ = some (.int .i64 0) := fun i hi => by
    rw [e, World.cell?_setCell_other _ _ _ _ (by simp <;> omega), World.cell?_setCell_other _ _ _ _ (by simp <;> omega), World.cell?_setCell_other _ _ _ _ (by simp <;> omega), cell_whole h.a i, Array.getElem?_replicate, if_pos (by omega)]
  have h30 : w4.cell? ⟨A, 30, none⟩ = some (.int .i64 63) := by
    rw [e, World.cell?_setCell_other _ _ _ _ (by simp <;> omega), World.cell?_setCell_other _ _ _ _ (by simp)]
    exact World.cell?_setCell_same _ _ _ (cell_whole h.a 30)
  have h31 : w4.cell? ⟨A, 31, none⟩ = some (.int .i64 16777216) := by
    rw [e, World.cell?_setCell_other _ _ _ _ (by simp <;> omega)]
    exact World.cell?_setCell_same _ _ _ ((World.cell?_setCell_other _ _ _ _ (by simp)).trans (cell_whole h.a 31))
  have hB : ∀ i, i < 63 → w4.cell? ⟨B, i, none⟩ = some (.int .i64 0) := fun i hi => by
    rw [e, World.cell?_setCell_other _ _ _ _ (by simp <;> omega), World.cell?_setCell_other _ _ _ _ (by simp <;> omega), World.cell?_setCell_other _ _ _ _ (by simp <;> omega), cell_whole h.b i, Array.getElem?_replicate, if_pos (by omega)]
  have h63 : w4.cell? ⟨B, 63, none⟩ = some (.int .i64 7) := by
    rw [e]
    exact World.cell?_setCell_same _ _ _ ((World.cell?_setCell_other _ _ _ _ (by simp <;> omega)).trans ((World.cell?_setCell_other _ _ _ _ (by simp <;> omega)).trans (cell_whole h.b 63)))
  have hl : ∀ j, j < 15 → fullD.lots.getD j (0, 0) = (0, 0) := by decide
  have ho : ∀ j, j < 63 → fullD.owners.getD j 0 = 0 := by decide
  refine ⟨h.x.keeps hk ⟨hXA, hXB⟩, ⟨.slice none 0 0, .slice (some ⟨A, 0, none⟩) 16 16, .slice (some ⟨B, 0, none⟩) 64 64, by simp only [fullV, fullD, RecD.toV, rep_getD], RowI.nil _, ?_, ?_⟩, ?_⟩
  · refine ⟨_, 16, rfl, Nat.le_refl _, fun _ => ⟨A, 0, rfl, cell_lt h30, fun j hj => ?_⟩⟩
    have hj16 : j < 16 := hj
    rw [Nat.zero_add]
    by_cases q : j = 15
    · subst q; exact ⟨h30, h31⟩
    · rw [hl j (by omega)]; exact ⟨hA _ (by omega), hA _ (by omega)⟩
  · refine ⟨_, 64, rfl, Nat.le_refl _, fun _ => ⟨B, 0, rfl, cell_lt h63, fun j hj => ?_⟩⟩
    have hj64 : j < 64 := hj
    rw [Nat.zero_add]
    by_cases q : j = 63
    · subst q; exact h63
    · rw [ho j (by omega)]; exact hB _ (by omega)
  · rw [e]
    exact ((h.bel.setCell (p := ⟨A, 30, none⟩) h.wa _).setCell (p := ⟨A, 31, none⟩) h.wa _).setCell (p := ⟨B, 63, none⟩) h.wb _

/-- A slice of records at a known place. -/
theorem RecsAt.lit {w : World} {lb lo n cap : Nat} {ds : List RecD} (h : RecsAt w (.slice (some ⟨lb, lo, none⟩) n cap) ds) (hn : ds.length = n) (h0 : 0 < n) : ∃ rvs : Nat → RecV, (lb < w.heap.size ∧ ∀ j, j < n → w.rangeAt lb (lo + j * 49) (recCells (rvs j)).toList) ∧ ∀ j, j < n → RecAt w (rvs j) (ds.getD j {}) := by
  obtain ⟨a, cap', rvs, e, _, h1, h2⟩ := h
  obtain ⟨rfl, rfl, rfl⟩ := Value.slice.inj e
  obtain ⟨lb', lo', e', hl, hj⟩ := h1 h0
  obtain ⟨rfl, rfl, _⟩ := Addr.mk.inj (Option.some.inj e')
  exact ⟨rvs, ⟨hl, hj⟩, h2⟩

theorem RecsF.form {B : Nat} {w : World} {v : Value} {ds : List RecD} (h : RecsF B w v ds) : ∃ a c, v = .slice a ds.length c := by
  obtain ⟨_, _, h2, _⟩ := h
  obtain ⟨a, cap, e, _⟩ := ownsRow_form h2
  exact ⟨a, cap, e⟩

/-- The cells of a sum as Go has it. -/
def sumCells (s : ByteArray) : Array Value := ((List.range 32).map fun j => Value.int .u8 (byteOf s j)).toArray
def zero32A : Array Value := Array.replicate 32 (.int .u8 0)
theorem sumCells_zero : sumCells zero32 = zero32A := by
  apply Array.ext_getElem?
  intro j
  rw [zero32A, Array.getElem?_replicate]
  by_cases h : j < 32
  · rw [if_pos h, sumCells]
    simp [h, zero32_byte]
  · rw [if_neg h, sumCells]
    simp [h]
theorem zero_eql (w : World) : (binOp .eql 48 (.agg (sumCells zero32)) (.agg #[.int .u8 0, .int .u8 0, .int .u8 0, .int .u8 0, .int .u8 0, .int .u8 0, .int .u8 0, .int .u8 0, .int .u8 0, .int .u8 0, .int .u8 0, .int .u8 0, .int .u8 0, .int .u8 0, .int .u8 0, .int .u8 0, .int .u8 0, .int .u8 0, .int .u8 0, .int .u8 0, .int .u8 0, .int .u8 0, .int .u8 0, .int .u8 0, .int .u8 0, .int .u8 0, .int .u8 0, .int .u8 0, .int .u8 0, .int .u8 0, .int .u8 0, .int .u8 0])).run Tryd.prog w = .ok (.bool true) w := by
  rw [sumCells_zero]
  exact eqDig zero32A zero32A (fun _ => 0) (fun _ => 0) (fun j hj => by rw [zero32A, Array.getElem?_replicate, if_pos hj]) (fun j hj => by rw [zero32A, Array.getElem?_replicate, if_pos hj]) w
theorem digest_size : (Tryd.prog.info? 48).map (·.size) = some 32 := by kernel_rfl
theorem sum_info {s : ByteArray} : (Tryd.prog.info? 48).map (·.size) = some (sumCells s).size := by
  have : (sumCells s).size = 32 := by simp [sumCells]
  rw [this]
  exact digest_size
theorem sum_one (s : ByteArray) : (sumCells s).all (·.oneCell') = true := by
  rw [Array.all_eq_true_iff_forall_mem]
  intro x hx
  simp [sumCells] at hx
  obtain ⟨j, _, rfl⟩ := hx
  rfl

set_option maxHeartbeats 1000000 in
set_option maxRecDepth 100000 in
theorem last_log (b : Nat) (t s : ByteArray) (n : Int) (w : World) (h : LogAt w b t s n) : Calls Tryd.prog 21 #[.pointer (some ⟨b, 0, none⟩)] w fun e w' => e = .returned (.agg (sumCells s)) ∧ Below w.heap.size w w' := by
  obtain ⟨D, hD⟩ : ∃ x, x = w.heap.size := ⟨_, rfl⟩
  obtain ⟨w1, hw1⟩ : ∃ z, z = w.alloc (.cells zero32A 48) := ⟨_, rfl⟩
  have HN1 : Aside (Below w.heap.size w w1) := by rw [hw1]; exact new_alloc _ _
  have HD1 : Aside (w1.heap[D]? = some (.cells zero32A 48 (0, 0))) := by rw [hw1, hD]; exact heap_new _ _
  have hrg : w1.rangeAt b 0 (sumCells s).toList := fun j v hv => by
    have hj : j < 32 := by have := (List.getElem?_eq_some_iff.1 hv).1; simpa [sumCells] using this
    rw [Nat.zero_add, (h.on HN1.out).sum.cell j hj, ← hv]
    simp [sumCells, hj]
  have HRG := aside hrg
  have HDW : Aside (w.heap.size ≤ D) := Nat.le_of_eq hD.symm
  clear hrg h
  go_enter Tryd.func21, Tryd.ntmps21
  go_upto_region 1 with fail
  rw [show (#[.int .u8 0, .int .u8 0, .int .u8 0, .int .u8 0, .int .u8 0, .int .u8 0, .int .u8 0, .int .u8 0, .int .u8 0, .int .u8 0, .int .u8 0, .int .u8 0, .int .u8 0, .int .u8 0, .int .u8 0, .int .u8 0, .int .u8 0, .int .u8 0, .int .u8 0, .int .u8 0, .int .u8 0, .int .u8 0, .int .u8 0, .int .u8 0, .int .u8 0, .int .u8 0, .int .u8 0, .int .u8 0, .int .u8 0, .int .u8 0, .int .u8 0, .int .u8 0] : Array Value) = zero32A from rfl, ← hw1, ← hD]
  clear hw1 hD
  obtain ⟨cs, hcs⟩ : ∃ c, c = (sumCells s).toList := ⟨_, rfl⟩
  have hi1 : (Tryd.prog.info? 48).map (·.size) = some cs.length := by rw [hcs, Array.length_toList]; exact sum_info
  have HCS : Aside (cs.toArray = sumCells s) := by rw [Aside, hcs, Array.toArray_toList]
  rw [← hcs] at HRG
  clear hcs
  go_wp2_with (first
    | (refine wpList_load_midG (by rfl) _ _ rfl b 0 rfl _ _ HRG.out Tryd.underlying48 rfl hi1 (sumCells s) HCS.out ?_)
    | (refine wpList_store_row rfl _ _ _ rfl D (sumCells s) rfl rfl 48 _ HD1.out sum_info (by simp [zero32A, sumCells]) (sum_one s) ?_)
    | fail)
  refine bodyPost_ret (results_cell_row rfl _ _ D 48 (sumCells s) (0, 0) _ rfl (setRow_heap w1 D _ _ _ _ HD1.out) Tryd.underlying48 rfl sum_info) rfl ⟨rfl, ?_⟩
  exact new_of_keeps HN1.out (keeps_setRow w1 D _ (fun h => h rfl)) HDW.out

set_option maxHeartbeats 1000000 in
set_option maxRecDepth 100000 in
theorem last_nil (w : World) : Calls Tryd.prog 21 #[.pointer none] w fun e w' => e = .returned (.agg (sumCells zero32)) ∧ Below w.heap.size w w' := by
  obtain ⟨D, hD⟩ : ∃ x, x = w.heap.size := ⟨_, rfl⟩
  obtain ⟨w1, hw1⟩ : ∃ z, z = w.alloc (.cells zero32A 48) := ⟨_, rfl⟩
  have HN1 : Aside (Below w.heap.size w w1) := by rw [hw1]; exact new_alloc _ _
  have HD1 : Aside (w1.heap[D]? = some (.cells zero32A 48 (0, 0))) := by rw [hw1, hD]; exact heap_new _ _
  have HDW : Aside (w.heap.size ≤ D) := Nat.le_of_eq hD.symm
  have HZ : Aside (sumCells zero32 = zero32A) := sumCells_zero
  have hone : zero32A.all (·.oneCell') = true := by rw [← sumCells_zero]; exact sum_one _
  have hi1 : (Tryd.prog.info? 48).map (·.size) = some zero32A.size := by rw [← sumCells_zero]; exact sum_info
  go_enter Tryd.func21, Tryd.ntmps21
  go_upto_region 1 with fail
  rw [show (#[.int .u8 0, .int .u8 0, .int .u8 0, .int .u8 0, .int .u8 0, .int .u8 0, .int .u8 0, .int .u8 0, .int .u8 0, .int .u8 0, .int .u8 0, .int .u8 0, .int .u8 0, .int .u8 0, .int .u8 0, .int .u8 0, .int .u8 0, .int .u8 0, .int .u8 0, .int .u8 0, .int .u8 0, .int .u8 0, .int .u8 0, .int .u8 0, .int .u8 0, .int .u8 0, .int .u8 0, .int .u8 0, .int .u8 0, .int .u8 0, .int .u8 0, .int .u8 0] : Array Value) = zero32A from rfl, ← hw1, ← hD]
  clear hw1 hD
  go_wp2_with (first
    | (refine wpList_store_row rfl _ _ _ rfl D zero32A rfl rfl 48 _ HD1.out hi1 rfl hone ?_)
    | fail)
  refine bodyPost_ret (results_cell_row rfl _ _ D 48 zero32A (0, 0) _ rfl (setRow_heap w1 D _ _ _ _ HD1.out) Tryd.underlying48 rfl hi1) rfl ⟨by rw [HZ.out], ?_⟩
  exact new_of_keeps HN1.out (keeps_setRow w1 D _ (fun h => h rfl)) HDW.out

end Go.Proofs.YtkpmcjfolncmmaaDoor
