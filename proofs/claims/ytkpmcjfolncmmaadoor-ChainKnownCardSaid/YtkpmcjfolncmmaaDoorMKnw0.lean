/- Slices of several records, built. -/
import Derived.Test.YtkpmcjfolncmmaaDoorMWrk1
set_option linter.all false
namespace Go.Proofs.YtkpmcjfolncmmaaDoor
open Go.RowKit

theorem fill_off (D : List Value) : ∀ (o : Nat) (pre Z post : List Value) (j : Nat), pre.length = o + j → Z.length = D.length →
    ((D.zipIdx j).foldl (fun (cs : Array Value) (x : Value × Nat) => cs.setIfInBounds (o + x.2) x.1) (pre ++ Z ++ post).toArray) = (pre ++ D ++ post).toArray := by
  induction D with
  | nil => intro o pre Z post j h hz; simp [List.eq_nil_of_length_eq_zero (by simpa using hz)]
  | cons x D ih =>
    intro o pre Z post j h hz
    cases Z with
    | nil => simp at hz
    | cons z Z =>
      rw [List.zipIdx_cons, List.foldl_cons]
      have e : ((pre ++ z :: Z ++ post).toArray.setIfInBounds (o + j) x) = ((pre ++ [x]) ++ Z ++ post).toArray := by
        rw [← h]
        simp [List.set_append]
      have := ih o (pre ++ [x]) Z post (j + 1) (by simp [h]; omega) (by simpa using hz)
      rw [show (o + ((x, j) : Value × Nat).2) = o + j from rfl]
      show ((D.zipIdx (j + 1)).foldl _ ((pre ++ z :: Z ++ post).toArray.setIfInBounds (o + j) x)) = _
      rw [e, this]
      simp

theorem fill_recs (rvs : List RecV) : ∀ (pre Z : List Value) (k : Nat), pre.length = k * 49 → Z.length = rvs.length * 49 →
    Instr.fill (fun i => some (i * 49, 49)) (pre ++ Z).toArray ((rvs.zipIdx k).map fun x => (x.2, Value.agg (recCells x.1))) = some (pre ++ rvs.flatMap fun r => (recCells r).toList).toArray := by
  induction rvs with
  | nil => intro pre Z k h hz; simp [List.eq_nil_of_length_eq_zero (by simpa using hz), Instr.fill]
  | cons r rvs ih =>
    intro pre Z k h hz
    have hz' : Z.length = rvs.length * 49 + 49 := by simpa [Nat.add_mul] using hz
    have hr : (recCells r).toList.length = 49 := by rw [Array.length_toList, recCells_size]
    obtain ⟨Z1, Z2, rfl, h1⟩ : ∃ Z1 Z2, Z = Z1 ++ Z2 ∧ Z1.length = 49 := ⟨Z.take 49, Z.drop 49, (List.take_append_drop 49 Z).symm, by rw [List.length_take]; omega⟩
    have h2 : Z2.length = rvs.length * 49 := by rw [List.length_append] at hz'; omega
    rw [List.zipIdx_cons, List.map_cons]
    have hc : (Value.agg (recCells r)).cells = recCells r := rfl
    simp only [Instr.fill, hc]
    rw [if_neg (by rw [recCells_size]; simp; omega)]
    have hf := fill_off (recCells r).toList (k * 49) pre Z1 Z2 0 (by omega) (by rw [h1, hr])
    rw [← Array.foldl_toList, Array.toList_zipIdx, ← List.append_assoc, hf]
    have := ih (pre ++ (recCells r).toList) Z2 (k + 1) (by rw [List.length_append, hr, h]; omega) h2
    rw [this]
    simp

theorem zeros_len (n : Nat) (c : Array Value) : ((Array.range n).map (c[· % c.size]!)).toList.length = n := by simp

theorem slice_of (n : Nat) (hn : ¬ n * 49 > 2 ^ 24) (h0 : ¬ n * 49 = 0) (l : List (Nat × Value)) (C : Array Value) (hf : Instr.fill (fun i => some (i * 49, 49)) ((Array.range (n * 49)).map ((recCells {})[· % (recCells {}).size]!)) l = some C) (w : World) :
    (Instr.buildSlice 26 n l.toArray).run Tryd.prog w = .ok (.slice (some ⟨w.heap.size, 0, none⟩) n n) (w.alloc (.cells C 57)) := by
  have u := Tryd.underlying26
  have hz : ∀ w, (zeroValue 57).run Tryd.prog w = .ok (.agg (recCells {})) w := fun w => by kernel_rfl
  have hs : ∀ w, (sizeOf 57).run Tryd.prog w = .ok 49 w := fun w => by kernel_rfl
  have hq : (Value.agg (recCells {})).cells = recCells {} := rfl
  simp only [Instr.buildSlice, Sem.run_bind, run_underlying u, Result.andThen_ok, hs]
  rw [if_neg hn, if_neg h0]
  simp only [Sem.run_bind, hz, Result.andThen_ok, Sem.run_pure, hq, hf]
  rfl

theorem recs_slice5 (r0 r1 r2 r3 r4 : RecV) (w : World) : (Instr.buildSlice 26 5 #[(0, .agg (recCells r0)), (1, .agg (recCells r1)), (2, .agg (recCells r2)), (3, .agg (recCells r3)), (4, .agg (recCells r4))]).run Tryd.prog w = .ok (.slice (some ⟨w.heap.size, 0, none⟩) 5 5) (w.alloc (.cells ([r0, r1, r2, r3, r4].flatMap fun r => (recCells r).toList).toArray 57)) := by
  have hf := fill_recs [r0, r1, r2, r3, r4] [] ((Array.range (5 * 49)).map ((recCells {})[· % (recCells {}).size]!)).toList 0 rfl (zeros_len _ _)
  rw [List.nil_append, List.nil_append, Array.toArray_toList] at hf
  exact slice_of 5 (by decide) (by decide) [(0, .agg (recCells r0)), (1, .agg (recCells r1)), (2, .agg (recCells r2)), (3, .agg (recCells r3)), (4, .agg (recCells r4))] _ hf w

theorem recs_slice16 (r0 r1 r2 r3 r4 r5 r6 r7 r8 r9 r10 r11 r12 r13 r14 r15 : RecV) (w : World) : (Instr.buildSlice 26 16 #[(0, .agg (recCells r0)), (1, .agg (recCells r1)), (2, .agg (recCells r2)), (3, .agg (recCells r3)), (4, .agg (recCells r4)), (5, .agg (recCells r5)), (6, .agg (recCells r6)), (7, .agg (recCells r7)), (8, .agg (recCells r8)), (9, .agg (recCells r9)), (10, .agg (recCells r10)), (11, .agg (recCells r11)), (12, .agg (recCells r12)), (13, .agg (recCells r13)), (14, .agg (recCells r14)), (15, .agg (recCells r15))]).run Tryd.prog w = .ok (.slice (some ⟨w.heap.size, 0, none⟩) 16 16) (w.alloc (.cells ([r0, r1, r2, r3, r4, r5, r6, r7, r8, r9, r10, r11, r12, r13, r14, r15].flatMap fun r => (recCells r).toList).toArray 57)) := by
  have hf := fill_recs [r0, r1, r2, r3, r4, r5, r6, r7, r8, r9, r10, r11, r12, r13, r14, r15] [] ((Array.range (16 * 49)).map ((recCells {})[· % (recCells {}).size]!)).toList 0 rfl (zeros_len _ _)
  rw [List.nil_append, List.nil_append, Array.toArray_toList] at hf
  exact slice_of 16 (by decide) (by decide) [(0, .agg (recCells r0)), (1, .agg (recCells r1)), (2, .agg (recCells r2)), (3, .agg (recCells r3)), (4, .agg (recCells r4)), (5, .agg (recCells r5)), (6, .agg (recCells r6)), (7, .agg (recCells r7)), (8, .agg (recCells r8)), (9, .agg (recCells r9)), (10, .agg (recCells r10)), (11, .agg (recCells r11)), (12, .agg (recCells r12)), (13, .agg (recCells r13)), (14, .agg (recCells r14)), (15, .agg (recCells r15))] _ hf w

theorem wpList_slices_by {P : Program} {ops : Array Oper} {rest : List Oper} {op : Oper} {a : Act} {w w1 : World} {Q : Exit → Act → World → Prop} (hgd : op.guard = none) (t : TypeId) (n : Nat) (l : List (Nat × Operand)) (ho : op.op = .buildSlice t n l.toArray)
    (ql : List (Nat × Value)) (hq : (l.map fun x => (x.1, a.eval x.2)) = ql) (v : Value) (hr : (Instr.buildSlice t n ql.toArray).run P w = .ok v w1)
    (h : wpList P ops Q rest (a.put op.dst v) w1) : wpList P ops Q (op :: rest) a w :=
  wpList_plain hgd fun _ hK => by
    subst hq
    unfold Oper.wp execOp
    simp only [ho]
    simp [hr]
    exact hK _ _ h

/-- A slice of records, just built. -/
theorem recs_new (rvs : List RecV) (ds : List RecD) (hl : rvs.length = ds.length) (h0 : 0 < ds.length) (w : World)
    (hat : ∀ j, j < ds.length → RecAt (w.alloc (.cells (rvs.flatMap fun r => (recCells r).toList).toArray 57)) (rvs.getD j {}) (ds.getD j {})) :
    RecsAt (w.alloc (.cells (rvs.flatMap fun r => (recCells r).toList).toArray 57)) (.slice (some ⟨w.heap.size, 0, none⟩) ds.length ds.length) ds := by
  refine ⟨_, ds.length, fun j => rvs.getD j {}, rfl, Nat.le_refl _, fun _ => ⟨w.heap.size, 0, rfl, by simp, fun j hj i v hv => ?_⟩, hat⟩
  have hi : i < 49 := by
    have := (List.getElem?_eq_some_iff.1 hv).1
    rw [Array.length_toList, recCells_size] at this
    exact this
  have := flat49 rvs j i hi
  rw [if_pos (by omega), hv] at this
  rw [Nat.zero_add, cell_new]
  simpa using this

end Go.Proofs.YtkpmcjfolncmmaaDoor
