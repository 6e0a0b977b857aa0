/- Small laws for ChainWatches: a byte that is turned, two sums held against each other, bytes as texts. -/
import Derived.Test.YtkpmcjfolncmmaaDoorMEnt1
import Derived.Laws.BytesArg
set_option linter.all false
namespace Go.Proofs.YtkpmcjfolncmmaaDoor
open Go.RowKit

theorem xor_by (x b : Int) (hx : 0 ≤ x ∧ x ≤ 255) (hb : 1 ≤ b ∧ b ≤ 255) : (0 ≤ bits .xor .u8 x b ∧ bits .xor .u8 x b ≤ 255) ∧ bits .xor .u8 x b ≠ x := by
  obtain ⟨m, rfl⟩ := Int.eq_ofNat_of_zero_le hx.1
  obtain ⟨n, rfl⟩ := Int.eq_ofNat_of_zero_le (show 0 ≤ b by omega)
  have e : bits .xor .u8 (m : Int) (n : Int) = IntKind.u8.wrap ((BitVec.ofInt 8 m ^^^ BitVec.ofInt 8 n).toNat : Int) := rfl
  have hlt := (BitVec.ofInt 8 (m : Int) ^^^ BitVec.ofInt 8 (n : Int)).isLt
  have hw : IntKind.u8.wrap ((BitVec.ofInt 8 (m : Int) ^^^ BitVec.ofInt 8 (n : Int)).toNat : Int) = ((BitVec.ofInt 8 (m : Int) ^^^ BitVec.ofInt 8 (n : Int)).toNat : Int) := by
    rw [IntKind.wrap_u8]
    omega
  rw [e, hw]
  refine ⟨by omega, fun h => ?_⟩
  have hm : (BitVec.ofInt 8 (m : Int)).toNat = m := by simp; omega
  have hn : (BitVec.ofInt 8 (n : Int)).toNat = n := by simp; omega
  have h1 : BitVec.ofInt 8 (m : Int) ^^^ BitVec.ofInt 8 (n : Int) = BitVec.ofInt 8 (m : Int) := by
    apply BitVec.eq_of_toNat_eq
    rw [hm]
    omega
  have h2 : BitVec.ofInt 8 (n : Int) = 0#8 := by
    have := congrArg (fun z => BitVec.ofInt 8 (m : Int) ^^^ z) h1
    simpa [← BitVec.xor_assoc] using this
  rw [h2] at hn
  simp at hn
  omega

theorem digest_get (z : S8) (j : Nat) (hj : j < 32) : (digestA z)[j]? = some (.int .u8 (dgB z j)) := by
  rw [digestA, Array.getElem?_ofFn, dif_pos hj]
/-- '==' of two sums. -/
theorem sums_eql (F : S8) (K : Nat → Int) (s t : ByteArray) (w : World) : (binOp .eql 48 (.agg (digestA (sumS K F s))) (.agg (digestA (sumS K F t)))).run Tryd.prog w = .ok (.bool (decide (sumB K F s = sumB K F t))) w := by
  rw [eqDig _ _ (dgB (sumS K F s)) (dgB (sumS K F t)) (fun j hj => digest_get _ j hj) (fun j hj => digest_get _ j hj) w]
  congr 2
  apply decide_eq_decide.2
  constructor
  · intro h
    rw [sumB, sumB]
    congr 1
    exact seg_congr _ _ _ _ _ fun i hi => by rw [Nat.zero_add]; exact h i (List.mem_range.2 hi)
  · intro h j hj
    have hj32 := List.mem_range.1 hj
    rw [← sumB_byte K F s j hj32, ← sumB_byte K F t j hj32, h]

/-- Some bytes of a row as a text. -/
theorem bytes_cut (b : Nat) (t : ByteArray) (o n cap : Nat) (hn : o + n ≤ t.size) (w : World) (h : BytAt w b (numsOf t)) : (convert 46 9 (.slice (some ⟨b, o, none⟩) n cap)).run Tryd.prog w = .ok (.string (t.extract o (o + n))) w := by
  have e : strOfNums (((numsOf t).take (o + n)).drop o) = t.extract o (o + n) := by rw [← numsOf_extract, strOf_numsOf]
  rw [← e]
  refine run_convert_bytes_arg (P := Tryd.prog) (w := w) 46 5 Tryd.underlying46 Tryd.underlying5 b o n cap (((numsOf t).take (o + n)).drop o) ?_ (fun i hi => ?_) 9 Tryd.underlying9
  · rw [List.length_drop, List.length_take, numsOf_length]; omega
  · have := h.cell (o + i) (by rw [numsOf_length]; omega)
    rw [this, List.getD_eq_getElem?_getD, List.getD_eq_getElem?_getD, List.getElem?_drop, List.getElem?_take_of_lt (by omega)]

theorem wat_sum (p l u n : Nat) (hfit : p + 34 + l ≤ n) (hn : n ≤ 3000) : ∃ i1 j1 : Nat, (i1 = p + (2 + l + j1) ∧ j1 < 32) ∧ (u : Int) % 32 = (j1 : Int) ∧ (p : Int) + 2 + l + j1 = (i1 : Int) ∧ i1 < n ∧ wrap64 ((p : Int) + 2) = p + 2 ∧ wrap64 ((p : Int) + 2 + l) = p + 2 + l ∧ wrap64 (i1 : Int) = i1 := by
  refine ⟨p + (2 + l + u % 32), u % 32, ⟨rfl, by omega⟩, by omega, by omega, by omega, tick_id _ (by omega), tick_id _ (by omega), tick_id _ (by omega)⟩
theorem wat_body (p l u n : Nat) (hfit : p + 34 + l ≤ n) (hn : n ≤ 3000) (hl : 0 < l) : ∃ i2 j2 : Nat, (i2 = p + (2 + j2) ∧ j2 < l) ∧ (u : Int).tmod (l : Int) = (j2 : Int) ∧ (p : Int) + 2 + j2 = (i2 : Int) ∧ i2 < n ∧ wrap64 (i2 : Int) = i2 := by
  have h := Nat.mod_lt u hl
  refine ⟨p + (2 + u % l), u % l, ⟨rfl, h⟩, rfl, by omega, by omega, tick_id _ (by omega)⟩

/-- string(make([]byte, 32)). -/
theorem zeros_text (W : World) : (convert 46 9 (.slice (some ⟨W.heap.size, 0, none⟩) 32 32)).run Tryd.prog (W.alloc (.cells (madeCells #[.int .u8 0] 32) 5)) = .ok (.string zero32) (W.alloc (.cells (madeCells #[.int .u8 0] 32) 5)) := by
  refine run_convert_bytes_arg (P := Tryd.prog) _ 46 5 Tryd.underlying46 Tryd.underlying5 W.heap.size 0 32 32 (List.replicate 32 0) List.length_replicate (fun i hi => ?_) 9 Tryd.underlying9
  have e : madeCells #[.int .u8 0] 32 = Array.replicate 32 (.int .u8 0) := by kernel_rfl
  rw [Nat.zero_add, cell_new, rep_getD, e, Array.getElem?_replicate, if_pos hi]

end Go.Proofs.YtkpmcjfolncmmaaDoor
