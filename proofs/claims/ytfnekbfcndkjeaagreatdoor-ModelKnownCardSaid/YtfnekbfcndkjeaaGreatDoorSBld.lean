/- Records that are built of a few fields. -/
import Derived.Test.YtfnekbfcndkjeaaGreatDoorSMay1
import Derived.Test.YtfnekbfcndkjeaaGreatDoorSPln1
import Derived.Laws.BitsAllLaws
import Derived.ChangeKeysEq
import Derived.Laws.StructEq
import Derived.Deep.MidRow
set_option linter.all false
namespace Go.Proofs.YtfnekbfcndkjeaaGreatDoor
open Go.RowKit
theorem or64_in (a b : Int) : -9223372036854775808 ≤ bits .or .i64 a b ∧ bits .or .i64 a b ≤ 9223372036854775807 := by
  show -9223372036854775808 ≤ IntKind.i64.wrap _ ∧ IntKind.i64.wrap _ ≤ 9223372036854775807
  simp only [IntKind.wrap_i64]
  omega
theorem or64 (a b : Int) (ha : -9223372036854775808 ≤ a ∧ a ≤ 9223372036854775807) (hb : -9223372036854775808 ≤ b ∧ b ≤ 9223372036854775807) : bits .or .i64 a b = 0 ↔ a = 0 ∧ b = 0 := by
  have e : bits .or .i64 a b = IntKind.i64.wrap ((BitVec.ofInt 64 a ||| BitVec.ofInt 64 b).toNat : Int) := rfl
  have h0 : ∀ x : Int, -9223372036854775808 ≤ x ∧ x ≤ 9223372036854775807 → (BitVec.ofInt 64 x = 0#64 ↔ x = 0) := by
    intro x hx
    constructor
    · intro h
      have h1 := congrArg BitVec.toInt h
      rw [BitVec.toInt_ofInt_eq_self (by decide) (by simpa using hx.1) (by simp; omega)] at h1
      simpa using h1
    · rintro rfl; rfl
  have hz : ∀ r : BitVec 64, IntKind.i64.wrap (r.toNat : Int) = 0 ↔ r = 0#64 := by
    intro r
    have hr := r.isLt
    rw [IntKind.wrap_i64]
    constructor
    · intro h
      apply BitVec.eq_of_toNat_eq
      rw [BitVec.toNat_ofNat]
      omega
    · rintro rfl; decide
  rw [e, hz, BitVec.or_eq_zero_iff, h0 a ha, h0 b hb]
theorem oru64 (a b : Int) (ha : 0 ≤ a ∧ a ≤ 18446744073709551615) (hb : 0 ≤ b ∧ b ≤ 18446744073709551615) : bits .or .u64 a b = 0 ↔ a = 0 ∧ b = 0 := by
  rw [u64_or a b ha.1 (by omega) hb.1 (by omega)]
  constructor
  · intro h
    have h1 : a.toNat ||| b.toNat = 0 := by omega
    rw [Nat.or_eq_zero_iff] at h1
    omega
  · rintro ⟨rfl, rfl⟩; rfl
theorem new_of_keeps {L : Nat} {w w0 w1 : World} (h : Below w.heap.size w w0) (hk : Keeps (· ≠ L) w0 w1) (hL : w.heap.size ≤ L) : Below w.heap.size w w1 :=
  h.trans ((hk.mono (K' := (· < w.heap.size)) (fun k _ h => by omega)).below h.size)
theorem wpList_load_midG {P : Program} {ops : Array Oper} {rest : List Oper} {op : Oper} {a : Act} {w : World} {Q : Exit → Act → World → Prop} (hw : Region.wanted op (yielded ops a.tmps) = true) (ty : TypeId) (x : Operand) (ho : op.op = .load ty x)
    (b o : Nat) (hx : a.eval x = .pointer (some ⟨b, o, none⟩)) (cs : List Value) (d : TypeDesc) (hc : w.rangeAt b o cs)
    (hu : P.underlying ty = some d) (hd : d.isRow = true) (hi : (P.info? ty).map (·.size) = some cs.length) (ds : Array Value) (hds : cs.toArray = ds)
    (h : wpList P ops Q rest (a.put op.dst (.agg ds)) w) : wpList P ops Q (op :: rest) a w :=
  wpList_step fun K hK => by
    subst hds
    rw [if_pos hw]
    exact wp_load_mid ty x ho b o hx cs d hc hu hd hi (hK _ _ h)
theorem wpList_store_by {P : Program} {ops : Array Oper} {rest : List Oper} {op : Oper} {a : Act} {w w1 : World} {Q : Exit → Act → World → Prop} (hgd : op.guard = none) (ty : TypeId) (x y : Operand) (ho : op.op = .store ty x y)
    (p v : Value) (hx : a.eval x = p) (hy : a.eval y = v) (hr : (Instr.storeAt ty p v).run P w = .ok () w1)
    (h : wpList P ops Q rest (a.put op.dst undef) w1) : wpList P ops Q (op :: rest) a w :=
  wpList_plain hgd fun _ hK => by
    unfold Oper.wp execOp
    simp only [ho, hx, hy, Sem.run_bind, hr, Result.andThen_ok, Sem.run_pure]
    exact hK _ _ h
theorem eqDig (xs ys : Array Value) (f g : Nat → Int) (hx : ∀ j, j < 32 → xs[j]? = some (.int .u8 (f j))) (hy : ∀ j, j < 32 → ys[j]? = some (.int .u8 (g j))) (w : World) :
    (binOp .eql 43 (.agg xs) (.agg ys)).run Tryz.prog w = .ok (.bool (decide (∀ j ∈ List.range 32, f j = g j))) w := by
  have hu : Tryz.prog.underlying 43 = some (.array 32 5) := by kernel_rfl
  obtain ⟨i, hi⟩ : ∃ i, Tryz.prog.info? 5 = some i := Option.isSome_iff_exists.1 (by kernel_rfl)
  have hc : Tryz.prog.cellsOf 5 = 1 := by kernel_rfl
  have ag := Tryz.isAgg5
  have key : ∀ (is : List Nat), (∀ j ∈ is, j < 32) → (Op.eqItems 9999 5 1 xs ys is).run Tryz.prog w = .ok (decide (∀ j ∈ is, f j = g j)) w := by
    intro is
    induction is with
    | nil => intro _; simp [Op.eqItems]
    | cons j is ih =>
      intro hlt
      have hj := hlt j (by simp)
      have h1 : (part 5 xs (j * 1)).run Tryz.prog w = .ok (.int .u8 (f j)) w := by
        rw [Nat.mul_one]
        simp [part, ag, hx j hj]
      have h2 : (part 5 ys (j * 1)).run Tryz.prog w = .ok (.int .u8 (g j)) w := by
        rw [Nat.mul_one]
        simp [part, ag, hy j hj]
      have h3 : (Op.equalIn 9999 5 (.int .u8 (f j)) (.int .u8 (g j))).run Tryz.prog w = .ok (f j == g j) w := run_equalIn_int w 9998 5 .u8 .u8 (f j) (g j) Tryz.underlying5
      have ih2 := ih (fun k hk => hlt k (by simp [hk]))
      simp only [Op.eqItems, Sem.run_bind, h1, h2, h3, Result.andThen_ok]
      by_cases e : f j = g j
      · have eb : (f j == g j) = true := by simpa using e
        rw [eb]
        simp [ih2, e]
      · have eb : (f j == g j) = false := by simpa using e
        rw [eb]
        simp [e]
  rw [run_eql_struct, show (10000 : Nat) = 9999 + 1 from rfl, run_equalIn_array w 9999 xs ys hu hi, hc, key (List.range 32) (fun j hj => List.mem_range.1 hj)]
  simp only [Result.andThen_ok]
theorem RecIn.zeroDig : ∀ (n k : Nat) (w : World) (L : Nat) (r : RecV), k + n = 32 → RecIn w L r → RecIn (w.setCells L (6 + k) (List.replicate n (.int .u8 0))) L { r with dig := fun j => if k ≤ j then 0 else r.dig j }
  | 0, k, w, L, r, hk, h => by
    have e : recCells { r with dig := fun j => if k ≤ j then 0 else r.dig j } = recCells r := by
      have : k = 32 := by omega
      subst this
      rfl
    show w.heap[L]? = _
    rw [e]
    exact h
  | n + 1, k, w, L, r, hk, h => by
    rw [List.replicate_succ, World.setCells]
    have h1 := h.setDig k (by omega) 0
    have h2 := RecIn.zeroDig n (k + 1) _ L _ (by omega) h1
    have e : ∀ j, (if k + 1 ≤ j then (0 : Int) else upD r.dig k 0 j) = if k ≤ j then 0 else r.dig j := by
      intro j
      unfold upD
      by_cases a : k + 1 ≤ j
      · rw [if_pos a, if_pos (by omega)]
      · rw [if_neg a]
        by_cases b : j = k
        · rw [if_pos b, if_pos (by omega)]
        · rw [if_neg b, if_neg (by omega)]
    simp only [e] at h2
    exact h2
theorem RecIn.noDig {w : World} {L : Nat} {r : RecV} (h : RecIn w L r) : RecIn (w.setCells L 6 (List.replicate 32 (.int .u8 0))) L { r with dig := fun _ => 0 } := by
  have := RecIn.zeroDig 32 0 w L r rfl h
  simpa using this
theorem RecIn.there {w : World} {L : Nat} {r : RecV} (h : RecIn w L r) : w.there L 6 32 := fun j hj => ⟨by rw [h.dig j hj]; rfl, h.free _⟩
theorem zeroD_one : (#[.int .u8 0, .int .u8 0, .int .u8 0, .int .u8 0, .int .u8 0, .int .u8 0, .int .u8 0, .int .u8 0, .int .u8 0, .int .u8 0, .int .u8 0, .int .u8 0, .int .u8 0, .int .u8 0, .int .u8 0, .int .u8 0, .int .u8 0, .int .u8 0, .int .u8 0, .int .u8 0, .int .u8 0, .int .u8 0, .int .u8 0, .int .u8 0, .int .u8 0, .int .u8 0, .int .u8 0, .int .u8 0, .int .u8 0, .int .u8 0, .int .u8 0, .int .u8 0] : Array Value).all (·.oneCell') = true := by kernel_rfl
theorem zeroD_list : (#[.int .u8 0, .int .u8 0, .int .u8 0, .int .u8 0, .int .u8 0, .int .u8 0, .int .u8 0, .int .u8 0, .int .u8 0, .int .u8 0, .int .u8 0, .int .u8 0, .int .u8 0, .int .u8 0, .int .u8 0, .int .u8 0, .int .u8 0, .int .u8 0, .int .u8 0, .int .u8 0, .int .u8 0, .int .u8 0, .int .u8 0, .int .u8 0, .int .u8 0, .int .u8 0, .int .u8 0, .int .u8 0, .int .u8 0, .int .u8 0, .int .u8 0, .int .u8 0] : Array Value).toList = List.replicate 32 (.int .u8 0) := by kernel_rfl
theorem zeroD_size : (Tryz.prog.info? 43).map (·.size) = some (#[.int .u8 0, .int .u8 0, .int .u8 0, .int .u8 0, .int .u8 0, .int .u8 0, .int .u8 0, .int .u8 0, .int .u8 0, .int .u8 0, .int .u8 0, .int .u8 0, .int .u8 0, .int .u8 0, .int .u8 0, .int .u8 0, .int .u8 0, .int .u8 0, .int .u8 0, .int .u8 0, .int .u8 0, .int .u8 0, .int .u8 0, .int .u8 0, .int .u8 0, .int .u8 0, .int .u8 0, .int .u8 0, .int .u8 0, .int .u8 0, .int .u8 0, .int .u8 0] : Array Value).size := by kernel_rfl
theorem zeroD_get (j : Nat) (hj : j < 32) : (#[.int .u8 0, .int .u8 0, .int .u8 0, .int .u8 0, .int .u8 0, .int .u8 0, .int .u8 0, .int .u8 0, .int .u8 0, .int .u8 0, .int .u8 0, .int .u8 0, .int .u8 0, .int .u8 0, .int .u8 0, .int .u8 0, .int .u8 0, .int .u8 0, .int .u8 0, .int .u8 0, .int .u8 0, .int .u8 0, .int .u8 0, .int .u8 0, .int .u8 0, .int .u8 0, .int .u8 0, .int .u8 0, .int .u8 0, .int .u8 0, .int .u8 0, .int .u8 0] : Array Value)[j]? = some (.int .u8 0) := by
  rw [← Array.getElem?_toList, zeroD_list, List.getElem?_replicate, if_pos hj]
theorem store_zero {w : World} {L : Nat} {r : RecV} (h : RecIn w L r) : ∃ wz, (Instr.storeAt 43 (.pointer (some ⟨L, 6, none⟩)) (.agg #[.int .u8 0, .int .u8 0, .int .u8 0, .int .u8 0, .int .u8 0, .int .u8 0, .int .u8 0, .int .u8 0, .int .u8 0, .int .u8 0, .int .u8 0, .int .u8 0, .int .u8 0, .int .u8 0, .int .u8 0, .int .u8 0, .int .u8 0, .int .u8 0, .int .u8 0, .int .u8 0, .int .u8 0, .int .u8 0, .int .u8 0, .int .u8 0, .int .u8 0, .int .u8 0, .int .u8 0, .int .u8 0, .int .u8 0, .int .u8 0, .int .u8 0, .int .u8 0])).run Tryz.prog w = .ok () wz ∧ RecIn wz L { r with dig := fun _ => 0 } ∧ (∀ (a : World) (B : Nat), B ≤ L → Below B a w → Below B a wz) ∧ Keeps (· ≠ L) w wz := by
  refine ⟨w.setCells L 6 (List.replicate 32 (.int .u8 0)), ?_, h.noDig, fun a B hB hb => below_cells hB _ _ _ hb, ?_⟩
  · have := run_storeAt_mid (P := Tryz.prog) w L 6 43 #[.int .u8 0, .int .u8 0, .int .u8 0, .int .u8 0, .int .u8 0, .int .u8 0, .int .u8 0, .int .u8 0, .int .u8 0, .int .u8 0, .int .u8 0, .int .u8 0, .int .u8 0, .int .u8 0, .int .u8 0, .int .u8 0, .int .u8 0, .int .u8 0, .int .u8 0, .int .u8 0, .int .u8 0, .int .u8 0, .int .u8 0, .int .u8 0, .int .u8 0, .int .u8 0, .int .u8 0, .int .u8 0, .int .u8 0, .int .u8 0, .int .u8 0, .int .u8 0] h.there zeroD_size zeroD_one
    rw [zeroD_list] at this
    exact this
  · have : ∀ (vs : List Value) (o : Nat) (u : World), Keeps (· ≠ L) w u → Keeps (· ≠ L) w (u.setCells L o vs) := by
      intro vs
      induction vs with
      | nil => intro o u hu; exact hu
      | cons v vs ih => intro o u hu; exact ih _ _ (hu.setCell (p := ⟨L, o, none⟩) (.inr (fun e => e rfl)) v)
    exact this _ _ _ (Keeps.refl _ _)
theorem RecIn.digRange {w : World} {L : Nat} {r : RecV} (h : RecIn w L r) : w.rangeAt L 6 ((List.range 32).map fun j => .int .u8 (r.dig j)) := by
  intro j v hv
  by_cases hj : j < 32
  · rw [List.getElem?_map, List.getElem?_range hj] at hv
    rw [h.dig j hj]
    exact hv
  · rw [List.getElem?_eq_none (by simp; omega)] at hv
    cases hv
end Go.Proofs.YtfnekbfcndkjeaaGreatDoor
namespace Go.Proofs.YtfnekbfcndkjeaaGreatDoor
open Go.RowKit
theorem wpList_build_by {P : Program} {ops : Array Oper} {rest : List Oper} {op : Oper} {a : Act} {w : World} {Q : Exit → Act → World → Prop} (hgd : op.guard = none) (t : TypeId) (l : List (Nat × Operand)) (ho : op.op = .build t l.toArray)
    (ql : List (Nat × Value)) (hq : (l.map fun x => (x.1, a.eval x.2)) = ql) (v : Value) (hr : (Instr.build t ql.toArray).run P w = .ok v w)
    (h : wpList P ops Q rest (a.put op.dst v) w) : wpList P ops Q (op :: rest) a w :=
  wpList_plain hgd fun _ hK => by
    subst hq
    unfold Oper.wp execOp
    simp only [ho]
    simp [hr]
    exact hK _ _ h
end Go.Proofs.YtfnekbfcndkjeaaGreatDoor
namespace Go.Proofs.YtfnekbfcndkjeaaGreatDoor
open Go.RowKit
end Go.Proofs.YtfnekbfcndkjeaaGreatDoor
