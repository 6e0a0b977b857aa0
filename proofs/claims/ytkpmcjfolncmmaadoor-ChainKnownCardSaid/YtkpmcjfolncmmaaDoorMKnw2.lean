/- The records of ChainKnown: their data, what builds them; a log that is none. By program: gen/knw.py. -/
import Derived.Test.YtkpmcjfolncmmaaDoorMKnw0
set_option linter.all false
namespace Go.Proofs.YtkpmcjfolncmmaaDoor
open Go.RowKit

/-- A record's numbers are those of their types, as a Bool. -/
def okB (d : RecD) : Bool := decide (d.dig = List.replicate 32 0) && (decide ((-9223372036854775808 ≤ d.tick ∧ d.tick ≤ 9223372036854775807) ∧ (0 ≤ d.bid ∧ d.bid ≤ 18446744073709551615) ∧ (0 ≤ d.nonce ∧ d.nonce ≤ 18446744073709551615) ∧ (0 ≤ d.price ∧ d.price ≤ 18446744073709551615) ∧ (-9223372036854775808 ≤ d.kind ∧ d.kind ≤ 9223372036854775807) ∧ (-9223372036854775808 ≤ d.lot ∧ d.lot ≤ 9223372036854775807) ∧ (-9223372036854775808 ≤ d.carrier ∧ d.carrier ≤ 9223372036854775807) ∧ (-9223372036854775808 ≤ d.carriers ∧ d.carriers ≤ 9223372036854775807)) && decide ((-9223372036854775808 ≤ d.commit ∧ d.commit ≤ 9223372036854775807) ∧ (-9223372036854775808 ≤ d.reveal ∧ d.reveal ≤ 9223372036854775807) ∧ (-9223372036854775808 ≤ d.scheme ∧ d.scheme ≤ 9223372036854775807) ∧ d.barred.length + d.lots.length + d.owners.length ≤ 1099511627776))
theorem ok_of {d : RecD} (h : okB d = true) : d.ok := by
  unfold okB at h
  rw [Bool.and_eq_true, Bool.and_eq_true] at h
  have h1 := of_decide_eq_true h.1
  have h2 := of_decide_eq_true h.2.1
  have h3 := of_decide_eq_true h.2.2
  exact ⟨by rw [h1]; exact List.length_replicate, by rw [h1]; exact rep_bs, h2.1, h2.2.1, h2.2.2.1, h2.2.2.2.1, h2.2.2.2.2.1, h2.2.2.2.2.2.1, h2.2.2.2.2.2.2.1, h2.2.2.2.2.2.2.2, h3.1, h3.2.1, h3.2.2.1, h3.2.2.2⟩

def fullD : RecD := { kind := 1, carriers := 8, commit := 64, reveal := 64, scheme := 1, lots := List.replicate 15 (0, 0) ++ [(63, 16777216)], owners := List.replicate 63 0 ++ [7] }
theorem full_ok : fullD.ok := ok_of (by decide +kernel)
theorem full_may : mayB fullD = true := by decide +kernel
theorem full_size : (bytesF fullD).size = 151 := by kernel_rfl
def mayD : List RecD := [{ kind := 1, carriers := 1, commit := 1, reveal := 1 }, { kind := 2, round := 15, lot := 15, tick := 9223372036854775807, barred := [0, 1, 2, 3, 4, 5, 6, 7] }, { kind := 4, carrier := 7, bid := 4294967296, nonce := 18446744073709551615 }, { kind := 5, state := 4, winner := 7, price := 16777216 }, { kind := 6 }]
def noneD : List RecD := [{}, { kind := 7 }, { kind := 1, commit := 1, reveal := 1 }, { kind := 1, carriers := 1, commit := 65, reveal := 1 }, { kind := 1, carriers := 1, commit := 1, reveal := 1, tick := 1 }, { kind := 2, round := 16 }, { kind := 2, lot := 16 }, { kind := 2, barred := [1, 1] }, { kind := 2, barred := [8] }, { kind := 3, carrier := 8 }, { kind := 3, lot := 1 }, { kind := 4, bid := 4294967297 }, { kind := 5 }, { kind := 5, state := 3 }, { kind := 6, tick := -1 }, { kind := 6, round := 1 }]
theorem may_all : AllMay mayD := by
  have h : (mayD.all fun d => mayB d && okB d) = true := by decide +kernel
  intro d hd
  have := List.all_eq_true.1 h d hd
  rw [Bool.and_eq_true] at this
  exact ⟨this.1, ok_of this.2⟩
theorem none_all : ∀ d ∈ noneD, mayB d = false ∧ d.ok := by
  have h : (noneD.all fun d => !mayB d && okB d) = true := by decide +kernel
  intro d hd
  have := List.all_eq_true.1 h d hd
  rw [Bool.and_eq_true, Bool.not_eq_true'] at this
  exact ⟨this.1, ok_of this.2⟩
theorem bad_high : readF ⟨#[6, 255, 0, 0, 0, 0, 0, 0, 0]⟩ = ({}, 15) := by kernel_rfl
theorem build_may0 (w : World) : (Instr.build 57 #[(0, .int .i64 1), (10, .int .i64 1), (11, .int .i64 1), (12, .int .i64 1)]).run Tryd.prog w = .ok (.agg (recCells { kind := 1, carriers := 1, commit := 1, reveal := 1 })) w := by kernel_rfl
theorem build_may1 (B : Nat) (w : World) : (Instr.build 57 #[(0, .int .i64 2), (1, .int .i64 15), (2, .int .i64 15), (4, .int .i64 9223372036854775807), (5, .slice (some ⟨B, 0, none⟩) 8 8)]).run Tryd.prog w = .ok (.agg (recCells { kind := 2, round := 15, lot := 15, tick := 9223372036854775807, barred := .slice (some ⟨B, 0, none⟩) 8 8 })) w := by kernel_rfl
theorem build_may2 (w : World) : (Instr.build 57 #[(0, .int .i64 4), (3, .int .i64 7), (7, .int .u64 4294967296), (8, .int .u64 18446744073709551615)]).run Tryd.prog w = .ok (.agg (recCells { kind := 4, carrier := 7, bid := 4294967296, nonce := 18446744073709551615 })) w := by kernel_rfl
theorem build_may3 (w : World) : (Instr.build 57 #[(0, .int .i64 5), (9, .agg #[.int .i64 4, .int .i64 7, .int .u64 16777216])]).run Tryd.prog w = .ok (.agg (recCells { kind := 5, state := 4, winner := 7, price := 16777216 })) w := by kernel_rfl
theorem build_may4 (w : World) : (Instr.build 57 #[(0, .int .i64 6)]).run Tryd.prog w = .ok (.agg (recCells { kind := 6 })) w := by kernel_rfl
theorem build_none0 (w : World) : (Instr.build 57 #[]).run Tryd.prog w = .ok (.agg (recCells {})) w := by kernel_rfl
theorem build_none1 (w : World) : (Instr.build 57 #[(0, .int .i64 7)]).run Tryd.prog w = .ok (.agg (recCells { kind := 7 })) w := by kernel_rfl
theorem build_none2 (w : World) : (Instr.build 57 #[(0, .int .i64 1), (11, .int .i64 1), (12, .int .i64 1)]).run Tryd.prog w = .ok (.agg (recCells { kind := 1, commit := 1, reveal := 1 })) w := by kernel_rfl
theorem build_none3 (w : World) : (Instr.build 57 #[(0, .int .i64 1), (10, .int .i64 1), (11, .int .i64 65), (12, .int .i64 1)]).run Tryd.prog w = .ok (.agg (recCells { kind := 1, carriers := 1, commit := 65, reveal := 1 })) w := by kernel_rfl
theorem build_none4 (w : World) : (Instr.build 57 #[(0, .int .i64 1), (10, .int .i64 1), (11, .int .i64 1), (12, .int .i64 1), (4, .int .i64 1)]).run Tryd.prog w = .ok (.agg (recCells { kind := 1, carriers := 1, commit := 1, reveal := 1, tick := 1 })) w := by kernel_rfl
theorem build_none5 (w : World) : (Instr.build 57 #[(0, .int .i64 2), (1, .int .i64 16)]).run Tryd.prog w = .ok (.agg (recCells { kind := 2, round := 16 })) w := by kernel_rfl
theorem build_none6 (w : World) : (Instr.build 57 #[(0, .int .i64 2), (2, .int .i64 16)]).run Tryd.prog w = .ok (.agg (recCells { kind := 2, lot := 16 })) w := by kernel_rfl
theorem build_none7 (B : Nat) (w : World) : (Instr.build 57 #[(0, .int .i64 2), (5, .slice (some ⟨B, 0, none⟩) 2 2)]).run Tryd.prog w = .ok (.agg (recCells { kind := 2, barred := .slice (some ⟨B, 0, none⟩) 2 2 })) w := by kernel_rfl
theorem build_none8 (B : Nat) (w : World) : (Instr.build 57 #[(0, .int .i64 2), (5, .slice (some ⟨B, 0, none⟩) 1 1)]).run Tryd.prog w = .ok (.agg (recCells { kind := 2, barred := .slice (some ⟨B, 0, none⟩) 1 1 })) w := by kernel_rfl
theorem build_none9 (w : World) : (Instr.build 57 #[(0, .int .i64 3), (3, .int .i64 8)]).run Tryd.prog w = .ok (.agg (recCells { kind := 3, carrier := 8 })) w := by kernel_rfl
theorem build_none10 (w : World) : (Instr.build 57 #[(0, .int .i64 3), (2, .int .i64 1)]).run Tryd.prog w = .ok (.agg (recCells { kind := 3, lot := 1 })) w := by kernel_rfl
theorem build_none11 (w : World) : (Instr.build 57 #[(0, .int .i64 4), (7, .int .u64 4294967297)]).run Tryd.prog w = .ok (.agg (recCells { kind := 4, bid := 4294967297 })) w := by kernel_rfl
theorem build_none12 (w : World) : (Instr.build 57 #[(0, .int .i64 5)]).run Tryd.prog w = .ok (.agg (recCells { kind := 5 })) w := by kernel_rfl
theorem build_none13 (w : World) : (Instr.build 57 #[(0, .int .i64 5), (9, .agg #[.int .i64 3, .int .i64 0, .int .u64 0])]).run Tryd.prog w = .ok (.agg (recCells { kind := 5, state := 3 })) w := by kernel_rfl
theorem build_none14 (w : World) : (Instr.build 57 #[(0, .int .i64 6), (4, .int .i64 (-1))]).run Tryd.prog w = .ok (.agg (recCells { kind := 6, tick := -1 })) w := by kernel_rfl
theorem build_none15 (w : World) : (Instr.build 57 #[(0, .int .i64 6), (1, .int .i64 1)]).run Tryd.prog w = .ok (.agg (recCells { kind := 6, round := 1 })) w := by kernel_rfl
def mayV (B : Nat) : List RecV := [{ kind := 1, carriers := 1, commit := 1, reveal := 1 }, { kind := 2, round := 15, lot := 15, tick := 9223372036854775807, barred := .slice (some ⟨B, 0, none⟩) 8 8 }, { kind := 4, carrier := 7, bid := 4294967296, nonce := 18446744073709551615 }, { kind := 5, state := 4, winner := 7, price := 16777216 }, { kind := 6 }]
def noneV (B G : Nat) : List RecV := [{}, { kind := 7 }, { kind := 1, commit := 1, reveal := 1 }, { kind := 1, carriers := 1, commit := 65, reveal := 1 }, { kind := 1, carriers := 1, commit := 1, reveal := 1, tick := 1 }, { kind := 2, round := 16 }, { kind := 2, lot := 16 }, { kind := 2, barred := .slice (some ⟨B, 0, none⟩) 2 2 }, { kind := 2, barred := .slice (some ⟨G, 0, none⟩) 1 1 }, { kind := 3, carrier := 8 }, { kind := 3, lot := 1 }, { kind := 4, bid := 4294967297 }, { kind := 5 }, { kind := 5, state := 3 }, { kind := 6, tick := -1 }, { kind := 6, round := 1 }]

theorem row_lits (w : World) (B : Nat) (xs : List Int) (h : w.heap[B]? = some (.cells (xs.map (Value.int .i64)).toArray 3 (0, 0))) : RowI w (.slice (some ⟨B, 0, none⟩) xs.length xs.length) xs := by
  refine ⟨_, xs.length, rfl, Nat.le_refl _, fun h0 => ⟨B, 0, rfl, whole_lt h, fun j hj => ?_⟩⟩
  rw [Nat.zero_add, cell_whole h j]
  simp [List.getElem?_eq_getElem hj, List.getD_eq_getElem?_getD]
theorem at_plain {w : World} {rv : RecV} {d : RecD} (h : rv = d.toV (.slice none 0 0) (.slice none 0 0) (.slice none 0 0)) (hb : d.barred = [] ∧ d.lots = [] ∧ d.owners = []) : RecAt w rv d :=
  ⟨_, _, _, h, by rw [hb.1]; exact RowI.nil _, by rw [hb.2.1]; exact RowL.nil _, by rw [hb.2.2]; exact RowI.nil _⟩
theorem at_barred {w : World} {rv : RecV} {d : RecD} {v : Value} (h : rv = d.toV v (.slice none 0 0) (.slice none 0 0)) (hr : RowI w v d.barred) (hb : d.lots = [] ∧ d.owners = []) : RecAt w rv d :=
  ⟨_, _, _, h, hr, by rw [hb.1]; exact RowL.nil _, by rw [hb.2]; exact RowI.nil _⟩

theorem may_at (B : Nat) (w : World) (h : w.heap[B]? = some (.cells #[.int .i64 0, .int .i64 1, .int .i64 2, .int .i64 3, .int .i64 4, .int .i64 5, .int .i64 6, .int .i64 7] 3 (0, 0))) : ∀ j, j < mayD.length → RecAt w ((mayV B).getD j {}) (mayD.getD j {}) := by
  intro j hj
  have hr : RowI w (.slice (some ⟨B, 0, none⟩) 8 8) [0, 1, 2, 3, 4, 5, 6, 7] := row_lits w B [0, 1, 2, 3, 4, 5, 6, 7] h
  match j, hj with
  | 0, _ => exact at_plain (by simp only [mayV, mayD, List.getD_cons_succ, List.getD_cons_zero, RecD.toV, rep_getD]) ⟨rfl, rfl, rfl⟩
  | 1, _ => exact at_barred (v := .slice (some ⟨B, 0, none⟩) 8 8) (by simp only [mayV, mayD, List.getD_cons_succ, List.getD_cons_zero, RecD.toV, rep_getD]) hr ⟨rfl, rfl⟩
  | 2, _ => exact at_plain (by simp only [mayV, mayD, List.getD_cons_succ, List.getD_cons_zero, RecD.toV, rep_getD]) ⟨rfl, rfl, rfl⟩
  | 3, _ => exact at_plain (by simp only [mayV, mayD, List.getD_cons_succ, List.getD_cons_zero, RecD.toV, rep_getD]) ⟨rfl, rfl, rfl⟩
  | 4, _ => exact at_plain (by simp only [mayV, mayD, List.getD_cons_succ, List.getD_cons_zero, RecD.toV, rep_getD]) ⟨rfl, rfl, rfl⟩
  | j + 5, h => exact absurd h (by simp [mayD])
theorem none_at (B G : Nat) (w : World) (h1 : w.heap[B]? = some (.cells #[.int .i64 1, .int .i64 1] 3 (0, 0))) (h2 : w.heap[G]? = some (.cells #[.int .i64 8] 3 (0, 0))) : ∀ j, j < noneD.length → RecAt w ((noneV B G).getD j {}) (noneD.getD j {}) := by
  intro j hj
  have hr1 : RowI w (.slice (some ⟨B, 0, none⟩) 2 2) [1, 1] := row_lits w B [1, 1] h1
  have hr2 : RowI w (.slice (some ⟨G, 0, none⟩) 1 1) [8] := row_lits w G [8] h2
  match j, hj with
  | 0, _ => exact at_plain (by simp only [noneV, noneD, List.getD_cons_succ, List.getD_cons_zero, RecD.toV, rep_getD]) ⟨rfl, rfl, rfl⟩
  | 1, _ => exact at_plain (by simp only [noneV, noneD, List.getD_cons_succ, List.getD_cons_zero, RecD.toV, rep_getD]) ⟨rfl, rfl, rfl⟩
  | 2, _ => exact at_plain (by simp only [noneV, noneD, List.getD_cons_succ, List.getD_cons_zero, RecD.toV, rep_getD]) ⟨rfl, rfl, rfl⟩
  | 3, _ => exact at_plain (by simp only [noneV, noneD, List.getD_cons_succ, List.getD_cons_zero, RecD.toV, rep_getD]) ⟨rfl, rfl, rfl⟩
  | 4, _ => exact at_plain (by simp only [noneV, noneD, List.getD_cons_succ, List.getD_cons_zero, RecD.toV, rep_getD]) ⟨rfl, rfl, rfl⟩
  | 5, _ => exact at_plain (by simp only [noneV, noneD, List.getD_cons_succ, List.getD_cons_zero, RecD.toV, rep_getD]) ⟨rfl, rfl, rfl⟩
  | 6, _ => exact at_plain (by simp only [noneV, noneD, List.getD_cons_succ, List.getD_cons_zero, RecD.toV, rep_getD]) ⟨rfl, rfl, rfl⟩
  | 7, _ => exact at_barred (v := .slice (some ⟨B, 0, none⟩) 2 2) (by simp only [noneV, noneD, List.getD_cons_succ, List.getD_cons_zero, RecD.toV, rep_getD]) hr1 ⟨rfl, rfl⟩
  | 8, _ => exact at_barred (v := .slice (some ⟨G, 0, none⟩) 1 1) (by simp only [noneV, noneD, List.getD_cons_succ, List.getD_cons_zero, RecD.toV, rep_getD]) hr2 ⟨rfl, rfl⟩
  | 9, _ => exact at_plain (by simp only [noneV, noneD, List.getD_cons_succ, List.getD_cons_zero, RecD.toV, rep_getD]) ⟨rfl, rfl, rfl⟩
  | 10, _ => exact at_plain (by simp only [noneV, noneD, List.getD_cons_succ, List.getD_cons_zero, RecD.toV, rep_getD]) ⟨rfl, rfl, rfl⟩
  | 11, _ => exact at_plain (by simp only [noneV, noneD, List.getD_cons_succ, List.getD_cons_zero, RecD.toV, rep_getD]) ⟨rfl, rfl, rfl⟩
  | 12, _ => exact at_plain (by simp only [noneV, noneD, List.getD_cons_succ, List.getD_cons_zero, RecD.toV, rep_getD]) ⟨rfl, rfl, rfl⟩
  | 13, _ => exact at_plain (by simp only [noneV, noneD, List.getD_cons_succ, List.getD_cons_zero, RecD.toV, rep_getD]) ⟨rfl, rfl, rfl⟩
  | 14, _ => exact at_plain (by simp only [noneV, noneD, List.getD_cons_succ, List.getD_cons_zero, RecD.toV, rep_getD]) ⟨rfl, rfl, rfl⟩
  | 15, _ => exact at_plain (by simp only [noneV, noneD, List.getD_cons_succ, List.getD_cons_zero, RecD.toV, rep_getD]) ⟨rfl, rfl, rfl⟩
  | j + 16, h => exact absurd h (by simp [noneD])
/-- The cells of a row of records. -/
def recsA (rvs : List RecV) : Array Value := (rvs.flatMap fun r => (recCells r).toList).toArray
theorem may_slice (B : Nat) (w : World) : (Instr.buildSlice 26 5 #[(0, .agg (recCells ({ kind := 1, carriers := 1, commit := 1, reveal := 1 } : RecV))), (1, .agg (recCells ({ kind := 2, round := 15, lot := 15, tick := 9223372036854775807, barred := .slice (some ⟨B, 0, none⟩) 8 8 } : RecV))), (2, .agg (recCells ({ kind := 4, carrier := 7, bid := 4294967296, nonce := 18446744073709551615 } : RecV))), (3, .agg (recCells ({ kind := 5, state := 4, winner := 7, price := 16777216 } : RecV))), (4, .agg (recCells ({ kind := 6 } : RecV)))]).run Tryd.prog w = .ok (.slice (some ⟨w.heap.size, 0, none⟩) 5 5) (w.alloc (.cells (recsA (mayV B)) 57)) := recs_slice5 _ _ _ _ _ w
theorem none_slice (B G : Nat) (w : World) : (Instr.buildSlice 26 16 #[(0, .agg (recCells ({} : RecV))), (1, .agg (recCells ({ kind := 7 } : RecV))), (2, .agg (recCells ({ kind := 1, commit := 1, reveal := 1 } : RecV))), (3, .agg (recCells ({ kind := 1, carriers := 1, commit := 65, reveal := 1 } : RecV))), (4, .agg (recCells ({ kind := 1, carriers := 1, commit := 1, reveal := 1, tick := 1 } : RecV))), (5, .agg (recCells ({ kind := 2, round := 16 } : RecV))), (6, .agg (recCells ({ kind := 2, lot := 16 } : RecV))), (7, .agg (recCells ({ kind := 2, barred := .slice (some ⟨B, 0, none⟩) 2 2 } : RecV))), (8, .agg (recCells ({ kind := 2, barred := .slice (some ⟨G, 0, none⟩) 1 1 } : RecV))), (9, .agg (recCells ({ kind := 3, carrier := 8 } : RecV))), (10, .agg (recCells ({ kind := 3, lot := 1 } : RecV))), (11, .agg (recCells ({ kind := 4, bid := 4294967297 } : RecV))), (12, .agg (recCells ({ kind := 5 } : RecV))), (13, .agg (recCells ({ kind := 5, state := 3 } : RecV))), (14, .agg (recCells ({ kind := 6, tick := -1 } : RecV))), (15, .agg (recCells ({ kind := 6, round := 1 } : RecV)))]).run Tryd.prog w = .ok (.slice (some ⟨w.heap.size, 0, none⟩) 16 16) (w.alloc (.cells (recsA (noneV B G)) 57)) := recs_slice16 _ _ _ _ _ _ _ _ _ _ _ _ _ _ _ _ w

set_option maxHeartbeats 1000000 in
theorem text_nil (w : World) : Calls Tryd.prog 11 #[.pointer none] w fun e w' => e = .returned (.string ⟨#[]⟩) ∧ w = w' := by
  go_enter Tryd.func11, Tryd.ntmps11
  go_wp2_with fail
  go_ret
  exact ⟨rfl, rfl⟩
set_option maxHeartbeats 1000000 in
theorem len_nil (w : World) : Calls Tryd.prog 15 #[.pointer none] w fun e w' => e = .returned (.int .i64 0) ∧ w = w' := by
  go_enter Tryd.func15, Tryd.ntmps15
  go_wp2_with fail
  go_ret
  exact ⟨rfl, rfl⟩
set_option maxHeartbeats 1000000 in
set_option maxRecDepth 100000 in
theorem add_nil (rv : RecV) (w : World) : Calls Tryd.prog 20 #[.pointer none, .agg (recCells rv)] w fun e w' => e = .returned (.int .i64 1) ∧ Below w.heap.size w w' := by
  have hi0 : (Tryd.prog.info? 57).map (·.size) = some (recCells rv).size := by rw [recCells_size]; kernel_rfl
  obtain ⟨w0, hw0⟩ : ∃ z, z = w.alloc (.cells (recCells rv) 57) := ⟨_, rfl⟩
  have HN0 : Aside (Below w.heap.size w w0) := by rw [hw0]; exact new_alloc _ _
  go_enter Tryd.func20, Tryd.ntmps20
  go_upto_region 1 with fail
  rw [← hw0]
  clear hw0 hi0
  go_wp2_with fail
  go_ret
  exact ⟨rfl, HN0.out⟩

end Go.Proofs.YtkpmcjfolncmmaaDoor
