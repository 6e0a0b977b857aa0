/- consignlaw30's wrong and bad, walked, where they are so. -/
import Derived.Test.YtkpmcjfolncmmaaGreatDoorSPar1
import Derived.Test.YtkpmcjfolncmmaaGreatDoorSTold1
import Derived.Test.YtkpmcjfolncmmaaGreatDoorSSame2
import Derived.Deep.WholeRow
set_option linter.all false
namespace Go.Proofs.YtkpmcjfolncmmaaGreatDoor
open Go.RowKit
theorem Tryz.structFault : Tryz.prog.underlying 96 = some (.struct (Tryz.prog.fieldsOf 96)) := by kernel_rfl
theorem Tryz.heldFault : Tryz.prog.stoodInHeld 96 = false := by kernel_rfl
theorem eqFault (a b c x y z : Int) (w : World) : (binOp .eql 96 (.agg #[.int .i64 a, .int .i64 b, .int .i64 c]) (.agg #[.int .i64 x, .int .i64 y, .int .i64 z])).run Tryz.prog w = .ok (.bool (a == x && (b == y && c == z))) w := by
  have u3 := Tryz.underlying3
  have a3 := Tryz.isAgg3
  have z3 := Tryz.sizeOf3
  have u40 := Tryz.underlying41
  have a40 := Tryz.isAgg41
  have z40 := Tryz.sizeOf41
  rw [run_eql_struct, show (10000 : Nat) = 9999 + 1 from rfl, run_equalIn_agg w 9999 96 _ _ Tryz.structFault Tryz.heldFault]
  simp only [Program.fieldsOf, Tryz.underlying96]
  go_simp
  by_cases h1 : a = x <;> by_cases h2 : b = y <;> by_cases h3 : c = z <;> simp [h1, h2, h3]
structure Tabs (F : S8) (K : Nat → Int) (kk : Array Value) (w : World) : Prop where
  sha : ShaTabs F K kk w
  err : ErrTab w
theorem Tabs.on {F : S8} {K : Nat → Int} {kk : Array Value} {w w' : World} (h : Tabs F K kk w) (hb : Below w.heap.size w w') : Tabs F K kk w' := ⟨h.sha.on hb, h.err.on hb⟩
set_option maxHeartbeats 2000000 in
set_option maxRecDepth 100000 in
theorem wrong_yes (t : ByteArray) (hts : t.size ≤ 1000000) (c : Int) (n : Nat) (F : S8) (K : Nat → Int) (kk : Array Value) (w : World) (ht : Tabs F K kk w) (hp : parseF (sumB K F) t = ([], c, n)) (hc : c ≠ 0) :
    Calls Tryz.prog 41 #[.string t, .int .i64 c, .int .i64 n] w fun e w' => e = .returned (.bool true) ∧ Below w.heap.size w w' := by
  have HT := aside ht
  have HP := aside hp
  have HC := aside hc
  have heq := fun W => eqFault c 0 n c 0 n W
  have hbb : (c == c && ((0 : Int) == 0 && (n : Int) == n)) = true := by simp
  simp only [hbb] at heq
  clear ht hp hc hbb
  go_enter Tryz.func41, Tryz.ntmps41
  go_wp2_with fail
  refine (parse_any t hts F K kk w HT.out.sha).mono ?_
  intro e w1 hr
  rw [HP.out] at hr
  obtain ⟨hb, hr⟩ := hr
  rw [if_neg HC.out] at hr
  obtain ⟨f, rfl, hf, h0, h1, h2⟩ := hr
  have HB := aside hb
  have H0 := aside h0
  have H1 := aside h1
  have H2 := aside h2
  clear hb hf h0 h1 h2
  go_wp2_with fail
  refine (told_fault f c 0 n w1 (HT.out.err.on HB.out) H0.out H1.out H2.out).mono ?_
  rintro e w2 ⟨rfl, hb2⟩
  have HB2 := aside (HB.out.trans (hb2.mono HB.out.size))
  clear hb2
  go_wp2_with fail
  go_ret
  exact ⟨rfl, HB2.out⟩
theorem run_storeAt_new' {P : Program} (w : World) (t : TypeId) (c c' : Array Value) (hi : (P.info? t).map (·.size) = some c'.size) (ho : c.size = c'.size) (h1 : c'.all (·.oneCell') = true) :
    (Instr.storeAt t (.pointer (some ⟨w.heap.size, 0, none⟩)) (.agg c')).run P (w.alloc (.cells c t)) = .ok () (w.alloc (.cells c' t)) := by
  simp only [Instr.storeAt, Instr.sureAddr, Sem.run_bind, Sem.run_pure, Result.andThen]
  exact run_storeVar_new w t c c' hi ho h1
set_option maxHeartbeats 2000000 in
set_option maxRecDepth 100000 in
theorem bad_yes (t : ByteArray) (hts : t.size ≤ 1000000) (c : Int) (w : World) (hp : readF t = ({}, c)) :
    Calls Tryz.prog 40 #[.string t, .int .i64 c] w fun e w' => e = .returned (.bool true) ∧ Below w.heap.size w w' := by
  have HP := aside hp
  clear hp
  go_enter Tryz.func40, Tryz.ntmps40
  go_wp2_with fail
  refine (read_rec t (by omega) w).mono ?_
  intro e w1 hr
  rw [HP.out] at hr
  obtain ⟨rv, rfl, hrf, hb⟩ := hr
  have HRF := aside hrf
  have HB := aside hb
  have hone := hrf.one
  have hi0 : (Tryz.prog.info? 38).map (·.size) = some (recCells rv).size := by rw [recCells_size]; kernel_rfl
  obtain ⟨X, hX⟩ : ∃ x, x = w1.heap.size := ⟨_, rfl⟩
  obtain ⟨w2, hw2⟩ : ∃ z, z = w1.alloc (.cells (recCells rv) 38) := ⟨_, rfl⟩
  have HX2 : Aside (RecIn w2 X rv) := by rw [hw2, hX]; exact RecIn.box _ _
  have HB2 : Aside (Below w.heap.size w w2) := by rw [hw2]; exact HB.out.trans ((new_alloc _ _).mono HB.out.size)
  have HR2 : Aside (RecFrom w.heap.size w2 rv {}) := by rw [hw2]; exact HRF.out.on (new_alloc _ _)
  have HST : Aside ((Instr.storeAt 38 (.pointer (some ⟨w1.heap.size, 0, none⟩)) (.agg (recCells rv))).run Tryz.prog (w1.alloc (.cells (recCells {}) 38)) = .ok () w2) := by
    rw [Aside, hw2]
    exact run_storeAt_new' w1 38 (recCells {}) (recCells rv) hi0 rfl hone
  clear hrf hb HRF HB hw2
  go_upto_region 2 with (first
    | (refine wpList_store_by rfl 38 _ _ rfl _ _ rfl rfl HST.out ?_)
    | fail)
  rw [← hX]
  clear hX hone HST
  have hrg : w2.rangeAt X 0 (recCells rv).toList := fun j v hv => by rw [Nat.zero_add, HX2.out.cell j, ← Array.getElem?_toList]; exact hv
  have HRG := aside hrg
  have hi1 : (Tryz.prog.info? 38).map (·.size) = some (recCells rv).toList.length := by rw [Array.length_toList]; exact hi0
  clear hrg hi0
  go_wp2_with (first
    | (refine wpList_load_midG (by rfl) _ _ rfl X 0 rfl _ _ HRG.out Tryz.underlying38 rfl hi1 (recCells rv) (Array.toArray_toList) ?_)
    | fail)
  rw [zR]
  refine (same_any rv {} {} {} rfl rfl (by decide) (by decide) w2 HR2.out.at_ (RecFrom.nil 0 w2).at_).mono ?_
  rintro e w3 ⟨rfl, hb3⟩
  rw [show decide (({} : RecD) = {}) = true from by simp]
  have HB3 := aside (HB2.out.trans (hb3.mono HB2.out.size))
  clear hb3
  go_wp2_with fail
  go_ret
  exact ⟨rfl, HB3.out⟩
end Go.Proofs.YtkpmcjfolncmmaaGreatDoor
