/- The document's Next, walked. -/
import Derived.Test.YtkpmcjfolncmmaaGreatDoorSRef7
import Derived.Test.YtkpmcjfolncmmaaGreatDoorSRef5
import Derived.Test.YtkpmcjfolncmmaaGreatDoorSRfM3
import Derived.Test.YtkpmcjfolncmmaaGreatDoorSByt1
import Derived.Test.YtkpmcjfolncmmaaGreatDoorSPln6
import Derived.Test.YtkpmcjfolncmmaaGreatDoorSHsh8
import Derived.Test.YtkpmcjfolncmmaaGreatDoorSPar1
import Derived.BigQuiet
import Derived.StillTailTactics
import Derived.Test.YtkpmcjfolncmmaaGreatDoorSWrk1
import Derived.Test.YtkpmcjfolncmmaaGreatDoorSRfL1
import Derived.Deep.RegionHeld3
set_option linter.all false
namespace Go.Proofs.YtkpmcjfolncmmaaGreatDoor
open Go.RowKit
end Go.Proofs.YtkpmcjfolncmmaaGreatDoor
namespace Go.Proofs.YtkpmcjfolncmmaaGreatDoor
open Go.RowKit
end Go.Proofs.YtkpmcjfolncmmaaGreatDoor
namespace Go.Proofs.YtkpmcjfolncmmaaGreatDoor
open Go.RowKit
def digA (s : ByteArray) : Array Value := ((seg (byteOf s) 0 32).map (Value.int .u8)).toArray
theorem digA_size (s : ByteArray) : (digA s).size = 32 := by simp [digA, seg_length]
theorem digA_get (s : ByteArray) (j : Nat) (hj : j < 32) : (digA s)[j]? = some (.int .u8 (byteOf s j)) := by
  rw [digA, List.getElem?_toArray, List.getElem?_map, seg_get _ _ _ _ hj, Nat.zero_add]
  rfl
theorem digA_sum (K : Nat → Int) (F : S8) (t : ByteArray) : digestA (sumS K F t) = digA (sumB K F t) := by
  apply Array.toList_inj.1
  rw [digestA_list, digA]
theorem digA_one (s : ByteArray) : (digA s).all (·.oneCell') = true := by
  rw [Array.all_eq_true_iff_forall_mem]
  intro x hx
  rw [digA, List.mem_toArray, List.mem_map] at hx
  obtain ⟨_, _, rfl⟩ := hx
  rfl
theorem digA_zero : digA zero32 = Array.replicate 32 (.int .u8 0) := by
  apply Array.ext (by rw [digA_size]; simp)
  intro i h1 h2
  have h := digA_get zero32 i (by rw [← digA_size zero32]; exact h1)
  rw [Array.getElem?_eq_getElem h1] at h
  rw [Option.some.inj h, zero32_byte, Array.getElem_replicate]
theorem SumAt.of {w : World} {b : Nat} {s : ByteArray} {T : TypeId} (hs : s.size = 32) (h : w.heap[b]? = some (.cells (digA s) T (0, 0))) : SumAt w b s :=
  ⟨hs, fun j hj => by rw [cell_whole h, digA_get s j hj], fun j => frozen_whole h j⟩
set_option maxHeartbeats 1000000 in
set_option maxRecDepth 100000 in
theorem rnext_any (s x : ByteArray) (hs : s.size = 32) (hx : x.size ≤ 100000000) (w : World) :
    Calls Tryz.prog 14 #[.agg (digA s), .string x] w fun e w' => e = .returned (.agg (digA (sumB refK refF (s ++ x)))) ∧ Below w.heap.size w w' := by
  have hsz : (s ++ x).size = s.size + x.size := ByteArray.size_append
  have hnb : ¬ 9223372036854775807 < s.size + x.size := by omega
  obtain ⟨t, htt⟩ : ∃ t, t = s ++ x := ⟨_, rfl⟩
  have HTT := aside htt
  have HSZ : Aside (t.size ≤ 1000000000) := by rw [Aside, htt, hsz]; omega
  obtain ⟨U, hU⟩ : ∃ u, u = sumB refK refF t := ⟨_, rfl⟩
  rw [← htt, ← hU]
  have HU := aside hU
  obtain ⟨w0, hw0⟩ : ∃ z, z = (w.alloc (.cells (digA s) 33)).alloc (.cells (Array.replicate 32 (.int .u8 0)) 33) := ⟨_, rfl⟩
  obtain ⟨b, hb⟩ : ∃ b, b = w.heap.size := ⟨_, rfl⟩
  have HB0 : Aside (Below w.heap.size w w0) := by rw [hw0]; exact new_trans (new_alloc _ _) (new_alloc _ _)
  have hS0 : w0.heap[b]? = some (.cells (digA s) 33 (0, 0)) := by
    rw [hw0, hb]
    exact whole_new (heap_new w _) (new_alloc _ _)
  have HR0 : Aside (w0.heap[b + 1]? = some (.cells (Array.replicate 32 (.int .u8 0)) 33 (0, 0))) := by
    rw [Aside, hw0, hb, show w.heap.size + 1 = (w.alloc (.cells (digA s) 33)).heap.size by simp]
    exact heap_new _ _
  have hsa := SumAt.of hs hS0
  have kc := run_convert_bytes_arg (P := Tryz.prog) (w := w0) 26 5 Tryz.underlying26 Tryz.underlying5 b 0 32 32 (numsOf s) ((numsOf_length s).trans hs) hsa.nums 9 Tryz.underlying9
  rw [strOf_numsOf] at kc
  obtain ⟨D, hD⟩ : ∃ D, D = digA s := ⟨_, rfl⟩
  rw [← hD] at hw0 ⊢
  have HBW := aside hb
  clear hS0 hsa hsz htt hU hD
  go_enter Tryz.func14, Tryz.ntmps14
  go_upto_region 1 with fail
  rw [z32, ← hw0, ← hb]
  have hrl := HTT.out
  clear hw0 hb
  go_wp2_with fail
  rw [← hrl]
  refine (sum_ref t HSZ.out w0).mono ?_
  rintro e w1 ⟨rfl, hb1⟩
  rw [digA_sum, ← HU.out]
  have HR1 := aside (whole_new HR0.out hb1)
  have HB1 := aside (new_trans HB0.out hb1)
  have hi0 : (Tryz.prog.info? 33).map (·.size) = some (digA U).size := by rw [digA_size]; kernel_rfl
  have HH1 : Aside ((w1.setRow (b + 1) (digA U)).heap[b + 1]? = some (.cells (digA U) 33 (0, 0))) := setRow_heap w1 (b + 1) _ _ _ _ HR1.out
  have HB2 : Aside (Below w.heap.size w (w1.setRow (b + 1) (digA U))) := below_setRow HB1.out (by have := HBW.out; omega) _
  clear hb1 hnb kc hrl
  go_wp2_with (first
    | (refine wpList_store_row rfl _ _ _ rfl (b + 1) (digA U) rfl rfl 33 _ HR1.out hi0 (by rw [digA_size]; rfl) (digA_one U) ?_)
    | fail)
  exact bodyPost_ret (results_cell_row rfl _ _ (b + 1) 33 (digA U) (0, 0) _ rfl HH1.out Tryz.underlying33 rfl hi0) rfl ⟨rfl, HB2.out⟩
end Go.Proofs.YtkpmcjfolncmmaaGreatDoor
namespace Go.Proofs.YtkpmcjfolncmmaaGreatDoor
open Go.RowKit
end Go.Proofs.YtkpmcjfolncmmaaGreatDoor
namespace Go.Proofs.YtkpmcjfolncmmaaGreatDoor
open Go.RowKit
theorem rt_results {w : World} {X : Nat} {v : Value} {s : ByteArray} (h : w.heap[X]? = some (.cells (digA s) 33 (0, 0))) (tmps : Array Value) (h2 : tmps.getD 2 undef = v) (h3 : tmps.getD 3 undef = .pointer (some ⟨X, 0, none⟩)) :
    (results Tryz.f13 tmps).run Tryz.prog w = .ok (.tuple #[v, .agg (digA s)]) w := by
  have h2' : tmps[2]?.getD undef = v := by simpa using h2
  have h3' : tmps[3]?.getD undef = .pointer (some ⟨X, 0, none⟩) := by simpa using h3
  have hl := run_loadVar_row (P := Tryz.prog) w X 33 33 (digA s) (0, 0) _ h Tryz.underlying33 rfl (by rw [digA_size]; kernel_rfl)
  simp [results, Tryz.results13, asAddr, h2', h3', hl]
theorem text_snoc (S : ByteArray → ByteArray) : ∀ (l : List RecD) (s : ByteArray) (d : RecD), textF S s (l ++ [d]) = textF S s l ++ entryF S (lastF S s l) d ∧ lastF S s (l ++ [d]) = S (lastF S s l ++ bytesF d)
  | [], s, d => ⟨by show entryF S s d ++ _ = _ ++ _; rw [show textF S (S (s ++ bytesF d)) [] = ByteArray.empty from rfl, ba_append_nil]; exact (ba_nil_append _).symm, rfl⟩
  | x :: l, s, d => by
    obtain ⟨h1, h2⟩ := text_snoc S l (S (s ++ bytesF x)) d
    refine ⟨?_, h2⟩
    show entryF S s x ++ textF S _ (l ++ [d]) = (entryF S s x ++ textF S _ l) ++ _
    rw [h1, ByteArray.append_assoc]
    rfl
theorem lastF_size {S : ByteArray → ByteArray} (hS : ∀ x, (S x).size = 32) : ∀ (l : List RecD) (s : ByteArray), s.size = 32 → (lastF S s l).size = 32
  | [], _, h => h
  | _ :: l, _, _ => lastF_size hS l _ (hS _)
theorem cv_keep {w W : World} {D : Nat} {s : ByteArray} (h : SumAt w D s) (hb : Aside (Below w.heap.size w W)) :
    (convert 26 9 (.slice (some ⟨D, 0, none⟩) 32 32)).run Tryz.prog W = .ok (.string s) W ∧ Aside (Below w.heap.size w W) := by
  have h2 := run_convert_bytes_arg (P := Tryz.prog) (w := W) 26 5 Tryz.underlying26 Tryz.underlying5 D 0 32 32 (numsOf s) ((numsOf_length s).trans h.len) (fun i hi => (h.on hb.out).nums i hi) 9 Tryz.underlying9
  rw [strOf_numsOf] at h2
  exact ⟨h2, hb⟩
theorem range_whole {w : World} {b : Nat} {cs : Array Value} {t : TypeId} {fr : Nat × Nat} (h : w.heap[b]? = some (.cells cs t fr)) : w.rangeAt b 0 cs.toList := fun j v hv => by
  rw [Nat.zero_add, cell_whole h, ← Array.getElem?_toList]
  exact hv
theorem step_store_row {ops : Array Oper} {o : Oper} {a : Act} {w : World} {K : Act → World → Prop} {Q : Exit → Act → World → Prop} {E' : Prop} (hgd : o.guard = none) (ty : TypeId) (x y : Operand) (ho : o.op = .store ty x y)
    (g : Nat) (cells : Array Value) (hx : a.eval x = .pointer (some ⟨g, 0, none⟩)) (hy : a.eval y = .agg cells)
    (t : TypeId) (old : Array Value) (hg : w.heap[g]? = some (.cells old t (0, 0))) (hi : (Tryz.prog.info? ty).map (·.size) = some cells.size)
    (hold : old.size = cells.size) (h1 : cells.all (·.oneCell') = true)
    (h : K (a.put o.dst undef) (w.setRow g cells)) : if Region.wanted o (yielded ops a.tmps) = true then Oper.wp Tryz.prog o a w K Q else E' := by
  have hw : Region.wanted o (yielded ops a.tmps) = true := by simp [Region.wanted, hgd]
  rw [if_pos hw]
  exact wp_store_row ty x y ho g cells hx hy t old hg hi hold h1 h
set_option maxHeartbeats 1000000 in
set_option maxRecDepth 100000 in
theorem rtext_any (v : Value) (ds : List RecD) (hds : ds.length ≤ 10000) (hall : AllMay ds) (w : World) (hr : RecsAt w v ds) :
    Calls Tryz.prog 13 #[v] w fun e w' => e = .returned (.tuple #[.string (textF (sumB refK refF) zero32 ds), .agg (digA (lastF (sumB refK refF) zero32 ds))]) ∧ Below w.heap.size w w' := by
  obtain ⟨T, hT⟩ : ∃ T, T = textF (sumB refK refF) zero32 ds := ⟨_, rfl⟩
  obtain ⟨Z, hZ⟩ : ∃ T, T = lastF (sumB refK refF) zero32 ds := ⟨_, rfl⟩
  rw [← hT, ← hZ]
  have HTT := aside hT
  have HZZ := aside hZ
  obtain ⟨n, hn⟩ : ∃ n, n = ds.length := ⟨_, rfl⟩
  obtain ⟨a, cap, rvs, rfl, hcap, hrw, hra⟩ := hr
  have HRW := aside hrw
  have HRA := aside hra
  have HALL := aside hall
  rw [← hn] at hds ⊢
  have HNN := aside hn
  obtain ⟨P, hP⟩ : ∃ x, x = w.heap.size := ⟨_, rfl⟩
  obtain ⟨w1, hw1⟩ : ∃ z, z = (w.alloc (.cells (Array.replicate 32 (.int .u8 0)) 33)).alloc (.cells (Array.replicate 32 (.int .u8 0)) 33) := ⟨_, rfl⟩
  have HB1 : Aside (Below w.heap.size w w1) := by rw [hw1]; exact new_trans (new_alloc _ _) (new_alloc _ _)
  have HP1 : Aside (w1.heap[P]? = some (.cells (digA zero32) 33 (0, 0))) := by rw [hw1, hP, digA_zero]; exact whole_new (heap_new _ _) (new_alloc _ _)
  have HD1 : Aside (w1.heap[P + 1]? = some (.cells (digA zero32) 33 (0, 0))) := by
    rw [hw1, hP, digA_zero, show w.heap.size + 1 = (w.alloc (.cells (Array.replicate 32 (.int .u8 0)) 33)).heap.size by simp]
    exact heap_new _ _
  have HPW := aside hP
  clear hrw hra hall hcap hn hT hZ
  go_enter Tryz.func13, Tryz.ntmps13
  go_wp2_with fail
  rw [z32, ← hw1, ← hP]
  clear hw1 hP
  go_loopg [5, 6] n (fun g v5 v6 wr => ∃ (k : Nat) (x s : ByteArray), k ≤ n ∧ v5 = .string x ∧ v6 = .int .i64 k ∧ n - k ≤ g ∧ Aside (x = textF (sumB refK refF) zero32 (ds.take k)) ∧ Aside (s = lastF (sumB refK refF) zero32 (ds.take k)) ∧ Aside (wr.heap[P + 1]? = some (.cells (digA s) 33 (0, 0))) ∧ Aside (wr.heap[P]? = some (.cells (digA zero32) 33 (0, 0))) ∧ Aside (Below w.heap.size w wr))
  case atStart => exact ⟨0, _, zero32, by omega, rfl, rfl, by omega, rfl, rfl, HD1, HP1, HB1⟩
  case round =>
    clear HB1 HD1 HP1
    obtain ⟨k, x, s, hk, rfl, rfl, hg, HX, HS, HD, HP, HB⟩ := hrel
    by_cases hlt : k < n
    · have hki : (k : Int) < n := by omega
      obtain ⟨lb, lo, rfl, hlb, hj⟩ := HRW.out (by rw [← HNN.out]; omega)
      have HRG := aside (rangeAt_on (hj k (by rw [← HNN.out]; exact hlt)) hlb HB.out)
      obtain ⟨rv, hrv⟩ : ∃ rv, rv = rvs k := ⟨_, rfl⟩
      rw [← hrv] at HRG
      obtain ⟨d, hd⟩ : ∃ d, d = ds.getD k {} := ⟨_, rfl⟩
      have HRV : Aside (RecAt wr rv d) := by rw [hrv, hd]; exact (HRA.out k (by rw [← HNN.out]; exact hlt)).on HB.out
      have hi0 : (Tryz.prog.info? 38).map (·.size) = some (recCells rv).toList.length := by rw [Array.length_toList, recCells_size]; kernel_rfl
      have hmem : ds.getD k {} ∈ ds := by
        rw [List.getD_eq_getElem?_getD, List.getElem?_eq_getElem (show k < ds.length by rw [← HNN.out]; exact hlt)]
        exact List.getElem_mem _
      obtain ⟨hm, ho⟩ := HALL.out _ hmem
      rw [← hd] at hm ho
      have HMO := aside (And.intro hm ho)
      have hxs : x.size ≤ 185 * 10000 := by
        have := text_le (sumB_size refK refF) (ds.take k) zero32 (fun x hx => HALL.out x (List.mem_of_mem_take hx))
        rw [List.length_take, ← HX.out] at this
        omega
      have HXS := aside hxs
      have HSZ : Aside (s.size = 32) := by rw [Aside, HS.out]; exact lastF_size (sumB_size refK refF) _ _ zero32_size
      have HST : Aside (textF (sumB refK refF) zero32 (ds.take (k + 1)) = x ++ entryF (sumB refK refF) s d ∧ lastF (sumB refK refF) zero32 (ds.take (k + 1)) = sumB refK refF (s ++ bytesF d)) := by
        rw [Aside, take_succ_getD ds k (by rw [← HNN.out]; exact hlt), ← hd, HX.out, HS.out]
        exact text_snoc _ _ _ _
      have HM : Aside (n - (k + 1) < gk ∧ k + 1 ≤ n) := ⟨by omega, hlt⟩
      clear hj hrv hmem hm ho hxs hd hg
      go_wp2_with (first
        | (refine wpList_load_midG (by rfl) _ _ rfl lb (lo + k * 49) rfl _ _ HRG.out Tryz.underlying38 rfl hi0 (recCells rv) (Array.toArray_toList) ?_)
        | fail)
      refine (rbytes_any rv d HMO.out.2 HMO.out.1 wr HRV.out).mono ?_
      rintro e w2 ⟨rfl, hb2⟩
      have HD2 := aside (whole_new HD.out hb2)
      have HP2 := aside (whole_new HP.out hb2)
      have HB2 := aside (st_new w _ _ HB.out hb2)
      obtain ⟨b, hb⟩ : ∃ b, b = bytesF d := ⟨_, rfl⟩
      rw [← hb]
      have hbl : b.size ≤ 151 := by rw [hb, bytesF, strOf_size]; exact (bytes_bs HMO.out.1 HMO.out.2).2.1
      have HBB := aside hb
      have HBL := aside hbl
      have hdz : (Tryz.prog.info? 33).map (·.size) = some (digA s).size := by rw [digA_size]; kernel_rfl
      clear hb2 hb hbl HD HP HB hi0 HRG HRV
      go_wp2_with (first
        | (refine wpList_load_row rfl _ _ rfl (P + 1) rfl _ (digA s) (0, 0) _ HD2.out Tryz.underlying33 rfl hdz ?_)
        | fail)
      refine (rnext_any s b HSZ.out (by have := HBL.out; omega) w2).mono ?_
      rintro e w3 ⟨rfl, hb3⟩
      obtain ⟨u, hu⟩ : ∃ u, u = sumB refK refF (s ++ b) := ⟨_, rfl⟩
      rw [← hu]
      have HU := aside hu
      have HUZ : Aside (u.size = 32) := by rw [hu]; exact sumB_size _ _ _
      have HD3 := aside (whole_new HD2.out hb3)
      have HP3 := aside (whole_new HP2.out hb3)
      have HB3 := aside (st_new w _ _ HB2.out hb3)
      have hdu : (Tryz.prog.info? 33).map (·.size) = some (digA u).size := by rw [digA_size]; kernel_rfl
      obtain ⟨w4, hw4⟩ : ∃ z, z = w3.setRow (P + 1) (digA u) := ⟨_, rfl⟩
      have HD4 : Aside (w4.heap[P + 1]? = some (.cells (digA u) 33 (0, 0))) := by rw [Aside, hw4]; exact setRow_heap w3 (P + 1) _ _ _ _ HD3.out
      have HP4 : Aside (w4.heap[P]? = some (.cells (digA zero32) 33 (0, 0))) := by rw [Aside, hw4, setRow_other w3 (P + 1) P _ (by omega)]; exact HP3.out
      have HB4 : Aside (Below w.heap.size w w4) := by rw [Aside, hw4]; exact below_setRow HB3.out (by have := HPW.out; omega) _
      have HW4 := aside hw4
      clear hb3 hu hw4 HD2 HP2 HB2 HP3 HB3 hdz
      go_upto_region 8 with (first
        | (refine wpList_store_row rfl _ _ _ rfl (P + 1) (digA u) rfl rfl 33 _ HD3.out hdu (by rw [digA_size, digA_size]) (digA_one u) ?_; rw [← HW4.out])
        | fail)
      have HSA := aside (SumAt.of HUZ.out HD4.out)
      have hB0 : Aside (Below w4.heap.size w4 w4.drew) := new_drew w4
      have hwl : IntKind.u64.wrap (b.size : Int) = (b.size : Int) := by rw [IntKind.wrap_u64]; have := HBL.out; omega
      have hxs := HXS.out
      have hbl := HBL.out
      have huz := HUZ.out
      have hpz : (strOfNums (be 2 (b.size : Int))).size = 2 := by rw [strOf_size, be_length]
      obtain ⟨p, hp⟩ : ∃ p, p = strOfNums (be 2 (b.size : Int)) := ⟨_, rfl⟩
      rw [← hp] at hpz
      have HPP := aside hp
      have z1 : ¬ 9223372036854775807 < x.size + 2 := by omega
      have z2 : ¬ 9223372036854775807 < x.size + 2 + b.size := by omega
      have z3 : ¬ 9223372036854775807 < x.size + 2 + b.size + 32 := by omega
      clear hp hdu HD3
      go_region_held3 (fun W => (convert 26 9 (.slice (some ⟨P + 1, 0, none⟩) 32 32)).run Tryz.prog W = .ok (.string u) W ∧ Aside (Below w4.heap.size w4 W)) (exact cv_keep HSA.out (by assumption)) (first
        | (go_at_call 24
           refine (ref_num8 (b.size : Int) (by omega) 2 (by omega) _).mono ?_
           rintro e w6 ⟨rfl, hb6⟩
           have hB6 : Aside (Below w4.heap.size w4 w6) := new_trans (Aside.out (by assumption)) hb6
           rw [← HPP.out]
           clear hb6))
      have HB6 : Aside (Below w4.heap.size w4 w6) := hB6
      have HD6 := aside (whole_new HD4.out HB6.out)
      have HP6 := aside (whole_new HP4.out HB6.out)
      have HBw := aside (st_new w _ _ HB4.out HB6.out)
      have HXN : Aside (x ++ p ++ b ++ u = textF (sumB refK refF) zero32 (ds.take (k + 1))) := by
        rw [Aside, HST.out.1, entryF, HPP.out, ← HBB.out, ← HU.out, ByteArray.append_assoc, ByteArray.append_assoc, ByteArray.append_assoc]
      have HSN : Aside (u = lastF (sumB refK refF) zero32 (ds.take (k + 1))) := by rw [Aside, HST.out.2, ← HBB.out, HU.out]
      clear z1 z2 z3 hpz huz hxs hbl hwl hB0 hB6 HSA HB4 HD4 HP4
      go_wp2_with fail
      go_roundg (n - (k + 1))
      case measure => exact HM.out.1
      case rel => exact ⟨k + 1, _, u, HM.out.2, rfl, by go_num, by omega, HXN, HSN, HD6, HP6, HBw⟩
    · have hki : ¬ (k : Int) < n := by omega
      have hkn : k = n := by omega
      have e1 : x = T := by rw [HX.out, HTT.out, hkn, HNN.out, List.take_length]
      have e2 : s = Z := by rw [HS.out, HZZ.out, hkn, HNN.out, List.take_length]
      rw [e2] at HD
      rw [e1]
      have hdz : (Tryz.prog.info? 33).map (·.size) = some (digA Z).size := by rw [digA_size]; kernel_rfl
      clear e1 e2 hkn hlt hg HX HS
      go_upto_region 9 with fail
      have hdl : (Tryz.prog.info? 33).map (·.size) = some (digA Z).toList.length := by rw [Array.length_toList]; exact hdz
      have hrg : wr.drew.rangeAt (P + 1) 0 (digA Z).toList := range_whole (w := wr.drew) HD.out
      refine wp_region_held_drew (S := fun W => W.rangeAt (P + 1) 0 (digA Z).toList) (by kernel_rfl) hrg (fun hHeld => ?_)
      refine wpAnyH_take (i := 0) (oi := _) (v := .string T) rfl (by kernel_rfl) (by kernel_rfl) (by kernel_rfl) (fun _ _ _ h => h) (Or.inl ⟨by rfl, ?_⟩) hHeld ?_
      · intro W hSw
        go_simp
      simp only [Act.put, ps]
      refine wpAnyH_take (i := 1) (oi := _) (v := .agg (digA Z).toList.toArray) rfl (by kernel_rfl) (by kernel_rfl) (by kernel_rfl) (fun _ _ _ h => h) (yieldsIf_load_mid (by rfl) 33 (.tmp 4) rfl (P + 1) 0 rfl (digA Z).toList _ (fun W hW => hW) Tryz.underlying33 rfl hdl) hHeld ?_
      simp only [Act.put, ps]
      rw [show (digA Z).toList.toArray = digA Z from Array.toArray_toList]
      refine wpAnyH_ready (rs := [2]) (by kernel_rfl) (by simp) ?_
      refine AllReadyH.cons (o := _) rfl (fun K1 hK1 => ?_) AllReadyH.nil
      go_simp
      refine hK1.out _ _ hHeld (fun hHeld => ?_)
      clear hK1 K1
      try simp only [Act.put, ps]
      refine wpAnyH_ready (rs := [3]) (by kernel_rfl) (by simp) ?_
      refine AllReadyH.cons (o := _) rfl (fun K2 hK2 => ?_) AllReadyH.nil
      refine step_store_row rfl _ _ _ rfl P (digA Z) rfl rfl 33 (digA zero32) ?_ ?_ ?_ ?_ ?_
      · exact HP.out
      · exact hdz
      · rw [digA_size, digA_size]
      · exact digA_one Z
      refine hK2.out _ _ (range_whole (by rw [setRow_other wr.drew P (P + 1) _ (by omega)]; exact HD.out)) (fun hHeld => ?_)
      clear hK2 K2
      try simp only [Act.put, ps]
      refine wpAnyH_done (by kernel_rfl) ?_ _
      have HPF : Aside ((wr.drew.setRow P (digA Z)).heap[P]? = some (.cells (digA Z) 33 (0, 0))) := setRow_heap wr.drew P _ _ _ _ HP.out
      have HBF : Aside (Below w.heap.size w (wr.drew.setRow P (digA Z))) := below_setRow HB.out.drew (by rw [HPW.out]; exact Nat.le_refl _) _
      generalize wr.drew.setRow P (digA Z) = wz at HPF HBF ⊢
      try simp only [Act.put, ps]
      go_wp2_with fail
      exact bodyPost_ret (rt_results HPF.out _ rfl rfl) rfl ⟨rfl, HBF.out⟩
end Go.Proofs.YtkpmcjfolncmmaaGreatDoor
