/- The document's Next, walked. -/
import Derived.Test.YtkpmcjfolncmmaaGreatDoorSHsh8
import Derived.Test.YtkpmcjfolncmmaaGreatDoorSByt1
import Derived.Test.YtkpmcjfolncmmaaGreatDoorSPar1
import Derived.Test.YtkpmcjfolncmmaaGreatDoorSRfRd
import Derived.BigQuiet
import Derived.StillTailTactics
import Derived.Test.YtkpmcjfolncmmaaGreatDoorSWrk1
import Derived.Test.YtkpmcjfolncmmaaGreatDoorSRfL1
import Derived.Deep.RegionHeld3
set_option linter.all false
namespace Go.Proofs.YtkpmcjfolncmmaaGreatDoor
open Go.RowKit
def digA (s : ByteArray) : Array Value := ((seg (byteOf s) 0 32).map (Value.int .u8)).toArray
theorem digA_size (s : ByteArray) : (digA s).size = 32 := by simp [digA, seg_length]
theorem digA_get (s : ByteArray) (j : Nat) (hj : j < 32) : (digA s)[j]? = some (.int .u8 (byteOf s j)) := by
  rw [digA, List.getElem?_toArray, List.getElem?_map, seg_get _ _ _ _ hj, Nat.zero_add]
  rfl
theorem digA_sum (K : Nat → Int) (F : S8) (t : ByteArray) : digestA (sumS K F t) = digA (sumB K F t) := by
  apply Array.toList_inj.1
  rw [digestA_list, digA]
theorem digA_one (s : ByteArray) : (digA s).all (·.oneCell') = true := by
  rw [Array.all_eq_true_iff_forall_mem]
  intro x hx
  rw [digA, List.mem_toArray, List.mem_map] at hx
  obtain ⟨_, _, rfl⟩ := hx
  rfl
theorem digA_zero : digA zero32 = Array.replicate 32 (.int .u8 0) := by
  apply Array.ext (by rw [digA_size]; simp)
  intro i h1 h2
  have h := digA_get zero32 i (by rw [← digA_size zero32]; exact h1)
  rw [Array.getElem?_eq_getElem h1] at h
  rw [Option.some.inj h, zero32_byte, Array.getElem_replicate]
theorem SumAt.of {w : World} {b : Nat} {s : ByteArray} {T : TypeId} (hs : s.size = 32) (h : w.heap[b]? = some (.cells (digA s) T (0, 0))) : SumAt w b s :=
  ⟨hs, fun j hj => by rw [cell_whole h, digA_get s j hj], fun j => frozen_whole h j⟩
set_option maxHeartbeats 1000000 in
set_option maxRecDepth 100000 in
theorem rnext_any (s x : ByteArray) (hs : s.size = 32) (hx : x.size ≤ 100000000) (w : World) :
    Calls Tryz.prog 14 #[.agg (digA s), .string x] w fun e w' => e = .returned (.agg (digA (sumB refK refF (s ++ x)))) ∧ Below w.heap.size w w' := by
  have hsz : (s ++ x).size = s.size + x.size := ByteArray.size_append
  have hnb : ¬ 9223372036854775807 < s.size + x.size := by omega
  obtain ⟨t, htt⟩ : ∃ t, t = s ++ x := ⟨_, rfl⟩
  have HTT := aside htt
  have HSZ : Aside (t.size ≤ 1000000000) := by rw [Aside, htt, hsz]; omega
  obtain ⟨U, hU⟩ : ∃ u, u = sumB refK refF t := ⟨_, rfl⟩
  rw [← htt, ← hU]
  have HU := aside hU
  obtain ⟨w0, hw0⟩ : ∃ z, z = (w.alloc (.cells (digA s) 33)).alloc (.cells (Array.replicate 32 (.int .u8 0)) 33) := ⟨_, rfl⟩
  obtain ⟨b, hb⟩ : ∃ b, b = w.heap.size := ⟨_, rfl⟩
  have HB0 : Aside (Below w.heap.size w w0) := by rw [hw0]; exact new_trans (new_alloc _ _) (new_alloc _ _)
  have hS0 : w0.heap[b]? = some (.cells (digA s) 33 (0, 0)) := by
    rw [hw0, hb]
    exact whole_new (heap_new w _) (new_alloc _ _)
  have HR0 : Aside (w0.heap[b + 1]? = some (.cells (Array.replicate 32 (.int .u8 0)) 33 (0, 0))) := by
    rw [Aside, hw0, hb, show w.heap.size + 1 = (w.alloc (.cells (digA s) 33)).heap.size by simp]
    exact heap_new _ _
  have hsa := SumAt.of hs hS0
  have kc := run_convert_bytes_arg (P := Tryz.prog) (w := w0) 26 5 Tryz.underlying26 Tryz.underlying5 b 0 32 32 (numsOf s) ((numsOf_length s).trans hs) hsa.nums 9 Tryz.underlying9
  rw [strOf_numsOf] at kc
  obtain ⟨D, hD⟩ : ∃ D, D = digA s := ⟨_, rfl⟩
  rw [← hD] at hw0 ⊢
  have HBW := aside hb
  clear hS0 hsa hsz htt hU hD
  go_enter Tryz.func14, Tryz.ntmps14
  go_upto_region 1 with fail
  rw [z32, ← hw0, ← hb]
  have hrl := HTT.out
  clear hw0 hb
  go_wp2_with fail
  rw [← hrl]
  refine (sum_ref t HSZ.out w0).mono ?_
  rintro e w1 ⟨rfl, hb1⟩
  rw [digA_sum, ← HU.out]
  have HR1 := aside (whole_new HR0.out hb1)
  have HB1 := aside (new_trans HB0.out hb1)
  have hi0 : (Tryz.prog.info? 33).map (·.size) = some (digA U).size := by rw [digA_size]; kernel_rfl
  have HH1 : Aside ((w1.setRow (b + 1) (digA U)).heap[b + 1]? = some (.cells (digA U) 33 (0, 0))) := setRow_heap w1 (b + 1) _ _ _ _ HR1.out
  have HB2 : Aside (Below w.heap.size w (w1.setRow (b + 1) (digA U))) := below_setRow HB1.out (by have := HBW.out; omega) _
  clear hb1 hnb kc hrl
  go_wp2_with (first
    | (refine wpList_store_row rfl _ _ _ rfl (b + 1) (digA U) rfl rfl 33 _ HR1.out hi0 (by rw [digA_size]; rfl) (digA_one U) ?_)
    | fail)
  exact bodyPost_ret (results_cell_row rfl _ _ (b + 1) 33 (digA U) (0, 0) _ rfl HH1.out Tryz.underlying33 rfl hi0) rfl ⟨rfl, HB2.out⟩
end Go.Proofs.YtkpmcjfolncmmaaGreatDoor
namespace Go.Proofs.YtkpmcjfolncmmaaGreatDoor
open Go.RowKit
def RParsePost (R : List RecD × Int × Nat) (w : World) (e : Ending) (w' : World) : Prop :=
  ∃ v, e = .returned (.tuple #[v, .agg #[.int .i64 R.2.1, .int .i64 0, .int .i64 R.2.2]]) ∧ RecsF w.heap.size w' v R.1 ∧ Below w.heap.size w w'
theorem rp_results {w : World} {X : Nat} {v : Value} {a b c : Int} (h : w.heap[X]? = some (.cells #[.int .i64 a, .int .i64 b, .int .i64 c] 96 (0, 0))) (tmps : Array Value) (h2 : tmps.getD 2 undef = v) (h3 : tmps.getD 3 undef = .pointer (some ⟨X, 0, none⟩)) :
    (results Tryz.f44 tmps).run Tryz.prog w = .ok (.tuple #[v, .agg #[.int .i64 a, .int .i64 b, .int .i64 c]]) w := by
  have h2' : tmps[2]?.getD undef = v := by simpa using h2
  have h3' : tmps[3]?.getD undef = .pointer (some ⟨X, 0, none⟩) := by simpa using h3
  have hl := run_loadVar_row (P := Tryz.prog) w X 96 96 #[.int .i64 a, .int .i64 b, .int .i64 c] (0, 0) _ h Tryz.underlying96 rfl (by kernel_rfl)
  simp [results, Tryz.results44, asAddr, h2', h3', hl]
def RPInv (w : World) (L : Nat) (R : List RecD × Int × Nat) (T gas : Nat) (v0 v4 : Value) (wr : World) : Prop :=
  ∃ (n : Nat) (t s : ByteArray) (acc : List RecD), v0 = .string t ∧ n ≤ gas ∧ t.size ≤ n ∧ parseA (sumB refK refF) n s t acc = R ∧ acc.length * 34 + t.size ≤ T ∧ RecsF (L + 2) wr v4 acc ∧ s.size = 32 ∧ wr.heap[L + 1]? = some (.cells (digA s) 33 (0, 0)) ∧ wr.heap[L]? = some (.cells #[.int .i64 0, .int .i64 0, .int .i64 0] 96 (0, 0)) ∧ Below w.heap.size w wr
theorem longF_two (t : ByteArray) (h : 2 ≤ t.size) : byteOf t 0 * (256 : Int) + byteOf t 1 = ((longF t : Nat) : Int) := by
  have h1 := getV_in t 0 2 (by omega) (by omega) (by omega)
  have h2 : getV t 0 2 = ((longF t : Nat) : Int) := (longF_int t).1
  rw [← h2]
  refine Eq.trans ?_ h1.symm
  show _ = valL [byteOf t (0 + 0), byteOf t (0 + 1)]
  simp [valL]
theorem longF_bytes (t : ByteArray) (h0 : 0 < t.size) (h1 : 1 < t.size) : (((t[0]'h0).toNat : Nat) : Int) * 256 + (((t[1]'h1).toNat : Nat) : Int) = ((longF t : Nat) : Int) := by
  rw [← longF_two t (by omega)]
  have hb : ∀ i (h : i < t.size), byteOf t i = (((t[i]'h).toNat : Nat) : Int) := fun i h => by
    unfold byteOf
    have h' : i < t.data.toList.length := by simpa using h
    rw [List.getD_eq_getElem?_getD, List.getElem?_eq_getElem h']
    rfl
  rw [hb 0 h0, hb 1 h1]
  rfl
theorem all3 (a b c : Int) : (#[.int .i64 a, .int .i64 b, .int .i64 c] : Array Value).all (·.oneCell') = true := by simp [Value.oneCell']
set_option maxHeartbeats 1000000 in
set_option maxRecDepth 100000 in
theorem rparse_any (t : ByteArray) (hts : t.size ≤ 1000000) (w : World) :
    Calls Tryz.prog 44 #[.string t] w (RParsePost (parseF (sumB refK refF) t) w) := by
  obtain ⟨R, hR⟩ : ∃ R, R = parseF (sumB refK refF) t := ⟨_, rfl⟩
  rw [← hR]
  obtain ⟨L, hL⟩ : ∃ x, x = w.heap.size := ⟨_, rfl⟩
  obtain ⟨w1, hw1⟩ : ∃ z, z = (w.alloc (.cells #[.int .i64 0, .int .i64 0, .int .i64 0] 96)).alloc (.cells (Array.replicate 32 (.int .u8 0)) 33) := ⟨_, rfl⟩
  have HLw : Aside (L = w.heap.size) := hL
  obtain ⟨T, hT⟩ : ∃ x, x = t.size := ⟨_, rfl⟩
  have HTS : Aside (T ≤ 1000000) := by rw [hT]; exact hts
  have HI : Aside (RPInv w L R T T (.string t) (.slice none 0 0) w1) := by
    refine ⟨T, t, zero32, [], rfl, Nat.le_refl _, by omega, by rw [hR, parseF, ← hT], by simp; omega, RecsF.nil _ _, zero32_size, ?_, ?_, ?_⟩
    · rw [hw1, hL, digA_zero, show w.heap.size + 1 = (w.alloc (.cells #[.int .i64 0, .int .i64 0, .int .i64 0] 96)).heap.size by simp]
      exact heap_new _ _
    · rw [hw1, hL]; exact whole_new (heap_new _ _) (new_alloc _ _)
    · rw [hw1]; exact new_trans (new_alloc _ _) (new_alloc _ _)
  clear hts hR
  go_enter Tryz.func44, Tryz.ntmps44
  go_wp2_with fail
  rw [z32, ← hw1, ← hL]
  clear hw1 hL hT
  go_loopg [0, 4] T (fun g v0 v4 wr => RPInv w L R T g v0 v4 wr)
  case atStart => exact HI.out
  case round =>
    clear HI
    obtain ⟨n, t, s, acc, rfl, hgas, htn, hpa, hlen, hrs, hs32, hsum, hft, hb⟩ := hrel
    obtain ⟨av, cv, rfl⟩ : ∃ av cv, u4 = .slice av acc.length cv := by
      obtain ⟨_, _, h2, _⟩ := hrs
      obtain ⟨a, cap, e, _⟩ := ownsRow_form h2
      exact ⟨a, cap, e⟩
    have HOW0 : Aside (∀ k, (Value.slice av acc.length cv).ownBlock = some k → k < wr.heap.size) := fun k hk => (hrs.own k hk).2.1
    have HRS := aside hrs
    have HSUM := aside hsum
    have HFT := aside hft
    have HS32 := aside hs32
    have HB := aside hb
    have HPA := aside hpa
    have HLEN := aside hlen
    have hal : acc.length ≤ 1000000 := by have := HTS.out; omega
    obtain ⟨na, hna⟩ : ∃ na, na = acc.length := ⟨_, rfl⟩
    rw [← hna] at hal ⊢
    have HNA := aside hna
    clear hrs hsum hb hpa hlen hna hft hs32
    by_cases h0 : t.size = 0
    · have HE : Aside (R = (acc, 0, 0)) := by rw [Aside, ← HPA.out, parse_zero _ _ _ _ _ h0]
      have hpos : ¬ (0 : Int) < t.size := by omega
      have hi3 : (Tryz.prog.info? 96).map (·.size) = some 3 := by kernel_rfl
      clear h0 hgas htn
      go_wp2_with (first
        | (refine wpList_store_row rfl _ _ _ rfl L #[.int .i64 0, .int .i64 0, .int .i64 0] rfl rfl 96 _ HFT.out hi3 rfl (all3 _ _ _) ?_; rw [setRow_self _ _ _ _ _ HFT.out])
        | fail)
      refine bodyPost_ret (rp_results HFT.out _ rfl rfl) rfl ⟨_, by rw [HE.out]; rfl, ?_, HB.out⟩
      rw [HE.out, HNA.out]
      exact HRS.out.mono (by have := HLw.out; omega)
    · obtain ⟨m, rfl⟩ : ∃ m, n = m + 1 := ⟨n - 1, by omega⟩
      have hpos : (0 : Int) < t.size := by omega
      have HH0 := aside h0
      have HSZ : Aside (t.size ≤ 1000000) := by have := HLEN.out; have := HTS.out; rw [Aside]; omega
      have HTN := aside htn
      have HGAS := aside hgas
      clear h0 htn hgas
      go_upto_region 5 with fail
      obtain ⟨X, hX⟩ : ∃ x, x = wr.heap.size := ⟨_, rfl⟩
      obtain ⟨w3, hw3⟩ : ∃ z, z = wr.alloc (.cells #[.int .i64 0, .int .i64 0, .int .i64 na] 96) := ⟨_, rfl⟩
      have hn3 : Below wr.heap.size wr w3 := by rw [hw3]; exact new_alloc _ _
      have HX3 : Aside (w3.heap[X]? = some (.cells #[.int .i64 0, .int .i64 0, .int .i64 na] 96 (0, 0))) := by rw [hw3, hX]; exact heap_new _ _
      have HXL : Aside (L ≠ X ∧ w.heap.size ≤ X) := by have := whole_lt HFT.out; have := HB.out.size; rw [Aside]; omega
      have HXL2 : Aside (L + 1 < X) := by have := whole_lt HSUM.out; rw [Aside]; omega
      have HOW : Aside (∀ k, (Value.slice av acc.length cv).ownBlock = some k → k < X) := by rw [hX]; exact HOW0.out
      have HRS3 := aside (HRS.out.on hn3)
      have HSUM3 := aside (whole_new HSUM.out hn3)
      have HFT3 := aside (whole_new HFT.out hn3)
      have HB3 := aside (HB.out.trans (hn3.mono HB.out.size))
      rw [← hw3, ← hX]
      clear hn3 hw3 hX HRS HSUM HB HFT HOW0
      by_cases h2 : t.size < 2
      · have HC : Aside (R = ([], 14, acc.length)) := by
          rw [Aside, ← HPA.out]
          exact par_fault HH0.out (code_short _ _ (by omega)) (by decide)
        have hd : decide ((t.size : Int) < 2) = true := decide_eq_true (by omega)
        have hd' : (t.size : Int) < 2 := by omega
        clear h2
        go_quiet (fail)
        have HX4 : Aside ((w3.drewN nq).heap[X]? = some (.cells #[.int .i64 0, .int .i64 0, .int .i64 na] 96 (0, 0))) := HX3.out
        have HFT4 : Aside ((w3.drewN nq).heap[L]? = some (.cells #[.int .i64 0, .int .i64 0, .int .i64 0] 96 (0, 0))) := HFT3.out
        have HB4 : Aside (Below w.heap.size w (w3.drewN nq)) := st_new w _ _ HB3.out (new_drewN _ _)
        clear HX3 HFT3 HB3 HRS3 HSUM3
        generalize w3.drewN nq = w4 at HX4 HFT4 HB4 ⊢
        have c0 : w4.cell? ⟨X, 0, none⟩ = some (.int .i64 0) := cell_whole HX4.out 0
        have f0 := frozen_whole HX4.out 0
        have HXa : Aside ((w4.setCell ⟨X, 0, none⟩ (.int .i64 14)).heap[X]? = some (.cells #[.int .i64 14, .int .i64 0, .int .i64 na] 96 (0, 0))) := whole_set HX4.out 0 _
        have HFa : Aside ((w4.setCell ⟨X, 0, none⟩ (.int .i64 14)).heap[L]? = some (.cells #[.int .i64 0, .int .i64 0, .int .i64 0] 96 (0, 0))) := whole_other HFT4.out HXL.out.1 _ _
        have HBa : Aside (Below w.heap.size w (w4.setCell ⟨X, 0, none⟩ (.int .i64 14))) := HB4.out.setCell (p := ⟨X, 0, none⟩) HXL.out.2 _
        clear HX4 HFT4 HB4
        go_upto_region 7 with fail
        generalize w4.setCell ⟨X, 0, none⟩ (.int .i64 14) = wf at HXa HFa HBa ⊢
        clear c0 f0
        have hi3 : (Tryz.prog.info? 96).map (·.size) = some 3 := by kernel_rfl
        have c0 : wf.cell? ⟨X, 0, none⟩ = some (.int .i64 14) := cell_whole HXa.out 0
        have c1 : wf.cell? ⟨X, 1, none⟩ = some (.int .i64 0) := cell_whole HXa.out 1
        have c2 : wf.cell? ⟨X, 2, none⟩ = some (.int .i64 na) := cell_whole HXa.out 2
        go_still_tail 2, (by kernel_rfl)
        go_wp2_with (first
          | (refine wpList_store_row rfl _ _ _ rfl L #[.int .i64 14, .int .i64 0, .int .i64 na] rfl rfl 96 _ HFa.out hi3 rfl (all3 _ _ _) ?_)
          | fail)
        refine bodyPost_ret (rp_results (setRow_heap wf.drew L _ _ _ _ HFa.out) _ rfl rfl) rfl ⟨_, by rw [HC.out, ← HNA.out], by rw [HC.out]; exact RecsF.nil _ _, ?_⟩
        exact below_setRow HBa.out.drew (by rw [HLw.out]; exact Nat.le_refl _) _
      · have h2i : ¬ (t.size : Int) < 2 := by omega
        have hd : decide ((t.size : Int) < 2) = false := decide_eq_false h2i
        have hz1 : (1 : Int) < t.size := by omega
        have hz0 : (0 : Int) < t.size := by omega
        have ht9 := HSZ.out
        have p0 : 0 < t.size := by omega
        have p1 : 1 < t.size := by omega
        have b0 := (t[0]'p0).toNat_lt
        have b1 := (t[1]'p1).toNat_lt
        have hN2 := longF_bytes t p0 p1
        obtain ⟨N, hN⟩ : ∃ N, N = longF t := ⟨_, rfl⟩
        rw [← hN] at hN2
        have hN6 : N ≤ 65535 := by rw [hN]; exact (longF_int t).2
        have HN := aside hN
        obtain ⟨B0, hB0⟩ : ∃ b, b = (t[0]'p0).toNat := ⟨_, rfl⟩
        obtain ⟨B1, hB1⟩ : ∃ b, b = (t[1]'p1).toNat := ⟨_, rfl⟩
        rw [← hB0] at b0 hN2
        rw [← hB1] at b1 hN2
        have e0 : IntKind.i64.wrap (((t[0]'p0).toNat : Nat) : Int) = (B0 : Int) := by rw [← hB0]; exact IntWalk.i64_in _ (by omega)
        have e1 : IntKind.i64.wrap (((t[1]'p1).toNat : Nat) : Int) = (B1 : Int) := by rw [← hB1]; exact IntWalk.i64_in _ (by omega)
        have e2 : IntKind.i64.wrap ((B0 : Int) * 256) = (B0 : Int) * 256 := IntWalk.i64_in _ (by omega)
        have e3 : IntKind.i64.wrap ((B0 : Int) * 256 + B1) = (N : Int) := by rw [IntWalk.i64_in _ (by omega)]; exact hN2
        have e4 : IntKind.i64.wrap ((N : Int) + 32) = (N : Int) + 32 := IntWalk.i64_in _ (by omega)
        have E1234 := aside (And.intro e0 (And.intro e1 (And.intro e2 e3)))
        clear hN2 hN hB0 hB1 b0 b1 h2
        by_cases hle : 34 + N ≤ t.size
        case neg =>
          have HC : Aside (R = ([], 14, acc.length)) := by
            rw [Aside, ← HPA.out]
            exact par_fault HH0.out (code_short _ _ (by rw [← HN.out]; omega)) (by decide)
          have hlt : ((t.size : Int) - 2 < (N : Int) + 32) := by omega
          have hdd : decide ((t.size : Int) - 2 < (N : Int) + 32) = true := decide_eq_true hlt
          clear hle
          go_quiet (fail)
          have HX4 : Aside ((w3.drewN nq).heap[X]? = some (.cells #[.int .i64 0, .int .i64 0, .int .i64 na] 96 (0, 0))) := HX3.out
          have HFT4 : Aside ((w3.drewN nq).heap[L]? = some (.cells #[.int .i64 0, .int .i64 0, .int .i64 0] 96 (0, 0))) := HFT3.out
          have HB4 : Aside (Below w.heap.size w (w3.drewN nq)) := st_new w _ _ HB3.out (new_drewN _ _)
          clear HX3 HFT3 HB3 HRS3 HSUM3 e0 e1 e2 e3 e4 E1234
          generalize w3.drewN nq = w4 at HX4 HFT4 HB4 ⊢
          have c0 : w4.cell? ⟨X, 0, none⟩ = some (.int .i64 0) := cell_whole HX4.out 0
          have f0 := frozen_whole HX4.out 0
          have HXa : Aside ((w4.setCell ⟨X, 0, none⟩ (.int .i64 14)).heap[X]? = some (.cells #[.int .i64 14, .int .i64 0, .int .i64 na] 96 (0, 0))) := whole_set HX4.out 0 _
          have HFa : Aside ((w4.setCell ⟨X, 0, none⟩ (.int .i64 14)).heap[L]? = some (.cells #[.int .i64 0, .int .i64 0, .int .i64 0] 96 (0, 0))) := whole_other HFT4.out HXL.out.1 _ _
          have HBa : Aside (Below w.heap.size w (w4.setCell ⟨X, 0, none⟩ (.int .i64 14))) := HB4.out.setCell (p := ⟨X, 0, none⟩) HXL.out.2 _
          clear HX4 HFT4 HB4
          go_upto_region 7 with fail
          generalize w4.setCell ⟨X, 0, none⟩ (.int .i64 14) = wf at HXa HFa HBa ⊢
          clear c0 f0
          have hi3 : (Tryz.prog.info? 96).map (·.size) = some 3 := by kernel_rfl
          have c0 : wf.cell? ⟨X, 0, none⟩ = some (.int .i64 14) := cell_whole HXa.out 0
          have c1 : wf.cell? ⟨X, 1, none⟩ = some (.int .i64 0) := cell_whole HXa.out 1
          have c2 : wf.cell? ⟨X, 2, none⟩ = some (.int .i64 na) := cell_whole HXa.out 2
          go_still_tail 2, (by kernel_rfl)
          go_wp2_with (first
            | (refine wpList_store_row rfl _ _ _ rfl L #[.int .i64 14, .int .i64 0, .int .i64 na] rfl rfl 96 _ HFa.out hi3 rfl (all3 _ _ _) ?_)
            | fail)
          refine bodyPost_ret (rp_results (setRow_heap wf.drew L _ _ _ _ HFa.out) _ rfl rfl) rfl ⟨_, by rw [HC.out, ← HNA.out], by rw [HC.out]; exact RecsF.nil _ _, ?_⟩
          exact below_setRow HBa.out.drew (by rw [HLw.out]; exact Nat.le_refl _) _
        have hlt : ¬ ((t.size : Int) - 2 < (N : Int) + 32) := by omega
        have hdd : decide ((t.size : Int) - 2 < (N : Int) + 32) = false := decide_eq_false hlt
        go_quiet (fail)
        have HX4 : Aside ((w3.drewN nq).heap[X]? = some (.cells #[.int .i64 0, .int .i64 0, .int .i64 na] 96 (0, 0))) := HX3.out
        have HFT4 : Aside ((w3.drewN nq).heap[L]? = some (.cells #[.int .i64 0, .int .i64 0, .int .i64 0] 96 (0, 0))) := HFT3.out
        have HSUM4 := aside (whole_new HSUM3.out (new_drewN w3 nq))
        have HRS4 := aside (HRS3.out.on (new_drewN w3 nq))
        have HB4 : Aside (Below w.heap.size w (w3.drewN nq)) := st_new w _ _ HB3.out (new_drewN _ _)
        clear HX3 HFT3 HB3 HRS3 HSUM3
        generalize w3.drewN nq = w4 at HX4 HFT4 HB4 HRS4 HSUM4 ⊢
        go_upto_region 8 with fail
        go_quiet (fail)
        have HX5 : Aside ((w4.drewN nq).heap[X]? = some (.cells #[.int .i64 0, .int .i64 0, .int .i64 na] 96 (0, 0))) := HX4.out
        have HFT5 : Aside ((w4.drewN nq).heap[L]? = some (.cells #[.int .i64 0, .int .i64 0, .int .i64 0] 96 (0, 0))) := HFT4.out
        have HSUM5 := aside (whole_new HSUM4.out (new_drewN w4 nq))
        have HRS5 := aside (HRS4.out.on (new_drewN w4 nq))
        have HB5 : Aside (Below w.heap.size w (w4.drewN nq)) := st_new w _ _ HB4.out (new_drewN _ _)
        clear HX4 HFT4 HB4 HRS4 HSUM4 e0 e1 e2 e3 E1234 hlt hdd
        generalize w4.drewN nq = w5 at HX5 HFT5 HB5 HRS5 HSUM5 ⊢
        obtain ⟨bd, hbd⟩ : ∃ bd, bd = t.extract 2 (2 + N) := ⟨_, rfl⟩
        have HBD : Aside (bd = bodyF t) := by rw [Aside, hbd, HN.out, bodyF]
        have hle1 : (34 + (N : Int)) ≤ t.size := by omega
        have hle2 : (2 + (N : Int)) ≤ t.size := by omega
        have e2 : IntKind.i64.wrap (2 + (N : Int)) = 2 + (N : Int) := IntWalk.i64_in _ (by omega)
        have n2 : (2 + (N : Int)).toNat = 2 + N := by omega
        go_upto_region 10 with fail
        rw [← hbd]
        have hbz : bd.size ≤ 1000000 := by rw [hbd, ByteArray.size_extract]; have := HSZ.out; omega
        have HBZ := aside hbz
        obtain ⟨sm, hsm⟩ : ∃ sm, sm = t.extract (2 + N) (34 + N) := ⟨_, rfl⟩
        have HSM := aside hsm
        have hdz : (Tryz.prog.info? 33).map (·.size) = some (digA s).size := by rw [digA_size]; kernel_rfl
        clear hbd hbz hsm hle2 e2 n2
        go_wp2_with (first
          | (refine wpList_load_row rfl _ _ rfl (L + 1) rfl _ (digA s) (0, 0) _ HSUM5.out Tryz.underlying33 rfl hdz ?_)
          | fail)
        refine (rnext_any s bd HS32.out (by have := HBZ.out; omega) w5).mono ?_
        rintro e w6 ⟨rfl, hb6⟩
        obtain ⟨u, hu⟩ : ∃ u, u = sumB refK refF (s ++ bd) := ⟨_, rfl⟩
        rw [← hu]
        have hu32 : u.size = 32 := by rw [hu]; exact sumB_size _ _ _
        have HX6 := aside (whole_new HX5.out hb6)
        have HFT6 := aside (whole_new HFT5.out hb6)
        have HSUM6 := aside (whole_new HSUM5.out hb6)
        have HRS6 := aside (HRS5.out.on hb6)
        have HB6 := aside (st_new w _ _ HB5.out hb6)
        have HU := aside hu
        obtain ⟨D, hD⟩ : ∃ D, D = digA u := ⟨_, rfl⟩
        have hDs : D.size = 32 := by rw [hD]; exact digA_size u
        have hD1 : D.all (·.oneCell') = true := by rw [hD]; exact digA_one u
        have hdD : (Tryz.prog.info? 33).map (·.size) = some D.size := by rw [hDs]; kernel_rfl
        rw [← hD]
        have HD := aside hD
        have HU32 := aside hu32
        clear hb6 hu hu32 hD hdz HX5 HFT5 HSUM5 HRS5 HB5
        go_upto_region 11 with (first
          | (refine wpList_store_row rfl _ _ _ rfl w6.heap.size D rfl rfl 33 _ (heap_new w6 _) hdD (by rw [hDs]; rfl) hD1 ?_; rw [World.setRow_alloc_new])
          | fail)
        obtain ⟨Y, hY⟩ : ∃ x, x = w6.heap.size := ⟨_, rfl⟩
        obtain ⟨w7, hw7⟩ : ∃ z, z = w6.alloc (.cells D 33) := ⟨_, rfl⟩
        have hn7 : Below w6.heap.size w6 w7 := by rw [hw7]; exact new_alloc _ _
        have HY7 : Aside (w7.heap[Y]? = some (.cells D 33 (0, 0))) := by rw [hw7, hY]; exact heap_new _ _
        have HYL : Aside (X < Y ∧ Y < w7.heap.size) := by have h1 := whole_lt HX6.out; have h2 := whole_lt HY7.out; exact ⟨by omega, h2⟩
        have HX7 := aside (whole_new HX6.out hn7)
        have HFT7 := aside (whole_new HFT6.out hn7)
        have HSUM7 := aside (whole_new HSUM6.out hn7)
        have HRS7 := aside (HRS6.out.on hn7)
        have HB7 := aside (st_new w _ _ HB6.out hn7)
        rw [← hw7, ← hY]
        clear hn7 hw7 hY HX6 HFT6 HSUM6 HRS6 HB6 hD1 hDs
        have hsa : SumAt w7 Y u := SumAt.of HU32.out (by rw [← HD.out]; exact HY7.out)
        have kc : ∀ n, (convert 26 9 (.slice (some ⟨Y, 0, none⟩) 32 32)).run Tryz.prog (w7.drewN n) = .ok (.string u) (w7.drewN n) := fun n => by
          have h := run_convert_bytes_arg (P := Tryz.prog) (w := w7.drewN n) 26 5 Tryz.underlying26 Tryz.underlying5 Y 0 32 32 (numsOf u) ((numsOf_length u).trans HU32.out) (fun i hi => hsa.nums i hi) 9 Tryz.underlying9
          rw [strOf_numsOf] at h
          exact h
        have kc0 : (convert 26 9 (.slice (some ⟨Y, 0, none⟩) 32 32)).run Tryz.prog w7 = .ok (.string u) w7 := kc 0
        clear hsa
        have e2 : IntKind.i64.wrap (2 + (N : Int)) = 2 + (N : Int) := IntWalk.i64_in _ (by omega)
        have e3 : IntKind.i64.wrap (34 + (N : Int)) = 34 + (N : Int) := IntWalk.i64_in _ (by omega)
        have n2 : (2 + (N : Int)).toNat = 2 + N := by omega
        have n3 : (34 + (N : Int)).toNat = 34 + N := by omega
        have q1 : (0 : Int) ≤ 2 + N := by omega
        have q2 : (2 + (N : Int)) ≤ 34 + N := by omega
        by_cases hq : u = sm
        case neg =>
          have HC : Aside (R = ([], 21, acc.length)) := by
            rw [Aside, ← HPA.out]
            refine par_fault HH0.out ?_ (by decide)
            rw [codeF, if_neg (by rw [← HN.out]; omega), if_neg]
            rw [← HN.out, ← HBD.out, ← HU.out, ← HSM.out]
            exact hq
          have s1 : (u.toList == sm.toList) = false := str_ne hq
          have s2 : (u.toList != sm.toList) = true := by rw [bne, s1]; rfl
          clear hq
          have hsm := HSM.out
          clear HSM
          subst hsm
          go_quiet (fail)
          have HX8 : Aside ((w7.drewN nq).heap[X]? = some (.cells #[.int .i64 0, .int .i64 0, .int .i64 na] 96 (0, 0))) := HX7.out
          have HFT8 : Aside ((w7.drewN nq).heap[L]? = some (.cells #[.int .i64 0, .int .i64 0, .int .i64 0] 96 (0, 0))) := HFT7.out
          have HB8 : Aside (Below w.heap.size w (w7.drewN nq)) := st_new w _ _ HB7.out (new_drewN _ _)
          clear HX7 HFT7 HB7 HRS7 HSUM7 HY7 kc kc0 e2 e3 n2 n3 q1 q2 s1 s2
          generalize w7.drewN nq = w8 at HX8 HFT8 HB8 ⊢
          have c0 : w8.cell? ⟨X, 0, none⟩ = some (.int .i64 0) := cell_whole HX8.out 0
          have f0 := frozen_whole HX8.out 0
          have HXa : Aside ((w8.setCell ⟨X, 0, none⟩ (.int .i64 21)).heap[X]? = some (.cells #[.int .i64 21, .int .i64 0, .int .i64 na] 96 (0, 0))) := whole_set HX8.out 0 _
          have HFa : Aside ((w8.setCell ⟨X, 0, none⟩ (.int .i64 21)).heap[L]? = some (.cells #[.int .i64 0, .int .i64 0, .int .i64 0] 96 (0, 0))) := whole_other HFT8.out HXL.out.1 _ _
          have HBa : Aside (Below w.heap.size w (w8.setCell ⟨X, 0, none⟩ (.int .i64 21))) := HB8.out.setCell (p := ⟨X, 0, none⟩) HXL.out.2 _
          clear HX8 HFT8 HB8
          go_upto_region 13 with fail
          generalize w8.setCell ⟨X, 0, none⟩ (.int .i64 21) = wf at HXa HFa HBa ⊢
          clear c0 f0
          have hi3 : (Tryz.prog.info? 96).map (·.size) = some 3 := by kernel_rfl
          have c0 : wf.cell? ⟨X, 0, none⟩ = some (.int .i64 21) := cell_whole HXa.out 0
          have c1 : wf.cell? ⟨X, 1, none⟩ = some (.int .i64 0) := cell_whole HXa.out 1
          have c2 : wf.cell? ⟨X, 2, none⟩ = some (.int .i64 na) := cell_whole HXa.out 2
          go_still_tail 2, (by kernel_rfl)
          go_wp2_with (first
            | (refine wpList_store_row rfl _ _ _ rfl L #[.int .i64 21, .int .i64 0, .int .i64 na] rfl rfl 96 _ HFa.out hi3 rfl (all3 _ _ _) ?_)
            | fail)
          refine bodyPost_ret (rp_results (setRow_heap wf.drew L _ _ _ _ HFa.out) _ rfl rfl) rfl ⟨_, by rw [HC.out, ← HNA.out], by rw [HC.out]; exact RecsF.nil _ _, ?_⟩
          exact below_setRow HBa.out.drew (by rw [HLw.out]; exact Nat.le_refl _) _
        have HCODE : Aside (codeF (sumB refK refF) s t = (readF bd).2) := by
          rw [Aside, codeF, if_neg (by rw [← HN.out]; omega), if_pos, ← HBD.out]
          rw [← HN.out, ← HBD.out, ← HU.out, ← HSM.out]
          exact hq
        have s1 : (u.toList == sm.toList) = true := str_eq hq
        have s2 : (u.toList != sm.toList) = false := by rw [bne, s1]; rfl
        have hsm := HSM.out
        clear HSM hq
        subst hsm
        go_quiet (fail)
        have HX8 : Aside ((w7.drewN nq).heap[X]? = some (.cells #[.int .i64 0, .int .i64 0, .int .i64 na] 96 (0, 0))) := HX7.out
        have HFT8 : Aside ((w7.drewN nq).heap[L]? = some (.cells #[.int .i64 0, .int .i64 0, .int .i64 0] 96 (0, 0))) := HFT7.out
        have HSUM8 := aside (whole_new HSUM7.out (new_drewN w7 nq))
        have HRS8 := aside (HRS7.out.on (new_drewN w7 nq))
        have HY8 := aside (whole_new HY7.out (new_drewN w7 nq))
        have HYL8 : Aside (X < Y ∧ Y < (w7.drewN nq).heap.size) := HYL.out
        have HB8 : Aside (Below w.heap.size w (w7.drewN nq)) := st_new w _ _ HB7.out (new_drewN _ _)
        clear HX7 HFT7 HB7 HRS7 HSUM7 HY7 kc kc0 e2 e3 n2 n3 q1 q2 s1 s2 HYL
        generalize w7.drewN nq = w8 at HX8 HFT8 HB8 HSUM8 HRS8 HY8 HYL8 ⊢
        go_wp2_with fail
        refine (rread_any bd (by have := HBZ.out; omega) w8).mono ?_
        rintro e w9 ⟨rv, rfl, hrf, hb9⟩
        have HR9 := aside (hrf.mono (show L + 2 ≤ w8.heap.size by have := HYL8.out; have := HXL2.out; omega))
        have HX9 := aside (whole_new HX8.out hb9)
        have HFT9 := aside (whole_new HFT8.out hb9)
        have HSUM9 := aside (whole_new HSUM8.out hb9)
        have HRS9 := aside (HRS8.out.on hb9)
        have HY9 := aside (whole_new HY8.out hb9)
        have HB9 := aside (st_new w _ _ HB8.out hb9)
        have HYL9 : Aside (X < Y ∧ Y < w9.heap.size) := ⟨HYL8.out.1, Nat.lt_of_lt_of_le HYL8.out.2 hb9.size⟩
        obtain ⟨cd, hcd⟩ : ∃ cd, cd = (readF bd).2 := ⟨_, rfl⟩
        obtain ⟨d, hd⟩ : ∃ d, d = (readF bd).1 := ⟨_, rfl⟩
        obtain ⟨Q, hQ⟩ : ∃ Q, Q = recCells rv := ⟨_, rfl⟩
        have hone : Q.all (·.oneCell') = true := by rw [hQ]; exact hrf.one
        have hQ49 : Q.size = 49 := by rw [hQ]; exact recCells_size rv
        have hiQ : (Tryz.prog.info? 38).map (·.size) = some Q.size := by rw [hQ49]; kernel_rfl
        have HQ49 := aside hQ49
        have HONE := aside hone
        rw [← hd] at HR9
        rw [← hcd] at HCODE ⊢
        rw [← hQ]
        have HD9 := aside hd
        have HQ := aside hQ
        clear hrf hb9 hcd hd hQ HX8 HFT8 HSUM8 HRS8 HY8 HB8 HYL8
        go_upto_region 15 with (first
          | (refine wpList_store_row rfl _ _ _ rfl w9.heap.size Q rfl rfl 38 (recCells {}) (heap_new w9 _) hiQ (by rw [hQ49]; exact recCells_size {}) hone ?_; rw [World.setRow_alloc_new])
          | fail)
        obtain ⟨Z, hZ⟩ : ∃ x, x = w9.heap.size := ⟨_, rfl⟩
        obtain ⟨w10, hw10⟩ : ∃ z, z = w9.alloc (.cells Q 38) := ⟨_, rfl⟩
        have hn10 : Below w9.heap.size w9 w10 := by rw [hw10]; exact new_alloc _ _
        have HZ10 : Aside (w10.heap[Z]? = some (.cells Q 38 (0, 0))) := by rw [hw10, hZ]; exact heap_new _ _
        have HX10 := aside (whole_new HX9.out hn10)
        have HFT10 := aside (whole_new HFT9.out hn10)
        have HSUM10 := aside (whole_new HSUM9.out hn10)
        have HRS10 := aside (HRS9.out.on hn10)
        have HR10 := aside (HR9.out.on hn10)
        have HY10 := aside (whole_new HY9.out hn10)
        have HB10 := aside (st_new w _ _ HB9.out hn10)
        have HYL10 : Aside (X < Y ∧ Y < w10.heap.size) := ⟨HYL9.out.1, Nat.lt_of_lt_of_le HYL9.out.2 hn10.size⟩
        rw [← hw10, ← hZ]
        clear hn10 hw10 hZ HX9 HFT9 HSUM9 HRS9 HR9 HY9 HB9 HYL9 hone hQ49
        by_cases hc0 : cd = 0
        case neg =>
          have HC : Aside (R = ([], cd, acc.length)) := by rw [Aside, ← HPA.out]; exact par_fault HH0.out HCODE.out hc0
          have ec : (cd != 0) = true := by simpa using hc0
          clear hc0 HZ10 HRS10 HR10 HY10 HSUM10 hiQ hdD
          go_upto_region 16 with fail
          have c0 : w10.cell? ⟨X, 0, none⟩ = some (.int .i64 0) := cell_whole HX10.out 0
          have f0 := frozen_whole HX10.out 0
          have HXa : Aside ((w10.setCell ⟨X, 0, none⟩ (.int .i64 cd)).heap[X]? = some (.cells #[.int .i64 cd, .int .i64 0, .int .i64 na] 96 (0, 0))) := whole_set HX10.out 0 _
          have HFa : Aside ((w10.setCell ⟨X, 0, none⟩ (.int .i64 cd)).heap[L]? = some (.cells #[.int .i64 0, .int .i64 0, .int .i64 0] 96 (0, 0))) := whole_other HFT10.out HXL.out.1 _ _
          have HBa : Aside (Below w.heap.size w (w10.setCell ⟨X, 0, none⟩ (.int .i64 cd))) := HB10.out.setCell (p := ⟨X, 0, none⟩) HXL.out.2 _
          clear HX10 HFT10 HB10
          go_upto_region 17 with fail
          generalize w10.setCell ⟨X, 0, none⟩ (.int .i64 cd) = wf at HXa HFa HBa ⊢
          clear c0 f0
          have hi3 : (Tryz.prog.info? 96).map (·.size) = some 3 := by kernel_rfl
          have c0 : wf.cell? ⟨X, 0, none⟩ = some (.int .i64 cd) := cell_whole HXa.out 0
          have c1 : wf.cell? ⟨X, 1, none⟩ = some (.int .i64 0) := cell_whole HXa.out 1
          have c2 : wf.cell? ⟨X, 2, none⟩ = some (.int .i64 na) := cell_whole HXa.out 2
          go_still_tail 2, (by kernel_rfl)
          go_wp2_with (first
            | (refine wpList_store_row rfl _ _ _ rfl L #[.int .i64 cd, .int .i64 0, .int .i64 na] rfl rfl 96 _ HFa.out hi3 rfl (all3 _ _ _) ?_)
            | fail)
          refine bodyPost_ret (rp_results (setRow_heap wf.drew L _ _ _ _ HFa.out) _ rfl rfl) rfl ⟨_, by rw [HC.out, ← HNA.out], by rw [HC.out]; exact RecsF.nil _ _, ?_⟩
          exact below_setRow HBa.out.drew (by rw [HLw.out]; exact Nat.le_refl _) _
        subst hc0
        have HSTEP : Aside (parseA (sumB refK refF) m u (restF t) (acc ++ [d]) = R) := by rw [Aside, ← HPA.out, par_step HH0.out HCODE.out, ← HBD.out, ← HU.out, ← HD9.out]
        go_upto_region 18 with fail
        obtain ⟨rvs, hv1, hv2, hv3⟩ := HRS10.out
        have HV1 := aside hv1
        have HV2 : Aside (w10.ownsRow (L + 2) 38 49 (.slice av na cv) na (rvs.flatMap fun r => (recCells r).toList)) := by rw [HNA.out]; exact hv2
        have HV3 := aside hv3
        have HL10 : Aside (L + 2 ≤ w10.heap.size) := by have h1 := HYL10.out; have h2 := HXL2.out; rw [Aside]; omega
        clear hv1 hv2 hv3
        go_upto_region 19 with (first
          | (refine wpList_load_row rfl _ _ rfl Z rfl _ Q (0, 0) _ HZ10.out Tryz.underlying38 rfl hiQ ?_)
          | (refine wpList_slice_by rfl 48 1 _ rfl (.agg Q) _ rfl (rec_slice Q HQ49.out w10) ?_)
          | (at_builtin; refine wpList_append_one rfl _ _ 48 38 rfl (.agg (recCells {})) 49 216 Tryz.underlying48 Tryz.infoRec rfl (by decide) (L + 2) _ na _ rfl (World.ownsRow.alloc HV2.out _) w10.heap.size Q.toList ?c1 ?c2 rfl ?c3 ?c4 ?c5 ?c6 ?_)
          | fail)
        case c1 => first | exact HQ49.out | (rw [Array.length_toList]; exact HQ49.out)
        case c2 => intro y hy; exact (Array.all_eq_true_iff_forall_mem.1 HONE.out) y (by simpa using hy)
        case c4 => unfold maxLen; omega
        case c5 => omega
        case c6 => have := HL10.out; simp; omega
        intro v' w11 hown' hgrow
        have hkg : ∀ K : Nat → Prop, (∀ k, (Value.slice av na cv).ownBlock = some k → ¬ K k) → Keeps K w10 w11 := fun K hK => (keeps_of_new (new_alloc w10 (.cells Q 38)) K).trans (keeps_grown hgrow K hK)
        have HRS11 : Aside (RecsF (L + 2) w11 v' (acc ++ [d])) := by
          refine RecsF.snoc (w := w10) (v := .slice av na cv) HV1.out (by rw [← HNA.out]; exact HV2.out) HV3.out HR10.out hkg ?_
          rw [← HNA.out, ← HQ.out]
          exact hown'
        have hob : ∀ k, (Value.slice av na cv).ownBlock = some k → L + 2 ≤ k ∧ k < X := fun k hk => ⟨(World.ownsRow.lt HV2.out k hk).1, HOW.out k (by rw [← HNA.out]; exact hk)⟩
        have hkK := hkg (fun k => k < L + 2 ∨ X ≤ k) (fun k hk => by have := hob k hk; omega)
        have HX11 : Aside (X < w11.heap.size) := Nat.lt_of_lt_of_le (whole_lt HX10.out) hkK.size
        have HFT11 := aside (whole_keeps HFT10.out hkK (.inl (by omega)))
        have HSUM11 := aside (whole_keeps HSUM10.out hkK (.inl (by omega)))
        have HY11 := aside (whole_keeps HY10.out hkK (.inr (by have := HYL10.out; omega)))
        have HB11 : Aside (Below w.heap.size w w11) := HB10.out.trans (((hkg (· < w.heap.size) (fun k hk => by have := hob k hk; have := HLw.out; omega)).below HB10.out.size))
        clear hown' hgrow hkg hob hkK HX10 HFT10 HSUM10 HY10 HB10 HZ10 HRS10 HR10 HV1 HV2 HV3
        have hdz : (digA s).size = D.size := by rw [digA_size, HD.out, digA_size]
        have hD1 : D.all (·.oneCell') = true := by rw [HD.out]; exact digA_one u
        obtain ⟨w12, hw12⟩ : ∃ z, z = w11.setRow (L + 1) D := ⟨_, rfl⟩
        have HSUM12 : Aside (w12.heap[L + 1]? = some (.cells (digA u) 33 (0, 0))) := by rw [Aside, hw12, ← HD.out]; exact setRow_heap w11 (L + 1) _ _ _ _ HSUM11.out
        have HFT12 : Aside (w12.heap[L]? = some (.cells #[.int .i64 0, .int .i64 0, .int .i64 0] 96 (0, 0))) := by rw [Aside, hw12, setRow_other w11 (L + 1) L _ (by omega)]; exact HFT11.out
        have HRS12 : Aside (RecsF (L + 2) w12 v' (acc ++ [d])) := by rw [Aside, hw12]; exact HRS11.out.keeps (keeps_setRow (K := (· ≠ L + 1)) w11 (L + 1) D (fun h => h rfl)) (fun k hk => by omega)
        have HB12 : Aside (Below w.heap.size w w12) := by rw [Aside, hw12]; exact below_setRow HB11.out (by have := HLw.out; omega) _
        have HW12 := aside hw12
        clear hw12 HFT11 HRS11 HB11
        go_upto_region 20 with (first
          | (refine wpList_load_row rfl _ _ rfl Y rfl _ D (0, 0) _ HY11.out Tryz.underlying33 rfl hdD ?_)
          | (refine wpList_store_row rfl _ _ _ rfl (L + 1) D rfl rfl 33 _ HSUM11.out hdD hdz hD1 ?_; rw [← HW12.out])
          | fail)
        clear hdz hD1 hdD hiQ HY11 HSUM11
        have e34 : IntKind.i64.wrap (34 + (N : Int)) = 34 + (N : Int) := IntWalk.i64_in _ (by omega)
        have n34 : (34 + (N : Int)).toNat = 34 + N := by omega
        go_wp2_with fail
        go_roundg m
        case measure => have := HGAS.out; omega
        case rel =>
          refine ⟨m, restF t, u, acc ++ [d], ?_, Nat.le_refl _, ?_, HSTEP.out, ?_, HRS12.out, HU32.out, HSUM12.out, HFT12.out, HB12.out⟩
          · rw [restF, ← HN.out]
          · have h1 := restF_size t (by rw [← HN.out]; omega)
            have := HTN.out
            omega
          · have h1 := restF_size t (by rw [← HN.out]; omega)
            have := HLEN.out
            rw [List.length_append, List.length_cons, List.length_nil]
            omega
end Go.Proofs.YtkpmcjfolncmmaaGreatDoor
namespace Go.Proofs.YtkpmcjfolncmmaaGreatDoor
open Go.RowKit
theorem rt_results {w : World} {X : Nat} {v : Value} {s : ByteArray} (h : w.heap[X]? = some (.cells (digA s) 33 (0, 0))) (tmps : Array Value) (h2 : tmps.getD 2 undef = v) (h3 : tmps.getD 3 undef = .pointer (some ⟨X, 0, none⟩)) :
    (results Tryz.f13 tmps).run Tryz.prog w = .ok (.tuple #[v, .agg (digA s)]) w := by
  have h2' : tmps[2]?.getD undef = v := by simpa using h2
  have h3' : tmps[3]?.getD undef = .pointer (some ⟨X, 0, none⟩) := by simpa using h3
  have hl := run_loadVar_row (P := Tryz.prog) w X 33 33 (digA s) (0, 0) _ h Tryz.underlying33 rfl (by rw [digA_size]; kernel_rfl)
  simp [results, Tryz.results13, asAddr, h2', h3', hl]
theorem text_snoc (S : ByteArray → ByteArray) : ∀ (l : List RecD) (s : ByteArray) (d : RecD), textF S s (l ++ [d]) = textF S s l ++ entryF S (lastF S s l) d ∧ lastF S s (l ++ [d]) = S (lastF S s l ++ bytesF d)
  | [], s, d => ⟨by show entryF S s d ++ _ = _ ++ _; rw [show textF S (S (s ++ bytesF d)) [] = ByteArray.empty from rfl, ba_append_nil]; exact (ba_nil_append _).symm, rfl⟩
  | x :: l, s, d => by
    obtain ⟨h1, h2⟩ := text_snoc S l (S (s ++ bytesF x)) d
    refine ⟨?_, h2⟩
    show entryF S s x ++ textF S _ (l ++ [d]) = (entryF S s x ++ textF S _ l) ++ _
    rw [h1, ByteArray.append_assoc]
    rfl
theorem lastF_size {S : ByteArray → ByteArray} (hS : ∀ x, (S x).size = 32) : ∀ (l : List RecD) (s : ByteArray), s.size = 32 → (lastF S s l).size = 32
  | [], _, h => h
  | _ :: l, _, _ => lastF_size hS l _ (hS _)
theorem cv_keep {w W : World} {D : Nat} {s : ByteArray} (h : SumAt w D s) (hb : Aside (Below w.heap.size w W)) :
    (convert 26 9 (.slice (some ⟨D, 0, none⟩) 32 32)).run Tryz.prog W = .ok (.string s) W ∧ Aside (Below w.heap.size w W) := by
  have h2 := run_convert_bytes_arg (P := Tryz.prog) (w := W) 26 5 Tryz.underlying26 Tryz.underlying5 D 0 32 32 (numsOf s) ((numsOf_length s).trans h.len) (fun i hi => (h.on hb.out).nums i hi) 9 Tryz.underlying9
  rw [strOf_numsOf] at h2
  exact ⟨h2, hb⟩
theorem range_whole {w : World} {b : Nat} {cs : Array Value} {t : TypeId} {fr : Nat × Nat} (h : w.heap[b]? = some (.cells cs t fr)) : w.rangeAt b 0 cs.toList := fun j v hv => by
  rw [Nat.zero_add, cell_whole h, ← Array.getElem?_toList]
  exact hv
theorem step_store_row {ops : Array Oper} {o : Oper} {a : Act} {w : World} {K : Act → World → Prop} {Q : Exit → Act → World → Prop} {E' : Prop} (hgd : o.guard = none) (ty : TypeId) (x y : Operand) (ho : o.op = .store ty x y)
    (g : Nat) (cells : Array Value) (hx : a.eval x = .pointer (some ⟨g, 0, none⟩)) (hy : a.eval y = .agg cells)
    (t : TypeId) (old : Array Value) (hg : w.heap[g]? = some (.cells old t (0, 0))) (hi : (Tryz.prog.info? ty).map (·.size) = some cells.size)
    (hold : old.size = cells.size) (h1 : cells.all (·.oneCell') = true)
    (h : K (a.put o.dst undef) (w.setRow g cells)) : if Region.wanted o (yielded ops a.tmps) = true then Oper.wp Tryz.prog o a w K Q else E' := by
  have hw : Region.wanted o (yielded ops a.tmps) = true := by simp [Region.wanted, hgd]
  rw [if_pos hw]
  exact wp_store_row ty x y ho g cells hx hy t old hg hi hold h1 h
set_option maxHeartbeats 1000000 in
set_option maxRecDepth 100000 in
theorem rtext_any (v : Value) (ds : List RecD) (hds : ds.length ≤ 10000) (hall : AllMay ds) (w : World) (hr : RecsAt w v ds) :
    Calls Tryz.prog 13 #[v] w fun e w' => e = .returned (.tuple #[.string (textF (sumB refK refF) zero32 ds), .agg (digA (lastF (sumB refK refF) zero32 ds))]) ∧ Below w.heap.size w w' := by
  obtain ⟨T, hT⟩ : ∃ T, T = textF (sumB refK refF) zero32 ds := ⟨_, rfl⟩
  obtain ⟨Z, hZ⟩ : ∃ T, T = lastF (sumB refK refF) zero32 ds := ⟨_, rfl⟩
  rw [← hT, ← hZ]
  have HTT := aside hT
  have HZZ := aside hZ
  obtain ⟨n, hn⟩ : ∃ n, n = ds.length := ⟨_, rfl⟩
  obtain ⟨a, cap, rvs, rfl, hcap, hrw, hra⟩ := hr
  have HRW := aside hrw
  have HRA := aside hra
  have HALL := aside hall
  rw [← hn] at hds ⊢
  have HNN := aside hn
  obtain ⟨P, hP⟩ : ∃ x, x = w.heap.size := ⟨_, rfl⟩
  obtain ⟨w1, hw1⟩ : ∃ z, z = (w.alloc (.cells (Array.replicate 32 (.int .u8 0)) 33)).alloc (.cells (Array.replicate 32 (.int .u8 0)) 33) := ⟨_, rfl⟩
  have HB1 : Aside (Below w.heap.size w w1) := by rw [hw1]; exact new_trans (new_alloc _ _) (new_alloc _ _)
  have HP1 : Aside (w1.heap[P]? = some (.cells (digA zero32) 33 (0, 0))) := by rw [hw1, hP, digA_zero]; exact whole_new (heap_new _ _) (new_alloc _ _)
  have HD1 : Aside (w1.heap[P + 1]? = some (.cells (digA zero32) 33 (0, 0))) := by
    rw [hw1, hP, digA_zero, show w.heap.size + 1 = (w.alloc (.cells (Array.replicate 32 (.int .u8 0)) 33)).heap.size by simp]
    exact heap_new _ _
  have HPW := aside hP
  clear hrw hra hall hcap hn hT hZ
  go_enter Tryz.func13, Tryz.ntmps13
  go_wp2_with fail
  rw [z32, ← hw1, ← hP]
  clear hw1 hP
  go_loopg [5, 6] n (fun g v5 v6 wr => ∃ (k : Nat) (x s : ByteArray), k ≤ n ∧ v5 = .string x ∧ v6 = .int .i64 k ∧ n - k ≤ g ∧ Aside (x = textF (sumB refK refF) zero32 (ds.take k)) ∧ Aside (s = lastF (sumB refK refF) zero32 (ds.take k)) ∧ Aside (wr.heap[P + 1]? = some (.cells (digA s) 33 (0, 0))) ∧ Aside (wr.heap[P]? = some (.cells (digA zero32) 33 (0, 0))) ∧ Aside (Below w.heap.size w wr))
  case atStart => exact ⟨0, _, zero32, by omega, rfl, rfl, by omega, rfl, rfl, HD1, HP1, HB1⟩
  case round =>
    clear HB1 HD1 HP1
    obtain ⟨k, x, s, hk, rfl, rfl, hg, HX, HS, HD, HP, HB⟩ := hrel
    by_cases hlt : k < n
    · have hki : (k : Int) < n := by omega
      obtain ⟨lb, lo, rfl, hlb, hj⟩ := HRW.out (by rw [← HNN.out]; omega)
      have HRG := aside (rangeAt_on (hj k (by rw [← HNN.out]; exact hlt)) hlb HB.out)
      obtain ⟨rv, hrv⟩ : ∃ rv, rv = rvs k := ⟨_, rfl⟩
      rw [← hrv] at HRG
      obtain ⟨d, hd⟩ : ∃ d, d = ds.getD k {} := ⟨_, rfl⟩
      have HRV : Aside (RecAt wr rv d) := by rw [hrv, hd]; exact (HRA.out k (by rw [← HNN.out]; exact hlt)).on HB.out
      have hi0 : (Tryz.prog.info? 38).map (·.size) = some (recCells rv).toList.length := by rw [Array.length_toList, recCells_size]; kernel_rfl
      have hmem : ds.getD k {} ∈ ds := by
        rw [List.getD_eq_getElem?_getD, List.getElem?_eq_getElem (show k < ds.length by rw [← HNN.out]; exact hlt)]
        exact List.getElem_mem _
      obtain ⟨hm, ho⟩ := HALL.out _ hmem
      rw [← hd] at hm ho
      have HMO := aside (And.intro hm ho)
      have hxs : x.size ≤ 185 * 10000 := by
        have := text_le (sumB_size refK refF) (ds.take k) zero32 (fun x hx => HALL.out x (List.mem_of_mem_take hx))
        rw [List.length_take, ← HX.out] at this
        omega
      have HXS := aside hxs
      have HSZ : Aside (s.size = 32) := by rw [Aside, HS.out]; exact lastF_size (sumB_size refK refF) _ _ zero32_size
      have HST : Aside (textF (sumB refK refF) zero32 (ds.take (k + 1)) = x ++ entryF (sumB refK refF) s d ∧ lastF (sumB refK refF) zero32 (ds.take (k + 1)) = sumB refK refF (s ++ bytesF d)) := by
        rw [Aside, take_succ_getD ds k (by rw [← HNN.out]; exact hlt), ← hd, HX.out, HS.out]
        exact text_snoc _ _ _ _
      have HM : Aside (n - (k + 1) < gk ∧ k + 1 ≤ n) := ⟨by omega, hlt⟩
      clear hj hrv hmem hm ho hxs hd hg
      go_wp2_with (first
        | (refine wpList_load_midG (by rfl) _ _ rfl lb (lo + k * 49) rfl _ _ HRG.out Tryz.underlying38 rfl hi0 (recCells rv) (Array.toArray_toList) ?_)
        | fail)
      refine (rbytes_any rv d HMO.out.2 HMO.out.1 wr HRV.out).mono ?_
      rintro e w2 ⟨rfl, hb2⟩
      have HD2 := aside (whole_new HD.out hb2)
      have HP2 := aside (whole_new HP.out hb2)
      have HB2 := aside (st_new w _ _ HB.out hb2)
      obtain ⟨b, hb⟩ : ∃ b, b = bytesF d := ⟨_, rfl⟩
      rw [← hb]
      have hbl : b.size ≤ 151 := by rw [hb, bytesF, strOf_size]; exact (bytes_bs HMO.out.1 HMO.out.2).2.1
      have HBB := aside hb
      have HBL := aside hbl
      have hdz : (Tryz.prog.info? 33).map (·.size) = some (digA s).size := by rw [digA_size]; kernel_rfl
      clear hb2 hb hbl HD HP HB hi0 HRG HRV
      go_wp2_with (first
        | (refine wpList_load_row rfl _ _ rfl (P + 1) rfl _ (digA s) (0, 0) _ HD2.out Tryz.underlying33 rfl hdz ?_)
        | fail)
      refine (rnext_any s b HSZ.out (by have := HBL.out; omega) w2).mono ?_
      rintro e w3 ⟨rfl, hb3⟩
      obtain ⟨u, hu⟩ : ∃ u, u = sumB refK refF (s ++ b) := ⟨_, rfl⟩
      rw [← hu]
      have HU := aside hu
      have HUZ : Aside (u.size = 32) := by rw [hu]; exact sumB_size _ _ _
      have HD3 := aside (whole_new HD2.out hb3)
      have HP3 := aside (whole_new HP2.out hb3)
      have HB3 := aside (st_new w _ _ HB2.out hb3)
      have hdu : (Tryz.prog.info? 33).map (·.size) = some (digA u).size := by rw [digA_size]; kernel_rfl
      obtain ⟨w4, hw4⟩ : ∃ z, z = w3.setRow (P + 1) (digA u) := ⟨_, rfl⟩
      have HD4 : Aside (w4.heap[P + 1]? = some (.cells (digA u) 33 (0, 0))) := by rw [Aside, hw4]; exact setRow_heap w3 (P + 1) _ _ _ _ HD3.out
      have HP4 : Aside (w4.heap[P]? = some (.cells (digA zero32) 33 (0, 0))) := by rw [Aside, hw4, setRow_other w3 (P + 1) P _ (by omega)]; exact HP3.out
      have HB4 : Aside (Below w.heap.size w w4) := by rw [Aside, hw4]; exact below_setRow HB3.out (by have := HPW.out; omega) _
      have HW4 := aside hw4
      clear hb3 hu hw4 HD2 HP2 HB2 HP3 HB3 hdz
      go_upto_region 8 with (first
        | (refine wpList_store_row rfl _ _ _ rfl (P + 1) (digA u) rfl rfl 33 _ HD3.out hdu (by rw [digA_size, digA_size]) (digA_one u) ?_; rw [← HW4.out])
        | fail)
      have HSA := aside (SumAt.of HUZ.out HD4.out)
      have hB0 : Aside (Below w4.heap.size w4 w4.drew) := new_drew w4
      have hwl : IntKind.u64.wrap (b.size : Int) = (b.size : Int) := by rw [IntKind.wrap_u64]; have := HBL.out; omega
      have hxs := HXS.out
      have hbl := HBL.out
      have huz := HUZ.out
      have hpz : (strOfNums (be 2 (b.size : Int))).size = 2 := by rw [strOf_size, be_length]
      obtain ⟨p, hp⟩ : ∃ p, p = strOfNums (be 2 (b.size : Int)) := ⟨_, rfl⟩
      rw [← hp] at hpz
      have HPP := aside hp
      have z1 : ¬ 9223372036854775807 < x.size + 2 := by omega
      have z2 : ¬ 9223372036854775807 < x.size + 2 + b.size := by omega
      have z3 : ¬ 9223372036854775807 < x.size + 2 + b.size + 32 := by omega
      clear hp hdu HD3
      go_region_held3 (fun W => (convert 26 9 (.slice (some ⟨P + 1, 0, none⟩) 32 32)).run Tryz.prog W = .ok (.string u) W ∧ Aside (Below w4.heap.size w4 W)) (exact cv_keep HSA.out (by assumption)) (first
        | (go_at_call 24
           refine (ref_num8 (b.size : Int) (by omega) 2 (by omega) _).mono ?_
           rintro e w6 ⟨rfl, hb6⟩
           have hB6 : Aside (Below w4.heap.size w4 w6) := new_trans (Aside.out (by assumption)) hb6
           rw [← HPP.out]
           clear hb6))
      have HB6 : Aside (Below w4.heap.size w4 w6) := hB6
      have HD6 := aside (whole_new HD4.out HB6.out)
      have HP6 := aside (whole_new HP4.out HB6.out)
      have HBw := aside (st_new w _ _ HB4.out HB6.out)
      have HXN : Aside (x ++ p ++ b ++ u = textF (sumB refK refF) zero32 (ds.take (k + 1))) := by
        rw [Aside, HST.out.1, entryF, HPP.out, ← HBB.out, ← HU.out, ByteArray.append_assoc, ByteArray.append_assoc, ByteArray.append_assoc]
      have HSN : Aside (u = lastF (sumB refK refF) zero32 (ds.take (k + 1))) := by rw [Aside, HST.out.2, ← HBB.out, HU.out]
      clear z1 z2 z3 hpz huz hxs hbl hwl hB0 hB6 HSA HB4 HD4 HP4
      go_wp2_with fail
      go_roundg (n - (k + 1))
      case measure => exact HM.out.1
      case rel => exact ⟨k + 1, _, u, HM.out.2, rfl, by go_num, by omega, HXN, HSN, HD6, HP6, HBw⟩
    · have hki : ¬ (k : Int) < n := by omega
      have hkn : k = n := by omega
      have e1 : x = T := by rw [HX.out, HTT.out, hkn, HNN.out, List.take_length]
      have e2 : s = Z := by rw [HS.out, HZZ.out, hkn, HNN.out, List.take_length]
      rw [e2] at HD
      rw [e1]
      have hdz : (Tryz.prog.info? 33).map (·.size) = some (digA Z).size := by rw [digA_size]; kernel_rfl
      clear e1 e2 hkn hlt hg HX HS
      go_upto_region 9 with fail
      have hdl : (Tryz.prog.info? 33).map (·.size) = some (digA Z).toList.length := by rw [Array.length_toList]; exact hdz
      have hrg : wr.drew.rangeAt (P + 1) 0 (digA Z).toList := range_whole (w := wr.drew) HD.out
      refine wp_region_held_drew (S := fun W => W.rangeAt (P + 1) 0 (digA Z).toList) (by kernel_rfl) hrg (fun hHeld => ?_)
      refine wpAnyH_take (i := 0) (oi := _) (v := .string T) rfl (by kernel_rfl) (by kernel_rfl) (by kernel_rfl) (fun _ _ _ h => h) (Or.inl ⟨by rfl, ?_⟩) hHeld ?_
      · intro W hSw
        go_simp
      simp only [Act.put, ps]
      refine wpAnyH_take (i := 1) (oi := _) (v := .agg (digA Z).toList.toArray) rfl (by kernel_rfl) (by kernel_rfl) (by kernel_rfl) (fun _ _ _ h => h) (yieldsIf_load_mid (by rfl) 33 (.tmp 4) rfl (P + 1) 0 rfl (digA Z).toList _ (fun W hW => hW) Tryz.underlying33 rfl hdl) hHeld ?_
      simp only [Act.put, ps]
      rw [show (digA Z).toList.toArray = digA Z from Array.toArray_toList]
      refine wpAnyH_ready (rs := [2]) (by kernel_rfl) (by simp) ?_
      refine AllReadyH.cons (o := _) rfl (fun K1 hK1 => ?_) AllReadyH.nil
      go_simp
      refine hK1.out _ _ hHeld (fun hHeld => ?_)
      clear hK1 K1
      try simp only [Act.put, ps]
      refine wpAnyH_ready (rs := [3]) (by kernel_rfl) (by simp) ?_
      refine AllReadyH.cons (o := _) rfl (fun K2 hK2 => ?_) AllReadyH.nil
      refine step_store_row rfl _ _ _ rfl P (digA Z) rfl rfl 33 (digA zero32) ?_ ?_ ?_ ?_ ?_
      · exact HP.out
      · exact hdz
      · rw [digA_size, digA_size]
      · exact digA_one Z
      refine hK2.out _ _ (range_whole (by rw [setRow_other wr.drew P (P + 1) _ (by omega)]; exact HD.out)) (fun hHeld => ?_)
      clear hK2 K2
      try simp only [Act.put, ps]
      refine wpAnyH_done (by kernel_rfl) ?_ _
      have HPF : Aside ((wr.drew.setRow P (digA Z)).heap[P]? = some (.cells (digA Z) 33 (0, 0))) := setRow_heap wr.drew P _ _ _ _ HP.out
      have HBF : Aside (Below w.heap.size w (wr.drew.setRow P (digA Z))) := below_setRow HB.out.drew (by rw [HPW.out]; exact Nat.le_refl _) _
      generalize wr.drew.setRow P (digA Z) = wz at HPF HBF ⊢
      try simp only [Act.put, ps]
      go_wp2_with fail
      exact bodyPost_ret (rt_results HPF.out _ rfl rfl) rfl ⟨rfl, HBF.out⟩
end Go.Proofs.YtkpmcjfolncmmaaGreatDoor
