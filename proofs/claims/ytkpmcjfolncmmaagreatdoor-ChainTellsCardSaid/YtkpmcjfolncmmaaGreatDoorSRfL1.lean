/- The document's numbers as bytes: Laid, num, small, walked. -/
import Derived.Test.YtkpmcjfolncmmaaGreatDoorSRef5
import Derived.Test.YtkpmcjfolncmmaaGreatDoorSPln6
import Derived.Test.YtkpmcjfolncmmaaGreatDoorSPln2
import Derived.Test.YtkpmcjfolncmmaaGreatDoorSByt1
import Derived.Deep.RegionHeld3
set_option linter.all false
namespace Go.Proofs.YtkpmcjfolncmmaaGreatDoor
open Go.RowKit
theorem be_step (m : Nat) (n : Int) (acc : List Int) : be (m + 1) n ++ acc = be m (n / 256) ++ (n % 256 :: acc) := by
  rw [be, List.append_assoc]; rfl
theorem str_cons (x : Int) (l : List Int) : strOfNums [x] ++ strOfNums l = strOfNums (x :: l) := by rw [← strOf_append]; rfl
def LaidPost (s : ByteArray) (w : World) (e : Ending) (w' : World) : Prop := ∃ q : Bool, e = .returned (.tuple #[.string s, .bool q]) ∧ Below w.heap.size w w'
set_option maxHeartbeats 1000000 in
set_option maxRecDepth 100000 in
theorem ref_laid (v : Int) (hv : 0 ≤ v ∧ v ≤ 18446744073709551615) (N : Nat) (hN : N ≤ 8) (w : World) :
    Calls Tryz.prog 50 #[.int .u64 v, .int .i64 N] w (LaidPost (strOfNums (be N v)) w) := by
  go_enter Tryz.func50, Tryz.ntmps50
  go_wp2_with fail
  go_loopg [0, 6, 7] N (fun gk v0 v6 v7 wr => ∃ (k : Nat) (n : Int) (acc : List Int), k ≤ N ∧ v0 = .int .u64 n ∧ v6 = .string (strOfNums acc) ∧ v7 = .int .i64 k ∧ N - k ≤ gk ∧ (0 ≤ n ∧ n ≤ 18446744073709551615) ∧ acc.length = k ∧ Aside (be (N - k) n ++ acc = be N v) ∧ Aside (Below w.heap.size w wr))
  case atStart => exact ⟨0, v, [], by omega, rfl, rfl, rfl, by omega, hv, rfl, List.append_nil _, Below.refl _ _⟩
  case round =>
    obtain ⟨k, n, acc, hk, rfl, rfl, rfl, hgk, hn, hal, HE, HB⟩ := hrel
    by_cases hlt : k < N
    · have hki : (k : Int) < N := by omega
      have ht : n.tmod 256 = n % 256 := Int.tmod_eq_emod_of_nonneg hn.1
      have hd : n.tdiv 256 = n / 256 := Int.tdiv_eq_ediv_of_nonneg hn.1
      have hm : n % 256 % 256 = n % 256 := Int.emod_emod_of_dvd _ (Int.dvd_refl _)
      obtain ⟨x, hx⟩ : ∃ x, x = n % 256 := ⟨_, rfl⟩
      obtain ⟨y, hy⟩ : ∃ y, y = n / 256 := ⟨_, rfl⟩
      have hyb : 0 ≤ y ∧ y ≤ 18446744073709551615 := by omega
      have HE2 : Aside (be (N - (k + 1)) y ++ (x :: acc) = be N v) := by
        rw [Aside, hx, hy, ← be_step, show N - (k + 1) + 1 = N - k by omega]; exact HE.out
      rw [← hx] at ht hm
      rw [← hy] at hd
      have hc := bytes_text wr.heap.size [x] 1 1 rfl (wr.alloc (.cells #[.int .u8 x] 5)) ⟨fun j hj => by rw [show j = 0 from Nat.lt_one_iff.1 hj]; exact cell_new _ _ _ 0, fun j hj => frozen_new _ _ _ _⟩
      have HB2 : Aside (Below w.heap.size w (wr.alloc (.cells #[.int .u8 x] 5))) := new_trans HB.out (new_alloc _ _)
      have HYB := aside hyb
      have HXX : Aside (strOfNums [x] ++ strOfNums acc = strOfNums (x :: acc)) := str_cons x acc
      have hsz : ¬ 9223372036854775807 < (strOfNums [x]).size + (strOfNums acc).size := by rw [strOf_size, strOf_size]; simp; omega
      have hm0 : x % 256 = x := by omega
      have HKN : Aside (k + 1 ≤ N ∧ acc.length = k ∧ N - (k + 1) < gk) := ⟨by omega, hal, by omega⟩
      clear hx hy hn hal HE HB hk hgk hlt hm
      go_wp2_with fail
      rw [HXX.out]
      go_roundg (N - (k + 1))
      case measure => exact HKN.out.2.2
      case rel => exact ⟨k + 1, y, x :: acc, HKN.out.1, rfl, rfl, rfl, by omega, HYB.out, by have := HKN.out; simp; omega, HE2.out, HB2.out⟩
    · have hki : ¬ (k : Int) < N := by omega
      have HF : Aside (strOfNums acc = strOfNums (be N v)) := by
        have := HE.out
        rw [show N - k = 0 by omega] at this
        rw [Aside, ← this]; rfl
      clear hlt hal hgk hk
      go_wp2_with fail
      go_ret2
      exact ⟨_, by rw [← HF.out]; rfl, HB.out⟩
theorem ref_num8 (v : Int) (hv : 0 ≤ v ∧ v ≤ 18446744073709551615) (N : Nat) (hN : N ≤ 8) (w : World) :
    Calls Tryz.prog 24 #[.int .u64 v, .int .i64 N] w fun e w' => e = .returned (.string (strOfNums (be N v))) ∧ Below w.heap.size w w' := by
  have HV := aside hv
  go_enter Tryz.func24, Tryz.ntmps24
  clear hv
  go_wp2_with fail
  refine (ref_laid v HV.out N hN w).mono ?_
  rintro e w1 ⟨q, rfl, hb⟩
  have HB := aside hb
  clear hb
  go_wp2_with fail
  go_ret
  exact ⟨rfl, HB.out⟩
theorem ref_small (x : Int) (w : World) :
    Calls Tryz.prog 23 #[.int .i64 x] w fun e w' => e = .returned (.string (strOfNums [x % 256])) ∧ Below w.heap.size w w' := by
  have hw : ∀ w, Calls Tryz.prog 24 #[.int .u64 (x % 18446744073709551616), .int .i64 1] w fun e w' => e = .returned (.string (strOfNums [x % 256])) ∧ Below w.heap.size w w' := fun w => by
    refine (ref_num8 (x % 18446744073709551616) (by omega) 1 (by omega) w).mono ?_
    rintro e w1 ⟨rfl, h⟩
    refine ⟨?_, h⟩
    rw [show be 1 (x % 18446744073709551616) = [x % 18446744073709551616 % 256] from rfl, show x % 18446744073709551616 % 256 = x % 256 by omega]
  have HW := aside hw
  clear hw
  go_enter Tryz.func23, Tryz.ntmps23
  go_wp2_with fail
  refine (HW.out w).mono ?_
  rintro e w1 ⟨rfl, hb⟩
  have HB := aside hb
  clear hb
  go_wp2_with fail
  go_ret
  exact ⟨rfl, HB.out⟩
end Go.Proofs.YtkpmcjfolncmmaaGreatDoor
namespace Go.Proofs.YtkpmcjfolncmmaaGreatDoor
open Go.RowKit
def rowM (xs : List Int) : List Int := ((xs.length : Int) % 256) :: xs.map (· % 256)
theorem rowM_ok (xs : List Int) (hn : xs.length ≤ 255) (hb : Bs xs) : rowM xs = rowIL xs := by
  rw [rowM, rowIL, Int.emod_eq_of_lt (by omega) (by omega)]
  congr 1
  conv => rhs; rw [← List.map_id xs]
  apply List.map_congr_left
  intro x hx
  have := hb x hx
  exact Int.emod_eq_of_lt this.1 (by omega)
theorem take_snoc (xs : List Int) (k : Nat) (hk : k < xs.length) : (xs.take (k + 1)).map (· % 256) = (xs.take k).map (· % 256) ++ [xs.getD k 0 % 256] := by
  rw [List.take_add_one, List.map_append, List.getD_eq_getElem?_getD, List.getElem?_eq_getElem hk]
  rfl
set_option maxHeartbeats 2000000 in
set_option maxRecDepth 100000 in
theorem ref_row (v : Value) (xs : List Int) (hn : xs.length ≤ 1099511627776) (w : World) (h : RowI w v xs) :
    Calls Tryz.prog 25 #[v] w fun e w' => e = .returned (.string (strOfNums (rowM xs))) ∧ Below w.heap.size w w' := by
  have HR := aside h
  obtain ⟨a, cap, rfl, _, _⟩ := h
  obtain ⟨n, hnn⟩ : ∃ n, n = xs.length := ⟨_, rfl⟩
  rw [← hnn] at hn
  have HN := aside hnn
  rw [← hnn]
  clear hnn
  obtain ⟨T, hT⟩ : ∃ T, T = strOfNums (rowM xs) := ⟨_, rfl⟩
  have HT := aside hT
  rw [← hT]
  clear hT
  go_enter Tryz.func25, Tryz.ntmps25
  go_wp2_with fail
  refine (ref_small n w).mono ?_
  rintro e w1 ⟨rfl, hb1⟩
  have HB1 := aside hb1
  clear hb1
  go_wp2_with fail
  go_loopg [3, 4] n (fun gk v3 v4 wr => ∃ (k : Nat) (acc : List Int), k ≤ n ∧ v3 = .string (strOfNums acc) ∧ v4 = .int .i64 k ∧ n - k ≤ gk ∧ Aside (acc = ((n : Int) % 256) :: (xs.take k).map (· % 256)) ∧ Aside (Below w.heap.size w wr))
  case atStart => exact ⟨0, [(n : Int) % 256], by omega, rfl, rfl, by omega, rfl, HB1.out⟩
  case round =>
    obtain ⟨k, acc, hk, rfl, rfl, hgk, HA, HB⟩ := hrel
    by_cases hlt : k < n
    · have hki : (k : Int) < n := by omega
      obtain ⟨a', cap', e, _, hj0⟩ := HR.out.on HB.out
      obtain ⟨lb, lo, ea, hlb, hj⟩ := hj0 (by have := HN.out; omega)
      obtain ⟨ea2, _, ec2⟩ := Value.slice.inj e
      clear hj0
      subst ec2
      subst ea2
      subst ea
      have d0 := hj k (by rw [← HN.out]; exact hlt)
      obtain ⟨x, hxk⟩ : ∃ x, x = xs.getD k 0 := ⟨_, rfl⟩
      rw [← hxk] at d0
      have HXK := aside hxk
      clear hj hxk e
      have HA2 : Aside (acc ++ [x % 256] = ((n : Int) % 256) :: (xs.take (k + 1)).map (· % 256)) := by
        rw [Aside, take_snoc xs k (by rw [← HN.out]; exact hlt), ← HXK.out, HA.out]; rfl
      have HXX : Aside (strOfNums acc ++ strOfNums [x % 256] = strOfNums (acc ++ [x % 256])) := (strOf_append _ _).symm
      have hal : acc.length ≤ k + 1 := by rw [HA.out]; simp; omega
      have hsz : ¬ 9223372036854775807 < (strOfNums acc).size + (strOfNums [x % 256]).size := by rw [strOf_size, strOf_size]; simp; omega
      have HM : Aside (n - (k + 1) < gk ∧ k + 1 ≤ n) := ⟨by omega, by omega⟩
      clear hal hgk hk
      go_wp2_with fail
      refine (ref_small x wr).mono ?_
      rintro e w2 ⟨rfl, hb2⟩
      have HB2 : Aside (Below w.heap.size w w2) := new_trans HB.out hb2
      clear hb2 d0
      go_wp2_with fail
      rw [HXX.out]
      go_roundg (n - (k + 1))
      case measure => exact HM.out.1
      case rel => exact ⟨k + 1, acc ++ [x % 256], HM.out.2, rfl, rfl, by omega, HA2.out, HB2.out⟩
    · have hki : ¬ (k : Int) < n := by omega
      have HF : Aside (strOfNums acc = T) := by
        rw [Aside, HT.out, rowM, HA.out, show k = n by omega, HN.out, List.take_length]
      clear hlt hgk hk
      go_wp2_with fail
      go_ret
      exact ⟨by rw [← HF.out]; rfl, HB.out⟩
end Go.Proofs.YtkpmcjfolncmmaaGreatDoor
namespace Go.Proofs.YtkpmcjfolncmmaaGreatDoor
open Go.RowKit
theorem flat_snoc (xs : List (Int × Int)) (k : Nat) (hk : k < xs.length) : flatL (xs.take (k + 1)) = flatL (xs.take k) ++ ((xs.getD k (0, 0)).1 :: be 4 (xs.getD k (0, 0)).2) := by
  rw [List.take_add_one, flatL, List.flatMap_append, List.getD_eq_getElem?_getD, List.getElem?_eq_getElem hk]
  simp [flatL]
set_option maxHeartbeats 4000000 in
set_option maxRecDepth 100000 in
theorem rbytes_k1 (rv : RecV) (d : RecD) (ho : d.ok) (hm : mayB d = true) (hkd : d.kind = 1) (w : World) (h : RecAt w rv d) :
    Calls Tryz.prog 6 #[.agg (recCells rv)] w fun e w' => e = .returned (.string (bytesF d)) ∧ Below w.heap.size w w' := by
  have H := aside h
  obtain ⟨bb, ll, oo, rfl, hb, hl, hw⟩ := h
  have RB := aside hb
  have RL := aside hl
  have RO := aside hw
  clear hb hl hw
  obtain ⟨al, cl, rfl, _, _⟩ := RL.out
  obtain ⟨L, hL⟩ : ∃ x, x = w.heap.size := ⟨_, rfl⟩
  obtain ⟨w0, hw0⟩ : ∃ z, z = w.alloc (.cells (recCells (d.toV bb (.slice al d.lots.length cl) oo)) 38) := ⟨_, rfl⟩
  have HN0 : Aside (Below w.heap.size w w0) := by rw [hw0]; exact new_alloc _ _
  have HR0 : Aside (RecIn w0 L (d.toV bb (.slice al d.lots.length cl) oo)) := by rw [hw0, hL]; exact RecIn.box _ _
  have HO := aside ho
  have HM := aside hm
  have HKD := aside hkd
  obtain ⟨T, hT⟩ : ∃ T, T = bytesF d := ⟨_, rfl⟩
  have HT := aside hT
  rw [← hT]
  have hT9 := ho.tick.2
  have hBB := ho.bid
  have hNN := ho.nonce
  have hPP := ho.price
  have hrt := right1 hkd (mayB_and hm).1
  clear ho hm hkd hT
  obtain ⟨r1, r2, r3, r4, r5, r6, r7, r8, r9⟩ := hrt
  go_enter Tryz.func6, Tryz.ntmps6
  go_upto_region 1 with fail
  rw [← hw0, ← hL]
  clear hw0 hL
  have c0 : w0.cell? ⟨L, 0, none⟩ = some (.int .i64 1) := by rw [← HKD.out]; exact HR0.out.kind
  go_wp2_with fail
  refine (ref_small 1 w0).mono ?_
  rintro e w1 ⟨rfl, hb1⟩
  rw [show (1 : Int) % 256 = 1 from rfl]
  obtain ⟨S0, hS0⟩ : ∃ s, s = strOfNums [(1 : Int)] := ⟨_, rfl⟩
  rw [← hS0]
  have HZ0 : Aside (S0.size ≤ 1) := by rw [hS0, strOf_size]; exact Nat.le_refl _
  have HS0 := aside hS0
  clear hS0
  have HR1 : Aside (RecIn w1 L (d.toV bb (.slice al d.lots.length cl) oo)) := HR0.out.new hb1
  have HN1 : Aside (Below w.heap.size w w1) := new_trans HN0.out hb1
  clear hb1 c0 HR0 HN0
  have c0 : w1.cell? ⟨L, 0, none⟩ = some (.int .i64 1) := by rw [← HKD.out]; exact HR1.out.kind
  have HL : Aside (bytesL d = [1, d.carriers, d.commit, d.reveal, d.scheme] ++ rowLL d.lots ++ rowIL d.owners) := by rw [Aside, bytesL, if_pos HKD.out]
  go_upto_region 4 with fail
  clear c0
  have HRQ : Aside (RecIn w1.drew L (d.toV bb (.slice al d.lots.length cl) oo)) := HR1.out.drew
  have HNQ : Aside (Below w.heap.size w w1.drew) := new_trans HN1.out (new_drew _)
  refine wp_region_held_drew (S := fun W => RecIn W L (d.toV bb (.slice al d.lots.length cl) oo)) (by kernel_rfl) HRQ.out (fun hHeld => ?_)
  refine wpAnyH_take (i := 0) (oi := _) (v := .string S0) rfl (by kernel_rfl) (by kernel_rfl) (by kernel_rfl) (fun _ _ _ h => h) (Or.inl ⟨by rfl, ?_⟩) hHeld ?_
  · intro W hSw
    go_simp
  try simp only [Act.put, ps]
  refine wpAnyH_take (i := 1) (oi := _) (v := .pointer (some ⟨L, 43, none⟩)) rfl (by kernel_rfl) (by kernel_rfl) (by kernel_rfl) (fun _ _ _ h => h) (Or.inl ⟨by rfl, ?_⟩) hHeld ?_
  · intro W hSw
    go_simp
  try simp only [Act.put, ps]
  refine wpAnyH_take (i := 2) (oi := _) (v := .int .i64 d.carriers) rfl (by kernel_rfl) (by kernel_rfl) (by kernel_rfl) (fun _ _ _ h => h) (Or.inl ⟨by rfl, ?_⟩) hHeld ?_
  · intro W hSw
    have c : W.cell? ⟨L, 43, none⟩ = some (.int .i64 d.carriers) := hSw.carriers
    go_simp
  try simp only [Act.put, ps]
  refine wpAnyH_take (i := 5) (oi := _) (v := .pointer (some ⟨L, 44, none⟩)) rfl (by kernel_rfl) (by kernel_rfl) (by kernel_rfl) (fun _ _ _ h => h) (Or.inl ⟨by rfl, ?_⟩) hHeld ?_
  · intro W hSw
    go_simp
  try simp only [Act.put, ps]
  refine wpAnyH_take (i := 6) (oi := _) (v := .int .i64 d.commit) rfl (by kernel_rfl) (by kernel_rfl) (by kernel_rfl) (fun _ _ _ h => h) (Or.inl ⟨by rfl, ?_⟩) hHeld ?_
  · intro W hSw
    have c : W.cell? ⟨L, 44, none⟩ = some (.int .i64 d.commit) := hSw.commit
    go_simp
  try simp only [Act.put, ps]
  refine wpAnyH_take (i := 9) (oi := _) (v := .pointer (some ⟨L, 45, none⟩)) rfl (by kernel_rfl) (by kernel_rfl) (by kernel_rfl) (fun _ _ _ h => h) (Or.inl ⟨by rfl, ?_⟩) hHeld ?_
  · intro W hSw
    go_simp
  try simp only [Act.put, ps]
  refine wpAnyH_take (i := 10) (oi := _) (v := .int .i64 d.reveal) rfl (by kernel_rfl) (by kernel_rfl) (by kernel_rfl) (fun _ _ _ h => h) (Or.inl ⟨by rfl, ?_⟩) hHeld ?_
  · intro W hSw
    have c : W.cell? ⟨L, 45, none⟩ = some (.int .i64 d.reveal) := hSw.reveal
    go_simp
  try simp only [Act.put, ps]
  refine wpAnyH_take (i := 13) (oi := _) (v := .pointer (some ⟨L, 46, none⟩)) rfl (by kernel_rfl) (by kernel_rfl) (by kernel_rfl) (fun _ _ _ h => h) (Or.inl ⟨by rfl, ?_⟩) hHeld ?_
  · intro W hSw
    go_simp
  try simp only [Act.put, ps]
  refine wpAnyH_take (i := 14) (oi := _) (v := .int .i64 d.scheme) rfl (by kernel_rfl) (by kernel_rfl) (by kernel_rfl) (fun _ _ _ h => h) (Or.inl ⟨by rfl, ?_⟩) hHeld ?_
  · intro W hSw
    have c : W.cell? ⟨L, 46, none⟩ = some (.int .i64 d.scheme) := hSw.scheme
    go_simp
  try simp only [Act.put, ps]
  refine wpAnyH_take (i := 17) (oi := _) (v := .pointer (some ⟨L, 47, none⟩)) rfl (by kernel_rfl) (by kernel_rfl) (by kernel_rfl) (fun _ _ _ h => h) (Or.inl ⟨by rfl, ?_⟩) hHeld ?_
  · intro W hSw
    go_simp
  try simp only [Act.put, ps]
  refine wpAnyH_take (i := 18) (oi := _) (v := .slice al d.lots.length cl) rfl (by kernel_rfl) (by kernel_rfl) (by kernel_rfl) (fun _ _ _ h => h) (Or.inl ⟨by rfl, ?_⟩) hHeld ?_
  · intro W hSw
    have c : W.cell? ⟨L, 47, none⟩ = some (.slice al d.lots.length cl) := hSw.lots
    go_simp
  try simp only [Act.put, ps]
  refine wpAnyH_take (i := 19) (oi := _) (v := .int .i64 (d.lots.length : Int)) rfl (by kernel_rfl) (by kernel_rfl) (by kernel_rfl) (fun _ _ _ h => h) (Or.inl ⟨by rfl, ?_⟩) hHeld ?_
  · intro W hSw
    go_simp
  try simp only [Act.put, ps]
  refine wpAnyH_ready (rs := [3]) (by kernel_rfl) (by simp) ?_
  refine AllReadyH.cons (o := _) rfl (fun K hK => ?_) AllReadyH.nil
  go_simp
  refine (ref_small (d.carriers) _).mono ?_
  rintro ev w2 ⟨rfl, hbx⟩
  rw [show d.carriers % 256 = d.carriers by omega]
  have HN2 : Aside (Below w.heap.size w w2) := new_trans HNQ.out hbx
  have HR2 : Aside (RecIn w2 L (d.toV bb (.slice al d.lots.length cl) oo)) := HRQ.out.new hbx
  clear hbx HNQ HRQ
  have HNQ := HN2
  have HRQ := HR2
  refine hK.out _ _ HR2.out (fun hHeld => ?_)
  clear hK K
  try simp only [Act.put, ps]
  obtain ⟨S1, hS1⟩ : ∃ s, s = S0 ++ strOfNums ([d.carriers]) := ⟨_, rfl⟩
  have HZ1 : Aside (S1.size ≤ 2) := by
    have := HZ0.out
    rw [Aside, hS1, ByteArray.size_append, strOf_size]
    simp [be_length, rowIL, HO.out.len] <;> omega
  have hsz : ¬ 9223372036854775807 < S0.size + (strOfNums ([d.carriers])).size := by
    have := HZ0.out
    rw [strOf_size]
    simp [be_length, rowIL, HO.out.len] <;> omega
  have hcat : S0 ++ strOfNums ([d.carriers]) = S1 := hS1.symm
  have HS1 := aside hS1
  clear hS1
  refine wpAnyH_take (i := 4) (oi := _) (v := .string S1) rfl (by kernel_rfl) (by kernel_rfl) (by kernel_rfl) (fun _ _ _ h => h) (Or.inl ⟨by rfl, ?_⟩) hHeld ?_
  · intro W hSw
    go_simp
  try simp only [Act.put, ps]
  clear hcat hsz
  refine wpAnyH_ready (rs := [7]) (by kernel_rfl) (by simp) ?_
  refine AllReadyH.cons (o := _) rfl (fun K hK => ?_) AllReadyH.nil
  go_simp
  refine (ref_small (d.commit) _).mono ?_
  rintro ev w3 ⟨rfl, hbx⟩
  rw [show d.commit % 256 = d.commit by omega]
  have HN3 : Aside (Below w.heap.size w w3) := new_trans HNQ.out hbx
  have HR3 : Aside (RecIn w3 L (d.toV bb (.slice al d.lots.length cl) oo)) := HRQ.out.new hbx
  clear hbx HNQ HRQ
  have HNQ := HN3
  have HRQ := HR3
  refine hK.out _ _ HR3.out (fun hHeld => ?_)
  clear hK K
  try simp only [Act.put, ps]
  obtain ⟨S2, hS2⟩ : ∃ s, s = S1 ++ strOfNums ([d.commit]) := ⟨_, rfl⟩
  have HZ2 : Aside (S2.size ≤ 3) := by
    have := HZ1.out
    rw [Aside, hS2, ByteArray.size_append, strOf_size]
    simp [be_length, rowIL, HO.out.len] <;> omega
  have hsz : ¬ 9223372036854775807 < S1.size + (strOfNums ([d.commit])).size := by
    have := HZ1.out
    rw [strOf_size]
    simp [be_length, rowIL, HO.out.len] <;> omega
  have hcat : S1 ++ strOfNums ([d.commit]) = S2 := hS2.symm
  have HS2 := aside hS2
  clear hS2
  refine wpAnyH_take (i := 8) (oi := _) (v := .string S2) rfl (by kernel_rfl) (by kernel_rfl) (by kernel_rfl) (fun _ _ _ h => h) (Or.inl ⟨by rfl, ?_⟩) hHeld ?_
  · intro W hSw
    go_simp
  try simp only [Act.put, ps]
  clear hcat hsz
  refine wpAnyH_ready (rs := [11]) (by kernel_rfl) (by simp) ?_
  refine AllReadyH.cons (o := _) rfl (fun K hK => ?_) AllReadyH.nil
  go_simp
  refine (ref_small (d.reveal) _).mono ?_
  rintro ev w4 ⟨rfl, hbx⟩
  rw [show d.reveal % 256 = d.reveal by omega]
  have HN4 : Aside (Below w.heap.size w w4) := new_trans HNQ.out hbx
  have HR4 : Aside (RecIn w4 L (d.toV bb (.slice al d.lots.length cl) oo)) := HRQ.out.new hbx
  clear hbx HNQ HRQ
  have HNQ := HN4
  have HRQ := HR4
  refine hK.out _ _ HR4.out (fun hHeld => ?_)
  clear hK K
  try simp only [Act.put, ps]
  obtain ⟨S3, hS3⟩ : ∃ s, s = S2 ++ strOfNums ([d.reveal]) := ⟨_, rfl⟩
  have HZ3 : Aside (S3.size ≤ 4) := by
    have := HZ2.out
    rw [Aside, hS3, ByteArray.size_append, strOf_size]
    simp [be_length, rowIL, HO.out.len] <;> omega
  have hsz : ¬ 9223372036854775807 < S2.size + (strOfNums ([d.reveal])).size := by
    have := HZ2.out
    rw [strOf_size]
    simp [be_length, rowIL, HO.out.len] <;> omega
  have hcat : S2 ++ strOfNums ([d.reveal]) = S3 := hS3.symm
  have HS3 := aside hS3
  clear hS3
  refine wpAnyH_take (i := 12) (oi := _) (v := .string S3) rfl (by kernel_rfl) (by kernel_rfl) (by kernel_rfl) (fun _ _ _ h => h) (Or.inl ⟨by rfl, ?_⟩) hHeld ?_
  · intro W hSw
    go_simp
  try simp only [Act.put, ps]
  clear hcat hsz
  refine wpAnyH_ready (rs := [15]) (by kernel_rfl) (by simp) ?_
  refine AllReadyH.cons (o := _) rfl (fun K hK => ?_) AllReadyH.nil
  go_simp
  refine (ref_small (d.scheme) _).mono ?_
  rintro ev w5 ⟨rfl, hbx⟩
  rw [show d.scheme % 256 = d.scheme by omega]
  have HN5 : Aside (Below w.heap.size w w5) := new_trans HNQ.out hbx
  have HR5 : Aside (RecIn w5 L (d.toV bb (.slice al d.lots.length cl) oo)) := HRQ.out.new hbx
  clear hbx HNQ HRQ
  have HNQ := HN5
  have HRQ := HR5
  refine hK.out _ _ HR5.out (fun hHeld => ?_)
  clear hK K
  try simp only [Act.put, ps]
  obtain ⟨S4, hS4⟩ : ∃ s, s = S3 ++ strOfNums ([d.scheme]) := ⟨_, rfl⟩
  have HZ4 : Aside (S4.size ≤ 5) := by
    have := HZ3.out
    rw [Aside, hS4, ByteArray.size_append, strOf_size]
    simp [be_length, rowIL, HO.out.len] <;> omega
  have hsz : ¬ 9223372036854775807 < S3.size + (strOfNums ([d.scheme])).size := by
    have := HZ3.out
    rw [strOf_size]
    simp [be_length, rowIL, HO.out.len] <;> omega
  have hcat : S3 ++ strOfNums ([d.scheme]) = S4 := hS4.symm
  have HS4 := aside hS4
  clear hS4
  refine wpAnyH_take (i := 16) (oi := _) (v := .string S4) rfl (by kernel_rfl) (by kernel_rfl) (by kernel_rfl) (fun _ _ _ h => h) (Or.inl ⟨by rfl, ?_⟩) hHeld ?_
  · intro W hSw
    go_simp
  try simp only [Act.put, ps]
  clear hcat hsz
  refine wpAnyH_ready (rs := [20]) (by kernel_rfl) (by simp) ?_
  refine AllReadyH.cons (o := _) rfl (fun K hK => ?_) AllReadyH.nil
  go_simp
  refine (ref_small (d.lots.length : Int) _).mono ?_
  rintro ev w6 ⟨rfl, hbx⟩
  rw [show (d.lots.length : Int) % 256 = (d.lots.length : Int) by omega]
  have HN6 : Aside (Below w.heap.size w w6) := new_trans HNQ.out hbx
  have HR6 : Aside (RecIn w6 L (d.toV bb (.slice al d.lots.length cl) oo)) := HRQ.out.new hbx
  clear hbx HNQ HRQ
  have HNQ := HN6
  have HRQ := HR6
  refine hK.out _ _ HR6.out (fun hHeld => ?_)
  clear hK K
  try simp only [Act.put, ps]
  obtain ⟨S5, hS5⟩ : ∃ s, s = S4 ++ strOfNums ([(d.lots.length : Int)]) := ⟨_, rfl⟩
  have HZ5 : Aside (S5.size ≤ 6) := by
    have := HZ4.out
    rw [Aside, hS5, ByteArray.size_append, strOf_size]
    simp [be_length, rowIL, HO.out.len] <;> omega
  have hsz : ¬ 9223372036854775807 < S4.size + (strOfNums ([(d.lots.length : Int)])).size := by
    have := HZ4.out
    rw [strOf_size]
    simp [be_length, rowIL, HO.out.len] <;> omega
  have hcat : S4 ++ strOfNums ([(d.lots.length : Int)]) = S5 := hS5.symm
  have HS5 := aside hS5
  clear hS5
  refine wpAnyH_take (i := 21) (oi := _) (v := .string S5) rfl (by kernel_rfl) (by kernel_rfl) (by kernel_rfl) (fun _ _ _ h => h) (Or.inl ⟨by rfl, ?_⟩) hHeld ?_
  · intro W hSw
    go_simp
  try simp only [Act.put, ps]
  clear hcat hsz
  refine wpAnyH_take (i := 22) (oi := _) (v := .string S5) rfl (by kernel_rfl) (by kernel_rfl) (by kernel_rfl) (fun _ _ _ h => h) (Or.inl ⟨by rfl, ?_⟩) hHeld ?_
  · intro W hSw
    go_simp
  try simp only [Act.put, ps]
  refine wpAnyH_done (by kernel_rfl) ?_ _
  have HSA : Aside (S5 = strOfNums ([1, d.carriers, d.commit, d.reveal, d.scheme, (d.lots.length : Int)] ++ flatL (d.lots.take 0))) := by
    rw [Aside, HS5.out, HS4.out, HS3.out, HS2.out, HS1.out, HS0.out]
    simp only [← strOf_append]
    rfl
  obtain ⟨nl, hnl⟩ : ∃ n, n = d.lots.length := ⟨_, rfl⟩
  rw [← hnl] at HSA
  have HNL := aside hnl
  have HLB : Aside (∀ x ∈ d.lots, (0 ≤ x.1 ∧ x.1 ≤ 63) ∧ 0 ≤ x.2 ∧ x.2 ≤ 16777216) := r7
  have HON : Aside (d.owners.length ≤ 1099511627776 ∧ d.owners.length ≤ 255 ∧ Bs d.owners) := ⟨by omega, by omega, fun x hx => by have := r8 x hx; omega⟩
  have HN16 : Aside (nl ≤ 16) := by rw [Aside]; omega
  have hn16 : nl ≤ 16 := HN16.out
  have HZA : Aside (S5.size ≤ 6) := HZ5.out
  have RLn : Aside (RowL w6 (.slice al d.lots.length cl) d.lots) := RL.out.on HN6.out
  have c47 : w6.cell? ⟨L, 47, none⟩ = some (.slice al nl cl) := by rw [hnl]; exact HR6.out.lots
  clear hnl r1 r2 r3 r4 r5 r6 r7 r8 r9
  go_upto_region 5 with fail
  go_wp2_with fail
  clear c47
  go_loopg [3, 4] nl (fun gk v3 v4 wr => ∃ (i : Nat) (s : ByteArray), i ≤ nl ∧ v3 = .string s ∧ v4 = .int .i64 i ∧ nl - i ≤ gk ∧ s.size ≤ 6 + 5 * i ∧ Aside (s = strOfNums ([1, d.carriers, d.commit, d.reveal, d.scheme, (nl : Int)] ++ flatL (d.lots.take i))) ∧ Aside (Below w6.heap.size w6 wr))
  case atStart => exact ⟨0, S5, by omega, rfl, rfl, by omega, by have := HZA.out; omega, HSA.out, Below.refl _ _⟩
  case round =>
    obtain ⟨i, s, hi, rfl, rfl, hgi, hss, HA, HB⟩ := hrel
    have HRr : Aside (RecIn wr L (d.toV bb (.slice al d.lots.length cl) oo)) := HR6.out.new HB.out
    have c47 : wr.cell? ⟨L, 47, none⟩ = some (.slice al nl cl) := by rw [HNL.out]; exact HRr.out.lots
    by_cases hlt : i < nl
    · have hki : (i : Int) < nl := by omega
      obtain ⟨a', cap', e, _, hj0⟩ := RLn.out.on HB.out
      obtain ⟨lb, lo, ea, hlb, hj⟩ := hj0 (by have := HNL.out; omega)
      obtain ⟨ea2, _, ec2⟩ := Value.slice.inj e
      clear hj0
      subst ec2
      subst ea2
      subst ea
      have hjk := hj i (by rw [← HNL.out]; exact hlt)
      have hmem : d.lots.getD i (0, 0) ∈ d.lots := by
        have hl : i < d.lots.length := by rw [← HNL.out]; exact hlt
        rw [List.getD_eq_getElem?_getD, List.getElem?_eq_getElem hl]
        exact List.getElem_mem _
      have hxb := HLB.out _ hmem
      obtain ⟨x, hxk⟩ : ∃ x, x = d.lots.getD i (0, 0) := ⟨_, rfl⟩
      rw [← hxk] at hjk hxb
      obtain ⟨x, y⟩ := x
      have HXK := aside hxk
      obtain ⟨d0, d1⟩ := hjk
      obtain ⟨⟨hx1, hx2⟩, hy1, hy2⟩ := hxb
      clear hj hxk e hmem
      have HHM : Aside (nl - (i + 1) < gk ∧ i + 1 ≤ nl ∧ s.size ≤ 6 + 5 * i) := ⟨by omega, by omega, hss⟩
      clear hgi hss hi
      go_upto_region 8 with fail
      clear c47
      have HRQ : Aside (RecIn wr.drew L (d.toV bb (.slice (some ⟨lb, lo, none⟩) d.lots.length cl) oo)) := HRr.out.drew
      have HNQ : Aside (Below w6.heap.size w6 wr.drew) := new_trans HB.out (new_drew _)
      have HS0' : Aside (RecIn wr.drew L (d.toV bb (.slice (some ⟨lb, lo, none⟩) d.lots.length cl) oo) ∧ wr.drew.cell? ⟨lb, lo + i * 2, none⟩ = some (.int .i64 x) ∧ wr.drew.cell? ⟨lb, lo + i * 2 + 1, none⟩ = some (.int .i64 y)) := ⟨HRr.out.drew, d0, d1⟩
      clear d0 d1
      refine wp_region_held_drew (S := fun W => RecIn W L (d.toV bb (.slice (some ⟨lb, lo, none⟩) d.lots.length cl) oo) ∧ W.cell? ⟨lb, lo + i * 2, none⟩ = some (.int .i64 x) ∧ W.cell? ⟨lb, lo + i * 2 + 1, none⟩ = some (.int .i64 y)) (by kernel_rfl) HS0'.out (fun hHeld => ?_)
      refine wpAnyH_take (i := 0) (oi := _) (v := .string s) rfl (by kernel_rfl) (by kernel_rfl) (by kernel_rfl) (fun _ _ _ h => h) (Or.inl ⟨by rfl, ?_⟩) hHeld ?_
      · intro W hSw
        go_simp
      try simp only [Act.put, ps]
      refine wpAnyH_take (i := 1) (oi := _) (v := .pointer (some ⟨L, 47, none⟩)) rfl (by kernel_rfl) (by kernel_rfl) (by kernel_rfl) (fun _ _ _ h => h) (Or.inl ⟨by rfl, ?_⟩) hHeld ?_
      · intro W hSw
        go_simp
      try simp only [Act.put, ps]
      refine wpAnyH_take (i := 2) (oi := _) (v := .slice (some ⟨lb, lo, none⟩) nl cl) rfl (by kernel_rfl) (by kernel_rfl) (by kernel_rfl) (fun _ _ _ h => h) (Or.inl ⟨by rfl, ?_⟩) hHeld ?_
      · intro W hSw
        have c : W.cell? ⟨L, 47, none⟩ = some (.slice (some ⟨lb, lo, none⟩) d.lots.length cl) := hSw.1.lots
        rw [← HNL.out] at c
        go_simp
      try simp only [Act.put, ps]
      refine wpAnyH_take (i := 3) (oi := _) (v := .int .i64 i) rfl (by kernel_rfl) (by kernel_rfl) (by kernel_rfl) (fun _ _ _ h => h) (Or.inl ⟨by rfl, ?_⟩) hHeld ?_
      · intro W hSw
        go_simp
      try simp only [Act.put, ps]
      refine wpAnyH_take (i := 4) (oi := _) (v := .pointer (some ⟨lb, lo + i * 2, none⟩)) rfl (by kernel_rfl) (by kernel_rfl) (by kernel_rfl) (fun _ _ _ h => h) (Or.inl ⟨by rfl, ?_⟩) hHeld ?_
      · intro W hSw
        go_simp
      try simp only [Act.put, ps]
      refine wpAnyH_take (i := 5) (oi := _) (v := .pointer (some ⟨lb, lo + i * 2, none⟩)) rfl (by kernel_rfl) (by kernel_rfl) (by kernel_rfl) (fun _ _ _ h => h) (Or.inl ⟨by rfl, ?_⟩) hHeld ?_
      · intro W hSw
        go_simp
      try simp only [Act.put, ps]
      refine wpAnyH_take (i := 6) (oi := _) (v := .int .i64 x) rfl (by kernel_rfl) (by kernel_rfl) (by kernel_rfl) (fun _ _ _ h => h) (Or.inl ⟨by rfl, ?_⟩) hHeld ?_
      · intro W hSw
        have c := hSw.2.1
        go_simp
      try simp only [Act.put, ps]
      refine wpAnyH_take (i := 9) (oi := _) (v := .pointer (some ⟨L, 47, none⟩)) rfl (by kernel_rfl) (by kernel_rfl) (by kernel_rfl) (fun _ _ _ h => h) (Or.inl ⟨by rfl, ?_⟩) hHeld ?_
      · intro W hSw
        go_simp
      try simp only [Act.put, ps]
      refine wpAnyH_take (i := 10) (oi := _) (v := .slice (some ⟨lb, lo, none⟩) nl cl) rfl (by kernel_rfl) (by kernel_rfl) (by kernel_rfl) (fun _ _ _ h => h) (Or.inl ⟨by rfl, ?_⟩) hHeld ?_
      · intro W hSw
        have c : W.cell? ⟨L, 47, none⟩ = some (.slice (some ⟨lb, lo, none⟩) d.lots.length cl) := hSw.1.lots
        rw [← HNL.out] at c
        go_simp
      try simp only [Act.put, ps]
      refine wpAnyH_take (i := 11) (oi := _) (v := .int .i64 i) rfl (by kernel_rfl) (by kernel_rfl) (by kernel_rfl) (fun _ _ _ h => h) (Or.inl ⟨by rfl, ?_⟩) hHeld ?_
      · intro W hSw
        go_simp
      try simp only [Act.put, ps]
      refine wpAnyH_take (i := 12) (oi := _) (v := .pointer (some ⟨lb, lo + i * 2, none⟩)) rfl (by kernel_rfl) (by kernel_rfl) (by kernel_rfl) (fun _ _ _ h => h) (Or.inl ⟨by rfl, ?_⟩) hHeld ?_
      · intro W hSw
        go_simp
      try simp only [Act.put, ps]
      refine wpAnyH_take (i := 13) (oi := _) (v := .pointer (some ⟨lb, lo + i * 2 + 1, none⟩)) rfl (by kernel_rfl) (by kernel_rfl) (by kernel_rfl) (fun _ _ _ h => h) (Or.inl ⟨by rfl, ?_⟩) hHeld ?_
      · intro W hSw
        go_simp
      try simp only [Act.put, ps]
      refine wpAnyH_take (i := 14) (oi := _) (v := .int .i64 y) rfl (by kernel_rfl) (by kernel_rfl) (by kernel_rfl) (fun _ _ _ h => h) (Or.inl ⟨by rfl, ?_⟩) hHeld ?_
      · intro W hSw
        have c := hSw.2.2
        go_simp
      try simp only [Act.put, ps]
      refine wpAnyH_take (i := 15) (oi := _) (v := .int .u64 y) rfl (by kernel_rfl) (by kernel_rfl) (by kernel_rfl) (fun _ _ _ h => h) (Or.inl ⟨by rfl, ?_⟩) hHeld ?_
      · intro W hSw
        have hcv : IntKind.u64.wrap y = y := by rw [IntKind.wrap_u64]; omega
        go_simp
      try simp only [Act.put, ps]
      refine wpAnyH_ready (rs := [7]) (by kernel_rfl) (by simp) ?_
      refine AllReadyH.cons (o := _) rfl (fun K hK => ?_) AllReadyH.nil
      go_simp
      refine (ref_small x _).mono ?_
      rintro ev w20 ⟨rfl, hbx⟩
      rw [show x % 256 = x by omega]
      have HN20 : Aside (Below w6.heap.size w6 w20) := new_trans HNQ.out hbx
      have HR20 : Aside (RecIn w20 L (d.toV bb (.slice (some ⟨lb, lo, none⟩) d.lots.length cl) oo)) := HRQ.out.new hbx
      have hbq := hbx
      clear hbx HNQ HRQ
      have HNQ := HN20
      have HRQ := HR20
      have HC20 : Aside (w20.cell? ⟨lb, lo + i * 2, none⟩ = some (.int .i64 x) ∧ w20.cell? ⟨lb, lo + i * 2 + 1, none⟩ = some (.int .i64 y)) := ⟨(hbq.cell (p := ⟨lb, lo + i * 2, none⟩) (cell_lt hHeld.2.1)).trans hHeld.2.1, (hbq.cell (p := ⟨lb, lo + i * 2 + 1, none⟩) (cell_lt hHeld.2.2)).trans hHeld.2.2⟩
      clear hbq
      refine hK.out _ _ ⟨HR20.out, HC20.out⟩ (fun hHeld => ?_)
      clear hK K
      try simp only [Act.put, ps]
      obtain ⟨sa, hsa⟩ : ∃ z, z = s ++ strOfNums ([x]) := ⟨_, rfl⟩
      have HZsa : Aside (sa.size ≤ 6 + 5 * i + 1) := by
        have := HHM.out.2.2
        rw [Aside, hsa, ByteArray.size_append, strOf_size]
        simp [be_length] <;> omega
      have hsz : ¬ 9223372036854775807 < s.size + (strOfNums ([x])).size := by
        have := HHM.out.2.2
        rw [strOf_size]
        simp [be_length] <;> omega
      have hcat : s ++ strOfNums ([x]) = sa := hsa.symm
      have HSsa := aside hsa
      clear hsa
      refine wpAnyH_take (i := 8) (oi := _) (v := .string sa) rfl (by kernel_rfl) (by kernel_rfl) (by kernel_rfl) (fun _ _ _ h => h) (Or.inl ⟨by rfl, ?_⟩) hHeld ?_
      · intro W hSw
        go_simp
      try simp only [Act.put, ps]
      clear hcat hsz
      refine wpAnyH_ready (rs := [16]) (by kernel_rfl) (by simp) ?_
      refine AllReadyH.cons (o := _) rfl (fun K hK => ?_) AllReadyH.nil
      go_simp
      refine (ref_num8 y (by omega) 4 (by omega) _).mono ?_
      rintro ev w21 ⟨rfl, hbx⟩
      have HN21 : Aside (Below w6.heap.size w6 w21) := new_trans HNQ.out hbx
      have HR21 : Aside (RecIn w21 L (d.toV bb (.slice (some ⟨lb, lo, none⟩) d.lots.length cl) oo)) := HRQ.out.new hbx
      have hbq := hbx
      clear hbx HNQ HRQ
      have HNQ := HN21
      have HRQ := HR21
      have HC21 : Aside (w21.cell? ⟨lb, lo + i * 2, none⟩ = some (.int .i64 x) ∧ w21.cell? ⟨lb, lo + i * 2 + 1, none⟩ = some (.int .i64 y)) := ⟨(hbq.cell (p := ⟨lb, lo + i * 2, none⟩) (cell_lt hHeld.2.1)).trans hHeld.2.1, (hbq.cell (p := ⟨lb, lo + i * 2 + 1, none⟩) (cell_lt hHeld.2.2)).trans hHeld.2.2⟩
      clear hbq
      refine hK.out _ _ ⟨HR21.out, HC21.out⟩ (fun hHeld => ?_)
      clear hK K
      try simp only [Act.put, ps]
      obtain ⟨sb, hsb⟩ : ∃ z, z = sa ++ strOfNums (be 4 y) := ⟨_, rfl⟩
      have HZsb : Aside (sb.size ≤ 6 + 5 * i + 5) := by
        have := HZsa.out
        rw [Aside, hsb, ByteArray.size_append, strOf_size]
        simp [be_length] <;> omega
      have hsz : ¬ 9223372036854775807 < sa.size + (strOfNums (be 4 y)).size := by
        have := HZsa.out
        rw [strOf_size]
        simp [be_length] <;> omega
      have hcat : sa ++ strOfNums (be 4 y) = sb := hsb.symm
      have HSsb := aside hsb
      clear hsb
      refine wpAnyH_take (i := 17) (oi := _) (v := .string sb) rfl (by kernel_rfl) (by kernel_rfl) (by kernel_rfl) (fun _ _ _ h => h) (Or.inl ⟨by rfl, ?_⟩) hHeld ?_
      · intro W hSw
        go_simp
      try simp only [Act.put, ps]
      clear hcat hsz
      refine wpAnyH_take (i := 18) (oi := _) (v := .string sb) rfl (by kernel_rfl) (by kernel_rfl) (by kernel_rfl) (fun _ _ _ h => h) (Or.inl ⟨by rfl, ?_⟩) hHeld ?_
      · intro W hSw
        go_simp
      try simp only [Act.put, ps]
      refine wpAnyH_done (by kernel_rfl) ?_ _
      have HA2 : Aside (sb = strOfNums ([1, d.carriers, d.commit, d.reveal, d.scheme, (nl : Int)] ++ flatL (d.lots.take (i + 1)))) := by
        rw [Aside, HSsb.out, HSsa.out, HA.out, flat_snoc d.lots i (by rw [← HNL.out]; exact hlt), ← HXK.out]
        simp only [← strOf_append, List.append_assoc]
        rfl
      have HSZ : Aside (sb.size ≤ 6 + 5 * (i + 1)) := by have := HZsb.out; rw [Aside]; omega
      go_wp2_with fail
      go_roundg (nl - (i + 1))
      case measure => exact HHM.out.1
      case rel => exact ⟨i + 1, sb, HHM.out.2.1, rfl, rfl, by omega, HSZ.out, HA2.out, HN21.out⟩
    · have hki : ¬ (i : Int) < nl := by omega
      have HAF : Aside (s = strOfNums ([1, d.carriers, d.commit, d.reveal, d.scheme, (nl : Int)] ++ flatL d.lots)) := by
        rw [Aside, HA.out, show i = nl by omega, HNL.out, List.take_length]
      have HSS : Aside (s.size ≤ 86) := by have := HN16.out; rw [Aside]; omega
      have HNr : Aside (Below w.heap.size w wr) := new_trans HN6.out HB.out
      clear hlt hgi hi hss
      obtain ⟨ao, co, rfl, _, _⟩ := RO.out
      have c48 : wr.cell? ⟨L, 48, none⟩ = some (.slice ao d.owners.length co) := HRr.out.owners
      go_wp2_with fail
      refine (ref_row _ d.owners HON.out.1 _ (RO.out.on HNr.out)).mono ?_
      rintro e wz ⟨rfl, hbz⟩
      rw [rowM_ok d.owners HON.out.2.1 HON.out.2.2]
      have HNZ : Aside (Below w.heap.size w wz) := new_trans HNr.out hbz
      clear hbz c48
      have hcat : s ++ strOfNums (rowIL d.owners) = T := by
        rw [HT.out, bytesF, HL.out, HAF.out, rowLL, ← HNL.out]
        simp only [← strOf_append, List.append_assoc]
        rfl
      have hsz : ¬ 9223372036854775807 < s.size + (strOfNums (rowIL d.owners)).size := by
        have := HSS.out
        have := HON.out.2.1
        rw [strOf_size]
        simp [rowIL] <;> omega
      go_wp2_with fail
      go_ret
      exact ⟨rfl, HNZ.out⟩
end Go.Proofs.YtkpmcjfolncmmaaGreatDoor
namespace Go.Proofs.YtkpmcjfolncmmaaGreatDoor
open Go.RowKit
set_option maxHeartbeats 4000000 in
set_option maxRecDepth 100000 in
theorem rbytes_k2 (rv : RecV) (d : RecD) (ho : d.ok) (hm : mayB d = true) (hkd : d.kind = 2) (w : World) (h : RecAt w rv d) :
    Calls Tryz.prog 6 #[.agg (recCells rv)] w fun e w' => e = .returned (.string (bytesF d)) ∧ Below w.heap.size w w' := by
  have H := aside h
  obtain ⟨bb, ll, oo, rfl, hb, hl, hw⟩ := h
  have RB := aside hb
  have RL := aside hl
  have RO := aside hw
  clear hb hl hw
  obtain ⟨ab, cb, rfl, _, _⟩ := RB.out
  obtain ⟨L, hL⟩ : ∃ x, x = w.heap.size := ⟨_, rfl⟩
  obtain ⟨w0, hw0⟩ : ∃ z, z = w.alloc (.cells (recCells (d.toV (.slice ab d.barred.length cb) ll oo)) 38) := ⟨_, rfl⟩
  have HN0 : Aside (Below w.heap.size w w0) := by rw [hw0]; exact new_alloc _ _
  have HR0 : Aside (RecIn w0 L (d.toV (.slice ab d.barred.length cb) ll oo)) := by rw [hw0, hL]; exact RecIn.box _ _
  have HO := aside ho
  have HM := aside hm
  have HKD := aside hkd
  obtain ⟨T, hT⟩ : ∃ T, T = bytesF d := ⟨_, rfl⟩
  have HT := aside hT
  rw [← hT]
  have hT9 := ho.tick.2
  have hBB := ho.bid
  have hNN := ho.nonce
  have hPP := ho.price
  have hrt := right2 hkd (mayB_and hm).1
  clear ho hm hkd hT
  obtain ⟨r1, r2, r3⟩ := hrt
  have q4 := rise_len _ r3
  have HBB : Aside (Bs d.barred) := fun x hx => by have := rise_mem _ r3 x hx; omega
  clear r3
  go_enter Tryz.func6, Tryz.ntmps6
  go_upto_region 1 with fail
  rw [← hw0, ← hL]
  clear hw0 hL
  have c0 : w0.cell? ⟨L, 0, none⟩ = some (.int .i64 2) := by rw [← HKD.out]; exact HR0.out.kind
  go_wp2_with fail
  refine (ref_small 2 w0).mono ?_
  rintro e w1 ⟨rfl, hb1⟩
  rw [show (2 : Int) % 256 = 2 from rfl]
  obtain ⟨S0, hS0⟩ : ∃ s, s = strOfNums [(2 : Int)] := ⟨_, rfl⟩
  rw [← hS0]
  have HZ0 : Aside (S0.size ≤ 1) := by rw [hS0, strOf_size]; exact Nat.le_refl _
  have HS0 := aside hS0
  clear hS0
  have HR1 : Aside (RecIn w1 L (d.toV (.slice ab d.barred.length cb) ll oo)) := HR0.out.new hb1
  have HN1 : Aside (Below w.heap.size w w1) := new_trans HN0.out hb1
  clear hb1 c0 HR0 HN0
  have c0 : w1.cell? ⟨L, 0, none⟩ = some (.int .i64 2) := by rw [← HKD.out]; exact HR1.out.kind
  have HL : Aside (bytesL d = [2, d.round, d.lot] ++ be 8 d.tick ++ rowIL d.barred) := by rw [Aside, bytesL, if_neg (by rw [HKD.out]; decide), if_pos HKD.out]
  go_upto_region 11 with fail
  clear c0
  have HRQ : Aside (RecIn w1.drew L (d.toV (.slice ab d.barred.length cb) ll oo)) := HR1.out.drew
  have HNQ : Aside (Below w.heap.size w w1.drew) := new_trans HN1.out (new_drew _)
  refine wp_region_held_drew (S := fun W => RecIn W L (d.toV (.slice ab d.barred.length cb) ll oo)) (by kernel_rfl) HRQ.out (fun hHeld => ?_)
  refine wpAnyH_take (i := 0) (oi := _) (v := .string S0) rfl (by kernel_rfl) (by kernel_rfl) (by kernel_rfl) (fun _ _ _ h => h) (Or.inl ⟨by rfl, ?_⟩) hHeld ?_
  · intro W hSw
    go_simp
  try simp only [Act.put, ps]
  refine wpAnyH_take (i := 1) (oi := _) (v := .pointer (some ⟨L, 1, none⟩)) rfl (by kernel_rfl) (by kernel_rfl) (by kernel_rfl) (fun _ _ _ h => h) (Or.inl ⟨by rfl, ?_⟩) hHeld ?_
  · intro W hSw
    go_simp
  try simp only [Act.put, ps]
  refine wpAnyH_take (i := 2) (oi := _) (v := .int .i64 d.round) rfl (by kernel_rfl) (by kernel_rfl) (by kernel_rfl) (fun _ _ _ h => h) (Or.inl ⟨by rfl, ?_⟩) hHeld ?_
  · intro W hSw
    have c : W.cell? ⟨L, 1, none⟩ = some (.int .i64 d.round) := hSw.round
    go_simp
  try simp only [Act.put, ps]
  refine wpAnyH_take (i := 5) (oi := _) (v := .pointer (some ⟨L, 2, none⟩)) rfl (by kernel_rfl) (by kernel_rfl) (by kernel_rfl) (fun _ _ _ h => h) (Or.inl ⟨by rfl, ?_⟩) hHeld ?_
  · intro W hSw
    go_simp
  try simp only [Act.put, ps]
  refine wpAnyH_take (i := 6) (oi := _) (v := .int .i64 d.lot) rfl (by kernel_rfl) (by kernel_rfl) (by kernel_rfl) (fun _ _ _ h => h) (Or.inl ⟨by rfl, ?_⟩) hHeld ?_
  · intro W hSw
    have c : W.cell? ⟨L, 2, none⟩ = some (.int .i64 d.lot) := hSw.lot
    go_simp
  try simp only [Act.put, ps]
  refine wpAnyH_take (i := 9) (oi := _) (v := .pointer (some ⟨L, 4, none⟩)) rfl (by kernel_rfl) (by kernel_rfl) (by kernel_rfl) (fun _ _ _ h => h) (Or.inl ⟨by rfl, ?_⟩) hHeld ?_
  · intro W hSw
    go_simp
  try simp only [Act.put, ps]
  refine wpAnyH_take (i := 10) (oi := _) (v := .int .i64 d.tick) rfl (by kernel_rfl) (by kernel_rfl) (by kernel_rfl) (fun _ _ _ h => h) (Or.inl ⟨by rfl, ?_⟩) hHeld ?_
  · intro W hSw
    have c : W.cell? ⟨L, 4, none⟩ = some (.int .i64 d.tick) := hSw.tick
    go_simp
  try simp only [Act.put, ps]
  refine wpAnyH_take (i := 11) (oi := _) (v := .int .u64 d.tick) rfl (by kernel_rfl) (by kernel_rfl) (by kernel_rfl) (fun _ _ _ h => h) (Or.inl ⟨by rfl, ?_⟩) hHeld ?_
  · intro W hSw
    have hcv : IntKind.u64.wrap d.tick = d.tick := by rw [IntKind.wrap_u64]; omega
    go_simp
  try simp only [Act.put, ps]
  refine wpAnyH_take (i := 14) (oi := _) (v := .pointer (some ⟨L, 5, none⟩)) rfl (by kernel_rfl) (by kernel_rfl) (by kernel_rfl) (fun _ _ _ h => h) (Or.inl ⟨by rfl, ?_⟩) hHeld ?_
  · intro W hSw
    go_simp
  try simp only [Act.put, ps]
  refine wpAnyH_take (i := 15) (oi := _) (v := .slice ab d.barred.length cb) rfl (by kernel_rfl) (by kernel_rfl) (by kernel_rfl) (fun _ _ _ h => h) (Or.inl ⟨by rfl, ?_⟩) hHeld ?_
  · intro W hSw
    have c : W.cell? ⟨L, 5, none⟩ = some (.slice ab d.barred.length cb) := hSw.barred
    go_simp
  try simp only [Act.put, ps]
  refine wpAnyH_ready (rs := [3]) (by kernel_rfl) (by simp) ?_
  refine AllReadyH.cons (o := _) rfl (fun K hK => ?_) AllReadyH.nil
  go_simp
  refine (ref_small (d.round) _).mono ?_
  rintro ev w2 ⟨rfl, hbx⟩
  rw [show d.round % 256 = d.round by omega]
  have HN2 : Aside (Below w.heap.size w w2) := new_trans HNQ.out hbx
  have HR2 : Aside (RecIn w2 L (d.toV (.slice ab d.barred.length cb) ll oo)) := HRQ.out.new hbx
  clear hbx HNQ HRQ
  have HNQ := HN2
  have HRQ := HR2
  refine hK.out _ _ HR2.out (fun hHeld => ?_)
  clear hK K
  try simp only [Act.put, ps]
  obtain ⟨S1, hS1⟩ : ∃ s, s = S0 ++ strOfNums ([d.round]) := ⟨_, rfl⟩
  have HZ1 : Aside (S1.size ≤ 2) := by
    have := HZ0.out
    rw [Aside, hS1, ByteArray.size_append, strOf_size]
    simp [be_length, rowIL, HO.out.len] <;> omega
  have hsz : ¬ 9223372036854775807 < S0.size + (strOfNums ([d.round])).size := by
    have := HZ0.out
    rw [strOf_size]
    simp [be_length, rowIL, HO.out.len] <;> omega
  have hcat : S0 ++ strOfNums ([d.round]) = S1 := hS1.symm
  have HS1 := aside hS1
  clear hS1
  refine wpAnyH_take (i := 4) (oi := _) (v := .string S1) rfl (by kernel_rfl) (by kernel_rfl) (by kernel_rfl) (fun _ _ _ h => h) (Or.inl ⟨by rfl, ?_⟩) hHeld ?_
  · intro W hSw
    go_simp
  try simp only [Act.put, ps]
  clear hcat hsz
  refine wpAnyH_ready (rs := [7]) (by kernel_rfl) (by simp) ?_
  refine AllReadyH.cons (o := _) rfl (fun K hK => ?_) AllReadyH.nil
  go_simp
  refine (ref_small (d.lot) _).mono ?_
  rintro ev w3 ⟨rfl, hbx⟩
  rw [show d.lot % 256 = d.lot by omega]
  have HN3 : Aside (Below w.heap.size w w3) := new_trans HNQ.out hbx
  have HR3 : Aside (RecIn w3 L (d.toV (.slice ab d.barred.length cb) ll oo)) := HRQ.out.new hbx
  clear hbx HNQ HRQ
  have HNQ := HN3
  have HRQ := HR3
  refine hK.out _ _ HR3.out (fun hHeld => ?_)
  clear hK K
  try simp only [Act.put, ps]
  obtain ⟨S2, hS2⟩ : ∃ s, s = S1 ++ strOfNums ([d.lot]) := ⟨_, rfl⟩
  have HZ2 : Aside (S2.size ≤ 3) := by
    have := HZ1.out
    rw [Aside, hS2, ByteArray.size_append, strOf_size]
    simp [be_length, rowIL, HO.out.len] <;> omega
  have hsz : ¬ 9223372036854775807 < S1.size + (strOfNums ([d.lot])).size := by
    have := HZ1.out
    rw [strOf_size]
    simp [be_length, rowIL, HO.out.len] <;> omega
  have hcat : S1 ++ strOfNums ([d.lot]) = S2 := hS2.symm
  have HS2 := aside hS2
  clear hS2
  refine wpAnyH_take (i := 8) (oi := _) (v := .string S2) rfl (by kernel_rfl) (by kernel_rfl) (by kernel_rfl) (fun _ _ _ h => h) (Or.inl ⟨by rfl, ?_⟩) hHeld ?_
  · intro W hSw
    go_simp
  try simp only [Act.put, ps]
  clear hcat hsz
  refine wpAnyH_ready (rs := [12]) (by kernel_rfl) (by simp) ?_
  refine AllReadyH.cons (o := _) rfl (fun K hK => ?_) AllReadyH.nil
  go_simp
  refine (ref_num8 (d.tick) (by omega) 8 (by omega) _).mono ?_
  rintro ev w4 ⟨rfl, hbx⟩
  have HN4 : Aside (Below w.heap.size w w4) := new_trans HNQ.out hbx
  have HR4 : Aside (RecIn w4 L (d.toV (.slice ab d.barred.length cb) ll oo)) := HRQ.out.new hbx
  clear hbx HNQ HRQ
  have HNQ := HN4
  have HRQ := HR4
  refine hK.out _ _ HR4.out (fun hHeld => ?_)
  clear hK K
  try simp only [Act.put, ps]
  obtain ⟨S3, hS3⟩ : ∃ s, s = S2 ++ strOfNums (be 8 d.tick) := ⟨_, rfl⟩
  have HZ3 : Aside (S3.size ≤ 11) := by
    have := HZ2.out
    rw [Aside, hS3, ByteArray.size_append, strOf_size]
    simp [be_length, rowIL, HO.out.len] <;> omega
  have hsz : ¬ 9223372036854775807 < S2.size + (strOfNums (be 8 d.tick)).size := by
    have := HZ2.out
    rw [strOf_size]
    simp [be_length, rowIL, HO.out.len] <;> omega
  have hcat : S2 ++ strOfNums (be 8 d.tick) = S3 := hS3.symm
  have HS3 := aside hS3
  clear hS3
  refine wpAnyH_take (i := 13) (oi := _) (v := .string S3) rfl (by kernel_rfl) (by kernel_rfl) (by kernel_rfl) (fun _ _ _ h => h) (Or.inl ⟨by rfl, ?_⟩) hHeld ?_
  · intro W hSw
    go_simp
  try simp only [Act.put, ps]
  clear hcat hsz
  refine wpAnyH_ready (rs := [16]) (by kernel_rfl) (by simp) ?_
  refine AllReadyH.cons (o := _) rfl (fun K hK => ?_) AllReadyH.nil
  go_simp
  refine (ref_row _ d.barred (by omega) _ (RB.out.on (HNQ.out))).mono ?_
  rintro ev w5 ⟨rfl, hbx⟩
  rw [rowM_ok d.barred (by omega) HBB.out]
  have HN5 : Aside (Below w.heap.size w w5) := new_trans HNQ.out hbx
  have HR5 : Aside (RecIn w5 L (d.toV (.slice ab d.barred.length cb) ll oo)) := HRQ.out.new hbx
  clear hbx HNQ HRQ
  have HNQ := HN5
  have HRQ := HR5
  refine hK.out _ _ HR5.out (fun hHeld => ?_)
  clear hK K
  try simp only [Act.put, ps]
  obtain ⟨S4, hS4⟩ : ∃ s, s = S3 ++ strOfNums (rowIL d.barred) := ⟨_, rfl⟩
  have HZ4 : Aside (S4.size ≤ 267) := by
    have := HZ3.out
    rw [Aside, hS4, ByteArray.size_append, strOf_size]
    simp [be_length, rowIL, HO.out.len] <;> omega
  have hsz : ¬ 9223372036854775807 < S3.size + (strOfNums (rowIL d.barred)).size := by
    have := HZ3.out
    rw [strOf_size]
    simp [be_length, rowIL, HO.out.len] <;> omega
  have hcat : S3 ++ strOfNums (rowIL d.barred) = S4 := hS4.symm
  have HS4 := aside hS4
  clear hS4
  refine wpAnyH_take (i := 17) (oi := _) (v := .string S4) rfl (by kernel_rfl) (by kernel_rfl) (by kernel_rfl) (fun _ _ _ h => h) (Or.inl ⟨by rfl, ?_⟩) hHeld ?_
  · intro W hSw
    go_simp
  try simp only [Act.put, ps]
  clear hcat hsz
  refine wpAnyH_take (i := 18) (oi := _) (v := .string S4) rfl (by kernel_rfl) (by kernel_rfl) (by kernel_rfl) (fun _ _ _ h => h) (Or.inl ⟨by rfl, ?_⟩) hHeld ?_
  · intro W hSw
    go_simp
  try simp only [Act.put, ps]
  refine wpAnyH_done (by kernel_rfl) ?_ _
  have hcat : S4 = T := by rw [HT.out, bytesF, HL.out, HS4.out, HS3.out, HS2.out, HS1.out, HS0.out]; simp only [← strOf_append] <;> rfl
  rw [hcat]
  have HNZ := HN5
  clear hcat
  go_wp2_with fail
  go_ret
  exact ⟨rfl, HNZ.out⟩
end Go.Proofs.YtkpmcjfolncmmaaGreatDoor
namespace Go.Proofs.YtkpmcjfolncmmaaGreatDoor
open Go.RowKit
set_option maxHeartbeats 4000000 in
set_option maxRecDepth 100000 in
theorem rbytes_k3 (rv : RecV) (d : RecD) (ho : d.ok) (hm : mayB d = true) (hkd : d.kind = 3) (w : World) (h : RecAt w rv d) :
    Calls Tryz.prog 6 #[.agg (recCells rv)] w fun e w' => e = .returned (.string (bytesF d)) ∧ Below w.heap.size w w' := by
  have H := aside h
  obtain ⟨bb, ll, oo, rfl, hb, hl, hw⟩ := h
  have RB := aside hb
  have RL := aside hl
  have RO := aside hw
  clear hb hl hw

  obtain ⟨L, hL⟩ : ∃ x, x = w.heap.size := ⟨_, rfl⟩
  obtain ⟨w0, hw0⟩ : ∃ z, z = w.alloc (.cells (recCells (d.toV bb ll oo)) 38) := ⟨_, rfl⟩
  have HN0 : Aside (Below w.heap.size w w0) := by rw [hw0]; exact new_alloc _ _
  have HR0 : Aside (RecIn w0 L (d.toV bb ll oo)) := by rw [hw0, hL]; exact RecIn.box _ _
  have HO := aside ho
  have HM := aside hm
  have HKD := aside hkd
  obtain ⟨T, hT⟩ : ∃ T, T = bytesF d := ⟨_, rfl⟩
  have HT := aside hT
  rw [← hT]
  have hT9 := ho.tick.2
  have hBB := ho.bid
  have hNN := ho.nonce
  have hPP := ho.price
  have hrt := right3 hkd (mayB_and hm).1
  clear ho hm hkd hT
  obtain ⟨r1, r2, r3⟩ := hrt
  go_enter Tryz.func6, Tryz.ntmps6
  go_upto_region 1 with fail
  rw [← hw0, ← hL]
  clear hw0 hL
  have c0 : w0.cell? ⟨L, 0, none⟩ = some (.int .i64 3) := by rw [← HKD.out]; exact HR0.out.kind
  go_wp2_with fail
  refine (ref_small 3 w0).mono ?_
  rintro e w1 ⟨rfl, hb1⟩
  rw [show (3 : Int) % 256 = 3 from rfl]
  obtain ⟨S0, hS0⟩ : ∃ s, s = strOfNums [(3 : Int)] := ⟨_, rfl⟩
  rw [← hS0]
  have HZ0 : Aside (S0.size ≤ 1) := by rw [hS0, strOf_size]; exact Nat.le_refl _
  have HS0 := aside hS0
  clear hS0
  have HR1 : Aside (RecIn w1 L (d.toV bb ll oo)) := HR0.out.new hb1
  have HN1 : Aside (Below w.heap.size w w1) := new_trans HN0.out hb1
  clear hb1 c0 HR0 HN0
  have c0 : w1.cell? ⟨L, 0, none⟩ = some (.int .i64 3) := by rw [← HKD.out]; exact HR1.out.kind
  have HL : Aside (bytesL d = [3, d.round, d.carrier] ++ d.dig ++ be 8 d.tick) := by rw [Aside, bytesL, if_neg (by rw [HKD.out]; decide), if_neg (by rw [HKD.out]; decide), if_pos HKD.out]
  go_upto_region 13 with fail
  clear c0
  have HRQ : Aside (RecIn w1.drew L (d.toV bb ll oo)) := HR1.out.drew
  have HNQ : Aside (Below w.heap.size w w1.drew) := new_trans HN1.out (new_drew _)
  refine wp_region_held_drew (S := fun W => RecIn W L (d.toV bb ll oo)) (by kernel_rfl) HRQ.out (fun hHeld => ?_)
  refine wpAnyH_take (i := 0) (oi := _) (v := .string S0) rfl (by kernel_rfl) (by kernel_rfl) (by kernel_rfl) (fun _ _ _ h => h) (Or.inl ⟨by rfl, ?_⟩) hHeld ?_
  · intro W hSw
    go_simp
  try simp only [Act.put, ps]
  refine wpAnyH_take (i := 1) (oi := _) (v := .pointer (some ⟨L, 1, none⟩)) rfl (by kernel_rfl) (by kernel_rfl) (by kernel_rfl) (fun _ _ _ h => h) (Or.inl ⟨by rfl, ?_⟩) hHeld ?_
  · intro W hSw
    go_simp
  try simp only [Act.put, ps]
  refine wpAnyH_take (i := 2) (oi := _) (v := .int .i64 d.round) rfl (by kernel_rfl) (by kernel_rfl) (by kernel_rfl) (fun _ _ _ h => h) (Or.inl ⟨by rfl, ?_⟩) hHeld ?_
  · intro W hSw
    have c : W.cell? ⟨L, 1, none⟩ = some (.int .i64 d.round) := hSw.round
    go_simp
  try simp only [Act.put, ps]
  refine wpAnyH_take (i := 5) (oi := _) (v := .pointer (some ⟨L, 3, none⟩)) rfl (by kernel_rfl) (by kernel_rfl) (by kernel_rfl) (fun _ _ _ h => h) (Or.inl ⟨by rfl, ?_⟩) hHeld ?_
  · intro W hSw
    go_simp
  try simp only [Act.put, ps]
  refine wpAnyH_take (i := 6) (oi := _) (v := .int .i64 d.carrier) rfl (by kernel_rfl) (by kernel_rfl) (by kernel_rfl) (fun _ _ _ h => h) (Or.inl ⟨by rfl, ?_⟩) hHeld ?_
  · intro W hSw
    have c : W.cell? ⟨L, 3, none⟩ = some (.int .i64 d.carrier) := hSw.carrier
    go_simp
  try simp only [Act.put, ps]
  refine wpAnyH_take (i := 9) (oi := _) (v := .pointer (some ⟨L, 6, none⟩)) rfl (by kernel_rfl) (by kernel_rfl) (by kernel_rfl) (fun _ _ _ h => h) (Or.inl ⟨by rfl, ?_⟩) hHeld ?_
  · intro W hSw
    go_simp
  try simp only [Act.put, ps]
  refine wpAnyH_take (i := 10) (oi := _) (v := .slice (some ⟨L, 6, none⟩) 32 32) rfl (by kernel_rfl) (by kernel_rfl) (by kernel_rfl) (fun _ _ _ h => h) (Or.inl ⟨by rfl, ?_⟩) hHeld ?_
  · intro W hSw
    go_simp
  try simp only [Act.put, ps]
  refine wpAnyH_take (i := 11) (oi := _) (v := .string (strOfNums d.dig)) rfl (by kernel_rfl) (by kernel_rfl) (by kernel_rfl) (fun _ _ _ h => h) (Or.inl ⟨by rfl, ?_⟩) hHeld ?_
  · intro W hSw
    have kc := run_convert_bytes_arg (P := Tryz.prog) (w := W) 26 5 Tryz.underlying26 Tryz.underlying5 L 6 32 32 d.dig HO.out.len (fun i hi => hSw.dig i hi) 9 Tryz.underlying9
    go_simp
  try simp only [Act.put, ps]
  refine wpAnyH_ready (rs := [3]) (by kernel_rfl) (by simp) ?_
  refine AllReadyH.cons (o := _) rfl (fun K hK => ?_) AllReadyH.nil
  go_simp
  refine (ref_small (d.round) _).mono ?_
  rintro ev w2 ⟨rfl, hbx⟩
  rw [show d.round % 256 = d.round by omega]
  have HN2 : Aside (Below w.heap.size w w2) := new_trans HNQ.out hbx
  have HR2 : Aside (RecIn w2 L (d.toV bb ll oo)) := HRQ.out.new hbx
  clear hbx HNQ HRQ
  have HNQ := HN2
  have HRQ := HR2
  refine hK.out _ _ HR2.out (fun hHeld => ?_)
  clear hK K
  try simp only [Act.put, ps]
  obtain ⟨S1, hS1⟩ : ∃ s, s = S0 ++ strOfNums ([d.round]) := ⟨_, rfl⟩
  have HZ1 : Aside (S1.size ≤ 2) := by
    have := HZ0.out
    rw [Aside, hS1, ByteArray.size_append, strOf_size]
    simp [be_length, rowIL, HO.out.len] <;> omega
  have hsz : ¬ 9223372036854775807 < S0.size + (strOfNums ([d.round])).size := by
    have := HZ0.out
    rw [strOf_size]
    simp [be_length, rowIL, HO.out.len] <;> omega
  have hcat : S0 ++ strOfNums ([d.round]) = S1 := hS1.symm
  have HS1 := aside hS1
  clear hS1
  refine wpAnyH_take (i := 4) (oi := _) (v := .string S1) rfl (by kernel_rfl) (by kernel_rfl) (by kernel_rfl) (fun _ _ _ h => h) (Or.inl ⟨by rfl, ?_⟩) hHeld ?_
  · intro W hSw
    go_simp
  try simp only [Act.put, ps]
  clear hcat hsz
  refine wpAnyH_ready (rs := [7]) (by kernel_rfl) (by simp) ?_
  refine AllReadyH.cons (o := _) rfl (fun K hK => ?_) AllReadyH.nil
  go_simp
  refine (ref_small (d.carrier) _).mono ?_
  rintro ev w3 ⟨rfl, hbx⟩
  rw [show d.carrier % 256 = d.carrier by omega]
  have HN3 : Aside (Below w.heap.size w w3) := new_trans HNQ.out hbx
  have HR3 : Aside (RecIn w3 L (d.toV bb ll oo)) := HRQ.out.new hbx
  clear hbx HNQ HRQ
  have HNQ := HN3
  have HRQ := HR3
  refine hK.out _ _ HR3.out (fun hHeld => ?_)
  clear hK K
  try simp only [Act.put, ps]
  obtain ⟨S2, hS2⟩ : ∃ s, s = S1 ++ strOfNums ([d.carrier]) := ⟨_, rfl⟩
  have HZ2 : Aside (S2.size ≤ 3) := by
    have := HZ1.out
    rw [Aside, hS2, ByteArray.size_append, strOf_size]
    simp [be_length, rowIL, HO.out.len] <;> omega
  have hsz : ¬ 9223372036854775807 < S1.size + (strOfNums ([d.carrier])).size := by
    have := HZ1.out
    rw [strOf_size]
    simp [be_length, rowIL, HO.out.len] <;> omega
  have hcat : S1 ++ strOfNums ([d.carrier]) = S2 := hS2.symm
  have HS2 := aside hS2
  clear hS2
  refine wpAnyH_take (i := 8) (oi := _) (v := .string S2) rfl (by kernel_rfl) (by kernel_rfl) (by kernel_rfl) (fun _ _ _ h => h) (Or.inl ⟨by rfl, ?_⟩) hHeld ?_
  · intro W hSw
    go_simp
  try simp only [Act.put, ps]
  clear hcat hsz
  obtain ⟨S3, hS3⟩ : ∃ s, s = S2 ++ strOfNums (d.dig) := ⟨_, rfl⟩
  have HZ3 : Aside (S3.size ≤ 35) := by
    have := HZ2.out
    rw [Aside, hS3, ByteArray.size_append, strOf_size]
    simp [be_length, rowIL, HO.out.len] <;> omega
  have hsz : ¬ 9223372036854775807 < S2.size + (strOfNums (d.dig)).size := by
    have := HZ2.out
    rw [strOf_size]
    simp [be_length, rowIL, HO.out.len] <;> omega
  have hcat : S2 ++ strOfNums (d.dig) = S3 := hS3.symm
  have HS3 := aside hS3
  clear hS3
  refine wpAnyH_take (i := 12) (oi := _) (v := .string S3) rfl (by kernel_rfl) (by kernel_rfl) (by kernel_rfl) (fun _ _ _ h => h) (Or.inl ⟨by rfl, ?_⟩) hHeld ?_
  · intro W hSw
    go_simp
  try simp only [Act.put, ps]
  clear hcat hsz
  refine wpAnyH_take (i := 13) (oi := _) (v := .string S3) rfl (by kernel_rfl) (by kernel_rfl) (by kernel_rfl) (fun _ _ _ h => h) (Or.inl ⟨by rfl, ?_⟩) hHeld ?_
  · intro W hSw
    go_simp
  try simp only [Act.put, ps]
  refine wpAnyH_done (by kernel_rfl) ?_ _
  go_upto_region 18 with fail
  have c4 : w3.cell? ⟨L, 4, none⟩ = some (.int .i64 d.tick) := HR3.out.tick
  have htk : d.tick % 18446744073709551616 = d.tick := by omega
  have HTK : Aside (0 ≤ d.tick ∧ d.tick ≤ 18446744073709551615) := ⟨by omega, by omega⟩
  go_wp2_with fail
  refine (ref_num8 d.tick HTK.out 8 (by omega) _).mono ?_
  rintro e wz ⟨rfl, hbz⟩
  have HNZ : Aside (Below w.heap.size w wz) := new_trans HN3.out hbz
  clear hbz c4 htk
  have hcat : S3 ++ strOfNums (be 8 d.tick) = T := by rw [HT.out, bytesF, HL.out, HS3.out, HS2.out, HS1.out, HS0.out]; simp only [← strOf_append] <;> rfl
  have hsz : ¬ 9223372036854775807 < S3.size + (strOfNums (be 8 d.tick)).size := by
    have := HZ3.out
    rw [strOf_size]
    simp [be_length] <;> omega
  go_wp2_with fail
  go_ret
  exact ⟨rfl, HNZ.out⟩
end Go.Proofs.YtkpmcjfolncmmaaGreatDoor
namespace Go.Proofs.YtkpmcjfolncmmaaGreatDoor
open Go.RowKit
set_option maxHeartbeats 4000000 in
set_option maxRecDepth 100000 in
theorem rbytes_k4 (rv : RecV) (d : RecD) (ho : d.ok) (hm : mayB d = true) (hkd : d.kind = 4) (w : World) (h : RecAt w rv d) :
    Calls Tryz.prog 6 #[.agg (recCells rv)] w fun e w' => e = .returned (.string (bytesF d)) ∧ Below w.heap.size w w' := by
  have H := aside h
  obtain ⟨bb, ll, oo, rfl, hb, hl, hw⟩ := h
  have RB := aside hb
  have RL := aside hl
  have RO := aside hw
  clear hb hl hw

  obtain ⟨L, hL⟩ : ∃ x, x = w.heap.size := ⟨_, rfl⟩
  obtain ⟨w0, hw0⟩ : ∃ z, z = w.alloc (.cells (recCells (d.toV bb ll oo)) 38) := ⟨_, rfl⟩
  have HN0 : Aside (Below w.heap.size w w0) := by rw [hw0]; exact new_alloc _ _
  have HR0 : Aside (RecIn w0 L (d.toV bb ll oo)) := by rw [hw0, hL]; exact RecIn.box _ _
  have HO := aside ho
  have HM := aside hm
  have HKD := aside hkd
  obtain ⟨T, hT⟩ : ∃ T, T = bytesF d := ⟨_, rfl⟩
  have HT := aside hT
  rw [← hT]
  have hT9 := ho.tick.2
  have hBB := ho.bid
  have hNN := ho.nonce
  have hPP := ho.price
  have hrt := right4 hkd (mayB_and hm).1
  clear ho hm hkd hT
  obtain ⟨⟨r1, r2, r3⟩, r4⟩ := hrt
  go_enter Tryz.func6, Tryz.ntmps6
  go_upto_region 1 with fail
  rw [← hw0, ← hL]
  clear hw0 hL
  have c0 : w0.cell? ⟨L, 0, none⟩ = some (.int .i64 4) := by rw [← HKD.out]; exact HR0.out.kind
  go_wp2_with fail
  refine (ref_small 4 w0).mono ?_
  rintro e w1 ⟨rfl, hb1⟩
  rw [show (4 : Int) % 256 = 4 from rfl]
  obtain ⟨S0, hS0⟩ : ∃ s, s = strOfNums [(4 : Int)] := ⟨_, rfl⟩
  rw [← hS0]
  have HZ0 : Aside (S0.size ≤ 1) := by rw [hS0, strOf_size]; exact Nat.le_refl _
  have HS0 := aside hS0
  clear hS0
  have HR1 : Aside (RecIn w1 L (d.toV bb ll oo)) := HR0.out.new hb1
  have HN1 : Aside (Below w.heap.size w w1) := new_trans HN0.out hb1
  clear hb1 c0 HR0 HN0
  have c0 : w1.cell? ⟨L, 0, none⟩ = some (.int .i64 4) := by rw [← HKD.out]; exact HR1.out.kind
  have HL : Aside (bytesL d = [4, d.round, d.carrier] ++ be 8 d.bid ++ be 8 d.nonce ++ be 8 d.tick) := by rw [Aside, bytesL, if_neg (by rw [HKD.out]; decide), if_neg (by rw [HKD.out]; decide), if_neg (by rw [HKD.out]; decide), if_pos HKD.out]
  go_upto_region 15 with fail
  clear c0
  have HRQ : Aside (RecIn w1.drew L (d.toV bb ll oo)) := HR1.out.drew
  have HNQ : Aside (Below w.heap.size w w1.drew) := new_trans HN1.out (new_drew _)
  refine wp_region_held_drew (S := fun W => RecIn W L (d.toV bb ll oo)) (by kernel_rfl) HRQ.out (fun hHeld => ?_)
  refine wpAnyH_take (i := 0) (oi := _) (v := .string S0) rfl (by kernel_rfl) (by kernel_rfl) (by kernel_rfl) (fun _ _ _ h => h) (Or.inl ⟨by rfl, ?_⟩) hHeld ?_
  · intro W hSw
    go_simp
  try simp only [Act.put, ps]
  refine wpAnyH_take (i := 1) (oi := _) (v := .pointer (some ⟨L, 1, none⟩)) rfl (by kernel_rfl) (by kernel_rfl) (by kernel_rfl) (fun _ _ _ h => h) (Or.inl ⟨by rfl, ?_⟩) hHeld ?_
  · intro W hSw
    go_simp
  try simp only [Act.put, ps]
  refine wpAnyH_take (i := 2) (oi := _) (v := .int .i64 d.round) rfl (by kernel_rfl) (by kernel_rfl) (by kernel_rfl) (fun _ _ _ h => h) (Or.inl ⟨by rfl, ?_⟩) hHeld ?_
  · intro W hSw
    have c : W.cell? ⟨L, 1, none⟩ = some (.int .i64 d.round) := hSw.round
    go_simp
  try simp only [Act.put, ps]
  refine wpAnyH_take (i := 5) (oi := _) (v := .pointer (some ⟨L, 3, none⟩)) rfl (by kernel_rfl) (by kernel_rfl) (by kernel_rfl) (fun _ _ _ h => h) (Or.inl ⟨by rfl, ?_⟩) hHeld ?_
  · intro W hSw
    go_simp
  try simp only [Act.put, ps]
  refine wpAnyH_take (i := 6) (oi := _) (v := .int .i64 d.carrier) rfl (by kernel_rfl) (by kernel_rfl) (by kernel_rfl) (fun _ _ _ h => h) (Or.inl ⟨by rfl, ?_⟩) hHeld ?_
  · intro W hSw
    have c : W.cell? ⟨L, 3, none⟩ = some (.int .i64 d.carrier) := hSw.carrier
    go_simp
  try simp only [Act.put, ps]
  refine wpAnyH_take (i := 9) (oi := _) (v := .pointer (some ⟨L, 38, none⟩)) rfl (by kernel_rfl) (by kernel_rfl) (by kernel_rfl) (fun _ _ _ h => h) (Or.inl ⟨by rfl, ?_⟩) hHeld ?_
  · intro W hSw
    go_simp
  try simp only [Act.put, ps]
  refine wpAnyH_take (i := 10) (oi := _) (v := .int .u64 d.bid) rfl (by kernel_rfl) (by kernel_rfl) (by kernel_rfl) (fun _ _ _ h => h) (Or.inl ⟨by rfl, ?_⟩) hHeld ?_
  · intro W hSw
    have c : W.cell? ⟨L, 38, none⟩ = some (.int .u64 d.bid) := hSw.bid
    go_simp
  try simp only [Act.put, ps]
  refine wpAnyH_take (i := 13) (oi := _) (v := .pointer (some ⟨L, 39, none⟩)) rfl (by kernel_rfl) (by kernel_rfl) (by kernel_rfl) (fun _ _ _ h => h) (Or.inl ⟨by rfl, ?_⟩) hHeld ?_
  · intro W hSw
    go_simp
  try simp only [Act.put, ps]
  refine wpAnyH_take (i := 14) (oi := _) (v := .int .u64 d.nonce) rfl (by kernel_rfl) (by kernel_rfl) (by kernel_rfl) (fun _ _ _ h => h) (Or.inl ⟨by rfl, ?_⟩) hHeld ?_
  · intro W hSw
    have c : W.cell? ⟨L, 39, none⟩ = some (.int .u64 d.nonce) := hSw.nonce
    go_simp
  try simp only [Act.put, ps]
  refine wpAnyH_ready (rs := [3]) (by kernel_rfl) (by simp) ?_
  refine AllReadyH.cons (o := _) rfl (fun K hK => ?_) AllReadyH.nil
  go_simp
  refine (ref_small (d.round) _).mono ?_
  rintro ev w2 ⟨rfl, hbx⟩
  rw [show d.round % 256 = d.round by omega]
  have HN2 : Aside (Below w.heap.size w w2) := new_trans HNQ.out hbx
  have HR2 : Aside (RecIn w2 L (d.toV bb ll oo)) := HRQ.out.new hbx
  clear hbx HNQ HRQ
  have HNQ := HN2
  have HRQ := HR2
  refine hK.out _ _ HR2.out (fun hHeld => ?_)
  clear hK K
  try simp only [Act.put, ps]
  obtain ⟨S1, hS1⟩ : ∃ s, s = S0 ++ strOfNums ([d.round]) := ⟨_, rfl⟩
  have HZ1 : Aside (S1.size ≤ 2) := by
    have := HZ0.out
    rw [Aside, hS1, ByteArray.size_append, strOf_size]
    simp [be_length, rowIL, HO.out.len] <;> omega
  have hsz : ¬ 9223372036854775807 < S0.size + (strOfNums ([d.round])).size := by
    have := HZ0.out
    rw [strOf_size]
    simp [be_length, rowIL, HO.out.len] <;> omega
  have hcat : S0 ++ strOfNums ([d.round]) = S1 := hS1.symm
  have HS1 := aside hS1
  clear hS1
  refine wpAnyH_take (i := 4) (oi := _) (v := .string S1) rfl (by kernel_rfl) (by kernel_rfl) (by kernel_rfl) (fun _ _ _ h => h) (Or.inl ⟨by rfl, ?_⟩) hHeld ?_
  · intro W hSw
    go_simp
  try simp only [Act.put, ps]
  clear hcat hsz
  refine wpAnyH_ready (rs := [7]) (by kernel_rfl) (by simp) ?_
  refine AllReadyH.cons (o := _) rfl (fun K hK => ?_) AllReadyH.nil
  go_simp
  refine (ref_small (d.carrier) _).mono ?_
  rintro ev w3 ⟨rfl, hbx⟩
  rw [show d.carrier % 256 = d.carrier by omega]
  have HN3 : Aside (Below w.heap.size w w3) := new_trans HNQ.out hbx
  have HR3 : Aside (RecIn w3 L (d.toV bb ll oo)) := HRQ.out.new hbx
  clear hbx HNQ HRQ
  have HNQ := HN3
  have HRQ := HR3
  refine hK.out _ _ HR3.out (fun hHeld => ?_)
  clear hK K
  try simp only [Act.put, ps]
  obtain ⟨S2, hS2⟩ : ∃ s, s = S1 ++ strOfNums ([d.carrier]) := ⟨_, rfl⟩
  have HZ2 : Aside (S2.size ≤ 3) := by
    have := HZ1.out
    rw [Aside, hS2, ByteArray.size_append, strOf_size]
    simp [be_length, rowIL, HO.out.len] <;> omega
  have hsz : ¬ 9223372036854775807 < S1.size + (strOfNums ([d.carrier])).size := by
    have := HZ1.out
    rw [strOf_size]
    simp [be_length, rowIL, HO.out.len] <;> omega
  have hcat : S1 ++ strOfNums ([d.carrier]) = S2 := hS2.symm
  have HS2 := aside hS2
  clear hS2
  refine wpAnyH_take (i := 8) (oi := _) (v := .string S2) rfl (by kernel_rfl) (by kernel_rfl) (by kernel_rfl) (fun _ _ _ h => h) (Or.inl ⟨by rfl, ?_⟩) hHeld ?_
  · intro W hSw
    go_simp
  try simp only [Act.put, ps]
  clear hcat hsz
  refine wpAnyH_ready (rs := [11]) (by kernel_rfl) (by simp) ?_
  refine AllReadyH.cons (o := _) rfl (fun K hK => ?_) AllReadyH.nil
  go_simp
  refine (ref_num8 (d.bid) (by omega) 8 (by omega) _).mono ?_
  rintro ev w4 ⟨rfl, hbx⟩
  have HN4 : Aside (Below w.heap.size w w4) := new_trans HNQ.out hbx
  have HR4 : Aside (RecIn w4 L (d.toV bb ll oo)) := HRQ.out.new hbx
  clear hbx HNQ HRQ
  have HNQ := HN4
  have HRQ := HR4
  refine hK.out _ _ HR4.out (fun hHeld => ?_)
  clear hK K
  try simp only [Act.put, ps]
  obtain ⟨S3, hS3⟩ : ∃ s, s = S2 ++ strOfNums (be 8 d.bid) := ⟨_, rfl⟩
  have HZ3 : Aside (S3.size ≤ 11) := by
    have := HZ2.out
    rw [Aside, hS3, ByteArray.size_append, strOf_size]
    simp [be_length, rowIL, HO.out.len] <;> omega
  have hsz : ¬ 9223372036854775807 < S2.size + (strOfNums (be 8 d.bid)).size := by
    have := HZ2.out
    rw [strOf_size]
    simp [be_length, rowIL, HO.out.len] <;> omega
  have hcat : S2 ++ strOfNums (be 8 d.bid) = S3 := hS3.symm
  have HS3 := aside hS3
  clear hS3
  refine wpAnyH_take (i := 12) (oi := _) (v := .string S3) rfl (by kernel_rfl) (by kernel_rfl) (by kernel_rfl) (fun _ _ _ h => h) (Or.inl ⟨by rfl, ?_⟩) hHeld ?_
  · intro W hSw
    go_simp
  try simp only [Act.put, ps]
  clear hcat hsz
  refine wpAnyH_ready (rs := [15]) (by kernel_rfl) (by simp) ?_
  refine AllReadyH.cons (o := _) rfl (fun K hK => ?_) AllReadyH.nil
  go_simp
  refine (ref_num8 (d.nonce) (by omega) 8 (by omega) _).mono ?_
  rintro ev w5 ⟨rfl, hbx⟩
  have HN5 : Aside (Below w.heap.size w w5) := new_trans HNQ.out hbx
  have HR5 : Aside (RecIn w5 L (d.toV bb ll oo)) := HRQ.out.new hbx
  clear hbx HNQ HRQ
  have HNQ := HN5
  have HRQ := HR5
  refine hK.out _ _ HR5.out (fun hHeld => ?_)
  clear hK K
  try simp only [Act.put, ps]
  obtain ⟨S4, hS4⟩ : ∃ s, s = S3 ++ strOfNums (be 8 d.nonce) := ⟨_, rfl⟩
  have HZ4 : Aside (S4.size ≤ 19) := by
    have := HZ3.out
    rw [Aside, hS4, ByteArray.size_append, strOf_size]
    simp [be_length, rowIL, HO.out.len] <;> omega
  have hsz : ¬ 9223372036854775807 < S3.size + (strOfNums (be 8 d.nonce)).size := by
    have := HZ3.out
    rw [strOf_size]
    simp [be_length, rowIL, HO.out.len] <;> omega
  have hcat : S3 ++ strOfNums (be 8 d.nonce) = S4 := hS4.symm
  have HS4 := aside hS4
  clear hS4
  refine wpAnyH_take (i := 16) (oi := _) (v := .string S4) rfl (by kernel_rfl) (by kernel_rfl) (by kernel_rfl) (fun _ _ _ h => h) (Or.inl ⟨by rfl, ?_⟩) hHeld ?_
  · intro W hSw
    go_simp
  try simp only [Act.put, ps]
  clear hcat hsz
  refine wpAnyH_take (i := 17) (oi := _) (v := .string S4) rfl (by kernel_rfl) (by kernel_rfl) (by kernel_rfl) (fun _ _ _ h => h) (Or.inl ⟨by rfl, ?_⟩) hHeld ?_
  · intro W hSw
    go_simp
  try simp only [Act.put, ps]
  refine wpAnyH_done (by kernel_rfl) ?_ _
  go_upto_region 18 with fail
  have c4 : w5.cell? ⟨L, 4, none⟩ = some (.int .i64 d.tick) := HR5.out.tick
  have htk : d.tick % 18446744073709551616 = d.tick := by omega
  have HTK : Aside (0 ≤ d.tick ∧ d.tick ≤ 18446744073709551615) := ⟨by omega, by omega⟩
  go_wp2_with fail
  refine (ref_num8 d.tick HTK.out 8 (by omega) _).mono ?_
  rintro e wz ⟨rfl, hbz⟩
  have HNZ : Aside (Below w.heap.size w wz) := new_trans HN5.out hbz
  clear hbz c4 htk
  have hcat : S4 ++ strOfNums (be 8 d.tick) = T := by rw [HT.out, bytesF, HL.out, HS4.out, HS3.out, HS2.out, HS1.out, HS0.out]; simp only [← strOf_append] <;> rfl
  have hsz : ¬ 9223372036854775807 < S4.size + (strOfNums (be 8 d.tick)).size := by
    have := HZ4.out
    rw [strOf_size]
    simp [be_length] <;> omega
  go_wp2_with fail
  go_ret
  exact ⟨rfl, HNZ.out⟩
end Go.Proofs.YtkpmcjfolncmmaaGreatDoor
namespace Go.Proofs.YtkpmcjfolncmmaaGreatDoor
open Go.RowKit
set_option maxHeartbeats 4000000 in
set_option maxRecDepth 100000 in
theorem rbytes_k5 (rv : RecV) (d : RecD) (ho : d.ok) (hm : mayB d = true) (hkd : d.kind = 5) (w : World) (h : RecAt w rv d) :
    Calls Tryz.prog 6 #[.agg (recCells rv)] w fun e w' => e = .returned (.string (bytesF d)) ∧ Below w.heap.size w w' := by
  have H := aside h
  obtain ⟨bb, ll, oo, rfl, hb, hl, hw⟩ := h
  have RB := aside hb
  have RL := aside hl
  have RO := aside hw
  clear hb hl hw

  obtain ⟨L, hL⟩ : ∃ x, x = w.heap.size := ⟨_, rfl⟩
  obtain ⟨w0, hw0⟩ : ∃ z, z = w.alloc (.cells (recCells (d.toV bb ll oo)) 38) := ⟨_, rfl⟩
  have HN0 : Aside (Below w.heap.size w w0) := by rw [hw0]; exact new_alloc _ _
  have HR0 : Aside (RecIn w0 L (d.toV bb ll oo)) := by rw [hw0, hL]; exact RecIn.box _ _
  have HO := aside ho
  have HM := aside hm
  have HKD := aside hkd
  obtain ⟨T, hT⟩ : ∃ T, T = bytesF d := ⟨_, rfl⟩
  have HT := aside hT
  rw [← hT]
  have hT9 := ho.tick.2
  have hBB := ho.bid
  have hNN := ho.nonce
  have hPP := ho.price
  have hrt := right5 hkd (mayB_and hm).1
  clear ho hm hkd hT
  obtain ⟨r1, r2⟩ := hrt
  go_enter Tryz.func6, Tryz.ntmps6
  go_upto_region 1 with fail
  rw [← hw0, ← hL]
  clear hw0 hL
  have c0 : w0.cell? ⟨L, 0, none⟩ = some (.int .i64 5) := by rw [← HKD.out]; exact HR0.out.kind
  go_wp2_with fail
  refine (ref_small 5 w0).mono ?_
  rintro e w1 ⟨rfl, hb1⟩
  rw [show (5 : Int) % 256 = 5 from rfl]
  obtain ⟨S0, hS0⟩ : ∃ s, s = strOfNums [(5 : Int)] := ⟨_, rfl⟩
  rw [← hS0]
  have HZ0 : Aside (S0.size ≤ 1) := by rw [hS0, strOf_size]; exact Nat.le_refl _
  have HS0 := aside hS0
  clear hS0
  have HR1 : Aside (RecIn w1 L (d.toV bb ll oo)) := HR0.out.new hb1
  have HN1 : Aside (Below w.heap.size w w1) := new_trans HN0.out hb1
  clear hb1 c0 HR0 HN0
  have c0 : w1.cell? ⟨L, 0, none⟩ = some (.int .i64 5) := by rw [← HKD.out]; exact HR1.out.kind
  have HL : Aside (bytesL d = [5, d.round, d.state, d.winner + 1] ++ be 8 d.price ++ be 8 d.tick) := by rw [Aside, bytesL, if_neg (by rw [HKD.out]; decide), if_neg (by rw [HKD.out]; decide), if_neg (by rw [HKD.out]; decide), if_neg (by rw [HKD.out]; decide), if_pos HKD.out]
  go_upto_region 17 with fail
  clear c0
  have HRQ : Aside (RecIn w1.drew L (d.toV bb ll oo)) := HR1.out.drew
  have HNQ : Aside (Below w.heap.size w w1.drew) := new_trans HN1.out (new_drew _)
  refine wp_region_held_drew (S := fun W => RecIn W L (d.toV bb ll oo)) (by kernel_rfl) HRQ.out (fun hHeld => ?_)
  refine wpAnyH_take (i := 0) (oi := _) (v := .string S0) rfl (by kernel_rfl) (by kernel_rfl) (by kernel_rfl) (fun _ _ _ h => h) (Or.inl ⟨by rfl, ?_⟩) hHeld ?_
  · intro W hSw
    go_simp
  try simp only [Act.put, ps]
  refine wpAnyH_take (i := 1) (oi := _) (v := .pointer (some ⟨L, 1, none⟩)) rfl (by kernel_rfl) (by kernel_rfl) (by kernel_rfl) (fun _ _ _ h => h) (Or.inl ⟨by rfl, ?_⟩) hHeld ?_
  · intro W hSw
    go_simp
  try simp only [Act.put, ps]
  refine wpAnyH_take (i := 2) (oi := _) (v := .int .i64 d.round) rfl (by kernel_rfl) (by kernel_rfl) (by kernel_rfl) (fun _ _ _ h => h) (Or.inl ⟨by rfl, ?_⟩) hHeld ?_
  · intro W hSw
    have c : W.cell? ⟨L, 1, none⟩ = some (.int .i64 d.round) := hSw.round
    go_simp
  try simp only [Act.put, ps]
  refine wpAnyH_take (i := 5) (oi := _) (v := .pointer (some ⟨L, 40, none⟩)) rfl (by kernel_rfl) (by kernel_rfl) (by kernel_rfl) (fun _ _ _ h => h) (Or.inl ⟨by rfl, ?_⟩) hHeld ?_
  · intro W hSw
    go_simp
  try simp only [Act.put, ps]
  refine wpAnyH_take (i := 6) (oi := _) (v := .pointer (some ⟨L, 40, none⟩)) rfl (by kernel_rfl) (by kernel_rfl) (by kernel_rfl) (fun _ _ _ h => h) (Or.inl ⟨by rfl, ?_⟩) hHeld ?_
  · intro W hSw
    go_simp
  try simp only [Act.put, ps]
  refine wpAnyH_take (i := 7) (oi := _) (v := .int .i64 d.state) rfl (by kernel_rfl) (by kernel_rfl) (by kernel_rfl) (fun _ _ _ h => h) (Or.inl ⟨by rfl, ?_⟩) hHeld ?_
  · intro W hSw
    have c : W.cell? ⟨L, 40, none⟩ = some (.int .i64 d.state) := hSw.state
    go_simp
  try simp only [Act.put, ps]
  refine wpAnyH_take (i := 10) (oi := _) (v := .pointer (some ⟨L, 40, none⟩)) rfl (by kernel_rfl) (by kernel_rfl) (by kernel_rfl) (fun _ _ _ h => h) (Or.inl ⟨by rfl, ?_⟩) hHeld ?_
  · intro W hSw
    go_simp
  try simp only [Act.put, ps]
  refine wpAnyH_take (i := 11) (oi := _) (v := .pointer (some ⟨L, 41, none⟩)) rfl (by kernel_rfl) (by kernel_rfl) (by kernel_rfl) (fun _ _ _ h => h) (Or.inl ⟨by rfl, ?_⟩) hHeld ?_
  · intro W hSw
    go_simp
  try simp only [Act.put, ps]
  refine wpAnyH_take (i := 12) (oi := _) (v := .int .i64 d.winner) rfl (by kernel_rfl) (by kernel_rfl) (by kernel_rfl) (fun _ _ _ h => h) (Or.inl ⟨by rfl, ?_⟩) hHeld ?_
  · intro W hSw
    have c : W.cell? ⟨L, 41, none⟩ = some (.int .i64 d.winner) := hSw.winner
    go_simp
  try simp only [Act.put, ps]
  refine wpAnyH_take (i := 13) (oi := _) (v := .int .i64 (d.winner + 1)) rfl (by kernel_rfl) (by kernel_rfl) (by kernel_rfl) (fun _ _ _ h => h) (Or.inl ⟨by rfl, ?_⟩) hHeld ?_
  · intro W hSw
    have hcv : IntKind.i64.wrap (d.winner + 1) = d.winner + 1 := IntWalk.i64_in _ (by omega)
    go_simp
  try simp only [Act.put, ps]
  refine wpAnyH_take (i := 16) (oi := _) (v := .pointer (some ⟨L, 40, none⟩)) rfl (by kernel_rfl) (by kernel_rfl) (by kernel_rfl) (fun _ _ _ h => h) (Or.inl ⟨by rfl, ?_⟩) hHeld ?_
  · intro W hSw
    go_simp
  try simp only [Act.put, ps]
  refine wpAnyH_take (i := 17) (oi := _) (v := .pointer (some ⟨L, 42, none⟩)) rfl (by kernel_rfl) (by kernel_rfl) (by kernel_rfl) (fun _ _ _ h => h) (Or.inl ⟨by rfl, ?_⟩) hHeld ?_
  · intro W hSw
    go_simp
  try simp only [Act.put, ps]
  refine wpAnyH_take (i := 18) (oi := _) (v := .int .u64 d.price) rfl (by kernel_rfl) (by kernel_rfl) (by kernel_rfl) (fun _ _ _ h => h) (Or.inl ⟨by rfl, ?_⟩) hHeld ?_
  · intro W hSw
    have c : W.cell? ⟨L, 42, none⟩ = some (.int .u64 d.price) := hSw.price
    go_simp
  try simp only [Act.put, ps]
  refine wpAnyH_ready (rs := [3]) (by kernel_rfl) (by simp) ?_
  refine AllReadyH.cons (o := _) rfl (fun K hK => ?_) AllReadyH.nil
  go_simp
  refine (ref_small (d.round) _).mono ?_
  rintro ev w2 ⟨rfl, hbx⟩
  rw [show d.round % 256 = d.round by omega]
  have HN2 : Aside (Below w.heap.size w w2) := new_trans HNQ.out hbx
  have HR2 : Aside (RecIn w2 L (d.toV bb ll oo)) := HRQ.out.new hbx
  clear hbx HNQ HRQ
  have HNQ := HN2
  have HRQ := HR2
  refine hK.out _ _ HR2.out (fun hHeld => ?_)
  clear hK K
  try simp only [Act.put, ps]
  obtain ⟨S1, hS1⟩ : ∃ s, s = S0 ++ strOfNums ([d.round]) := ⟨_, rfl⟩
  have HZ1 : Aside (S1.size ≤ 2) := by
    have := HZ0.out
    rw [Aside, hS1, ByteArray.size_append, strOf_size]
    simp [be_length, rowIL, HO.out.len] <;> omega
  have hsz : ¬ 9223372036854775807 < S0.size + (strOfNums ([d.round])).size := by
    have := HZ0.out
    rw [strOf_size]
    simp [be_length, rowIL, HO.out.len] <;> omega
  have hcat : S0 ++ strOfNums ([d.round]) = S1 := hS1.symm
  have HS1 := aside hS1
  clear hS1
  refine wpAnyH_take (i := 4) (oi := _) (v := .string S1) rfl (by kernel_rfl) (by kernel_rfl) (by kernel_rfl) (fun _ _ _ h => h) (Or.inl ⟨by rfl, ?_⟩) hHeld ?_
  · intro W hSw
    go_simp
  try simp only [Act.put, ps]
  clear hcat hsz
  refine wpAnyH_ready (rs := [8]) (by kernel_rfl) (by simp) ?_
  refine AllReadyH.cons (o := _) rfl (fun K hK => ?_) AllReadyH.nil
  go_simp
  refine (ref_small (d.state) _).mono ?_
  rintro ev w3 ⟨rfl, hbx⟩
  rw [show d.state % 256 = d.state by omega]
  have HN3 : Aside (Below w.heap.size w w3) := new_trans HNQ.out hbx
  have HR3 : Aside (RecIn w3 L (d.toV bb ll oo)) := HRQ.out.new hbx
  clear hbx HNQ HRQ
  have HNQ := HN3
  have HRQ := HR3
  refine hK.out _ _ HR3.out (fun hHeld => ?_)
  clear hK K
  try simp only [Act.put, ps]
  obtain ⟨S2, hS2⟩ : ∃ s, s = S1 ++ strOfNums ([d.state]) := ⟨_, rfl⟩
  have HZ2 : Aside (S2.size ≤ 3) := by
    have := HZ1.out
    rw [Aside, hS2, ByteArray.size_append, strOf_size]
    simp [be_length, rowIL, HO.out.len] <;> omega
  have hsz : ¬ 9223372036854775807 < S1.size + (strOfNums ([d.state])).size := by
    have := HZ1.out
    rw [strOf_size]
    simp [be_length, rowIL, HO.out.len] <;> omega
  have hcat : S1 ++ strOfNums ([d.state]) = S2 := hS2.symm
  have HS2 := aside hS2
  clear hS2
  refine wpAnyH_take (i := 9) (oi := _) (v := .string S2) rfl (by kernel_rfl) (by kernel_rfl) (by kernel_rfl) (fun _ _ _ h => h) (Or.inl ⟨by rfl, ?_⟩) hHeld ?_
  · intro W hSw
    go_simp
  try simp only [Act.put, ps]
  clear hcat hsz
  refine wpAnyH_ready (rs := [14]) (by kernel_rfl) (by simp) ?_
  refine AllReadyH.cons (o := _) rfl (fun K hK => ?_) AllReadyH.nil
  go_simp
  refine (ref_small (d.winner + 1) _).mono ?_
  rintro ev w4 ⟨rfl, hbx⟩
  rw [show (d.winner + 1) % 256 = (d.winner + 1) by omega]
  have HN4 : Aside (Below w.heap.size w w4) := new_trans HNQ.out hbx
  have HR4 : Aside (RecIn w4 L (d.toV bb ll oo)) := HRQ.out.new hbx
  clear hbx HNQ HRQ
  have HNQ := HN4
  have HRQ := HR4
  refine hK.out _ _ HR4.out (fun hHeld => ?_)
  clear hK K
  try simp only [Act.put, ps]
  obtain ⟨S3, hS3⟩ : ∃ s, s = S2 ++ strOfNums ([d.winner + 1]) := ⟨_, rfl⟩
  have HZ3 : Aside (S3.size ≤ 4) := by
    have := HZ2.out
    rw [Aside, hS3, ByteArray.size_append, strOf_size]
    simp [be_length, rowIL, HO.out.len] <;> omega
  have hsz : ¬ 9223372036854775807 < S2.size + (strOfNums ([d.winner + 1])).size := by
    have := HZ2.out
    rw [strOf_size]
    simp [be_length, rowIL, HO.out.len] <;> omega
  have hcat : S2 ++ strOfNums ([d.winner + 1]) = S3 := hS3.symm
  have HS3 := aside hS3
  clear hS3
  refine wpAnyH_take (i := 15) (oi := _) (v := .string S3) rfl (by kernel_rfl) (by kernel_rfl) (by kernel_rfl) (fun _ _ _ h => h) (Or.inl ⟨by rfl, ?_⟩) hHeld ?_
  · intro W hSw
    go_simp
  try simp only [Act.put, ps]
  clear hcat hsz
  refine wpAnyH_ready (rs := [19]) (by kernel_rfl) (by simp) ?_
  refine AllReadyH.cons (o := _) rfl (fun K hK => ?_) AllReadyH.nil
  go_simp
  refine (ref_num8 (d.price) (by omega) 8 (by omega) _).mono ?_
  rintro ev w5 ⟨rfl, hbx⟩
  have HN5 : Aside (Below w.heap.size w w5) := new_trans HNQ.out hbx
  have HR5 : Aside (RecIn w5 L (d.toV bb ll oo)) := HRQ.out.new hbx
  clear hbx HNQ HRQ
  have HNQ := HN5
  have HRQ := HR5
  refine hK.out _ _ HR5.out (fun hHeld => ?_)
  clear hK K
  try simp only [Act.put, ps]
  obtain ⟨S4, hS4⟩ : ∃ s, s = S3 ++ strOfNums (be 8 d.price) := ⟨_, rfl⟩
  have HZ4 : Aside (S4.size ≤ 12) := by
    have := HZ3.out
    rw [Aside, hS4, ByteArray.size_append, strOf_size]
    simp [be_length, rowIL, HO.out.len] <;> omega
  have hsz : ¬ 9223372036854775807 < S3.size + (strOfNums (be 8 d.price)).size := by
    have := HZ3.out
    rw [strOf_size]
    simp [be_length, rowIL, HO.out.len] <;> omega
  have hcat : S3 ++ strOfNums (be 8 d.price) = S4 := hS4.symm
  have HS4 := aside hS4
  clear hS4
  refine wpAnyH_take (i := 20) (oi := _) (v := .string S4) rfl (by kernel_rfl) (by kernel_rfl) (by kernel_rfl) (fun _ _ _ h => h) (Or.inl ⟨by rfl, ?_⟩) hHeld ?_
  · intro W hSw
    go_simp
  try simp only [Act.put, ps]
  clear hcat hsz
  refine wpAnyH_take (i := 21) (oi := _) (v := .string S4) rfl (by kernel_rfl) (by kernel_rfl) (by kernel_rfl) (fun _ _ _ h => h) (Or.inl ⟨by rfl, ?_⟩) hHeld ?_
  · intro W hSw
    go_simp
  try simp only [Act.put, ps]
  refine wpAnyH_done (by kernel_rfl) ?_ _
  go_upto_region 18 with fail
  have c4 : w5.cell? ⟨L, 4, none⟩ = some (.int .i64 d.tick) := HR5.out.tick
  have htk : d.tick % 18446744073709551616 = d.tick := by omega
  have HTK : Aside (0 ≤ d.tick ∧ d.tick ≤ 18446744073709551615) := ⟨by omega, by omega⟩
  go_wp2_with fail
  refine (ref_num8 d.tick HTK.out 8 (by omega) _).mono ?_
  rintro e wz ⟨rfl, hbz⟩
  have HNZ : Aside (Below w.heap.size w wz) := new_trans HN5.out hbz
  clear hbz c4 htk
  have hcat : S4 ++ strOfNums (be 8 d.tick) = T := by rw [HT.out, bytesF, HL.out, HS4.out, HS3.out, HS2.out, HS1.out, HS0.out]; simp only [← strOf_append] <;> rfl
  have hsz : ¬ 9223372036854775807 < S4.size + (strOfNums (be 8 d.tick)).size := by
    have := HZ4.out
    rw [strOf_size]
    simp [be_length] <;> omega
  go_wp2_with fail
  go_ret
  exact ⟨rfl, HNZ.out⟩
end Go.Proofs.YtkpmcjfolncmmaaGreatDoor
namespace Go.Proofs.YtkpmcjfolncmmaaGreatDoor
open Go.RowKit
set_option maxHeartbeats 4000000 in
set_option maxRecDepth 100000 in
theorem rbytes_k6 (rv : RecV) (d : RecD) (ho : d.ok) (hm : mayB d = true) (hkd : d.kind = 6) (w : World) (h : RecAt w rv d) :
    Calls Tryz.prog 6 #[.agg (recCells rv)] w fun e w' => e = .returned (.string (bytesF d)) ∧ Below w.heap.size w w' := by
  have H := aside h
  obtain ⟨bb, ll, oo, rfl, hb, hl, hw⟩ := h
  have RB := aside hb
  have RL := aside hl
  have RO := aside hw
  clear hb hl hw

  obtain ⟨L, hL⟩ : ∃ x, x = w.heap.size := ⟨_, rfl⟩
  obtain ⟨w0, hw0⟩ : ∃ z, z = w.alloc (.cells (recCells (d.toV bb ll oo)) 38) := ⟨_, rfl⟩
  have HN0 : Aside (Below w.heap.size w w0) := by rw [hw0]; exact new_alloc _ _
  have HR0 : Aside (RecIn w0 L (d.toV bb ll oo)) := by rw [hw0, hL]; exact RecIn.box _ _
  have HO := aside ho
  have HM := aside hm
  have HKD := aside hkd
  obtain ⟨T, hT⟩ : ∃ T, T = bytesF d := ⟨_, rfl⟩
  have HT := aside hT
  rw [← hT]
  have hT9 := ho.tick.2
  have hBB := ho.bid
  have hNN := ho.nonce
  have hPP := ho.price
  have hrt := right6 hkd (mayB_and hm).1
  clear ho hm hkd hT
  obtain ⟨r1, r2⟩ := hrt
  go_enter Tryz.func6, Tryz.ntmps6
  go_upto_region 1 with fail
  rw [← hw0, ← hL]
  clear hw0 hL
  have c0 : w0.cell? ⟨L, 0, none⟩ = some (.int .i64 6) := by rw [← HKD.out]; exact HR0.out.kind
  go_wp2_with fail
  refine (ref_small 6 w0).mono ?_
  rintro e w1 ⟨rfl, hb1⟩
  rw [show (6 : Int) % 256 = 6 from rfl]
  obtain ⟨S0, hS0⟩ : ∃ s, s = strOfNums [(6 : Int)] := ⟨_, rfl⟩
  rw [← hS0]
  have HZ0 : Aside (S0.size ≤ 1) := by rw [hS0, strOf_size]; exact Nat.le_refl _
  have HS0 := aside hS0
  clear hS0
  have HR1 : Aside (RecIn w1 L (d.toV bb ll oo)) := HR0.out.new hb1
  have HN1 : Aside (Below w.heap.size w w1) := new_trans HN0.out hb1
  clear hb1 c0 HR0 HN0
  have c0 : w1.cell? ⟨L, 0, none⟩ = some (.int .i64 6) := by rw [← HKD.out]; exact HR1.out.kind
  have HL : Aside (bytesL d = [6] ++ be 8 d.tick) := by rw [Aside, bytesL, if_neg (by rw [HKD.out]; decide), if_neg (by rw [HKD.out]; decide), if_neg (by rw [HKD.out]; decide), if_neg (by rw [HKD.out]; decide), if_neg (by rw [HKD.out]; decide)]
  go_upto_region 18 with fail
  clear c0
  have c4 : w1.cell? ⟨L, 4, none⟩ = some (.int .i64 d.tick) := HR1.out.tick
  have htk : d.tick % 18446744073709551616 = d.tick := by omega
  have HTK : Aside (0 ≤ d.tick ∧ d.tick ≤ 18446744073709551615) := ⟨by omega, by omega⟩
  go_wp2_with fail
  refine (ref_num8 d.tick HTK.out 8 (by omega) _).mono ?_
  rintro e wz ⟨rfl, hbz⟩
  have HNZ : Aside (Below w.heap.size w wz) := new_trans HN1.out hbz
  clear hbz c4 htk
  have hcat : S0 ++ strOfNums (be 8 d.tick) = T := by rw [HT.out, bytesF, HL.out, HS0.out]; simp only [← strOf_append] <;> rfl
  have hsz : ¬ 9223372036854775807 < S0.size + (strOfNums (be 8 d.tick)).size := by
    have := HZ0.out
    rw [strOf_size]
    simp [be_length] <;> omega
  go_wp2_with fail
  go_ret
  exact ⟨rfl, HNZ.out⟩
end Go.Proofs.YtkpmcjfolncmmaaGreatDoor
namespace Go.Proofs.YtkpmcjfolncmmaaGreatDoor
open Go.RowKit
theorem rbytes_any (rv : RecV) (d : RecD) (ho : d.ok) (hm : mayB d = true) (w : World) (h : RecAt w rv d) :
    Calls Tryz.prog 6 #[.agg (recCells rv)] w fun e w' => e = .returned (.string (bytesF d)) ∧ Below w.heap.size w w' := by
  have hk := may_kind hm
  have h6 : d.kind = 1 ∨ d.kind = 2 ∨ d.kind = 3 ∨ d.kind = 4 ∨ d.kind = 5 ∨ d.kind = 6 := by omega
  rcases h6 with e | e | e | e | e | e
  · exact rbytes_k1 rv d ho hm e w h
  · exact rbytes_k2 rv d ho hm e w h
  · exact rbytes_k3 rv d ho hm e w h
  · exact rbytes_k4 rv d ho hm e w h
  · exact rbytes_k5 rv d ho hm e w h
  · exact rbytes_k6 rv d ho hm e w h
end Go.Proofs.YtkpmcjfolncmmaaGreatDoor
