/- Numbers as rows of bytes, and back: what is laid is read, and what is read was laid so. Plain. -/
import Derived.Test.YtfnekbfcndkjeaaGreatDoorSOct1
import Derived.Lib.LazyBuf
import Derived.OwnWalk
set_option linter.all false
namespace Go.Proofs.YtfnekbfcndkjeaaGreatDoor
open Go.RowKit
def rawB (v : Int) (j : Nat) : Int := v / 256 ^ (7 - j) % 256
def rawTo (v : Int) : Nat → Array Value
  | 0 => #[.int .u8 0, .int .u8 0, .int .u8 0, .int .u8 0, .int .u8 0, .int .u8 0, .int .u8 0, .int .u8 0]
  | 1 => #[.int .u8 0, .int .u8 0, .int .u8 0, .int .u8 0, .int .u8 0, .int .u8 0, .int .u8 0, .int .u8 (v % 256)]
  | 2 => #[.int .u8 0, .int .u8 0, .int .u8 0, .int .u8 0, .int .u8 0, .int .u8 0, .int .u8 (v / 256 % 256), .int .u8 (v % 256)]
  | 3 => #[.int .u8 0, .int .u8 0, .int .u8 0, .int .u8 0, .int .u8 0, .int .u8 (v / 65536 % 256), .int .u8 (v / 256 % 256), .int .u8 (v % 256)]
  | 4 => #[.int .u8 0, .int .u8 0, .int .u8 0, .int .u8 0, .int .u8 (v / 16777216 % 256), .int .u8 (v / 65536 % 256), .int .u8 (v / 256 % 256), .int .u8 (v % 256)]
  | 5 => #[.int .u8 0, .int .u8 0, .int .u8 0, .int .u8 (v / 4294967296 % 256), .int .u8 (v / 16777216 % 256), .int .u8 (v / 65536 % 256), .int .u8 (v / 256 % 256), .int .u8 (v % 256)]
  | 6 => #[.int .u8 0, .int .u8 0, .int .u8 (v / 1099511627776 % 256), .int .u8 (v / 4294967296 % 256), .int .u8 (v / 16777216 % 256), .int .u8 (v / 65536 % 256), .int .u8 (v / 256 % 256), .int .u8 (v % 256)]
  | 7 => #[.int .u8 0, .int .u8 (v / 281474976710656 % 256), .int .u8 (v / 1099511627776 % 256), .int .u8 (v / 4294967296 % 256), .int .u8 (v / 16777216 % 256), .int .u8 (v / 65536 % 256), .int .u8 (v / 256 % 256), .int .u8 (v % 256)]
  | _ => #[.int .u8 (v / 72057594037927936 % 256), .int .u8 (v / 281474976710656 % 256), .int .u8 (v / 1099511627776 % 256), .int .u8 (v / 4294967296 % 256), .int .u8 (v / 16777216 % 256), .int .u8 (v / 65536 % 256), .int .u8 (v / 256 % 256), .int .u8 (v % 256)]
theorem rawTo_get (v : Int) (j : Nat) (hj : j < 8) : (rawTo v 8)[j]? = some (.int .u8 (rawB v j)) := by
  match j, hj with
  | 0, _ | 1, _ | 2, _ | 3, _ | 4, _ | 5, _ | 6, _ | 7, _ => simp [rawTo, rawB]
  | _ + 8, h => omega
def thin (v : Int) : Nat → Bool
  | 0 => true
  | m + 1 => thin v m && decide (rawB v m = 0)
theorem thin_no (v : Int) (j : Nat) : ∀ m, j < m → rawB v j ≠ 0 → thin v m = false
  | 0, h, _ => by omega
  | m + 1, h, hx => by
    by_cases e : j = m
    · rw [thin, ← e]
      simp [hx]
    · rw [thin, thin_no v j m (by omega) hx]
      rfl
def putBytes (v : Int) (n : Nat) : List Int := (List.range n).map fun i => rawB v (8 - n + i)
def putF (t : ByteArray) (v n : Int) : ByteArray × Int :=
  if wideB n then if thin v (8 - n.toNat) then (t ++ strOfNums (putBytes v n.toNat), 0) else (ByteArray.empty, 3) else (ByteArray.empty, 2)
def PutPost (t : ByteArray) (v n : Int) (w : World) (e : Ending) (w' : World) : Prop :=
  e = .returned (.tuple #[.string (putF t v n).1, .int .i64 (putF t v n).2]) ∧ Below w.heap.size w w'
def numsOf (t : ByteArray) : List Int := t.data.toList.map fun x => (x.toNat : Int)
theorem numsOf_length (t : ByteArray) : (numsOf t).length = t.size := by
  rw [numsOf, List.length_map]
  rfl
theorem numsOf_vals (t : ByteArray) : (t.data.toList.map fun x => Value.int .u8 (x.toNat : Int)) = (numsOf t).map (Value.int .u8) := by
  rw [numsOf, List.map_map]
  rfl
theorem str_two (t : ByteArray) (ys : List Int) : strOfNums (numsOf t ++ ys) = t ++ strOfNums ys := by
  apply ByteArray.ext
  rw [ByteArray.data_append]
  apply Array.toList_inj.1
  rw [Array.toList_append, strOfNums_data, strOfNums_data, List.map_append, numsOf, List.map_map]
  congr 1
  rw [List.map_congr_left (g := id), List.map_id]
  intro x _
  simp
theorem two_cells (W : World) (D : Nat) (xs ys : List Int) (n : Nat) (hn : n = xs.length) (hc : ∀ j, j < xs.length + ys.length → (W.cell? ⟨D, j, none⟩).isSome = true) (i : Nat) (hi : i < xs.length + ys.length) :
    ((W.setCells D 0 (xs.map (Value.int .u8))).setCells D n (ys.map (Value.int .u8))).cell? ⟨D, 0 + i, none⟩ = some (.int .u8 ((xs ++ ys).getD i 0)) := by
  subst hn
  rw [Nat.zero_add]
  have h1 : ∀ j, j < xs.length → (W.setCells D 0 (xs.map (Value.int .u8))).cell? ⟨D, j, none⟩ = some (.int .u8 (xs.getD j 0)) := by
    intro j hj
    have := World.cell?_setCells_in D (xs.map (Value.int .u8)) 0 W (fun k hk => by rw [Nat.zero_add]; rw [List.length_map] at hk; exact hc k (by omega)) j (by rw [List.length_map]; exact hj)
    rw [Nat.zero_add] at this
    rw [this, List.getElem_map, List.getD_eq_getElem?_getD, List.getElem?_eq_getElem hj]
    rfl
  by_cases e : i < xs.length
  · rw [World.cell?_setCells_out D _ _ _ _ (fun _ _ => .inl e), h1 i e, List.getD_eq_getElem?_getD, List.getD_eq_getElem?_getD, List.getElem?_append_left e]
  · obtain ⟨k, rfl⟩ : ∃ k, i = xs.length + k := ⟨i - xs.length, by omega⟩
    have h2 : ∀ j, j < (ys.map (Value.int .u8)).length → ((W.setCells D 0 (xs.map (Value.int .u8))).cell? ⟨D, xs.length + j, none⟩).isSome = true := by
      intro j hj
      rw [List.length_map] at hj
      rw [World.cell?_setCells_out D _ _ _ _ (fun _ _ => .inr (by rw [List.length_map]; simp only; omega))]
      exact hc _ (by omega)
    rw [World.cell?_setCells_in D (ys.map (Value.int .u8)) xs.length _ h2 k (by rw [List.length_map]; omega), List.getElem_map, List.getD_eq_getElem?_getD, List.getElem?_append_right (by omega), Nat.add_sub_cancel_left, List.getElem?_eq_getElem (by omega)]
    rfl
theorem cells_drew (b : Nat) : ∀ (vs : List Value) (o : Nat) (W : World), W.drew.setCells b o vs = (W.setCells b o vs).drew
  | [], _, _ => rfl
  | v :: r, o, W => cells_drew b r (o + 1) (W.setCell ⟨b, o, none⟩ v)
theorem below_cells {B b : Nat} {a : World} (hb : B ≤ b) : ∀ (vs : List Value) (o : Nat) (w : World), Below B a w → Below B a (w.setCells b o vs)
  | [], _, _, h => h
  | v :: r, o, _, h => below_cells hb r (o + 1) _ (h.setCell (p := ⟨b, o, none⟩) hb v)
theorem make_bytes (W : World) (L : Nat) (hL : L ≤ 1099511627786) : (Instr.makeSlice 22 (.int .i64 (L : Int)) (.int .i64 (L : Int))).run Tryz.prog W = .ok (.slice (some ⟨W.heap.size, 0, none⟩) L L) (W.alloc (.cells (madeCells #[.int .u8 0] L) 5)) := by
  obtain ⟨i0, hi, hz0, hz1, hz2⟩ := info_parts Tryz.infoU8
  have := run_make (P := Tryz.prog) W 22 5 i0 (.int .u8 0) Tryz.underlying22 hi hz0 .i64 .i64 L L (by omega) (by omega) (by rw [hz2]; omega) (by omega)
  simpa [hz1, Value.cells] using this
theorem raw_hm (D N : Nat) (hN : N ≤ 8) (W : World) : (Instr.sliceAt 197 (.pointer (some ⟨D, 0, none⟩)) none (some (.int .i64 (8 - (N : Int)))) (some (.int .i64 (8 - (N : Int))))).run Tryz.prog W = .ok (.slice (some ⟨D, 0, none⟩) (8 - N) (8 - N)) W := by
  have ht : Tryz.prog.underlying 197 = some (.array (Tryz.prog.arrayLen 197) (Tryz.prog.elem 197)) := by kernel_rfl
  have hl : Tryz.prog.arrayLen 197 = 8 := by kernel_rfl
  have he : Tryz.prog.elem 197 = 5 := by kernel_rfl
  have hz := Tryz.sizeOf5
  rw [run_sliceAt_array_hm (ht := ht) (h0 := by omega) (h2 := Int.le_refl _) (h3 := by rw [hl]; omega), he]
  have hm : (8 - (N : Int)).toNat = 8 - N := by omega
  simp [hz, hm, slicedAt, Addr.add]
theorem raw_l (D N : Nat) (hN : N ≤ 8) (h1 : 1 ≤ N) (W : World) : (Instr.sliceAt 197 (.pointer (some ⟨D, 0, none⟩)) (some (.int .i64 (8 - (N : Int)))) none none).run Tryz.prog W = .ok (.slice (some ⟨D, 8 - N, none⟩) N N) W := by
  have ht : Tryz.prog.underlying 197 = some (.array (Tryz.prog.arrayLen 197) (Tryz.prog.elem 197)) := by kernel_rfl
  have hl : Tryz.prog.arrayLen 197 = 8 := by kernel_rfl
  have he : Tryz.prog.elem 197 = 5 := by kernel_rfl
  have hz := Tryz.sizeOf5
  rw [run_sliceAt_array_l (ht := ht) (h0 := by omega) (h1 := by rw [hl]; omega), he, hl]
  have hm : (8 - (N : Int)).toNat = 8 - N := by omega
  have hq : 8 - (8 - N) = N := by omega
  simp [hz, hm, slicedAt, hq]
  rw [if_neg (by omega)]
  simp [Addr.add]
  intro h
  omega
theorem tail_l (D L N : Nat) (h1 : 1 ≤ N) (W : World) : (Instr.sliceAt 22 (.slice (some ⟨D, 0, none⟩) (L + N) (L + N)) (some (.int .i64 (L : Int))) none none).run Tryz.prog W = .ok (.slice (some ⟨D, L, none⟩) N N) W := by
  have hu : Tryz.prog.underlying 22 = some (.slice (Tryz.prog.elem 22)) := by kernel_rfl
  have he : Tryz.prog.elem 22 = 5 := by kernel_rfl
  have hz := Tryz.sizeOf5
  rw [run_sliceAt_slice (h := hu), run_slice_l (h0 := by omega) (h1 := by omega)]
  · have hq : L + N - L = N := by omega
    have hN0 : N ≠ 0 := by omega
    simp [he, hz, sliced, Addr.add, hq, hN0]
    intro h
    exact h.symm
  · exact hu
set_option maxHeartbeats 4000000 in
set_option maxRecDepth 100000 in
theorem put_any (t : ByteArray) (hsz : t.size ≤ 1099511627776) (v n : Int) (hv : 0 ≤ v ∧ v ≤ 18446744073709551615) (w : World) :
    Calls Tryz.prog 105 #[.string t, .int .u64 v, .int .i64 n] w (PutPost t v n w) := by
  have HSZ := aside hsz
  have HV := aside hv
  clear hsz hv
  go_enter Tryz.func105, Tryz.ntmps105
  go_wp2_with fail
  refine (wide_any n _).mono ?_
  rintro e w1 ⟨rfl, rfl⟩
  by_cases h1 : wideB n = true
  · obtain ⟨hn1, hn8⟩ : 1 ≤ n ∧ n ≤ 8 := by simpa [wideB] using h1
    obtain ⟨N, rfl⟩ := Int.eq_ofNat_of_zero_le (show 0 ≤ n by omega)
    have HW := aside h1
    go_wp2_with fail
    clear h1
    go_loopg [16] 8 (fun g v16 wr => ∃ k : Nat, k ≤ 8 ∧ v16 = .int .i64 k ∧ 8 - k ≤ g ∧ wr = w1.alloc (.cells (rawTo v k) 197))
    case atStart => exact ⟨0, by omega, rfl, by omega, rfl⟩
    case round =>
      obtain ⟨k, hk, rfl, hg, rfl⟩ := hrel
      match k, hk with
      | 0, _ =>
        rw [show ((0 : Nat) : Int) = 0 from rfl, show rawTo v 0 = #[.int .u8 0, .int .u8 0, .int .u8 0, .int .u8 0, .int .u8 0, .int .u8 0, .int .u8 0, .int .u8 0] from rfl]
        go_wp2_with fail
        go_roundg (8 - 1)
        case measure => omega
        case rel => exact ⟨1, by omega, rfl, by omega, rfl⟩
      | 1, _ =>
        rw [show ((1 : Nat) : Int) = 1 from rfl, show rawTo v 1 = #[.int .u8 0, .int .u8 0, .int .u8 0, .int .u8 0, .int .u8 0, .int .u8 0, .int .u8 0, .int .u8 (v % 256)] from rfl]
        go_wp2_with fail
        go_roundg (8 - 2)
        case measure => omega
        case rel => exact ⟨2, by omega, rfl, by omega, rfl⟩
      | 2, _ =>
        rw [show ((2 : Nat) : Int) = 2 from rfl, show rawTo v 2 = #[.int .u8 0, .int .u8 0, .int .u8 0, .int .u8 0, .int .u8 0, .int .u8 0, .int .u8 (v / 256 % 256), .int .u8 (v % 256)] from rfl]
        go_wp2_with fail
        go_roundg (8 - 3)
        case measure => omega
        case rel => exact ⟨3, by omega, rfl, by omega, rfl⟩
      | 3, _ =>
        rw [show ((3 : Nat) : Int) = 3 from rfl, show rawTo v 3 = #[.int .u8 0, .int .u8 0, .int .u8 0, .int .u8 0, .int .u8 0, .int .u8 (v / 65536 % 256), .int .u8 (v / 256 % 256), .int .u8 (v % 256)] from rfl]
        go_wp2_with fail
        go_roundg (8 - 4)
        case measure => omega
        case rel => exact ⟨4, by omega, rfl, by omega, rfl⟩
      | 4, _ =>
        rw [show ((4 : Nat) : Int) = 4 from rfl, show rawTo v 4 = #[.int .u8 0, .int .u8 0, .int .u8 0, .int .u8 0, .int .u8 (v / 16777216 % 256), .int .u8 (v / 65536 % 256), .int .u8 (v / 256 % 256), .int .u8 (v % 256)] from rfl]
        go_wp2_with fail
        go_roundg (8 - 5)
        case measure => omega
        case rel => exact ⟨5, by omega, rfl, by omega, rfl⟩
      | 5, _ =>
        rw [show ((5 : Nat) : Int) = 5 from rfl, show rawTo v 5 = #[.int .u8 0, .int .u8 0, .int .u8 0, .int .u8 (v / 4294967296 % 256), .int .u8 (v / 16777216 % 256), .int .u8 (v / 65536 % 256), .int .u8 (v / 256 % 256), .int .u8 (v % 256)] from rfl]
        go_wp2_with fail
        go_roundg (8 - 6)
        case measure => omega
        case rel => exact ⟨6, by omega, rfl, by omega, rfl⟩
      | 6, _ =>
        rw [show ((6 : Nat) : Int) = 6 from rfl, show rawTo v 6 = #[.int .u8 0, .int .u8 0, .int .u8 (v / 1099511627776 % 256), .int .u8 (v / 4294967296 % 256), .int .u8 (v / 16777216 % 256), .int .u8 (v / 65536 % 256), .int .u8 (v / 256 % 256), .int .u8 (v % 256)] from rfl]
        go_wp2_with fail
        go_roundg (8 - 7)
        case measure => omega
        case rel => exact ⟨7, by omega, rfl, by omega, rfl⟩
      | 7, _ =>
        rw [show ((7 : Nat) : Int) = 7 from rfl, show rawTo v 7 = #[.int .u8 0, .int .u8 (v / 281474976710656 % 256), .int .u8 (v / 1099511627776 % 256), .int .u8 (v / 4294967296 % 256), .int .u8 (v / 16777216 % 256), .int .u8 (v / 65536 % 256), .int .u8 (v / 256 % 256), .int .u8 (v % 256)] from rfl]
        go_wp2_with fail
        go_roundg (8 - 8)
        case measure => omega
        case rel => exact ⟨8, by omega, rfl, by omega, rfl⟩
      | 8, _ =>
        rw [show ((8 : Nat) : Int) = 8 from rfl]
        obtain ⟨wa, hwa⟩ : ∃ x, x = w1.alloc (.cells (rawTo v 8) 197) := ⟨_, rfl⟩
        obtain ⟨D, hD⟩ : ∃ x, x = w1.heap.size := ⟨_, rfl⟩
        have HC : Aside (∀ j, j < 8 → wa.cell? ⟨D, j, none⟩ = some (.int .u8 (rawB v j))) := by
          intro j hj
          rw [hwa, hD, cell_new]
          exact rawTo_get v j hj
        have HNa : Aside (Below w1.heap.size w1 wa) := by rw [hwa]; exact new_alloc _ _
        have hsa : wa.heap.size = D + 1 := by rw [hwa, hD]; simp
        have HDw := aside hD
        rw [← hwa, ← hD]
        have hN8 : N ≤ 8 := by omega
        have hN1 : 1 ≤ N := by omega
        have hhm := raw_hm D N hN8
        obtain ⟨M, hM⟩ : ∃ M, M = 8 - N := ⟨_, rfl⟩
        rw [← hM] at hhm
        clear hwa hD hg
        go_wp2_with fail
        clear hhm
        have HTH0 : Aside (thin v 0 = true) := rfl
        go_loopg [34] M (fun g v34 wr => ∃ j : Nat, j ≤ M ∧ v34 = .int .i64 j ∧ M - j ≤ g ∧ Aside (thin v j = true) ∧ wr = wa)
        case atStart => exact ⟨0, by omega, rfl, by omega, HTH0, rfl⟩
        case round =>
          clear HTH0
          obtain ⟨j, hj, rfl, hg, HTH, rfl⟩ := hrel
          by_cases hlt : j < M
          · have hji : (j : Int) < M := by omega
            have c := HC.out j (by omega)
            obtain ⟨x, hx⟩ : ∃ x, x = rawB v j := ⟨_, rfl⟩
            rw [← hx] at c
            have HX := aside hx
            clear hx
            by_cases hz : x = 0
            · have hz1 : (x != 0) = false := by simpa using hz
              have HZ := aside hz
              clear hz
              go_wp2_with fail
              go_roundg (M - (j + 1))
              case measure => omega
              case rel => exact ⟨j + 1, by omega, rfl, by omega, by rw [Aside, thin, HTH.out, ← HX.out, HZ.out]; rfl, rfl⟩
            · have hz1 : (x != 0) = true := by simpa using hz
              have HZ := aside hz
              clear hz
              go_wp2_with fail
              go_ret2
              have HP : putF t v N = (ByteArray.empty, 3) := by
                have : thin v (8 - N) = false := by
                  rw [← hM]
                  exact thin_no v j M hlt (by rw [← HX.out]; exact HZ.out)
                rw [putF, HW.out, Int.toNat_natCast, this]
                rfl
              exact ⟨by rw [HP]; rfl, HNa.out⟩
          · have hji : ¬ (j : Int) < M := by omega
            have hjM : j = M := by omega
            have HT2 : Aside (thin v M = true) := by rw [← hjM]; exact HTH.out
            clear HTH hjM
            have hsz := HSZ.out
            have hmk := make_bytes wr (t.size + N) (by omega)
            rw [Int.natCast_add] at hmk
            clear hji hj hg
            have hsa2 : wr.heap.size = D + 1 := hsa
            obtain ⟨wm, hwm⟩ : ∃ x, x = wr.alloc (.cells (madeCells #[.int .u8 0] (t.size + N)) 5) := ⟨_, rfl⟩
            have HM1 : Aside (∀ j, j < t.size + N → (wm.cell? ⟨D + 1, j, none⟩).isSome = true ∧ wm.frozen? ⟨D + 1, j, none⟩ = false) := by
              intro j hj
              rw [hwm, ← hsa2, cell_new, frozen_new, Array.getElem?_eq_getElem (by rw [size_madeCells]; exact hj)]
              exact ⟨rfl, rfl⟩
            have HNm : Aside (Below w1.heap.size w1 wm) := by rw [hwm]; exact new_trans HNa.out (new_alloc _ _)
            have HCm : Aside (∀ j, j < 8 → wm.cell? ⟨D, j, none⟩ = some (.int .u8 (rawB v j))) := by
              intro j hj
              rw [hwm]
              exact ((new_alloc wr _).cell (p := ⟨D, j, none⟩) (by rw [hsa2]; exact Nat.lt_succ_self _)).trans (HC.out j hj)
            rw [← hwm, hsa2] at hmk
            clear hwm
            have hz8 : ∀ w, (Go.sizeOf 5).run Tryz.prog w = .ok 1 w := Tryz.sizeOf5
            have hcp := run_copy_string (P := Tryz.prog) wm 22 9 3 5 (D + 1) 0 (t.size + N) (t.size + N) t Tryz.underlying22 hz8 (by omega) (fun j hj => by rw [Nat.zero_add]; exact (HM1.out j (by omega)).1) (fun j hj => by rw [Nat.zero_add]; exact (HM1.out j (by omega)).2)
            rw [numsOf_vals] at hcp
            obtain ⟨w3, hw3⟩ : ∃ x, x = wm.setCells (D + 1) 0 ((numsOf t).map (Value.int .u8)) := ⟨_, rfl⟩
            rw [← hw3] at hcp
            have HW3 := aside hw3
            clear hz8 hw3
            go_wp2_with fail
            clear hcp hmk
            have hll := raw_l D N hN8 hN1
            have hsl := tail_l (D + 1) t.size N hN1
            have e8 : IntKind.i64.wrap (8 - (N : Int)) = 8 - (N : Int) := IntWalk.i64_in _ (by omega)
            have hpl : (putBytes v N).length = N := by rw [putBytes, List.length_map, List.length_range]
            have hcD : ∀ j, j < 8 → w3.drew.cell? ⟨D, j, none⟩ = some (.int .u8 (rawB v j)) := by
              intro j hj
              show w3.cell? _ = _
              rw [HW3.out, World.cell?_setCells_out (D + 1) _ _ _ _ (fun h => by simp only at h; omega)]
              exact HCm.out j hj
            have hcL : ∀ j, j < t.size + N → (w3.drew.cell? ⟨D + 1, j, none⟩).isSome = true ∧ w3.drew.frozen? ⟨D + 1, j, none⟩ = false := by
              intro j hj
              show (w3.cell? _).isSome = true ∧ w3.frozen? _ = false
              rw [HW3.out]
              refine ⟨?_, by rw [World.frozen?_setCells]; exact (HM1.out j hj).2⟩
              by_cases e : j < t.size
              · have := World.cell?_setCells_in (D + 1) ((numsOf t).map (Value.int .u8)) 0 wm (fun k hk => by rw [Nat.zero_add]; rw [List.length_map, numsOf_length] at hk; exact (HM1.out k (by omega)).1) j (by rw [List.length_map, numsOf_length]; exact e)
                rw [Nat.zero_add] at this
                rw [this]
                rfl
              · rw [World.cell?_setCells_out (D + 1) _ _ _ _ (fun _ _ => .inr (by rw [List.length_map, numsOf_length]; simp only; omega))]
                exact (HM1.out j hj).1
            have hcp2 := run_copy_cells (P := Tryz.prog) w3.drew 22 22 3 5 (D + 1) t.size N N ⟨D, 8 - N, none⟩ N N ((putBytes v N).map (Value.int .u8)) Tryz.underlying22 (by kernel_rfl) (by rw [List.length_map, hpl]; exact (Nat.min_self N).symm)
              (fun j x hj => by
                have hjN : j < N := by
                  have := (List.getElem?_eq_some_iff.1 hj).1
                  rw [List.length_map, hpl] at this
                  exact this
                have hx : x = .int .u8 (rawB v (8 - N + j)) := by
                  rw [putBytes, List.map_map, List.getElem?_map, List.getElem?_range hjN] at hj
                  exact (Option.some.inj hj).symm
                rw [hx]
                rw [show (⟨D, 8 - N, none⟩ : Addr).add j = ⟨D, 8 - N + j, none⟩ by simp [Addr.add]]
                exact hcD (8 - N + j) (by omega))
              (fun j hj => (hcL (t.size + j) (by rw [List.length_map, hpl] at hj; omega)).1) (fun j hj => (hcL (t.size + j) (by rw [List.length_map, hpl] at hj; omega)).2)
              (fun x hx => by
                obtain ⟨y, _, rfl⟩ := List.mem_map.1 hx
                rfl)
            obtain ⟨w4, hw4⟩ : ∃ x, x = w3.drew.setCells (D + 1) t.size ((putBytes v N).map (Value.int .u8)) := ⟨_, rfl⟩
            rw [← hw4] at hcp2
            have kc := run_convert_bytes_arg (P := Tryz.prog) (w := w4) 22 5 Tryz.underlying22 Tryz.underlying5 (D + 1) 0 (t.size + N) (t.size + N) (numsOf t ++ putBytes v N) (by rw [List.length_append, numsOf_length, hpl])
              (by
                intro i hi
                rw [hw4, HW3.out, ← cells_drew]
                exact two_cells wm.drew (D + 1) (numsOf t) (putBytes v N) t.size (numsOf_length t).symm (fun j hj => by rw [numsOf_length, hpl] at hj; exact (HM1.out j hj).1) i (by rw [numsOf_length, hpl]; exact hi)) 9 Tryz.underlying9
            rw [str_two] at kc
            have HW4 := aside hw4
            clear hcD hcL hw4
            go_still_tail 7, (by kernel_rfl)
            go_wp2_with fail
            have HP : putF t v N = (t ++ strOfNums (putBytes v N), 0) := by
              have hth : thin v (8 - N) = true := by rw [← hM]; exact HT2.out
              rw [putF, HW.out, Int.toNat_natCast, hth]
              rfl
            go_ret2
            refine ⟨by rw [HP]; rfl, ?_⟩
            rw [HW4.out, HW3.out]
            exact below_cells (by have := HDw.out; omega) _ _ _ (Below.drew (below_cells (by have := HDw.out; omega) _ _ _ HNm.out))
  · have h1' : wideB n = false := by simpa using h1
    have HP : Aside (putF t v n = (ByteArray.empty, 2)) := by rw [Aside, putF, h1']; rfl
    go_wp2
    go_ret2
    exact ⟨by rw [HP.out]; rfl, Below.refl _ _⟩
end Go.Proofs.YtfnekbfcndkjeaaGreatDoor
namespace Go.Proofs.YtfnekbfcndkjeaaGreatDoor
open Go.RowKit
theorem putF_size (t : ByteArray) (v n : Int) : (putF t v n).1.size ≤ t.size + 8 := by
  unfold putF
  by_cases h1 : wideB n = true
  · obtain ⟨hn1, hn8⟩ : 1 ≤ n ∧ n ≤ 8 := by simpa [wideB] using h1
    rw [if_pos h1]
    by_cases h2 : thin v (8 - n.toNat) = true
    · rw [if_pos h2]
      simp only
      rw [ByteArray.size_append, strOfNums_size, putBytes, List.length_map, List.length_range]
      omega
    · rw [if_neg h2]
      exact Nat.zero_le _
  · rw [if_neg h1]
    exact Nat.zero_le _
end Go.Proofs.YtfnekbfcndkjeaaGreatDoor
namespace Go.Proofs.YtfnekbfcndkjeaaGreatDoor
open Go.RowKit
structure WAt (b : Nat) (t : ByteArray) (w : World) : Prop where
  cell : w.cell? ⟨b, 0, none⟩ = some (.string t)
  free : w.frozen? ⟨b, 0, none⟩ = false
def WPost (b : Nat) (t : ByteArray) (w : World) (e : Ending) (w' : World) : Prop := e = .returned (.tuple #[]) ∧ Keeps (· ≠ b) w w' ∧ WAt b t w'
set_option maxHeartbeats 2000000 in
theorem num_any (b : Nat) (t : ByteArray) (ht : t.size ≤ 1099511627776) (v n : Int) (hv : 0 ≤ v ∧ v ≤ 18446744073709551615) (w : World) (h : WAt b t w) :
    Calls Tryz.prog 68 #[.pointer (some ⟨b, 0, none⟩), .int .u64 v, .int .i64 n] w (WPost b (putF t v n).1 w) := by
  have c0 := h.cell
  have H := aside h
  have hbl : b < w.heap.size := cell_lt h.cell
  clear h
  go_enter Tryz.func68, Tryz.ntmps68
  go_wp2_with fail
  refine (put_any t ht v n hv w).mono ?_
  rintro e w1 ⟨rfl, hb⟩
  obtain ⟨x, hx⟩ : ∃ x, x = (putF t v n).1 := ⟨_, rfl⟩
  obtain ⟨y, hy⟩ : ∃ y, y = (putF t v n).2 := ⟨_, rfl⟩
  rw [← hx, ← hy]
  have HXX := aside hx
  clear hx hy
  have c1 : w1.cell? ⟨b, 0, none⟩ = some (.string t) := (hb.cell (p := ⟨b, 0, none⟩) hbl).trans H.out.cell
  have f1 : w1.frozen? ⟨b, 0, none⟩ = false := (hb.frozen (p := ⟨b, 0, none⟩) hbl).trans H.out.free
  clear c0
  go_wp2_with fail
  go_end0
  rw [← HXX.out]
  exact ⟨rfl, Keeps.setCell (keeps_of_new hb _) (p := ⟨b, 0, none⟩) (.inr (fun h => h rfl)) _, World.cell?_setCell_same _ _ _ c1, by rw [World.frozen?_setCell]; exact f1⟩
def smallF (t : ByteArray) (xs : List Int) : ByteArray := xs.foldl (fun t x => (putF t (x % 18446744073709551616) 1).1) t
theorem smallF_size (xs : List Int) : ∀ t : ByteArray, (smallF t xs).size ≤ t.size + 8 * xs.length := by
  induction xs with
  | nil => intro t; exact Nat.le_refl _
  | cons x xs ih =>
    intro t
    have h1 := ih (putF t (x % 18446744073709551616) 1).1
    have h2 := putF_size t (x % 18446744073709551616) 1
    rw [List.length_cons]
    show (smallF (putF t (x % 18446744073709551616) 1).1 xs).size ≤ _
    omega
theorem smallF_take (t : ByteArray) (xs : List Int) (k : Nat) (hk : k < xs.length) : smallF t (xs.take (k + 1)) = (putF (smallF t (xs.take k)) (xs.getD k 0 % 18446744073709551616) 1).1 := by
  rw [List.take_succ_eq_append_getElem hk, smallF, List.foldl_append, List.getD_eq_getElem?_getD, List.getElem?_eq_getElem hk]
  rfl
set_option maxHeartbeats 2000000 in
theorem small_any (b : Nat) (t : ByteArray) (xs : List Int) (ht : t.size + 8 * xs.length ≤ 1099511627776) (a : Option Addr) (cap : Nat) (w : World) (h : WAt b t w)
    (hx : 0 < xs.length → ∃ lb lo, a = some ⟨lb, lo, none⟩ ∧ lb ≠ b ∧ ∀ j, j < xs.length → w.cell? ⟨lb, lo + j, none⟩ = some (.int .i64 (xs.getD j 0))) :
    Calls Tryz.prog 65 #[.pointer (some ⟨b, 0, none⟩), .slice a xs.length cap] w (WPost b (smallF t xs) w) := by
  obtain ⟨n, hn⟩ : ∃ n, n = xs.length := ⟨_, rfl⟩
  have HN := aside hn
  rw [← hn] at hx ht ⊢
  have H : Aside (WAt b (smallF t (xs.take 0)) w) := h
  have HX := aside hx
  have HK : Aside (Keeps (· ≠ b) w w) := Keeps.refl _ w
  clear h hx hn
  go_enter Tryz.func65, Tryz.ntmps65
  go_wp2_with fail
  go_loopg [8] n (fun g v8 wr => ∃ k : Nat, k ≤ n ∧ v8 = .int .i64 k ∧ n - k ≤ g ∧ Aside (WAt b (smallF t (xs.take k)) wr) ∧ Aside (Keeps (· ≠ b) w wr))
  case atStart => exact ⟨0, by omega, rfl, by omega, H, HK⟩
  case round =>
    clear H HK
    obtain ⟨k, hk, rfl, hg, H, HK⟩ := hrel
    by_cases hlt : k < n
    · have hki : (k : Int) < n := by omega
      obtain ⟨lb, lo, rfl, hlb, hc⟩ := HX.out (by omega)
      have c : wr.cell? ⟨lb, lo + k, none⟩ = some (.int .i64 (xs.getD k 0)) := by
        have c0 := hc k hlt
        exact (World.cell?_of_block (w := w) (a := ⟨lb, lo + k, none⟩) (HK.out.block lb (cell_lt c0) hlb)).trans c0
      obtain ⟨x, hxx⟩ : ∃ x, x = xs.getD k 0 := ⟨_, rfl⟩
      rw [← hxx] at c
      have HXX := aside hxx
      have hw : IntKind.u64.wrap x = x % 18446744073709551616 := IntKind.wrap_u64 x
      clear hxx hc
      go_wp2_with fail
      have hsz : (smallF t (xs.take k)).size ≤ 1099511627776 := by
        have h1 := smallF_size (xs.take k) t
        rw [List.length_take] at h1
        omega
      refine (num_any b (smallF t (xs.take k)) hsz (x % 18446744073709551616) 1 (by omega) wr H.out).mono ?_
      rintro e w2 ⟨rfl, hk2, hw2⟩
      have H2 : Aside (WAt b (smallF t (xs.take (k + 1))) w2) := by
        rw [smallF_take t xs k (by rw [← HN.out]; exact hlt), ← HXX.out]
        exact hw2
      have HK2 : Aside (Keeps (· ≠ b) w w2) := HK.out.trans hk2
      clear hk2 hw2 c hsz
      go_wp2_with fail
      go_roundg (n - (k + 1))
      case measure => omega
      case rel => exact ⟨k + 1, by omega, rfl, by omega, H2, HK2⟩
    · have hki : ¬ (k : Int) < n := by omega
      have hkn : k = n := by omega
      have H2 : Aside (WAt b (smallF t xs) wr) := by
        have := H.out
        rw [hkn, HN.out, List.take_length] at this
        exact this
      clear hkn H
      go_wp2_with fail
      go_end0
      exact ⟨rfl, HK.out, H2.out⟩
end Go.Proofs.YtfnekbfcndkjeaaGreatDoor
namespace Go.Proofs.YtfnekbfcndkjeaaGreatDoor
open Go.RowKit
theorem WAt.on {b : Nat} {t : ByteArray} {w w' : World} (h : WAt b t w) (hb : Below w.heap.size w w') : WAt b t w' :=
  ⟨(hb.cell (p := ⟨b, 0, none⟩) (cell_lt h.cell)).trans h.cell, (hb.frozen (p := ⟨b, 0, none⟩) (cell_lt h.cell)).trans h.free⟩
theorem small_new (b : Nat) (t : ByteArray) (x : Int) (ht : t.size + 8 ≤ 1099511627776) (w : World) (h : WAt b t w) (ty : TypeId) :
    Calls Tryz.prog 65 #[.pointer (some ⟨b, 0, none⟩), .slice (some ⟨w.heap.size, 0, none⟩) 1 1] (w.alloc (.cells #[.int .i64 x] ty)) (WPost b (smallF t [x]) w) := by
  refine (small_any b t [x] (by simpa using ht) (some ⟨w.heap.size, 0, none⟩) 1 _ (h.on (new_alloc _ _)) (fun _ => ⟨_, _, rfl, Nat.ne_of_gt (cell_lt h.cell), fun j hj => ?_⟩)).mono ?_
  · have h0 : j = 0 := by simpa using hj
    subst h0
    rw [Nat.zero_add, cell_new]
    rfl
  · rintro e w1 ⟨rfl, hk, hw⟩
    exact ⟨rfl, (keeps_of_new (new_alloc _ _) _).trans hk, hw⟩
set_option maxHeartbeats 2000000 in
theorem bytes2_any (g b : Nat) (t : ByteArray) (ht : t.size + 8 ≤ 1099511627776) (x : Int) (w : World) (hg : w.cell? ⟨g, 0, none⟩ = some (.pointer (some ⟨b, 0, none⟩))) (h : WAt b t w) :
    Calls Tryz.prog 70 #[.int .i64 x, .pointer (some ⟨g, 0, none⟩)] w (WPost b (smallF t [x]) w) := by
  have H := aside h
  have hbl : b < w.heap.size := cell_lt h.cell
  clear h
  go_enter Tryz.func70, Tryz.ntmps70
  go_wp2_with fail
  refine (small_new b t x ht w H.out _).mono ?_
  rintro e w1 ⟨rfl, hk, hw⟩
  clear hg
  go_wp2_with fail
  go_end0
  exact ⟨rfl, hk, hw⟩
set_option maxHeartbeats 2000000 in
theorem bytes3_any (g b : Nat) (t : ByteArray) (ht : t.size + 8 ≤ 1099511627776) (x : Int) (w : World) (hg : w.cell? ⟨g, 0, none⟩ = some (.pointer (some ⟨b, 0, none⟩))) (h : WAt b t w) :
    Calls Tryz.prog 71 #[.int .i64 x, .pointer (some ⟨g, 0, none⟩)] w (WPost b (smallF t [x]) w) := by
  have H := aside h
  have hbl : b < w.heap.size := cell_lt h.cell
  clear h
  go_enter Tryz.func71, Tryz.ntmps71
  go_wp2_with fail
  refine (small_new b t x ht w H.out _).mono ?_
  rintro e w1 ⟨rfl, hk, hw⟩
  clear hg
  go_wp2_with fail
  go_end0
  exact ⟨rfl, hk, hw⟩
end Go.Proofs.YtfnekbfcndkjeaaGreatDoor
namespace Go.Proofs.YtfnekbfcndkjeaaGreatDoor
open Go.RowKit
def rowI (t : ByteArray) (n : Nat) (xs : List Int) : ByteArray := xs.foldl (fun t x => smallF t [x]) (smallF t [(n : Int)])
theorem smallF_one_size (t : ByteArray) (x : Int) : (smallF t [x]).size ≤ t.size + 8 := smallF_size [x] t
theorem fold_one_size (xs : List Int) : ∀ t : ByteArray, (xs.foldl (fun t x => smallF t [x]) t).size ≤ t.size + 8 * xs.length := by
  induction xs with
  | nil => intro t; exact Nat.le_refl _
  | cons x xs ih =>
    intro t
    have h1 := ih (smallF t [x])
    have h2 := smallF_one_size t x
    rw [List.length_cons, List.foldl_cons]
    omega
theorem rowI_size (t : ByteArray) (n : Nat) (xs : List Int) : (rowI t n xs).size ≤ t.size + 8 + 8 * xs.length := by
  have h1 := fold_one_size xs (smallF t [(n : Int)])
  have h2 := smallF_one_size t (n : Int)
  unfold rowI
  omega
theorem rowI_take (t : ByteArray) (n : Nat) (xs : List Int) (k : Nat) (hk : k < xs.length) : rowI t n (xs.take (k + 1)) = smallF (rowI t n (xs.take k)) [xs.getD k 0] := by
  rw [List.take_succ_eq_append_getElem hk, rowI, List.foldl_append, List.getD_eq_getElem?_getD, List.getElem?_eq_getElem hk]
  rfl
set_option maxHeartbeats 2000000 in
set_option maxRecDepth 100000 in
theorem rowI2_any (b g : Nat) (hgb : g ≠ b) (t : ByteArray) (xs : List Int) (ht : t.size + 16 + 8 * xs.length ≤ 1099511627776) (a : Option Addr) (cap : Nat) (w : World) (h : WAt b t w)
    (hg : w.cell? ⟨g, 0, none⟩ = some (.pointer (some ⟨b, 0, none⟩)))
    (hx : 0 < xs.length → ∃ lb lo, a = some ⟨lb, lo, none⟩ ∧ lb ≠ b ∧ ∀ j, j < xs.length → w.cell? ⟨lb, lo + j, none⟩ = some (.int .i64 (xs.getD j 0))) :
    Calls Tryz.prog 69 #[.pointer (some ⟨b, 0, none⟩), .slice a xs.length cap, .func (.func 70) #[] #[.pointer (some ⟨g, 0, none⟩)]] w (WPost b (rowI t xs.length xs) w) := by
  obtain ⟨n, hn⟩ : ∃ n, n = xs.length := ⟨_, rfl⟩
  have HN := aside hn
  rw [← hn] at hx ht ⊢
  have H := aside h
  have HX := aside hx
  have HG := aside hg
  clear h hx hn hg
  go_enter Tryz.func69, Tryz.ntmps69
  go_wp2_with fail
  refine (small_new b t (n : Int) (by omega) w H.out _).mono ?_
  rintro e w1 ⟨rfl, hk1, hw1⟩
  have H1 : Aside (WAt b (rowI t n (xs.take 0)) w1) := hw1
  have HK1 := aside hk1
  clear hk1 hw1
  go_wp2_with fail
  go_loopg [15] n (fun gk v15 wr => ∃ k : Nat, k ≤ n ∧ v15 = .int .i64 k ∧ n - k ≤ gk ∧ Aside (WAt b (rowI t n (xs.take k)) wr) ∧ Aside (Keeps (· ≠ b) w wr))
  case atStart => exact ⟨0, by omega, rfl, by omega, H1, HK1⟩
  case round =>
    clear H1 HK1
    obtain ⟨k, hk, rfl, hgk, H1, HK⟩ := hrel
    by_cases hlt : k < n
    · have hki : (k : Int) < n := by omega
      obtain ⟨lb, lo, rfl, hlb, hc⟩ := HX.out (by omega)
      have c : wr.cell? ⟨lb, lo + k, none⟩ = some (.int .i64 (xs.getD k 0)) := by
        have c0 := hc k hlt
        exact (World.cell?_of_block (w := w) (a := ⟨lb, lo + k, none⟩) (HK.out.block lb (cell_lt c0) hlb)).trans c0
      have cg : wr.cell? ⟨g, 0, none⟩ = some (.pointer (some ⟨b, 0, none⟩)) := (World.cell?_of_block (w := w) (a := ⟨g, 0, none⟩) (HK.out.block g (cell_lt HG.out) hgb)).trans HG.out
      have CG := aside cg
      obtain ⟨x, hxx⟩ : ∃ x, x = xs.getD k 0 := ⟨_, rfl⟩
      rw [← hxx] at c
      have HXX := aside hxx
      clear hxx hc cg
      go_wp2_with fail
      have hsz : (rowI t n (xs.take k)).size + 8 ≤ 1099511627776 := by
        have h1 := rowI_size t n (xs.take k)
        rw [List.length_take] at h1
        omega
      refine (bytes2_any g b (rowI t n (xs.take k)) hsz x wr CG.out H1.out).mono ?_
      rintro e w2 ⟨rfl, hk2, hw2⟩
      have H2 : Aside (WAt b (rowI t n (xs.take (k + 1))) w2) := by
        rw [rowI_take t n xs k (by rw [← HN.out]; exact hlt), ← HXX.out]
        exact hw2
      have HK2 : Aside (Keeps (· ≠ b) w w2) := HK.out.trans hk2
      clear hk2 hw2 c hsz
      go_wp2_with fail
      go_roundg (n - (k + 1))
      case measure => omega
      case rel => exact ⟨k + 1, by omega, rfl, by omega, H2, HK2⟩
    · have hki : ¬ (k : Int) < n := by omega
      have hkn : k = n := by omega
      have H2 : Aside (WAt b (rowI t n xs) wr) := by
        have := H1.out
        rw [hkn, HN.out, List.take_length] at this
        rw [HN.out]
        exact this
      clear hkn H1
      go_wp2_with fail
      go_end0
      exact ⟨rfl, HK.out, H2.out⟩
set_option maxHeartbeats 2000000 in
set_option maxRecDepth 100000 in
theorem rowI3_any (b g : Nat) (hgb : g ≠ b) (t : ByteArray) (xs : List Int) (ht : t.size + 16 + 8 * xs.length ≤ 1099511627776) (a : Option Addr) (cap : Nat) (w : World) (h : WAt b t w)
    (hg : w.cell? ⟨g, 0, none⟩ = some (.pointer (some ⟨b, 0, none⟩)))
    (hx : 0 < xs.length → ∃ lb lo, a = some ⟨lb, lo, none⟩ ∧ lb ≠ b ∧ ∀ j, j < xs.length → w.cell? ⟨lb, lo + j, none⟩ = some (.int .i64 (xs.getD j 0))) :
    Calls Tryz.prog 69 #[.pointer (some ⟨b, 0, none⟩), .slice a xs.length cap, .func (.func 71) #[] #[.pointer (some ⟨g, 0, none⟩)]] w (WPost b (rowI t xs.length xs) w) := by
  obtain ⟨n, hn⟩ : ∃ n, n = xs.length := ⟨_, rfl⟩
  have HN := aside hn
  rw [← hn] at hx ht ⊢
  have H := aside h
  have HX := aside hx
  have HG := aside hg
  clear h hx hn hg
  go_enter Tryz.func69, Tryz.ntmps69
  go_wp2_with fail
  refine (small_new b t (n : Int) (by omega) w H.out _).mono ?_
  rintro e w1 ⟨rfl, hk1, hw1⟩
  have H1 : Aside (WAt b (rowI t n (xs.take 0)) w1) := hw1
  have HK1 := aside hk1
  clear hk1 hw1
  go_wp2_with fail
  go_loopg [15] n (fun gk v15 wr => ∃ k : Nat, k ≤ n ∧ v15 = .int .i64 k ∧ n - k ≤ gk ∧ Aside (WAt b (rowI t n (xs.take k)) wr) ∧ Aside (Keeps (· ≠ b) w wr))
  case atStart => exact ⟨0, by omega, rfl, by omega, H1, HK1⟩
  case round =>
    clear H1 HK1
    obtain ⟨k, hk, rfl, hgk, H1, HK⟩ := hrel
    by_cases hlt : k < n
    · have hki : (k : Int) < n := by omega
      obtain ⟨lb, lo, rfl, hlb, hc⟩ := HX.out (by omega)
      have c : wr.cell? ⟨lb, lo + k, none⟩ = some (.int .i64 (xs.getD k 0)) := by
        have c0 := hc k hlt
        exact (World.cell?_of_block (w := w) (a := ⟨lb, lo + k, none⟩) (HK.out.block lb (cell_lt c0) hlb)).trans c0
      have cg : wr.cell? ⟨g, 0, none⟩ = some (.pointer (some ⟨b, 0, none⟩)) := (World.cell?_of_block (w := w) (a := ⟨g, 0, none⟩) (HK.out.block g (cell_lt HG.out) hgb)).trans HG.out
      have CG := aside cg
      obtain ⟨x, hxx⟩ : ∃ x, x = xs.getD k 0 := ⟨_, rfl⟩
      rw [← hxx] at c
      have HXX := aside hxx
      clear hxx hc cg
      go_wp2_with fail
      have hsz : (rowI t n (xs.take k)).size + 8 ≤ 1099511627776 := by
        have h1 := rowI_size t n (xs.take k)
        rw [List.length_take] at h1
        omega
      refine (bytes3_any g b (rowI t n (xs.take k)) hsz x wr CG.out H1.out).mono ?_
      rintro e w2 ⟨rfl, hk2, hw2⟩
      have H2 : Aside (WAt b (rowI t n (xs.take (k + 1))) w2) := by
        rw [rowI_take t n xs k (by rw [← HN.out]; exact hlt), ← HXX.out]
        exact hw2
      have HK2 : Aside (Keeps (· ≠ b) w w2) := HK.out.trans hk2
      clear hk2 hw2 c hsz
      go_wp2_with fail
      go_roundg (n - (k + 1))
      case measure => omega
      case rel => exact ⟨k + 1, by omega, rfl, by omega, H2, HK2⟩
    · have hki : ¬ (k : Int) < n := by omega
      have hkn : k = n := by omega
      have H2 : Aside (WAt b (rowI t n xs) wr) := by
        have := H1.out
        rw [hkn, HN.out, List.take_length] at this
        rw [HN.out]
        exact this
      clear hkn H1
      go_wp2_with fail
      go_end0
      exact ⟨rfl, HK.out, H2.out⟩
end Go.Proofs.YtfnekbfcndkjeaaGreatDoor
namespace Go.Proofs.YtfnekbfcndkjeaaGreatDoor
open Go.RowKit
def lotF (t : ByteArray) (x y : Int) : ByteArray := (putF (smallF t [x]) (y % 18446744073709551616) 4).1
set_option maxHeartbeats 2000000 in
theorem bytes1_any (g b : Nat) (t : ByteArray) (ht : t.size + 24 ≤ 1099511627776) (x y : Int) (w : World) (hgb : g ≠ b) (hg : w.cell? ⟨g, 0, none⟩ = some (.pointer (some ⟨b, 0, none⟩))) (h : WAt b t w) :
    Calls Tryz.prog 67 #[.agg #[.int .i64 x, .int .i64 y], .pointer (some ⟨g, 0, none⟩)] w (WPost b (lotF t x y) w) := by
  have H := aside h
  have HG := aside hg
  have hbl : b < w.heap.size := cell_lt h.cell
  have hgl : g < w.heap.size := cell_lt hg
  have hw : IntKind.u64.wrap y = y % 18446744073709551616 := IntKind.wrap_u64 y
  clear h hg
  go_enter Tryz.func67, Tryz.ntmps67
  have cg := HG.out
  go_wp2_with fail
  obtain ⟨L, hL⟩ : ∃ x, x = w.heap.size := ⟨_, rfl⟩
  obtain ⟨wa, hwa⟩ : ∃ z, z = w.alloc (.cells #[.int .i64 x, .int .i64 y] 63) := ⟨_, rfl⟩
  have hsa : wa.heap.size = L + 1 := by rw [hwa, hL]; simp
  have HNa : Aside (Below w.heap.size w wa) := by rw [hwa]; exact new_alloc _ _
  have HY : Aside (wa.cell? ⟨L, 1, none⟩ = some (.int .i64 y)) := by rw [hwa, hL]; exact cell_new _ _ _ 1
  have HLw := aside hL
  rw [← hwa, ← hL, ← hsa]
  clear hwa hL cg
  refine (small_new b t x (by omega) wa (H.out.on HNa.out) _).mono ?_
  rintro e w1 ⟨rfl, hk1, hw1⟩
  have hLb : L ≠ b := by have := HLw.out; omega
  have hga : wa.cell? ⟨g, 0, none⟩ = some (.pointer (some ⟨b, 0, none⟩)) := (HNa.out.cell (p := ⟨g, 0, none⟩) hgl).trans HG.out
  have cg : w1.cell? ⟨g, 0, none⟩ = some (.pointer (some ⟨b, 0, none⟩)) := (World.cell?_of_block (w := wa) (a := ⟨g, 0, none⟩) (hk1.block g (cell_lt hga) hgb)).trans hga
  have cy : w1.cell? ⟨L, 1, none⟩ = some (.int .i64 y) := (World.cell?_of_block (w := wa) (a := ⟨L, 1, none⟩) (hk1.block L (cell_lt HY.out) hLb)).trans HY.out
  have HK1 := aside hk1
  have HW1 := aside hw1
  clear hk1 hw1 hga
  go_wp2_with fail
  have hsz : (smallF t [x]).size ≤ 1099511627776 := by
    have := smallF_one_size t x
    omega
  refine (num_any b (smallF t [x]) hsz (y % 18446744073709551616) 4 (by omega) w1 HW1.out).mono ?_
  rintro e w2 ⟨rfl, hk2, hw2⟩
  clear cg cy
  go_wp2_with fail
  go_end0
  exact ⟨rfl, (keeps_of_new HNa.out _).trans (HK1.out.trans hk2), hw2⟩
end Go.Proofs.YtfnekbfcndkjeaaGreatDoor
namespace Go.Proofs.YtfnekbfcndkjeaaGreatDoor
open Go.RowKit
def rowL (t : ByteArray) (n : Nat) (xs : List (Int × Int)) : ByteArray := xs.foldl (fun t x => lotF t x.1 x.2) (smallF t [(n : Int)])
theorem lotF_size (t : ByteArray) (x y : Int) : (lotF t x y).size ≤ t.size + 16 := by
  have h1 := putF_size (smallF t [x]) (y % 18446744073709551616) 4
  have h2 := smallF_one_size t x
  unfold lotF
  omega
theorem fold_lot_size (xs : List (Int × Int)) : ∀ t : ByteArray, (xs.foldl (fun t x => lotF t x.1 x.2) t).size ≤ t.size + 16 * xs.length := by
  induction xs with
  | nil => intro t; exact Nat.le_refl _
  | cons x xs ih =>
    intro t
    have h1 := ih (lotF t x.1 x.2)
    have h2 := lotF_size t x.1 x.2
    rw [List.length_cons, List.foldl_cons]
    omega
theorem rowL_size (t : ByteArray) (n : Nat) (xs : List (Int × Int)) : (rowL t n xs).size ≤ t.size + 8 + 16 * xs.length := by
  have h1 := fold_lot_size xs (smallF t [(n : Int)])
  have h2 := smallF_one_size t (n : Int)
  unfold rowL
  omega
theorem rowL_take (t : ByteArray) (n : Nat) (xs : List (Int × Int)) (k : Nat) (hk : k < xs.length) : rowL t n (xs.take (k + 1)) = lotF (rowL t n (xs.take k)) (xs.getD k (0, 0)).1 (xs.getD k (0, 0)).2 := by
  rw [List.take_succ_eq_append_getElem hk, rowL, List.foldl_append, List.getD_eq_getElem?_getD, List.getElem?_eq_getElem hk]
  rfl
set_option maxHeartbeats 2000000 in
set_option maxRecDepth 100000 in
theorem rowL_any (b g : Nat) (hgb : g ≠ b) (t : ByteArray) (xs : List (Int × Int)) (ht : t.size + 40 + 24 * xs.length ≤ 1099511627776) (a : Option Addr) (cap : Nat) (w : World) (h : WAt b t w)
    (hg : w.cell? ⟨g, 0, none⟩ = some (.pointer (some ⟨b, 0, none⟩)))
    (hx : 0 < xs.length → ∃ lb lo, a = some ⟨lb, lo, none⟩ ∧ lb ≠ b ∧ ∀ j, j < xs.length → w.cell? ⟨lb, lo + j * 2, none⟩ = some (.int .i64 (xs.getD j (0, 0)).1) ∧ w.cell? ⟨lb, lo + j * 2 + 1, none⟩ = some (.int .i64 (xs.getD j (0, 0)).2)) :
    Calls Tryz.prog 66 #[.pointer (some ⟨b, 0, none⟩), .slice a xs.length cap, .func (.func 67) #[] #[.pointer (some ⟨g, 0, none⟩)]] w (WPost b (rowL t xs.length xs) w) := by
  obtain ⟨n, hn⟩ : ∃ n, n = xs.length := ⟨_, rfl⟩
  have HN := aside hn
  rw [← hn] at hx ht ⊢
  have H := aside h
  have HX := aside hx
  have HG := aside hg
  clear h hx hn hg
  go_enter Tryz.func66, Tryz.ntmps66
  go_wp2_with fail
  refine (small_new b t (n : Int) (by omega) w H.out _).mono ?_
  rintro e w1 ⟨rfl, hk1, hw1⟩
  have H1 : Aside (WAt b (rowL t n (xs.take 0)) w1) := hw1
  have HK1 := aside hk1
  clear hk1 hw1
  go_wp2_with fail
  go_loopg [15] n (fun gk v15 wr => ∃ k : Nat, k ≤ n ∧ v15 = .int .i64 k ∧ n - k ≤ gk ∧ Aside (WAt b (rowL t n (xs.take k)) wr) ∧ Aside (Keeps (· ≠ b) w wr))
  case atStart => exact ⟨0, by omega, rfl, by omega, H1, HK1⟩
  case round =>
    clear H1 HK1
    obtain ⟨k, hk, rfl, hgk, H1, HK⟩ := hrel
    by_cases hlt : k < n
    · have hki : (k : Int) < n := by omega
      obtain ⟨lb, lo, rfl, hlb, hc⟩ := HX.out (by omega)
      have c : wr.cell? ⟨lb, lo + k * 2, none⟩ = some (.int .i64 (xs.getD k (0, 0)).1) := by
        have c0 := (hc k hlt).1
        exact (World.cell?_of_block (w := w) (a := ⟨lb, lo + k * 2, none⟩) (HK.out.block lb (cell_lt c0) hlb)).trans c0
      have d : wr.cell? ⟨lb, lo + k * 2 + 1, none⟩ = some (.int .i64 (xs.getD k (0, 0)).2) := by
        have c0 := (hc k hlt).2
        exact (World.cell?_of_block (w := w) (a := ⟨lb, lo + k * 2 + 1, none⟩) (HK.out.block lb (cell_lt c0) hlb)).trans c0
      have cg : wr.cell? ⟨g, 0, none⟩ = some (.pointer (some ⟨b, 0, none⟩)) := (World.cell?_of_block (w := w) (a := ⟨g, 0, none⟩) (HK.out.block g (cell_lt HG.out) hgb)).trans HG.out
      have CG := aside cg
      obtain ⟨x, hxx⟩ : ∃ x, x = xs.getD k (0, 0) := ⟨_, rfl⟩
      rw [← hxx] at c d
      obtain ⟨x, y⟩ := x
      have HXX := aside hxx
      clear hxx hc cg
      go_wp2_with fail
      have hsz : (rowL t n (xs.take k)).size + 24 ≤ 1099511627776 := by
        have h1 := rowL_size t n (xs.take k)
        rw [List.length_take] at h1
        omega
      have hN1 := new_alloc wr (.cells #[.int .i64 x, .int .i64 y] 63)
      refine (bytes1_any g b (rowL t n (xs.take k)) hsz x y _ hgb ((hN1.cell (p := ⟨g, 0, none⟩) (cell_lt CG.out)).trans CG.out) (H1.out.on hN1)).mono ?_
      rintro e w2 ⟨rfl, hk2, hw2⟩
      have H2 : Aside (WAt b (rowL t n (xs.take (k + 1))) w2) := by
        rw [rowL_take t n xs k (by rw [← HN.out]; exact hlt), ← HXX.out]
        exact hw2
      have HK2 : Aside (Keeps (· ≠ b) w w2) := HK.out.trans ((keeps_of_new hN1 _).trans hk2)
      clear hk2 hw2 c d hsz hN1
      go_wp2_with fail
      go_roundg (n - (k + 1))
      case measure => omega
      case rel => exact ⟨k + 1, by omega, rfl, by omega, H2, HK2⟩
    · have hki : ¬ (k : Int) < n := by omega
      have hkn : k = n := by omega
      have H2 : Aside (WAt b (rowL t n xs) wr) := by
        have := H1.out
        rw [hkn, HN.out, List.take_length] at this
        rw [HN.out]
        exact this
      clear hkn H1
      go_wp2_with fail
      go_end0
      exact ⟨rfl, HK.out, H2.out⟩
end Go.Proofs.YtfnekbfcndkjeaaGreatDoor
namespace Go.Proofs.YtfnekbfcndkjeaaGreatDoor
open Go.RowKit
def withinB (x lo hi : Int) : Bool := decide (lo ≤ x) && decide (x ≤ hi)
set_option maxHeartbeats 1000000 in
theorem within_any (x lo hi : Int) (w : World) : Calls Tryz.prog 100 #[.int .i64 x, .int .i64 lo, .int .i64 hi] w fun e w' => e = .returned (.bool (withinB x lo hi)) ∧ w' = w := by
  go_enter Tryz.func100, Tryz.ntmps100
  unfold withinB
  by_cases h1 : lo ≤ x
  · by_cases h2 : x ≤ hi
    · have e1 : decide (lo ≤ x) = true := by simpa using h1
      have e2 : decide (x ≤ hi) = true := by simpa using h2
      go_wp2
      go_ret
      exact ⟨by simp [e1, e2], rfl⟩
    · have e1 : decide (lo ≤ x) = true := by simpa using h1
      have e2 : decide (x ≤ hi) = false := by simpa using h2
      go_wp2
      go_ret
      exact ⟨rfl, rfl⟩
  · have e1 : decide (lo ≤ x) = false := by simpa using h1
    go_wp2
    go_ret
    exact ⟨rfl, rfl⟩
end Go.Proofs.YtfnekbfcndkjeaaGreatDoor
namespace Go.Proofs.YtfnekbfcndkjeaaGreatDoor
open Go.RowKit
end Go.Proofs.YtfnekbfcndkjeaaGreatDoor
namespace Go.Proofs.YtfnekbfcndkjeaaGreatDoor
open Go.RowKit
def Bs (l : List Int) : Prop := ∀ x ∈ l, 0 ≤ x ∧ x ≤ 255
theorem Bs.nil : Bs [] := fun x h => by simp at h
theorem Bs.cons {x : Int} {l : List Int} (h : 0 ≤ x ∧ x ≤ 255) (hl : Bs l) : Bs (x :: l) := fun y hy => by
  rcases List.mem_cons.1 hy with rfl | hy
  · exact h
  · exact hl y hy
theorem Bs.append {a b : List Int} (ha : Bs a) (hb : Bs b) : Bs (a ++ b) := fun x hx => by
  rcases List.mem_append.1 hx with h | h
  · exact ha x h
  · exact hb x h
theorem Bs.left {a b : List Int} (h : Bs (a ++ b)) : Bs a := fun x hx => h x (List.mem_append.2 (.inl hx))
theorem Bs.right {a b : List Int} (h : Bs (a ++ b)) : Bs b := fun x hx => h x (List.mem_append.2 (.inr hx))
theorem strOf_append (a b : List Int) : strOfNums (a ++ b) = strOfNums a ++ strOfNums b := by
  apply ByteArray.ext
  rw [ByteArray.data_append]
  apply Array.toList_inj.1
  simp [strOfNums]
theorem strOf_nil : strOfNums [] = ByteArray.empty := rfl
theorem ba_append_nil (t : ByteArray) : t ++ ByteArray.empty = t := by
  apply ByteArray.ext
  rw [ByteArray.data_append]
  exact Array.append_empty
theorem strOf_size (l : List Int) : (strOfNums l).size = l.length := by simp [strOfNums, ByteArray.size]
def be : Nat → Int → List Int
  | 0, _ => []
  | n + 1, v => be n (v / 256) ++ [v % 256]
theorem be_length : ∀ (n : Nat) (v : Int), (be n v).length = n
  | 0, _ => rfl
  | n + 1, v => by rw [be, List.length_append, be_length n]; rfl
theorem be_bs : ∀ (n : Nat) (v : Int), Bs (be n v)
  | 0, _ => Bs.nil
  | n + 1, v => (be_bs n _).append (Bs.cons (by omega) Bs.nil)
theorem be_one (x : Int) (h : 0 ≤ x ∧ x ≤ 255) : be 1 x = [x] := by
  show [x % 256] = [x]
  rw [Int.emod_eq_of_lt h.1 (by omega)]
theorem putBytes_be (v : Int) (n : Nat) (hn : n ≤ 8) : putBytes v n = be n v := by
  have gen : ∀ (n : Nat) (v : Int), be n v = (List.range n).map fun i => v / 256 ^ (n - 1 - i) % 256 := by
    intro n
    induction n with
    | zero => intro v; rfl
    | succ n ih =>
      intro v
      rw [be, ih, List.range_succ, List.map_append]
      congr 1
      · apply List.map_congr_left
        intro i hi
        have hi := List.mem_range.1 hi
        show v / 256 / 256 ^ (n - 1 - i) % 256 = v / 256 ^ (n + 1 - 1 - i) % 256
        rw [show n + 1 - 1 - i = (n - 1 - i) + 1 by omega, Int.pow_succ, Int.mul_comm, ← Int.ediv_ediv_of_nonneg (by decide)]
      · show [v % 256] = [v / 256 ^ (n + 1 - 1 - n) % 256]
        rw [show n + 1 - 1 - n = 0 by omega, Int.pow_zero, Int.ediv_one]
  rw [gen, putBytes]
  apply List.map_congr_left
  intro i hi
  have hi := List.mem_range.1 hi
  show v / 256 ^ (7 - (8 - n + i)) % 256 = _
  rw [show 7 - (8 - n + i) = n - 1 - i by omega]
theorem thin_yes (v : Int) : ∀ m, (∀ j, j < m → rawB v j = 0) → thin v m = true
  | 0, _ => rfl
  | m + 1, h => by rw [thin, thin_yes v m (fun j hj => h j (by omega)), h m (by omega)]; rfl
theorem pow256_le {a b : Nat} (h : a ≤ b) : (256 : Int) ^ a ≤ 256 ^ b := by
  have := Nat.pow_le_pow_right (show 0 < 256 by decide) h
  have h2 : ((256 ^ a : Nat) : Int) ≤ ((256 ^ b : Nat) : Int) := Int.ofNat_le.2 this
  rw [Int.natCast_pow, Int.natCast_pow] at h2
  exact h2
theorem putF_fits (t : ByteArray) (v : Int) (n : Nat) (h1 : 1 ≤ n) (h8 : n ≤ 8) (h0 : 0 ≤ v) (hv : v < 256 ^ n) : putF t v n = (t ++ strOfNums (be n v), 0) := by
  have hw : wideB (n : Int) = true := by simp [wideB]; omega
  have ht : thin v (8 - (n : Int).toNat) = true := by
    apply thin_yes
    intro j hj
    rw [Int.toNat_natCast] at hj
    have := pow256_le (show n ≤ 7 - j by omega)
    rw [rawB, Int.ediv_eq_zero_of_lt h0 (by omega)]
    rfl
  rw [putF, if_pos hw, if_pos ht, Int.toNat_natCast, putBytes_be v n h8]
theorem smallF_fits (xs : List Int) (h : Bs xs) : ∀ t : ByteArray, smallF t xs = t ++ strOfNums xs := by
  induction xs with
  | nil => intro t; rw [strOf_nil, ba_append_nil]; rfl
  | cons x xs ih =>
    intro t
    have hx := h x (by simp)
    show smallF (putF t (x % 18446744073709551616) 1).1 xs = _
    have := putF_fits t (x % 18446744073709551616) 1 (by omega) (by omega) (by omega) (by rw [Int.pow_one]; omega)
    rw [show ((1 : Nat) : Int) = 1 from rfl] at this
    rw [this, ih (fun y hy => h y (by simp [hy])), ByteArray.append_assoc, ← strOf_append]
    rw [show x % 18446744073709551616 = x by omega, be_one x hx]
    rfl
end Go.Proofs.YtfnekbfcndkjeaaGreatDoor
