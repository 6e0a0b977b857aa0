/- The document's rows of ints and of lots, as they are read. -/
import Derived.Test.YtkpmcjfolncmmaaGreatDoorSOct2
import Derived.Test.YtkpmcjfolncmmaaGreatDoorSLst1
set_option linter.all false
namespace Go.Proofs.YtkpmcjfolncmmaaGreatDoor
open Go.RowKit
def intsR (t : ByteArray) : Nat → Option Nat → List Int × Option Nat
  | 0, st => ([], st)
  | _ + 1, none => ([], none)
  | n + 1, some p => (vl t (some p) 1 :: (intsR t n (nx t (some p) 1)).1, (intsR t n (nx t (some p) 1)).2)
theorem intsR_zero (t : ByteArray) (st : Option Nat) : intsR t 0 st = ([], st) := by cases st <;> rfl
theorem intsR_none (t : ByteArray) (n : Nat) : intsR t n none = ([], none) := by cases n <;> rfl
theorem intsR_some (t : ByteArray) (n p : Nat) : intsR t (n + 1) (some p) = (vl t (some p) 1 :: (intsR t n (nx t (some p) 1)).1, (intsR t n (nx t (some p) 1)).2) := rfl
theorem intsR_len (t : ByteArray) : ∀ (n : Nat) (st : Option Nat), (intsR t n st).1.length ≤ n
  | 0, st => by rw [intsR_zero]; simp
  | n + 1, none => by rw [intsR_none]; simp
  | n + 1, some p => by
    rw [intsR_some]
    have := intsR_len t n (nx t (some p) 1)
    simp only [List.length_cons]
    omega
def intsN (t : ByteArray) (st : Option Nat) : List Int × Option Nat := intsR t (vl t st 1).toNat (nx t st 1)
def IntsRf (b : Nat) (t : ByteArray) (st : Option Nat) (w : World) (e : Ending) (w' : World) : Prop :=
  ∃ v, e = .returned v ∧ w'.ownsRow w.heap.size 3 1 v (intsN t st).1.length ((intsN t st).1.map (Value.int .i64)) ∧ Keeps (· ≠ b) w w' ∧ RfAt w' b t (intsN t st).2
set_option maxHeartbeats 2000000 in
set_option maxRecDepth 100000 in
theorem ref_ints (b : Nat) (t : ByteArray) (hts : t.size ≤ 9223372036854775807) (st : Option Nat) (w : World) (h : RfAt w b t st) :
    Calls Tryz.prog 62 #[.pointer (some ⟨b, 0, none⟩)] w (IntsRf b t st w) := by
  have hbl := h.lt
  have H := aside h
  have HTS := aside hts
  have hv := vl_u8 t st
  obtain ⟨N, hN⟩ : ∃ N : Nat, N = (vl t st 1).toNat := ⟨_, rfl⟩
  have hNv : vl t st 1 = (N : Int) := by omega
  have hN255 : N ≤ 255 := by omega
  obtain ⟨R, hR⟩ : ∃ R, R = intsN t st := ⟨_, rfl⟩
  have HR : Aside (intsR t N (nx t st 1) = R) := by rw [Aside, hR, intsN, hN]
  have HNV := aside hNv
  have HRR := aside hR
  clear h hts hv hN hNv hR
  go_enter Tryz.func62, Tryz.ntmps62
  go_wp2_with fail
  refine (ref_take1 b t HTS.out st w H.out).mono ?_
  rintro e w1 ⟨rfl, hk1, h1⟩
  rw [HNV.out]
  have HK := aside hk1
  have H1 := aside h1
  have HOW : Aside (w1.ownsRow w.heap.size 3 1 (.slice none 0 0) 0 (([] : List Int).map (Value.int .i64))) := World.ownsRow_nil _ _ _ _
  clear hk1 h1
  go_wp2_with fail
  go_loopg [4, 5] N (fun gk v4 v5 wr => ∃ (k : Nat) (y : Value) (xs ys : List Int) (sk : Option Nat), y = v4 ∧ k ≤ N ∧ v5 = .int .i64 k ∧ N - k ≤ gk ∧ xs.length = k ∧ Aside (intsR t (N - k) sk = (ys, R.2) ∧ xs ++ ys = R.1) ∧ Aside (wr.ownsRow w.heap.size 3 1 y k (xs.map (Value.int .i64))) ∧ Aside (Keeps (· ≠ b) w wr) ∧ Aside (RfAt wr b t sk))
  case atStart => exact ⟨0, _, [], _, _, rfl, by omega, rfl, by omega, rfl, ⟨by rw [Nat.sub_zero, HR.out], rfl⟩, HOW, HK, H1⟩
  case round =>
    clear HOW HK H1
    obtain ⟨k, y, xs, ys, sk, rfl, hk, rfl, hgk, hxl, HI, HOW, HK, HS⟩ := hrel
    by_cases hlt : k < N
    · have hki : (k : Int) < N := by omega
      cases sk with
      | none =>
        have HEND : Aside (IntsRf b t st w (.returned y) wr) := by
          have hi := HI.out
          rw [intsR_none] at hi
          obtain ⟨h1, h2⟩ := hi
          obtain ⟨rfl, h3⟩ := Prod.mk.inj h1
          rw [List.append_nil] at h2
          refine ⟨_, rfl, ?_, HK.out, ?_⟩
          · rw [← HRR.out, ← h2, hxl]; exact HOW.out
          · rw [← HRR.out, ← h3]; exact HS.out
        obtain ⟨r0, hr0, hrf⟩ := HS.out
        have c1 := hrf.bad
        clear hr0 hrf hgk
        go_wp2_with fail
        go_ret
        exact HEND.out
      | some p =>
        have c1 := HS.out.2.bad
        have HME : Aside (∀ q, N - k ≤ q → N - (k + 1) < q) := fun q h => by omega
        go_wp2_with fail
        refine (ref_take1 b t HTS.out (some p) wr HS.out).mono ?_
        rintro e w2 ⟨rfl, hk2, h2⟩
        obtain ⟨x, hx⟩ : ∃ x, x = vl t (some p) 1 := ⟨_, rfl⟩
        rw [← hx]
        have HI2 : Aside (intsR t (N - (k + 1)) (nx t (some p) 1) = (ys.tail, R.2) ∧ (xs ++ [x]) ++ ys.tail = R.1) := by
          have hi := HI.out
          rw [show N - k = N - (k + 1) + 1 by omega, intsR_some, ← hx] at hi
          obtain ⟨h3, h4⟩ := hi
          obtain ⟨rfl, h5⟩ := Prod.mk.inj h3
          refine ⟨Prod.ext rfl h5, ?_⟩
          rw [← h4, List.append_assoc]
          rfl
        have HOW2 : Aside (w2.ownsRow w.heap.size 3 1 y k (xs.map (Value.int .i64))) := ownsRow_keeps HOW.out hk2 (fun j hj e => by omega)
        have HK2 := aside (HK.out.trans hk2)
        have H2 := aside h2
        have hs2 : w.heap.size ≤ w2.heap.size := HK2.out.size
        clear hx hk2 h2 HI HOW HK HS c1
        go_wp2_with (first
          | (at_builtin; refine wpList_append_one rfl _ _ 31 3 rfl (.int .i64 0) 1 8 Tryz.underlying31 Tryz.infoInt rfl (by decide) w.heap.size _ k _ rfl (World.ownsRow.alloc HOW2.out _) w2.heap.size [.int .i64 x] rfl (by simp [Value.oneCell']) rfl ?c1 ?c2 ?c3 ?c4 ?_)
          | fail)
        case c1 => intro j u hu; rw [cell_new]; match j, hu with | 0, hu => simpa using hu | j + 1, hu => simp at hu
        case c2 => unfold maxLen; omega
        case c3 => omega
        case c4 => simp; omega
        intro v' w3 hown' hgrow
        have HOW3 : Aside (w3.ownsRow w.heap.size 3 1 v' (k + 1) ((xs ++ [x]).map (Value.int .i64))) := by
          rw [Aside, List.map_append]; exact hown'
        have hk3 : Keeps (· < w.heap.size) w2 w3 := (keeps_of_new (new_alloc _ _) _).trans (keeps_grown hgrow _ (fun j hj h => by have := ownBlock_ge HOW2.out j hj; omega))
        have HK3 := aside (keeps_behind HK2.out hk3)
        have H3 := aside (H2.out.keeps hk3 hbl)
        have HXL : Aside ((xs ++ [x]).length = k + 1) := by rw [Aside, List.length_append, hxl]; rfl
        clear hown' hgrow hk3 H2 HK2 HOW2
        go_wp2_with fail
        go_roundg (N - (k + 1))
        case measure => exact HME.out _ hgk
        case rel => exact ⟨k + 1, _, xs ++ [x], _, _, rfl, hlt, by go_num, Nat.le_refl _, HXL.out, HI2, HOW3, HK3, H3⟩
    · have hki : ¬ (k : Int) < N := by omega
      have HEND : Aside (IntsRf b t st w (.returned y) wr) := by
        have hi := HI.out
        rw [show N - k = 0 by omega, intsR_zero] at hi
        obtain ⟨h1, h2⟩ := hi
        obtain ⟨rfl, h3⟩ := Prod.mk.inj h1
        rw [List.append_nil] at h2
        refine ⟨_, rfl, ?_, HK.out, ?_⟩
        · rw [← HRR.out, ← h2, hxl]; exact HOW.out
        · rw [← HRR.out, ← h3]; exact HS.out
      clear hgk
      go_wp2_with fail
      go_ret
      exact HEND.out
end Go.Proofs.YtkpmcjfolncmmaaGreatDoor
namespace Go.Proofs.YtkpmcjfolncmmaaGreatDoor
open Go.RowKit
theorem vl_u32 (t : ByteArray) (st : Option Nat) : 0 ≤ vl t st 4 ∧ vl t st 4 ≤ 4294967295 := by
  cases st with
  | none => rw [vl_none]; omega
  | some p =>
    rw [vl_some]
    by_cases h : p + 4 ≤ t.size
    · rw [if_pos h, getV_in t p 4 (by omega) (by omega) h]
      have hb := valL_bound (seg (byteOf t) p 4) 4 (seg_length _ _ _) (Bs.seg t p 4)
      omega
    · rw [if_neg h]; omega
def lotsR (t : ByteArray) : Nat → Option Nat → List (Int × Int) × Option Nat
  | 0, st => ([], st)
  | _ + 1, none => ([], none)
  | n + 1, some p => ((vl t (some p) 1, vl t (nx t (some p) 1) 4) :: (lotsR t n (nx t (nx t (some p) 1) 4)).1, (lotsR t n (nx t (nx t (some p) 1) 4)).2)
theorem lotsR_zero (t : ByteArray) (st : Option Nat) : lotsR t 0 st = ([], st) := by cases st <;> rfl
theorem lotsR_none (t : ByteArray) (n : Nat) : lotsR t n none = ([], none) := by cases n <;> rfl
theorem lotsR_some (t : ByteArray) (n p : Nat) : lotsR t (n + 1) (some p) = ((vl t (some p) 1, vl t (nx t (some p) 1) 4) :: (lotsR t n (nx t (nx t (some p) 1) 4)).1, (lotsR t n (nx t (nx t (some p) 1) 4)).2) := rfl
theorem lotsR_len (t : ByteArray) : ∀ (n : Nat) (st : Option Nat), (lotsR t n st).1.length ≤ n
  | 0, st => by rw [lotsR_zero]; simp
  | n + 1, none => by rw [lotsR_none]; simp
  | n + 1, some p => by
    rw [lotsR_some]
    have := lotsR_len t n (nx t (nx t (some p) 1) 4)
    simp only [List.length_cons]
    omega
def lotsN (t : ByteArray) (st : Option Nat) : List (Int × Int) × Option Nat := lotsR t (vl t st 1).toNat (nx t st 1)
def LotsRf (b : Nat) (t : ByteArray) (st : Option Nat) (w : World) (e : Ending) (w' : World) : Prop :=
  ∃ v, e = .returned v ∧ w'.ownsRow w.heap.size 68 2 v (lotsN t st).1.length (lotCells (lotsN t st).1) ∧ Keeps (· ≠ b) w w' ∧ RfAt w' b t (lotsN t st).2
set_option maxHeartbeats 2000000 in
set_option maxRecDepth 100000 in
theorem ref_lots (b : Nat) (t : ByteArray) (hts : t.size ≤ 9223372036854775807) (st : Option Nat) (w : World) (h : RfAt w b t st) :
    Calls Tryz.prog 61 #[.pointer (some ⟨b, 0, none⟩)] w (LotsRf b t st w) := by
  have hbl := h.lt
  have H := aside h
  have HTS := aside hts
  have hv := vl_u8 t st
  obtain ⟨N, hN⟩ : ∃ N : Nat, N = (vl t st 1).toNat := ⟨_, rfl⟩
  have hNv : vl t st 1 = (N : Int) := by omega
  have hN255 : N ≤ 255 := by omega
  obtain ⟨R, hR⟩ : ∃ R, R = lotsN t st := ⟨_, rfl⟩
  have HR : Aside (lotsR t N (nx t st 1) = R) := by rw [Aside, hR, lotsN, hN]
  have HNV := aside hNv
  have HRR := aside hR
  clear h hts hv hN hNv hR
  go_enter Tryz.func61, Tryz.ntmps61
  go_wp2_with fail
  refine (ref_take1 b t HTS.out st w H.out).mono ?_
  rintro e w1 ⟨rfl, hk1, h1⟩
  rw [HNV.out]
  have HK := aside hk1
  have H1 := aside h1
  have HOW : Aside (w1.ownsRow w.heap.size 68 2 (.slice none 0 0) 0 (lotCells [])) := World.ownsRow_nil _ _ _ _
  clear hk1 h1
  go_wp2_with fail
  go_loopg [4, 5] N (fun gk v4 v5 wr => ∃ (k : Nat) (y : Value) (xs ys : List (Int × Int)) (sk : Option Nat), y = v4 ∧ k ≤ N ∧ v5 = .int .i64 k ∧ N - k ≤ gk ∧ xs.length = k ∧ Aside (lotsR t (N - k) sk = (ys, R.2) ∧ xs ++ ys = R.1) ∧ Aside (wr.ownsRow w.heap.size 68 2 y k (lotCells xs)) ∧ Aside (Keeps (· ≠ b) w wr) ∧ Aside (RfAt wr b t sk))
  case atStart => exact ⟨0, _, [], _, _, rfl, by omega, rfl, by omega, rfl, ⟨by rw [Nat.sub_zero, HR.out], rfl⟩, HOW, HK, H1⟩
  case round =>
    clear HOW HK H1
    obtain ⟨k, y, xs, ys, sk, rfl, hk, rfl, hgk, hxl, HI, HOW, HK, HS⟩ := hrel
    by_cases hlt : k < N
    · have hki : (k : Int) < N := by omega
      cases sk with
      | none =>
        have HEND : Aside (LotsRf b t st w (.returned y) wr) := by
          have hi := HI.out
          rw [lotsR_none] at hi
          obtain ⟨h1, h2⟩ := hi
          obtain ⟨rfl, h3⟩ := Prod.mk.inj h1
          rw [List.append_nil] at h2
          refine ⟨_, rfl, ?_, HK.out, ?_⟩
          · rw [← HRR.out, ← h2, hxl]; exact HOW.out
          · rw [← HRR.out, ← h3]; exact HS.out
        obtain ⟨r0, hr0, hrf⟩ := HS.out
        have c1 := hrf.bad
        clear hr0 hrf hgk
        go_wp2_with fail
        go_ret
        exact HEND.out
      | some p =>
        have c1 := HS.out.2.bad
        have HME : Aside (∀ q, N - k ≤ q → N - (k + 1) < q) := fun q h => by omega
        go_wp2_with fail
        refine (ref_take1 b t HTS.out (some p) wr HS.out).mono ?_
        rintro e w2 ⟨rfl, hk2, h2⟩
        obtain ⟨x, hx⟩ : ∃ x, x = vl t (some p) 1 := ⟨_, rfl⟩
        rw [← hx]
        have HKa := aside hk2
        have Ha := aside h2
        obtain ⟨sa, hsa⟩ : ∃ z, z = nx t (some p) 1 := ⟨_, rfl⟩
        rw [← hsa] at Ha
        have HX := aside hx
        have HSA := aside hsa
        have hv4 := vl_u32 t sa
        clear hx hsa hk2 h2
        go_wp2_with fail
        refine (ref_num b t HTS.out sa 4 (by omega) (by omega) w2 Ha.out).mono ?_
        rintro e w2b ⟨rfl, hk2, h2⟩
        obtain ⟨z, hz⟩ : ∃ z, z = vl t sa 4 := ⟨_, rfl⟩
        rw [← hz] at hv4 ⊢
        have hk2 := HKa.out.trans hk2
        have HI2 : Aside (lotsR t (N - (k + 1)) (nx t sa 4) = (ys.tail, R.2) ∧ (xs ++ [(x, z)]) ++ ys.tail = R.1) := by
          have hi := HI.out
          rw [show N - k = N - (k + 1) + 1 by omega, lotsR_some, ← HX.out, ← HSA.out, ← hz] at hi
          obtain ⟨h3, h4⟩ := hi
          obtain ⟨rfl, h5⟩ := Prod.mk.inj h3
          refine ⟨Prod.ext rfl h5, ?_⟩
          rw [← h4, List.append_assoc]
          rfl
        have HOW2 : Aside (w2b.ownsRow w.heap.size 68 2 y k (lotCells xs)) := ownsRow_keeps HOW.out hk2 (fun j hj e => by omega)
        have HK2 := aside (HK.out.trans hk2)
        have H2 := aside h2
        have hs2 : w.heap.size ≤ w2b.heap.size := HK2.out.size
        clear hz hk2 h2 HI HOW HK HS c1 HX HSA HKa Ha
        go_wp2_with (first
          | (at_builtin; refine wpList_append_one rfl _ _ 36 68 rfl (.agg #[.int .i64 0, .int .i64 0]) 2 16 Tryz.underlying36 Tryz.infoLot rfl (by decide) w.heap.size _ k _ rfl (World.ownsRow.alloc HOW2.out _) w2b.heap.size [.int .i64 x, .int .i64 z] rfl (by simp [Value.oneCell']) rfl ?c1 ?c2 ?c3 ?c4 ?_)
          | fail)
        case c1 => intro j u hu; rw [cell_new]; match j, hu with | 0, hu => simpa using hu | 1, hu => simpa using hu | j + 2, hu => simp at hu
        case c2 => unfold maxLen; omega
        case c3 => omega
        case c4 => simp; omega
        intro v' w3 hown' hgrow
        have HOW3 : Aside (w3.ownsRow w.heap.size 68 2 v' (k + 1) (lotCells (xs ++ [(x, z)]))) := by
          rw [Aside, lotCells, List.flatMap_append]; exact hown'
        have hk3 : Keeps (· < w.heap.size) w2b w3 := (keeps_of_new (new_alloc _ _) _).trans (keeps_grown hgrow _ (fun j hj h => by have := ownBlock_ge HOW2.out j hj; omega))
        have HK3 := aside (keeps_behind HK2.out hk3)
        have H3 := aside (H2.out.keeps hk3 hbl)
        have HXL : Aside ((xs ++ [(x, z)]).length = k + 1) := by rw [Aside, List.length_append, hxl]; rfl
        clear hown' hgrow hk3 H2 HK2 HOW2
        go_wp2_with fail
        go_roundg (N - (k + 1))
        case measure => exact HME.out _ hgk
        case rel => exact ⟨k + 1, _, xs ++ [(x, z)], _, _, rfl, hlt, by go_num, Nat.le_refl _, HXL.out, HI2, HOW3, HK3, H3⟩
    · have hki : ¬ (k : Int) < N := by omega
      have HEND : Aside (LotsRf b t st w (.returned y) wr) := by
        have hi := HI.out
        rw [show N - k = 0 by omega, lotsR_zero] at hi
        obtain ⟨h1, h2⟩ := hi
        obtain ⟨rfl, h3⟩ := Prod.mk.inj h1
        rw [List.append_nil] at h2
        refine ⟨_, rfl, ?_, HK.out, ?_⟩
        · rw [← HRR.out, ← h2, hxl]; exact HOW.out
        · rw [← HRR.out, ← h3]; exact HS.out
      clear hgk
      go_wp2_with fail
      go_ret
      exact HEND.out
end Go.Proofs.YtkpmcjfolncmmaaGreatDoor
