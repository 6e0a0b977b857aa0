/- consignlaw30.ChainReads answers true: of any draft, any three numbers, any text. Printed by wip/gen/rds.py. -/
import Derived.Test.YtkpmcjfolncmmaaGreatDoorMRfRd
import Derived.Test.YtkpmcjfolncmmaaGreatDoorMRfL1
import Derived.Test.YtkpmcjfolncmmaaGreatDoorMDrz
import Derived.Test.YtkpmcjfolncmmaaGreatDoorMDrfZ
import Derived.Test.YtkpmcjfolncmmaaGreatDoorMRd3
import Derived.Deep.RegionHeld3
import Derived.Deep.DeepCutAuto
set_option linter.all false
namespace Go.Proofs.YtkpmcjfolncmmaaGreatDoor
open Go.RowKit

/-- What the call's variables hold: the numbers, and two texts as bytes. -/
structure RdF (P Y X : Nat) (z0 z1 z2 : Int) (l1 l2 : List Int) (w W : World) : Prop where
  p : W.heap[P]? = some (.cells #[.int .u16 z0, .int .u16 z1, .int .u16 z2] 29 (0, 0))
  y : BytAt W Y l1
  x : BytAt W X l2
  yl : Y < W.heap.size
  xl : X < W.heap.size
  bel : Below w.heap.size w W
theorem RdF.on {P Y X : Nat} {z0 z1 z2 : Int} {l1 l2 : List Int} {w W W' : World} (h : RdF P Y X z0 z1 z2 l1 l2 w W) (hb : Below W.heap.size W W') : RdF P Y X z0 z1 z2 l1 l2 w W' :=
  ⟨whole_new h.p hb, h.y.on h.yl hb, h.x.on h.xl hb, Nat.lt_of_lt_of_le h.yl hb.size, Nat.lt_of_lt_of_le h.xl hb.size, new_trans h.bel hb⟩
theorem RdF.setY {P Y X : Nat} {z0 z1 z2 : Int} {l1 l2 : List Int} {w W : World} (h : RdF P Y X z0 z1 z2 l1 l2 w W) (hPY : P ≠ Y) (hXY : X ≠ Y) (hw : w.heap.size ≤ Y) (i : Nat) (hi : i < l1.length) (y : Int) : RdF P Y X z0 z1 z2 (l1.set i y) l2 w (W.setCell ⟨Y, i, none⟩ (.int .u8 y)) := by
  have hk : Keeps (· ≠ Y) W (W.setCell ⟨Y, i, none⟩ (.int .u8 y)) := (Keeps.refl _ _).setCell (p := ⟨Y, i, none⟩) (.inr (fun h => h rfl)) _
  exact ⟨whole_keeps h.p hk hPY, h.y.set i hi y, h.x.keeps h.xl hk hXY, by simpa using h.yl, by simpa using h.xl, new_of_keeps h.bel hk hw⟩
theorem RdF.setX {P Y X : Nat} {z0 z1 z2 : Int} {l1 l2 : List Int} {w W : World} (h : RdF P Y X z0 z1 z2 l1 l2 w W) (hPX : P ≠ X) (hYX : Y ≠ X) (hw : w.heap.size ≤ X) (i : Nat) (hi : i < l2.length) (y : Int) : RdF P Y X z0 z1 z2 l1 (l2.set i y) w (W.setCell ⟨X, i, none⟩ (.int .u8 y)) := by
  have hk : Keeps (· ≠ X) W (W.setCell ⟨X, i, none⟩ (.int .u8 y)) := (Keeps.refl _ _).setCell (p := ⟨X, i, none⟩) (.inr (fun h => h rfl)) _
  exact ⟨whole_keeps h.p hk hPX, h.y.keeps h.yl hk hYX, h.x.set i hi y, by simpa using h.yl, by simpa using h.xl, new_of_keeps h.bel hk hw⟩

set_option maxHeartbeats 4000000 in
set_option maxRecDepth 100000 in
theorem reads_any (d : DrV) (z0 z1 z2 : Int) (hz0 : 0 ≤ z0 ∧ z0 ≤ 65535) (hz1 : 0 ≤ z1 ∧ z1 ≤ 65535) (hz2 : 0 ≤ z2 ∧ z2 ≤ 65535) (raw : ByteArray) (hraw : raw.size ≤ 9223372036854775807) (F : S8) (K : Nat → Int) (kk : Array Value) (w : World) (ht : Tabs F K kk w) (hd : DrAt w d) :
    Calls Tryz.prog 3 #[.agg (drCells d), .agg #[.int .u16 z0, .int .u16 z1, .int .u16 z2], .string raw] w fun e w' => e = .returned (.bool true) ∧ Below w.heap.size w w' := by
  have HT := aside ht
  have HDA := aside hd
  obtain ⟨D, hD⟩ : ∃ x, x = w.heap.size := ⟨_, rfl⟩
  obtain ⟨wa, hwa⟩ : ∃ z, z = w.alloc (.cells (drCells d) 28) := ⟨_, rfl⟩
  obtain ⟨P, hP⟩ : ∃ x, x = wa.heap.size := ⟨_, rfl⟩
  obtain ⟨w0, hw0⟩ : ∃ z, z = wa.alloc (.cells #[.int .u16 z0, .int .u16 z1, .int .u16 z2] 29) := ⟨_, rfl⟩
  have hPD : P = D + 1 := by rw [hP, hwa, hD]; simp
  have HB0 : Aside (Below w.heap.size w w0) := by rw [hw0, hwa]; exact new_trans (new_alloc _ _) (new_alloc _ _)
  have HD0 : Aside (w0.heap[D]? = some (.cells (drCells d) 28 (0, 0))) := by rw [hw0, hwa, hD]; exact whole_new (heap_new _ _) (new_alloc _ _)
  have HP0 : Aside (w0.heap[P]? = some (.cells #[.int .u16 z0, .int .u16 z1, .int .u16 z2] 29 (0, 0))) := by rw [hw0, hP]; exact heap_new _ _
  have HZ := aside (⟨hz0, hz1, hz2⟩ : (0 ≤ z0 ∧ z0 ≤ 65535) ∧ (0 ≤ z1 ∧ z1 ≤ 65535) ∧ (0 ≤ z2 ∧ z2 ≤ 65535))
  clear ht hd hz0 hz1 hz2
  go_enter Tryz.func3, Tryz.ntmps3
  go_upto_region 1 with fail
  rw [← hwa, ← hw0, ← hD, ← hPD]
  clear hw0 hD hP hwa hPD
  go_cut [2] (fun s2 wx => ∃ r : ByteArray, s2 = .string r ∧ r.size ≤ 200 ∧ wx = w0)
  case first =>
    by_cases h2 : raw.size ≤ 200
    · have e1 : (raw.size : Int) ≤ 200 := by omega
      go_wp2_with fail
      go_meet
      case rel => exact ⟨raw, rfl, h2, rfl⟩
    · have e1 : ¬ (raw.size : Int) ≤ 200 := by omega
      have e2 : (200 : Int) ≤ raw.size := by omega
      have e3 : 200 ≤ raw.size := by omega
      have hs : (raw.extract 0 200).size ≤ 200 := by rw [ByteArray.size_extract]; omega
      have HS := aside hs
      clear hs
      go_wp2_with fail
      go_meet
      case rel => exact ⟨_, rfl, HS.out, rfl⟩
  case rest =>
    obtain ⟨r, rfl, hr200, rfl⟩ := hcut
    clear hraw
    have HR200 := aside hr200
    clear hr200
    have hi0 : (Tryz.prog.info? 28).map (·.size) = some (drCells d).size := by kernel_rfl
    go_wp2_with (first | (refine wpList_load_row rfl _ _ rfl D rfl _ (drCells d) (0, 0) _ HD0.out Tryz.underlying28 rfl hi0 ?_) | fail)
    refine (draft_any d wc (HDA.out.on HB0.out)).mono ?_
    rintro e w1 ⟨rv, dd, rfl, hf1, hm1, ho1, hb1⟩
    have HF1 : Aside (RecAt w1 rv dd) := hf1.at_
    have HM1 := aside hm1
    have HO1 := aside ho1
    have HB1 : Aside (Below w.heap.size w w1) := new_trans HB0.out hb1
    have HP1 : Aside (w1.heap[P]? = some (.cells #[.int .u16 z0, .int .u16 z1, .int .u16 z2] 29 (0, 0))) := whole_new HP0.out hb1
    clear hf1 hm1 ho1 hb1 hi0
    go_wp2_with fail
    refine (rbytes_any rv dd HO1.out HM1.out w1 HF1.out).mono ?_
    rintro e w2 ⟨rfl, hb2⟩
    obtain ⟨s, hs⟩ : ∃ s, s = bytesF dd := ⟨_, rfl⟩
    rw [← hs]
    have hsz := bytesF_size HM1.out HO1.out
    rw [← hs] at hsz
    have HSZ := aside hsz
    have HB2 : Aside (Below w.heap.size w w2) := new_trans HB1.out hb2
    have HP2 : Aside (w2.heap[P]? = some (.cells #[.int .u16 z0, .int .u16 z1, .int .u16 z2] 29 (0, 0))) := whole_new HP1.out hb2
    clear hb2 hs hsz HP1 HP0 HD0 HF1 HM1 HO1
    have kc := fun W => Lib.run_convert_string_bytes (P := Tryz.prog) W 9 26 5 s Tryz.underlying9 Tryz.underlying26 Tryz.underlying5
    go_upto_region 4 with fail
    obtain ⟨Y, hY⟩ : ∃ x, x = w2.heap.size := ⟨_, rfl⟩
    obtain ⟨cp, hcp⟩ : ∃ c, c = grownCap w2 s.size 0 5 := ⟨_, rfl⟩
    obtain ⟨w6, hw6⟩ : ∃ z, z = Lib.bytesWorld w2 5 s := ⟨_, rfl⟩
    rw [← hY, ← hcp, ← hw6]
    obtain ⟨X, hX⟩ : ∃ x, x = w6.heap.size := ⟨_, rfl⟩
    obtain ⟨cq, hcq⟩ : ∃ c, c = grownCap w6 s.size 0 5 := ⟨_, rfl⟩
    obtain ⟨w7, hw7⟩ : ∃ z, z = Lib.bytesWorld w6 5 s := ⟨_, rfl⟩
    rw [← hX, ← hcq, ← hw7]
    have hb6 : Below w2.heap.size w2 w6 := by rw [hw6]; exact new_bytesWorld _ _ _
    have hb7 : Below w6.heap.size w6 w7 := by rw [hw7]; exact new_bytesWorld _ _ _
    have hYl : Y < w6.heap.size := by rw [hw6, hY, Lib.bytesWorld_size]; exact Nat.lt_succ_self _
    have hXl : X < w7.heap.size := by rw [hw7, hX, Lib.bytesWorld_size]; exact Nat.lt_succ_self _
    have hBY6 : BytAt w6 Y (numsOf s) := by rw [hw6, hY]; exact BytAt.conv w2 s
    have HF7 : Aside (RdF P Y X z0 z1 z2 (numsOf s) (numsOf s) w w7) :=
      ⟨whole_new (whole_new HP2.out hb6) hb7, hBY6.on hYl hb7, by rw [hw7, hX]; exact BytAt.conv w6 s, Nat.lt_of_lt_of_le hYl hb7.size, hXl, new_trans (new_trans HB2.out hb6) hb7⟩
    have hPY : P < Y := by rw [hY]; exact whole_lt HP2.out
    have hwY : w.heap.size ≤ Y := by rw [hY]; exact HB2.out.size
    have HNE : Aside (P ≠ Y ∧ P ≠ X ∧ Y ≠ X ∧ w.heap.size ≤ Y ∧ w.heap.size ≤ X) := by rw [Aside]; omega
    have HCP : Aside (s.size ≤ cp ∧ s.size ≤ cq) := ⟨by rw [hcp]; exact grownCap_ge _ _ _ _, by rw [hcq]; exact grownCap_ge _ _ _ _⟩
    clear hb6 hb7 hYl hXl hBY6 hY hX hw6 hw7 hcp hcq hPY hwY kc HP2
    obtain ⟨n, hn⟩ : ∃ n, n = s.size := ⟨_, rfl⟩
    have hn1 : 0 < n := by have := HSZ.out; omega
    have hn2 : n ≤ 151 := by have := HSZ.out; omega
    rw [← hn]
    rw [← hn] at HCP
    have HNS := aside hn
    obtain ⟨u, hu⟩ : ∃ u : Nat, z0 = u := ⟨z0.toNat, by have := HZ.out; omega⟩
    subst hu
    obtain ⟨v, hv⟩ : ∃ v : Nat, z1 = v := ⟨z1.toNat, by have := HZ.out; omega⟩
    subst hv
    obtain ⟨j, hj⟩ : ∃ j, j = u % n := ⟨_, rfl⟩
    have hjn : j < n := by rw [hj]; exact Nat.mod_lt _ hn1
    have HJ : Aside (j < (numsOf s).length) := by rw [Aside, numsOf_length, ← hn]; exact hjn
    have hrem : (u : Int).tmod (n : Int) = (j : Int) := by rw [hj]; rfl
    have hn0 : ¬ (n : Int) = 0 := by omega
    have hn00 : ¬ n = 0 := by omega
    have hwu : IntKind.i64.wrap (u : Int) = u := IntWalk.i64_in _ (by have := HZ.out; omega)
    obtain ⟨y, hy⟩ : ∃ y : Int, y = (v : Int) % 256 := ⟨_, rfl⟩
    have hwv : IntKind.u8.wrap (v : Int) = y := by rw [hy]; exact IntKind.wrap_u8 _
    have HYB : Aside (0 ≤ y ∧ y ≤ 255) := by rw [Aside, hy]; omega
    clear hj hy hn
    have HF7d : Aside (RdF P Y X u v z2 (numsOf s) (numsOf s) w w7.drew) := HF7.out.on (new_drew _)
    refine wp_region_held_drew (S := fun W => W.heap[P]? = some (.cells #[.int .u16 u, .int .u16 v, .int .u16 z2] 29 (0, 0))) (by kernel_rfl) HF7d.out.p (fun hHeld => ?_)
    refine wpAnyH_take (i := 0) (oi := _) (v := .slice (some ⟨Y, 0, none⟩) n cp) rfl (by kernel_rfl) (by kernel_rfl) (by kernel_rfl) (fun _ _ _ h => h) (Or.inl ⟨by rfl, ?_⟩) hHeld ?_
    · intro W hSw
      go_simp
    try simp only [Act.put, List.getElem_toArray, List.getElem_cons_succ, List.getElem_cons_zero, List.setIfInBounds_toArray, List.set_cons_zero, List.set_cons_succ]
    refine wpAnyH_take (i := 1) (oi := _) (v := .pointer (some ⟨P, 0, none⟩)) rfl (by kernel_rfl) (by kernel_rfl) (by kernel_rfl) (fun _ _ _ h => h) (Or.inl ⟨by rfl, ?_⟩) hHeld ?_
    · intro W hSw
      go_simp
    try simp only [Act.put, List.getElem_toArray, List.getElem_cons_succ, List.getElem_cons_zero, List.setIfInBounds_toArray, List.set_cons_zero, List.set_cons_succ]
    refine wpAnyH_take (i := 2) (oi := _) (v := .int .u16 u) rfl (by kernel_rfl) (by kernel_rfl) (by kernel_rfl) (fun _ _ _ h => h) (Or.inl ⟨by rfl, ?_⟩) hHeld ?_
    · intro W hSw
      have c : W.cell? ⟨P, 0, none⟩ = some (.int .u16 u) := cell_whole hSw 0
      go_simp
    try simp only [Act.put, List.getElem_toArray, List.getElem_cons_succ, List.getElem_cons_zero, List.setIfInBounds_toArray, List.set_cons_zero, List.set_cons_succ]
    refine wpAnyH_take (i := 3) (oi := _) (v := .int .i64 u) rfl (by kernel_rfl) (by kernel_rfl) (by kernel_rfl) (fun _ _ _ h => h) (Or.inl ⟨by rfl, ?_⟩) hHeld ?_
    · intro W hSw
      go_simp
    try simp only [Act.put, List.getElem_toArray, List.getElem_cons_succ, List.getElem_cons_zero, List.setIfInBounds_toArray, List.set_cons_zero, List.set_cons_succ]
    refine wpAnyH_take (i := 4) (oi := _) (v := .slice (some ⟨Y, 0, none⟩) n cp) rfl (by kernel_rfl) (by kernel_rfl) (by kernel_rfl) (fun _ _ _ h => h) (Or.inl ⟨by rfl, ?_⟩) hHeld ?_
    · intro W hSw
      go_simp
    try simp only [Act.put, List.getElem_toArray, List.getElem_cons_succ, List.getElem_cons_zero, List.setIfInBounds_toArray, List.set_cons_zero, List.set_cons_succ]
    refine wpAnyH_take (i := 5) (oi := _) (v := .int .i64 n) rfl (by kernel_rfl) (by kernel_rfl) (by kernel_rfl) (fun _ _ _ h => h) (Or.inl ⟨by rfl, ?_⟩) hHeld ?_
    · intro W hSw
      go_simp
    try simp only [Act.put, List.getElem_toArray, List.getElem_cons_succ, List.getElem_cons_zero, List.setIfInBounds_toArray, List.set_cons_zero, List.set_cons_succ]
    refine wpAnyH_take (i := 6) (oi := _) (v := .int .i64 j) rfl (by kernel_rfl) (by kernel_rfl) (by kernel_rfl) (fun _ _ _ h => h) (Or.inl ⟨by rfl, ?_⟩) hHeld ?_
    · intro W hSw
      go_simp
    try simp only [Act.put, List.getElem_toArray, List.getElem_cons_succ, List.getElem_cons_zero, List.setIfInBounds_toArray, List.set_cons_zero, List.set_cons_succ]
    refine wpAnyH_take (i := 7) (oi := _) (v := .pointer (some ⟨P, 1, none⟩)) rfl (by kernel_rfl) (by kernel_rfl) (by kernel_rfl) (fun _ _ _ h => h) (Or.inl ⟨by rfl, ?_⟩) hHeld ?_
    · intro W hSw
      go_simp
    try simp only [Act.put, List.getElem_toArray, List.getElem_cons_succ, List.getElem_cons_zero, List.setIfInBounds_toArray, List.set_cons_zero, List.set_cons_succ]
    refine wpAnyH_take (i := 8) (oi := _) (v := .int .u16 v) rfl (by kernel_rfl) (by kernel_rfl) (by kernel_rfl) (fun _ _ _ h => h) (Or.inl ⟨by rfl, ?_⟩) hHeld ?_
    · intro W hSw
      have c : W.cell? ⟨P, 1, none⟩ = some (.int .u16 v) := cell_whole hSw 1
      go_simp
    try simp only [Act.put, List.getElem_toArray, List.getElem_cons_succ, List.getElem_cons_zero, List.setIfInBounds_toArray, List.set_cons_zero, List.set_cons_succ]
    refine wpAnyH_take (i := 9) (oi := _) (v := .int .u8 y) rfl (by kernel_rfl) (by kernel_rfl) (by kernel_rfl) (fun _ _ _ h => h) (Or.inl ⟨by rfl, ?_⟩) hHeld ?_
    · intro W hSw
      go_simp
    try simp only [Act.put, List.getElem_toArray, List.getElem_cons_succ, List.getElem_cons_zero, List.setIfInBounds_toArray, List.set_cons_zero, List.set_cons_succ]
    refine wpAnyH_take (i := 10) (oi := _) (v := .pointer (some ⟨Y, j, none⟩)) rfl (by kernel_rfl) (by kernel_rfl) (by kernel_rfl) (fun _ _ _ h => h) (Or.inl ⟨by rfl, ?_⟩) hHeld ?_
    · intro W hSw
      go_simp
    try simp only [Act.put, List.getElem_toArray, List.getElem_cons_succ, List.getElem_cons_zero, List.setIfInBounds_toArray, List.set_cons_zero, List.set_cons_succ]
    refine wpAnyH_ready (rs := [11]) (by kernel_rfl) (by simp) ?_
    refine AllReadyH.cons (o := _) rfl (fun K hK => ?_) AllReadyH.nil
    have cx : w7.drew.cell? ⟨Y, j, none⟩ = some _ := HF7d.out.y.cell j HJ.out
    have fx : w7.drew.frozen? ⟨Y, j, none⟩ = false := HF7d.out.y.free j HJ.out
    go_simp
    have HF8 : Aside (RdF P Y X u v z2 ((numsOf s).set j y) (numsOf s) w (w7.setCell ⟨Y, j, none⟩ (.int .u8 y)).drew) := (HF7.out.setY HNE.out.1 (Ne.symm HNE.out.2.2.1) HNE.out.2.2.2.1 j HJ.out y).on (new_drew _)
    clear cx fx hHeld
    refine hK.out _ _ HF8.out.p (fun hHeld => ?_)
    clear hK K
    try simp only [Act.put, List.getElem_toArray, List.getElem_cons_succ, List.getElem_cons_zero, List.setIfInBounds_toArray, List.set_cons_zero, List.set_cons_succ]
    refine wpAnyH_done (by kernel_rfl) ?_ _
    obtain ⟨l1, hl1⟩ : ∃ l, l = (numsOf s).set j y := ⟨_, rfl⟩
    have HL1 : Aside (l1.length = n) := by rw [Aside, hl1, List.length_set, numsOf_length, HNS.out]
    rw [← hl1] at HF8
    obtain ⟨w8, hw8⟩ : ∃ z, z = (w7.setCell ⟨Y, j, none⟩ (.int .u8 y)).drew := ⟨_, rfl⟩
    rw [← hw8] at HF8 ⊢
    clear hw8 hl1 HF7d HF7 hrem hwu hwv hjn HJ HYB hn0 hn00
    obtain ⟨q8, hq8⟩ : ∃ q, q = v % 8 := ⟨_, rfl⟩
    have ht8 : (v : Int).tmod 8 = (q8 : Int) := by rw [hq8]; rfl
    have hq88 : q8 < 8 := by rw [hq8]; omega
    have hw8u : IntKind.u8.wrap (q8 : Int) = q8 := by rw [IntKind.wrap_u8]; omega
    have c1 : w8.cell? ⟨P, 1, none⟩ = some (.int .u16 v) := cell_whole HF8.out.p 1
    have HL20 : Aside (0 < (numsOf s).length) := by rw [Aside, numsOf_length, ← HNS.out]; exact hn1
    have cx : w8.cell? ⟨X, 0, none⟩ = some _ := HF8.out.x.cell 0 HL20.out
    have fx : w8.frozen? ⟨X, 0, none⟩ = false := HF8.out.x.free 0 HL20.out
    have hni : (0 : Int) < n := by omega
    clear hq8
    go_upto_region 6 with fail
    obtain ⟨l2, hl2⟩ : ∃ l, l = (numsOf s).set 0 (q8 : Int) := ⟨_, rfl⟩
    have HL2 : Aside (l2.length = n) := by rw [Aside, hl2, List.length_set, numsOf_length, HNS.out]
    have HF9 : Aside (RdF P Y X u v z2 l1 l2 w (w8.setCell ⟨X, 0, none⟩ (.int .u8 q8))) := by rw [hl2]; exact HF8.out.setX HNE.out.2.1 HNE.out.2.2.1 HNE.out.2.2.2.2 0 HL20.out q8
    obtain ⟨w9, hw9⟩ : ∃ z, z = w8.setCell ⟨X, 0, none⟩ (.int .u8 q8) := ⟨_, rfl⟩
    rw [← hw9] at HF9 ⊢
    clear hw9 hl2 cx fx c1 ht8 hq88 hw8u hni HF8 HL20
    obtain ⟨m, hm⟩ : ∃ m : Nat, z2 = m := ⟨z2.toNat, by have := HZ.out; omega⟩
    subst hm
    obtain ⟨q, hq⟩ : ∃ q, q = m % (n + 1) := ⟨_, rfl⟩
    have hqn : q ≤ n := by have := Nat.mod_lt m (show 0 < n + 1 by omega); rw [hq]; omega
    have hrem : (m : Int).tmod ((n : Int) + 1) = (q : Int) := by rw [hq]; rfl
    have hn0 : ¬ (n : Int) + 1 = 0 := by omega
    have hwm : IntKind.i64.wrap (m : Int) = m := IntWalk.i64_in _ (by have := HZ.out; omega)
    have hwn : IntKind.i64.wrap ((n : Int) + 1) = n + 1 := IntWalk.i64_in _ (by omega)
    have hns : s.size = n := HNS.out.symm
    obtain ⟨sr, hsr⟩ : ∃ x, x = s ++ r := ⟨_, rfl⟩
    have hcat : s ++ r = sr := hsr.symm
    have hsz : ¬ 9223372036854775807 < n + r.size := by have := HR200.out; omega
    have HSR : Aside (sr.size ≤ 1000) := by rw [Aside, hsr, ByteArray.size_append]; have := HR200.out; omega
    obtain ⟨sq, hsq⟩ : ∃ x, x = s.extract 0 q := ⟨_, rfl⟩
    have HSQ : Aside (sq.size ≤ 1000) := by rw [Aside, hsq, ByteArray.size_extract]; omega
    have hcut : s.extract 0 q = sq := hsq.symm
    obtain ⟨t1, ht1⟩ : ∃ x, x = strOfNums l1 := ⟨_, rfl⟩
    obtain ⟨t2, ht2⟩ : ∃ x, x = strOfNums l2 := ⟨_, rfl⟩
    have HT1 : Aside (t1.size ≤ 1000) := by rw [Aside, ht1, strOf_size, HL1.out]; omega
    have HT2 : Aside (t2.size ≤ 1000) := by rw [Aside, ht2, strOf_size, HL2.out]; omega
    have HTT : Aside (t1 = strOfNums l1 ∧ t2 = strOfNums l2) := ⟨ht1, ht2⟩
    have hql : q ≤ n := hqn
    have hqi : (q : Int) ≤ n := by omega
    clear hq hsr hsq ht1 ht2
    have HF9d : Aside (RdF P Y X u v m l1 l2 w w9.drew) := HF9.out.on (new_drew _)
    refine wp_region_held_drew (S := fun W => RdF P Y X u v m l1 l2 w W) (by kernel_rfl) HF9d.out (fun hHeld => ?_)
    refine wpAnyH_take (i := 0) (oi := _) (v := .string s) rfl (by kernel_rfl) (by kernel_rfl) (by kernel_rfl) (fun _ _ _ h => h) (Or.inl ⟨by rfl, ?_⟩) hHeld ?_
    · intro W hSw
      go_simp
    try simp only [Act.put, List.getElem_toArray, List.getElem_cons_succ, List.getElem_cons_zero, List.setIfInBounds_toArray, List.set_cons_zero, List.set_cons_succ]
    refine wpAnyH_take (i := 1) (oi := _) (v := .slice (some ⟨Y, 0, none⟩) n cp) rfl (by kernel_rfl) (by kernel_rfl) (by kernel_rfl) (fun _ _ _ h => h) (Or.inl ⟨by rfl, ?_⟩) hHeld ?_
    · intro W hSw
      go_simp
    try simp only [Act.put, List.getElem_toArray, List.getElem_cons_succ, List.getElem_cons_zero, List.setIfInBounds_toArray, List.set_cons_zero, List.set_cons_succ]
    refine wpAnyH_take (i := 2) (oi := _) (v := .string t1) rfl (by kernel_rfl) (by kernel_rfl) (by kernel_rfl) (fun _ _ _ h => h) (Or.inl ⟨by rfl, ?_⟩) hHeld ?_
    · intro W hSw
      have kc := bytes_text Y l1 n cp HL1.out W hSw.y
      rw [← HTT.out.1] at kc
      go_simp
    try simp only [Act.put, List.getElem_toArray, List.getElem_cons_succ, List.getElem_cons_zero, List.setIfInBounds_toArray, List.set_cons_zero, List.set_cons_succ]
    refine wpAnyH_take (i := 3) (oi := _) (v := .string s) rfl (by kernel_rfl) (by kernel_rfl) (by kernel_rfl) (fun _ _ _ h => h) (Or.inl ⟨by rfl, ?_⟩) hHeld ?_
    · intro W hSw
      go_simp
    try simp only [Act.put, List.getElem_toArray, List.getElem_cons_succ, List.getElem_cons_zero, List.setIfInBounds_toArray, List.set_cons_zero, List.set_cons_succ]
    refine wpAnyH_take (i := 4) (oi := _) (v := .pointer (some ⟨P, 2, none⟩)) rfl (by kernel_rfl) (by kernel_rfl) (by kernel_rfl) (fun _ _ _ h => h) (Or.inl ⟨by rfl, ?_⟩) hHeld ?_
    · intro W hSw
      go_simp
    try simp only [Act.put, List.getElem_toArray, List.getElem_cons_succ, List.getElem_cons_zero, List.setIfInBounds_toArray, List.set_cons_zero, List.set_cons_succ]
    refine wpAnyH_take (i := 5) (oi := _) (v := .int .u16 m) rfl (by kernel_rfl) (by kernel_rfl) (by kernel_rfl) (fun _ _ _ h => h) (Or.inl ⟨by rfl, ?_⟩) hHeld ?_
    · intro W hSw
      have c : W.cell? ⟨P, 2, none⟩ = some (.int .u16 m) := cell_whole hSw.p 2
      go_simp
    try simp only [Act.put, List.getElem_toArray, List.getElem_cons_succ, List.getElem_cons_zero, List.setIfInBounds_toArray, List.set_cons_zero, List.set_cons_succ]
    refine wpAnyH_take (i := 6) (oi := _) (v := .int .i64 m) rfl (by kernel_rfl) (by kernel_rfl) (by kernel_rfl) (fun _ _ _ h => h) (Or.inl ⟨by rfl, ?_⟩) hHeld ?_
    · intro W hSw
      go_simp
    try simp only [Act.put, List.getElem_toArray, List.getElem_cons_succ, List.getElem_cons_zero, List.setIfInBounds_toArray, List.set_cons_zero, List.set_cons_succ]
    refine wpAnyH_take (i := 7) (oi := _) (v := .string s) rfl (by kernel_rfl) (by kernel_rfl) (by kernel_rfl) (fun _ _ _ h => h) (Or.inl ⟨by rfl, ?_⟩) hHeld ?_
    · intro W hSw
      go_simp
    try simp only [Act.put, List.getElem_toArray, List.getElem_cons_succ, List.getElem_cons_zero, List.setIfInBounds_toArray, List.set_cons_zero, List.set_cons_succ]
    refine wpAnyH_take (i := 8) (oi := _) (v := .int .i64 n) rfl (by kernel_rfl) (by kernel_rfl) (by kernel_rfl) (fun _ _ _ h => h) (Or.inl ⟨by rfl, ?_⟩) hHeld ?_
    · intro W hSw
      go_simp
    try simp only [Act.put, List.getElem_toArray, List.getElem_cons_succ, List.getElem_cons_zero, List.setIfInBounds_toArray, List.set_cons_zero, List.set_cons_succ]
    refine wpAnyH_take (i := 9) (oi := _) (v := .int .i64 ((n : Int) + 1)) rfl (by kernel_rfl) (by kernel_rfl) (by kernel_rfl) (fun _ _ _ h => h) (Or.inl ⟨by rfl, ?_⟩) hHeld ?_
    · intro W hSw
      go_simp
    try simp only [Act.put, List.getElem_toArray, List.getElem_cons_succ, List.getElem_cons_zero, List.setIfInBounds_toArray, List.set_cons_zero, List.set_cons_succ]
    refine wpAnyH_take (i := 10) (oi := _) (v := .int .i64 q) rfl (by kernel_rfl) (by kernel_rfl) (by kernel_rfl) (fun _ _ _ h => h) (Or.inl ⟨by rfl, ?_⟩) hHeld ?_
    · intro W hSw
      go_simp
    try simp only [Act.put, List.getElem_toArray, List.getElem_cons_succ, List.getElem_cons_zero, List.setIfInBounds_toArray, List.set_cons_zero, List.set_cons_succ]
    refine wpAnyH_take (i := 11) (oi := _) (v := .string sq) rfl (by kernel_rfl) (by kernel_rfl) (by kernel_rfl) (fun _ _ _ h => h) (Or.inl ⟨by rfl, ?_⟩) hHeld ?_
    · intro W hSw
      go_simp
    try simp only [Act.put, List.getElem_toArray, List.getElem_cons_succ, List.getElem_cons_zero, List.setIfInBounds_toArray, List.set_cons_zero, List.set_cons_succ]
    refine wpAnyH_take (i := 12) (oi := _) (v := .string s) rfl (by kernel_rfl) (by kernel_rfl) (by kernel_rfl) (fun _ _ _ h => h) (Or.inl ⟨by rfl, ?_⟩) hHeld ?_
    · intro W hSw
      go_simp
    try simp only [Act.put, List.getElem_toArray, List.getElem_cons_succ, List.getElem_cons_zero, List.setIfInBounds_toArray, List.set_cons_zero, List.set_cons_succ]
    refine wpAnyH_take (i := 13) (oi := _) (v := .string r) rfl (by kernel_rfl) (by kernel_rfl) (by kernel_rfl) (fun _ _ _ h => h) (Or.inl ⟨by rfl, ?_⟩) hHeld ?_
    · intro W hSw
      go_simp
    try simp only [Act.put, List.getElem_toArray, List.getElem_cons_succ, List.getElem_cons_zero, List.setIfInBounds_toArray, List.set_cons_zero, List.set_cons_succ]
    refine wpAnyH_take (i := 14) (oi := _) (v := .string sr) rfl (by kernel_rfl) (by kernel_rfl) (by kernel_rfl) (fun _ _ _ h => h) (Or.inl ⟨by rfl, ?_⟩) hHeld ?_
    · intro W hSw
      go_simp
    try simp only [Act.put, List.getElem_toArray, List.getElem_cons_succ, List.getElem_cons_zero, List.setIfInBounds_toArray, List.set_cons_zero, List.set_cons_succ]
    refine wpAnyH_take (i := 15) (oi := _) (v := .slice (some ⟨X, 0, none⟩) n cq) rfl (by kernel_rfl) (by kernel_rfl) (by kernel_rfl) (fun _ _ _ h => h) (Or.inl ⟨by rfl, ?_⟩) hHeld ?_
    · intro W hSw
      go_simp
    try simp only [Act.put, List.getElem_toArray, List.getElem_cons_succ, List.getElem_cons_zero, List.setIfInBounds_toArray, List.set_cons_zero, List.set_cons_succ]
    refine wpAnyH_take (i := 16) (oi := _) (v := .string t2) rfl (by kernel_rfl) (by kernel_rfl) (by kernel_rfl) (fun _ _ _ h => h) (Or.inl ⟨by rfl, ?_⟩) hHeld ?_
    · intro W hSw
      have kc := bytes_text X l2 n cq HL2.out W hSw.x
      rw [← HTT.out.2] at kc
      go_simp
    try simp only [Act.put, List.getElem_toArray, List.getElem_cons_succ, List.getElem_cons_zero, List.setIfInBounds_toArray, List.set_cons_zero, List.set_cons_succ]
    refine wpAnyH_take (i := 17) (oi := _) (v := .string r) rfl (by kernel_rfl) (by kernel_rfl) (by kernel_rfl) (fun _ _ _ h => h) (Or.inl ⟨by rfl, ?_⟩) hHeld ?_
    · intro W hSw
      go_simp
    try simp only [Act.put, List.getElem_toArray, List.getElem_cons_succ, List.getElem_cons_zero, List.setIfInBounds_toArray, List.set_cons_zero, List.set_cons_succ]
    refine wpAnyH_take (i := 18) (oi := _) (v := .agg #[.string s, .string t1, .string sq, .string sr, .string t2, .string r]) rfl (by kernel_rfl) (by kernel_rfl) (by kernel_rfl) (fun _ _ _ h => h) (Or.inl ⟨by rfl, ?_⟩) hHeld ?_
    · intro W hSw
      go_simp
    try simp only [Act.put, List.getElem_toArray, List.getElem_cons_succ, List.getElem_cons_zero, List.setIfInBounds_toArray, List.set_cons_zero, List.set_cons_succ]
    refine wpAnyH_take (i := 19) (oi := _) (v := .int .i64 0) rfl (by kernel_rfl) (by kernel_rfl) (by kernel_rfl) (fun _ _ _ h => h) (Or.inl ⟨by rfl, ?_⟩) hHeld ?_
    · intro W hSw
      go_simp
    try simp only [Act.put, List.getElem_toArray, List.getElem_cons_succ, List.getElem_cons_zero, List.setIfInBounds_toArray, List.set_cons_zero, List.set_cons_succ]
    refine wpAnyH_done (by kernel_rfl) ?_ _
    have HB9 : Aside (Below w.heap.size w w9.drew) := HF9d.out.bel
    obtain ⟨wl, hwl⟩ : ∃ z, z = w9.drew := ⟨_, rfl⟩
    rw [← hwl] at HB9 ⊢
    have HTX : Aside (∀ k : Nat, k < 6 → ∃ t : ByteArray, (∀ W, (Instr.index 40 (.agg #[.string s, .string t1, .string sq, .string sr, .string t2, .string r]) (.int .i64 (k : Int))).run Tryz.prog W = .ok (.string t) W) ∧ t.size ≤ 1000) := by
      intro k hk
      match k, hk with
      | 0, _ => exact ⟨s, fun _ => by kernel_rfl, by have := HSZ.out; omega⟩
      | 1, _ => exact ⟨t1, fun _ => by kernel_rfl, HT1.out⟩
      | 2, _ => exact ⟨sq, fun _ => by kernel_rfl, HSQ.out⟩
      | 3, _ => exact ⟨sr, fun _ => by kernel_rfl, HSR.out⟩
      | 4, _ => exact ⟨t2, fun _ => by kernel_rfl, HT2.out⟩
      | 5, _ => exact ⟨r, fun _ => by kernel_rfl, by have := HR200.out; omega⟩
    clear hwl hql hqi hcut hcat hsz hns hwn hwm hn0 hrem hqn HF9d HF9 hn1 hn2
    go_wp2_with fail
    go_loopg [64] 6 (fun gk v64 wr => ∃ k : Nat, k ≤ 6 ∧ v64 = .int .i64 k ∧ 6 - k ≤ gk ∧ Aside (Below w.heap.size w wr))
    case atStart => exact ⟨0, by omega, rfl, by omega, HB9.out⟩
    case round =>
      obtain ⟨k, hk, rfl, hgk, HB⟩ := hrel
      by_cases hlt : k < 6
      · have hki : (k : Int) < 6 := by omega
        obtain ⟨t, htk, hts⟩ := HTX.out k hlt
        have HM : Aside (6 - (k + 1) < gk ∧ k + 1 ≤ 6) := ⟨by omega, by omega⟩
        have HTS := aside hts
        clear hts hgk hk hlt
        go_upto_region 8 with fail
        go_upto_region 9 with fail
        clear htk
        go_wp2_with fail
        refine (read_rec t (by have := HTS.out; omega) wr).mono ?_
        rintro e v1 ⟨ra, rfl, hfa, hba⟩
        obtain ⟨a, ha⟩ : ∃ a, a = readF t := ⟨_, rfl⟩
        have HAR := aside ha
        rw [← ha] at hfa ⊢
        clear ha
        have HFA := aside hfa
        have HBA : Aside (Below w.heap.size w v1) := new_trans HB.out hba
        clear hfa hba
        obtain ⟨v2, hv2⟩ : ∃ z, z = v1.alloc (.cells (recCells ra) 38) := ⟨_, rfl⟩
        have HST : Aside ((Instr.storeAt 38 (.pointer (some ⟨v1.heap.size, 0, none⟩)) (.agg (recCells ra))).run Tryz.prog (v1.alloc (.cells #[.int .i64 0, .int .i64 0, .int .i64 0, .int .i64 0, .int .i64 0, .slice none 0 0, .int .u8 0, .int .u8 0, .int .u8 0, .int .u8 0, .int .u8 0, .int .u8 0, .int .u8 0, .int .u8 0, .int .u8 0, .int .u8 0, .int .u8 0, .int .u8 0, .int .u8 0, .int .u8 0, .int .u8 0, .int .u8 0, .int .u8 0, .int .u8 0, .int .u8 0, .int .u8 0, .int .u8 0, .int .u8 0, .int .u8 0, .int .u8 0, .int .u8 0, .int .u8 0, .int .u8 0, .int .u8 0, .int .u8 0, .int .u8 0, .int .u8 0, .int .u8 0, .int .u64 0, .int .u64 0, .int .i64 0, .int .i64 0, .int .u64 0, .int .i64 0, .int .i64 0, .int .i64 0, .int .i64 0, .slice none 0 0, .slice none 0 0] 38)) = .ok () v2) := by
          rw [Aside, hv2]
          exact storeAt_fresh v1 38 (recCells {}) _ (by rw [recCells_size]; kernel_rfl) rfl HFA.out.one
        have HV2 := aside hv2
        clear hv2
        go_upto_region 10 with (first
          | (refine wpList_store_by rfl 38 _ _ rfl _ _ rfl rfl HST.out ?_)
          | fail)
        have hv2 := HV2.out
        obtain ⟨A1, hA1⟩ : ∃ x, x = v1.heap.size := ⟨_, rfl⟩
        rw [← hA1]
        have HB2' : Aside (Below v1.heap.size v1 v2) := by rw [hv2]; exact new_alloc _ _
        have HA2 : Aside (RecIn v2 A1 ra) := by rw [hv2, hA1]; exact RecIn.box _ _
        have HN2 : Aside (Below w.heap.size w v2) := new_trans HBA.out HB2'.out
        have HF2 : Aside (RecAt v2 ra a.1) := (HFA.out.on HB2'.out).at_
        clear hv2 hA1 HV2 HST HFA HBA HB2' 
        go_wp2_with fail
        refine (rread_any t (by have := HTS.out; omega) v2).mono ?_
        rintro e v3 ⟨rb, rfl, hfb, hbb⟩
        rw [← HAR.out] at hfb ⊢
        have HFB := aside hfb
        have HBB : Aside (Below w.heap.size w v3) := new_trans HN2.out hbb
        have HA3 : Aside (RecIn v3 A1 ra) := HA2.out.new hbb
        have HF3 : Aside (RecAt v3 ra a.1) := HF2.out.on hbb
        clear hfb hbb HA2 HF2 HN2
        obtain ⟨v4, hv4⟩ : ∃ z, z = v3.alloc (.cells (recCells rb) 38) := ⟨_, rfl⟩
        have HST : Aside ((Instr.storeAt 38 (.pointer (some ⟨v3.heap.size, 0, none⟩)) (.agg (recCells rb))).run Tryz.prog (v3.alloc (.cells #[.int .i64 0, .int .i64 0, .int .i64 0, .int .i64 0, .int .i64 0, .slice none 0 0, .int .u8 0, .int .u8 0, .int .u8 0, .int .u8 0, .int .u8 0, .int .u8 0, .int .u8 0, .int .u8 0, .int .u8 0, .int .u8 0, .int .u8 0, .int .u8 0, .int .u8 0, .int .u8 0, .int .u8 0, .int .u8 0, .int .u8 0, .int .u8 0, .int .u8 0, .int .u8 0, .int .u8 0, .int .u8 0, .int .u8 0, .int .u8 0, .int .u8 0, .int .u8 0, .int .u8 0, .int .u8 0, .int .u8 0, .int .u8 0, .int .u8 0, .int .u8 0, .int .u64 0, .int .u64 0, .int .i64 0, .int .i64 0, .int .u64 0, .int .i64 0, .int .i64 0, .int .i64 0, .int .i64 0, .slice none 0 0, .slice none 0 0] 38)) = .ok () v4) := by
          rw [Aside, hv4]
          exact storeAt_fresh v3 38 (recCells {}) _ (by rw [recCells_size]; kernel_rfl) rfl HFB.out.one
        have HV4 := aside hv4
        clear hv4
        go_upto_region 11 with (first
          | (refine wpList_store_by rfl 38 _ _ rfl _ _ rfl rfl HST.out ?_)
          | fail)
        have hv4 := HV4.out
        obtain ⟨A2, hA2⟩ : ∃ x, x = v3.heap.size := ⟨_, rfl⟩
        rw [← hA2]
        have HB4' : Aside (Below v3.heap.size v3 v4) := by rw [hv4]; exact new_alloc _ _
        have HB4 : Aside (RecIn v4 A2 rb) := by rw [hv4, hA2]; exact RecIn.box _ _
        have HA4 : Aside (RecIn v4 A1 ra) := HA3.out.new HB4'.out
        have HN4 : Aside (Below w.heap.size w v4) := new_trans HBB.out HB4'.out
        have HFA4 : Aside (RecAt v4 ra a.1) := HF3.out.on HB4'.out
        have HFB4 : Aside (RecAt v4 rb a.1) := (HFB.out.on HB4'.out).at_
        clear hv4 hA2 HV4 HST HFB HBB HA3 HF3 HB4'
        have HOK : Aside a.1.ok := by rw [HAR.out]; exact read_ok t
        obtain ⟨a1, a2⟩ := a
        have hic : (a2 == a2) = true := by simp
        have hir : (Tryz.prog.info? 38).map (·.size) = some (recCells ra).size := by rw [recCells_size]; kernel_rfl
        have hib : (Tryz.prog.info? 38).map (·.size) = some (recCells rb).size := by rw [recCells_size]; kernel_rfl
        go_wp2_with (first
          | (refine wpList_load_row_w rfl _ _ rfl A1 rfl _ (recCells ra) (0, 0) _ HA4.out Tryz.underlying38 rfl hir ?_)
          | (refine wpList_load_row_w rfl _ _ rfl A2 rfl _ (recCells rb) (0, 0) _ HB4.out Tryz.underlying38 rfl hib ?_)
          | fail)
        refine (same_any ra rb a1 a1 HOK.out.len HOK.out.len HOK.out.rows HOK.out.rows v4 HFA4.out HFB4.out).mono ?_
        rintro e v5 ⟨rfl, hb5⟩
        rw [decide_eq_true (rfl : a1 = a1)]
        have HN5 : Aside (Below w.heap.size w v5) := new_trans HN4.out hb5
        clear hb5 hic hir hib
        go_wp2_with fail
        go_roundg (6 - (k + 1))
        case measure => exact HM.out.1
        case rel => exact ⟨k + 1, HM.out.2, rfl, by omega, HN5.out⟩
      · have hki : ¬ (k : Int) < 6 := by omega
        clear hk hgk hlt
        go_wp2_with fail
        refine (works_any F K kk wr (HT.out.on HB.out)).mono ?_
        rintro e v1 ⟨rfl, hb⟩
        have HN : Aside (Below w.heap.size w v1) := new_trans HB.out hb
        clear hb
        go_wp2_with fail
        go_ret
        exact ⟨rfl, HN.out⟩

end Go.Proofs.YtkpmcjfolncmmaaGreatDoor
