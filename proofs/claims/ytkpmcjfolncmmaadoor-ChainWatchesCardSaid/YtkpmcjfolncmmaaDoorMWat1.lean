/- consignlaw30.ChainWatches answers true: of any row of drafts and any three numbers. -/
import Derived.Test.YtkpmcjfolncmmaaDoorMCut1
import Derived.Test.YtkpmcjfolncmmaaDoorMWat0
set_option linter.all false
namespace Go.Proofs.YtkpmcjfolncmmaaDoor
open Go.RowKit

/-- What the calls' worlds hold: the log, and both texts as bytes. -/
structure WatF (A Y X : Nat) (t one two s : ByteArray) (m : Int) (w W : World) : Prop where
  log : LogAt W A t s m
  y : BytAt W Y (numsOf one)
  x : BytAt W X (numsOf two)
  yl : Y < W.heap.size
  xl : X < W.heap.size
  bel : Below w.heap.size w W
theorem WatF.on {A Y X : Nat} {t one two s : ByteArray} {m : Int} {w W W' : World} (h : WatF A Y X t one two s m w W) (hb : Below W.heap.size W W') : WatF A Y X t one two s m w W' :=
  ⟨h.log.on hb, h.y.on h.yl hb, h.x.on h.xl hb, Nat.lt_of_lt_of_le h.yl hb.size, Nat.lt_of_lt_of_le h.xl hb.size, new_trans h.bel hb⟩
theorem WatF.setY {A Y X : Nat} {t one two s : ByteArray} {m : Int} {w W : World} (h : WatF A Y X t one two s m w W) (hAY : A ≠ Y) (hXY : X ≠ Y) (hw : w.heap.size ≤ Y) (i : Nat) (hi : i < one.size) {y : Int} (hy : 0 ≤ y ∧ y ≤ 255) : WatF A Y X t (setB one i y) two s m w (W.setCell ⟨Y, i, none⟩ (.int .u8 y)) := by
  have hk : Keeps (· ≠ Y) W (W.setCell ⟨Y, i, none⟩ (.int .u8 y)) := (Keeps.refl _ _).setCell (p := ⟨Y, i, none⟩) (.inr (fun h => h rfl)) _
  refine ⟨h.log.keeps hk hAY, ?_, h.x.keeps h.xl hk hXY, by simpa using h.yl, by simpa using h.xl, new_of_keeps h.bel hk hw⟩
  rw [numsOf_setB _ _ hy]
  exact h.y.set i (by rw [numsOf_length]; exact hi) y
theorem WatF.setX {A Y X : Nat} {t one two s : ByteArray} {m : Int} {w W : World} (h : WatF A Y X t one two s m w W) (hAX : A ≠ X) (hYX : Y ≠ X) (hw : w.heap.size ≤ X) (i : Nat) (hi : i < two.size) {y : Int} (hy : 0 ≤ y ∧ y ≤ 255) : WatF A Y X t one (setB two i y) s m w (W.setCell ⟨X, i, none⟩ (.int .u8 y)) := by
  have hk : Keeps (· ≠ X) W (W.setCell ⟨X, i, none⟩ (.int .u8 y)) := (Keeps.refl _ _).setCell (p := ⟨X, i, none⟩) (.inr (fun h => h rfl)) _
  refine ⟨h.log.keeps hk hAX, h.y.keeps h.yl hk hYX, ?_, by simpa using h.yl, by simpa using h.xl, new_of_keeps h.bel hk hw⟩
  rw [numsOf_setB _ _ hy]
  exact h.x.set i (by rw [numsOf_length]; exact hi) y

set_option maxHeartbeats 2000000 in
set_option maxRecDepth 100000 in
theorem watches_any (v : Value) (n : Nat) (hn : n ≤ 9223372036854775807) (z0 z1 z2 : Int) (hz0 : 0 ≤ z0 ∧ z0 ≤ 65535) (hz1 : 0 ≤ z1 ∧ z1 ≤ 65535) (hz2 : 0 ≤ z2 ∧ z2 ≤ 65535) (F : S8) (K : Nat → Int) (kk : Array Value) (w : World) (ht : Tabs F K kk w) (h1 : DraftsAt w v n) :
    Calls Tryd.prog 5 #[v, .agg #[.int .u16 z0, .int .u16 z1, .int .u16 z2]] w fun e w' => e = .returned (.bool true) ∧ Below w.heap.size w w' := by
  have HT := aside ht
  have HD1 := aside h1
  obtain ⟨P, hP⟩ : ∃ x, x = w.heap.size := ⟨_, rfl⟩
  obtain ⟨w0, hw0⟩ : ∃ z, z = w.alloc (.cells #[.int .u16 z0, .int .u16 z1, .int .u16 z2] 45) := ⟨_, rfl⟩
  have hb0 : Below w.heap.size w w0 := by rw [hw0]; exact new_alloc _ _
  have HB0 := aside hb0
  have HP0 : Aside (w0.heap[P]? = some (.cells #[.int .u16 z0, .int .u16 z1, .int .u16 z2] 45 (0, 0))) := by rw [hw0, hP]; exact heap_new _ _
  clear ht h1 hb0
  go_enter Tryd.func5, Tryd.ntmps5
  go_wp2_with fail
  rw [← hw0, ← hP]
  clear hw0
  refine (works_any F K kk w0 (HT.out.on HB0.out)).mono ?_
  rintro e w1 ⟨rfl, hb1⟩
  have HP1 := aside (whole_new HP0.out hb1)
  have HB1 := aside (new_trans HB0.out hb1)
  have HPW : Aside (P = w.heap.size) := hP
  clear hb1 HP0 hP
  go_wp2_with fail
  refine (records_any v n hn w1 (HD1.out.on HB1.out)).mono ?_
  rintro e w2 ⟨x1, rs, rfl, hr1, hm1, hl1, hb2⟩
  have HR1 : Aside (RecsAt w2 x1 rs) := hr1.at_
  have HM1 := aside hm1
  have HL1 := aside hl1
  have HP2 := aside (whole_new HP1.out hb2)
  have HB2 := aside (new_trans HB1.out hb2)
  clear hr1 hm1 hl1 hb2 HP1
  go_wp2_with fail
  refine (log_any x1 rs (by have := HL1.out; omega) HM1.out F K kk w2 (HT.out.sha.on HB2.out) HR1.out).mono ?_
  rintro e w3 ⟨rfl, hb3, ha3⟩
  obtain ⟨A, hA⟩ : ∃ x, x = w2.heap.size := ⟨_, rfl⟩
  rw [← hA] at ha3 ⊢
  obtain ⟨m, hm⟩ : ∃ m, m = rs.length := ⟨_, rfl⟩
  have hm12 : m ≤ 12 := by rw [hm]; exact HL1.out
  rw [← hm] at ha3
  obtain ⟨t, ht⟩ : ∃ x, x = textF (sumB K F) zero32 rs := ⟨_, rfl⟩
  rw [← ht] at ha3
  have hts : t.size ≤ 3000 := by
    have := text_le (sumB_size K F) rs zero32 HM1.out
    have := HL1.out
    rw [ht]
    omega
  have HTX := aside ht
  have HM := aside hm
  have HTS := aside hts
  have HA3 := aside ha3
  have HP3 := aside (whole_new HP2.out hb3)
  have HB3 := aside (new_trans HB2.out hb3)
  clear ha3 hb3 hA HR1 HP2 hm ht hts
  go_wp2_with fail
  refine (len_log A t _ m w3 HA3.out).mono ?_
  rintro e w4 ⟨rfl, rfl⟩
  by_cases hm0 : m = 0
  · have e0 : ((m : Int) == 0) = true := by simpa using hm0
    have HZ : Aside (t = ⟨#[]⟩) := by
      have h0 : rs = [] := List.eq_nil_of_length_eq_zero (by rw [← HM.out]; exact hm0)
      rw [Aside, HTX.out, h0]
      rfl
    clear hm0
    go_wp2_with fail
    refine (text_log A t _ m w3 HA3.out).mono ?_
    rintro e w4 ⟨rfl, rfl⟩
    rw [HZ.out]
    go_wp2_with fail
    go_ret
    exact ⟨rfl, HB3.out⟩
  have e0 : ((m : Int) == 0) = false := by simpa using hm0
  obtain ⟨z, hz⟩ : ∃ z : Nat, z0 = z := ⟨z0.toNat, by omega⟩
  subst hz
  obtain ⟨k, hk⟩ : ∃ k, k = z % m := ⟨_, rfl⟩
  have hkm : k < m := by rw [hk]; exact Nat.mod_lt _ (by omega)
  have hrem : (z : Int).tmod (m : Int) = (k : Int) := by rw [hk]; rfl
  have hmz : ¬ (m : Int) = 0 := by omega
  have hwz : IntKind.i64.wrap (z : Int) = z := IntWalk.i64_in _ (by omega)
  have c0 : w3.cell? ⟨P, 0, none⟩ = some (.int .u16 z) := cell_whole HP3.out 0
  have HKM : Aside (k < rs.length) := by rw [Aside, ← HM.out]; exact hkm
  clear hk
  go_upto_region 8 with fail
  go_region_held3 (fun W => W.cell? ⟨P, 0, none⟩ = some (.int .u16 z)) (first | exact c0) (first
    | (go_at_call 15
       refine (len_log A t _ m _ (HA3.out.on (new_drew _))).mono ?_
       rintro e w4 ⟨rfl, rfl⟩))
  obtain ⟨w4, hw4⟩ : ∃ x, x = w3.drew := ⟨_, rfl⟩
  rw [← hw4]
  have hb4 : Below w3.heap.size w3 w4 := by rw [hw4]; exact new_drew _
  have HA4 := aside (HA3.out.on hb4)
  have HP4 := aside (whole_new HP3.out hb4)
  have HB4 := aside (new_trans HB3.out hb4)
  clear hw4 hb4 c0 hrem hmz hwz e0 HA3 HP3 hm0
  go_wp2_with fail
  refine (text_log A t _ m w4 HA4.out).mono ?_
  rintro e w5 ⟨rfl, rfl⟩
  go_wp2_with fail
  refine (entry_any (sumB_size K F) rs HM1.out (by have := HL1.out; omega) k HKM.out t HTX.out w4).mono ?_
  rintro e w5 ⟨rfl, hb5⟩
  have hfit : atF (sumB K F) rs k + 34 + lenF rs k ≤ t.size := by rw [HTX.out]; exact at_fits (sumB_size K F) rs k HKM.out
  have hpos : 0 < lenF rs k := (bytesF_size (HM1.out.get k HKM.out).1 (HM1.out.get k HKM.out).2).1
  obtain ⟨p, hp⟩ : ∃ p, p = atF (sumB K F) rs k := ⟨_, rfl⟩
  obtain ⟨l, hl⟩ : ∃ l, l = lenF rs k := ⟨_, rfl⟩
  rw [← hp, ← hl] at hfit ⊢
  rw [← hl] at hpos
  have HPA := aside hp
  have HLL := aside hl
  have HA5 := aside (HA4.out.on hb5)
  have HP5 := aside (whole_new HP4.out hb5)
  have HB5 := aside (new_trans HB4.out hb5)
  have HFIT := aside hfit
  have c2 : w5.cell? ⟨P, 2, none⟩ = some (.int .u16 z2) := cell_whole HP5.out 2
  clear hb5 hp hl HA4 HP4 hkm
  go_upto_region 11 with fail
  obtain ⟨b, hb⟩ : ∃ b, b = 1 + z2 % 255 := ⟨_, rfl⟩
  have hbr : 1 ≤ b ∧ b ≤ 255 := by omega
  rw [← hb]
  have HBR := aside hbr
  clear hb hbr c2 hz2
  have kc := fun W => Lib.run_convert_string_bytes (P := Tryd.prog) W 9 46 5 t Tryd.underlying9 Tryd.underlying46 Tryd.underlying5
  go_wp2_with fail
  refine (text_log A t _ m w5 HA5.out).mono ?_
  rintro e w6 ⟨rfl, rfl⟩
  go_wp2_with fail
  refine (text_log A t _ m _ (HA5.out.on (new_bytesWorld _ _ _))).mono ?_
  rintro e w6 ⟨rfl, rfl⟩
  have hts := HTS.out
  have hl0 : ((l : Int) == 0) = false := by rw [beq_eq_false_iff_ne]; omega
  have hl1 : ¬ (l : Int) = 0 := by omega
  have hgt : ¬ (t.size : Int) < (p : Int) + 34 + l := by omega
  have w1 : wrap64 ((p : Int) + 34) = p + 34 := tick_id _ (by omega)
  have w2 : wrap64 ((p : Int) + 34 + l) = p + 34 + l := tick_id _ (by omega)
  go_upto_region 14 with fail
  obtain ⟨Y, hY⟩ : ∃ x, x = w5.heap.size := ⟨_, rfl⟩
  obtain ⟨cp, hcp⟩ : ∃ c, c = grownCap w5 t.size 0 5 := ⟨_, rfl⟩
  obtain ⟨w6, hw6⟩ : ∃ z, z = Lib.bytesWorld w5 5 t := ⟨_, rfl⟩
  rw [← hY, ← hcp, ← hw6]
  obtain ⟨X, hX⟩ : ∃ x, x = w6.heap.size := ⟨_, rfl⟩
  obtain ⟨cq, hcq⟩ : ∃ c, c = grownCap w6 t.size 0 5 := ⟨_, rfl⟩
  obtain ⟨w7, hw7⟩ : ∃ z, z = Lib.bytesWorld w6 5 t := ⟨_, rfl⟩
  rw [← hX, ← hcq, ← hw7]
  have hb6 : Below w5.heap.size w5 w6 := by rw [hw6]; exact new_bytesWorld _ _ _
  have hb7 : Below w6.heap.size w6 w7 := by rw [hw7]; exact new_bytesWorld _ _ _
  have hYl : Y < w6.heap.size := by rw [hw6, hY, Lib.bytesWorld_size]; exact Nat.lt_succ_self _
  have hXl : X < w7.heap.size := by rw [hw7, hX, Lib.bytesWorld_size]; exact Nat.lt_succ_self _
  have hBY6 : BytAt w6 Y (numsOf t) := by rw [hw6, hY]; exact BytAt.conv w5 t
  have hF7 : WatF A Y X t t t (lastF (sumB K F) zero32 rs) m w w7 :=
    ⟨(HA5.out.on hb6).on hb7, hBY6.on hYl hb7, by rw [hw7, hX]; exact BytAt.conv w6 t, Nat.lt_of_lt_of_le hYl hb7.size, hXl, new_trans (new_trans HB5.out hb6) hb7⟩
  have HF7 := aside hF7
  have HP7 : Aside (w7.heap[P]? = some (.cells #[.int .u16 z, .int .u16 z1, .int .u16 z2] 45 (0, 0))) := whole_new (whole_new HP5.out hb6) hb7
  have hAY : A < Y := by rw [hY]; exact HA5.out.sum.lt
  have hPY : P < Y := by rw [hY]; exact whole_lt HP5.out
  have hwY : w.heap.size ≤ Y := by rw [hY]; exact HB5.out.size
  have HNE : Aside (A ≠ Y ∧ A ≠ X ∧ Y ≠ X ∧ P ≠ Y ∧ P ≠ X ∧ w.heap.size ≤ Y ∧ w.heap.size ≤ X) := by rw [Aside]; omega
  have HCP : Aside (t.size ≤ cp ∧ t.size ≤ cq) := ⟨by rw [hcp]; exact grownCap_ge _ _ _ _, by rw [hcq]; exact grownCap_ge _ _ _ _⟩
  clear hb6 hb7 hYl hXl hBY6 hF7 hY hX hw6 hw7 hcp hcq hAY hPY hwY kc HA5 HP5
  obtain ⟨u, hu⟩ : ∃ u : Nat, z1 = u := ⟨z1.toNat, by omega⟩
  subst hu
  have his : p + 2 + l + u % 32 < t.size := by omega
  have c1 : w7.cell? ⟨P, 1, none⟩ = some (.int .u16 u) := cell_whole HP7.out 1
  obtain ⟨x, hx⟩ : ∃ x, x = byteOf t (p + 2 + l + u % 32) := ⟨_, rfl⟩
  have cx : w7.cell? ⟨Y, p + 2 + l + u % 32, none⟩ = some (.int .u8 x) := by rw [hx, byteOf_nums]; exact HF7.out.y.cell _ (by rw [numsOf_length]; exact his)
  have fx : w7.frozen? ⟨Y, p + 2 + l + u % 32, none⟩ = false := HF7.out.y.free _ (by rw [numsOf_length]; exact his)
  have hx8 : 0 ≤ x ∧ x ≤ 255 := by rw [hx]; exact byteOf_u8 _ _
  have HX1 := aside hx
  have HIS := aside his
  have HX8 := aside hx8
  clear hx hx8
  go_upto_region 15 with fail
  obtain ⟨y, hy⟩ : ∃ y, y = bits .xor .u8 x b := ⟨_, rfl⟩
  have hyx := xor_by x b HX8.out HBR.out
  rw [← hy] at hyx ⊢
  obtain ⟨i1, hi1⟩ : ∃ i, i = p + 2 + l + u % 32 := ⟨_, rfl⟩
  rw [← hi1] at HX1 HIS ⊢
  obtain ⟨w8, hw8⟩ : ∃ z, z = w7.setCell ⟨Y, i1, none⟩ (.int .u8 y) := ⟨_, rfl⟩
  have HF8 : Aside (WatF A Y X t (setB t i1 y) t (lastF (sumB K F) zero32 rs) m w w8) := by rw [Aside, hw8]; exact HF7.out.setY HNE.out.1 (Ne.symm HNE.out.2.2.1) HNE.out.2.2.2.2.2.1 i1 HIS.out hyx.1
  have HP8 : Aside (w8.heap[P]? = some (.cells #[.int .u16 z, .int .u16 u, .int .u16 z2] 45 (0, 0))) := by
    rw [Aside, hw8]
    exact whole_keeps HP7.out ((Keeps.refl (· ≠ Y) _).setCell (p := ⟨Y, i1, none⟩) (.inr (fun h => h rfl)) _) HNE.out.2.2.2.1
  have HYX : Aside ((0 ≤ y ∧ y ≤ 255) ∧ y ≠ byteOf t i1) := by rw [Aside, ← HX1.out]; exact hyx
  have HI1 : Aside (i1 = p + (2 + l + u % 32)) := by rw [Aside, hi1]; omega
  rw [← hw8]
  clear hw8 hi1 hy hyx cx fx c1 his HX8 HX1 HF7 HP7
  obtain ⟨j2, hj2⟩ : ∃ j, j = u % l := ⟨_, rfl⟩
  have hrem : (u : Int).tmod (l : Int) = (j2 : Int) := by rw [hj2]; rfl
  have hj2l : j2 < l := by rw [hj2]; exact Nat.mod_lt _ hpos
  have hi2 : p + 2 + j2 < t.size := by omega
  have c1 : w8.cell? ⟨P, 1, none⟩ = some (.int .u16 u) := cell_whole HP8.out 1
  obtain ⟨x2, hx2⟩ : ∃ x, x = byteOf t (p + 2 + j2) := ⟨_, rfl⟩
  have cx : w8.cell? ⟨X, p + 2 + j2, none⟩ = some (.int .u8 x2) := by rw [hx2, byteOf_nums]; exact HF8.out.x.cell _ (by rw [numsOf_length]; exact hi2)
  have fx : w8.frozen? ⟨X, p + 2 + j2, none⟩ = false := HF8.out.x.free _ (by rw [numsOf_length]; exact hi2)
  have hx28 : 0 ≤ x2 ∧ x2 ≤ 255 := by rw [hx2]; exact byteOf_u8 _ _
  have HX28 := aside hx28
  have HI2 := aside hi2
  have HJ2 := aside hj2l
  clear hj2 hx2 hx28 hj2l
  go_upto_region 16 with fail
  obtain ⟨y2, hy2⟩ : ∃ y, y = bits .xor .u8 x2 b := ⟨_, rfl⟩
  have hyx2 := (xor_by x2 b HX28.out HBR.out).1
  rw [← hy2] at hyx2 ⊢
  obtain ⟨i2, hi2e⟩ : ∃ i, i = p + 2 + j2 := ⟨_, rfl⟩
  rw [← hi2e] at HI2 ⊢
  obtain ⟨w9, hw9⟩ : ∃ z, z = w8.setCell ⟨X, i2, none⟩ (.int .u8 y2) := ⟨_, rfl⟩
  have HF9 : Aside (WatF A Y X t (setB t i1 y) (setB t i2 y2) (lastF (sumB K F) zero32 rs) m w w9) := by rw [Aside, hw9]; exact HF8.out.setX HNE.out.2.1 HNE.out.2.2.1 HNE.out.2.2.2.2.2.2 i2 HI2.out hyx2
  have HI2E : Aside (i2 = p + (2 + j2)) := by rw [Aside, hi2e]; omega
  have HY2 := aside hyx2
  rw [← hw9]
  clear hw9 hi2e hy2 hyx2 cx fx c1 hi2 HX28 HF8 HP8 hrem
  have hmk : (Instr.makeSlice 46 (.int .i64 32) (.int .i64 32)).run Tryd.prog w9 = .ok (.slice (some ⟨w9.heap.size, 0, none⟩) 32 32) (w9.alloc (.cells (madeCells #[.int .u8 0] 32) 5)) := make_bytes w9 32 (by omega)
  have hzt := zeros_text w9
  go_upto_region 17 with fail
  obtain ⟨w10, hw10⟩ : ∃ z, z = w9.alloc (.cells (madeCells #[.int .u8 0] 32) 5) := ⟨_, rfl⟩
  have HF10 : Aside (WatF A Y X t (setB t i1 y) (setB t i2 y2) (lastF (sumB K F) zero32 rs) m w w10) := by rw [Aside, hw10]; exact HF9.out.on (new_alloc _ _)
  rw [← hw10]
  clear hmk hzt hw10 HF9
  have HW1 : Aside (parseF (sumB K F) (setB t i1 y) = ([], 21, k)) := by
    have h1 : i1 = atF (sumB K F) rs k + (2 + lenF rs k + u % 32) := by rw [← HPA.out, ← HLL.out]; exact HI1.out
    have h2 := turn_sum (sumB_size K F) rs HM1.out k HKM.out (u % 32) (Nat.mod_lt _ (by omega)) HYX.out.1 (by rw [← h1, ← HTX.out]; exact HYX.out.2)
    rw [← h1, ← HTX.out] at h2
    exact h2
  have HW2 : Aside (sumB K F (lastF (sumB K F) zero32 (rs.take k) ++ t.extract (p + 2) (p + 2 + l)) ≠ sumB K F (lastF (sumB K F) zero32 (rs.take k) ++ (setB t i2 y2).extract (p + 2) (p + 2 + l)) → parseF (sumB K F) (setB t i2 y2) = ([], 21, k)) := fun hne => by
    have h1 : i2 = atF (sumB K F) rs k + (2 + j2) := by rw [← HPA.out]; exact HI2E.out
    have h3 := text_cut (S := sumB K F) rs k HKM.out HM1.out
    rw [← HTX.out, ← HPA.out, ← HLL.out] at h3
    rw [h3] at hne
    have h2 := turn_body (sumB_size K F) rs HM1.out k HKM.out j2 (by rw [← HLL.out]; exact HJ2.out) HY2.out (by rw [← h1, ← HTX.out, ← HPA.out, ← HLL.out]; exact hne)
    rw [← h1, ← HTX.out] at h2
    exact h2
  have HSZ : Aside ((lastF (sumB K F) zero32 (rs.take k)).size = 32) := last_size (sumB_size K F) (rs.take k) zero32 zero32_size
  rcases Nat.eq_zero_or_pos k with hk0 | hk0
  all_goals
    first
      | (subst hk0
         obtain ⟨lst, hls⟩ : ∃ x, x = zero32 := ⟨_, rfl⟩
         rw [← hls]
         have HLST : Aside (lst = lastF (sumB K F) zero32 (rs.take 0)) := hls
         clear hls
         go_upto_region 19 with fail)
      | (have hkz : (0 : Int) < k := by omega
         obtain ⟨h32, hla⟩ := sum_ahead (sumB_size K F) rs k HKM.out hk0
         rw [← HPA.out] at h32 hla
         rw [← HTX.out] at hla
         have hps : p ≤ (setB t i1 y).size := by rw [setB_size]; omega
         have hcv : ∀ cap, (convert 46 9 (.slice (some ⟨Y, p - 32, none⟩) 32 cap)).run Tryd.prog w10 = .ok (.string (lastF (sumB K F) zero32 (rs.take k))) w10 := fun cap => by
           have h := bytes_cut Y (setB t i1 y) (p - 32) 32 cap (by omega) w10 HF10.out.y
           rw [show p - 32 + 32 = p by omega, setB_out t i1 HYX.out.1 _ _ (.inr (by have := HI1.out; omega)), hla] at h
           exact h
         have hsub : (p : Int) - 32 = ((p - 32 : Nat) : Int) := by omega
         have hcp := HCP.out.1
         have hpc : (p : Int) ≤ cp := by omega
         have hle : ((p - 32 : Nat) : Int) ≤ p := by omega
         have hd32 : p - (p - 32) = 32 := by omega
         obtain ⟨lst, hls⟩ : ∃ x, x = lastF (sumB K F) zero32 (rs.take k) := ⟨_, rfl⟩
         rw [← hls] at hcv
         have HLST := aside hls
         clear hls hla hps hk0
         go_upto_region 19 with fail
         clear hkz h32 hsub hcp hpc hle hd32 hcv)
  all_goals
    obtain ⟨tb, htb⟩ : ∃ x, x = (setB t i2 y2).extract (p + 2) (p + 2 + l) := ⟨_, rfl⟩
    have hzt : (setB t i2 y2).size = t.size := setB_size _ _ _
    have htz : tb.size ≤ 3000 := by rw [htb, ByteArray.size_extract]; omega
    have hbz : (t.extract (p + 2) (p + 2 + l)).size ≤ 3000 := by rw [ByteArray.size_extract]; omega
    have hlz : lst.size = 32 := by rw [HLST.out]; exact HSZ.out
    rw [← HLST.out] at HW2
    have hpay : ∀ W, WatF A Y X t (setB t i1 y) (setB t i2 y2) (lastF (sumB K F) zero32 rs) m w W → (∀ cap, (convert 46 9 (.slice (some ⟨X, p + 2, none⟩) l cap)).run Tryd.prog W = .ok (.string tb) W) ∧ WatF A Y X t (setB t i1 y) (setB t i2 y2) (lastF (sumB K F) zero32 rs) m w W := fun W h => ⟨fun cap => by rw [htb]; exact bytes_cut X (setB t i2 y2) (p + 2) l cap (by omega) W h.x, h⟩
    have HTB := aside htb
    obtain ⟨D1, hD1⟩ : ∃ x, x = digestA (sumS K F (lst ++ t.extract (p + 2) (p + 2 + l))) := ⟨_, rfl⟩
    obtain ⟨D2, hD2⟩ : ∃ x, x = digestA (sumS K F (lst ++ tb)) := ⟨_, rfl⟩
    obtain ⟨q, hq⟩ : ∃ q, q = decide (sumB K F (lst ++ t.extract (p + 2) (p + 2 + l)) = sumB K F (lst ++ tb)) := ⟨_, rfl⟩
    have heq : ∀ W, (binOp .eql 48 (.agg D1) (.agg D2)).run Tryd.prog W = .ok (.bool q) W := fun W => by rw [hD1, hD2, hq]; exact sums_eql F K _ _ W
    have HD1 := aside hD1
    have HD2 := aside hD2
    have HQ := aside hq
    have hw2 : IntKind.i64.wrap ((p : Int) + 2) = p + 2 := IntWalk.i64_in _ (by omega)
    have hw3 : IntKind.i64.wrap ((p : Int) + 2 + l) = p + 2 + l := IntWalk.i64_in _ (by omega)
    have hcq := HCP.out.2
    have hb0 : (0 : Int) ≤ (p : Int) + 2 := by omega
    have hb4 : (0 : Int) ≤ (p : Int) + 2 + l := by omega
    have hb5 : ¬ cq = p + 2 := by omega
    have hb6 : ¬ (cq : Int) = p + 2 := by omega
    have hb1 : (p : Int) + 2 ≤ p + 2 + l := by omega
    have hb2 : (p : Int) + 2 + l ≤ t.size := by omega
    have hb3 : (p : Int) + 2 + l ≤ cq := by omega
    have hcat1 : ¬ 9223372036854775807 < lst.size + (t.extract (p + 2) (p + 2 + l)).size := by omega
    have hcat2 : ¬ 9223372036854775807 < lst.size + tb.size := by omega
    have hn2 : ((p : Int) + 2).toNat = p + 2 := by omega
    have hn3 : ((p : Int) + 2 + l).toNat = p + 2 + l := by omega
    have hx1 : ¬ 9223372036854775807 < lst.size + (min (p + 2 + l) t.size - (p + 2)) := by omega
    have hx2 : min (p + 2 + l) t.size = p + 2 + l := by omega
    have hx3 : ¬ 9223372036854775807 < lst.size + l := by omega
    have hx4 : p + 2 + l - (p + 2) = l := by omega
    have HLZ : Aside (lst.size = 32) := hlz
    have HBZ := aside hbz
    have HTZ := aside htz
    clear htb hD1 hD2 hq hzt hlz hbz htz
    go_region_held3 (fun W => (∀ cap, (convert 46 9 (.slice (some ⟨X, p + 2, none⟩) l cap)).run Tryd.prog W = .ok (.string tb) W) ∧ WatF A Y X t (setB t i1 y) (setB t i2 y2) (lastF (sumB K F) zero32 rs) m w W) (first | exact hpay _ hfq | exact hpay _ (HF10.out.on (new_drew _))) (first
      | (go_at_call 11
         first
           | refine (text_log A t _ _ _ hfq.log).mono ?_
           | refine (text_log A t _ _ _ (HF10.out.on (new_drew _)).log).mono ?_
         rintro e wq ⟨rfl, rfl⟩)
      | (go_at_call 16
         refine (sum_any _ ?_ F K kk _ ?_).mono ?_
         · rw [ByteArray.size_append, HLZ.out]; have := HBZ.out; have := HTZ.out; omega
         · first | exact (HT.out.on hfq.bel).sha | exact (HT.out.on (new_trans HF10.out.bel (new_drew _))).sha
         rintro e wq ⟨rfl, hbq⟩
         have hfq : WatF A Y X t (setB t i1 y) (setB t i2 y2) (lastF (sumB K F) zero32 rs) m w wq := by first | exact hfq.on hbq | exact (HF10.out.on (new_drew _)).on hbq
         clear hbq
         first | rw [← HD1.out] | rw [← HD2.out]))
  all_goals
    have hc1 : (convert 46 9 (.slice (some ⟨Y, 0, none⟩) t.size cp)).run Tryd.prog wq = .ok (.string (setB t i1 y)) wq := by
      have h := bytes_text Y (numsOf (setB t i1 y)) t.size cp (by rw [numsOf_length, setB_size]) wq hfq.y
      rw [strOf_numsOf] at h
      exact h
    have HF := aside hfq
    clear hpay heq hcat1 hcat2 hx1 hx2 hx3 hx4 hn2 hn3 hb0 hb1 hb2 hb3 hb4 hb5 hb6 hw2 hw3 hcq hfq
    cases q with
    | true =>
      go_wp2_with fail
      refine (wrong_yes (setB t i1 y) (by rw [setB_size]; have := HTS.out; omega) 21 _ F K kk wq (HT.out.on HF.out.bel) HW1.out (by decide)).mono ?_
      rintro e wz ⟨rfl, hbz⟩
      have HBZ2 := aside (new_trans HF.out.bel hbz)
      clear hbz hc1
      go_wp2_with fail
      go_ret
      exact ⟨rfl, HBZ2.out⟩
    | false =>
      have hne := of_decide_eq_false HQ.out.symm
      rw [HTB.out] at hne
      have HP2 := aside (HW2.out hne)
      clear hne
      go_wp2_with fail
      refine (wrong_yes (setB t i1 y) (by rw [setB_size]; have := HTS.out; omega) 21 _ F K kk wq (HT.out.on HF.out.bel) HW1.out (by decide)).mono ?_
      rintro e wz ⟨rfl, hbz⟩
      have HFZ := aside (HF.out.on hbz)
      have hc2 : (convert 46 9 (.slice (some ⟨X, 0, none⟩) t.size cq)).run Tryd.prog wz = .ok (.string (setB t i2 y2)) wz := by
        have h := bytes_text X (numsOf (setB t i2 y2)) t.size cq (by rw [numsOf_length, setB_size]) wz HFZ.out.x
        rw [strOf_numsOf] at h
        exact h
      clear hbz hc1
      go_wp2_with fail
      refine (wrong_yes (setB t i2 y2) (by rw [setB_size]; have := HTS.out; omega) 21 _ F K kk wz (HT.out.on HFZ.out.bel) HP2.out (by decide)).mono ?_
      rintro e wy ⟨rfl, hby⟩
      have HBZ2 := aside (new_trans HFZ.out.bel hby)
      clear hby hc2
      go_wp2_with fail
      go_ret
      exact ⟨rfl, HBZ2.out⟩

end Go.Proofs.YtkpmcjfolncmmaaDoor
