/- ModelKnown, walked: the chapter's examples; what does not come at each kind; a lot that is passed over; a model that is none. -/
import Derived.Test.YtfnekbfcndkjeaaGreatDoorSMdk1
set_option linter.all false
namespace Go.Proofs.YtfnekbfcndkjeaaGreatDoor
open Go.RowKit Go.Maps
set_option maxHeartbeats 16000000 in
set_option maxRecDepth 100000 in
theorem mknown_any (w : World) (ht : ErrTab w) : Calls Tryz.prog 9 #[] w fun e w' => e = .returned (.bool true) ∧ Below w.heap.size w w' := by
  have HT := aside ht
  clear ht
  have bO1 : (Tryz.prog.info? 46).map (·.size) = some (#[Value.int .i64 2, .int .i64 1, .int .u64 50] : Array Value).size := by kernel_rfl
  have HO1 := aside bO1
  clear bO1
  go_enter Tryz.func9, Tryz.ntmps9
  go_upto_region 2 with (first
    | (refine wpList_store_row rfl _ _ _ rfl w.heap.size #[.int .i64 2, .int .i64 1, .int .u64 50] rfl rfl 46 _ (heap_new w _) HO1.out rfl rfl ?_; rw [World.setRow_alloc_new])
    | fail)
  obtain ⟨X, hX⟩ : ∃ x, x = w.heap.size := ⟨_, rfl⟩
  obtain ⟨w1, hw1⟩ : ∃ z, z = w.alloc (.cells #[.int .i64 2, .int .i64 1, .int .u64 50] 46) := ⟨_, rfl⟩
  have HX1 : Aside (w1.heap[X]? = some (.cells #[.int .i64 2, .int .i64 1, .int .u64 50] 46 (0, 0))) := by rw [hw1, hX]; exact heap_new _ _
  have HB1 : Aside (Below w.heap.size w w1) := by rw [hw1]; exact new_alloc _ _
  have HXW := aside (Nat.le_of_eq hX.symm)
  rw [← hw1, ← hX]
  clear hw1 hX
  go_wp2_with (first
    | (refine wpList_load_row (by rfl) _ _ rfl X rfl _ #[.int .i64 2, .int .i64 1, .int .u64 50] (0, 0) _ HX1.out Tryz.underlying46 rfl HO1.out ?_; try simp only [Act.put, ps])
    | fail)
  refine (chapter_any 2 1 50 w1).mono ?_
  rintro e w2 ⟨g, A, B, rfl, hb2, hc2⟩
  have HB2 : Aside (Below w.heap.size w w2) := st_new w _ _ HB1.out hb2
  have HX2 := aside (whole_new HX1.out hb2)
  obtain ⟨b1, hb1⟩ : ∃ x, x = w1.heap.size := ⟨_, rfl⟩
  rw [← hb1] at hc2
  have HC2 := aside hc2
  clear hb1 hb2 hc2 HX1 HB1
  go_upto_region 4 with (first
    | (refine wpList_load_row (by rfl) _ _ rfl X rfl _ #[.int .i64 2, .int .i64 1, .int .u64 50] (0, 0) _ HX2.out Tryz.underlying46 rfl HO1.out ?_; try simp only [Act.put, ps])
    | (refine wpList_store_row rfl _ _ _ rfl w2.heap.size #[.int .i64 2, .int .i64 1, .int .u64 50] rfl rfl 46 _ (heap_new w2 _) HO1.out rfl rfl ?_; rw [World.setRow_alloc_new])
    | fail)
  obtain ⟨Y, hY⟩ : ∃ x, x = w2.heap.size := ⟨_, rfl⟩
  obtain ⟨w3, hw3⟩ : ∃ z, z = w2.alloc (.cells #[.int .i64 2, .int .i64 1, .int .u64 50] 46) := ⟨_, rfl⟩
  have hb3 : Below w2.heap.size w2 w3 := by rw [hw3]; exact new_alloc _ _
  have HY3 : Aside (w3.heap[Y]? = some (.cells #[.int .i64 2, .int .i64 1, .int .u64 50] 46 (0, 0))) := by rw [hw3, hY]; exact heap_new _ _
  have HB3 : Aside (Below w.heap.size w w3) := st_new w _ _ HB2.out hb3
  have HC3 := aside (HC2.out.new hb3)
  have HYW : Aside (w.heap.size ≤ Y) := by rw [hY]; exact HB2.out.size
  have HYC : Aside (g ≠ Y ∧ A ≠ Y ∧ B ≠ Y) := by rw [hY]; exact ⟨Nat.ne_of_lt (whole_lt HC2.out.row), Nat.ne_of_lt (whole_lt HC2.out.lots), Nat.ne_of_lt (whole_lt HC2.out.owners)⟩
  rw [← hw3, ← hY]
  clear hw3 hY hb3 HX2 HC2 HB2
  have c0 : w3.cell? ⟨Y, 0, none⟩ = some (.int .i64 2) := cell_whole HY3.out 0
  have f0 := frozen_whole HY3.out 0
  go_upto_region 5 with fail
  obtain ⟨w4, hw4⟩ : ∃ z, z = w3.setCell ⟨Y, 0, none⟩ (.int .i64 4) := ⟨_, rfl⟩
  have HK4 : Aside (Keeps (· ≠ Y) w3 w4) := by rw [hw4]; exact (Keeps.refl _ _).setCell (p := ⟨Y, 0, none⟩) (.inr (fun h => h rfl)) _
  have HY4 : Aside (w4.heap[Y]? = some (.cells #[.int .i64 4, .int .i64 1, .int .u64 50] 46 (0, 0))) := by rw [hw4]; exact whole_set HY3.out 0 _
  rw [← hw4]
  clear hw4 c0 f0
  have HB4 : Aside (Below w.heap.size w w4) := below_trans_keeps HB3.out HK4.out (fun k hk e => by have := HYW.out; omega)
  have HC4 := aside (HC3.out.keeps HK4.out HYC.out.1 HYC.out.2.1 HYC.out.2.2)
  clear HB3 HC3 HY3 HK4
  go_wp2_with (first
    | (refine wpList_load_row (by rfl) _ _ rfl Y rfl _ #[.int .i64 4, .int .i64 1, .int .u64 50] (0, 0) _ HY4.out Tryz.underlying46 rfl HO1.out ?_; try simp only [Act.put, ps])
    | fail)
  refine (chapter_any 4 1 50 w4).mono ?_
  rintro e w5 ⟨g5, A5, B5, rfl, hb5, hc5⟩
  have HB5 : Aside (Below w.heap.size w w5) := st_new w _ _ HB4.out hb5
  have HC5 := aside (HC4.out.new hb5)
  have HD5 := aside hc5
  clear hb5 hc5 HB4 HC4 HY4
  go_wp2_with fail
  refine (play_of opf0 (chap_in HD5.out (by decide))).mono ?_
  rintro e w6 ⟨hb6, hr⟩
  rw [fail_ref, owners_ref, outs_ref] at hr
  rcases hr with ⟨_, u, v, rfl, hu, hv⟩ | ⟨_, _, _, h0, _⟩
  case inr => cases h0
  obtain ⟨O, oc, ocur, rfl, hOb, _, _, _, _, hO⟩ := row_cur (n := 2) (by decide) hu
  obtain ⟨a6, c6, rfl, _⟩ := ownsRow_form hv
  have HB6 : Aside (Below w.heap.size w w6) := st_new w _ _ HB5.out hb6
  have HC6 := aside (HC5.out.new hb6)
  have O1 : Aside (w6.cell? ⟨O, 1, none⟩ = some (.int .i64 2)) := hO 1 _ rfl
  clear hb6 hu hv hO hOb HB5 HC5 HD5
  go_wp2_with fail
  refine (mworks_any w6 (HT.out.on HB6.out)).mono ?_
  rintro e w7 ⟨rfl, hb7⟩
  have HB7 : Aside (Below w.heap.size w w7) := st_new w _ _ HB6.out hb7
  have HC7 := aside (HC6.out.new hb7)
  have o1 : w7.cell? ⟨O, 1, none⟩ = some (.int .i64 2) := (hb7.cell (cell_lt O1.out)).trans O1.out
  clear hb7 O1 HB6 HC6
  go_wp2_with fail
  refine (new_mod w7).mono ?_
  rintro e w8 ⟨rfl, hw8⟩
  clear o1
  obtain ⟨p, F, hp, HK8, HC8, HFW, HFC, HBB⟩ : ∃ (p : Nat) (F : Nat → Prop), p = w7.heap.size ∧ Aside (Kn F w8 0 w8 p {}) ∧ Aside (ChapAt b1 w8 g A B (2, 1, 50)) ∧ Aside (∀ k, k < w.heap.size → F k) ∧ Aside (F g ∧ F A ∧ F B) ∧ Aside (Below w.heap.size w w8) :=
    ⟨_, (· < w7.heap.size), rfl, Kn.made hw8, HC7.out.new (by rw [hw8]; exact new_alloc _ _), fun k hk => Nat.lt_of_lt_of_le hk HB7.out.size, ⟨whole_lt HC7.out.row, whole_lt HC7.out.lots, whole_lt HC7.out.owners⟩, st_new w _ _ HB7.out (by rw [hw8]; exact new_alloc _ _)⟩
  rw [← hp]
  clear hp hw8 HB7 HC7
  obtain ⟨R0, hR0⟩ : ∃ R : Array Value, R = recCells (scnV A B) := ⟨_, rfl⟩
  have HS0 : Aside ((Tryz.prog.info? 49).map (·.size) = some R0.toList.length) := by rw [Aside, hR0, Array.length_toList, recCells_size]; kernel_rfl
  have HZ0 : Aside ((Tryz.prog.info? 49).map (·.size) = some R0.size) := by rw [Aside, hR0, recCells_size]; kernel_rfl
  have HE0 : Aside (R0.size = 49 ∧ R0.all (·.oneCell') = true) := by rw [hR0]; exact ⟨recCells_size _, recCells_one _ rfl rfl rfl⟩
  obtain ⟨R1, hR1⟩ : ∃ R : Array Value, R = recCells (plainV opnC) := ⟨_, rfl⟩
  have HS1 : Aside ((Tryz.prog.info? 49).map (·.size) = some R1.toList.length) := by rw [Aside, hR1, Array.length_toList, recCells_size]; kernel_rfl
  have HZ1 : Aside ((Tryz.prog.info? 49).map (·.size) = some R1.size) := by rw [Aside, hR1, recCells_size]; kernel_rfl
  have HE1 : Aside (R1.size = 49 ∧ R1.all (·.oneCell') = true) := by rw [hR1]; exact ⟨recCells_size _, recCells_one _ rfl rfl rfl⟩
  obtain ⟨R2, hR2⟩ : ∃ R : Array Value, R = recCells (plainV comC) := ⟨_, rfl⟩
  have HS2 : Aside ((Tryz.prog.info? 49).map (·.size) = some R2.toList.length) := by rw [Aside, hR2, Array.length_toList, recCells_size]; kernel_rfl
  have HZ2 : Aside ((Tryz.prog.info? 49).map (·.size) = some R2.size) := by rw [Aside, hR2, recCells_size]; kernel_rfl
  have HE2 : Aside (R2.size = 49 ∧ R2.all (·.oneCell') = true) := by rw [hR2]; exact ⟨recCells_size _, recCells_one _ rfl rfl rfl⟩
  obtain ⟨R3, hR3⟩ : ∃ R : Array Value, R = recCells (plainV comC1) := ⟨_, rfl⟩
  have HS3 : Aside ((Tryz.prog.info? 49).map (·.size) = some R3.toList.length) := by rw [Aside, hR3, Array.length_toList, recCells_size]; kernel_rfl
  have HZ3 : Aside ((Tryz.prog.info? 49).map (·.size) = some R3.size) := by rw [Aside, hR3, recCells_size]; kernel_rfl
  have HE3 : Aside (R3.size = 49 ∧ R3.all (·.oneCell') = true) := by rw [hR3]; exact ⟨recCells_size _, recCells_one _ rfl rfl rfl⟩
  obtain ⟨R4, hR4⟩ : ∃ R : Array Value, R = recCells (plainV revC) := ⟨_, rfl⟩
  have HS4 : Aside ((Tryz.prog.info? 49).map (·.size) = some R4.toList.length) := by rw [Aside, hR4, Array.length_toList, recCells_size]; kernel_rfl
  have HZ4 : Aside ((Tryz.prog.info? 49).map (·.size) = some R4.size) := by rw [Aside, hR4, recCells_size]; kernel_rfl
  have HE4 : Aside (R4.size = 49 ∧ R4.all (·.oneCell') = true) := by rw [hR4]; exact ⟨recCells_size _, recCells_one _ rfl rfl rfl⟩
  obtain ⟨R5, hR5⟩ : ∃ R : Array Value, R = recCells (plainV (clsC (2, 1, 50))) := ⟨_, rfl⟩
  have HS5 : Aside ((Tryz.prog.info? 49).map (·.size) = some R5.toList.length) := by rw [Aside, hR5, Array.length_toList, recCells_size]; kernel_rfl
  have HZ5 : Aside ((Tryz.prog.info? 49).map (·.size) = some R5.size) := by rw [Aside, hR5, recCells_size]; kernel_rfl
  have HE5 : Aside (R5.size = 49 ∧ R5.all (·.oneCell') = true) := by rw [hR5]; exact ⟨recCells_size _, recCells_one _ rfl rfl rfl⟩
  have HR0 : Aside (∀ W, Keeps F w8 W → W.rangeAt g (0 * 49) R0.toList) := fun W hW => by rw [hR0]; exact chap_range (HC8.out.keeps hW HFC.out.1 HFC.out.2.1 HFC.out.2.2) 0 (by decide)
  have HR1 : Aside (∀ W, Keeps F w8 W → W.rangeAt g (1 * 49) R1.toList) := fun W hW => by rw [hR1]; exact chap_range (HC8.out.keeps hW HFC.out.1 HFC.out.2.1 HFC.out.2.2) 1 (by decide)
  have HR2 : Aside (∀ W, Keeps F w8 W → W.rangeAt g (2 * 49) R2.toList) := fun W hW => by rw [hR2]; exact chap_range (HC8.out.keeps hW HFC.out.1 HFC.out.2.1 HFC.out.2.2) 2 (by decide)
  have HR3 : Aside (∀ W, Keeps F w8 W → W.rangeAt g (3 * 49) R3.toList) := fun W hW => by rw [hR3]; exact chap_range (HC8.out.keeps hW HFC.out.1 HFC.out.2.1 HFC.out.2.2) 3 (by decide)
  have HR4 : Aside (∀ W, Keeps F w8 W → W.rangeAt g (4 * 49) R4.toList) := fun W hW => by rw [hR4]; exact chap_range (HC8.out.keeps hW HFC.out.1 HFC.out.2.1 HFC.out.2.2) 4 (by decide)
  have HR5 : Aside (∀ W, Keeps F w8 W → W.rangeAt g (5 * 49) R5.toList) := fun W hW => by rw [hR5]; exact chap_range (HC8.out.keeps hW HFC.out.1 HFC.out.2.1 HFC.out.2.2) 5 (by decide)
  have HA0 : Aside (ArgR F w8 R0 scnC) := by rw [hR0]; exact scn_arg HC8.out HFC.out
  have HA1 : Aside (ArgR F w8 R1 opnC) := by rw [hR1]; exact plain_arg _ _ rfl rfl rfl opnC_ok (by decide)
  have HA2 : Aside (ArgR F w8 R2 comC) := by rw [hR2]; exact plain_arg _ _ rfl rfl rfl comC_ok (by decide)
  have HA3 : Aside (ArgR F w8 R3 comC1) := by rw [hR3]; exact plain_arg _ _ rfl rfl rfl comC1_ok (by decide)
  have HA4 : Aside (ArgR F w8 R4 revC) := by rw [hR4]; exact plain_arg _ _ rfl rfl rfl revC_ok (by decide)
  have HA5 : Aside (ArgR F w8 R5 (clsC (2, 1, 50))) := by rw [hR5]; exact plain_arg _ _ rfl rfl rfl (clsC_ok _ (by decide)) (by decide)
  have HQ0 := aside hR0
  have HQ1 := aside hR1
  have HQ2 := aside hR2
  have HQ3 := aside hR3
  have HQ4 := aside hR4
  have HQ5 := aside hR5
  clear hR0 hR1 hR2 hR3 hR4 hR5
  go_upto_region 9 with fail
  go_cut [92] (fun s wx => s = .bool false ∧ Aside (Kn F w8 3 wx p s1))
  case first =>
    --F
    as_aux_lemma =>
    go_wp2_with (first
      | (refine wpList_load_midG (by rfl) _ _ rfl g (1 * 49) rfl _ _ (HR1.out _ HK8.out.keep) Tryz.underlying49 rfl HS1.out R1 (Array.toArray_toList) ?_; try simp only [Act.put, ps])
      | fail)
    refine (HK8.out.take (by decide) HA1.out tk0).mono ?_
    rintro e n1 ⟨rfl, hk⟩
    have HN1 := aside hk
    clear hk 
    go_wp2_with (first
      | (refine wpList_load_midG (by rfl) _ _ rfl g (0 * 49) rfl _ _ (HR0.out _ HN1.out.keep) Tryz.underlying49 rfl HS0.out R0 (Array.toArray_toList) ?_; try simp only [Act.put, ps])
      | fail)
    refine (HN1.out.take (by decide) HA0.out tk1).mono ?_
    rintro e n2 ⟨rfl, hk⟩
    have HN2 := aside hk
    clear hk HN1
    go_wp2_with (first
      | (refine wpList_load_midG (by rfl) _ _ rfl g (0 * 49) rfl _ _ (HR0.out _ HN2.out.keep) Tryz.underlying49 rfl HS0.out R0 (Array.toArray_toList) ?_; try simp only [Act.put, ps])
      | fail)
    refine (HN2.out.take (by decide) HA0.out tk2).mono ?_
    rintro e n3 ⟨rfl, hk⟩
    have HN3 := aside hk
    clear hk HN2
    go_wp2_with fail
    refine (HN3.out.state 0 (by decide) 0 st10).mono ?_
    rintro e n4 ⟨rfl, hk⟩
    have HN4 := aside hk
    clear hk HN3
    go_wp2_with fail
    refine (HN4.out.state 1 (by decide) (-1) st11).mono ?_
    rintro e n5 ⟨rfl, hk⟩
    have HN5 := aside hk
    clear hk HN4
    go_wp2_with fail
    go_meet
    case rel => exact ⟨rfl, HN5.out⟩
    --E
  case rest =>
  as_aux_lemma =>
  obtain ⟨rfl, HK9⟩ := hcut
  obtain ⟨w9, hw9⟩ : ∃ z, z = wc := ⟨_, rfl⟩
  rw [← hw9] at HK9 ⊢
  clear hw9 wc
  have HKu : Aside (Keeps (fun k => k < w9.heap.size) w9 w9) := Keeps.refl _ _
  go_upto_region 12 with (first
    | (refine wpList_load_midG (by rfl) _ _ rfl g (1 * 49) rfl _ _ (HR1.out _ (HK9.out.keep.trans (HKu.out.mono fun k _ h => HK9.out.mo.small k h))) Tryz.underlying49 rfl HS1.out R1 (Array.toArray_toList) ?_; try simp only [Act.put, ps])
    | (refine wpList_store_row rfl _ _ _ rfl w9.heap.size R1 rfl rfl 49 _ (heap_new w9 _) HZ1.out HE1.out.1.symm HE1.out.2 ?_; rw [World.setRow_alloc_new])
    | fail)
  have c5 : ((w9.alloc (.cells R1 49)).alloc (.cells #[.int .i64 2] 3)).cell? ⟨w9.heap.size, 5, none⟩ = some (.slice none 0 0) := by rw [cell_whole (whole_new (heap_new w9 _) (new_alloc _ _)), HQ1.out]; rfl
  have f5 := frozen_whole (whole_new (heap_new w9 (.cells R1 49)) (new_alloc _ (.cells #[.int .i64 2] 3))) 5
  go_upto_region 13 with fail
  obtain ⟨w9b0, hw9b0⟩ : ∃ z, z = (w9.alloc (.cells (R1.setIfInBounds 5 (.slice (some ⟨w9.heap.size + 1, 0, none⟩) 1 1)) 49)).alloc (.cells #[.int .i64 2] 3) := ⟨_, rfl⟩
  obtain ⟨Lw90, hL⟩ : ∃ x, x = w9.heap.size := ⟨_, rfl⟩
  have hbx := box_put w9 _ #[.int .i64 2] 49 3 w9b0 hw9b0
  rw [← hw9b0]
  rw [← hL] at hbx ⊢
  have HBXLw90 : Aside (w9b0.heap[Lw90]? = some (.cells (recCells (barV opnC (Lw90 + 1))) 49 (0, 0))) := by have := hbx.2.1; rw [HQ1.out] at this; exact this
  have HBBLw90 : Aside (w9b0.heap[Lw90 + 1]? = some (.cells #[.int .i64 2] 3 (0, 0))) := hbx.2.2.1
  have HBSLw90 : Aside (w9.heap.size ≤ Lw90 ∧ Lw90 + 1 < w9b0.heap.size) := ⟨by rw [hL]; exact HKu.out.size, by rw [hbx.2.2.2]; exact Nat.lt_succ_self _⟩
  have hkv : Keeps (fun k => k < w9.heap.size) w9 w9b0 := by have := hbx.1; rw [hL] at this; exact this
  have HKu : Aside (Keeps (fun k => k < w9.heap.size) w9 w9b0) := HKu.out.trans (hkv.mono fun k _ h => Nat.lt_of_lt_of_le h HKu.out.size)
  clear c5 f5 hbx hkv hw9b0 hL
  go_upto_region 14 with (first
    | (refine wpList_load_midG (by rfl) _ _ rfl g (1 * 49) rfl _ _ (HR1.out _ (HK9.out.keep.trans (HKu.out.mono fun k _ h => HK9.out.mo.small k h))) Tryz.underlying49 rfl HS1.out R1 (Array.toArray_toList) ?_; try simp only [Act.put, ps])
    | (refine wpList_store_row rfl _ _ _ rfl w9b0.heap.size R1 rfl rfl 49 _ (heap_new w9b0 _) HZ1.out HE1.out.1.symm HE1.out.2 ?_; rw [World.setRow_alloc_new])
    | fail)
  have c5 : ((w9b0.alloc (.cells R1 49)).alloc (.cells #[.int .i64 3] 3)).cell? ⟨w9b0.heap.size, 5, none⟩ = some (.slice none 0 0) := by rw [cell_whole (whole_new (heap_new w9b0 _) (new_alloc _ _)), HQ1.out]; rfl
  have f5 := frozen_whole (whole_new (heap_new w9b0 (.cells R1 49)) (new_alloc _ (.cells #[.int .i64 3] 3))) 5
  go_upto_region 15 with fail
  obtain ⟨w9b1, hw9b1⟩ : ∃ z, z = (w9b0.alloc (.cells (R1.setIfInBounds 5 (.slice (some ⟨w9b0.heap.size + 1, 0, none⟩) 1 1)) 49)).alloc (.cells #[.int .i64 3] 3) := ⟨_, rfl⟩
  obtain ⟨Lw91, hL⟩ : ∃ x, x = w9b0.heap.size := ⟨_, rfl⟩
  have hbx := box_put w9b0 _ #[.int .i64 3] 49 3 w9b1 hw9b1
  rw [← hw9b1]
  rw [← hL] at hbx ⊢
  have HBXLw91 : Aside (w9b1.heap[Lw91]? = some (.cells (recCells (barV opnC (Lw91 + 1))) 49 (0, 0))) := by have := hbx.2.1; rw [HQ1.out] at this; exact this
  have HBBLw91 : Aside (w9b1.heap[Lw91 + 1]? = some (.cells #[.int .i64 3] 3 (0, 0))) := hbx.2.2.1
  have HBSLw91 : Aside (w9.heap.size ≤ Lw91 ∧ Lw91 + 1 < w9b1.heap.size) := ⟨by rw [hL]; exact HKu.out.size, by rw [hbx.2.2.2]; exact Nat.lt_succ_self _⟩
  have hkv : Keeps (fun k => k < w9b0.heap.size) w9b0 w9b1 := by have := hbx.1; rw [hL] at this; exact this
  have HBXLw90 := aside (whole_keeps HBXLw90.out hkv (whole_lt HBXLw90.out))
  have HBBLw90 := aside (whole_keeps HBBLw90.out hkv (whole_lt HBBLw90.out))
  have HBSLw90 : Aside (w9.heap.size ≤ Lw90 ∧ Lw90 + 1 < w9b1.heap.size) := ⟨HBSLw90.out.1, Nat.lt_of_lt_of_le HBSLw90.out.2 hkv.size⟩
  have HKu : Aside (Keeps (fun k => k < w9.heap.size) w9 w9b1) := HKu.out.trans (hkv.mono fun k _ h => Nat.lt_of_lt_of_le h HKu.out.size)
  clear c5 f5 hbx hkv hw9b1 hL
  go_upto_region 16 with (first
    | (refine wpList_load_midG (by rfl) _ _ rfl g (1 * 49) rfl _ _ (HR1.out _ (HK9.out.keep.trans (HKu.out.mono fun k _ h => HK9.out.mo.small k h))) Tryz.underlying49 rfl HS1.out R1 (Array.toArray_toList) ?_; try simp only [Act.put, ps])
    | (refine wpList_store_row rfl _ _ _ rfl w9b1.heap.size R1 rfl rfl 49 _ (heap_new w9b1 _) HZ1.out HE1.out.1.symm HE1.out.2 ?_; rw [World.setRow_alloc_new])
    | fail)
  have c5 : (w9b1.alloc (.cells R1 49)).cell? ⟨w9b1.heap.size, 3, none⟩ = some (.int .i64 0) := by rw [cell_whole (heap_new w9b1 _), HQ1.out]; rfl
  have f5 := frozen_whole (heap_new w9b1 (.cells R1 49)) 3
  go_upto_region 17 with fail
  obtain ⟨w9b2, hw9b2⟩ : ∃ z, z = w9b1.alloc (.cells (R1.setIfInBounds 3 (.int .i64 1)) 49) := ⟨_, rfl⟩
  obtain ⟨Lw92, hL⟩ : ∃ x, x = w9b1.heap.size := ⟨_, rfl⟩
  have hbx := box_new w9b1 _ 49 w9b2 hw9b2
  rw [← hw9b2]
  rw [← hL] at hbx ⊢
  have HBXLw92 : Aside (w9b2.heap[Lw92]? = some (.cells (recCells ({ plainV opnC with carrier := 1 })) 49 (0, 0))) := by have := hbx.2.1; rw [HQ1.out] at this; exact this
  have HBSLw92 : Aside (w9.heap.size ≤ Lw92 ∧ Lw92 < w9b2.heap.size) := ⟨by rw [hL]; exact HKu.out.size, by rw [hbx.2.2]; exact Nat.lt_succ_self _⟩
  have hkv : Keeps (fun k => k < w9b1.heap.size) w9b1 w9b2 := by have := hbx.1; rw [hL] at this; exact this
  have HBXLw90 := aside (whole_keeps HBXLw90.out hkv (whole_lt HBXLw90.out))
  have HBBLw90 := aside (whole_keeps HBBLw90.out hkv (whole_lt HBBLw90.out))
  have HBSLw90 : Aside (w9.heap.size ≤ Lw90 ∧ Lw90 + 1 < w9b2.heap.size) := ⟨HBSLw90.out.1, Nat.lt_of_lt_of_le HBSLw90.out.2 hkv.size⟩
  have HBXLw91 := aside (whole_keeps HBXLw91.out hkv (whole_lt HBXLw91.out))
  have HBBLw91 := aside (whole_keeps HBBLw91.out hkv (whole_lt HBBLw91.out))
  have HBSLw91 : Aside (w9.heap.size ≤ Lw91 ∧ Lw91 + 1 < w9b2.heap.size) := ⟨HBSLw91.out.1, Nat.lt_of_lt_of_le HBSLw91.out.2 hkv.size⟩
  have HKu : Aside (Keeps (fun k => k < w9.heap.size) w9 w9b2) := HKu.out.trans (hkv.mono fun k _ h => Nat.lt_of_lt_of_le h HKu.out.size)
  clear c5 f5 hbx hkv hw9b2 hL
  obtain ⟨F1, HK10, HC10, HFW1, HFC1, HFB1, HBB1⟩ : ∃ F1 : Nat → Prop, Aside (Kn F1 w9b2 3 w9b2 p s1) ∧ Aside (ChapAt b1 w9b2 g A B (2, 1, 50)) ∧ Aside (∀ k, k < w.heap.size → F1 k) ∧ Aside (F1 g ∧ F1 A ∧ F1 B) ∧ Aside ((F1 Lw90 ∧ F1 (Lw90 + 1)) ∧ (F1 Lw91 ∧ F1 (Lw91 + 1)) ∧ F1 Lw92) ∧ Aside (Below w.heap.size w w9b2) :=
    ⟨_, HK9.out.more HKu.out, HC8.out.keeps (HK9.out.keep.trans (HKu.out.mono fun k _ h => HK9.out.mo.small k h)) HFC.out.1 HFC.out.2.1 HFC.out.2.2, fun k hk => .inl (HFW.out k hk), ⟨.inl HFC.out.1, .inl HFC.out.2.1, .inl HFC.out.2.2⟩, ⟨⟨.inr ⟨HBSLw90.out.1, by have := HBSLw90.out.2; omega⟩, .inr ⟨by have := HBSLw90.out.1; omega, HBSLw90.out.2⟩⟩, ⟨.inr ⟨HBSLw91.out.1, by have := HBSLw91.out.2; omega⟩, .inr ⟨by have := HBSLw91.out.1; omega, HBSLw91.out.2⟩⟩, .inr HBSLw92.out⟩, below_trans_keeps HBB.out (HK9.out.keep.trans (HKu.out.mono fun k _ h => HK9.out.mo.small k h)) HFW.out⟩
  obtain ⟨w10, hw10⟩ : ∃ z, z = w9b2 := ⟨_, rfl⟩
  rw [← hw10] at HK10 HC10 HBB1 HBXLw90 HBBLw90 HBXLw91 HBBLw91 HBXLw92 ⊢
  clear hw10 HKu HK8 HK9 HC8 HFW HFC HBB HBSLw90 HBSLw91 HBSLw92 HA0 HA1 HA2 HA3 HA4 HA5 HR0 HR1 HR2 HR3 HR4 HR5
  have hR0 := HQ0.out
  have hR1 := HQ1.out
  have hR2 := HQ2.out
  have hR3 := HQ3.out
  have hR4 := HQ4.out
  have hR5 := HQ5.out
  have HR0 : Aside (∀ W, Keeps F1 w10 W → W.rangeAt g (0 * 49) R0.toList) := fun W hW => by rw [hR0]; exact chap_range (HC10.out.keeps hW HFC1.out.1 HFC1.out.2.1 HFC1.out.2.2) 0 (by decide)
  have HR1 : Aside (∀ W, Keeps F1 w10 W → W.rangeAt g (1 * 49) R1.toList) := fun W hW => by rw [hR1]; exact chap_range (HC10.out.keeps hW HFC1.out.1 HFC1.out.2.1 HFC1.out.2.2) 1 (by decide)
  have HR2 : Aside (∀ W, Keeps F1 w10 W → W.rangeAt g (2 * 49) R2.toList) := fun W hW => by rw [hR2]; exact chap_range (HC10.out.keeps hW HFC1.out.1 HFC1.out.2.1 HFC1.out.2.2) 2 (by decide)
  have HR3 : Aside (∀ W, Keeps F1 w10 W → W.rangeAt g (3 * 49) R3.toList) := fun W hW => by rw [hR3]; exact chap_range (HC10.out.keeps hW HFC1.out.1 HFC1.out.2.1 HFC1.out.2.2) 3 (by decide)
  have HR4 : Aside (∀ W, Keeps F1 w10 W → W.rangeAt g (4 * 49) R4.toList) := fun W hW => by rw [hR4]; exact chap_range (HC10.out.keeps hW HFC1.out.1 HFC1.out.2.1 HFC1.out.2.2) 4 (by decide)
  have HR5 : Aside (∀ W, Keeps F1 w10 W → W.rangeAt g (5 * 49) R5.toList) := fun W hW => by rw [hR5]; exact chap_range (HC10.out.keeps hW HFC1.out.1 HFC1.out.2.1 HFC1.out.2.2) 5 (by decide)
  have HA0 : Aside (ArgR F1 w10 R0 scnC) := by rw [hR0]; exact scn_arg HC10.out HFC1.out
  have HA1 : Aside (ArgR F1 w10 R1 opnC) := by rw [hR1]; exact plain_arg _ _ rfl rfl rfl opnC_ok (by decide)
  have HA2 : Aside (ArgR F1 w10 R2 comC) := by rw [hR2]; exact plain_arg _ _ rfl rfl rfl comC_ok (by decide)
  have HA3 : Aside (ArgR F1 w10 R3 comC1) := by rw [hR3]; exact plain_arg _ _ rfl rfl rfl comC1_ok (by decide)
  have HA4 : Aside (ArgR F1 w10 R4 revC) := by rw [hR4]; exact plain_arg _ _ rfl rfl rfl revC_ok (by decide)
  have HA5 : Aside (ArgR F1 w10 R5 (clsC (2, 1, 50))) := by rw [hR5]; exact plain_arg _ _ rfl rfl rfl (clsC_ok _ (by decide)) (by decide)
  clear hR0 hR1 hR2 hR3 hR4 hR5
  obtain ⟨Ra, hRa⟩ : ∃ R : Array Value, R = recCells (barV opnC (Lw90 + 1)) := ⟨_, rfl⟩
  have HZa : Aside ((Tryz.prog.info? 49).map (·.size) = some Ra.size) := by rw [Aside, hRa, recCells_size]; kernel_rfl
  rw [← hRa] at HBXLw90
  have HVa : Aside (∀ W, Keeps F1 w10 W → W.heap[Lw90]? = some (.cells Ra 49 (0, 0))) := fun W hW => whole_keeps HBXLw90.out hW HFB1.out.1.1
  have HAa : Aside (ArgR F1 w10 Ra (barD opnC 2)) := by rw [hRa]; exact bar_arg HBBLw90.out HFB1.out.1.2 rfl rfl ⟨List.length_replicate, rep_bs, by decide, by decide, by decide, by decide, by decide, by decide, by decide, by decide, by decide, by decide, by decide, by decide⟩ (by decide)
  clear hRa
  obtain ⟨Rb, hRb⟩ : ∃ R : Array Value, R = recCells (barV opnC (Lw91 + 1)) := ⟨_, rfl⟩
  have HZb : Aside ((Tryz.prog.info? 49).map (·.size) = some Rb.size) := by rw [Aside, hRb, recCells_size]; kernel_rfl
  rw [← hRb] at HBXLw91
  have HVb : Aside (∀ W, Keeps F1 w10 W → W.heap[Lw91]? = some (.cells Rb 49 (0, 0))) := fun W hW => whole_keeps HBXLw91.out hW HFB1.out.2.1.1
  have HAb : Aside (ArgR F1 w10 Rb (barD opnC 3)) := by rw [hRb]; exact bar_arg HBBLw91.out HFB1.out.2.1.2 rfl rfl ⟨List.length_replicate, rep_bs, by decide, by decide, by decide, by decide, by decide, by decide, by decide, by decide, by decide, by decide, by decide, by decide⟩ (by decide)
  clear hRb
  obtain ⟨Rc, hRc⟩ : ∃ R : Array Value, R = recCells ({ plainV opnC with carrier := 1 }) := ⟨_, rfl⟩
  have HZc : Aside ((Tryz.prog.info? 49).map (·.size) = some Rc.size) := by rw [Aside, hRc, recCells_size]; kernel_rfl
  rw [← hRc] at HBXLw92
  have HVc : Aside (∀ W, Keeps F1 w10 W → W.heap[Lw92]? = some (.cells Rc 49 (0, 0))) := fun W hW => whole_keeps HBXLw92.out hW HFB1.out.2.2
  have HAc : Aside (ArgR F1 w10 Rc { opnC with carrier := 1 }) := by rw [hRc]; exact (plain_arg _ _ (d := { opnC with carrier := 1 }) rfl rfl rfl ⟨List.length_replicate, rep_bs, by decide, by decide, by decide, by decide, by decide, by decide, by decide, by decide, by decide, by decide, by decide, by decide⟩ (by decide))
  clear hRc
  clear HBXLw90 HBBLw90 HBXLw91 HBBLw91 HBXLw92
  go_upto_region 17 with fail
  go_cut [143] (fun s wx => s = .bool false ∧ Aside (Kn F1 w10 8 wx p s2))
  case first =>
    --F
    as_aux_lemma =>
    go_wp2_with (first
      | (refine wpList_load_midG (by rfl) _ _ rfl Lw90 0 rfl _ _ (whole_range (HVa.out _ HK10.out.keep)) Tryz.underlying49 rfl (by rw [Array.length_toList]; exact HZa.out) Ra (Array.toArray_toList) ?_; try simp only [Act.put, ps])
      | fail)
    refine (HK10.out.take (by decide) HAa.out tk3).mono ?_
    rintro e n6 ⟨rfl, hk⟩
    have HN6 := aside hk
    clear hk 
    go_wp2_with (first
      | (refine wpList_load_midG (by rfl) _ _ rfl Lw91 0 rfl _ _ (whole_range (HVb.out _ HN6.out.keep)) Tryz.underlying49 rfl (by rw [Array.length_toList]; exact HZb.out) Rb (Array.toArray_toList) ?_; try simp only [Act.put, ps])
      | fail)
    refine (HN6.out.take (by decide) HAb.out tk4).mono ?_
    rintro e n7 ⟨rfl, hk⟩
    have HN7 := aside hk
    clear hk HN6
    go_wp2_with (first
      | (refine wpList_load_midG (by rfl) _ _ rfl Lw92 0 rfl _ _ (whole_range (HVc.out _ HN7.out.keep)) Tryz.underlying49 rfl (by rw [Array.length_toList]; exact HZc.out) Rc (Array.toArray_toList) ?_; try simp only [Act.put, ps])
      | fail)
    refine (HN7.out.take (by decide) HAc.out tk5).mono ?_
    rintro e n8 ⟨rfl, hk⟩
    have HN8 := aside hk
    clear hk HN7
    go_wp2_with (first
      | (refine wpList_load_midG (by rfl) _ _ rfl g (2 * 49) rfl _ _ (HR2.out _ HN8.out.keep) Tryz.underlying49 rfl HS2.out R2 (Array.toArray_toList) ?_; try simp only [Act.put, ps])
      | fail)
    refine (HN8.out.take (by decide) HA2.out tk6).mono ?_
    rintro e n9 ⟨rfl, hk⟩
    have HN9 := aside hk
    clear hk HN8
    go_wp2_with (first
      | (refine wpList_load_midG (by rfl) _ _ rfl g (1 * 49) rfl _ _ (HR1.out _ HN9.out.keep) Tryz.underlying49 rfl HS1.out R1 (Array.toArray_toList) ?_; try simp only [Act.put, ps])
      | fail)
    refine (HN9.out.take (by decide) HA1.out tk7).mono ?_
    rintro e n10 ⟨rfl, hk⟩
    have HN10 := aside hk
    clear hk HN9
    go_wp2_with fail
    refine (HN10.out.state 0 (by decide) 1 st20).mono ?_
    rintro e n11 ⟨rfl, hk⟩
    have HN11 := aside hk
    clear hk HN10
    go_wp2_with fail
    go_meet
    case rel => exact ⟨rfl, HN11.out⟩
    --E
  case rest =>
  as_aux_lemma =>
  obtain ⟨rfl, HK11⟩ := hcut
  obtain ⟨w11, hw11⟩ : ∃ z, z = wc := ⟨_, rfl⟩
  rw [← hw11] at HK11 ⊢
  clear hw11 wc
  go_upto_region 19 with fail
  obtain ⟨Z, hZ⟩ : ∃ R : Array Value, R = recCells {} := ⟨_, rfl⟩
  have HZZ := aside hZ
  have HZ1 : Aside (Z.size = 49) := by rw [hZ]; exact recCells_size _
  clear hZ
  go_cut [11, 12] (fun sa sb wx => ∃ La Lb : Nat, sa = .pointer (some ⟨La, 0, none⟩) ∧ sb = .pointer (some ⟨Lb, 0, none⟩) ∧ Aside (Two w11 R2 49 La Lb wx))
  case first =>
    --F
    as_aux_lemma =>
    obtain ⟨cp, hcp⟩ : ∃ c : List Value, R2 = c.toArray := ⟨R2.toList, by simp⟩
    have HCPR : Aside (∀ W, Keeps F1 w10 W → W.rangeAt g (0 + 98) cp) := fun W hW => by have := HR2.out W hW; rw [hcp] at this; exact this
    have hi3 : (Tryz.prog.info? 49).map (·.size) = some cp.length := by have := HS2.out; rw [hcp] at this; exact this
    have HCP2 := aside hcp
    clear hcp
    refine wp_region_held_drew (S := fun W => Keeps F1 w10 W) (by kernel_rfl) (HK11.out.keep.drew) (fun hHeld => ?_)
    refine wpAnyH_take (i := 0) (oi := _) (v := .slice (some ⟨g, 0, none⟩) 6 6) rfl (by kernel_rfl) (by kernel_rfl) (by kernel_rfl) (fun _ _ _ h => h) (Or.inl ⟨by rfl, ?_⟩) hHeld ?_
    · intro W hSw
      go_simp
    try simp only [Act.put, ps]
    refine wpAnyH_take (i := 1) (oi := _) (v := .pointer (some ⟨g, 0 + 98, none⟩)) rfl (by kernel_rfl) (by kernel_rfl) (by kernel_rfl) (fun _ _ _ h => h) (Or.inl ⟨by rfl, ?_⟩) hHeld ?_
    · intro W hSw
      go_simp
    try simp only [Act.put, ps]
    refine wpAnyH_take (i := 2) (oi := _) (v := .agg cp.toArray) rfl (by kernel_rfl) (by kernel_rfl) (by kernel_rfl) (fun _ _ _ h => h) (yieldsIf_load_mid (by rfl) 49 (.tmp 145) rfl g (0 + 98) rfl cp _ (fun W hW => HCPR.out W hW) Tryz.underlying49 rfl hi3) hHeld ?_
    try simp only [Act.put, ps]
    refine wpAnyH_take (i := 3) (oi := _) (v := .slice (some ⟨g, 0, none⟩) 6 6) rfl (by kernel_rfl) (by kernel_rfl) (by kernel_rfl) (fun _ _ _ h => h) (Or.inl ⟨by rfl, ?_⟩) hHeld ?_
    · intro W hSw
      go_simp
    try simp only [Act.put, ps]
    refine wpAnyH_take (i := 4) (oi := _) (v := .pointer (some ⟨g, 0 + 98, none⟩)) rfl (by kernel_rfl) (by kernel_rfl) (by kernel_rfl) (fun _ _ _ h => h) (Or.inl ⟨by rfl, ?_⟩) hHeld ?_
    · intro W hSw
      go_simp
    try simp only [Act.put, ps]
    refine wpAnyH_take (i := 5) (oi := _) (v := .agg cp.toArray) rfl (by kernel_rfl) (by kernel_rfl) (by kernel_rfl) (fun _ _ _ h => h) (yieldsIf_load_mid (by rfl) 49 (.tmp 148) rfl g (0 + 98) rfl cp _ (fun W hW => HCPR.out W hW) Tryz.underlying49 rfl hi3) hHeld ?_
    try simp only [Act.put, ps]
    obtain ⟨W0, hW0⟩ : ∃ z, z = w11.drew := ⟨_, rfl⟩
    have HT0 : Aside (TwoS w11 W0 none none 49) := by rw [hW0]; exact TwoS.start _ _
    rw [← hW0] at hHeld ⊢
    clear hW0
    have HZ2c : Aside ((Tryz.prog.info? 49).map (·.size) = some cp.toArray.size) := by rw [← HCP2.out]; exact HZ2.out
    refine wpAnyH_ready (rs := [6, 7]) (by kernel_rfl) (by simp) ?_
    refine AllReadyH.cons (o := _) rfl (fun K hK => ?_) (AllReadyH.cons (o := _) rfl (fun K hK => ?_) AllReadyH.nil)
    · refine step_run_by (w1 := W0.alloc (.cells Z 49)) rfl (.pointer (some ⟨W0.heap.size, 0, none⟩)) (alloc_rec _ _ rfl _ HZZ.out) ?_
      obtain ⟨W1, hW⟩ : ∃ z, z = W0.alloc (.cells Z 49) := ⟨_, rfl⟩
      obtain ⟨M1, hM⟩ : ∃ x, x = W0.heap.size := ⟨_, rfl⟩
      have HT1 := aside (HT0.out.newA Z hW hM)
      rw [← hW, ← hM]
      refine hK.out _ W1 (HK11.out.keep.trans (HT1.out.keep.mono fun k _ h => HK11.out.mo.small k h)) (fun hHeld => ?_)
      clear hK K hW hM
      try simp only [Act.put, ps]
      refine wpAnyH_ready (rs := [7]) (by kernel_rfl) (by simp) ?_
      refine AllReadyH.cons (o := _) rfl (fun K hK => ?_) AllReadyH.nil
      refine step_run_by (w1 := W1.alloc (.cells Z 49)) rfl (.pointer (some ⟨W1.heap.size, 0, none⟩)) (alloc_rec _ _ rfl _ HZZ.out) ?_
      obtain ⟨W2, hW⟩ : ∃ z, z = W1.alloc (.cells Z 49) := ⟨_, rfl⟩
      obtain ⟨M2, hM⟩ : ∃ x, x = W1.heap.size := ⟨_, rfl⟩
      have HT2 := aside (HT1.out.newB Z hW hM)
      rw [← hW, ← hM]
      refine hK.out _ W2 (HK11.out.keep.trans (HT2.out.keep.mono fun k _ h => HK11.out.mo.small k h)) (fun hHeld => ?_)
      clear hK K hW hM
      try simp only [Act.put, ps]
      refine wpAnyH_ready (rs := [8]) (by kernel_rfl) (by simp) ?_
      refine AllReadyH.cons (o := _) rfl (fun K hK => ?_) AllReadyH.nil
      refine step_store_row rfl 49 _ _ rfl M1 cp.toArray rfl rfl 49 Z (HT2.out.ina _ _ rfl).1 HZ2c.out (by rw [HZ1.out, ← HCP2.out]; exact HE2.out.1.symm) (by rw [← HCP2.out]; exact HE2.out.2) ?_
      obtain ⟨W3, hW⟩ : ∃ z, z = W2.setRow M1 cp.toArray := ⟨_, rfl⟩
      have HT3 := aside (HT2.out.putA cp.toArray hW)
      rw [← hW]
      refine hK.out _ W3 (HK11.out.keep.trans (HT3.out.keep.mono fun k _ h => HK11.out.mo.small k h)) (fun hHeld => ?_)
      clear hK K hW
      try simp only [Act.put, ps]
      refine wpAnyH_ready (rs := [9]) (by kernel_rfl) (by simp) ?_
      refine AllReadyH.cons (o := _) rfl (fun K hK => ?_) AllReadyH.nil
      refine step_store_row rfl 49 _ _ rfl M2 cp.toArray rfl rfl 49 Z (HT3.out.inb _ _ rfl).1 HZ2c.out (by rw [HZ1.out, ← HCP2.out]; exact HE2.out.1.symm) (by rw [← HCP2.out]; exact HE2.out.2) ?_
      obtain ⟨W4, hW⟩ : ∃ z, z = W3.setRow M2 cp.toArray := ⟨_, rfl⟩
      have HT4 := aside (HT3.out.putB cp.toArray hW)
      rw [← hW]
      refine hK.out _ W4 (HK11.out.keep.trans (HT4.out.keep.mono fun k _ h => HK11.out.mo.small k h)) (fun hHeld => ?_)
      clear hK K hW
      try simp only [Act.put, ps]
      refine wpAnyH_done (by kernel_rfl) ?_ _
      clear hHeld
      apply_assumption
      go_meet
      case rel => exact ⟨_, _, rfl, rfl, by rw [Aside, HCP2.out]; exact HT4.out.fin⟩
    · refine step_run_by (w1 := W0.alloc (.cells Z 49)) rfl (.pointer (some ⟨W0.heap.size, 0, none⟩)) (alloc_rec _ _ rfl _ HZZ.out) ?_
      obtain ⟨W5, hW⟩ : ∃ z, z = W0.alloc (.cells Z 49) := ⟨_, rfl⟩
      obtain ⟨M5, hM⟩ : ∃ x, x = W0.heap.size := ⟨_, rfl⟩
      have HT5 := aside (HT0.out.newB Z hW hM)
      rw [← hW, ← hM]
      refine hK.out _ W5 (HK11.out.keep.trans (HT5.out.keep.mono fun k _ h => HK11.out.mo.small k h)) (fun hHeld => ?_)
      clear hK K hW hM
      try simp only [Act.put, ps]
      refine wpAnyH_ready (rs := [6]) (by kernel_rfl) (by simp) ?_
      refine AllReadyH.cons (o := _) rfl (fun K hK => ?_) AllReadyH.nil
      refine step_run_by (w1 := W5.alloc (.cells Z 49)) rfl (.pointer (some ⟨W5.heap.size, 0, none⟩)) (alloc_rec _ _ rfl _ HZZ.out) ?_
      obtain ⟨W6, hW⟩ : ∃ z, z = W5.alloc (.cells Z 49) := ⟨_, rfl⟩
      obtain ⟨M6, hM⟩ : ∃ x, x = W5.heap.size := ⟨_, rfl⟩
      have HT6 := aside (HT5.out.newA Z hW hM)
      rw [← hW, ← hM]
      refine hK.out _ W6 (HK11.out.keep.trans (HT6.out.keep.mono fun k _ h => HK11.out.mo.small k h)) (fun hHeld => ?_)
      clear hK K hW hM
      try simp only [Act.put, ps]
      refine wpAnyH_ready (rs := [8]) (by kernel_rfl) (by simp) ?_
      refine AllReadyH.cons (o := _) rfl (fun K hK => ?_) AllReadyH.nil
      refine step_store_row rfl 49 _ _ rfl M6 cp.toArray rfl rfl 49 Z (HT6.out.ina _ _ rfl).1 HZ2c.out (by rw [HZ1.out, ← HCP2.out]; exact HE2.out.1.symm) (by rw [← HCP2.out]; exact HE2.out.2) ?_
      obtain ⟨W7, hW⟩ : ∃ z, z = W6.setRow M6 cp.toArray := ⟨_, rfl⟩
      have HT7 := aside (HT6.out.putA cp.toArray hW)
      rw [← hW]
      refine hK.out _ W7 (HK11.out.keep.trans (HT7.out.keep.mono fun k _ h => HK11.out.mo.small k h)) (fun hHeld => ?_)
      clear hK K hW
      try simp only [Act.put, ps]
      refine wpAnyH_ready (rs := [9]) (by kernel_rfl) (by simp) ?_
      refine AllReadyH.cons (o := _) rfl (fun K hK => ?_) AllReadyH.nil
      refine step_store_row rfl 49 _ _ rfl M5 cp.toArray rfl rfl 49 Z (HT7.out.inb _ _ rfl).1 HZ2c.out (by rw [HZ1.out, ← HCP2.out]; exact HE2.out.1.symm) (by rw [← HCP2.out]; exact HE2.out.2) ?_
      obtain ⟨W8, hW⟩ : ∃ z, z = W7.setRow M5 cp.toArray := ⟨_, rfl⟩
      have HT8 := aside (HT7.out.putB cp.toArray hW)
      rw [← hW]
      refine hK.out _ W8 (HK11.out.keep.trans (HT8.out.keep.mono fun k _ h => HK11.out.mo.small k h)) (fun hHeld => ?_)
      clear hK K hW
      try simp only [Act.put, ps]
      refine wpAnyH_done (by kernel_rfl) ?_ _
      clear hHeld
      apply_assumption
      go_meet
      case rel => exact ⟨_, _, rfl, rfl, by rw [Aside, HCP2.out]; exact HT8.out.fin⟩
    --E
  case rest =>
  as_aux_lemma =>
  obtain ⟨Lp, Lq, rfl, rfl, HTW⟩ := hcut
  obtain ⟨w12, hw12⟩ : ∃ z, z = wc := ⟨_, rfl⟩
  rw [← hw12] at HTW ⊢
  clear hw12 wc
  have HKt := aside HTW.out.keep
  have HLL : Aside (Lp ≠ Lq ∧ w11.heap.size ≤ Lp ∧ w11.heap.size ≤ Lq) := ⟨HTW.out.ne, HTW.out.a0, HTW.out.b0⟩
  have HBP := aside HTW.out.ina
  have HBQ := aside HTW.out.inb
  clear HTW
  have c5 : w12.cell? ⟨Lp, 3, none⟩ = some (.int .i64 0) := by rw [cell_whole HBP.out, HQ2.out]; rfl
  have f5 := frozen_whole HBP.out 3
  go_upto_region 21 with fail
  obtain ⟨w13, hw13⟩ : ∃ z, z = w12.setCell ⟨Lp, 3, none⟩ (.int .i64 2) := ⟨_, rfl⟩
  have hk13 : Keeps (· ≠ Lp) w12 w13 := by rw [hw13]; exact (Keeps.refl _ _).setCell (p := ⟨Lp, 3, none⟩) (.inr (fun h => h rfl)) _
  have HBP : Aside (w13.heap[Lp]? = some (.cells (recCells { plainV comC with carrier := 2 }) 49 (0, 0))) := by have := whole_set HBP.out 3 (.int .i64 2); rw [← hw13, HQ2.out] at this; exact this
  have HBQ := aside (whole_keeps HBQ.out hk13 HLL.out.1.symm)
  have HKt : Aside (Keeps (fun k => k < w11.heap.size) w11 w13) := HKt.out.trans (hk13.mono fun k _ h => by have := HLL.out.2.1; omega)
  rw [← hw13]
  clear hw13 hk13 c5 f5
  have c5 : w13.cell? ⟨Lq, 4, none⟩ = some (.int .i64 4) := by rw [cell_whole HBQ.out, HQ2.out]; rfl
  have f5 := frozen_whole HBQ.out 4
  go_upto_region 22 with fail
  obtain ⟨w14, hw14⟩ : ∃ z, z = w13.setCell ⟨Lq, 4, none⟩ (.int .i64 6) := ⟨_, rfl⟩
  have hk14 : Keeps (· ≠ Lq) w13 w14 := by rw [hw14]; exact (Keeps.refl _ _).setCell (p := ⟨Lq, 4, none⟩) (.inr (fun h => h rfl)) _
  have HBQ : Aside (w14.heap[Lq]? = some (.cells (recCells { plainV comC with tick := 6 }) 49 (0, 0))) := by have := whole_set HBQ.out 4 (.int .i64 6); rw [← hw14, HQ2.out] at this; exact this
  have HBP := aside (whole_keeps HBP.out hk14 HLL.out.1)
  have HKt : Aside (Keeps (fun k => k < w11.heap.size) w11 w14) := HKt.out.trans (hk14.mono fun k _ h => by have := HLL.out.2.2; omega)
  rw [← hw14]
  clear hw14 hk14 c5 f5
  obtain ⟨R7, hR7⟩ : ∃ R : Array Value, R = recCells (plainV end7) := ⟨_, rfl⟩
  have HQ7 := aside hR7
  have HB7 : Aside (∀ W : World, (Instr.build 49 #[(0, .int .i64 6), (4, .int .i64 7)]).run Tryz.prog W = .ok (.agg R7) W) := by rw [hR7]; intro W; kernel_rfl
  have HZ7 : Aside ((Tryz.prog.info? 49).map (·.size) = some R7.size) := by rw [Aside, hR7, recCells_size]; kernel_rfl
  have HE7 : Aside (R7.size = 49 ∧ R7.all (·.oneCell') = true) := by rw [hR7]; exact ⟨recCells_size _, recCells_one _ rfl rfl rfl⟩
  clear hR7
  have HKu : Aside (Keeps (fun k => k < w14.heap.size) w14 w14) := Keeps.refl _ _
  go_upto_region 23 with (first
    | (refine wpList_load_midG (by rfl) _ _ rfl g (4 * 49) rfl _ _ (HR4.out _ (HK11.out.keep.trans ((HKt.out.trans (HKu.out.mono fun k _ h => Nat.lt_of_lt_of_le h HKt.out.size)).mono fun k _ h => HK11.out.mo.small k h))) Tryz.underlying49 rfl HS4.out R4 (Array.toArray_toList) ?_; try simp only [Act.put, ps])
    | (refine wpList_store_row rfl _ _ _ rfl w14.heap.size R4 rfl rfl 49 _ (heap_new w14 _) HZ4.out HE4.out.1.symm HE4.out.2 ?_; rw [World.setRow_alloc_new])
    | fail)
  have c5 : (w14.alloc (.cells R4 49)).cell? ⟨w14.heap.size, 4, none⟩ = some (.int .i64 6) := by rw [cell_whole (heap_new w14 _), HQ4.out]; rfl
  have f5 := frozen_whole (heap_new w14 (.cells R4 49)) 4
  go_upto_region 24 with fail
  obtain ⟨w14b0, hw14b0⟩ : ∃ z, z = w14.alloc (.cells (R4.setIfInBounds 4 (.int .i64 5)) 49) := ⟨_, rfl⟩
  obtain ⟨Lw140, hL⟩ : ∃ x, x = w14.heap.size := ⟨_, rfl⟩
  have hbx := box_new w14 _ 49 w14b0 hw14b0
  rw [← hw14b0]
  rw [← hL] at hbx ⊢
  have HBXLw140 : Aside (w14b0.heap[Lw140]? = some (.cells (recCells ({ plainV revC with tick := 5 })) 49 (0, 0))) := by have := hbx.2.1; rw [HQ4.out] at this; exact this
  have HBSLw140 : Aside (w14.heap.size ≤ Lw140 ∧ Lw140 < w14b0.heap.size) := ⟨by rw [hL]; exact HKu.out.size, by rw [hbx.2.2]; exact Nat.lt_succ_self _⟩
  have hkv : Keeps (fun k => k < w14.heap.size) w14 w14b0 := by have := hbx.1; rw [hL] at this; exact this
  have HKu : Aside (Keeps (fun k => k < w14.heap.size) w14 w14b0) := HKu.out.trans (hkv.mono fun k _ h => Nat.lt_of_lt_of_le h HKu.out.size)
  clear c5 f5 hbx hkv hw14b0 hL
  go_upto_region 25 with (first
    | (refine wpList_build_by rfl 49 _ rfl [(0, .int .i64 6), (4, .int .i64 7)] rfl _ (HB7.out _) ?_; try simp only [Act.put, ps])
    | (refine wpList_store_row rfl _ _ _ rfl w14b0.heap.size R7 rfl rfl 49 _ (heap_new w14b0 _) HZ7.out HE7.out.1.symm HE7.out.2 ?_; rw [World.setRow_alloc_new])
    | fail)
  obtain ⟨w14b1, hw14b1⟩ : ∃ z, z = w14b0.alloc (.cells R7 49) := ⟨_, rfl⟩
  obtain ⟨Lw141, hL⟩ : ∃ x, x = w14b0.heap.size := ⟨_, rfl⟩
  have hbx := box_new w14b0 R7 49 w14b1 hw14b1
  rw [← hw14b1]
  rw [← hL] at hbx ⊢
  have HBXLw141 : Aside (w14b1.heap[Lw141]? = some (.cells R7 49 (0, 0))) := hbx.2.1
  have HBSLw141 : Aside (w14.heap.size ≤ Lw141 ∧ Lw141 < w14b1.heap.size) := ⟨by rw [hL]; exact HKu.out.size, by rw [hbx.2.2]; exact Nat.lt_succ_self _⟩
  have hkv : Keeps (fun k => k < w14b0.heap.size) w14b0 w14b1 := by have := hbx.1; rw [hL] at this; exact this
  have HBXLw140 := aside (whole_keeps HBXLw140.out hkv (whole_lt HBXLw140.out))
  have HBSLw140 : Aside (w14.heap.size ≤ Lw140 ∧ Lw140 < w14b1.heap.size) := ⟨HBSLw140.out.1, Nat.lt_of_lt_of_le HBSLw140.out.2 hkv.size⟩
  have HKu : Aside (Keeps (fun k => k < w14.heap.size) w14 w14b1) := HKu.out.trans (hkv.mono fun k _ h => Nat.lt_of_lt_of_le h HKu.out.size)
  clear hbx hkv hw14b1 hL
  have HBP := aside (whole_keeps HBP.out HKu.out (whole_lt HBP.out))
  have HBQ := aside (whole_keeps HBQ.out HKu.out (whole_lt HBQ.out))
  obtain ⟨w15, hw15⟩ : ∃ z, z = w14b1 := ⟨_, rfl⟩
  rw [← hw15] at HBP HBQ HBXLw140 HBXLw141 HKu ⊢
  have HKv : Aside (Keeps (fun k => k < w11.heap.size) w11 w15) := HKt.out.trans (HKu.out.mono fun k _ h => Nat.lt_of_lt_of_le h HKt.out.size)
  have HLX : Aside (w11.heap.size ≤ Lw140 ∧ w11.heap.size ≤ Lw141) := ⟨by have := HBSLw140.out.1; have := HKt.out.size; omega, by have := HBSLw141.out.1; have := HKt.out.size; omega⟩
  clear hw15 HBSLw140 HBSLw141 HKt HKu
  go_upto_region 25 with fail
  as_aux_lemma =>
  simp only [List.append]
  obtain ⟨F2, HK12, HC12, HFW2, HFC2, HFB2, HBB2⟩ : ∃ F2 : Nat → Prop, Aside (Kn F2 w15 8 w15 p s2) ∧ Aside (ChapAt b1 w15 g A B (2, 1, 50)) ∧ Aside (∀ k, k < w.heap.size → F2 k) ∧ Aside (F2 g ∧ F2 A ∧ F2 B) ∧ Aside (F2 Lp ∧ F2 Lq ∧ F2 Lw140 ∧ F2 Lw141) ∧ Aside (Below w.heap.size w w15) :=
    ⟨_, HK11.out.more HKv.out, HC10.out.keeps (HK11.out.keep.trans (HKv.out.mono fun k _ h => HK11.out.mo.small k h)) HFC1.out.1 HFC1.out.2.1 HFC1.out.2.2, fun k hk => .inl (HFW1.out k hk), ⟨.inl HFC1.out.1, .inl HFC1.out.2.1, .inl HFC1.out.2.2⟩, ⟨.inr ⟨HLL.out.2.1, whole_lt HBP.out⟩, .inr ⟨HLL.out.2.2, whole_lt HBQ.out⟩, .inr ⟨HLX.out.1, whole_lt HBXLw140.out⟩, .inr ⟨HLX.out.2, whole_lt HBXLw141.out⟩⟩, below_trans_keeps HBB1.out (HK11.out.keep.trans (HKv.out.mono fun k _ h => HK11.out.mo.small k h)) HFW1.out⟩
  clear HKv HLL HLX HA0 HA1 HA2 HA3 HA4 HA5 HR0 HR1 HR2 HR3 HR4 HR5 HK11 HK10 HC10 HFW1 HFC1 HFB1 HBB1
  have hR0 := HQ0.out
  have hR1 := HQ1.out
  have hR2 := HQ2.out
  have hR3 := HQ3.out
  have hR4 := HQ4.out
  have hR5 := HQ5.out
  have HR0 : Aside (∀ W, Keeps F2 w15 W → W.rangeAt g (0 * 49) R0.toList) := fun W hW => by rw [hR0]; exact chap_range (HC12.out.keeps hW HFC2.out.1 HFC2.out.2.1 HFC2.out.2.2) 0 (by decide)
  have HR1 : Aside (∀ W, Keeps F2 w15 W → W.rangeAt g (1 * 49) R1.toList) := fun W hW => by rw [hR1]; exact chap_range (HC12.out.keeps hW HFC2.out.1 HFC2.out.2.1 HFC2.out.2.2) 1 (by decide)
  have HR2 : Aside (∀ W, Keeps F2 w15 W → W.rangeAt g (2 * 49) R2.toList) := fun W hW => by rw [hR2]; exact chap_range (HC12.out.keeps hW HFC2.out.1 HFC2.out.2.1 HFC2.out.2.2) 2 (by decide)
  have HR3 : Aside (∀ W, Keeps F2 w15 W → W.rangeAt g (3 * 49) R3.toList) := fun W hW => by rw [hR3]; exact chap_range (HC12.out.keeps hW HFC2.out.1 HFC2.out.2.1 HFC2.out.2.2) 3 (by decide)
  have HR4 : Aside (∀ W, Keeps F2 w15 W → W.rangeAt g (4 * 49) R4.toList) := fun W hW => by rw [hR4]; exact chap_range (HC12.out.keeps hW HFC2.out.1 HFC2.out.2.1 HFC2.out.2.2) 4 (by decide)
  have HR5 : Aside (∀ W, Keeps F2 w15 W → W.rangeAt g (5 * 49) R5.toList) := fun W hW => by rw [hR5]; exact chap_range (HC12.out.keeps hW HFC2.out.1 HFC2.out.2.1 HFC2.out.2.2) 5 (by decide)
  have HA0 : Aside (ArgR F2 w15 R0 scnC) := by rw [hR0]; exact scn_arg HC12.out HFC2.out
  have HA1 : Aside (ArgR F2 w15 R1 opnC) := by rw [hR1]; exact plain_arg _ _ rfl rfl rfl opnC_ok (by decide)
  have HA2 : Aside (ArgR F2 w15 R2 comC) := by rw [hR2]; exact plain_arg _ _ rfl rfl rfl comC_ok (by decide)
  have HA3 : Aside (ArgR F2 w15 R3 comC1) := by rw [hR3]; exact plain_arg _ _ rfl rfl rfl comC1_ok (by decide)
  have HA4 : Aside (ArgR F2 w15 R4 revC) := by rw [hR4]; exact plain_arg _ _ rfl rfl rfl revC_ok (by decide)
  have HA5 : Aside (ArgR F2 w15 R5 (clsC (2, 1, 50))) := by rw [hR5]; exact plain_arg _ _ rfl rfl rfl (clsC_ok _ (by decide)) (by decide)
  clear hR0 hR1 hR2 hR3 hR4 hR5
  obtain ⟨Rp, hRp⟩ : ∃ R : Array Value, R = recCells ({ plainV comC with carrier := 2 }) := ⟨_, rfl⟩
  have HZp : Aside ((Tryz.prog.info? 49).map (·.size) = some Rp.size) := by rw [Aside, hRp, recCells_size]; kernel_rfl
  rw [← hRp] at HBP
  have HVp : Aside (∀ W, Keeps F2 w15 W → W.heap[Lp]? = some (.cells Rp 49 (0, 0))) := fun W hW => whole_keeps HBP.out hW HFB2.out.1
  have HAp : Aside (ArgR F2 w15 Rp { comC with carrier := 2 }) := by rw [hRp]; exact (plain_arg _ _ (d := { comC with carrier := 2 }) rfl rfl rfl ⟨List.length_replicate, rep_bs, by decide, by decide, by decide, by decide, by decide, by decide, by decide, by decide, by decide, by decide, by decide, by decide⟩ (by decide))
  clear hRp HBP
  obtain ⟨Rq, hRq⟩ : ∃ R : Array Value, R = recCells ({ plainV comC with tick := 6 }) := ⟨_, rfl⟩
  have HZq : Aside ((Tryz.prog.info? 49).map (·.size) = some Rq.size) := by rw [Aside, hRq, recCells_size]; kernel_rfl
  rw [← hRq] at HBQ
  have HVq : Aside (∀ W, Keeps F2 w15 W → W.heap[Lq]? = some (.cells Rq 49 (0, 0))) := fun W hW => whole_keeps HBQ.out hW HFB2.out.2.1
  have HAq : Aside (ArgR F2 w15 Rq { comC with tick := 6 }) := by rw [hRq]; exact (plain_arg _ _ (d := { comC with tick := 6 }) rfl rfl rfl ⟨List.length_replicate, rep_bs, by decide, by decide, by decide, by decide, by decide, by decide, by decide, by decide, by decide, by decide, by decide, by decide⟩ (by decide))
  clear hRq HBQ
  obtain ⟨Rr, hRr⟩ : ∃ R : Array Value, R = recCells ({ plainV revC with tick := 5 }) := ⟨_, rfl⟩
  have HZr : Aside ((Tryz.prog.info? 49).map (·.size) = some Rr.size) := by rw [Aside, hRr, recCells_size]; kernel_rfl
  rw [← hRr] at HBXLw140
  have HVr : Aside (∀ W, Keeps F2 w15 W → W.heap[Lw140]? = some (.cells Rr 49 (0, 0))) := fun W hW => whole_keeps HBXLw140.out hW HFB2.out.2.2.1
  have HAr : Aside (ArgR F2 w15 Rr { revC with tick := 5 }) := by rw [hRr]; exact (plain_arg _ _ (d := { revC with tick := 5 }) rfl rfl rfl ⟨List.length_replicate, rep_bs, by decide, by decide, by decide, by decide, by decide, by decide, by decide, by decide, by decide, by decide, by decide, by decide⟩ (by decide))
  clear hRr HBXLw140
  have HVe : Aside (∀ W, Keeps F2 w15 W → W.heap[Lw141]? = some (.cells R7 49 (0, 0))) := fun W hW => whole_keeps HBXLw141.out hW HFB2.out.2.2.2
  have HAe : Aside (ArgR F2 w15 R7 end7) := by rw [HQ7.out]; exact (plain_arg _ _ (d := end7) rfl rfl rfl ⟨List.length_replicate, rep_bs, by decide, by decide, by decide, by decide, by decide, by decide, by decide, by decide, by decide, by decide, by decide, by decide⟩ (by decide))
  clear HBXLw141
  go_wp2_with (first
    | (refine wpList_load_midG (by rfl) _ _ rfl Lp 0 rfl _ _ (whole_range (HVp.out _ HK12.out.keep)) Tryz.underlying49 rfl (by rw [Array.length_toList]; exact HZp.out) Rp (Array.toArray_toList) ?_; try simp only [Act.put, ps])
    | fail)
  refine (HK12.out.take (by decide) HAp.out tk8).mono ?_
  rintro e n12 ⟨rfl, hk⟩
  have HN12 := aside hk
  clear hk 
  go_wp2_with (first
    | (refine wpList_load_midG (by rfl) _ _ rfl Lq 0 rfl _ _ (whole_range (HVq.out _ HN12.out.keep)) Tryz.underlying49 rfl (by rw [Array.length_toList]; exact HZq.out) Rq (Array.toArray_toList) ?_; try simp only [Act.put, ps])
    | fail)
  refine (HN12.out.take (by decide) HAq.out tk9).mono ?_
  rintro e n13 ⟨rfl, hk⟩
  have HN13 := aside hk
  clear hk HN12
  go_wp2_with (first
    | (refine wpList_load_midG (by rfl) _ _ rfl g (3 * 49) rfl _ _ (HR3.out _ HN13.out.keep) Tryz.underlying49 rfl HS3.out R3 (Array.toArray_toList) ?_; try simp only [Act.put, ps])
    | fail)
  refine (HN13.out.take (by decide) HA3.out tk10).mono ?_
  rintro e n14 ⟨rfl, hk⟩
  have HN14 := aside hk
  clear hk HN13
  go_wp2_with (first
    | (refine wpList_load_midG (by rfl) _ _ rfl g (2 * 49) rfl _ _ (HR2.out _ HN14.out.keep) Tryz.underlying49 rfl HS2.out R2 (Array.toArray_toList) ?_; try simp only [Act.put, ps])
    | fail)
  refine (HN14.out.take (by decide) HA2.out tk11).mono ?_
  rintro e n15 ⟨rfl, hk⟩
  have HN15 := aside hk
  clear hk HN14
  go_wp2_with (first
    | (refine wpList_load_midG (by rfl) _ _ rfl Lw140 0 rfl _ _ (whole_range (HVr.out _ HN15.out.keep)) Tryz.underlying49 rfl (by rw [Array.length_toList]; exact HZr.out) Rr (Array.toArray_toList) ?_; try simp only [Act.put, ps])
    | fail)
  refine (HN15.out.take (by decide) HAr.out tk12).mono ?_
  rintro e n16 ⟨rfl, hk⟩
  have HN16 := aside hk
  clear hk HN15
  go_wp2_with (first
    | (refine wpList_load_midG (by rfl) _ _ rfl Lw141 0 rfl _ _ (whole_range (HVe.out _ HN16.out.keep)) Tryz.underlying49 rfl (by rw [Array.length_toList]; exact HZ7.out) R7 (Array.toArray_toList) ?_; try simp only [Act.put, ps])
    | fail)
  refine (HN16.out.take (by decide) HAe.out tk13).mono ?_
  rintro e n17 ⟨rfl, hk⟩
  have HN17 := aside hk
  clear hk HN16
  go_wp2_with (first
    | (refine wpList_load_midG (by rfl) _ _ rfl g (4 * 49) rfl _ _ (HR4.out _ HN17.out.keep) Tryz.underlying49 rfl HS4.out R4 (Array.toArray_toList) ?_; try simp only [Act.put, ps])
    | fail)
  refine (HN17.out.take (by decide) HA4.out tk14).mono ?_
  rintro e n18 ⟨rfl, hk⟩
  have HN18 := aside hk
  clear hk HN17
  go_wp2_with (first
    | (refine wpList_load_midG (by rfl) _ _ rfl g (5 * 49) rfl _ _ (HR5.out _ HN18.out.keep) Tryz.underlying49 rfl HS5.out R5 (Array.toArray_toList) ?_; try simp only [Act.put, ps])
    | fail)
  refine (HN18.out.take (by decide) HA5.out tk15).mono ?_
  rintro e n19 ⟨rfl, hk⟩
  have HN19 := aside hk
  clear hk HN18
  go_wp2_with fail
  refine (HN19.out.state 0 (by decide) 2 st50).mono ?_
  rintro e n20 ⟨rfl, hk⟩
  have HN20 := aside hk
  clear hk HN19
  go_wp2_with (first
    | (refine wpList_load_midG (by rfl) _ _ rfl Lw141 0 rfl _ _ (whole_range (HVe.out _ HN20.out.keep)) Tryz.underlying49 rfl (by rw [Array.length_toList]; exact HZ7.out) R7 (Array.toArray_toList) ?_; try simp only [Act.put, ps])
    | fail)
  refine (HN20.out.take (by decide) HAe.out tk16).mono ?_
  rintro e n21 ⟨rfl, hk⟩
  have HN21 := aside hk
  clear hk HN20
  go_wp2_with fail
  refine (HN21.out.ended true en6).mono ?_
  rintro e n22 ⟨rfl, hk⟩
  have HN22 := aside hk
  clear hk HN21
  go_wp2_with (first
    | (refine wpList_load_midG (by rfl) _ _ rfl Lw141 0 rfl _ _ (whole_range (HVe.out _ HN22.out.keep)) Tryz.underlying49 rfl (by rw [Array.length_toList]; exact HZ7.out) R7 (Array.toArray_toList) ?_; try simp only [Act.put, ps])
    | fail)
  refine (HN22.out.take (by decide) HAe.out tk17).mono ?_
  rintro e n23 ⟨rfl, hk⟩
  have HN23 := aside hk
  clear hk HN22
  go_upto_region 27 with fail
  as_aux_lemma =>
  obtain ⟨w16, hw16⟩ : ∃ z, z = n23 := ⟨_, rfl⟩
  rw [← hw16] at HN23 ⊢
  have HC16 : Aside (ChapAt b1 w16 g A B (2, 1, 50)) := HC12.out.keeps HN23.out.keep HFC2.out.1 HFC2.out.2.1 HFC2.out.2.2
  have HBB16 : Aside (Below w.heap.size w w16) := below_trans_keeps HBB2.out HN23.out.keep HFW2.out
  clear hw16 HN23 n23 HK12 HC12 HFW2 HFC2 HFB2 HBB2 HA0 HA1 HA2 HA3 HA4 HA5 HR0 HR1 HR2 HR3 HR4 HR5 HVp HVq HVr HVe HAp HAq HAr HAe HZp HZq HZr HB7 HZ7 HE7 HQ7
  have HR0 : Aside (∀ W, Keeps (fun k => k < w16.heap.size) w16 W → W.rangeAt g (0 * 49) R0.toList) := fun W hW => by rw [HQ0.out]; exact chap_range (HC16.out.keeps hW (whole_lt HC16.out.row) (whole_lt HC16.out.lots) (whole_lt HC16.out.owners)) 0 (by decide)
  have HKu : Aside (Keeps (fun k => k < w16.heap.size) w16 w16) := Keeps.refl _ _
  go_upto_region 28 with (first
    | (refine wpList_load_midG (by rfl) _ _ rfl g (0 * 49) rfl _ _ (HR0.out _ HKu.out) Tryz.underlying49 rfl HS0.out R0 (Array.toArray_toList) ?_; try simp only [Act.put, ps])
    | (refine wpList_store_row rfl _ _ _ rfl w16.heap.size R0 rfl rfl 49 _ (heap_new w16 _) HZ0.out HE0.out.1.symm HE0.out.2 ?_; rw [World.setRow_alloc_new])
    | fail)
  have c5 : ((w16.alloc (.cells R0 49)).alloc (.cells #[.int .i64 0, .int .i64 1, .int .i64 1, .int .i64 2] 63)).cell? ⟨w16.heap.size, 47, none⟩ = some (.slice (some ⟨A, 0, none⟩) 1 1) := by rw [cell_whole (whole_new (heap_new w16 _) (new_alloc _ _)), HQ0.out]; rfl
  have f5 := frozen_whole (whole_new (heap_new w16 (.cells R0 49)) (new_alloc _ (.cells #[.int .i64 0, .int .i64 1, .int .i64 1, .int .i64 2] 63))) 47
  go_upto_region 29 with fail
  obtain ⟨w16b0, hw16b0⟩ : ∃ z, z = (w16.alloc (.cells (R0.setIfInBounds 47 (.slice (some ⟨w16.heap.size + 1, 0, none⟩) 2 2)) 49)).alloc (.cells #[.int .i64 0, .int .i64 1, .int .i64 1, .int .i64 2] 63) := ⟨_, rfl⟩
  obtain ⟨Lw160, hL⟩ : ∃ x, x = w16.heap.size := ⟨_, rfl⟩
  have hbx := box_put w16 _ #[.int .i64 0, .int .i64 1, .int .i64 1, .int .i64 2] 49 63 w16b0 hw16b0
  rw [← hw16b0]
  rw [← hL] at hbx ⊢
  have HBXLw160 : Aside (w16b0.heap[Lw160]? = some (.cells (recCells (twoV (Lw160 + 1) B)) 49 (0, 0))) := by have := hbx.2.1; rw [HQ0.out] at this; exact this
  have HBBLw160 : Aside (w16b0.heap[Lw160 + 1]? = some (.cells #[.int .i64 0, .int .i64 1, .int .i64 1, .int .i64 2] 63 (0, 0))) := hbx.2.2.1
  have HBSLw160 : Aside (w16.heap.size ≤ Lw160 ∧ Lw160 + 1 < w16b0.heap.size) := ⟨by rw [hL]; exact HKu.out.size, by rw [hbx.2.2.2]; exact Nat.lt_succ_self _⟩
  have hkv : Keeps (fun k => k < w16.heap.size) w16 w16b0 := by have := hbx.1; rw [hL] at this; exact this
  have HKu : Aside (Keeps (fun k => k < w16.heap.size) w16 w16b0) := HKu.out.trans (hkv.mono fun k _ h => Nat.lt_of_lt_of_le h HKu.out.size)
  clear c5 f5 hbx hkv hw16b0 hL
  have HBB17 : Aside (Below w.heap.size w w16b0) := below_trans_keeps HBB16.out HKu.out (fun k hk => Nat.lt_of_lt_of_le hk HBB16.out.size)
  have HC17 := aside (HC16.out.keeps HKu.out (whole_lt HC16.out.row) (whole_lt HC16.out.lots) (whole_lt HC16.out.owners))
  clear HKu HBSLw160 HC16 HBB16 HR0
  go_wp2_with fail
  refine (new_mod w16b0).mono ?_
  rintro e w18 ⟨rfl, hw18⟩
  obtain ⟨p2, F3, hp2, HK18, HC18, HFW3, HFC3, HBB18, HBT, HFT, HBU⟩ : ∃ (p2 : Nat) (F3 : Nat → Prop), p2 = w16b0.heap.size ∧ Aside (Kn F3 w18 0 w18 p2 {}) ∧ Aside (ChapAt b1 w18 g A B (2, 1, 50)) ∧ Aside (∀ k, k < w.heap.size → F3 k) ∧ Aside (F3 g ∧ F3 A ∧ F3 B) ∧ Aside (Below w.heap.size w w18) ∧ Aside (w18.heap[Lw160]? = some (.cells (recCells (twoV (Lw160 + 1) B)) 49 (0, 0))) ∧ Aside (F3 Lw160 ∧ F3 (Lw160 + 1)) ∧ Aside (w18.heap[Lw160 + 1]? = some (.cells #[.int .i64 0, .int .i64 1, .int .i64 1, .int .i64 2] 63 (0, 0))) := by
    have hb : Below w16b0.heap.size w16b0 w18 := by rw [hw18]; exact new_alloc _ _
    exact ⟨_, (· < w16b0.heap.size), rfl, Kn.made hw18, HC17.out.new hb, fun k hk => Nat.lt_of_lt_of_le hk HBB17.out.size, ⟨whole_lt HC17.out.row, whole_lt HC17.out.lots, whole_lt HC17.out.owners⟩, st_new w _ _ HBB17.out hb, whole_new HBXLw160.out hb, ⟨whole_lt HBXLw160.out, whole_lt HBBLw160.out⟩, whole_new HBBLw160.out hb⟩
  rw [← hp2]
  clear hp2 hw18 HBB17 HC17 HBXLw160 HBBLw160
  obtain ⟨Rt, hRt⟩ : ∃ R : Array Value, R = recCells (twoV (Lw160 + 1) B) := ⟨_, rfl⟩
  have HZt : Aside ((Tryz.prog.info? 49).map (·.size) = some Rt.size) := by rw [Aside, hRt, recCells_size]; kernel_rfl
  rw [← hRt] at HBT
  have HVt : Aside (∀ W, Keeps F3 w18 W → W.heap[Lw160]? = some (.cells Rt 49 (0, 0))) := fun W hW => whole_keeps HBT.out hW HFT.out.1
  have HAt : Aside (ArgR F3 w18 Rt twoD) := by rw [hRt]; exact two_arg HBU.out HC18.out.owners ⟨HFT.out.2, HFC3.out.2.2⟩
  clear hRt HBT HBU
  go_wp2_with (first
    | (refine wpList_load_midG (by rfl) _ _ rfl Lw160 0 rfl _ _ (whole_range (HVt.out _ HK18.out.keep)) Tryz.underlying49 rfl (by rw [Array.length_toList]; exact HZt.out) Rt (Array.toArray_toList) ?_; try simp only [Act.put, ps])
    | fail)
  refine (HK18.out.take (by decide) HAt.out tk18).mono ?_
  rintro e n24 ⟨rfl, hk⟩
  have HN24 := aside hk
  clear hk 
  obtain ⟨w19, hw19⟩ : ∃ z, z = n24 := ⟨_, rfl⟩
  rw [← hw19] at HN24 ⊢
  clear hw19 n24 HVt HAt HZt
  obtain ⟨Rs, hRs⟩ : ∃ R : Array Value, R = recCells (plainV opn1) := ⟨_, rfl⟩
  have HQs := aside hRs
  have HBs : Aside (∀ W : World, (Instr.build 49 #[(0, .int .i64 2), (2, .int .i64 1), (4, .int .i64 1)]).run Tryz.prog W = .ok (.agg Rs) W) := by rw [hRs]; intro W; kernel_rfl
  have HZs : Aside ((Tryz.prog.info? 49).map (·.size) = some Rs.size) := by rw [Aside, hRs, recCells_size]; kernel_rfl
  have HEs : Aside (Rs.size = 49 ∧ Rs.all (·.oneCell') = true) := by rw [hRs]; exact ⟨recCells_size _, recCells_one _ rfl rfl rfl⟩
  clear hRs
  have HKu : Aside (Keeps (fun k => k < w19.heap.size) w19 w19) := Keeps.refl _ _
  go_upto_region 33 with (first
    | (refine wpList_build_by rfl 49 _ rfl [(0, .int .i64 2), (2, .int .i64 1), (4, .int .i64 1)] rfl _ (HBs.out _) ?_; try simp only [Act.put, ps])
    | (refine wpList_store_row rfl _ _ _ rfl w19.heap.size Rs rfl rfl 49 _ (heap_new w19 _) HZs.out HEs.out.1.symm HEs.out.2 ?_; rw [World.setRow_alloc_new])
    | fail)
  obtain ⟨w19b0, hw19b0⟩ : ∃ z, z = w19.alloc (.cells Rs 49) := ⟨_, rfl⟩
  obtain ⟨Lw190, hL⟩ : ∃ x, x = w19.heap.size := ⟨_, rfl⟩
  have hbx := box_new w19 Rs 49 w19b0 hw19b0
  rw [← hw19b0]
  rw [← hL] at hbx ⊢
  have HBXLw190 : Aside (w19b0.heap[Lw190]? = some (.cells Rs 49 (0, 0))) := hbx.2.1
  have HBSLw190 : Aside (w19.heap.size ≤ Lw190 ∧ Lw190 < w19b0.heap.size) := ⟨by rw [hL]; exact HKu.out.size, by rw [hbx.2.2]; exact Nat.lt_succ_self _⟩
  have hkv : Keeps (fun k => k < w19.heap.size) w19 w19b0 := by have := hbx.1; rw [hL] at this; exact this
  have HKu : Aside (Keeps (fun k => k < w19.heap.size) w19 w19b0) := HKu.out.trans (hkv.mono fun k _ h => Nat.lt_of_lt_of_le h HKu.out.size)
  clear hbx hkv hw19b0 hL
  go_upto_region 34 with (first
    | (refine wpList_load_row (by rfl) _ _ rfl Lw190 rfl _ Rs (0, 0) _ HBXLw190.out Tryz.underlying49 rfl HZs.out ?_; try simp only [Act.put, ps])
    | (refine wpList_store_row rfl _ _ _ rfl w19b0.heap.size Rs rfl rfl 49 _ (heap_new w19b0 _) HZs.out HEs.out.1.symm HEs.out.2 ?_; rw [World.setRow_alloc_new])
    | fail)
  have c5 : ((w19b0.alloc (.cells Rs 49)).alloc (.cells #[.int .i64 0] 3)).cell? ⟨w19b0.heap.size, 5, none⟩ = some (.slice none 0 0) := by rw [cell_whole (whole_new (heap_new w19b0 _) (new_alloc _ _)), HQs.out]; rfl
  have f5 := frozen_whole (whole_new (heap_new w19b0 (.cells Rs 49)) (new_alloc _ (.cells #[.int .i64 0] 3))) 5
  go_upto_region 35 with fail
  obtain ⟨w19b1, hw19b1⟩ : ∃ z, z = (w19b0.alloc (.cells (Rs.setIfInBounds 5 (.slice (some ⟨w19b0.heap.size + 1, 0, none⟩) 1 1)) 49)).alloc (.cells #[.int .i64 0] 3) := ⟨_, rfl⟩
  obtain ⟨Lw191, hL⟩ : ∃ x, x = w19b0.heap.size := ⟨_, rfl⟩
  have hbx := box_put w19b0 _ #[.int .i64 0] 49 3 w19b1 hw19b1
  rw [← hw19b1]
  rw [← hL] at hbx ⊢
  have HBXLw191 : Aside (w19b1.heap[Lw191]? = some (.cells (recCells (barV opn1 (Lw191 + 1))) 49 (0, 0))) := by have := hbx.2.1; rw [HQs.out] at this; exact this
  have HBBLw191 : Aside (w19b1.heap[Lw191 + 1]? = some (.cells #[.int .i64 0] 3 (0, 0))) := hbx.2.2.1
  have HBSLw191 : Aside (w19.heap.size ≤ Lw191 ∧ Lw191 + 1 < w19b1.heap.size) := ⟨by rw [hL]; exact HKu.out.size, by rw [hbx.2.2.2]; exact Nat.lt_succ_self _⟩
  have hkv : Keeps (fun k => k < w19b0.heap.size) w19b0 w19b1 := by have := hbx.1; rw [hL] at this; exact this
  have HBXLw190 := aside (whole_keeps HBXLw190.out hkv (whole_lt HBXLw190.out))
  have HBSLw190 : Aside (w19.heap.size ≤ Lw190 ∧ Lw190 < w19b1.heap.size) := ⟨HBSLw190.out.1, Nat.lt_of_lt_of_le HBSLw190.out.2 hkv.size⟩
  have HKu : Aside (Keeps (fun k => k < w19.heap.size) w19 w19b1) := HKu.out.trans (hkv.mono fun k _ h => Nat.lt_of_lt_of_le h HKu.out.size)
  clear c5 f5 hbx hkv hw19b1 hL
  obtain ⟨F4, HK20, HC20, HFW4, HFC4, HFB4, HBB20⟩ : ∃ F4 : Nat → Prop, Aside (Kn F4 w19b1 1 w19b1 p2 k1) ∧ Aside (ChapAt b1 w19b1 g A B (2, 1, 50)) ∧ Aside (∀ k, k < w.heap.size → F4 k) ∧ Aside (F4 g ∧ F4 A ∧ F4 B) ∧ Aside (F4 Lw190 ∧ F4 Lw191 ∧ F4 (Lw191 + 1)) ∧ Aside (Below w.heap.size w w19b1) :=
    ⟨_, HN24.out.more HKu.out, HC18.out.keeps (HN24.out.keep.trans (HKu.out.mono fun k _ h => HN24.out.mo.small k h)) HFC3.out.1 HFC3.out.2.1 HFC3.out.2.2, fun k hk => .inl (HFW3.out k hk), ⟨.inl HFC3.out.1, .inl HFC3.out.2.1, .inl HFC3.out.2.2⟩, ⟨.inr HBSLw190.out, .inr ⟨HBSLw191.out.1, by have := HBSLw191.out.2; omega⟩, .inr ⟨by have := HBSLw191.out.1; omega, HBSLw191.out.2⟩⟩, below_trans_keeps HBB18.out (HN24.out.keep.trans (HKu.out.mono fun k _ h => HN24.out.mo.small k h)) HFW3.out⟩
  obtain ⟨w20, hw20⟩ : ∃ z, z = w19b1 := ⟨_, rfl⟩
  rw [← hw20] at HK20 HC20 HBB20 HBXLw190 HBXLw191 HBBLw191 ⊢
  clear hw20 HKu HN24 HK18 HC18 HFW3 HFC3 HBB18 HFT HBSLw190 HBSLw191
  have HVs : Aside (∀ W, Keeps F4 w20 W → W.heap[Lw190]? = some (.cells Rs 49 (0, 0))) := fun W hW => whole_keeps HBXLw190.out hW HFB4.out.1
  have HAs : Aside (ArgR F4 w20 Rs opn1) := by rw [HQs.out]; exact (plain_arg _ _ (d := opn1) rfl rfl rfl ⟨List.length_replicate, rep_bs, by decide, by decide, by decide, by decide, by decide, by decide, by decide, by decide, by decide, by decide, by decide, by decide⟩ (by decide))
  obtain ⟨Ru, hRu⟩ : ∃ R : Array Value, R = recCells (barV opn1 (Lw191 + 1)) := ⟨_, rfl⟩
  have HZu : Aside ((Tryz.prog.info? 49).map (·.size) = some Ru.size) := by rw [Aside, hRu, recCells_size]; kernel_rfl
  rw [← hRu] at HBXLw191
  have HVu : Aside (∀ W, Keeps F4 w20 W → W.heap[Lw191]? = some (.cells Ru 49 (0, 0))) := fun W hW => whole_keeps HBXLw191.out hW HFB4.out.2.1
  have HAu : Aside (ArgR F4 w20 Ru (barD opn1 0)) := by rw [hRu]; exact bar_arg HBBLw191.out HFB4.out.2.2 rfl rfl ⟨List.length_replicate, rep_bs, by decide, by decide, by decide, by decide, by decide, by decide, by decide, by decide, by decide, by decide, by decide, by decide⟩ (by decide)
  clear hRu HBXLw190 HBXLw191 HBBLw191
  have HR0 : Aside (∀ W, Keeps F4 w20 W → W.rangeAt g (0 * 49) R0.toList) := fun W hW => by rw [HQ0.out]; exact chap_range (HC20.out.keeps hW HFC4.out.1 HFC4.out.2.1 HFC4.out.2.2) 0 (by decide)
  obtain ⟨R9, hR9⟩ : ∃ R : Array Value, R = recCells (plainV end3) := ⟨_, rfl⟩
  have HB9 : Aside (∀ W : World, (Instr.build 49 #[(0, .int .i64 6), (4, .int .i64 3)]).run Tryz.prog W = .ok (.agg R9) W) := by rw [hR9]; intro W; kernel_rfl
  have HA9 : Aside (ArgR F4 w20 R9 end3) := by rw [hR9]; exact (plain_arg _ _ (d := end3) rfl rfl rfl ⟨List.length_replicate, rep_bs, by decide, by decide, by decide, by decide, by decide, by decide, by decide, by decide, by decide, by decide, by decide, by decide⟩ (by decide))
  clear hR9
  go_wp2_with (first
    | (refine wpList_load_midG (by rfl) _ _ rfl Lw190 0 rfl _ _ (whole_range (HVs.out _ HK20.out.keep)) Tryz.underlying49 rfl (by rw [Array.length_toList]; exact HZs.out) Rs (Array.toArray_toList) ?_; try simp only [Act.put, ps])
    | fail)
  refine (HK20.out.take (by decide) HAs.out tk19).mono ?_
  rintro e n25 ⟨rfl, hk⟩
  have HN25 := aside hk
  clear hk 
  go_wp2_with (first
    | (refine wpList_load_midG (by rfl) _ _ rfl Lw191 0 rfl _ _ (whole_range (HVu.out _ HN25.out.keep)) Tryz.underlying49 rfl (by rw [Array.length_toList]; exact HZu.out) Ru (Array.toArray_toList) ?_; try simp only [Act.put, ps])
    | fail)
  refine (HN25.out.take (by decide) HAu.out tk20).mono ?_
  rintro e n26 ⟨rfl, hk⟩
  have HN26 := aside hk
  clear hk HN25
  go_wp2_with fail
  refine (HN26.out.state 0 (by decide) 5 st70).mono ?_
  rintro e n27 ⟨rfl, hk⟩
  have HN27 := aside hk
  clear hk HN26
  go_wp2_with fail
  refine (HN27.out.state 1 (by decide) 1 st71).mono ?_
  rintro e n28 ⟨rfl, hk⟩
  have HN28 := aside hk
  clear hk HN27
  go_wp2_with (first
    | (refine wpList_build_by rfl 49 _ rfl [(0, .int .i64 6), (4, .int .i64 3)] rfl _ (HB9.out _) ?_; try simp only [Act.put, ps])
    | fail)
  refine (HN28.out.take (by decide) HA9.out tk21).mono ?_
  rintro e n29 ⟨rfl, hk⟩
  have HN29 := aside hk
  clear hk HN28
  go_wp2_with fail
  refine (HN29.out.state 1 (by decide) 5 st81).mono ?_
  rintro e n30 ⟨rfl, hk⟩
  have HN30 := aside hk
  clear hk HN29
  go_wp2_with (first
    | (refine wpList_load_midG (by rfl) _ _ rfl g (0 * 49) rfl _ _ (HR0.out _ HN30.out.keep) Tryz.underlying49 rfl HS0.out R0 (Array.toArray_toList) ?_; try simp only [Act.put, ps])
    | fail)
  refine (mtake_nil (R := R0) ⟨_, HQ0.out⟩ _).mono ?_
  rintro e x1 ⟨rfl, hx⟩
  have HBE : Aside (Below w.heap.size w x1) := st_new w _ _ (below_trans_keeps HBB20.out HN30.out.keep HFW4.out) hx
  clear hx
  go_wp2_with fail
  refine (owners_nil x1).mono ?_
  rintro e x2 ⟨rfl, hx2⟩
  rw [hx2]
  clear hx2
  go_wp2_with fail
  refine (outcomes_nil x1).mono ?_
  rintro e x3 ⟨rfl, hx3⟩
  rw [hx3]
  clear hx3
  go_wp2_with fail
  refine (state_nil 0 x1).mono ?_
  rintro e x4 ⟨rfl, hx4⟩
  rw [hx4]
  clear hx4
  go_wp2_with fail
  refine (ended_nil x1).mono ?_
  rintro e x5 ⟨rfl, hx5⟩
  rw [hx5]
  clear hx5
  go_wp2_with fail
  go_ret
  exact ⟨rfl, HBE.out⟩
end Go.Proofs.YtfnekbfcndkjeaaGreatDoor
