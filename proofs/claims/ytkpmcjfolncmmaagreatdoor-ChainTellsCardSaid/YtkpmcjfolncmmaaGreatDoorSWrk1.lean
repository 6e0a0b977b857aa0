/- consignlaw30's works, walked: the chapter's examples. -/
import Derived.Test.YtkpmcjfolncmmaaGreatDoorSLaw1
import Derived.Test.YtkpmcjfolncmmaaGreatDoorSPln6
import Derived.Test.YtkpmcjfolncmmaaGreatDoorSRec2
set_option linter.all false
namespace Go.Proofs.YtkpmcjfolncmmaaGreatDoor
open Go.RowKit
theorem endD_ok : endD.ok := ⟨List.length_replicate, rep_bs, by decide, by decide, by decide, by decide, by decide, by decide, by decide, by decide, by decide, by decide, by decide, by decide⟩
theorem opnD_ok : opnD.ok := ⟨List.length_replicate, rep_bs, by decide, by decide, by decide, by decide, by decide, by decide, by decide, by decide, by decide, by decide, by decide, by decide⟩
theorem bytes_end : bytesA endD = (⟨#[6, 0, 0, 0, 0, 0, 0, 1, 2]⟩, 0) := by kernel_rfl
theorem bytes_opn : bytesA opnD = (⟨#[2, 1, 2, 0, 0, 0, 0, 0, 0, 0, 3, 2, 0, 5]⟩, 0) := by kernel_rfl
theorem bytesF_end : bytesF endD = ⟨#[6, 0, 0, 0, 0, 0, 0, 1, 2]⟩ := by kernel_rfl
theorem may_end : mayB endD = true := by kernel_rfl
theorem bad1 : readF ⟨#[]⟩ = ({}, 14) := by kernel_rfl
theorem bad2 : readF ⟨#[7]⟩ = ({}, 15) := by kernel_rfl
theorem bad3 : readF ⟨#[6, 0]⟩ = ({}, 14) := by kernel_rfl
theorem bad4 : readF ⟨#[6, 0, 0, 0, 0, 0, 0, 0, 0, 0]⟩ = ({}, 15) := by kernel_rfl
theorem wrong1 (S : ByteArray → ByteArray) : parseF S ⟨#[0, 9, 6, 0]⟩ = ([], 14, 0) := by kernel_rfl
theorem end_text (S : ByteArray → ByteArray) (hS : ∀ x, (S x).size = 32) : (entryF S zero32 endD).size = 43 ∧ (entryF S zero32 endD).extract 0 4 = ⟨#[0, 9, 6, 0]⟩ := by
  refine ⟨by rw [entry_size, hS, bytesF_end]; rfl, ?_⟩
  rw [entryF, bytesF_end]
  have e : strOfNums (be 2 ((ByteArray.mk #[6, 0, 0, 0, 0, 0, 0, 1, 2]).size : Nat)) ++ ⟨#[6, 0, 0, 0, 0, 0, 0, 1, 2]⟩ = (ByteArray.mk #[0, 9, 6, 0]) ++ ⟨#[0, 0, 0, 0, 0, 1, 2]⟩ := by kernel_rfl
  rw [e, ByteArray.append_assoc]
  have := extract_mid ⟨#[]⟩ ⟨#[0, 9, 6, 0]⟩ ((ByteArray.mk #[0, 0, 0, 0, 0, 1, 2]) ++ S (zero32 ++ ⟨#[6, 0, 0, 0, 0, 0, 0, 1, 2]⟩)) 0 4 rfl rfl
  have e2 : (ByteArray.mk #[] ++ ByteArray.mk #[0, 9, 6, 0]) = ByteArray.mk #[0, 9, 6, 0] := ba_nil_append _
  rw [e2] at this
  exact this
theorem end_turned (S : ByteArray → ByteArray) (hS : ∀ x, (S x).size = 32) {y : Int} (hy : 0 ≤ y ∧ y ≤ 255) (hne : y ≠ byteOf (entryF S zero32 endD) 42) : parseF S (setB (entryF S zero32 endD) 42 y) = ([], 21, 0) := by
  obtain ⟨h1, _⟩ := end_text S hS
  have hm := may_end
  have ho := endD_ok
  have e := entry_long (S := S) zero32 hm ho ⟨#[]⟩
  have en : entryF S zero32 endD ++ ⟨#[]⟩ = entryF S zero32 endD := ba_append_nil _
  have hz : (bytesF endD).size = 9 := by rw [bytesF_end]; rfl
  have eb := entry_body (S := S) zero32 hm ho ⟨#[]⟩
  have es := entry_sum hS zero32 hm ho ⟨#[]⟩
  rw [en] at e eb es
  rw [hz] at e es
  have hc := code_sum (S := S) zero32 (entryF S zero32 endD) (by rw [e, h1]; decide) (by rw [eb, e, es]) 42 (by rw [e]; decide) (by rw [e]; decide) hy hne
  have h0 : ¬ (setB (entryF S zero32 endD) 42 y).size = 0 := by rw [setB_size, h1]; decide
  rw [parseF, setB_size, h1]
  exact par_fault h0 hc (by decide)
theorem xor_one (x : Int) (h : 0 ≤ x ∧ x ≤ 255) : (0 ≤ bits .xor .u8 x 1 ∧ bits .xor .u8 x 1 ≤ 255) ∧ bits .xor .u8 x 1 ≠ x := by
  obtain ⟨n, rfl⟩ := Int.eq_ofNat_of_zero_le h.1
  have key : ∀ n : Nat, n < 256 → (0 ≤ bits .xor .u8 (n : Int) 1 ∧ bits .xor .u8 (n : Int) 1 ≤ 255) ∧ bits .xor .u8 (n : Int) 1 ≠ n := by decide +kernel
  exact key n (by omega)
theorem two_row (w : World) : RowI (w.alloc (.cells #[.int .i64 0, .int .i64 5] 3)) (.slice (some ⟨w.heap.size, 0, none⟩) 2 2) opnD.barred := by
  refine ⟨_, 2, rfl, Nat.le_refl _, fun _ => ⟨w.heap.size, 0, rfl, by simp, fun j hj => ?_⟩⟩
  rw [Nat.zero_add, cell_new]
  match j, hj with
  | 0, _ | 1, _ => rfl
  | _ + 2, h => exact absurd h (by simp [opnD])
set_option maxHeartbeats 2000000 in
set_option maxRecDepth 100000 in
theorem works_any (F : S8) (K : Nat → Int) (kk : Array Value) (w : World) (ht : Tabs F K kk w) :
    Calls Tryz.prog 11 #[] w fun e w' => e = .returned (.bool true) ∧ Below w.heap.size w w' := by
  obtain ⟨ev, hev⟩ : ∃ ev, ev = endD.toV (.slice none 0 0) (.slice none 0 0) (.slice none 0 0) := ⟨_, rfl⟩
  have HEV := aside hev
  have hevd : ∀ W, RecAt W ev endD := fun W => ⟨_, _, _, hev, RowI.nil _, RowL.nil _, RowI.nil _⟩
  have HEVD := aside hevd
  obtain ⟨X, hX⟩ : ∃ x, x = w.heap.size := ⟨_, rfl⟩
  obtain ⟨w1, hw1⟩ : ∃ z, z = w.alloc (.cells (recCells ev) 38) := ⟨_, rfl⟩
  have HX1 : Aside (RecIn w1 X ev) := by rw [hw1, hX]; exact RecIn.box _ _
  have HN1 : Aside (Below w.heap.size w w1) := by rw [hw1]; exact new_alloc _ _
  have HT := aside ht
  have hi0 : (Tryz.prog.info? 38).map (·.size) = some (recCells ev).size := by rw [recCells_size]; kernel_rfl
  have hone : (recCells ev).all (·.oneCell') = true := by rw [hev]; kernel_rfl
  have HST : Aside ((Instr.storeAt 38 (.pointer (some ⟨w.heap.size, 0, none⟩)) (.agg (recCells ev))).run Tryz.prog (w.alloc (.cells (recCells {}) 38)) = .ok () w1) := by
    rw [Aside, hw1]
    exact run_storeAt_new' w 38 (recCells {}) (recCells ev) hi0 rfl hone
  clear ht hev hevd hone hw1
  go_enter Tryz.func11, Tryz.ntmps11
  go_upto_region 2 with (first
    | (refine wpList_build_by rfl 38 _ rfl [(0, .int .i64 6), (4, .int .i64 258)] rfl _ (build_end _) ?_; rw [← HEV.out])
    | (refine wpList_store_by rfl 38 _ _ rfl _ _ rfl rfl HST.out ?_)
    | fail)
  rw [← hX]
  clear hX HST
  go_wp2_with (first
    | (refine wpList_load_row rfl _ _ rfl X rfl _ (recCells ev) (0, 0) _ HX1.out Tryz.underlying38 rfl hi0 ?_)
    | fail)
  refine (bytes_any ev endD endD_ok w1 (HEVD.out w1)).mono ?_
  rintro e w2 ⟨rfl, hb2⟩
  rw [bytes_end]
  have HX2 := aside (HX1.out.new hb2)
  have HN2 := aside (HN1.out.trans (hb2.mono HN1.out.size))
  clear hb2 HX1 HN1
  go_wp2_with (first
    | (refine wpList_build_by rfl 38 _ rfl [(0, .int .i64 2), (1, .int .i64 1), (2, .int .i64 2), (4, .int .i64 3), (5, .slice (some ⟨w2.heap.size, 0, none⟩) 2 2)] rfl _ (build_opn _ _) ?_)
    | fail)
  refine (bytes_any (opnD.toV (.slice (some ⟨w2.heap.size, 0, none⟩) 2 2) (.slice none 0 0) (.slice none 0 0)) opnD opnD_ok _ ⟨_, _, _, rfl, two_row w2, RowL.nil _, RowI.nil _⟩).mono ?_
  rintro e w4 ⟨rfl, hb4⟩
  rw [bytes_opn]
  have hb24 : Below w2.heap.size w2 w4 := (new_alloc w2 _).trans (hb4.mono (by simp))
  have HX4 := aside (HX2.out.new hb24)
  have HN4 := aside (HN2.out.trans (hb24.mono HN2.out.size))
  clear hb4 hb24 HX2 HN2
  go_wp2_with fail
  refine (new_log w4).mono ?_
  rintro e w5 ⟨rfl, hb5, hl5⟩
  obtain ⟨B, hB⟩ : ∃ x, x = w4.heap.size := ⟨_, rfl⟩
  rw [← hB] at hl5 ⊢
  have HX5 := aside (HX4.out.new hb5)
  have HN5 := aside (HN4.out.trans (hb5.mono HN4.out.size))
  have HL5 := aside hl5
  have HBW : Aside (w.heap.size ≤ B ∧ X < B) := by have := HN4.out.size; have := HX4.out.lt; rw [Aside]; omega
  clear hb5 hl5 hB HX4 HN4
  go_wp2_with (first
    | (refine wpList_load_row rfl _ _ rfl X rfl _ (recCells ev) (0, 0) _ HX5.out Tryz.underlying38 rfl hi0 ?_)
    | fail)
  refine (add_log B ⟨#[]⟩ zero32 0 (by omega) (by decide) ev endD endD_ok F K kk w5 (HT.out.sha.on HN5.out) HL5.out (HEVD.out w5)).mono ?_
  rintro e w6 ⟨hk6, ha6⟩
  rw [if_pos may_end] at ha6
  obtain ⟨rfl, hl6⟩ := ha6
  obtain ⟨T, hT⟩ : ∃ T, T = entryF (sumB K F) zero32 endD := ⟨_, rfl⟩
  rw [show (⟨#[]⟩ : ByteArray) ++ entryF (sumB K F) zero32 endD = entryF (sumB K F) zero32 endD from ba_nil_append _, ← hT] at hl6
  have HL6 := aside hl6
  have HN6 := aside (new_of_keeps HN5.out hk6 HBW.out.1)
  have HTT := aside hT
  obtain ⟨ht43, ht4⟩ := end_text (sumB K F) (sumB_size K F)
  rw [← hT] at ht43 ht4
  have HT43 := aside ht43
  have HT4 := aside ht4
  clear hk6 hl6 hT hi0 HX5 HN5 HL5 ht43 ht4
  go_wp2_with fail
  refine (text_log B T _ _ w6 HL6.out).mono ?_
  rintro e w7 ⟨rfl, hw7⟩
  rw [← hw7]
  clear hw7
  have hts : T.size = 43 := HT43.out
  have h43 : ((T.size : Int) != 43) = false := by rw [hts]; rfl
  have kc := fun W => Lib.run_convert_string_bytes (P := Tryz.prog) W 9 26 5 T Tryz.underlying9 Tryz.underlying26 Tryz.underlying5
  clear hts
  go_upto_region 11 with fail
  obtain ⟨Y, hY⟩ : ∃ x, x = w6.heap.size := ⟨_, rfl⟩
  obtain ⟨w8, hw8⟩ : ∃ z, z = Lib.bytesWorld w6 5 T := ⟨_, rfl⟩
  obtain ⟨cp, hcp⟩ : ∃ c, c = grownCap w6 T.size 0 5 := ⟨_, rfl⟩
  have HB8 : Aside (BytAt w8 Y (numsOf T)) := by rw [hw8, hY]; exact BytAt.conv w6 T
  have hb8 : Below w6.heap.size w6 w8 := by rw [hw8]; exact new_bytesWorld _ _ _
  have hY8 : Y < w8.heap.size := by rw [hw8, hY, Lib.bytesWorld_size]; exact Nat.lt_succ_self _
  have HN8 := aside (HN6.out.trans (hb8.mono HN6.out.size))
  have HYW : Aside (w.heap.size ≤ Y) := by rw [Aside, hY]; exact HN6.out.size
  have HYL := aside hY8
  rw [← hcp, ← hw8, ← hY, HT43.out]
  have hlen : (numsOf T).length = 43 := (numsOf_length T).trans HT43.out
  have HLEN := aside hlen
  obtain ⟨x, hx⟩ : ∃ x, x = (numsOf T).getD 42 0 := ⟨_, rfl⟩
  have c42 : w8.cell? ⟨Y, 42, none⟩ = some (.int .u8 x) := by rw [hx]; exact HB8.out.cell 42 (by rw [hlen]; decide)
  have f42 : w8.frozen? ⟨Y, 42, none⟩ = false := HB8.out.free 42 (by rw [hlen]; decide)
  have hx8 : 0 ≤ x ∧ x ≤ 255 := by rw [hx, ← byteOf_nums]; exact byteOf_u8 T 42
  obtain ⟨y, hy⟩ : ∃ y, y = bits .xor .u8 x 1 := ⟨_, rfl⟩
  have HY : Aside ((0 ≤ y ∧ y ≤ 255) ∧ y ≠ byteOf T 42) := by rw [byteOf_nums, ← hx, hy]; exact xor_one x hx8
  have HB9 : Aside (BytAt (w8.setCell ⟨Y, 42, none⟩ (.int .u8 y)) Y ((numsOf T).set 42 y)) := HB8.out.set 42 (by rw [hlen]; decide) y
  have HN9 : Aside (Below w.heap.size w (w8.setCell ⟨Y, 42, none⟩ (.int .u8 y))) := HN8.out.setCell (p := ⟨Y, 42, none⟩) HYW.out _
  clear hb8 hw8 hY hcp hlen hx h43 kc hY8
  go_upto_region 12 with fail
  rw [← hy]
  obtain ⟨w9, hw9⟩ : ∃ z, z = w8.setCell ⟨Y, 42, none⟩ (.int .u8 y) := ⟨_, rfl⟩
  have HYL9 : Aside (Y < w9.heap.size) := by rw [Aside, hw9]; simpa using HYL.out
  rw [← hw9] at HB9 HN9 ⊢
  clear hw9 c42 f42 hx8 hy HB8 HN8 HYL
  have hts := HT43.out
  have e4 : (T.extract 0 4).toList = [0, 9, 6, 0] := by rw [HT4.out]; kernel_rfl
  go_wp2_with fail
  refine (bad_yes ⟨#[]⟩ (by decide) 14 w9 bad1).mono ?_
  rintro e v10 ⟨rfl, hv⟩
  have HB10 := aside (HB9.out.on HYL9.out hv)
  have HYL10 : Aside (Y < v10.heap.size) := Nat.lt_of_lt_of_le HYL9.out hv.size
  have HN10 := aside (HN9.out.trans (hv.mono HN9.out.size))
  clear hv
  clear hts e4
  go_wp2_with fail
  refine (bad_yes ⟨#[7]⟩ (by decide) 15 v10 bad2).mono ?_
  rintro e v11 ⟨rfl, hv⟩
  have HB11 := aside (HB10.out.on HYL10.out hv)
  have HYL11 : Aside (Y < v11.heap.size) := Nat.lt_of_lt_of_le HYL10.out hv.size
  have HN11 := aside (HN10.out.trans (hv.mono HN10.out.size))
  clear hv
  go_wp2_with fail
  refine (bad_yes ⟨#[6, 0]⟩ (by decide) 14 v11 bad3).mono ?_
  rintro e v12 ⟨rfl, hv⟩
  have HB12 := aside (HB11.out.on HYL11.out hv)
  have HYL12 : Aside (Y < v12.heap.size) := Nat.lt_of_lt_of_le HYL11.out hv.size
  have HN12 := aside (HN11.out.trans (hv.mono HN11.out.size))
  clear hv
  go_wp2_with fail
  refine (bad_yes ⟨#[6, 0, 0, 0, 0, 0, 0, 0, 0, 0]⟩ (by decide) 15 v12 bad4).mono ?_
  rintro e v13 ⟨rfl, hv⟩
  have HB13 := aside (HB12.out.on HYL12.out hv)
  have HYL13 : Aside (Y < v13.heap.size) := Nat.lt_of_lt_of_le HYL12.out hv.size
  have HN13 := aside (HN12.out.trans (hv.mono HN12.out.size))
  clear hv
  go_wp2_with fail
  refine (wrong_yes ⟨#[0, 9, 6, 0]⟩ (by decide) 14 0 F K kk v13 (HT.out.on HN13.out) (wrong1 _) (by decide)).mono ?_
  rintro e v14 ⟨rfl, hv⟩
  have HB14 := aside (HB13.out.on HYL13.out hv)
  have HN14 := aside (HN13.out.trans (hv.mono HN13.out.size))
  have kt := bytes_text Y ((numsOf T).set 42 y) 43 cp (by rw [List.length_set]; exact HLEN.out) v14 HB14.out
  rw [show strOfNums ((numsOf T).set 42 y) = setB T 42 y from rfl] at kt
  clear hv
  go_wp2_with fail
  refine (wrong_yes (setB T 42 y) (by rw [setB_size, HT43.out]; decide) 21 0 F K kk v14 (HT.out.on HN14.out) ?_ (by decide)).mono ?_
  · have h1 := HY.out
    rw [HTT.out] at h1 ⊢
    exact end_turned (sumB K F) (sumB_size K F) h1.1 h1.2
  rintro e v15 ⟨rfl, hv⟩
  have HN15 := aside (HN14.out.trans (hv.mono HN14.out.size))
  clear hv kt
  go_wp2_with fail
  go_ret
  exact ⟨rfl, HN15.out⟩
end Go.Proofs.YtkpmcjfolncmmaaGreatDoor
namespace Go.Proofs.YtkpmcjfolncmmaaGreatDoor
open Go.RowKit
def RecsAt (w : World) (v : Value) (ds : List RecD) : Prop :=
  ∃ (a : Option Addr) (cap : Nat) (rvs : Nat → RecV), v = .slice a ds.length cap ∧ ds.length ≤ cap ∧
    (0 < ds.length → ∃ lb lo, a = some ⟨lb, lo, none⟩ ∧ lb < w.heap.size ∧ ∀ j, j < ds.length → w.rangeAt lb (lo + j * 49) (recCells (rvs j)).toList) ∧ ∀ j, j < ds.length → RecAt w (rvs j) (ds.getD j {})
theorem rangeAt_on {w w' : World} {b o : Nat} {cs : List Value} (h : w.rangeAt b o cs) (hb : b < w.heap.size) (hn : Below w.heap.size w w') : w'.rangeAt b o cs :=
  fun j v hv => (hn.cell (p := ⟨b, o + j, none⟩) hb).trans (h j v hv)
theorem RecsAt.on {w w' : World} {v : Value} {ds : List RecD} (h : RecsAt w v ds) (hb : Below w.heap.size w w') : RecsAt w' v ds := by
  obtain ⟨a, cap, rvs, e, hc, h1, h2⟩ := h
  refine ⟨a, cap, rvs, e, hc, fun h0 => ?_, fun j hj => (h2 j hj).on hb⟩
  obtain ⟨lb, lo, ea, hl, hj⟩ := h1 h0
  exact ⟨lb, lo, ea, Nat.lt_of_lt_of_le hl hb.size, fun j h3 => rangeAt_on (hj j h3) hl hb⟩
theorem flat49 (rvs : List RecV) (j i : Nat) (hi : i < 49) : (rvs.flatMap fun r => (recCells r).toList)[j * 49 + i]? = if j < rvs.length then (recCells (rvs.getD j {})).toList[i]? else none := by
  induction rvs generalizing j with
  | nil => simp
  | cons r rvs ih =>
    rw [List.flatMap_cons]
    have hl : (recCells r).toList.length = 49 := by rw [Array.length_toList, recCells_size]
    cases j with
    | zero =>
      rw [Nat.zero_mul, Nat.zero_add, List.getElem?_append_left (by omega), if_pos (by simp)]
      rfl
    | succ j =>
      rw [List.getElem?_append_right (by omega), hl, show (j + 1) * 49 + i - 49 = j * 49 + i by omega, ih j]
      simp
theorem RecsF.at_ {B : Nat} {w : World} {v : Value} {ds : List RecD} (h : RecsF B w v ds) : RecsAt w v ds := by
  obtain ⟨rvs, h1, h2, h3⟩ := h
  obtain ⟨a, cap, e, hc, hx⟩ := ownsRow_form h2
  refine ⟨a, cap, fun j => rvs.getD j {}, e, hc, fun h0 => ?_, fun j hj => (h3 j hj).at_⟩
  obtain ⟨g, ea, _, hg, hj⟩ := hx h0
  refine ⟨g, 0, ea, hg, fun j hjl i v hv => ?_⟩
  have hi : i < 49 := by
    have := (List.getElem?_eq_some_iff.1 hv).1
    rw [Array.length_toList, recCells_size] at this
    exact this
  have := flat49 rvs j i hi
  rw [if_pos (by omega), hv] at this
  rw [Nat.zero_add]
  exact hj _ _ this
theorem RecsAt.take {w : World} {v : Value} {ds : List RecD} (h : RecsAt w v ds) (k : Nat) (hk : k ≤ ds.length) {a : Option Addr} {cap : Nat} (e : v = .slice a ds.length cap) : RecsAt w (.slice a k cap) (ds.take k) := by
  obtain ⟨a', cap', rvs, e', hc, h1, h2⟩ := h
  rw [e] at e'
  obtain ⟨rfl, _, rfl⟩ := Value.slice.inj e'
  have hl : (ds.take k).length = k := by rw [List.length_take]; omega
  refine ⟨a, cap, rvs, by rw [hl], by omega, fun h0 => ?_, fun j hj => ?_⟩
  · obtain ⟨lb, lo, ea, hl', hj⟩ := h1 (by omega)
    exact ⟨lb, lo, ea, hl', fun j hjl => hj j (by omega)⟩
  · have := h2 j (by omega)
    have e3 : (ds.take k).getD j {} = ds.getD j {} := by
      rw [List.getD_eq_getElem?_getD, List.getD_eq_getElem?_getD, List.getElem?_take_of_lt (by omega)]
    rw [e3]
    exact this
theorem take_succ_getD (ds : List RecD) (k : Nat) (hk : k < ds.length) : ds.take (k + 1) = ds.take k ++ [ds.getD k {}] := by
  rw [List.take_succ_eq_append_getElem hk, List.getD_eq_getElem?_getD, List.getElem?_eq_getElem hk]
  rfl
theorem entry_le {S : ByteArray → ByteArray} (hS : ∀ x, (S x).size = 32) (s : ByteArray) {d : RecD} (hm : mayB d = true) (ho : d.ok) : (entryF S s d).size ≤ 185 := by
  have := bytesF_size hm ho
  rw [entry_size, hS]
  omega
theorem text_le {S : ByteArray → ByteArray} (hS : ∀ x, (S x).size = 32) : ∀ (l : List RecD) (s : ByteArray), AllMay l → (textF S s l).size ≤ 185 * l.length
  | [], _, _ => Nat.le_refl _
  | d :: l, s, h => by
    have h1 := text_le hS l (S (s ++ bytesF d)) (fun x hx => h x (by simp [hx]))
    have h2 := entry_le hS s (h d (by simp)).1 (h d (by simp)).2
    show (entryF S s d ++ textF S _ l).size ≤ 185 * (l.length + 1)
    rw [ByteArray.size_append]
    omega
end Go.Proofs.YtkpmcjfolncmmaaGreatDoor
