/- chain.Read, walked: bytes that there are. -/
import Derived.Test.YtkpmcjfolncmmaaGreatDoorSByt1
import Derived.Test.YtkpmcjfolncmmaaGreatDoorSPln2
import Derived.Test.YtkpmcjfolncmmaaGreatDoorSRec2
set_option linter.all false
namespace Go.Proofs.YtkpmcjfolncmmaaGreatDoor
open Go.RowKit
theorem gotPost_congr {ok ok' : Prop} [Decidable ok] [Decidable ok'] (h : ok ↔ ok') {d d' : RecD} (hd : d = d') {q q' : Int} (hq : q = q') {b g : Nat} {t : ByteArray} {w : World} {e : Ending} {w' : World} (hp : GotPost ok d q b g t w e w') : GotPost ok' d' q' b g t w e w' := by
  subst hd hq
  unfold GotPost at hp ⊢
  by_cases c : ok
  · rw [if_pos c] at hp
    rw [if_pos (h.1 c)]
    exact hp
  · rw [if_neg c] at hp
    rw [if_neg (fun x => c (h.2 x))]
    exact hp
theorem parts_any (k : Int) (hk : 1 ≤ k ∧ k ≤ 6) (b g : Nat) (t : ByteArray) (hts : t.size ≤ 9223372036854775807) (h1 : 1 ≤ t.size) (w : World) (h : ROpen b g t 1 false w) :
    Calls Tryz.prog 30 #[.agg #[.pointer (some ⟨b, 0, none⟩)], .int .i64 k] w (GotPost (kindOk k t) (kindR k t) (kindQ k t) b g t w) := by
  rcases kind_cases hk with rfl | rfl | rfl | rfl | rfl | rfl
  · exact (parts_scene b g t hts h1 w h).mono fun e w' hp => gotPost_congr Iff.rfl rfl rfl hp
  · exact (parts_open b g t hts h1 w h).mono fun e w' hp => gotPost_congr Iff.rfl rfl rfl hp
  · exact (parts_commit b g t hts h1 w h).mono fun e w' hp => gotPost_congr Iff.rfl rfl rfl hp
  · exact (parts_reveal b g t hts h1 w h).mono fun e w' hp => gotPost_congr Iff.rfl rfl rfl hp
  · exact (parts_close b g t hts h1 w h).mono fun e w' hp => gotPost_congr Iff.rfl rfl rfl hp
  · exact (parts_end b g t hts h1 w h).mono fun e w' hp => gotPost_congr Iff.rfl rfl rfl hp
theorem RdAt.row {w : World} {X E : Nat} {r : RecV} {c : Int} (h : RdAt w X E r c) (r' : RecV) : RdAt (w.setRow X (recCells r')) X E r' c :=
  ⟨h.record.setRow r', cell_keeps h.code (keeps_setRow (K := (· ≠ X)) w X (recCells r') (fun h => h rfl)) (Ne.symm h.ne),
    (World.frozen?_of_block (w := w) (a := ⟨E, 0, none⟩) (setRow_other w X E _ (Ne.symm h.ne))).trans h.free, h.ne⟩
set_option maxHeartbeats 2000000 in
set_option maxRecDepth 100000 in
theorem read_bad (t : ByteArray) (hts : t.size ≤ 9223372036854775807) (ht1 : 1 ≤ t.size) (hkb : withinB (getV t 0 1) 1 6 = false) (a : RecD × Int) (ha : a = ({}, 15)) (w : World) : Calls Tryz.prog 8 #[.string t] w (ReadPost a w) := by
  have HE := aside ha
  have HT1 := aside ht1
  have HKB := aside hkb
  clear ht1 ha hkb
  have hmf : ∀ (fn : Fn) (first cap : Array Value) (w : World), (Instr.makeFunc fn first cap).run Tryz.prog w = .ok (.func fn first cap) w := fun _ _ _ _ => rfl
  obtain ⟨X, hX⟩ : ∃ x, x = w.heap.size := ⟨_, rfl⟩
  obtain ⟨E, hE⟩ : ∃ x, x = w.heap.size + 1 := ⟨_, rfl⟩
  obtain ⟨w2, hw2⟩ : ∃ z, z = (w.alloc (.cells (recCells {}) 38)).alloc (.cells #[.int .i64 0] 41) := ⟨_, rfl⟩
  have H2 : RdAt w2 X E {} 0 := by
    rw [hw2, hX, hE]
    have hn := new_alloc (w.alloc (.cells (recCells {}) 38)) (.cells #[.int .i64 0] 41)
    have hs : (w.alloc (.cells (recCells {}) 38)).heap.size = w.heap.size + 1 := by simp
    have c := cell_new (w.alloc (.cells (recCells {}) 38)) #[.int .i64 0] 41 0
    have f := frozen_new (w.alloc (.cells (recCells {}) 38)) #[.int .i64 0] 41 0
    rw [hs] at c f
    exact ⟨(RecIn.box w {}).new hn, c, f, by omega⟩
  have HN2 : Aside (Below w.heap.size w w2) := by rw [hw2]; exact new_trans (new_alloc _ _) (new_alloc _ _)
  have H2 := aside H2
  have HXE : Aside (w.heap.size ≤ X ∧ w.heap.size ≤ E) := ⟨by omega, by omega⟩
  have HTS := aside hts
  clear hts
  go_enter_defers Tryz.func8, Tryz.ntmps8
  go_wp2_with fail
  rw [zR, ← hw2, ← hE, ← hX]
  clear hw2 hX hE
  refine (read_any t w2).mono ?_
  rintro e w3 ⟨rfl, hb3, ho3⟩
  obtain ⟨b, hb⟩ : ∃ b, b = w2.heap.size := ⟨_, rfl⟩
  rw [← hb] at ho3 ⊢
  obtain ⟨g, hg⟩ : ∃ g, g = b + 1 := ⟨_, rfl⟩
  rw [← hg] at ho3
  have hXb : X ≠ b ∧ E ≠ b := by have := H2.out.lt; omega
  have HXb := aside hXb
  have HBW : Aside (w.heap.size ≤ b) := by have := HN2.out.size; rw [Aside]; omega
  have H3 := aside (H2.out.on hb3)
  have HN3 := aside (HN2.out.trans (hb3.mono HN2.out.size))
  have HO3 := aside ho3
  clear hb3 ho3 hb hg H2 HN2 hXb
  go_upto_region 3 with fail
  obtain ⟨R, hR⟩ : ∃ x, x = w3.heap.size := ⟨_, rfl⟩
  obtain ⟨w4, hw4⟩ : ∃ z, z = w3.alloc (.cells #[.pointer (some ⟨b, 0, none⟩)] 75) := ⟨_, rfl⟩
  have hb4 : Below w3.heap.size w3 w4 := by rw [hw4]; exact new_alloc _ _
  have HRC : Aside (w4.cell? ⟨R, 0, none⟩ = some (.pointer (some ⟨b, 0, none⟩))) := by rw [hw4, hR]; exact cell_new _ _ _ 0
  have HRb : Aside (R ≠ b) := by have := HO3.out.bound; rw [Aside]; omega
  have HRX : Aside (R ≠ X) := by have := H3.out.lt; rw [Aside]; omega
  have H4 := aside (H3.out.on hb4)
  have HN4 := aside (HN3.out.trans (hb4.mono HN3.out.size))
  have HO4 := aside (HO3.out.on hb4)
  rw [← hw4, ← hR]
  clear hb4 hw4 hR H3 HN3 HO3
  have cR := HRC.out
  go_wp2_with fail
  obtain ⟨k, hk⟩ : ∃ k, k = getV t 0 1 := ⟨_, rfl⟩
  rw [← hk] at HKB
  refine (csmall_ok b g t HTS.out 0 1 k (by omega) (by have := HT1.out; omega) rfl hk w4 HO4.out).mono ?_
  rintro e w5 ⟨rfl, hk5, ho5⟩
  have H5 := aside (H4.out.keeps hk5 HXb.out.1 HXb.out.2)
  have HN5 := aside (new_of_keeps HN4.out hk5 HBW.out)
  clear hk5 ho5 cR hk
  go_wp2_with fail
  refine (within_any k 1 6 _).mono ?_
  rintro e wq ⟨rfl, hwq⟩
  rw [HKB.out, hwq]
  clear hwq
  have hone : (recCells {}).all (·.oneCell') = true := by kernel_rfl
  have hi0 : (Tryz.prog.info? 38).map (·.size) = some (recCells {}).size := by rw [recCells_size]; kernel_rfl
  obtain ⟨w7, hw7⟩ : ∃ z, z = w5.setRow X (recCells {}) := ⟨_, rfl⟩
  have h7 := H5.out.row {}
  rw [← hw7] at h7
  have cE := h7.code
  have fE := h7.free
  have HF := H5.out.lay {} 15
  have HKF := rd_keeps w5 X E (recCells {}) (.int .i64 15)
  rw [← hw7] at HF HKF
  have HF := aside HF
  have HKF := aside HKF
  have HW7 := aside hw7
  have HXR := aside H5.out.record
  clear h7 hw7
  go_wp2_with (first
    | (refine wpList_store_row rfl _ _ _ rfl X (recCells {}) rfl rfl 38 _ HXR.out hi0 rfl hone ?_; rw [← HW7.out])
    | fail)
  refine leaves_cons (f := 26) (args := #[.pointer (some ⟨X, 0, none⟩), .pointer (some ⟨E, 0, none⟩)]) (by simp) (by simp [go_sem]) ?_
  refine (rcatch_idle X E _ _ _ HF.out).mono ?_
  rintro e u' w'' ⟨rfl, rfl, h1, h2⟩
  refine ⟨_, rd_results h1 _ rfl rfl, ?_⟩
  rw [HE.out]
  exact ⟨_, rfl, RecFrom.nil _ _, rd_below HN5.out (HKF.out.trans h2) HXE.out⟩
set_option maxHeartbeats 2000000 in
set_option maxRecDepth 100000 in
theorem read_kinds (t : ByteArray) (hts : t.size ≤ 9223372036854775807) (ht1 : 1 ≤ t.size) (hkb : withinB (getV t 0 1) 1 6 = true) (w : World) : Calls Tryz.prog 8 #[.string t] w (ReadPost (readF t) w) := by
  have HT1 := aside ht1
  have HKB := aside hkb
  obtain ⟨k, hk⟩ : ∃ k, k = getV t 0 1 := ⟨_, rfl⟩
  have HRF : Aside (readF t = if ¬ kindOk k t then ({}, 14) else if 0 < (t.size : Int) - kindQ k t ∨ mayB (kindR k t) = false then ({}, 15) else (kindR k t, 0)) := by
    rw [Aside, readF, if_neg (by omega), if_neg (by rw [hkb]; decide), ← hk]
  rw [← hk] at HKB
  have HK6 : Aside (1 ≤ k ∧ k ≤ 6) := (within_iff _ _ _).1 HKB.out
  have HKV := aside hk
  clear ht1 hkb hk
  have hmf : ∀ (fn : Fn) (first cap : Array Value) (w : World), (Instr.makeFunc fn first cap).run Tryz.prog w = .ok (.func fn first cap) w := fun _ _ _ _ => rfl
  obtain ⟨X, hX⟩ : ∃ x, x = w.heap.size := ⟨_, rfl⟩
  obtain ⟨E, hE⟩ : ∃ x, x = w.heap.size + 1 := ⟨_, rfl⟩
  obtain ⟨w2, hw2⟩ : ∃ z, z = (w.alloc (.cells (recCells {}) 38)).alloc (.cells #[.int .i64 0] 41) := ⟨_, rfl⟩
  have H2 : RdAt w2 X E {} 0 := by
    rw [hw2, hX, hE]
    have hn := new_alloc (w.alloc (.cells (recCells {}) 38)) (.cells #[.int .i64 0] 41)
    have hs : (w.alloc (.cells (recCells {}) 38)).heap.size = w.heap.size + 1 := by simp
    have c := cell_new (w.alloc (.cells (recCells {}) 38)) #[.int .i64 0] 41 0
    have f := frozen_new (w.alloc (.cells (recCells {}) 38)) #[.int .i64 0] 41 0
    rw [hs] at c f
    exact ⟨(RecIn.box w {}).new hn, c, f, by omega⟩
  have HN2 : Aside (Below w.heap.size w w2) := by rw [hw2]; exact new_trans (new_alloc _ _) (new_alloc _ _)
  have H2 := aside H2
  have HXE : Aside (w.heap.size ≤ X ∧ w.heap.size ≤ E) := ⟨by omega, by omega⟩
  have HTS := aside hts
  clear hts
  go_enter_defers Tryz.func8, Tryz.ntmps8
  go_wp2_with fail
  rw [zR, ← hw2, ← hE, ← hX]
  clear hw2 hX hE
  refine (read_any t w2).mono ?_
  rintro e w3 ⟨rfl, hb3, ho3⟩
  obtain ⟨b, hb⟩ : ∃ b, b = w2.heap.size := ⟨_, rfl⟩
  rw [← hb] at ho3 ⊢
  obtain ⟨g, hg⟩ : ∃ g, g = b + 1 := ⟨_, rfl⟩
  rw [← hg] at ho3
  have hXb : X ≠ b ∧ E ≠ b := by have := H2.out.lt; omega
  have HXb := aside hXb
  have HBW : Aside (w.heap.size ≤ b) := by have := HN2.out.size; rw [Aside]; omega
  have H3 := aside (H2.out.on hb3)
  have HN3 := aside (HN2.out.trans (hb3.mono HN2.out.size))
  have HO3 := aside ho3
  clear hb3 ho3 hb hg H2 HN2 hXb
  go_upto_region 3 with fail
  obtain ⟨R, hR⟩ : ∃ x, x = w3.heap.size := ⟨_, rfl⟩
  obtain ⟨w4, hw4⟩ : ∃ z, z = w3.alloc (.cells #[.pointer (some ⟨b, 0, none⟩)] 75) := ⟨_, rfl⟩
  have hb4 : Below w3.heap.size w3 w4 := by rw [hw4]; exact new_alloc _ _
  have HRC : Aside (w4.cell? ⟨R, 0, none⟩ = some (.pointer (some ⟨b, 0, none⟩))) := by rw [hw4, hR]; exact cell_new _ _ _ 0
  have HRb : Aside (R ≠ b) := by have := HO3.out.bound; rw [Aside]; omega
  have HRX : Aside (R ≠ X) := by have := H3.out.lt; rw [Aside]; omega
  have H4 := aside (H3.out.on hb4)
  have HN4 := aside (HN3.out.trans (hb4.mono HN3.out.size))
  have HO4 := aside (HO3.out.on hb4)
  rw [← hw4, ← hR]
  clear hb4 hw4 hR H3 HN3 HO3
  have cR := HRC.out
  go_wp2_with fail
  refine (csmall_ok b g t HTS.out 0 1 k (by omega) (by have := HT1.out; omega) rfl HKV.out w4 HO4.out).mono ?_
  rintro e w5 ⟨rfl, hk5, ho5⟩
  have H5 := aside (H4.out.keeps hk5 HXb.out.1 HXb.out.2)
  have HN5 := aside (new_of_keeps HN4.out hk5 HBW.out)
  have HO5 := aside ho5
  have HRC5 := aside (cell_keeps HRC.out hk5 HRb.out)
  clear hk5 ho5 cR HO4 HRC
  go_wp2_with fail
  refine (within_any k 1 6 _).mono ?_
  rintro e wq ⟨rfl, hwq⟩
  rw [HKB.out, hwq]
  clear hwq
  have cR := HRC5.out
  go_wp2_with fail
  refine (parts_any k HK6.out b g t HTS.out HT1.out _ HO5.out).mono ?_
  intro e w6 hg6
  by_cases hok : kindOk k t
  case neg =>
    rw [GotPost, if_neg hok] at hg6
    obtain ⟨rfl, hk6⟩ := hg6
    have HE : Aside (readF t = ({}, 14)) := by rw [Aside, HRF.out, if_pos hok]
    have HQ := aside (H5.out.keeps hk6 HXb.out.1 HXb.out.2)
    have HNQ := aside (new_of_keeps HN5.out hk6 HBW.out)
    unfold gaveUp
    clear hk6 cR hok
    go_wp2_with fail
    refine leaves_cons (f := 26) (args := #[.pointer (some ⟨X, 0, none⟩), .pointer (some ⟨E, 0, none⟩)]) (by simp) (by simp [go_sem]) ?_
    refine (rcatch_pan X E _ _ 147 (.agg #[]) [] _ HQ.out).mono ?_
    rintro e u' w'' ⟨rfl, rfl, h1, h2⟩
    refine ⟨_, rd_results h1 _ rfl rfl, ?_⟩
    rw [HE.out]
    exact ⟨_, rfl, RecFrom.nil _ _, rd_below HNQ.out h2 HXE.out⟩
  rw [GotPost, if_pos hok] at hg6
  obtain ⟨rv, rfl, hr6, hk6, ho6⟩ := hg6
  have HRF2 : Aside (readF t = if 0 < (t.size : Int) - kindQ k t ∨ mayB (kindR k t) = false then ({}, 15) else (kindR k t, 0)) := by rw [Aside, HRF.out, if_neg (fun h => h hok)]
  have HQB := aside (kindQ_le HK6.out t hok)
  have HDO := aside (kindR_ok HK6.out t)
  obtain ⟨d, hd⟩ : ∃ d, d = kindR k t := ⟨_, rfl⟩
  obtain ⟨q, hq⟩ : ∃ q, q = kindQ k t := ⟨_, rfl⟩
  rw [← hd] at hr6 HRF2 HDO
  rw [← hq] at ho6 HRF2 HQB
  have H6 := aside (H5.out.keeps hk6 HXb.out.1 HXb.out.2)
  have HN6 := aside (new_of_keeps HN5.out hk6 HBW.out)
  have HL5 := aside H5.out.lt
  have hone := hr6.one
  have hi0 : (Tryz.prog.info? 38).map (·.size) = some (recCells rv).size := by rw [recCells_size]; kernel_rfl
  obtain ⟨w7, hw7⟩ : ∃ z, z = w6.setRow X (recCells rv) := ⟨_, rfl⟩
  have hk7 : Keeps (· ≠ X) w6 w7 := by rw [hw7]; exact keeps_setRow w6 X _ (fun h => h rfl)
  have H7 := H6.out.row rv
  rw [← hw7] at H7
  have HRc : Aside (RecFrom w5.heap.size w7 rv d) := hr6.keeps hk7 (fun j hj e => by have := HL5.out.1; omega)
  have HN7 := aside (new_of_keeps HN6.out hk7 HXE.out.1)
  have HO7 : Aside (RAt b t q false w7) := by
    have hat := ho6.at_
    exact ⟨cell_keeps hat.text hk7 (Ne.symm HXb.out.1), cell_keeps hat.pos hk7 (Ne.symm HXb.out.1), cell_keeps hat.bad hk7 (Ne.symm HXb.out.1)⟩
  have HRC7 := aside (cell_keeps (cell_keeps HRC5.out hk6 HRb.out) hk7 HRX.out)
  have HW7 := aside hw7
  have HXR := aside H6.out.record
  have H7 := aside H7
  clear hr6 hk6 ho6 hd hq hw7 hk7 cR hok H6 HN6
  have cR := HRC7.out
  go_wp2_with (first
    | (refine wpList_store_row rfl _ _ _ rfl X (recCells rv) rfl rfl 38 _ HXR.out hi0 rfl hone ?_; rw [← HW7.out])
    | fail)
  refine (left_any b t HTS.out q HQB.out false w7 HO7.out).mono ?_
  rintro e w8 ⟨rfl, hb8⟩
  rw [show leftV t q false = t.size - q from rfl]
  have H8 := aside (H7.out.on hb8)
  have HN8 := aside (HN7.out.trans (hb8.mono HN7.out.size))
  have HR8 := aside (HRc.out.on hb8)
  clear hb8 cR hone hi0 HXR
  by_cases hgt : q < (t.size : Int)
  · have HE : Aside (readF t = ({}, 15)) := by rw [Aside, HRF2.out, if_pos (.inl (by omega))]
    have eg : decide (q < (t.size : Int)) = true := decide_eq_true hgt
    clear hgt
    have hone : (recCells {}).all (·.oneCell') = true := by kernel_rfl
    have hi0 : (Tryz.prog.info? 38).map (·.size) = some (recCells {}).size := by rw [recCells_size]; kernel_rfl
    obtain ⟨wz, hwz⟩ : ∃ z, z = w8.setRow X (recCells {}) := ⟨_, rfl⟩
    have hz := H8.out.row {}
    rw [← hwz] at hz
    have cE := hz.code
    have fE := hz.free
    have HF := H8.out.lay {} 15
    have HKF := rd_keeps w8 X E (recCells {}) (.int .i64 15)
    rw [← hwz] at HF HKF
    have HF := aside HF
    have HKF := aside HKF
    have HWZ := aside hwz
    have HXR := aside H8.out.record
    clear hz hwz
    go_wp2_with (first
      | (refine wpList_store_row rfl _ _ _ rfl X (recCells {}) rfl rfl 38 _ HXR.out hi0 rfl hone ?_; rw [← HWZ.out])
      | fail)
    refine leaves_cons (f := 26) (args := #[.pointer (some ⟨X, 0, none⟩), .pointer (some ⟨E, 0, none⟩)]) (by simp) (by simp [go_sem]) ?_
    refine (rcatch_idle X E _ _ _ HF.out).mono ?_
    rintro e u' w'' ⟨rfl, rfl, h1, h2⟩
    refine ⟨_, rd_results h1 _ rfl rfl, ?_⟩
    rw [HE.out]
    exact ⟨_, rfl, RecFrom.nil _ _, rd_below HN8.out (HKF.out.trans h2) HXE.out⟩
  · have HRF3 : Aside (readF t = if mayB d = false then ({}, 15) else (d, 0)) := by
      rw [Aside, HRF2.out]
      by_cases hm : mayB d = false
      · rw [if_pos (.inr hm), if_pos hm]
      · rw [if_neg (fun h => by rcases h with h | h; exact hgt (by omega); exact hm h), if_neg hm]
    have hrg : w8.rangeAt X 0 (recCells rv).toList := fun j v hv => by rw [Nat.zero_add, H8.out.record.cell j, ← Array.getElem?_toList]; exact hv
    have HRG := aside hrg
    have eg : decide (q < (t.size : Int)) = false := decide_eq_false hgt
    clear hgt
    have hi0 : (Tryz.prog.info? 38).map (·.size) = some (recCells rv).toList.length := by rw [Array.length_toList, recCells_size]; kernel_rfl
    clear hrg
    go_wp2_with (first
      | (refine wpList_load_midG (by rfl) _ _ rfl X 0 rfl _ _ HRG.out Tryz.underlying38 rfl hi0 (recCells rv) (Array.toArray_toList) ?_)
      | fail)
    refine (may_any rv d HDO.out w8 HR8.out.at_).mono ?_
    rintro e w9 ⟨rfl, hb9⟩
    have H9 := aside (H8.out.on hb9)
    have HN9 := aside (HN8.out.trans (hb9.mono HN8.out.size))
    have HR9 := aside (HR8.out.on hb9)
    obtain ⟨mb, hmb⟩ : ∃ mb, mb = mayB d := ⟨_, rfl⟩
    rw [← hmb] at HRF3 ⊢
    clear hb9 hi0 hmb HRG
    cases mb with
    | false =>
      have HE : Aside (readF t = ({}, 15)) := by rw [Aside, HRF3.out, if_pos rfl]
      have hone : (recCells {}).all (·.oneCell') = true := by kernel_rfl
      have hi0 : (Tryz.prog.info? 38).map (·.size) = some (recCells {}).size := by rw [recCells_size]; kernel_rfl
      obtain ⟨wz, hwz⟩ : ∃ z, z = w9.setRow X (recCells {}) := ⟨_, rfl⟩
      have hz := H9.out.row {}
      rw [← hwz] at hz
      have cE := hz.code
      have fE := hz.free
      have HF := H9.out.lay {} 15
      have HKF := rd_keeps w9 X E (recCells {}) (.int .i64 15)
      rw [← hwz] at HF HKF
      have HF := aside HF
      have HKF := aside HKF
      have HWZ := aside hwz
      have HXR := aside H9.out.record
      clear hz hwz
      go_wp2_with (first
        | (refine wpList_store_row rfl _ _ _ rfl X (recCells {}) rfl rfl 38 _ HXR.out hi0 rfl hone ?_; rw [← HWZ.out])
        | fail)
      refine leaves_cons (f := 26) (args := #[.pointer (some ⟨X, 0, none⟩), .pointer (some ⟨E, 0, none⟩)]) (by simp) (by simp [go_sem]) ?_
      refine (rcatch_idle X E _ _ _ HF.out).mono ?_
      rintro e u' w'' ⟨rfl, rfl, h1, h2⟩
      refine ⟨_, rd_results h1 _ rfl rfl, ?_⟩
      rw [HE.out]
      exact ⟨_, rfl, RecFrom.nil _ _, rd_below HN9.out (HKF.out.trans h2) HXE.out⟩
    | true =>
      have HE : Aside (readF t = (d, 0)) := by rw [Aside, HRF3.out, if_neg (by decide)]
      have hone := HR9.out.one
      have hi0 : (Tryz.prog.info? 38).map (·.size) = some (recCells rv).size := by rw [recCells_size]; kernel_rfl
      have hsame := H9.out.record.setSame
      have HSAME := aside hsame
      have HXR := aside H9.out.record
      have cE := H9.out.code
      have fE := H9.out.free
      have HF : Aside (RdAt (w9.setCell ⟨E, 0, none⟩ (.int .i64 0)) X E rv 0) := by
        have := H9.out.lay rv 0
        rw [hsame] at this
        exact this
      have HKF : Aside (Keeps (fun k => k ≠ X ∧ k ≠ E) w9 (w9.setCell ⟨E, 0, none⟩ (.int .i64 0))) := (Keeps.refl _ _).setCell (p := ⟨E, 0, none⟩) (.inr (fun h => h.2 rfl)) _
      have HBX : Aside (w5.heap.size > X ∧ w5.heap.size > E) := HL5.out
      clear hsame
      go_wp2_with (first
        | (refine wpList_load_row rfl _ _ rfl X rfl _ (recCells rv) (0, 0) _ HXR.out Tryz.underlying38 rfl hi0 ?_)
        | (refine wpList_store_row rfl _ _ _ rfl X (recCells rv) rfl rfl 38 _ HXR.out hi0 rfl hone ?_; rw [HSAME.out])
        | fail)
      refine leaves_cons (f := 26) (args := #[.pointer (some ⟨X, 0, none⟩), .pointer (some ⟨E, 0, none⟩)]) (by simp) (by simp [go_sem]) ?_
      refine (rcatch_idle X E _ _ _ HF.out).mono ?_
      rintro e u' w'' ⟨rfl, rfl, h1, h2⟩
      refine ⟨_, rd_results h1 _ rfl rfl, ?_⟩
      rw [HE.out]
      exact ⟨_, rfl, (HR9.out.keeps (HKF.out.trans h2) (fun j hj => by have := HBX.out; omega)).mono HN5.out.size, rd_below HN9.out (HKF.out.trans h2) HXE.out⟩
theorem read_rec (t : ByteArray) (hts : t.size ≤ 9223372036854775807) (w : World) : Calls Tryz.prog 8 #[.string t] w (ReadPost (readF t) w) := by
  by_cases h1 : 1 ≤ t.size
  · by_cases hk : withinB (getV t 0 1) 1 6 = true
    · exact read_kinds t hts h1 hk w
    · have hk' : withinB (getV t 0 1) 1 6 = false := by simpa using hk
      exact read_bad t hts h1 hk' (readF t) (by rw [readF, if_neg (by omega), if_pos hk']) w
  · exact read_empty t hts (by omega) (readF t) (by rw [readF, if_pos (by omega)]) w
end Go.Proofs.YtkpmcjfolncmmaaGreatDoor
