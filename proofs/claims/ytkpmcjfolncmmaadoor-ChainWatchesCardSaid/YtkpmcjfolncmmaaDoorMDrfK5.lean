/- (Draft).Record, kind 5. By program: gen/drf.py. -/
import Derived.Test.YtkpmcjfolncmmaaDoorMDrf1
set_option linter.all false
namespace Go.Proofs.YtkpmcjfolncmmaaDoor
open Go.RowKit

set_option maxHeartbeats 1000000 in
set_option maxRecDepth 100000 in
theorem draft_5 (d : DrV) (w : World) (h : DrAt w d) (hk : d.kind % 6 = 4) : Calls Tryd.prog 24 #[.agg (drCells d)] w (DrPost w) := by
  obtain ⟨kd, n0, n1, n2, n3, n4, g0, g1, g2, ba, nb, cb⟩ := d
  have H := aside h
  have b1 := h.kind
  have b2 := h.n0
  have b3 := h.n1
  have b4 := h.n2
  have b5 := h.n3
  have b6 := h.n4
  have b7 := h.g0
  have b8 := h.g1
  have b9 := h.g2
  dsimp only at hk b1 b2 b3 b4 b5 b6 b7 b8 b9
  clear h
  obtain ⟨w4, hw4⟩ : ∃ z, z = ((((w.alloc (.cells #[.int .u8 kd, .int .u16 n0, .int .u16 n1, .int .u16 n2, .int .u16 n3, .int .u16 n4, .int .u64 g0, .int .u64 g1, .int .u64 g2, .slice ba nb cb] 72)).alloc (.cells (recCells {}) 57)).alloc (.cells #[.int .u16 n0, .int .u16 n1, .int .u16 n2, .int .u16 n3, .int .u16 n4] 69)).alloc (.cells (recCells { kind := 5, tick := g2 / 2 }) 57)) := ⟨_, rfl⟩
  obtain ⟨D, hD⟩ : ∃ x, x = w.heap.size := ⟨_, rfl⟩
  obtain ⟨R, hR⟩ : ∃ x, x = w.heap.size + 1 := ⟨_, rfl⟩
  obtain ⟨N, hN⟩ : ∃ x, x = w.heap.size + 1 + 1 := ⟨_, rfl⟩
  obtain ⟨L, hL⟩ : ∃ x, x = w.heap.size + 1 + 1 + 1 := ⟨_, rfl⟩
  have H4 : DrIn w w4 D R N L ⟨kd, n0, n1, n2, n3, n4, g0, g1, g2, ba, nb, cb⟩ { kind := 5, tick := g2 / 2 } := by rw [hw4, hD, hR, hN, hL]; exact DrIn.begin_ H.out _
  have H4 := aside H4
  go_enter Tryd.func24, Tryd.ntmps24
  unfold drCells
  go_upto_region 2 with fail
  rw [show (#[.int .i64 0, .int .i64 0, .int .i64 0, .int .i64 0, .int .i64 0, .slice none 0 0, .int .u8 0, .int .u8 0, .int .u8 0, .int .u8 0, .int .u8 0, .int .u8 0, .int .u8 0, .int .u8 0, .int .u8 0, .int .u8 0, .int .u8 0, .int .u8 0, .int .u8 0, .int .u8 0, .int .u8 0, .int .u8 0, .int .u8 0, .int .u8 0, .int .u8 0, .int .u8 0, .int .u8 0, .int .u8 0, .int .u8 0, .int .u8 0, .int .u8 0, .int .u8 0, .int .u8 0, .int .u8 0, .int .u8 0, .int .u8 0, .int .u8 0, .int .u8 0, .int .u64 0, .int .u64 0, .int .i64 0, .int .i64 0, .int .u64 0, .int .i64 0, .int .i64 0, .int .i64 0, .int .i64 0, .slice none 0 0, .slice none 0 0] : Array Value) = recCells {} from rfl]
  obtain ⟨w3, hw3⟩ : ∃ z, z = (((w.alloc (.cells #[.int .u8 kd, .int .u16 n0, .int .u16 n1, .int .u16 n2, .int .u16 n3, .int .u16 n4, .int .u64 g0, .int .u64 g1, .int .u64 g2, .slice ba nb cb] 72)).alloc (.cells (recCells {}) 57)).alloc (.cells #[.int .u16 n0, .int .u16 n1, .int .u16 n2, .int .u16 n3, .int .u16 n4] 69)) := ⟨_, rfl⟩
  rw [← hw3] at hw4 ⊢
  have s3 : w3.heap.size = w.heap.size + 1 + 1 + 1 := by rw [hw3]; simp
  have h3 : w3.heap[w.heap.size]? = some (.cells #[.int .u8 kd, .int .u16 n0, .int .u16 n1, .int .u16 n2, .int .u16 n3, .int .u16 n4, .int .u64 g0, .int .u64 g1, .int .u64 g2, .slice ba nb cb] 72 (0, 0)) := by
    rw [hw3]
    refine whole_new (whole_new (heap_new _ _) (new_alloc _ _)) (new_alloc _ _)
  have c0 : w3.cell? ⟨w.heap.size, 0, none⟩ = some (.int .u8 kd) := cell_whole h3 0
  have c8 : w3.cell? ⟨w.heap.size, 8, none⟩ = some (.int .u64 g2) := cell_whole h3 8
  clear h3
  have HD := aside hD
  have HR := aside hR
  have HN := aside hN
  have HL := aside hL
  clear hD hR hN hL
  have HST : Aside ((Instr.storeAt 57 (.pointer (some ⟨w.heap.size + 1 + 1 + 1, 0, none⟩)) (.agg (recCells { kind := 5, tick := g2 / 2 }))).run Tryd.prog (w3.alloc (.cells #[.int .i64 0, .int .i64 0, .int .i64 0, .int .i64 0, .int .i64 0, .slice none 0 0, .int .u8 0, .int .u8 0, .int .u8 0, .int .u8 0, .int .u8 0, .int .u8 0, .int .u8 0, .int .u8 0, .int .u8 0, .int .u8 0, .int .u8 0, .int .u8 0, .int .u8 0, .int .u8 0, .int .u8 0, .int .u8 0, .int .u8 0, .int .u8 0, .int .u8 0, .int .u8 0, .int .u8 0, .int .u8 0, .int .u8 0, .int .u8 0, .int .u8 0, .int .u8 0, .int .u8 0, .int .u8 0, .int .u8 0, .int .u8 0, .int .u8 0, .int .u8 0, .int .u64 0, .int .u64 0, .int .i64 0, .int .i64 0, .int .u64 0, .int .i64 0, .int .i64 0, .int .i64 0, .int .i64 0, .slice none 0 0, .slice none 0 0] 57)) = .ok () w4) := by
    rw [Aside, hw4, ← s3]
    exact run_storeAt_new' w3 57 (recCells {}) _ (by rw [recCells_size]; kernel_rfl) rfl (recCells_one _ rfl rfl rfl)
  clear hw3 hw4
  go_upto_region 3 with (first
    | (refine wpList_build_by rfl 57 _ rfl [(0, .int .i64 5), (4, .int .i64 (g2 / 2))] rfl _ (build_kt _ _ _) ?_)
    | (refine wpList_store_by rfl 57 _ _ rfl _ _ rfl rfl HST.out ?_)
    | fail)
  rw [← HL.out, ← HN.out, ← HR.out, ← HD.out]
  clear c0 c8 s3 HST
  have hkd := H4.out.hl.kind
  have m0 := H4.out.m0
  have l1 := H4.out.hl.round
  have f1 := H4.out.hl.free 1
  dsimp only at hkd m0 l1
  go_upto_region 17 with fail
  obtain ⟨rd, hrd⟩ : ∃ x, x = n0 % 16 := ⟨_, rfl⟩
  have hrb : 0 ≤ rd ∧ rd ≤ 15 := by omega
  rw [← hrd]
  obtain ⟨w5, hw5⟩ : ∃ z, z = w4.setCell ⟨L, 1, none⟩ (.int .i64 rd) := ⟨_, rfl⟩
  have H5 : DrIn w w5 D R N L ⟨kd, n0, n1, n2, n3, n4, g0, g1, g2, ba, nb, cb⟩ { kind := 5, round := rd, tick := g2 / 2 } := by rw [hw5]; exact H4.out.set 1 _ (H4.out.hl.setRound rd)
  have H5 := aside H5
  rw [← hw5]
  clear hw5 hrd H4 hkd m0 l1 f1
  have HTK : Aside (0 ≤ g2 / 2 ∧ g2 / 2 ≤ 9223372036854775807) := by rw [Aside]; omega
  obtain ⟨tk, htk⟩ : ∃ x, x = g2 / 2 := ⟨_, rfl⟩
  rw [← htk] at H5 HTK
  have hkd := H5.out.hl.kind
  have m1 := H5.out.m1
  have l40 := H5.out.hl.state
  have l41 := H5.out.hl.winner
  have l42 := H5.out.hl.price
  have f40 := H5.out.hl.free 40
  have f41 := H5.out.hl.free 41
  have f42 := H5.out.hl.free 42
  dsimp only at hkd m1 l40 l41 l42
  go_upto_region 35 with fail
  obtain ⟨w6, hw6⟩ : ∃ z, z = ((w5.setCell ⟨L, 40, none⟩ (.int .i64 3)).setCell ⟨L, 41, none⟩ (.int .i64 (-1))).setCell ⟨L, 42, none⟩ (.int .u64 0) := ⟨_, rfl⟩
  have H6 : DrIn w w6 D R N L ⟨kd, n0, n1, n2, n3, n4, g0, g1, g2, ba, nb, cb⟩ { kind := 5, round := rd, tick := tk, state := 3, winner := -1, price := 0 } := by
    rw [hw6]
    have h1 := H5.out.set 40 (.int .i64 3) (H5.out.hl.setState 3)
    have h2 := h1.set 41 (.int .i64 (-1)) (h1.hl.setWinner (-1))
    exact h2.set 42 (.int .u64 0) (h2.hl.setPrice 0)
  have H6 := aside H6
  rw [← hw6]
  clear hw6 H5 hkd m1 l40 l41 l42 f40 f41 f42
  have m1 := H6.out.m1
  dsimp only at m1
  by_cases hm : n1 % 3 = 0
  · have HO : Aside (mayB { kind := 5, round := rd, tick := tk, state := 3, winner := -1, price := 0 } = true ∧ RecD.ok { kind := 5, round := rd, tick := tk, state := 3, winner := -1, price := 0 }) := may5 _ _ _ _ _ HTK.out hrb (.inl ⟨rfl, rfl, rfl⟩)
    go_upto_region 37 with fail
    have hrg : w6.rangeAt L 0 (recCells { kind := 5, round := rd, tick := tk, state := 3, winner := -1, price := 0 }).toList := fun j v hv => by rw [Nat.zero_add, H6.out.hl.cell j, ← Array.getElem?_toList]; exact hv
    have HRG := aside hrg
    have hi1 : (Tryd.prog.info? 57).map (·.size) = some (recCells { kind := 5, round := rd, tick := tk, state := 3, winner := -1, price := 0 }).toList.length := by rw [Array.length_toList, recCells_size]; kernel_rfl
    have hi0 : (Tryd.prog.info? 57).map (·.size) = some (recCells { kind := 5, round := rd, tick := tk, state := 3, winner := -1, price := 0 }).size := by rw [recCells_size]; kernel_rfl
    have HRF : Aside (RecFrom w.heap.size w6 { kind := 5, round := rd, tick := tk, state := 3, winner := -1, price := 0 } ({ kind := 5, round := rd, tick := tk, state := 3, winner := -1, price := 0 } : RecD)) := ⟨.slice none 0 0, .slice none 0 0, .slice none 0 0, by simp only [RecD.toV, rep_getD], RowIF.nil _ _, RowLF.nil _ _, RowIF.nil _ _⟩
    have hone := HRF.out.one
    obtain ⟨wz, hwz⟩ : ∃ z, z = w6.setRow R (recCells { kind := 5, round := rd, tick := tk, state := 3, winner := -1, price := 0 }) := ⟨_, rfl⟩
    have HRZ : Aside (RecIn wz R { kind := 5, round := rd, tick := tk, state := 3, winner := -1, price := 0 }) := by rw [hwz]; exact H6.out.hr.setRow _
    have HKZ : Keeps (· ≠ R) w6 wz := by rw [hwz]; exact keeps_setRow w6 R _ (fun h => h rfl)
    have HBZ : Aside (Below w.heap.size w wz) := new_of_keeps H6.out.old HKZ H6.out.nR
    have HRFZ : Aside (RecFrom w.heap.size wz { kind := 5, round := rd, tick := tk, state := 3, winner := -1, price := 0 } _) := HRF.out.keepsT HKZ (fun k hb e => by subst e; exact row_not_rec hb H6.out.hr)
    have HWZ := aside hwz
    have HXR := aside H6.out.hr
    clear hrg hwz HKZ
    go_wp2_with (first
      | (refine wpList_load_midG (by rfl) _ _ rfl L 0 rfl _ _ HRG.out Tryd.underlying57 rfl hi1 (recCells { kind := 5, round := rd, tick := tk, state := 3, winner := -1, price := 0 }) (Array.toArray_toList) ?_)
      | (refine wpList_store_row rfl _ _ _ rfl R (recCells { kind := 5, round := rd, tick := tk, state := 3, winner := -1, price := 0 }) rfl rfl 57 _ HXR.out hi0 rfl hone ?_; rw [← HWZ.out])
      | fail)
    refine bodyPost_ret_by (dr_results HRZ.out _ rfl) rfl ?_
    exact ⟨_, _, rfl, HRFZ.out, HO.out.1, HO.out.2, HBZ.out⟩
  · have m2 := H6.out.m2
    have c6 := H6.out.c6
    have l40 := H6.out.hl.state
    have l41 := H6.out.hl.winner
    have l42 := H6.out.hl.price
    have f40 := H6.out.hl.free 40
    have f41 := H6.out.hl.free 41
    have f42 := H6.out.hl.free 42
    dsimp only at m2 c6 l40 l41 l42
    obtain ⟨wi, hwi⟩ : ∃ x, x = n2 % 8 := ⟨_, rfl⟩
    have hwb : 0 ≤ wi ∧ wi ≤ 7 := by omega
    obtain ⟨pr, hpr⟩ : ∃ x, x = g0 % 16777217 := ⟨_, rfl⟩
    have hpb : 0 ≤ pr ∧ pr ≤ 16777216 := by omega
    have h12 : n1 % 3 = 1 ∨ n1 % 3 = 2 := by omega
    go_upto_region 37 with fail
    obtain ⟨st, hst⟩ : ∃ x, x = wrap64 (2 + wrap64 (wrap64 (IntKind.u16.wrap ((n1 % 3).tdiv 2)) * 2)) := ⟨_, rfl⟩
    have hs24 : st = 2 ∨ st = 4 := by
      rw [hst]
      rcases h12 with h | h
      · rw [h]; exact Or.inl (by kernel_rfl)
      · rw [h]; exact Or.inr (by kernel_rfl)
    rw [← hst, ← hwi, ← hpr]
    obtain ⟨w7, hw7⟩ : ∃ z, z = ((w6.setCell ⟨L, 40, none⟩ (.int .i64 st)).setCell ⟨L, 41, none⟩ (.int .i64 wi)).setCell ⟨L, 42, none⟩ (.int .u64 pr) := ⟨_, rfl⟩
    have H7 : DrIn w w7 D R N L ⟨kd, n0, n1, n2, n3, n4, g0, g1, g2, ba, nb, cb⟩ { kind := 5, round := rd, tick := tk, state := st, winner := wi, price := pr } := by
      rw [hw7]
      have h1 := H6.out.set 40 (.int .i64 st) (H6.out.hl.setState st)
      have h2 := h1.set 41 (.int .i64 wi) (h1.hl.setWinner wi)
      exact h2.set 42 (.int .u64 pr) (h2.hl.setPrice pr)
    have H7 := aside H7
    rw [← hw7]
    have HO : Aside (mayB { kind := 5, round := rd, tick := tk, state := st, winner := wi, price := pr } = true ∧ RecD.ok { kind := 5, round := rd, tick := tk, state := st, winner := wi, price := pr }) := may5 _ _ _ _ _ HTK.out hrb (.inr ⟨hs24, hwb, hpb⟩)
    clear hw7 hst hwi hpr H6 m1 m2 c6 l40 l41 l42 f40 f41 f42 hs24 h12 hm
    have hrg : w7.rangeAt L 0 (recCells { kind := 5, round := rd, tick := tk, state := st, winner := wi, price := pr }).toList := fun j v hv => by rw [Nat.zero_add, H7.out.hl.cell j, ← Array.getElem?_toList]; exact hv
    have HRG := aside hrg
    have hi1 : (Tryd.prog.info? 57).map (·.size) = some (recCells { kind := 5, round := rd, tick := tk, state := st, winner := wi, price := pr }).toList.length := by rw [Array.length_toList, recCells_size]; kernel_rfl
    have hi0 : (Tryd.prog.info? 57).map (·.size) = some (recCells { kind := 5, round := rd, tick := tk, state := st, winner := wi, price := pr }).size := by rw [recCells_size]; kernel_rfl
    have HRF : Aside (RecFrom w.heap.size w7 { kind := 5, round := rd, tick := tk, state := st, winner := wi, price := pr } ({ kind := 5, round := rd, tick := tk, state := st, winner := wi, price := pr } : RecD)) := ⟨.slice none 0 0, .slice none 0 0, .slice none 0 0, by simp only [RecD.toV, rep_getD], RowIF.nil _ _, RowLF.nil _ _, RowIF.nil _ _⟩
    have hone := HRF.out.one
    obtain ⟨wz, hwz⟩ : ∃ z, z = w7.setRow R (recCells { kind := 5, round := rd, tick := tk, state := st, winner := wi, price := pr }) := ⟨_, rfl⟩
    have HRZ : Aside (RecIn wz R { kind := 5, round := rd, tick := tk, state := st, winner := wi, price := pr }) := by rw [hwz]; exact H7.out.hr.setRow _
    have HKZ : Keeps (· ≠ R) w7 wz := by rw [hwz]; exact keeps_setRow w7 R _ (fun h => h rfl)
    have HBZ : Aside (Below w.heap.size w wz) := new_of_keeps H7.out.old HKZ H7.out.nR
    have HRFZ : Aside (RecFrom w.heap.size wz { kind := 5, round := rd, tick := tk, state := st, winner := wi, price := pr } _) := HRF.out.keepsT HKZ (fun k hb e => by subst e; exact row_not_rec hb H7.out.hr)
    have HWZ := aside hwz
    have HXR := aside H7.out.hr
    clear hrg hwz HKZ
    go_wp2_with (first
      | (refine wpList_load_midG (by rfl) _ _ rfl L 0 rfl _ _ HRG.out Tryd.underlying57 rfl hi1 (recCells { kind := 5, round := rd, tick := tk, state := st, winner := wi, price := pr }) (Array.toArray_toList) ?_)
      | (refine wpList_store_row rfl _ _ _ rfl R (recCells { kind := 5, round := rd, tick := tk, state := st, winner := wi, price := pr }) rfl rfl 57 _ HXR.out hi0 rfl hone ?_; rw [← HWZ.out])
      | fail)
    refine bodyPost_ret_by (dr_results HRZ.out _ rfl) rfl ?_
    exact ⟨_, _, rfl, HRFZ.out, HO.out.1, HO.out.2, HBZ.out⟩

end Go.Proofs.YtkpmcjfolncmmaaDoor
