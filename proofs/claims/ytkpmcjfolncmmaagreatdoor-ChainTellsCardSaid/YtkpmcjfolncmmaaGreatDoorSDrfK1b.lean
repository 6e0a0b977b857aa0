/- (Draft).Record, kind 1. By program: gen/drf.py. -/
import Derived.Test.YtkpmcjfolncmmaaGreatDoorSDrf1
set_option linter.all false
namespace Go.Proofs.YtkpmcjfolncmmaaGreatDoor
open Go.RowKit
set_option maxHeartbeats 4000000 in
set_option maxRecDepth 100000 in
theorem draft_1b (d : DrV) (w : World) (h : DrAt w d) (hk : d.kind % 6 = 0) (hnb : 16 < d.nb) : Calls Tryz.prog 7 #[.agg (drCells d)] w (DrPost w) := by
  obtain ⟨kd, n0, n1, n2, n3, n4, g0, g1, g2, ba, nb, cb⟩ := d
  have H := aside h
  have b1 := h.kind
  have b2 := h.n0
  have b3 := h.n1
  have b4 := h.n2
  have b5 := h.n3
  have b6 := h.n4
  have b7 := h.g0
  have b8 := h.g1
  have b9 := h.g2
  dsimp only at hk hnb b1 b2 b3 b4 b5 b6 b7 b8 b9
  clear h
  obtain ⟨w4, hw4⟩ : ∃ z, z = ((((w.alloc (.cells #[.int .u8 kd, .int .u16 n0, .int .u16 n1, .int .u16 n2, .int .u16 n3, .int .u16 n4, .int .u64 g0, .int .u64 g1, .int .u64 g2, .slice ba nb cb] 28)).alloc (.cells (recCells {}) 38)).alloc (.cells #[.int .u16 n0, .int .u16 n1, .int .u16 n2, .int .u16 n3, .int .u16 n4] 23)).alloc (.cells (recCells { kind := 1, tick := g2 / 2 }) 38)) := ⟨_, rfl⟩
  obtain ⟨D, hD⟩ : ∃ x, x = w.heap.size := ⟨_, rfl⟩
  obtain ⟨R, hR⟩ : ∃ x, x = w.heap.size + 1 := ⟨_, rfl⟩
  obtain ⟨N, hN⟩ : ∃ x, x = w.heap.size + 1 + 1 := ⟨_, rfl⟩
  obtain ⟨L, hL⟩ : ∃ x, x = w.heap.size + 1 + 1 + 1 := ⟨_, rfl⟩
  have H4 : DrIn w w4 D R N L ⟨kd, n0, n1, n2, n3, n4, g0, g1, g2, ba, nb, cb⟩ { kind := 1, tick := g2 / 2 } := by rw [hw4, hD, hR, hN, hL]; exact DrIn.begin_ H.out _
  have H4 := aside H4
  go_enter Tryz.func7, Tryz.ntmps7
  unfold drCells
  go_upto_region 2 with fail
  rw [zR]
  obtain ⟨w3, hw3⟩ : ∃ z, z = (((w.alloc (.cells #[.int .u8 kd, .int .u16 n0, .int .u16 n1, .int .u16 n2, .int .u16 n3, .int .u16 n4, .int .u64 g0, .int .u64 g1, .int .u64 g2, .slice ba nb cb] 28)).alloc (.cells (recCells {}) 38)).alloc (.cells #[.int .u16 n0, .int .u16 n1, .int .u16 n2, .int .u16 n3, .int .u16 n4] 23)) := ⟨_, rfl⟩
  rw [← hw3] at hw4 ⊢
  have s3 : w3.heap.size = w.heap.size + 1 + 1 + 1 := by rw [hw3]; simp
  have h3 : w3.heap[w.heap.size]? = some (.cells #[.int .u8 kd, .int .u16 n0, .int .u16 n1, .int .u16 n2, .int .u16 n3, .int .u16 n4, .int .u64 g0, .int .u64 g1, .int .u64 g2, .slice ba nb cb] 28 (0, 0)) := by
    rw [hw3]
    refine whole_new (whole_new (heap_new _ _) (new_alloc _ _)) (new_alloc _ _)
  have c0 : w3.cell? ⟨w.heap.size, 0, none⟩ = some (.int .u8 kd) := cell_whole h3 0
  have c8 : w3.cell? ⟨w.heap.size, 8, none⟩ = some (.int .u64 g2) := cell_whole h3 8
  clear h3
  have HD := aside hD
  have HR := aside hR
  have HN := aside hN
  have HL := aside hL
  clear hD hR hN hL
  have HST : Aside ((Instr.storeAt 38 (.pointer (some ⟨w.heap.size + 1 + 1 + 1, 0, none⟩)) (.agg (recCells { kind := 1, tick := g2 / 2 }))).run Tryz.prog (w3.alloc (.cells (recCells {}) 38)) = .ok () w4) := by
    rw [Aside, hw4, ← s3]
    exact run_storeAt_new' w3 38 (recCells {}) _ (by rw [recCells_size]; kernel_rfl) rfl (recCells_one _ rfl rfl rfl)
  clear hw3 hw4
  go_upto_region 3 with (first
    | (refine wpList_build_by rfl 38 _ rfl [(0, .int .i64 1), (4, .int .i64 (g2 / 2))] rfl _ (build_kt _ _ _) ?_)
    | (refine wpList_store_by rfl 38 _ _ rfl _ _ rfl rfl HST.out ?_)
    | fail)
  rw [← HL.out, ← HN.out, ← HR.out, ← HD.out]
  clear c0 c8 s3 HST
  have hkd := H4.out.hl.kind
  have l4 := H4.out.hl.tick
  have f4 := H4.out.hl.free 4
  dsimp only at hkd l4
  go_upto_region 5 with fail
  obtain ⟨w5, hw5⟩ : ∃ z, z = w4.setCell ⟨L, 4, none⟩ (.int .i64 0) := ⟨_, rfl⟩
  have H5 : DrIn w w5 D R N L ⟨kd, n0, n1, n2, n3, n4, g0, g1, g2, ba, nb, cb⟩ { kind := 1 } := by rw [hw5]; exact H4.out.set 4 _ (H4.out.hl.setTick 0)
  have H5 := aside H5
  rw [← hw5]
  clear hw5 H4 hkd l4 f4
  have m0 := H5.out.m0
  have m1 := H5.out.m1
  have m2 := H5.out.m2
  have m3 := H5.out.m3
  have l43 := H5.out.hl.carriers
  have l44 := H5.out.hl.commit
  have l45 := H5.out.hl.reveal
  have l46 := H5.out.hl.scheme
  have f43 := H5.out.hl.free 43
  have f44 := H5.out.hl.free 44
  have f45 := H5.out.hl.free 45
  have f46 := H5.out.hl.free 46
  dsimp only at m0 m1 m2 m3 l43 l44 l45 l46
  have hNL := H5.out.nNL
  go_region_held3 (fun W => W.cell? ⟨N, 0, none⟩ = some (.int .u16 n0) ∧ W.cell? ⟨N, 1, none⟩ = some (.int .u16 n1) ∧ W.cell? ⟨N, 2, none⟩ = some (.int .u16 n2) ∧ W.cell? ⟨N, 3, none⟩ = some (.int .u16 n3)) (first | exact ⟨m0, m1, m2, m3⟩ | exact far4 hNL (by assumption)) (fail)
  have hca : 1 ≤ IntKind.i64.wrap (1 + IntKind.i64.wrap (n0.tmod 8)) ∧ IntKind.i64.wrap (1 + IntKind.i64.wrap (n0.tmod 8)) ≤ 8 := by
    rw [Int.tmod_eq_emod_of_nonneg b2.1, IntWalk.i64_in (n0 % 8) (by omega), IntWalk.i64_in _ (by omega)]; omega
  have hcm : 1 ≤ IntKind.i64.wrap (1 + IntKind.i64.wrap (n1.tmod 64)) ∧ IntKind.i64.wrap (1 + IntKind.i64.wrap (n1.tmod 64)) ≤ 64 := by
    rw [Int.tmod_eq_emod_of_nonneg b3.1, IntWalk.i64_in (n1 % 64) (by omega), IntWalk.i64_in _ (by omega)]; omega
  have hrv : 1 ≤ IntKind.i64.wrap (1 + IntKind.i64.wrap (n2.tmod 64)) ∧ IntKind.i64.wrap (1 + IntKind.i64.wrap (n2.tmod 64)) ≤ 64 := by
    rw [Int.tmod_eq_emod_of_nonneg b4.1, IntWalk.i64_in (n2 % 64) (by omega), IntWalk.i64_in _ (by omega)]; omega
  have hsc : 0 ≤ IntKind.i64.wrap (n3.tmod 2) ∧ IntKind.i64.wrap (n3.tmod 2) ≤ 1 := by
    rw [Int.tmod_eq_emod_of_nonneg b5.1, IntWalk.i64_in _ (by omega)]; omega
  obtain ⟨ca, hcae⟩ : ∃ x, x = IntKind.i64.wrap (1 + IntKind.i64.wrap (n0.tmod 8)) := ⟨_, rfl⟩
  obtain ⟨cm, hcme⟩ : ∃ x, x = IntKind.i64.wrap (1 + IntKind.i64.wrap (n1.tmod 64)) := ⟨_, rfl⟩
  obtain ⟨rv, hrve⟩ : ∃ x, x = IntKind.i64.wrap (1 + IntKind.i64.wrap (n2.tmod 64)) := ⟨_, rfl⟩
  obtain ⟨sc, hsce⟩ : ∃ x, x = IntKind.i64.wrap (n3.tmod 2) := ⟨_, rfl⟩
  rw [← hcae] at hca ⊢
  rw [← hcme] at hcm ⊢
  rw [← hrve] at hrv ⊢
  rw [← hsce] at hsc ⊢
  obtain ⟨w6, hw6⟩ : ∃ z, z = ((((w5.setCell ⟨L, 43, none⟩ (.int .i64 ca)).setCell ⟨L, 44, none⟩ (.int .i64 cm)).setCell ⟨L, 45, none⟩ (.int .i64 rv)).setCell ⟨L, 46, none⟩ (.int .i64 sc)).drew := ⟨_, rfl⟩
  have H6 : DrIn w w6 D R N L ⟨kd, n0, n1, n2, n3, n4, g0, g1, g2, ba, nb, cb⟩ { kind := 1, carriers := ca, commit := cm, reveal := rv, scheme := sc } := by
    rw [hw6]
    have h1 := H5.out.set 43 (.int .i64 ca) (H5.out.hl.setCarriers ca)
    have h2 := h1.set 44 (.int .i64 cm) (h1.hl.setCommit cm)
    have h3 := h2.set 45 (.int .i64 rv) (h2.hl.setReveal rv)
    exact (h3.set 46 (.int .i64 sc) (h3.hl.setScheme sc)).drew
  have H6 := aside H6
  rw [← hw6]
  have HNS : Aside ((1 ≤ ca ∧ ca ≤ 8) ∧ (1 ≤ cm ∧ cm ≤ 64) ∧ (1 ≤ rv ∧ rv ≤ 64) ∧ (0 ≤ sc ∧ sc ≤ 1)) := ⟨hca, hcm, hrv, hsc⟩
  clear hw6 hcae hcme hrve hsce H5 m0 m1 m2 m3 l43 l44 l45 l46 f43 f44 f45 f46 hca hcm hrv hsc
  obtain ⟨f, hf1, hf2⟩ := H.out.bytes
  dsimp only at hf2
  have HF1 := aside hf1
  have HF2 := aside hf2
  have hcap := H.out.cap
  have hlen := H.out.len
  dsimp only at hcap hlen
  clear hf1 hf2
  have HOW : Aside (w6.ownsRow w.heap.size 68 2 (.slice none 0 0) 0 (lotCells [])) := World.ownsRow_nil _ _ _ _
  go_wp2_with fail
  go_loopg [5] 16 (fun g v5 wr => ∃ (k : Nat) (xs : List (Int × Int)) (lv : Value), k ≤ 16 ∧ v5 = .int .i64 k ∧ 16 - k ≤ g ∧ xs.length = k ∧ Aside (LotsIn xs) ∧ Aside (DrIn w wr D R N L ⟨kd, n0, n1, n2, n3, n4, g0, g1, g2, ba, nb, cb⟩ { kind := 1, carriers := ca, commit := cm, reveal := rv, scheme := sc, lots := lv }) ∧ Aside (wr.ownsRow w.heap.size 68 2 lv k (lotCells xs)))
  case atStart => exact ⟨0, [], _, by omega, rfl, by omega, rfl, fun x h => by simp at h, H6, HOW⟩
  case round =>
    clear H6 HOW
    obtain ⟨k, xs, lv, hk, rfl, hg, hxl, HX, H7, HOW⟩ := hrel
    have c9 := H7.out.c9
    dsimp only at c9
    by_cases hk16 : k < 16
    · have hkn : k < nb := by omega
      have hki : (k : Int) < 16 := by omega
      have hni : (k : Int) < nb := by omega
      have HME : Aside (∀ q, 16 - k ≤ q → 16 - (k + 1) < q) := fun q h => by omega
      obtain ⟨lb, lo, rfl, hlb, hj⟩ := HF2.out (by omega)
      have hby0 := hj k hkn
      have hby : wr.cell? ⟨lb, lo + k, none⟩ = some (.int .u8 (f k)) := (H7.out.old.cell (p := ⟨lb, lo + k, none⟩) hlb).trans hby0
      have hfq := HF1.out k
      obtain ⟨z, hz⟩ : ∃ z, z = f k := ⟨_, rfl⟩
      rw [← hz] at hby hfq hby0
      have HBY0 := aside hby0
      obtain ⟨la, lc, hlv⟩ : ∃ a c, lv = .slice a k c := by obtain ⟨a, c, e, _⟩ := ownsRow_form HOW.out; exact ⟨a, c, e⟩
      subst hlv
      have c6 := H7.out.c6
      have l47 := H7.out.hl.lots
      have f47 := H7.out.hl.free 47
      dsimp only at c6 l47
      have hs2 : w.heap.size ≤ wr.heap.size := H7.out.old.size
      have l47a : ∀ o, (wr.alloc o).cell? ⟨L, 47, none⟩ = some (.slice la k lc) := fun o => (World.cell?_alloc_lt _ _ _ H7.out.hl.lt).trans l47
      have hLlt : L < wr.heap.size := H7.out.hl.lt
      have hLn1 : ¬ L = wr.heap.size := by omega
      have hLn2 : ¬ wr.heap.size = L := by omega
      clear hj hz hby0
      go_upto_region 9 with fail
      have hDL := H7.out.dL
      have hlbL : lb ≠ L := by have := H7.out.nL; omega
      have hs3 : ∀ W r, DrIn w W D R N L ⟨kd, n0, n1, n2, n3, n4, g0, g1, g2, some ⟨lb, lo, none⟩, nb, cb⟩ r → W.cell? ⟨D, 9, none⟩ = some (.slice (some ⟨lb, lo, none⟩) nb cb) ∧ W.cell? ⟨D, 6, none⟩ = some (.int .u64 g0) ∧ W.cell? ⟨lb, lo + k, none⟩ = some (.int .u8 z) := fun W r h => ⟨h.c9, h.c6, (h.old.cell (p := ⟨lb, lo + k, none⟩) hlb).trans HBY0.out⟩
      have hrq : 0 ≤ IntKind.i64.wrap (z.tmod 64) ∧ IntKind.i64.wrap (z.tmod 64) ≤ 63 := by
        rw [Int.tmod_eq_emod_of_nonneg hfq.1, IntWalk.i64_in _ (by omega)]; omega
      have HRQ := aside hrq
      clear hrq
      refine wp_region_held_drew (S := fun W => W.cell? ⟨D, 9, none⟩ = some (.slice (some ⟨lb, lo, none⟩) nb cb) ∧ W.cell? ⟨D, 6, none⟩ = some (.int .u64 g0) ∧ W.cell? ⟨lb, lo + k, none⟩ = some (.int .u8 z)) (by kernel_rfl) (hs3 _ _ (H7.out.new (new_drew _))) (fun hHeld => ?_)
      refine wpAnyH_take (i := 0) (oi := _) (v := .pointer (some ⟨L, 47, none⟩)) rfl (by kernel_rfl) (by kernel_rfl) (by kernel_rfl) (fun _ _ _ h => h) (Or.inl ⟨by rfl, ?_⟩) hHeld ?_
      · intro W hSw
        obtain ⟨hS1, hS2, hS3⟩ := hSw
        go_simp
      simp only [Act.put, ps]
      refine wpAnyH_take (i := 2) (oi := _) (v := .pointer (some ⟨D, 9, none⟩)) rfl (by kernel_rfl) (by kernel_rfl) (by kernel_rfl) (fun _ _ _ h => h) (Or.inl ⟨by rfl, ?_⟩) hHeld ?_
      · intro W hSw
        obtain ⟨hS1, hS2, hS3⟩ := hSw
        go_simp
      simp only [Act.put, ps]
      refine wpAnyH_take (i := 3) (oi := _) (v := .slice (some ⟨lb, lo, none⟩) nb cb) rfl (by kernel_rfl) (by kernel_rfl) (by kernel_rfl) (fun _ _ _ h => h) (Or.inl ⟨by rfl, ?_⟩) hHeld ?_
      · intro W hSw
        obtain ⟨hS1, hS2, hS3⟩ := hSw
        go_simp
      simp only [Act.put, ps]
      refine wpAnyH_take (i := 4) (oi := _) (v := .int .i64 k) rfl (by kernel_rfl) (by kernel_rfl) (by kernel_rfl) (fun _ _ _ h => h) (Or.inl ⟨by rfl, ?_⟩) hHeld ?_
      · intro W hSw
        obtain ⟨hS1, hS2, hS3⟩ := hSw
        go_simp
      simp only [Act.put, ps]
      refine wpAnyH_take (i := 5) (oi := _) (v := .pointer (some ⟨lb, lo + k, none⟩)) rfl (by kernel_rfl) (by kernel_rfl) (by kernel_rfl) (fun _ _ _ h => h) (Or.inl ⟨by rfl, ?_⟩) hHeld ?_
      · intro W hSw
        obtain ⟨hS1, hS2, hS3⟩ := hSw
        go_simp
      simp only [Act.put, ps]
      refine wpAnyH_take (i := 6) (oi := _) (v := .int .u8 z) rfl (by kernel_rfl) (by kernel_rfl) (by kernel_rfl) (fun _ _ _ h => h) (Or.inl ⟨by rfl, ?_⟩) hHeld ?_
      · intro W hSw
        obtain ⟨hS1, hS2, hS3⟩ := hSw
        go_simp
      simp only [Act.put, ps]
      refine wpAnyH_take (i := 7) (oi := _) (v := .int .u8 (z.tmod 64)) rfl (by kernel_rfl) (by kernel_rfl) (by kernel_rfl) (fun _ _ _ h => h) (Or.inl ⟨by rfl, ?_⟩) hHeld ?_
      · intro W hSw
        obtain ⟨hS1, hS2, hS3⟩ := hSw
        go_simp
      simp only [Act.put, ps]
      refine wpAnyH_take (i := 8) (oi := _) (v := .int .i64 (IntKind.i64.wrap (z.tmod 64))) rfl (by kernel_rfl) (by kernel_rfl) (by kernel_rfl) (fun _ _ _ h => h) (Or.inl ⟨by rfl, ?_⟩) hHeld ?_
      · intro W hSw
        obtain ⟨hS1, hS2, hS3⟩ := hSw
        go_simp
      simp only [Act.put, ps]
      refine wpAnyH_take (i := 9) (oi := _) (v := .pointer (some ⟨D, 6, none⟩)) rfl (by kernel_rfl) (by kernel_rfl) (by kernel_rfl) (fun _ _ _ h => h) (Or.inl ⟨by rfl, ?_⟩) hHeld ?_
      · intro W hSw
        obtain ⟨hS1, hS2, hS3⟩ := hSw
        go_simp
      simp only [Act.put, ps]
      refine wpAnyH_take (i := 10) (oi := _) (v := .pointer (some ⟨D, 6, none⟩)) rfl (by kernel_rfl) (by kernel_rfl) (by kernel_rfl) (fun _ _ _ h => h) (Or.inl ⟨by rfl, ?_⟩) hHeld ?_
      · intro W hSw
        obtain ⟨hS1, hS2, hS3⟩ := hSw
        go_simp
      simp only [Act.put, ps]
      refine wpAnyH_take (i := 11) (oi := _) (v := .int .u64 g0) rfl (by kernel_rfl) (by kernel_rfl) (by kernel_rfl) (fun _ _ _ h => h) (Or.inl ⟨by rfl, ?_⟩) hHeld ?_
      · intro W hSw
        obtain ⟨hS1, hS2, hS3⟩ := hSw
        go_simp
      simp only [Act.put, ps]
      refine wpAnyH_take (i := 12) (oi := _) (v := .int .i64 k) rfl (by kernel_rfl) (by kernel_rfl) (by kernel_rfl) (fun _ _ _ h => h) (Or.inl ⟨by rfl, ?_⟩) hHeld ?_
      · intro W hSw
        obtain ⟨hS1, hS2, hS3⟩ := hSw
        go_simp
      simp only [Act.put, ps]
      refine wpAnyH_take (i := 13) (oi := _) (v := .int .u64 (IntKind.u64.wrap k)) rfl (by kernel_rfl) (by kernel_rfl) (by kernel_rfl) (fun _ _ _ h => h) (Or.inl ⟨by rfl, ?_⟩) hHeld ?_
      · intro W hSw
        obtain ⟨hS1, hS2, hS3⟩ := hSw
        go_simp
      simp only [Act.put, ps]
      refine wpAnyH_take (i := 14) (oi := _) (v := .int .u64 (g0 / 2 ^ min (IntKind.u64.wrap k).toNat 64)) rfl (by kernel_rfl) (by kernel_rfl) (by kernel_rfl) (fun _ _ _ h => h) (Or.inl ⟨by rfl, ?_⟩) hHeld ?_
      · intro W hSw
        obtain ⟨hS1, hS2, hS3⟩ := hSw
        go_simp
      simp only [Act.put, ps]
      refine wpAnyH_take (i := 15) (oi := _) (v := .int .i64 (IntKind.i64.wrap (g0 / 2 ^ min (IntKind.u64.wrap k).toNat 64))) rfl (by kernel_rfl) (by kernel_rfl) (by kernel_rfl) (fun _ _ _ h => h) (Or.inl ⟨by rfl, ?_⟩) hHeld ?_
      · intro W hSw
        obtain ⟨hS1, hS2, hS3⟩ := hSw
        go_simp
      simp only [Act.put, ps]
      refine wpAnyH_take (i := 16) (oi := _) (v := .int .i64 (bits BinOp.and IntKind.i64 (IntKind.i64.wrap (g0 / 2 ^ min (IntKind.u64.wrap k).toNat 64)) 16777215)) rfl (by kernel_rfl) (by kernel_rfl) (by kernel_rfl) (fun _ _ _ h => h) (Or.inl ⟨by rfl, ?_⟩) hHeld ?_
      · intro W hSw
        obtain ⟨hS1, hS2, hS3⟩ := hSw
        go_simp
      simp only [Act.put, ps]
      refine wpAnyH_take (i := 17) (oi := _) (v := .agg #[.int .i64 (IntKind.i64.wrap (z.tmod 64)), .int .i64 (bits BinOp.and IntKind.i64 (IntKind.i64.wrap (g0 / 2 ^ min (IntKind.u64.wrap k).toNat 64)) 16777215)]) rfl (by kernel_rfl) (by kernel_rfl) (by kernel_rfl) (fun _ _ _ h => h) (Or.inl ⟨by rfl, ?_⟩) hHeld ?_
      · intro W hSw
        obtain ⟨hS1, hS2, hS3⟩ := hSw
        go_simp
      simp only [Act.put, ps]
      refine wpAnyH_ready (rs := [1, 18]) (by kernel_rfl) (by simp) ?_
      refine AllReadyH.cons (o := _) rfl (fun K1 hK1 => ?_) (AllReadyH.cons (o := _) rfl (fun K2 hK2 => ?_) AllReadyH.nil)
      · go_simp
        refine hK1.out _ _ hHeld (fun hHeld => ?_)
        clear hK1 K1
        try simp only [Act.put, ps]
        refine wpAnyH_ready (rs := [18]) (by kernel_rfl) (by simp) ?_
        refine AllReadyH.cons (o := _) rfl (fun K3 hK3 => ?_) AllReadyH.nil
        go_simp
        refine hK3.out _ _ (hs3 _ _ (H7.out.new (new_trans (new_alloc _ _) (new_drew _)))) (fun hHeld => ?_)
        clear hK3 K3
        try simp only [Act.put, ps]
        refine wpAnyH_ready (rs := [19]) (by kernel_rfl) (by simp) ?_
        refine AllReadyH.cons (o := _) rfl (fun K4 hK4 => ?_) AllReadyH.nil
        refine step_append_one rfl _ _ 36 68 rfl (.agg #[.int .i64 0, .int .i64 0]) 2 16 Tryz.underlying36 Tryz.infoLot rfl (by decide) w.heap.size _ k _ rfl (World.ownsRow.alloc HOW.out _) wr.heap.size [.int .i64 (IntKind.i64.wrap (z.tmod 64)), .int .i64 (bits BinOp.and IntKind.i64 (IntKind.i64.wrap (g0 / 2 ^ min (IntKind.u64.wrap k).toNat 64)) 16777215)] rfl ?_ rfl ?_ ?_ ?_ ?_ ?_
        · simp [Value.oneCell']
        · intro j u hu
          refine (cell_new wr #[.int .i64 (IntKind.i64.wrap (z.tmod 64)), .int .i64 (bits BinOp.and IntKind.i64 (IntKind.i64.wrap (g0 / 2 ^ min (IntKind.u64.wrap k).toNat 64)) 16777215)] 68 j).trans ?_
          match j, hu with | 0, hu => simpa using hu | 1, hu => simpa using hu | j + 2, hu => simp at hu
        · unfold maxLen; omega
        · omega
        · simp; omega
        intro v' w3 hown' hgrow
        have H8 : DrIn w w3 D R N L ⟨kd, n0, n1, n2, n3, n4, g0, g1, g2, some ⟨lb, lo, none⟩, nb, cb⟩ { kind := 1, carriers := ca, commit := cm, reveal := rv, scheme := sc, lots := .slice la k lc } :=
          H7.out.grow (.inr rfl) (own_block HOW.out) (fun K hK => (keeps_of_new (new_trans (new_alloc _ _) (new_drew _)) K).trans (keeps_grown hgrow K hK))
        have hs9 := hs3 _ _ H8
        have l8 := H8.hl.lots
        have f8 := H8.hl.free 47
        dsimp only at l8
        obtain ⟨av, cv, hv'⟩ : ∃ a c, v' = .slice a (k + 1) c := by obtain ⟨a, c, e, _⟩ := ownsRow_form hown'; exact ⟨a, c, e⟩
        subst hv'
        have H8 := aside H8
        have HOW8 := aside hown'
        clear hown' hgrow
        refine hK4.out _ _ hs9 (fun hHeld => ?_)
        clear hK4 K4
        try simp only [Act.put, ps]
        refine wpAnyH_take (i := 20) (oi := _) (v := .pointer (some ⟨L, 47, none⟩)) rfl (by kernel_rfl) (by kernel_rfl) (by kernel_rfl) (fun _ _ _ h => h) (Or.inl ⟨by rfl, ?_⟩) hHeld ?_
        · intro W hSw
          obtain ⟨hS1, hS2, hS3⟩ := hSw
          go_simp
        simp only [Act.put, ps]
        refine wpAnyH_ready (rs := [21]) (by kernel_rfl) (by simp) ?_
        refine AllReadyH.cons (o := _) rfl (fun K5 hK5 => ?_) AllReadyH.nil
        go_simp
        refine hK5.out _ _ (far3 hDL hDL hlbL hHeld) (fun hHeld => ?_)
        clear hK5 K5
        try simp only [Act.put, ps]
        refine wpAnyH_done (by kernel_rfl) ?_ _
        obtain ⟨wn, hwn⟩ : ∃ x, x = w3.setCell ⟨L, 47, none⟩ (.slice av (k + 1) cv) := ⟨_, rfl⟩
        have H9 : Aside (DrIn w wn D R N L ⟨kd, n0, n1, n2, n3, n4, g0, g1, g2, some ⟨lb, lo, none⟩, nb, cb⟩ { kind := 1, carriers := ca, commit := cm, reveal := rv, scheme := sc, lots := .slice av (k + 1) cv }) := by rw [Aside, hwn]; exact H8.out.set 47 _ (H8.out.hl.setLots _)
        have HX9 := aside (HX.out.snoc HRQ.out (b := bits BinOp.and IntKind.i64 (IntKind.i64.wrap (g0 / 2 ^ min (IntKind.u64.wrap k).toNat 64)) 16777215) (by have := and24 (IntKind.i64.wrap (g0 / 2 ^ min (IntKind.u64.wrap k).toNat 64)); omega))
        have HOW9 : Aside (wn.ownsRow w.heap.size 68 2 (.slice av (k + 1) cv) (k + 1) (lotCells (xs ++ [(IntKind.i64.wrap (z.tmod 64), bits BinOp.and IntKind.i64 (IntKind.i64.wrap (g0 / 2 ^ min (IntKind.u64.wrap k).toNat 64)) 16777215)]))) := by
          rw [Aside, hwn, lotCells_snoc]
          refine ownsRow_keepsO HOW8.out ((Keeps.refl (· ≠ L) _).setCell (p := ⟨L, 47, none⟩) (.inr (fun h => h rfl)) _) (fun j hj e => ?_)
          subst e
          obtain ⟨_, cur, hcur⟩ := own_block HOW8.out j hj
          have := H8.out.hl
          unfold RecIn at this
          rw [this] at hcur
          simp at hcur
        have HXL9 : Aside ((xs ++ [(IntKind.i64.wrap (z.tmod 64), bits BinOp.and IntKind.i64 (IntKind.i64.wrap (g0 / 2 ^ min (IntKind.u64.wrap k).toNat 64)) 16777215)]).length = k + 1) := by rw [Aside, List.length_append, hxl]; rfl
        rw [← hwn]
        clear hwn l8 f8 hs9 H7 HOW HX H8 HOW8
        go_wp2_with fail
        go_roundg (16 - (k + 1))
        case measure => exact HME.out _ hg
        case rel => exact ⟨k + 1, _, _, hk16, by go_num, Nat.le_refl _, HXL9.out, HX9, H9, HOW9⟩
      · go_simp
        refine hK2.out _ _ (hs3 _ _ (H7.out.new (new_trans (new_alloc _ _) (new_drew _)))) (fun hHeld => ?_)
        clear hK2 K2
        try simp only [Act.put, ps]
        refine wpAnyH_ready (rs := [1]) (by kernel_rfl) (by simp) ?_
        refine AllReadyH.cons (o := _) rfl (fun K3 hK3 => ?_) AllReadyH.nil
        go_simp
        refine hK3.out _ _ (hHeld) (fun hHeld => ?_)
        clear hK3 K3
        try simp only [Act.put, ps]
        refine wpAnyH_ready (rs := [19]) (by kernel_rfl) (by simp) ?_
        refine AllReadyH.cons (o := _) rfl (fun K4 hK4 => ?_) AllReadyH.nil
        refine step_append_one rfl _ _ 36 68 rfl (.agg #[.int .i64 0, .int .i64 0]) 2 16 Tryz.underlying36 Tryz.infoLot rfl (by decide) w.heap.size _ k _ rfl (World.ownsRow.alloc HOW.out _) wr.heap.size [.int .i64 (IntKind.i64.wrap (z.tmod 64)), .int .i64 (bits BinOp.and IntKind.i64 (IntKind.i64.wrap (g0 / 2 ^ min (IntKind.u64.wrap k).toNat 64)) 16777215)] rfl ?_ rfl ?_ ?_ ?_ ?_ ?_
        · simp [Value.oneCell']
        · intro j u hu
          refine (cell_new wr #[.int .i64 (IntKind.i64.wrap (z.tmod 64)), .int .i64 (bits BinOp.and IntKind.i64 (IntKind.i64.wrap (g0 / 2 ^ min (IntKind.u64.wrap k).toNat 64)) 16777215)] 68 j).trans ?_
          match j, hu with | 0, hu => simpa using hu | 1, hu => simpa using hu | j + 2, hu => simp at hu
        · unfold maxLen; omega
        · omega
        · simp; omega
        intro v' w3 hown' hgrow
        have H8 : DrIn w w3 D R N L ⟨kd, n0, n1, n2, n3, n4, g0, g1, g2, some ⟨lb, lo, none⟩, nb, cb⟩ { kind := 1, carriers := ca, commit := cm, reveal := rv, scheme := sc, lots := .slice la k lc } :=
          H7.out.grow (.inr rfl) (own_block HOW.out) (fun K hK => (keeps_of_new (new_trans (new_alloc _ _) (new_drew _)) K).trans (keeps_grown hgrow K hK))
        have hs9 := hs3 _ _ H8
        have l8 := H8.hl.lots
        have f8 := H8.hl.free 47
        dsimp only at l8
        obtain ⟨av, cv, hv'⟩ : ∃ a c, v' = .slice a (k + 1) c := by obtain ⟨a, c, e, _⟩ := ownsRow_form hown'; exact ⟨a, c, e⟩
        subst hv'
        have H8 := aside H8
        have HOW8 := aside hown'
        clear hown' hgrow
        refine hK4.out _ _ hs9 (fun hHeld => ?_)
        clear hK4 K4
        try simp only [Act.put, ps]
        refine wpAnyH_take (i := 20) (oi := _) (v := .pointer (some ⟨L, 47, none⟩)) rfl (by kernel_rfl) (by kernel_rfl) (by kernel_rfl) (fun _ _ _ h => h) (Or.inl ⟨by rfl, ?_⟩) hHeld ?_
        · intro W hSw
          obtain ⟨hS1, hS2, hS3⟩ := hSw
          go_simp
        simp only [Act.put, ps]
        refine wpAnyH_ready (rs := [21]) (by kernel_rfl) (by simp) ?_
        refine AllReadyH.cons (o := _) rfl (fun K5 hK5 => ?_) AllReadyH.nil
        go_simp
        refine hK5.out _ _ (far3 hDL hDL hlbL hHeld) (fun hHeld => ?_)
        clear hK5 K5
        try simp only [Act.put, ps]
        refine wpAnyH_done (by kernel_rfl) ?_ _
        obtain ⟨wn, hwn⟩ : ∃ x, x = w3.setCell ⟨L, 47, none⟩ (.slice av (k + 1) cv) := ⟨_, rfl⟩
        have H9 : Aside (DrIn w wn D R N L ⟨kd, n0, n1, n2, n3, n4, g0, g1, g2, some ⟨lb, lo, none⟩, nb, cb⟩ { kind := 1, carriers := ca, commit := cm, reveal := rv, scheme := sc, lots := .slice av (k + 1) cv }) := by rw [Aside, hwn]; exact H8.out.set 47 _ (H8.out.hl.setLots _)
        have HX9 := aside (HX.out.snoc HRQ.out (b := bits BinOp.and IntKind.i64 (IntKind.i64.wrap (g0 / 2 ^ min (IntKind.u64.wrap k).toNat 64)) 16777215) (by have := and24 (IntKind.i64.wrap (g0 / 2 ^ min (IntKind.u64.wrap k).toNat 64)); omega))
        have HOW9 : Aside (wn.ownsRow w.heap.size 68 2 (.slice av (k + 1) cv) (k + 1) (lotCells (xs ++ [(IntKind.i64.wrap (z.tmod 64), bits BinOp.and IntKind.i64 (IntKind.i64.wrap (g0 / 2 ^ min (IntKind.u64.wrap k).toNat 64)) 16777215)]))) := by
          rw [Aside, hwn, lotCells_snoc]
          refine ownsRow_keepsO HOW8.out ((Keeps.refl (· ≠ L) _).setCell (p := ⟨L, 47, none⟩) (.inr (fun h => h rfl)) _) (fun j hj e => ?_)
          subst e
          obtain ⟨_, cur, hcur⟩ := own_block HOW8.out j hj
          have := H8.out.hl
          unfold RecIn at this
          rw [this] at hcur
          simp at hcur
        have HXL9 : Aside ((xs ++ [(IntKind.i64.wrap (z.tmod 64), bits BinOp.and IntKind.i64 (IntKind.i64.wrap (g0 / 2 ^ min (IntKind.u64.wrap k).toNat 64)) 16777215)]).length = k + 1) := by rw [Aside, List.length_append, hxl]; rfl
        rw [← hwn]
        clear hwn l8 f8 hs9 H7 HOW HX H8 HOW8
        go_wp2_with fail
        go_roundg (16 - (k + 1))
        case measure => exact HME.out _ hg
        case rel => exact ⟨k + 1, _, _, hk16, by go_num, Nat.le_refl _, HXL9.out, HX9, H9, HOW9⟩
    · have hki : ¬ (k : Int) < 16 := by omega
      have hni : (k : Int) < nb := by omega
      have HXN : Aside (xs.length ≤ 16 ∧ k = xs.length) := by rw [Aside]; omega
      clear hg
      go_wp2_with fail
      go_loopg [6] 64 (fun g v6 wr => ∃ (j : Nat) (ys : List Int) (ov : Value), j ≤ 64 ∧ v6 = .int .i64 j ∧ 64 - j ≤ g ∧ ys.length = j ∧ Aside (∀ y ∈ ys, 0 ≤ y ∧ y ≤ 7) ∧ Aside (DrIn w wr D R N L ⟨kd, n0, n1, n2, n3, n4, g0, g1, g2, ba, nb, cb⟩ { kind := 1, carriers := ca, commit := cm, reveal := rv, scheme := sc, lots := lv, owners := ov }) ∧ Aside (wr.ownsRow w.heap.size 3 1 ov j (ys.map (Value.int .i64))) ∧ Aside (wr.ownsRow w.heap.size 68 2 lv k (lotCells xs)))
      case atStart => exact ⟨0, [], _, by omega, rfl, by omega, rfl, fun x h => by simp at h, H7, World.ownsRow_nil _ _ _ _, HOW⟩
      case round =>
        clear H7 HOW c9
        obtain ⟨j, ys, ov, hj64, rfl, hg, hyl, HY, H8, HOI, HOL⟩ := hrel
        have c9 := H8.out.c9
        have m4 := H8.out.m4
        dsimp only at c9 m4
        by_cases hcc : (j : Int) < n4 % 65 ∧ 0 < nb
        · obtain ⟨hjq, hnb⟩ := hcc
          have hni0 : (0 : Int) < nb := by omega
          have hj65 : j < 64 := by omega
          have HME : Aside (∀ q, 64 - j ≤ q → 64 - (j + 1) < q) := fun q h => by omega
          obtain ⟨lb, lo, rfl, hlb, hbj⟩ := HF2.out hnb
          obtain ⟨q, hq⟩ : ∃ q, q = j % nb := ⟨_, rfl⟩
          have hqn : q < nb := by rw [hq]; exact Nat.mod_lt _ hnb
          have hby0 := hbj q hqn
          have hby : wr.cell? ⟨lb, lo + q, none⟩ = some (.int .u8 (f q)) := (H8.out.old.cell (p := ⟨lb, lo + q, none⟩) hlb).trans hby0
          have hfq := HF1.out q
          obtain ⟨z, hz⟩ : ∃ z, z = f q := ⟨_, rfl⟩
          rw [← hz] at hby hfq hby0
          have HBY0 := aside hby0
          have hrem : (j : Int).tmod (nb : Int) = (q : Int) := by rw [hq]; rfl
          obtain ⟨oa, oc, hov⟩ : ∃ a c, ov = .slice a j c := by obtain ⟨a, c, e, _⟩ := ownsRow_form HOI.out; exact ⟨a, c, e⟩
          subst hov
          have l48 := H8.out.hl.owners
          have f48 := H8.out.hl.free 48
          have c6 := H8.out.c6
          dsimp only at l48 c6
          have hs2 : w.heap.size ≤ wr.heap.size := H8.out.old.size
          have l48a : ∀ o, (wr.alloc o).cell? ⟨L, 48, none⟩ = some (.slice oa j oc) := fun o => (World.cell?_alloc_lt _ _ _ H8.out.hl.lt).trans l48
          have hLlt : L < wr.heap.size := H8.out.hl.lt
          have hLn1 : ¬ L = wr.heap.size := by omega
          have hLn2 : ¬ wr.heap.size = L := by omega
          have hqi : (q : Int) < nb := by omega
          have hz0 : ¬ nb = 0 := by omega
          have hz1 : ((nb : Int) == 0) = false := by simpa using hz0
          have hz2 : ¬ (nb : Int) = 0 := by omega
          have HRQ : Aside (0 ≤ IntKind.i64.wrap (z.tmod 8) ∧ IntKind.i64.wrap (z.tmod 8) ≤ 7) := by
            rw [Aside, Int.tmod_eq_emod_of_nonneg hfq.1, IntWalk.i64_in _ (by omega)]; omega
          have hDL := H8.out.dL
          have hlbL : lb ≠ L := by have := H8.out.nL; omega
          have hs3 : ∀ W r, DrIn w W D R N L ⟨kd, n0, n1, n2, n3, n4, g0, g1, g2, some ⟨lb, lo, none⟩, nb, cb⟩ r → W.cell? ⟨D, 9, none⟩ = some (.slice (some ⟨lb, lo, none⟩) nb cb) ∧ W.cell? ⟨D, 6, none⟩ = some (.int .u64 g0) ∧ W.cell? ⟨lb, lo + q, none⟩ = some (.int .u8 z) := fun W r h => ⟨h.c9, h.c6, (h.old.cell (p := ⟨lb, lo + q, none⟩) hlb).trans HBY0.out⟩
          clear hbj hz hq hby0
          go_upto_region 13 with fail
          refine wp_region_held_drew (S := fun W => W.cell? ⟨D, 9, none⟩ = some (.slice (some ⟨lb, lo, none⟩) nb cb) ∧ W.cell? ⟨D, 6, none⟩ = some (.int .u64 g0) ∧ W.cell? ⟨lb, lo + q, none⟩ = some (.int .u8 z)) (by kernel_rfl) (hs3 _ _ (H8.out.new (new_drew _))) (fun hHeld => ?_)
          refine wpAnyH_take (i := 0) (oi := _) (v := .pointer (some ⟨L, 48, none⟩)) rfl (by kernel_rfl) (by kernel_rfl) (by kernel_rfl) (fun _ _ _ h => h) (Or.inl ⟨by rfl, ?_⟩) hHeld ?_
          · intro W hSw
            obtain ⟨hS1, hS2, hS3⟩ := hSw
            go_simp
          simp only [Act.put, ps]
          refine wpAnyH_take (i := 2) (oi := _) (v := .pointer (some ⟨D, 9, none⟩)) rfl (by kernel_rfl) (by kernel_rfl) (by kernel_rfl) (fun _ _ _ h => h) (Or.inl ⟨by rfl, ?_⟩) hHeld ?_
          · intro W hSw
            obtain ⟨hS1, hS2, hS3⟩ := hSw
            go_simp
          simp only [Act.put, ps]
          refine wpAnyH_take (i := 3) (oi := _) (v := .slice (some ⟨lb, lo, none⟩) nb cb) rfl (by kernel_rfl) (by kernel_rfl) (by kernel_rfl) (fun _ _ _ h => h) (Or.inl ⟨by rfl, ?_⟩) hHeld ?_
          · intro W hSw
            obtain ⟨hS1, hS2, hS3⟩ := hSw
            go_simp
          simp only [Act.put, ps]
          refine wpAnyH_take (i := 4) (oi := _) (v := .int .i64 j) rfl (by kernel_rfl) (by kernel_rfl) (by kernel_rfl) (fun _ _ _ h => h) (Or.inl ⟨by rfl, ?_⟩) hHeld ?_
          · intro W hSw
            obtain ⟨hS1, hS2, hS3⟩ := hSw
            go_simp
          simp only [Act.put, ps]
          refine wpAnyH_take (i := 5) (oi := _) (v := .pointer (some ⟨D, 9, none⟩)) rfl (by kernel_rfl) (by kernel_rfl) (by kernel_rfl) (fun _ _ _ h => h) (Or.inl ⟨by rfl, ?_⟩) hHeld ?_
          · intro W hSw
            obtain ⟨hS1, hS2, hS3⟩ := hSw
            go_simp
          simp only [Act.put, ps]
          refine wpAnyH_take (i := 6) (oi := _) (v := .slice (some ⟨lb, lo, none⟩) nb cb) rfl (by kernel_rfl) (by kernel_rfl) (by kernel_rfl) (fun _ _ _ h => h) (Or.inl ⟨by rfl, ?_⟩) hHeld ?_
          · intro W hSw
            obtain ⟨hS1, hS2, hS3⟩ := hSw
            go_simp
          simp only [Act.put, ps]
          refine wpAnyH_take (i := 7) (oi := _) (v := .int .i64 nb) rfl (by kernel_rfl) (by kernel_rfl) (by kernel_rfl) (fun _ _ _ h => h) (Or.inl ⟨by rfl, ?_⟩) hHeld ?_
          · intro W hSw
            obtain ⟨hS1, hS2, hS3⟩ := hSw
            go_simp
          simp only [Act.put, ps]
          refine wpAnyH_take (i := 8) (oi := _) (v := .int .i64 q) rfl (by kernel_rfl) (by kernel_rfl) (by kernel_rfl) (fun _ _ _ h => h) (Or.inl ⟨by rfl, ?_⟩) hHeld ?_
          · intro W hSw
            obtain ⟨hS1, hS2, hS3⟩ := hSw
            go_simp
          simp only [Act.put, ps]
          refine wpAnyH_take (i := 9) (oi := _) (v := .pointer (some ⟨lb, lo + q, none⟩)) rfl (by kernel_rfl) (by kernel_rfl) (by kernel_rfl) (fun _ _ _ h => h) (Or.inl ⟨by rfl, ?_⟩) hHeld ?_
          · intro W hSw
            obtain ⟨hS1, hS2, hS3⟩ := hSw
            go_simp
          simp only [Act.put, ps]
          refine wpAnyH_take (i := 10) (oi := _) (v := .int .u8 z) rfl (by kernel_rfl) (by kernel_rfl) (by kernel_rfl) (fun _ _ _ h => h) (Or.inl ⟨by rfl, ?_⟩) hHeld ?_
          · intro W hSw
            obtain ⟨hS1, hS2, hS3⟩ := hSw
            go_simp
          simp only [Act.put, ps]
          refine wpAnyH_take (i := 11) (oi := _) (v := .int .u8 (z.tmod 8)) rfl (by kernel_rfl) (by kernel_rfl) (by kernel_rfl) (fun _ _ _ h => h) (Or.inl ⟨by rfl, ?_⟩) hHeld ?_
          · intro W hSw
            obtain ⟨hS1, hS2, hS3⟩ := hSw
            go_simp
          simp only [Act.put, ps]
          refine wpAnyH_take (i := 12) (oi := _) (v := .int .i64 (IntKind.i64.wrap (z.tmod 8))) rfl (by kernel_rfl) (by kernel_rfl) (by kernel_rfl) (fun _ _ _ h => h) (Or.inl ⟨by rfl, ?_⟩) hHeld ?_
          · intro W hSw
            obtain ⟨hS1, hS2, hS3⟩ := hSw
            go_simp
          simp only [Act.put, ps]
          refine wpAnyH_ready (rs := [1, 13]) (by kernel_rfl) (by simp) ?_
          refine AllReadyH.cons (o := _) rfl (fun K1 hK1 => ?_) (AllReadyH.cons (o := _) rfl (fun K2 hK2 => ?_) AllReadyH.nil)
          · go_simp
            refine hK1.out _ _ hHeld (fun hHeld => ?_)
            clear hK1 K1
            try simp only [Act.put, ps]
            refine wpAnyH_ready (rs := [13]) (by kernel_rfl) (by simp) ?_
            refine AllReadyH.cons (o := _) rfl (fun K3 hK3 => ?_) AllReadyH.nil
            go_simp
            refine hK3.out _ _ (hs3 _ _ (H8.out.new (new_trans (new_alloc _ _) (new_drew _)))) (fun hHeld => ?_)
            clear hK3 K3
            try simp only [Act.put, ps]
            refine wpAnyH_ready (rs := [14]) (by kernel_rfl) (by simp) ?_
            refine AllReadyH.cons (o := _) rfl (fun K4 hK4 => ?_) AllReadyH.nil
            refine step_append_one rfl _ _ 31 3 rfl (.int .i64 0) 1 8 Tryz.underlying31 Tryz.infoInt rfl (by decide) w.heap.size _ j _ rfl (World.ownsRow.alloc HOI.out _) wr.heap.size [.int .i64 (IntKind.i64.wrap (z.tmod 8))] rfl ?_ rfl ?_ ?_ ?_ ?_ ?_
            · simp [Value.oneCell']
            · intro i u hu
              refine (cell_new wr #[.int .i64 (IntKind.i64.wrap (z.tmod 8))] 3 i).trans ?_
              match i, hu with | 0, hu => simpa using hu | i + 1, hu => simp at hu
            · unfold maxLen; omega
            · omega
            · simp; omega
            intro v' w3 hown' hgrow
            have hkg : ∀ K : Nat → Prop, (∀ k', (Value.slice oa j oc).ownBlock = some k' → ¬ K k') → Keeps K wr w3 := fun K hK => (keeps_of_new (new_trans (new_alloc _ _) (new_drew _)) K).trans (keeps_grown hgrow K hK)
            have H9 : DrIn w w3 D R N L ⟨kd, n0, n1, n2, n3, n4, g0, g1, g2, some ⟨lb, lo, none⟩, nb, cb⟩ { kind := 1, carriers := ca, commit := cm, reveal := rv, scheme := sc, lots := lv, owners := .slice oa j oc } := H8.out.grow (.inl rfl) (own_block HOI.out) hkg
            have hs9 := hs3 _ _ H9
            have l9 := H9.hl.owners
            have f9 := H9.hl.free 48
            dsimp only at l9
            have HOL9 : Aside (w3.ownsRow w.heap.size 68 2 lv k (lotCells xs)) :=
              ownsRow_keepsO HOL.out (hkg (fun k' => (Value.slice oa j oc).ownBlock ≠ some k') (fun k' e h => h e)) (fun k' hk' e => by
                obtain ⟨_, c1, h1⟩ := own_block HOL.out k' hk'
                obtain ⟨_, c2, h2⟩ := own_block HOI.out k' e
                rw [h1] at h2
                simp at h2)
            obtain ⟨av, cv, hv'⟩ : ∃ a c, v' = .slice a (j + 1) c := by obtain ⟨a, c, e, _⟩ := ownsRow_form hown'; exact ⟨a, c, e⟩
            subst hv'
            have H9 := aside H9
            have HOI9 := aside hown'
            clear hown' hgrow hkg
            refine hK4.out _ _ hs9 (fun hHeld => ?_)
            clear hK4 K4
            try simp only [Act.put, ps]
            refine wpAnyH_take (i := 15) (oi := _) (v := .pointer (some ⟨L, 48, none⟩)) rfl (by kernel_rfl) (by kernel_rfl) (by kernel_rfl) (fun _ _ _ h => h) (Or.inl ⟨by rfl, ?_⟩) hHeld ?_
            · intro W hSw
              obtain ⟨hS1, hS2, hS3⟩ := hSw
              go_simp
            simp only [Act.put, ps]
            refine wpAnyH_ready (rs := [16]) (by kernel_rfl) (by simp) ?_
            refine AllReadyH.cons (o := _) rfl (fun K5 hK5 => ?_) AllReadyH.nil
            go_simp
            refine hK5.out _ _ (far3 hDL hDL hlbL hHeld) (fun hHeld => ?_)
            clear hK5 K5
            try simp only [Act.put, ps]
            refine wpAnyH_done (by kernel_rfl) ?_ _
            obtain ⟨wn, hwn⟩ : ∃ x, x = w3.setCell ⟨L, 48, none⟩ (.slice av (j + 1) cv) := ⟨_, rfl⟩
            have hkL : Keeps (· ≠ L) w3 wn := by rw [hwn]; exact (Keeps.refl (· ≠ L) _).setCell (p := ⟨L, 48, none⟩) (.inr (fun h => h rfl)) _
            have hLr := H9.out.hl
            unfold RecIn at hLr
            have H10 : Aside (DrIn w wn D R N L ⟨kd, n0, n1, n2, n3, n4, g0, g1, g2, some ⟨lb, lo, none⟩, nb, cb⟩ { kind := 1, carriers := ca, commit := cm, reveal := rv, scheme := sc, lots := lv, owners := .slice av (j + 1) cv }) := by rw [Aside, hwn]; exact H9.out.set 48 _ (H9.out.hl.setOwners _)
            have HY10 : Aside (∀ y ∈ ys ++ [IntKind.i64.wrap (z.tmod 8)], 0 ≤ y ∧ y ≤ 7) := fun y hy => by
              rcases List.mem_append.1 hy with h1 | h1
              · exact HY.out y h1
              · rw [List.mem_singleton.1 h1]; exact HRQ.out
            have HOI10 : Aside (wn.ownsRow w.heap.size 3 1 (.slice av (j + 1) cv) (j + 1) ((ys ++ [IntKind.i64.wrap (z.tmod 8)]).map (Value.int .i64))) := by
              rw [Aside, List.map_append]
              refine ownsRow_keepsO HOI9.out hkL (fun i hi e => ?_)
              subst e
              obtain ⟨_, cur, hcur⟩ := own_block HOI9.out i hi
              rw [hLr] at hcur
              simp at hcur
            have HOL10 : Aside (wn.ownsRow w.heap.size 68 2 lv k (lotCells xs)) := by
              refine ownsRow_keepsO HOL9.out hkL (fun i hi e => ?_)
              subst e
              obtain ⟨_, cur, hcur⟩ := own_block HOL9.out i hi
              rw [hLr] at hcur
              simp at hcur
            have HYL : Aside ((ys ++ [IntKind.i64.wrap (z.tmod 8)]).length = j + 1) := by rw [Aside, List.length_append, hyl]; rfl
            rw [← hwn]
            clear hwn l9 f9 hs9 H8 HOI HOL HY H9 HOI9 HOL9 hkL hLr
            go_wp2_with fail
            go_roundg (64 - (j + 1))
            case measure => exact HME.out _ hg
            case rel => exact ⟨j + 1, _, _, hj65, by go_num, Nat.le_refl _, HYL.out, HY10, H10, HOI10, HOL10⟩
          · go_simp
            refine hK2.out _ _ (hs3 _ _ (H8.out.new (new_trans (new_alloc _ _) (new_drew _)))) (fun hHeld => ?_)
            clear hK2 K2
            try simp only [Act.put, ps]
            refine wpAnyH_ready (rs := [1]) (by kernel_rfl) (by simp) ?_
            refine AllReadyH.cons (o := _) rfl (fun K3 hK3 => ?_) AllReadyH.nil
            go_simp
            refine hK3.out _ _ (hHeld) (fun hHeld => ?_)
            clear hK3 K3
            try simp only [Act.put, ps]
            refine wpAnyH_ready (rs := [14]) (by kernel_rfl) (by simp) ?_
            refine AllReadyH.cons (o := _) rfl (fun K4 hK4 => ?_) AllReadyH.nil
            refine step_append_one rfl _ _ 31 3 rfl (.int .i64 0) 1 8 Tryz.underlying31 Tryz.infoInt rfl (by decide) w.heap.size _ j _ rfl (World.ownsRow.alloc HOI.out _) wr.heap.size [.int .i64 (IntKind.i64.wrap (z.tmod 8))] rfl ?_ rfl ?_ ?_ ?_ ?_ ?_
            · simp [Value.oneCell']
            · intro i u hu
              refine (cell_new wr #[.int .i64 (IntKind.i64.wrap (z.tmod 8))] 3 i).trans ?_
              match i, hu with | 0, hu => simpa using hu | i + 1, hu => simp at hu
            · unfold maxLen; omega
            · omega
            · simp; omega
            intro v' w3 hown' hgrow
            have hkg : ∀ K : Nat → Prop, (∀ k', (Value.slice oa j oc).ownBlock = some k' → ¬ K k') → Keeps K wr w3 := fun K hK => (keeps_of_new (new_trans (new_alloc _ _) (new_drew _)) K).trans (keeps_grown hgrow K hK)
            have H9 : DrIn w w3 D R N L ⟨kd, n0, n1, n2, n3, n4, g0, g1, g2, some ⟨lb, lo, none⟩, nb, cb⟩ { kind := 1, carriers := ca, commit := cm, reveal := rv, scheme := sc, lots := lv, owners := .slice oa j oc } := H8.out.grow (.inl rfl) (own_block HOI.out) hkg
            have hs9 := hs3 _ _ H9
            have l9 := H9.hl.owners
            have f9 := H9.hl.free 48
            dsimp only at l9
            have HOL9 : Aside (w3.ownsRow w.heap.size 68 2 lv k (lotCells xs)) :=
              ownsRow_keepsO HOL.out (hkg (fun k' => (Value.slice oa j oc).ownBlock ≠ some k') (fun k' e h => h e)) (fun k' hk' e => by
                obtain ⟨_, c1, h1⟩ := own_block HOL.out k' hk'
                obtain ⟨_, c2, h2⟩ := own_block HOI.out k' e
                rw [h1] at h2
                simp at h2)
            obtain ⟨av, cv, hv'⟩ : ∃ a c, v' = .slice a (j + 1) c := by obtain ⟨a, c, e, _⟩ := ownsRow_form hown'; exact ⟨a, c, e⟩
            subst hv'
            have H9 := aside H9
            have HOI9 := aside hown'
            clear hown' hgrow hkg
            refine hK4.out _ _ hs9 (fun hHeld => ?_)
            clear hK4 K4
            try simp only [Act.put, ps]
            refine wpAnyH_take (i := 15) (oi := _) (v := .pointer (some ⟨L, 48, none⟩)) rfl (by kernel_rfl) (by kernel_rfl) (by kernel_rfl) (fun _ _ _ h => h) (Or.inl ⟨by rfl, ?_⟩) hHeld ?_
            · intro W hSw
              obtain ⟨hS1, hS2, hS3⟩ := hSw
              go_simp
            simp only [Act.put, ps]
            refine wpAnyH_ready (rs := [16]) (by kernel_rfl) (by simp) ?_
            refine AllReadyH.cons (o := _) rfl (fun K5 hK5 => ?_) AllReadyH.nil
            go_simp
            refine hK5.out _ _ (far3 hDL hDL hlbL hHeld) (fun hHeld => ?_)
            clear hK5 K5
            try simp only [Act.put, ps]
            refine wpAnyH_done (by kernel_rfl) ?_ _
            obtain ⟨wn, hwn⟩ : ∃ x, x = w3.setCell ⟨L, 48, none⟩ (.slice av (j + 1) cv) := ⟨_, rfl⟩
            have hkL : Keeps (· ≠ L) w3 wn := by rw [hwn]; exact (Keeps.refl (· ≠ L) _).setCell (p := ⟨L, 48, none⟩) (.inr (fun h => h rfl)) _
            have hLr := H9.out.hl
            unfold RecIn at hLr
            have H10 : Aside (DrIn w wn D R N L ⟨kd, n0, n1, n2, n3, n4, g0, g1, g2, some ⟨lb, lo, none⟩, nb, cb⟩ { kind := 1, carriers := ca, commit := cm, reveal := rv, scheme := sc, lots := lv, owners := .slice av (j + 1) cv }) := by rw [Aside, hwn]; exact H9.out.set 48 _ (H9.out.hl.setOwners _)
            have HY10 : Aside (∀ y ∈ ys ++ [IntKind.i64.wrap (z.tmod 8)], 0 ≤ y ∧ y ≤ 7) := fun y hy => by
              rcases List.mem_append.1 hy with h1 | h1
              · exact HY.out y h1
              · rw [List.mem_singleton.1 h1]; exact HRQ.out
            have HOI10 : Aside (wn.ownsRow w.heap.size 3 1 (.slice av (j + 1) cv) (j + 1) ((ys ++ [IntKind.i64.wrap (z.tmod 8)]).map (Value.int .i64))) := by
              rw [Aside, List.map_append]
              refine ownsRow_keepsO HOI9.out hkL (fun i hi e => ?_)
              subst e
              obtain ⟨_, cur, hcur⟩ := own_block HOI9.out i hi
              rw [hLr] at hcur
              simp at hcur
            have HOL10 : Aside (wn.ownsRow w.heap.size 68 2 lv k (lotCells xs)) := by
              refine ownsRow_keepsO HOL9.out hkL (fun i hi e => ?_)
              subst e
              obtain ⟨_, cur, hcur⟩ := own_block HOL9.out i hi
              rw [hLr] at hcur
              simp at hcur
            have HYL : Aside ((ys ++ [IntKind.i64.wrap (z.tmod 8)]).length = j + 1) := by rw [Aside, List.length_append, hyl]; rfl
            rw [← hwn]
            clear hwn l9 f9 hs9 H8 HOI HOL HY H9 HOI9 HOL9 hkL hLr
            go_wp2_with fail
            go_roundg (64 - (j + 1))
            case measure => exact HME.out _ hg
            case rel => exact ⟨j + 1, _, _, hj65, by go_num, Nat.le_refl _, HYL.out, HY10, H10, HOI10, HOL10⟩
        · have HO : Aside (mayB { kind := 1, carriers := ca, commit := cm, reveal := rv, scheme := sc, lots := xs, owners := ys } = true ∧ RecD.ok { kind := 1, carriers := ca, commit := cm, reveal := rv, scheme := sc, lots := xs, owners := ys }) := may1 ca cm rv sc xs ys HNS.out.1 HNS.out.2.1 HNS.out.2.2.1 HNS.out.2.2.2 HX.out HXN.out.1 HY.out (by omega)
          have HD0 : Aside (RecFrom w.heap.size wr { kind := 1, carriers := ca, commit := cm, reveal := rv, scheme := sc, lots := lv, owners := ov } ({ kind := 1, carriers := ca, commit := cm, reveal := rv, scheme := sc, lots := xs, owners := ys } : RecD)) := ⟨.slice none 0 0, lv, ov, by simp only [RecD.toV, rep_getD], RowIF.nil _ _, rowLF_owned HXN.out.2 HOL.out (Nat.le_refl _), rowIF_owned hyl.symm HOI.out (Nat.le_refl _)⟩
          by_cases hjq : (j : Int) < n4 % 65
          · exact (hcc ⟨hjq, by omega⟩).elim
          · clear hcc
            go_upto_region 14 with fail
            have hrg : wr.rangeAt L 0 (recCells { kind := 1, carriers := ca, commit := cm, reveal := rv, scheme := sc, lots := lv, owners := ov }).toList := fun j v hv => by rw [Nat.zero_add, H8.out.hl.cell j, ← Array.getElem?_toList]; exact hv
            have HRG := aside hrg
            have hi1 : (Tryz.prog.info? 38).map (·.size) = some (recCells { kind := 1, carriers := ca, commit := cm, reveal := rv, scheme := sc, lots := lv, owners := ov }).toList.length := by rw [Array.length_toList, recCells_size]; kernel_rfl
            have hi0 : (Tryz.prog.info? 38).map (·.size) = some (recCells { kind := 1, carriers := ca, commit := cm, reveal := rv, scheme := sc, lots := lv, owners := ov }).size := by rw [recCells_size]; kernel_rfl
            have HRF := HD0
            have hone := HRF.out.one
            obtain ⟨wz, hwz⟩ : ∃ z, z = wr.setRow R (recCells { kind := 1, carriers := ca, commit := cm, reveal := rv, scheme := sc, lots := lv, owners := ov }) := ⟨_, rfl⟩
            have HRZ : Aside (RecIn wz R { kind := 1, carriers := ca, commit := cm, reveal := rv, scheme := sc, lots := lv, owners := ov }) := by rw [hwz]; exact H8.out.hr.setRow _
            have HKZ : Keeps (· ≠ R) wr wz := by rw [hwz]; exact keeps_setRow wr R _ (fun h => h rfl)
            have HBZ : Aside (Below w.heap.size w wz) := new_of_keeps H8.out.old HKZ H8.out.nR
            have HRFZ : Aside (RecFrom w.heap.size wz { kind := 1, carriers := ca, commit := cm, reveal := rv, scheme := sc, lots := lv, owners := ov } _) := HRF.out.keepsT HKZ (fun k hb e => by subst e; exact row_not_rec hb H8.out.hr)
            have HWZ := aside hwz
            have HXR := aside H8.out.hr
            clear hrg hwz HKZ
            go_wp2_with (first
              | (refine wpList_load_midG (by rfl) _ _ rfl L 0 rfl _ _ HRG.out Tryz.underlying38 rfl hi1 (recCells { kind := 1, carriers := ca, commit := cm, reveal := rv, scheme := sc, lots := lv, owners := ov }) (Array.toArray_toList) ?_)
              | (refine wpList_store_row rfl _ _ _ rfl R (recCells { kind := 1, carriers := ca, commit := cm, reveal := rv, scheme := sc, lots := lv, owners := ov }) rfl rfl 38 _ HXR.out hi0 rfl hone ?_; rw [← HWZ.out])
              | fail)
            refine bodyPost_ret_by (dr_results HRZ.out _ rfl) rfl ?_
            exact ⟨_, _, rfl, HRFZ.out, HO.out.1, HO.out.2, HBZ.out⟩
end Go.Proofs.YtkpmcjfolncmmaaGreatDoor
