/- consignlaw30.ChainKnown answers true. -/
import Derived.Test.YtkpmcjfolncmmaaDoorMKnw3
set_option linter.all false
namespace Go.Proofs.YtkpmcjfolncmmaaDoor
open Go.RowKit

set_option maxHeartbeats 2000000 in
set_option maxRecDepth 100000 in
theorem known_any (F : S8) (K : Nat → Int) (kk : Array Value) (w : World) (ht : Tabs F K kk w) :
    Calls Tryd.prog 6 #[] w fun e w' => e = .returned (.bool true) ∧ Below w.heap.size w w' := by
  have HT := aside ht
  clear ht
  go_enter Tryd.func6, Tryd.ntmps6
  go_upto_region 1 with fail
  go_cut [1] (fun s1 wx => ∃ X A B, s1 = .pointer (some ⟨X, 0, none⟩) ∧ Aside (FullIn w wx X A B))
  case first =>
    have h1 := make_lots
    have h2 := make_ints64
    refine wp_region_held_drew (S := fun _ => True) (by kernel_rfl) trivial (fun hHeld => ?_)
    refine wpAnyH_ready (rs := [0, 1, 3]) (by kernel_rfl) (by simp) ?_
    refine AllReadyH.cons (o := _) rfl (fun K00 hK00 => ?_) (AllReadyH.cons (o := _) rfl (fun K01 hK01 => ?_) (AllReadyH.cons (o := _) rfl (fun K02 hK02 => ?_) AllReadyH.nil))
    · go_simp
      refine hK00.out _ _ trivial (fun _ => ?_)
      clear hK00 K00
      try simp only [Act.put, List.setIfInBounds_toArray, List.set_cons_zero, List.set_cons_succ]
      refine wpAnyH_ready (rs := [1, 3]) (by kernel_rfl) (by simp) ?_
      refine AllReadyH.cons (o := _) rfl (fun K10 hK10 => ?_) (AllReadyH.cons (o := _) rfl (fun K11 hK11 => ?_) AllReadyH.nil)
      · go_simp
        refine hK10.out _ _ trivial (fun _ => ?_)
        clear hK10 K10
        try simp only [Act.put, List.setIfInBounds_toArray, List.set_cons_zero, List.set_cons_succ]
        refine wpAnyH_take (i := 2) (oi := _) (v := .agg (recCells (fullV w.heap.size (w.heap.size + 1)))) rfl (by kernel_rfl) (by kernel_rfl) (by kernel_rfl) (fun _ _ _ h => h) (yields_build (by rfl) 57 _ rfl _ rfl _ (build_full w.heap.size (w.heap.size + 1))) trivial ?_
        simp only [Act.put, List.setIfInBounds_toArray, List.set_cons_zero, List.set_cons_succ]
        refine wpAnyH_ready (rs := [3]) (by kernel_rfl) (by simp) ?_
        refine AllReadyH.cons (o := _) rfl (fun K20 hK20 => ?_) AllReadyH.nil
        · go_simp
          refine hK20.out _ _ trivial (fun _ => ?_)
          clear hK20 K20
          try simp only [Act.put, List.setIfInBounds_toArray, List.set_cons_zero, List.set_cons_succ]
          refine wpAnyH_ready (rs := [4]) (by kernel_rfl) (by simp) ?_
          refine AllReadyH.cons (o := _) rfl (fun K9 hK9 => ?_) AllReadyH.nil
          obtain ⟨b1, b2, b3, hbel⟩ := three_allocs w (Array.replicate 32 (.int .i64 0)) (Array.replicate 64 (.int .i64 0)) #[.int .i64 0, .int .i64 0, .int .i64 0, .int .i64 0, .int .i64 0, .slice none 0 0, .int .u8 0, .int .u8 0, .int .u8 0, .int .u8 0, .int .u8 0, .int .u8 0, .int .u8 0, .int .u8 0, .int .u8 0, .int .u8 0, .int .u8 0, .int .u8 0, .int .u8 0, .int .u8 0, .int .u8 0, .int .u8 0, .int .u8 0, .int .u8 0, .int .u8 0, .int .u8 0, .int .u8 0, .int .u8 0, .int .u8 0, .int .u8 0, .int .u8 0, .int .u8 0, .int .u8 0, .int .u8 0, .int .u8 0, .int .u8 0, .int .u8 0, .int .u8 0, .int .u64 0, .int .u64 0, .int .i64 0, .int .i64 0, .int .u64 0, .int .i64 0, .int .i64 0, .int .i64 0, .int .i64 0, .slice none 0 0, .slice none 0 0] 59 3 57
          rw [if_pos (by rfl)]
          refine wp_store_row 57 _ _ rfl (w.heap.size + 1 + 1) (recCells (fullV w.heap.size (w.heap.size + 1))) rfl rfl 57 _ b3 full_info rfl full_one ?_
          refine hK9.out _ _ trivial (fun _ => ?_)
          clear hK9 K9
          refine wpAnyH_done (by kernel_rfl) ?_ _
          try simp only [Act.put, List.setIfInBounds_toArray, List.set_cons_zero, List.set_cons_succ]
          go_wp2_with fail
          go_meet
          exact ⟨_, _, _, rfl, full_in b3 b1 b2 hbel (by omega) (by omega) (by omega) (by omega) (by omega)⟩
      · go_simp
        refine hK11.out _ _ trivial (fun _ => ?_)
        clear hK11 K11
        try simp only [Act.put, List.setIfInBounds_toArray, List.set_cons_zero, List.set_cons_succ]
        refine wpAnyH_ready (rs := [1]) (by kernel_rfl) (by simp) ?_
        refine AllReadyH.cons (o := _) rfl (fun K20 hK20 => ?_) AllReadyH.nil
        · go_simp
          refine hK20.out _ _ trivial (fun _ => ?_)
          clear hK20 K20
          try simp only [Act.put, List.setIfInBounds_toArray, List.set_cons_zero, List.set_cons_succ]
          refine wpAnyH_ready (rs := [2]) (by kernel_rfl) (by simp) ?_
          refine AllReadyH.cons (o := _) rfl (fun K8 hK8 => ?_) AllReadyH.nil
          refine step_build_by rfl 57 _ rfl _ rfl _ (build_full w.heap.size (w.heap.size + 1 + 1) _) ?_
          refine hK8.out _ _ trivial (fun _ => ?_)
          clear hK8 K8
          try simp only [Act.put, List.setIfInBounds_toArray, List.set_cons_zero, List.set_cons_succ]
          refine wpAnyH_ready (rs := [4]) (by kernel_rfl) (by simp) ?_
          refine AllReadyH.cons (o := _) rfl (fun K9 hK9 => ?_) AllReadyH.nil
          obtain ⟨b1, b2, b3, hbel⟩ := three_allocs w (Array.replicate 32 (.int .i64 0)) #[.int .i64 0, .int .i64 0, .int .i64 0, .int .i64 0, .int .i64 0, .slice none 0 0, .int .u8 0, .int .u8 0, .int .u8 0, .int .u8 0, .int .u8 0, .int .u8 0, .int .u8 0, .int .u8 0, .int .u8 0, .int .u8 0, .int .u8 0, .int .u8 0, .int .u8 0, .int .u8 0, .int .u8 0, .int .u8 0, .int .u8 0, .int .u8 0, .int .u8 0, .int .u8 0, .int .u8 0, .int .u8 0, .int .u8 0, .int .u8 0, .int .u8 0, .int .u8 0, .int .u8 0, .int .u8 0, .int .u8 0, .int .u8 0, .int .u8 0, .int .u8 0, .int .u64 0, .int .u64 0, .int .i64 0, .int .i64 0, .int .u64 0, .int .i64 0, .int .i64 0, .int .i64 0, .int .i64 0, .slice none 0 0, .slice none 0 0] (Array.replicate 64 (.int .i64 0)) 59 57 3
          rw [if_pos (by rfl)]
          refine wp_store_row 57 _ _ rfl (w.heap.size + 1) (recCells (fullV w.heap.size (w.heap.size + 1 + 1))) rfl rfl 57 _ b2 full_info rfl full_one ?_
          refine hK9.out _ _ trivial (fun _ => ?_)
          clear hK9 K9
          refine wpAnyH_done (by kernel_rfl) ?_ _
          try simp only [Act.put, List.setIfInBounds_toArray, List.set_cons_zero, List.set_cons_succ]
          go_wp2_with fail
          go_meet
          exact ⟨_, _, _, rfl, full_in b2 b1 b3 hbel (by omega) (by omega) (by omega) (by omega) (by omega)⟩
    · go_simp
      refine hK01.out _ _ trivial (fun _ => ?_)
      clear hK01 K01
      try simp only [Act.put, List.setIfInBounds_toArray, List.set_cons_zero, List.set_cons_succ]
      refine wpAnyH_ready (rs := [0, 3]) (by kernel_rfl) (by simp) ?_
      refine AllReadyH.cons (o := _) rfl (fun K10 hK10 => ?_) (AllReadyH.cons (o := _) rfl (fun K11 hK11 => ?_) AllReadyH.nil)
      · go_simp
        refine hK10.out _ _ trivial (fun _ => ?_)
        clear hK10 K10
        try simp only [Act.put, List.setIfInBounds_toArray, List.set_cons_zero, List.set_cons_succ]
        refine wpAnyH_take (i := 2) (oi := _) (v := .agg (recCells (fullV (w.heap.size + 1) w.heap.size))) rfl (by kernel_rfl) (by kernel_rfl) (by kernel_rfl) (fun _ _ _ h => h) (yields_build (by rfl) 57 _ rfl _ rfl _ (build_full (w.heap.size + 1) w.heap.size)) trivial ?_
        simp only [Act.put, List.setIfInBounds_toArray, List.set_cons_zero, List.set_cons_succ]
        refine wpAnyH_ready (rs := [3]) (by kernel_rfl) (by simp) ?_
        refine AllReadyH.cons (o := _) rfl (fun K20 hK20 => ?_) AllReadyH.nil
        · go_simp
          refine hK20.out _ _ trivial (fun _ => ?_)
          clear hK20 K20
          try simp only [Act.put, List.setIfInBounds_toArray, List.set_cons_zero, List.set_cons_succ]
          refine wpAnyH_ready (rs := [4]) (by kernel_rfl) (by simp) ?_
          refine AllReadyH.cons (o := _) rfl (fun K9 hK9 => ?_) AllReadyH.nil
          obtain ⟨b1, b2, b3, hbel⟩ := three_allocs w (Array.replicate 64 (.int .i64 0)) (Array.replicate 32 (.int .i64 0)) #[.int .i64 0, .int .i64 0, .int .i64 0, .int .i64 0, .int .i64 0, .slice none 0 0, .int .u8 0, .int .u8 0, .int .u8 0, .int .u8 0, .int .u8 0, .int .u8 0, .int .u8 0, .int .u8 0, .int .u8 0, .int .u8 0, .int .u8 0, .int .u8 0, .int .u8 0, .int .u8 0, .int .u8 0, .int .u8 0, .int .u8 0, .int .u8 0, .int .u8 0, .int .u8 0, .int .u8 0, .int .u8 0, .int .u8 0, .int .u8 0, .int .u8 0, .int .u8 0, .int .u8 0, .int .u8 0, .int .u8 0, .int .u8 0, .int .u8 0, .int .u8 0, .int .u64 0, .int .u64 0, .int .i64 0, .int .i64 0, .int .u64 0, .int .i64 0, .int .i64 0, .int .i64 0, .int .i64 0, .slice none 0 0, .slice none 0 0] 3 59 57
          rw [if_pos (by rfl)]
          refine wp_store_row 57 _ _ rfl (w.heap.size + 1 + 1) (recCells (fullV (w.heap.size + 1) w.heap.size)) rfl rfl 57 _ b3 full_info rfl full_one ?_
          refine hK9.out _ _ trivial (fun _ => ?_)
          clear hK9 K9
          refine wpAnyH_done (by kernel_rfl) ?_ _
          try simp only [Act.put, List.setIfInBounds_toArray, List.set_cons_zero, List.set_cons_succ]
          go_wp2_with fail
          go_meet
          exact ⟨_, _, _, rfl, full_in b3 b2 b1 hbel (by omega) (by omega) (by omega) (by omega) (by omega)⟩
      · go_simp
        refine hK11.out _ _ trivial (fun _ => ?_)
        clear hK11 K11
        try simp only [Act.put, List.setIfInBounds_toArray, List.set_cons_zero, List.set_cons_succ]
        refine wpAnyH_ready (rs := [0]) (by kernel_rfl) (by simp) ?_
        refine AllReadyH.cons (o := _) rfl (fun K20 hK20 => ?_) AllReadyH.nil
        · go_simp
          refine hK20.out _ _ trivial (fun _ => ?_)
          clear hK20 K20
          try simp only [Act.put, List.setIfInBounds_toArray, List.set_cons_zero, List.set_cons_succ]
          refine wpAnyH_ready (rs := [2]) (by kernel_rfl) (by simp) ?_
          refine AllReadyH.cons (o := _) rfl (fun K8 hK8 => ?_) AllReadyH.nil
          refine step_build_by rfl 57 _ rfl _ rfl _ (build_full (w.heap.size + 1 + 1) w.heap.size _) ?_
          refine hK8.out _ _ trivial (fun _ => ?_)
          clear hK8 K8
          try simp only [Act.put, List.setIfInBounds_toArray, List.set_cons_zero, List.set_cons_succ]
          refine wpAnyH_ready (rs := [4]) (by kernel_rfl) (by simp) ?_
          refine AllReadyH.cons (o := _) rfl (fun K9 hK9 => ?_) AllReadyH.nil
          obtain ⟨b1, b2, b3, hbel⟩ := three_allocs w (Array.replicate 64 (.int .i64 0)) #[.int .i64 0, .int .i64 0, .int .i64 0, .int .i64 0, .int .i64 0, .slice none 0 0, .int .u8 0, .int .u8 0, .int .u8 0, .int .u8 0, .int .u8 0, .int .u8 0, .int .u8 0, .int .u8 0, .int .u8 0, .int .u8 0, .int .u8 0, .int .u8 0, .int .u8 0, .int .u8 0, .int .u8 0, .int .u8 0, .int .u8 0, .int .u8 0, .int .u8 0, .int .u8 0, .int .u8 0, .int .u8 0, .int .u8 0, .int .u8 0, .int .u8 0, .int .u8 0, .int .u8 0, .int .u8 0, .int .u8 0, .int .u8 0, .int .u8 0, .int .u8 0, .int .u64 0, .int .u64 0, .int .i64 0, .int .i64 0, .int .u64 0, .int .i64 0, .int .i64 0, .int .i64 0, .int .i64 0, .slice none 0 0, .slice none 0 0] (Array.replicate 32 (.int .i64 0)) 3 57 59
          rw [if_pos (by rfl)]
          refine wp_store_row 57 _ _ rfl (w.heap.size + 1) (recCells (fullV (w.heap.size + 1 + 1) w.heap.size)) rfl rfl 57 _ b2 full_info rfl full_one ?_
          refine hK9.out _ _ trivial (fun _ => ?_)
          clear hK9 K9
          refine wpAnyH_done (by kernel_rfl) ?_ _
          try simp only [Act.put, List.setIfInBounds_toArray, List.set_cons_zero, List.set_cons_succ]
          go_wp2_with fail
          go_meet
          exact ⟨_, _, _, rfl, full_in b2 b3 b1 hbel (by omega) (by omega) (by omega) (by omega) (by omega)⟩
    · go_simp
      refine hK02.out _ _ trivial (fun _ => ?_)
      clear hK02 K02
      try simp only [Act.put, List.setIfInBounds_toArray, List.set_cons_zero, List.set_cons_succ]
      refine wpAnyH_ready (rs := [0, 1]) (by kernel_rfl) (by simp) ?_
      refine AllReadyH.cons (o := _) rfl (fun K10 hK10 => ?_) (AllReadyH.cons (o := _) rfl (fun K11 hK11 => ?_) AllReadyH.nil)
      · go_simp
        refine hK10.out _ _ trivial (fun _ => ?_)
        clear hK10 K10
        try simp only [Act.put, List.setIfInBounds_toArray, List.set_cons_zero, List.set_cons_succ]
        refine wpAnyH_ready (rs := [1]) (by kernel_rfl) (by simp) ?_
        refine AllReadyH.cons (o := _) rfl (fun K20 hK20 => ?_) AllReadyH.nil
        · go_simp
          refine hK20.out _ _ trivial (fun _ => ?_)
          clear hK20 K20
          try simp only [Act.put, List.setIfInBounds_toArray, List.set_cons_zero, List.set_cons_succ]
          refine wpAnyH_ready (rs := [2]) (by kernel_rfl) (by simp) ?_
          refine AllReadyH.cons (o := _) rfl (fun K8 hK8 => ?_) AllReadyH.nil
          refine step_build_by rfl 57 _ rfl _ rfl _ (build_full (w.heap.size + 1) (w.heap.size + 1 + 1) _) ?_
          refine hK8.out _ _ trivial (fun _ => ?_)
          clear hK8 K8
          try simp only [Act.put, List.setIfInBounds_toArray, List.set_cons_zero, List.set_cons_succ]
          refine wpAnyH_ready (rs := [4]) (by kernel_rfl) (by simp) ?_
          refine AllReadyH.cons (o := _) rfl (fun K9 hK9 => ?_) AllReadyH.nil
          obtain ⟨b1, b2, b3, hbel⟩ := three_allocs w #[.int .i64 0, .int .i64 0, .int .i64 0, .int .i64 0, .int .i64 0, .slice none 0 0, .int .u8 0, .int .u8 0, .int .u8 0, .int .u8 0, .int .u8 0, .int .u8 0, .int .u8 0, .int .u8 0, .int .u8 0, .int .u8 0, .int .u8 0, .int .u8 0, .int .u8 0, .int .u8 0, .int .u8 0, .int .u8 0, .int .u8 0, .int .u8 0, .int .u8 0, .int .u8 0, .int .u8 0, .int .u8 0, .int .u8 0, .int .u8 0, .int .u8 0, .int .u8 0, .int .u8 0, .int .u8 0, .int .u8 0, .int .u8 0, .int .u8 0, .int .u8 0, .int .u64 0, .int .u64 0, .int .i64 0, .int .i64 0, .int .u64 0, .int .i64 0, .int .i64 0, .int .i64 0, .int .i64 0, .slice none 0 0, .slice none 0 0] (Array.replicate 32 (.int .i64 0)) (Array.replicate 64 (.int .i64 0)) 57 59 3
          rw [if_pos (by rfl)]
          refine wp_store_row 57 _ _ rfl w.heap.size (recCells (fullV (w.heap.size + 1) (w.heap.size + 1 + 1))) rfl rfl 57 _ b1 full_info rfl full_one ?_
          refine hK9.out _ _ trivial (fun _ => ?_)
          clear hK9 K9
          refine wpAnyH_done (by kernel_rfl) ?_ _
          try simp only [Act.put, List.setIfInBounds_toArray, List.set_cons_zero, List.set_cons_succ]
          go_wp2_with fail
          go_meet
          exact ⟨_, _, _, rfl, full_in b1 b2 b3 hbel (by omega) (by omega) (by omega) (by omega) (by omega)⟩
      · go_simp
        refine hK11.out _ _ trivial (fun _ => ?_)
        clear hK11 K11
        try simp only [Act.put, List.setIfInBounds_toArray, List.set_cons_zero, List.set_cons_succ]
        refine wpAnyH_ready (rs := [0]) (by kernel_rfl) (by simp) ?_
        refine AllReadyH.cons (o := _) rfl (fun K20 hK20 => ?_) AllReadyH.nil
        · go_simp
          refine hK20.out _ _ trivial (fun _ => ?_)
          clear hK20 K20
          try simp only [Act.put, List.setIfInBounds_toArray, List.set_cons_zero, List.set_cons_succ]
          refine wpAnyH_ready (rs := [2]) (by kernel_rfl) (by simp) ?_
          refine AllReadyH.cons (o := _) rfl (fun K8 hK8 => ?_) AllReadyH.nil
          refine step_build_by rfl 57 _ rfl _ rfl _ (build_full (w.heap.size + 1 + 1) (w.heap.size + 1) _) ?_
          refine hK8.out _ _ trivial (fun _ => ?_)
          clear hK8 K8
          try simp only [Act.put, List.setIfInBounds_toArray, List.set_cons_zero, List.set_cons_succ]
          refine wpAnyH_ready (rs := [4]) (by kernel_rfl) (by simp) ?_
          refine AllReadyH.cons (o := _) rfl (fun K9 hK9 => ?_) AllReadyH.nil
          obtain ⟨b1, b2, b3, hbel⟩ := three_allocs w #[.int .i64 0, .int .i64 0, .int .i64 0, .int .i64 0, .int .i64 0, .slice none 0 0, .int .u8 0, .int .u8 0, .int .u8 0, .int .u8 0, .int .u8 0, .int .u8 0, .int .u8 0, .int .u8 0, .int .u8 0, .int .u8 0, .int .u8 0, .int .u8 0, .int .u8 0, .int .u8 0, .int .u8 0, .int .u8 0, .int .u8 0, .int .u8 0, .int .u8 0, .int .u8 0, .int .u8 0, .int .u8 0, .int .u8 0, .int .u8 0, .int .u8 0, .int .u8 0, .int .u8 0, .int .u8 0, .int .u8 0, .int .u8 0, .int .u8 0, .int .u8 0, .int .u64 0, .int .u64 0, .int .i64 0, .int .i64 0, .int .u64 0, .int .i64 0, .int .i64 0, .int .i64 0, .int .i64 0, .slice none 0 0, .slice none 0 0] (Array.replicate 64 (.int .i64 0)) (Array.replicate 32 (.int .i64 0)) 57 3 59
          rw [if_pos (by rfl)]
          refine wp_store_row 57 _ _ rfl w.heap.size (recCells (fullV (w.heap.size + 1 + 1) (w.heap.size + 1))) rfl rfl 57 _ b1 full_info rfl full_one ?_
          refine hK9.out _ _ trivial (fun _ => ?_)
          clear hK9 K9
          refine wpAnyH_done (by kernel_rfl) ?_ _
          try simp only [Act.put, List.setIfInBounds_toArray, List.set_cons_zero, List.set_cons_succ]
          go_wp2_with fail
          go_meet
          exact ⟨_, _, _, rfl, full_in b1 b3 b2 hbel (by omega) (by omega) (by omega) (by omega) (by omega)⟩
  case rest =>
    obtain ⟨X, A, B, rfl, HF⟩ := hcut
    have l47 := HF.out.x.lots
    have l48 := HF.out.x.owners
    have c30 : wc.cell? ⟨A, 30, none⟩ = some (.int .i64 0) := cell_whole HF.out.a 30
    have c31 : wc.cell? ⟨A, 31, none⟩ = some (.int .i64 0) := cell_whole HF.out.a 31
    have c63 : wc.cell? ⟨B, 63, none⟩ = some (.int .i64 0) := cell_whole HF.out.b 63
    have f30 : wc.frozen? ⟨A, 30, none⟩ = false := frozen_whole HF.out.a 30
    have f31 : wc.frozen? ⟨A, 31, none⟩ = false := frozen_whole HF.out.a 31
    have f63 : wc.frozen? ⟨B, 63, none⟩ = false := frozen_whole HF.out.b 63
    dsimp only [fullV] at l47 l48
    go_upto_region 4 with fail
    obtain ⟨w4, hw4⟩ : ∃ z, z = ((wc.setCell ⟨A, 30, none⟩ (.int .i64 63)).setCell ⟨A, 31, none⟩ (.int .i64 16777216)).setCell ⟨B, 63, none⟩ (.int .i64 7) := ⟨_, rfl⟩
    obtain ⟨h4x, h4r, h4b⟩ := full_at HF.out w4 hw4
    rw [← hw4]
    have hone : (recCells (fullV A B)).all (·.oneCell') = true := full_one
    obtain ⟨fv, hfv⟩ : ∃ r, r = fullV A B := ⟨_, rfl⟩
    rw [← hfv] at h4x h4r hone
    have HX4 := aside h4x
    have HR4 := aside h4r
    have HB4 := aside h4b
    have hi0 : (Tryd.prog.info? 57).map (·.size) = some (recCells fv).size := by rw [recCells_size]; kernel_rfl
    clear h4x h4r h4b hw4 hfv l47 l48 c30 c31 c63 f30 f31 f63 HF hone
    go_wp2_with (first
      | (refine wpList_load_row rfl _ _ rfl X rfl _ (recCells fv) (0, 0) _ HX4.out Tryd.underlying57 rfl hi0 ?_)
      | fail)
    refine (bytes_any fv fullD full_ok w4 HR4.out).mono ?_
    rintro e w5 ⟨rfl, hb5⟩
    rw [show bytesA fullD = (bytesF fullD, 0) by rw [bytesA, if_pos full_may]]
    obtain ⟨s, hs⟩ : ∃ x, x = bytesF fullD := ⟨_, rfl⟩
    have hsz : s.size = 151 := by rw [hs]; exact full_size
    have hrd : readF s = (fullD, 0) := by rw [hs]; exact read_bytes full_may full_ok
    rw [← hs]
    have HSZ := aside hsz
    have HRD := aside hrd
    have HX5 := aside (HX4.out.new hb5)
    have HR5 := aside (HR4.out.on hb5)
    have HB5 := aside (new_trans HB4.out hb5)
    clear hs hsz hrd hb5 HX4 HR4 HB4 hi0
    go_wp2_with fail
    refine (read_rec s (by rw [HSZ.out]; decide) w5).mono ?_
    intro e w6 hr
    rw [HRD.out] at hr
    obtain ⟨rv, rfl, hrf, hb6⟩ := hr
    have hone := hrf.one
    have hi0 : (Tryd.prog.info? 57).map (·.size) = some (recCells rv).size := by rw [recCells_size]; kernel_rfl
    obtain ⟨Y, hY⟩ : ∃ x, x = w6.heap.size := ⟨_, rfl⟩
    obtain ⟨w7, hw7⟩ : ∃ z, z = w6.alloc (.cells (recCells rv) 57) := ⟨_, rfl⟩
    have hb7 : Below w6.heap.size w6 w7 := by rw [hw7]; exact new_alloc _ _
    have HY7 : Aside (RecIn w7 Y rv) := by rw [hw7, hY]; exact RecIn.box _ _
    have HRV7 : Aside (RecAt w7 rv fullD) := (hrf.on hb7).at_
    have HX7 := aside ((HX5.out.new hb6).new hb7)
    have HR7 := aside ((HR5.out.on hb6).on hb7)
    have HB7 := aside (new_trans (new_trans HB5.out hb6) hb7)
    have HST : Aside ((Instr.storeAt 57 (.pointer (some ⟨w6.heap.size, 0, none⟩)) (.agg (recCells rv))).run Tryd.prog (w6.alloc (.cells #[.int .i64 0, .int .i64 0, .int .i64 0, .int .i64 0, .int .i64 0, .slice none 0 0, .int .u8 0, .int .u8 0, .int .u8 0, .int .u8 0, .int .u8 0, .int .u8 0, .int .u8 0, .int .u8 0, .int .u8 0, .int .u8 0, .int .u8 0, .int .u8 0, .int .u8 0, .int .u8 0, .int .u8 0, .int .u8 0, .int .u8 0, .int .u8 0, .int .u8 0, .int .u8 0, .int .u8 0, .int .u8 0, .int .u8 0, .int .u8 0, .int .u8 0, .int .u8 0, .int .u8 0, .int .u8 0, .int .u8 0, .int .u8 0, .int .u8 0, .int .u8 0, .int .u64 0, .int .u64 0, .int .i64 0, .int .i64 0, .int .u64 0, .int .i64 0, .int .i64 0, .int .i64 0, .int .i64 0, .slice none 0 0, .slice none 0 0] 57)) = .ok () w7) := by
      rw [Aside, hw7]
      exact run_storeAt_new' w6 57 (recCells {}) (recCells rv) hi0 rfl hone
    clear hrf hb6 hb7 hw7 HX5 HR5 HB5
    go_upto_region 6 with (first
      | (refine wpList_store_by rfl 57 _ _ rfl _ _ rfl rfl HST.out ?_)
      | fail)
    rw [← hY]
    clear hY hone HST
    have HRG1 : Aside (w7.rangeAt Y 0 (recCells rv).toList) := fun j v hv => by rw [Nat.zero_add, HY7.out.cell j, ← Array.getElem?_toList]; exact hv
    have HRG2 : Aside (w7.rangeAt X 0 (recCells fv).toList) := fun j v hv => by rw [Nat.zero_add, HX7.out.cell j, ← Array.getElem?_toList]; exact hv
    have hi1 : (Tryd.prog.info? 57).map (·.size) = some (recCells rv).toList.length := by rw [Array.length_toList]; exact hi0
    have hi2 : (Tryd.prog.info? 57).map (·.size) = some (recCells fv).toList.length := by rw [Array.length_toList, recCells_size]; kernel_rfl
    have hsz : s.size = 151 := HSZ.out
    have hszi : ((s.size : Int) != 151) = false := by rw [hsz]; rfl
    clear hsz hi0
    go_wp2_with (first
      | (refine wpList_load_midG (by rfl) _ _ rfl Y 0 rfl _ _ HRG1.out Tryd.underlying57 rfl hi1 (recCells rv) (Array.toArray_toList) ?_)
      | (refine wpList_load_midG (by rfl) _ _ rfl X 0 rfl _ _ HRG2.out Tryd.underlying57 rfl hi2 (recCells fv) (Array.toArray_toList) ?_)
      | fail)
    refine (same_any rv fv fullD fullD full_ok.len full_ok.len full_ok.rows full_ok.rows w7 HRV7.out HR7.out).mono ?_
    rintro e w8 ⟨rfl, hb8⟩
    rw [show decide (fullD = fullD) = true from decide_eq_true rfl]
    have HB8 := aside (new_trans HB7.out hb8)
    clear hb8 hszi hi1 hi2 HRG1 HRG2 HX7 HR7 HY7 HRV7 HB7
    go_upto_region 8 with fail
    go_upto_region 9 with (first
      | (refine wpList_build_by rfl 57 _ rfl [(0, .int .i64 1), (10, .int .i64 1), (11, .int .i64 1), (12, .int .i64 1)] rfl _ (build_may0 _) ?_)
      | (refine wpList_build_by rfl 57 _ rfl [(0, .int .i64 2), (1, .int .i64 15), (2, .int .i64 15), (4, .int .i64 9223372036854775807), (5, .slice (some ⟨w8.heap.size, 0, none⟩) 8 8)] rfl _ (build_may1 (w8.heap.size) _) ?_)
      | (refine wpList_build_by rfl 57 _ rfl [(0, .int .i64 4), (3, .int .i64 7), (7, .int .u64 4294967296), (8, .int .u64 18446744073709551615)] rfl _ (build_may2 _) ?_)
      | (refine wpList_build_by rfl 57 _ rfl [(0, .int .i64 5), (9, .agg #[.int .i64 4, .int .i64 7, .int .u64 16777216])] rfl _ (build_may3 _) ?_)
      | (refine wpList_build_by rfl 57 _ rfl [(0, .int .i64 6)] rfl _ (build_may4 _) ?_)
      | (refine wpList_slices_by rfl 26 5 _ rfl [(0, .agg (recCells ({ kind := 1, carriers := 1, commit := 1, reveal := 1 } : RecV))), (1, .agg (recCells ({ kind := 2, round := 15, lot := 15, tick := 9223372036854775807, barred := .slice (some ⟨w8.heap.size, 0, none⟩) 8 8 } : RecV))), (2, .agg (recCells ({ kind := 4, carrier := 7, bid := 4294967296, nonce := 18446744073709551615 } : RecV))), (3, .agg (recCells ({ kind := 5, state := 4, winner := 7, price := 16777216 } : RecV))), (4, .agg (recCells ({ kind := 6 } : RecV)))] rfl _ (may_slice (w8.heap.size) _) ?_)
      | fail)
    obtain ⟨M, hM⟩ : ∃ x, x = w8.heap.size := ⟨_, rfl⟩
    obtain ⟨wi, hwi⟩ : ∃ z, z = w8.alloc (.cells #[.int .i64 0, .int .i64 1, .int .i64 2, .int .i64 3, .int .i64 4, .int .i64 5, .int .i64 6, .int .i64 7] 3) := ⟨_, rfl⟩
    have hMi : wi.heap[M]? = some (.cells #[.int .i64 0, .int .i64 1, .int .i64 2, .int .i64 3, .int .i64 4, .int .i64 5, .int .i64 6, .int .i64 7] 3 (0, 0)) := by rw [hwi, hM]; exact heap_new _ _
    have hsi : wi.heap.size = M + 1 := by rw [hwi, hM]; simp
    have hbi : Below w8.heap.size w8 wi := by rw [hwi]; exact new_alloc _ _
    rw [← hM, ← hwi]
    obtain ⟨w9, hw9⟩ : ∃ z, z = wi.alloc (.cells (recsA (mayV M)) 57) := ⟨_, rfl⟩
    have hb9 : Below wi.heap.size wi w9 := by rw [hw9]; exact new_alloc _ _
    have HMAY : Aside (RecsAt w9 (.slice (some ⟨M + 1, 0, none⟩) 5 5) mayD) := by
      rw [Aside, hw9, ← hsi]
      exact recs_new (mayV M) mayD rfl (by decide) wi (may_at M _ (whole_new hMi (new_alloc _ _)))
    have HB9 := aside (new_trans (new_trans HB8.out hbi) hb9)
    rw [← hw9]
    clear hM hwi hMi hsi hbi hw9 hb9 HB8
    go_upto_region 10 with (first
      | (refine wpList_build_by rfl 57 _ rfl [] rfl _ (build_none0 _) ?_)
      | (refine wpList_build_by rfl 57 _ rfl [(0, .int .i64 7)] rfl _ (build_none1 _) ?_)
      | (refine wpList_build_by rfl 57 _ rfl [(0, .int .i64 1), (11, .int .i64 1), (12, .int .i64 1)] rfl _ (build_none2 _) ?_)
      | (refine wpList_build_by rfl 57 _ rfl [(0, .int .i64 1), (10, .int .i64 1), (11, .int .i64 65), (12, .int .i64 1)] rfl _ (build_none3 _) ?_)
      | (refine wpList_build_by rfl 57 _ rfl [(0, .int .i64 1), (10, .int .i64 1), (11, .int .i64 1), (12, .int .i64 1), (4, .int .i64 1)] rfl _ (build_none4 _) ?_)
      | (refine wpList_build_by rfl 57 _ rfl [(0, .int .i64 2), (1, .int .i64 16)] rfl _ (build_none5 _) ?_)
      | (refine wpList_build_by rfl 57 _ rfl [(0, .int .i64 2), (2, .int .i64 16)] rfl _ (build_none6 _) ?_)
      | (refine wpList_build_by rfl 57 _ rfl [(0, .int .i64 2), (5, .slice (some ⟨w9.heap.size, 0, none⟩) 2 2)] rfl _ (build_none7 (w9.heap.size) _) ?_)
      | (refine wpList_build_by rfl 57 _ rfl [(0, .int .i64 2), (5, .slice (some ⟨w9.heap.size + 1, 0, none⟩) 1 1)] rfl _ (build_none8 (w9.heap.size + 1) _) ?_)
      | (refine wpList_build_by rfl 57 _ rfl [(0, .int .i64 3), (3, .int .i64 8)] rfl _ (build_none9 _) ?_)
      | (refine wpList_build_by rfl 57 _ rfl [(0, .int .i64 3), (2, .int .i64 1)] rfl _ (build_none10 _) ?_)
      | (refine wpList_build_by rfl 57 _ rfl [(0, .int .i64 4), (7, .int .u64 4294967297)] rfl _ (build_none11 _) ?_)
      | (refine wpList_build_by rfl 57 _ rfl [(0, .int .i64 5)] rfl _ (build_none12 _) ?_)
      | (refine wpList_build_by rfl 57 _ rfl [(0, .int .i64 5), (9, .agg #[.int .i64 3, .int .i64 0, .int .u64 0])] rfl _ (build_none13 _) ?_)
      | (refine wpList_build_by rfl 57 _ rfl [(0, .int .i64 6), (4, .int .i64 (-1))] rfl _ (build_none14 _) ?_)
      | (refine wpList_build_by rfl 57 _ rfl [(0, .int .i64 6), (1, .int .i64 1)] rfl _ (build_none15 _) ?_)
      | (refine wpList_slices_by rfl 26 16 _ rfl [(0, .agg (recCells ({} : RecV))), (1, .agg (recCells ({ kind := 7 } : RecV))), (2, .agg (recCells ({ kind := 1, commit := 1, reveal := 1 } : RecV))), (3, .agg (recCells ({ kind := 1, carriers := 1, commit := 65, reveal := 1 } : RecV))), (4, .agg (recCells ({ kind := 1, carriers := 1, commit := 1, reveal := 1, tick := 1 } : RecV))), (5, .agg (recCells ({ kind := 2, round := 16 } : RecV))), (6, .agg (recCells ({ kind := 2, lot := 16 } : RecV))), (7, .agg (recCells ({ kind := 2, barred := .slice (some ⟨w9.heap.size, 0, none⟩) 2 2 } : RecV))), (8, .agg (recCells ({ kind := 2, barred := .slice (some ⟨w9.heap.size + 1, 0, none⟩) 1 1 } : RecV))), (9, .agg (recCells ({ kind := 3, carrier := 8 } : RecV))), (10, .agg (recCells ({ kind := 3, lot := 1 } : RecV))), (11, .agg (recCells ({ kind := 4, bid := 4294967297 } : RecV))), (12, .agg (recCells ({ kind := 5 } : RecV))), (13, .agg (recCells ({ kind := 5, state := 3 } : RecV))), (14, .agg (recCells ({ kind := 6, tick := -1 } : RecV))), (15, .agg (recCells ({ kind := 6, round := 1 } : RecV)))] rfl _ (none_slice (w9.heap.size) (w9.heap.size + 1) _) ?_)
      | fail)
    obtain ⟨G, hG⟩ : ∃ x, x = w9.heap.size := ⟨_, rfl⟩
    obtain ⟨wj, hwj⟩ : ∃ z, z = w9.alloc (.cells #[.int .i64 1, .int .i64 1] 3) := ⟨_, rfl⟩
    obtain ⟨wk, hwk⟩ : ∃ z, z = wj.alloc (.cells #[.int .i64 8] 3) := ⟨_, rfl⟩
    have hbj : Below w9.heap.size w9 wj := by rw [hwj]; exact new_alloc _ _
    have hbk : Below wj.heap.size wj wk := by rw [hwk]; exact new_alloc _ _
    have hj : wj.heap[G]? = some (.cells #[.int .i64 1, .int .i64 1] 3 (0, 0)) := by rw [hwj, hG]; exact heap_new _ _
    have hsj : wj.heap.size = G + 1 := by rw [hwj, hG]; simp
    have hk : wk.heap[G + 1]? = some (.cells #[.int .i64 8] 3 (0, 0)) := by rw [hwk, ← hsj]; exact heap_new _ _
    have hsk : wk.heap.size = G + 1 + 1 := by rw [hwk]; simp [hsj]
    rw [← hG, ← hwj, ← hwk]
    obtain ⟨w10, hw10⟩ : ∃ z, z = wk.alloc (.cells (recsA (noneV G (G + 1))) 57) := ⟨_, rfl⟩
    have hb10 : Below wk.heap.size wk w10 := by rw [hw10]; exact new_alloc _ _
    have hnone : RecsAt w10 (.slice (some ⟨G + 1 + 1, 0, none⟩) 16 16) noneD := by
      rw [hw10, ← hsk]
      exact recs_new (noneV G (G + 1)) noneD rfl (by decide) wk (none_at G (G + 1) _ (whole_new (whole_new hj hbk) (new_alloc _ _)) (whole_new hk (new_alloc _ _)))
    have HM10 : Aside (RecsAt w10 (.slice (some ⟨M + 1, 0, none⟩) 5 5) mayD) := (((HMAY.out.on hbj).on hbk).on hb10)
    have HB10 := aside (new_trans (new_trans (new_trans HB9.out hbj) hbk) hb10)
    obtain ⟨nv, hnl, hnr⟩ := hnone.lit rfl (by decide)
    obtain ⟨mv, hml, hmr⟩ := HM10.out.lit rfl (by decide)
    have HNL := aside hnl
    have HNR := aside hnr
    have HML := aside hml
    have HMR := aside hmr
    obtain ⟨N2, hN2⟩ : ∃ x, x = G + 1 + 1 := ⟨_, rfl⟩
    obtain ⟨M1, hM1⟩ : ∃ x, x = M + 1 := ⟨_, rfl⟩
    rw [← hN2] at HNL ⊢
    rw [← hM1] at HML HM10 ⊢
    rw [← hw10]
    clear hG hwj hwk hbj hbk hj hsj hk hsk hw10 hb10 hnone HMAY HB9 hnl hnr hml hmr hN2 hM1
    go_wp2_with fail
    refine (log_any (.slice (some ⟨M1, 0, none⟩) 5 5) mayD (by decide) may_all F K kk w10 (HT.out.sha.on HB10.out) HM10.out).mono ?_
    rintro e w11 ⟨rfl, hb11, hl11⟩
    rw [show ((mayD.length : Nat) : Int) = 5 from rfl] at hl11
    obtain ⟨tM, hTM⟩ : ∃ x, x = textF (sumB K F) zero32 mayD := ⟨_, rfl⟩
    obtain ⟨sM, hSM⟩ : ∃ x, x = lastF (sumB K F) zero32 mayD := ⟨_, rfl⟩
    obtain ⟨Lg, hLg⟩ : ∃ x, x = w10.heap.size := ⟨_, rfl⟩
    rw [← hTM, ← hSM, ← hLg] at hl11
    rw [← hLg]
    have HTS : Aside (tM.size ≤ 1000) := by
      have := text_le (sumB_size K F) mayD zero32 may_all
      rw [← hTM] at this
      exact Nat.le_trans this (by decide)
    have HTM := aside hTM
    have HLG := aside hLg
    have HL11 := aside hl11
    have HB11 := aside hb11
    clear hTM hSM hLg hl11 hb11
    go_wp2_with fail
    refine (len_log Lg tM sM 5 w11 HL11.out).mono ?_
    rintro e w12 ⟨rfl, rfl⟩
    go_wp2_with fail
    go_loopg [10] 16 (fun g v10 wr => ∃ k : Nat, k ≤ 16 ∧ v10 = .int .i64 k ∧ 16 - k ≤ g ∧ Aside (Below w10.heap.size w10 wr) ∧ Aside (LogAt wr Lg tM sM 5))
    case atStart => exact ⟨0, by omega, rfl, by omega, HB11, HL11⟩
    case round =>
      clear HL11 HB11
      obtain ⟨k, hk, rfl, hg, HB, HL⟩ := hrel
      by_cases hlt : k < 16
      · have hki : (k : Int) < 16 := by omega
        have HME : Aside (∀ q, 16 - k ≤ q → 16 - (k + 1) < q) := fun q h => by omega
        obtain ⟨hlb, hrg0⟩ := HNL.out
        have hrg := rangeAt_on (hrg0 k hlt) hlb HB.out
        rw [Nat.zero_add] at hrg
        have HRG := aside hrg
        obtain ⟨rv2, hrv2⟩ : ∃ r, r = nv k := ⟨_, rfl⟩
        rw [← hrv2] at HRG
        obtain ⟨dk, hdk⟩ : ∃ d, d = noneD.getD k {} := ⟨_, rfl⟩
        have HRV : Aside (RecAt wr rv2 dk) := by rw [hrv2, hdk]; exact (HNR.out k hlt).on HB.out
        have hmem : dk ∈ noneD := by
          rw [hdk, List.getD_eq_getElem?_getD, List.getElem?_eq_getElem (show k < noneD.length from hlt)]
          exact List.getElem_mem _
        obtain ⟨hm, ho⟩ := none_all dk hmem
        have HMM := aside hm
        have HOK := aside ho
        have hi0 : (Tryd.prog.info? 57).map (·.size) = some (recCells rv2).toList.length := by rw [Array.length_toList, recCells_size]; kernel_rfl
        clear hlb hrg0 hrg hrv2 hdk hmem hm ho
        go_wp2_with (first
          | (refine wpList_load_midG (by rfl) _ _ rfl N2 (k * 49) rfl _ _ HRG.out Tryd.underlying57 rfl hi0 (recCells rv2) (Array.toArray_toList) ?_)
          | fail)
        refine (bytes_any rv2 dk HOK.out wr HRV.out).mono ?_
        rintro e w13 ⟨rfl, hb13⟩
        rw [show bytesA dk = (⟨#[]⟩, 15) by rw [bytesA, if_neg (by rw [HMM.out]; decide)]]
        have hsz2 : N2 < wr.heap.size := Nat.lt_of_lt_of_le HNL.out.1 HB.out.size
        have HRG2 := aside (rangeAt_on HRG.out hsz2 hb13)
        have HRV2 := aside (HRV.out.on hb13)
        have HL2 := aside (HL.out.on hb13)
        have HB2 := aside (new_trans HB.out hb13)
        clear hb13 hsz2 HRG HRV HL HB
        go_wp2_with (first
          | (refine wpList_load_midG (by rfl) _ _ rfl N2 (k * 49) rfl _ _ HRG2.out Tryd.underlying57 rfl hi0 (recCells rv2) (Array.toArray_toList) ?_)
          | fail)
        refine (add_log Lg tM sM 5 (by decide) (by have := HTS.out; omega) rv2 dk HOK.out F K kk w13 (HT.out.sha.on (new_trans HB10.out HB2.out)) HL2.out HRV2.out).mono ?_
        rintro e w14 ⟨hk14, ha14⟩
        rw [if_neg (by rw [HMM.out]; decide)] at ha14
        obtain ⟨rfl, hl14⟩ := ha14
        have HB3 := aside (new_of_keeps HB2.out hk14 (Nat.le_of_eq HLG.out.symm))
        have HL3 := aside hl14
        clear hk14 hl14 hi0
        go_wp2_with fail
        go_roundg (16 - (k + 1))
        case measure => exact HME.out _ hg
        case rel => exact ⟨k + 1, hlt, by go_num, Nat.le_refl _, HB3, HL3⟩
      · have hki : ¬ (k : Int) < 16 := by omega
        have HBB := aside (new_trans HB10.out HB.out)
        clear hg hk
        go_wp2_with fail
        refine (text_log Lg tM sM 5 wr HL.out).mono ?_
        rintro e w13 ⟨rfl, rfl⟩
        go_wp2_with fail
        refine (parse_any tM (by have := HTS.out; omega) F K kk wr (HT.out.sha.on HBB.out)).mono ?_
        rintro e w13 ⟨hb13, hp13⟩
        rw [HTM.out, parse_log (sumB_size K F) mayD may_all, if_pos rfl] at hp13
        obtain ⟨x13, rfl, hr13⟩ := hp13
        have HR13 : Aside (RecsAt w13 x13 mayD) := hr13.at_
        have HC13 := aside (new_trans HB.out hb13)
        have HB13 := aside (new_trans HBB.out hb13)
        clear hb13 hr13
        go_wp2_with fail
        refine (parse_any ⟨#[]⟩ (by decide) F K kk w13 (HT.out.sha.on HB13.out)).mono ?_
        rintro e w14 ⟨hb14, hp14⟩
        rw [show parseF (sumB K F) ⟨#[]⟩ = ([], 0, 0) from rfl, if_pos rfl] at hp14
        obtain ⟨x14, rfl, hr14⟩ := hp14
        obtain ⟨ae, ce, rfl⟩ := RecsF.form (ds := []) hr14
        have HR14 := aside (HR13.out.on hb14)
        have HC14 := aside (new_trans HC13.out hb14)
        have HB14 := aside (new_trans HB13.out hb14)
        clear hb14 hr14
        obtain ⟨hlb, hrg0⟩ := HML.out
        have hrg := rangeAt_on (hrg0 0 (by omega)) hlb HC14.out
        rw [Nat.zero_add, Nat.zero_mul] at hrg
        have HRG := aside hrg
        obtain ⟨rv3, hrv3⟩ : ∃ r, r = mv 0 := ⟨_, rfl⟩
        rw [← hrv3] at HRG
        have hi0 : (Tryd.prog.info? 57).map (·.size) = some (recCells rv3).toList.length := by rw [Array.length_toList, recCells_size]; kernel_rfl
        obtain ⟨DZ, hDZ⟩ : ∃ d, d = sumCells zero32 := ⟨_, rfl⟩
        have heq0 : ∀ W, (binOp .eql 48 (.agg DZ) (.agg #[.int .u8 0, .int .u8 0, .int .u8 0, .int .u8 0, .int .u8 0, .int .u8 0, .int .u8 0, .int .u8 0, .int .u8 0, .int .u8 0, .int .u8 0, .int .u8 0, .int .u8 0, .int .u8 0, .int .u8 0, .int .u8 0, .int .u8 0, .int .u8 0, .int .u8 0, .int .u8 0, .int .u8 0, .int .u8 0, .int .u8 0, .int .u8 0, .int .u8 0, .int .u8 0, .int .u8 0, .int .u8 0, .int .u8 0, .int .u8 0, .int .u8 0, .int .u8 0])).run Tryd.prog W = .ok (.bool true) W := fun W => by rw [hDZ]; exact zero_eql W
        have HDZ := aside hDZ
        clear hlb hrg0 hrg hrv3 hDZ
        go_wp2_with (first
          | (refine wpList_load_midG (by rfl) _ _ rfl M1 0 rfl _ _ HRG.out Tryd.underlying57 rfl hi0 (recCells rv3) (Array.toArray_toList) ?_)
          | fail)
        refine (add_nil rv3 w14).mono ?_
        rintro e w15 ⟨rfl, hb15⟩
        have HC15 := aside (new_trans HC14.out hb15)
        have HR15 := aside (HR14.out.on hb15)
        have HB15 := aside (new_trans HB14.out hb15)
        clear hb15 hi0
        go_wp2_with fail
        refine (text_nil w15).mono ?_
        rintro e w16 ⟨rfl, rfl⟩
        go_wp2_with fail
        refine (len_nil w15).mono ?_
        rintro e w16 ⟨rfl, rfl⟩
        go_wp2_with fail
        refine (last_nil w15).mono ?_
        rintro e w16 ⟨rfl, hb16⟩
        rw [← HDZ.out]
        have HC16 := aside (new_trans HC15.out hb16)
        have HR16 := aside (HR15.out.on hb16)
        have HB16 := aside (new_trans HB15.out hb16)
        clear hb16
        go_wp2_with fail
        refine (new_log w16).mono ?_
        rintro e w17 ⟨rfl, hb17, hl17⟩
        have HL17 := aside hl17
        have HC17 := aside (new_trans HC16.out hb17)
        have HR17 := aside (HR16.out.on hb17)
        have HB17 := aside (new_trans HB16.out hb17)
        clear hb17 hl17
        go_wp2_with fail
        refine (last_log w16.heap.size ⟨#[]⟩ zero32 0 w17 HL17.out).mono ?_
        rintro e w18 ⟨rfl, hb18⟩
        rw [← HDZ.out]
        have HC18 := aside (new_trans HC17.out hb18)
        have HR18 := aside (HR17.out.on hb18)
        have HB18 := aside (new_trans HB17.out hb18)
        clear hb18
        go_wp2_with fail
        refine (bad_yes ⟨#[6, 255, 0, 0, 0, 0, 0, 0, 0]⟩ (by decide) 15 w18 bad_high).mono ?_
        rintro e w19 ⟨rfl, hb19⟩
        have HC19 := aside (new_trans HC18.out hb19)
        have HR19 := aside (HR18.out.on hb19)
        have HB19 := aside (new_trans HB18.out hb19)
        clear hb19 heq0
        go_wp2_with fail
        refine (works_any F K kk w19 (HT.out.on HB19.out)).mono ?_
        rintro e w20 ⟨rfl, hb20⟩
        have HC20 := aside (new_trans HC19.out hb20)
        have HR20 := aside (HR19.out.on hb20)
        have HB20 := aside (new_trans HB19.out hb20)
        clear hb20
        go_wp2_with fail
        refine (samerecs_any x13 (.slice (some ⟨M1, 0, none⟩) 5 5) mayD mayD (by decide) (by decide) (fun d h => (may_all d h).2) (fun d h => (may_all d h).2) w20 HR20.out (HM10.out.on HC20.out)).mono ?_
        rintro e w21 ⟨rfl, hb21⟩
        rw [show decide (mayD = mayD) = true from decide_eq_true rfl]
        have HB21 := aside (new_trans HB20.out hb21)
        clear hb21
        go_wp2_with fail
        go_ret
        exact ⟨rfl, HB21.out⟩

end Go.Proofs.YtkpmcjfolncmmaaDoor
