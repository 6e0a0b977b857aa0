/- consignlaw21.works: the chapter's examples. Printed by wip/gen. -/
import Derived.Test.YtdgedckfaefohaaIs
namespace Go.Proofs.Ytdgedckfaefohaa
open Go.RowKit Go.Sort
open Go.Proofs.Ytdgedckfaefohaa.Srt Go.Proofs.Ytdgedckfaefohaa.Vk

set_option maxHeartbeats 1000000 in
set_option maxRecDepth 100000 in
theorem works_any (w : World) : Calls Try.prog 19 #[] w fun e w' => e = .returned (.bool true) ∧ Below w.heap.size w w' := by
  go_enter Try.func19, Try.ntmps19
  go_wp2_with fail
  have HL := (bidsAt_lit w [((0 : Int), (7 : Int)), (1, 5), (2, 9)] _ _ 3 rfl rfl rfl).below ((Below.refl _ _).alloc (Nat.le_refl _) (.cells (cellsOf [((2 : Int), (5 : Int)), (1, 5), (0, 8)]).toArray 32))
  have HT := bidsAt_lit (w.alloc (.cells (cellsOf [((0 : Int), (7 : Int)), (1, 5), (2, 9)]).toArray 32)) [((2 : Int), (5 : Int)), (1, 5), (0, 8)] _ (w.heap.size + 1) 3 rfl (by simp) rfl
  refine (rank_lit [((2 : Int), (5 : Int)), (1, 5), (0, 4)] _ _ ?hl (by decide) 2 1 0 (by decide)).mono ?_
  case hl => exact bidsAt_lit _ [((2 : Int), (5 : Int)), (1, 5), (0, 4)] _ _ _ rfl (by simp) rfl
  rintro e u0 ⟨g, rfl, hg, r0, r1, r2, hb0⟩
  have HL0 := aside ((HL.below ((Below.refl _ _).alloc (Nat.le_refl _) (.cells (cellsOf [((2 : Int), (5 : Int)), (1, 5), (0, 4)]).toArray 32))).below hb0)
  have HT0 := aside ((HT.below ((Below.refl _ _).alloc (Nat.le_refl _) (.cells (cellsOf [((2 : Int), (5 : Int)), (1, 5), (0, 4)]).toArray 32))).below hb0)
  have KW := aside (((((Below.refl w.heap.size w).alloc (Nat.le_refl _) _).alloc (by simp) _).alloc (by simp; omega) _).trans (hb0.mono (by simp; omega)))
  have R0 := aside r0
  have R1 := aside r1
  have R2 := aside r2
  have K1 := Below.refl u0.heap.size u0
  clear HL HT r0 r1 r2 hb0
  go_wp2_with fail
  refine (of_lit _ _ _ 2 1 7 _ (HL0.out.below K1) (by decide) (by decide)).mono ?_
  rintro e u1 ⟨rfl, hb1⟩
  have K2 := K1.trans (hb1.mono K1.size)
  clear hb1 K1
  go_wp2_with fail
  refine (is_yes _ _ _ _).mono ?_
  rintro e u2 ⟨rfl, hb2⟩
  have K3 := K2.trans (hb2.mono K2.size)
  clear hb2 K2
  go_wp2_with fail
  refine (of_lit _ _ _ 2 1 6 _ (HL0.out.below K3) (by decide) (by decide)).mono ?_
  rintro e u3 ⟨rfl, hb3⟩
  have K4 := K3.trans (hb3.mono K3.size)
  clear hb3 K3
  go_wp2_with fail
  refine (is_yes _ _ _ _).mono ?_
  rintro e u4 ⟨rfl, hb4⟩
  have K5 := K4.trans (hb4.mono K4.size)
  clear hb4 K4
  go_wp2_with fail
  refine (of_lit _ _ _ 3 (-1) 0 _ (HL0.out.below K5) (by decide) (by decide)).mono ?_
  rintro e u5 ⟨rfl, hb5⟩
  have K6 := K5.trans (hb5.mono K5.size)
  clear hb5 K5
  go_wp2_with fail
  refine (is_yes _ _ _ _).mono ?_
  rintro e u6 ⟨rfl, hb6⟩
  have K7 := K6.trans (hb6.mono K6.size)
  clear hb6 K6
  go_wp2_with fail
  refine (of_lit _ _ _ 2 1 5 _ (HT0.out.below K7) (by decide) (by decide)).mono ?_
  rintro e u7 ⟨rfl, hb7⟩
  have K8 := K7.trans (hb7.mono K7.size)
  clear hb7 K7
  go_wp2_with fail
  refine (is_yes _ _ _ _).mono ?_
  rintro e u8 ⟨rfl, hb8⟩
  have K9 := K8.trans (hb8.mono K8.size)
  clear hb8 K8
  go_wp2_with fail
  refine (of_lit [((3 : Int), (5 : Int))] _ _ 2 3 20 _ ?hl (by decide) (by decide)).mono ?_
  case hl => exact bidsAt_lit _ [((3 : Int), (5 : Int))] _ _ _ rfl (by simp) rfl
  rintro e u9 ⟨rfl, hb9⟩
  have K10 := (K9.alloc K9.size (.cells (cellsOf [((3 : Int), (5 : Int))]).toArray 32)).trans (hb9.mono (K9.alloc K9.size (.cells (cellsOf [((3 : Int), (5 : Int))]).toArray 32)).size)
  clear hb9 K9
  go_wp2_with fail
  refine (is_yes _ _ _ _).mono ?_
  rintro e u10 ⟨rfl, hb10⟩
  have K11 := K10.trans (hb10.mono K10.size)
  clear hb10 K10
  have c0 := (K11.cell (p := ⟨g, 0, none⟩) hg).trans R0.out
  have c1 := (K11.cell (p := ⟨g, 1, none⟩) hg).trans R1.out
  have c2 := (K11.cell (p := ⟨g, 2, none⟩) hg).trans R2.out
  go_wp2
  go_ret
  exact ⟨rfl, KW.out.trans (K11.mono KW.out.size)⟩

end Go.Proofs.Ytdgedckfaefohaa
