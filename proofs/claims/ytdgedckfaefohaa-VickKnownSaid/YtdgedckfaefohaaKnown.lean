/- consignlaw21.VickKnown, walked. Printed by wip/gen. -/
import Derived.Test.YtdgedckfaefohaaWorks
namespace Go.Proofs.Ytdgedckfaefohaa
open Go.RowKit Go.Sort
open Go.Proofs.Ytdgedckfaefohaa.Srt Go.Proofs.Ytdgedckfaefohaa.Vk

/-- The row of no places. -/
theorem rank_nil (w : World) : Calls Try.prog 17 #[.slice none 0 0] w fun e w' => ∃ g, e = .returned (.slice (some ⟨g, 0, none⟩) 0 0) ∧ Below w.heap.size w w' :=
  (rank_any [] _ w (.inl ⟨.inl rfl, rfl⟩) (by decide)).mono fun _ _ ⟨v', h1, ⟨g, h2, _⟩, h6⟩ => by subst h2; exact ⟨g, h1, h6⟩

set_option maxHeartbeats 2000000 in
set_option maxRecDepth 100000 in
theorem known_any (w : World) : Calls Try.prog 8 #[] w fun e w' => e = .returned (.bool true) ∧ Below w.heap.size w w' := by
  go_enter Try.func8, Try.ntmps8
  go_wp2_with fail
  have HA := ((bidsAt_lit w [((4 : Int), (3 : Int)), (4, 2), (1, 9)] _ _ 3 rfl rfl rfl).below ((Below.refl _ _).alloc (Nat.le_refl _) (.cells (cellsOf [((1 : Int), (6 : Int)), (0, 6)]).toArray 32))).below ((Below.refl _ _).alloc (Nat.le_refl _) (.cells (cellsOf [((1 : Int), (18446744073709551615 : Int)), (2, 18446744073709551615)]).toArray 32))
  have HB := (bidsAt_lit (w.alloc (.cells (cellsOf [((4 : Int), (3 : Int)), (4, 2), (1, 9)]).toArray 32)) [((1 : Int), (6 : Int)), (0, 6)] _ (w.heap.size + 1) 2 rfl (by simp) rfl).below ((Below.refl _ _).alloc (Nat.le_refl _) (.cells (cellsOf [((1 : Int), (18446744073709551615 : Int)), (2, 18446744073709551615)]).toArray 32))
  have HC := bidsAt_lit ((w.alloc (.cells (cellsOf [((4 : Int), (3 : Int)), (4, 2), (1, 9)]).toArray 32)).alloc (.cells (cellsOf [((1 : Int), (6 : Int)), (0, 6)]).toArray 32)) [((1 : Int), (18446744073709551615 : Int)), (2, 18446744073709551615)] _ (w.heap.size + 1 + 1) 2 rfl (by simp) rfl
  refine (rank_lit [((1 : Int), (2 : Int)), (1, 2), (-1, 2)] _ _ ?hl (by decide) 2 0 1 (by decide)).mono ?_
  case hl => exact bidsAt_lit _ [((1 : Int), (2 : Int)), (1, 2), (-1, 2)] _ _ _ rfl (by simp) rfl
  rintro e u0 ⟨g, rfl, hg, r0, r1, r2, hb0⟩
  have HA0 := aside ((HA.below ((Below.refl _ _).alloc (Nat.le_refl _) (.cells (cellsOf [((1 : Int), (2 : Int)), (1, 2), (-1, 2)]).toArray 32))).below hb0)
  have HB0 := aside ((HB.below ((Below.refl _ _).alloc (Nat.le_refl _) (.cells (cellsOf [((1 : Int), (2 : Int)), (1, 2), (-1, 2)]).toArray 32))).below hb0)
  have HC0 := aside ((HC.below ((Below.refl _ _).alloc (Nat.le_refl _) (.cells (cellsOf [((1 : Int), (2 : Int)), (1, 2), (-1, 2)]).toArray 32))).below hb0)
  have KW := aside ((((((Below.refl w.heap.size w).alloc (Nat.le_refl _) _).alloc (by simp) _).alloc (by simp; omega) _).alloc (by simp; omega) _).trans (hb0.mono (by simp; omega)))
  have R0 := aside r0
  have R1 := aside r1
  have R2 := aside r2
  have K0 := Below.refl u0.heap.size u0
  clear HA HB HC r0 r1 r2 hb0
  go_wp2_with fail
  refine (works_any _).mono ?_
  rintro e uw ⟨rfl, hbw⟩
  have K1 := K0.trans (hbw.mono K0.size)
  clear hbw K0
  go_wp2_with fail
  refine (of_lit _ _ _ 2 4 3 _ (HA0.out.below K1) (by decide) (by decide)).mono ?_
  rintro e u1 ⟨rfl, hb1⟩
  have K2 := K1.trans (hb1.mono K1.size)
  clear hb1 K1
  go_wp2_with fail
  refine (is_yes _ _ _ _).mono ?_
  rintro e u2 ⟨rfl, hb2⟩
  have K3 := K2.trans (hb2.mono K2.size)
  clear hb2 K2
  go_wp2_with fail
  refine (of_lit _ _ _ 2 0 6 _ (HB0.out.below K3) (by decide) (by decide)).mono ?_
  rintro e u3 ⟨rfl, hb3⟩
  have K4 := K3.trans (hb3.mono K3.size)
  clear hb3 K3
  go_wp2_with fail
  refine (is_yes _ _ _ _).mono ?_
  rintro e u4 ⟨rfl, hb4⟩
  have K5 := K4.trans (hb4.mono K4.size)
  clear hb4 K4
  go_wp2_with fail
  refine (of_lit _ _ _ 3 (-1) 0 _ (HB0.out.below K5) (by decide) (by decide)).mono ?_
  rintro e u5 ⟨rfl, hb5⟩
  have K6 := K5.trans (hb5.mono K5.size)
  clear hb5 K5
  go_wp2_with fail
  refine (is_yes _ _ _ _).mono ?_
  rintro e u6 ⟨rfl, hb6⟩
  have K7 := K6.trans (hb6.mono K6.size)
  clear hb6 K6
  go_wp2_with fail
  refine (of_lit _ _ _ 2 1 18446744073709551615 _ (HC0.out.below K7) (by decide) (by decide)).mono ?_
  rintro e u7 ⟨rfl, hb7⟩
  have K8 := K7.trans (hb7.mono K7.size)
  clear hb7 K7
  go_wp2_with fail
  refine (is_yes _ _ _ _).mono ?_
  rintro e u8 ⟨rfl, hb8⟩
  have K9 := K8.trans (hb8.mono K8.size)
  clear hb8 K8
  go_wp2_with fail
  refine (of_lit [] _ _ 3 (-1) 0 _ (.inl ⟨.inl rfl, rfl⟩) (by decide) (by decide)).mono ?_
  rintro e v9 ⟨rfl, hb9⟩
  have K10 := K9.trans (hb9.mono K9.size)
  clear hb9 K9
  go_wp2_with fail
  refine (is_yes _ _ _ _).mono ?_
  rintro e u10 ⟨rfl, hb10⟩
  have K11 := K10.trans (hb10.mono K10.size)
  clear hb10 K10
  go_wp2_with fail
  refine (of_lit [((2 : Int), (0 : Int))] _ _ 2 2 0 _ ?hl (by decide) (by decide)).mono ?_
  case hl => exact bidsAt_lit _ [((2 : Int), (0 : Int))] _ _ _ rfl (by simp) rfl
  rintro e u11 ⟨rfl, hb11⟩
  have K12 := (K11.alloc K11.size (.cells (cellsOf [((2 : Int), (0 : Int))]).toArray 32)).trans (hb11.mono (K11.alloc K11.size (.cells (cellsOf [((2 : Int), (0 : Int))]).toArray 32)).size)
  clear hb11 K11
  go_wp2_with fail
  refine (is_yes _ _ _ _).mono ?_
  rintro e u12 ⟨rfl, hb12⟩
  have K13 := K12.trans (hb12.mono K12.size)
  clear hb12 K12
  go_wp2_with fail
  refine (rank_nil _).mono ?_
  rintro e u13 ⟨g2, rfl, hb13⟩
  have K14 := K13.trans (hb13.mono K13.size)
  clear hb13 K13
  have c0 := (K14.cell (p := ⟨g, 0, none⟩) hg).trans R0.out
  have c1 := (K14.cell (p := ⟨g, 1, none⟩) hg).trans R1.out
  have c2 := (K14.cell (p := ⟨g, 2, none⟩) hg).trans R2.out
  go_wp2
  go_ret
  exact ⟨rfl, KW.out.trans (K14.mono KW.out.size)⟩

end Go.Proofs.Ytdgedckfaefohaa
