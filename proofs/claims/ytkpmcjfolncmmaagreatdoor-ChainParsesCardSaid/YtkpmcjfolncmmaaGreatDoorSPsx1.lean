/- consignref30.Records: drafts' records; they may be. -/
import Derived.Test.YtkpmcjfolncmmaaGreatDoorSDrfZ
import Derived.Test.YtkpmcjfolncmmaaGreatDoorSDrz
import Derived.Test.YtkpmcjfolncmmaaGreatDoorSPrs1
import Derived.Test.YtkpmcjfolncmmaaGreatDoorSNxr
import Derived.Test.YtkpmcjfolncmmaaGreatDoorSWrk1
import Derived.Deep.RegionHeld3
import Derived.Deep.DeepCutAuto
import Derived.StillTailTactics
import Derived.BigRegion
set_option linter.all false
namespace Go.Proofs.YtkpmcjfolncmmaaGreatDoor
open Go.RowKit
def RcsPost (w : World) (e : Ending) (w' : World) : Prop :=
  ∃ v ds, e = .returned v ∧ RecsF w.heap.size w' v ds ∧ AllMay ds ∧ ds.length ≤ 12 ∧ Below w.heap.size w w'
set_option maxHeartbeats 2000000 in
set_option maxRecDepth 100000 in
theorem records_any (v : Value) (n : Nat) (hn : n ≤ 9223372036854775807) (w : World) (h : DraftsAt w v n) :
    Calls Tryz.prog 12 #[v] w (RcsPost w) := by
  obtain ⟨a, cap, dv, rfl, hcap, hrw, hra⟩ := h
  have HRW := aside hrw
  have HRA := aside hra
  clear hrw hra
  go_enter Tryz.func12, Tryz.ntmps12
  go_wp2_with fail
  go_loopg [3, 4] 12 (fun g v3 v4 wr => ∃ (k : Nat) (ds : List RecD), k ≤ 12 ∧ v4 = .int .i64 k ∧ 12 - k ≤ g ∧ ds.length = k ∧ Aside (AllMay ds) ∧ Aside (RecsF w.heap.size wr v3 ds) ∧ Aside (Below w.heap.size w wr))
  case atStart => exact ⟨0, [], by omega, rfl, by omega, rfl, fun x h => by simp at h, RecsF.nil _ _, Below.refl _ _⟩
  case round =>
    obtain ⟨k, ds, hk, rfl, hg, hl, HA, HR, HB⟩ := hrel
    obtain ⟨av, cv, rfl⟩ : ∃ av cv, u3 = .slice av k cv := by
      obtain ⟨_, _, h2, _⟩ := HR.out
      obtain ⟨a, cap, e, _⟩ := ownsRow_form h2
      exact ⟨a, cap, by rw [e, hl]⟩
    by_cases hc : k < n ∧ k < 12
    · obtain ⟨hkn, hk12⟩ := hc
      have hki : (k : Int) < 12 := by omega
      have hni : (k : Int) < n := by omega
      have HME : Aside (∀ q, 12 - k ≤ q → 12 - (k + 1) < q) := fun q h => by omega
      obtain ⟨lb, lo, rfl, hlb, hj⟩ := HRW.out (by omega)
      have hrg := rangeAt_on (hj k hkn) hlb HB.out
      have HRG := aside hrg
      have HD : Aside (DrAt wr (dv k)) := (HRA.out k hkn).on HB.out
      have hi0 : (Tryz.prog.info? 28).map (·.size) = some (drCells (dv k)).toList.length := by kernel_rfl
      have HHL := aside hl
      clear hj hrg hl
      go_upto_region 5 with fail
      go_wp2_with (first
        | (refine wpList_load_midG (by rfl) _ _ rfl lb (lo + k * 10) rfl _ _ HRG.out Tryz.underlying28 rfl hi0 (drCells (dv k)) (Array.toArray_toList) ?_)
        | fail)
      refine (draft_any (dv k) wr HD.out).mono ?_
      rintro e w2 ⟨rv, d, rfl, hrf, hmd, hdo, hb2⟩
      have HRF := aside hrf
      have HMD := aside hmd
      have HDO := aside hdo
      have HR2 := aside (HR.out.on hb2)
      have HB2 := aside (new_trans HB.out hb2)
      have HS2 : Aside (w.heap.size ≤ wr.heap.size ∧ wr.heap.size ≤ w2.heap.size) := ⟨HB.out.size, hb2.size⟩
      obtain ⟨D, hD⟩ : ∃ D, D = recCells rv := ⟨_, rfl⟩
      have HONE : Aside (D.all (·.oneCell') = true) := by rw [hD]; exact hrf.one
      have HD49 : Aside (D.size = 49) := by rw [hD]; exact recCells_size rv
      have HDD := aside hD
      rw [← hD]
      obtain ⟨rvs, hv1, hv2, hv3⟩ := HR2.out
      have HV1 := aside hv1
      have HV2 : Aside (w2.ownsRow w.heap.size 38 49 (.slice av k cv) k (rvs.flatMap fun r => (recCells r).toList)) := by rw [← HHL.out]; rw [HHL.out]; have := hv2; rw [HHL.out] at this; exact this
      have HV3 := aside hv3
      clear hrf hmd hdo hb2 hD hv1 hv2 hv3 hi0
      go_wp2_with (first
        | (refine wpList_slice_by rfl 48 1 _ rfl (.agg D) _ rfl (rec_slice D HD49.out w2) ?_)
        | (at_builtin; refine wpList_append_one rfl _ _ 48 38 rfl (.agg (recCells {})) 49 216 Tryz.underlying48 Tryz.infoRec rfl (by decide) w.heap.size _ k _ rfl (World.ownsRow.alloc HV2.out _) w2.heap.size D.toList ?c1 ?c2 rfl ?c3 ?c4 ?c5 ?c6 ?_)
        | fail)
      case c1 => rw [Array.length_toList]; exact HD49.out
      case c2 => intro y hy; exact (Array.all_eq_true_iff_forall_mem.1 HONE.out) y (by simpa using hy)
      case c3 => intro j y hy; rw [cell_new]; simpa using hy
      case c4 => unfold maxLen; omega
      case c5 => omega
      case c6 => have := HS2.out; simp; omega
      intro v' w8 hown' hgrow
      have hkg : ∀ K : Nat → Prop, (∀ k', (Value.slice av k cv).ownBlock = some k' → ¬ K k') → Keeps K w2 w8 := fun K hK => (keeps_of_new (new_alloc w2 (.cells D 38)) K).trans (keeps_grown hgrow K hK)
      have HRS8 : Aside (RecsF w.heap.size w8 v' (ds ++ [d])) := by
        refine RecsF.snoc (w := w2) (v := .slice av k cv) HV1.out (by rw [HHL.out]; exact HV2.out) HV3.out (HRF.out.mono HS2.out.1) hkg ?_
        rw [HHL.out, ← HDD.out]
        exact hown'
      have hob : ∀ k', (Value.slice av k cv).ownBlock = some k' → w.heap.size ≤ k' := fun k' hk => (World.ownsRow.lt HV2.out k' hk).1
      have HB8 : Aside (Below w.heap.size w w8) := HB2.out.trans (((hkg (· < w.heap.size) (fun k' hk => by have := hob k' hk; omega)).below HB2.out.size))
      have HA8 : Aside (AllMay (ds ++ [d])) := fun x hx => by
        rcases List.mem_append.1 hx with h | h
        · exact HA.out x h
        · rw [List.mem_singleton.1 h]; exact ⟨HMD.out, HDO.out⟩
      have HL8 : Aside ((ds ++ [d]).length = k + 1) := by rw [Aside, List.length_append, HHL.out]; rfl
      clear hown' hgrow hkg hob
      go_wp2_with fail
      go_roundg (12 - (k + 1))
      case measure => exact HME.out _ hg
      case rel => exact ⟨k + 1, ds ++ [d], hk12, by go_num, Nat.le_refl _, HL8.out, HA8, HRS8, HB8⟩
    · have HP : Aside (RcsPost w (.returned (.slice av k cv)) wr) := ⟨_, ds, rfl, HR.out, HA.out, by omega, HB.out⟩
      by_cases hkn : k < n
      · have hni : (k : Int) < n := by omega
        have hki : ¬ (k : Int) < 12 := fun h => hc ⟨hkn, by omega⟩
        clear hc
        go_wp2_with fail
        go_ret
        exact HP.out
      · have hni : ¬ (k : Int) < n := by omega
        clear hc
        go_wp2_with fail
        go_ret
        exact HP.out
end Go.Proofs.YtkpmcjfolncmmaaGreatDoor
namespace Go.Proofs.YtkpmcjfolncmmaaGreatDoor
open Go.RowKit
structure PsF (P D Y : Nat) (z0 z1 z2 : Int) (s : ByteArray) (n : Nat) (w W : World) : Prop where
  p : W.heap[P]? = some (.cells #[.int .u16 z0, .int .u16 z1, .int .u16 z2] 29 (0, 0))
  d : W.heap[D]? = some (.cells (digA s) 33 (0, 0))
  y : ∃ l : List Int, l.length = n ∧ BytAt W Y l
  yl : Y < W.heap.size
  bel : Below w.heap.size w W
theorem PsF.on {P D Y : Nat} {z0 z1 z2 : Int} {s : ByteArray} {n : Nat} {w W W' : World} (h : PsF P D Y z0 z1 z2 s n w W) (hb : Below W.heap.size W W') : PsF P D Y z0 z1 z2 s n w W' := by
  obtain ⟨l, hl, hy⟩ := h.y
  exact ⟨whole_new h.p hb, whole_new h.d hb, ⟨l, hl, hy.on h.yl hb⟩, Nat.lt_of_lt_of_le h.yl hb.size, new_trans h.bel hb⟩
theorem PsF.setY {P D Y : Nat} {z0 z1 z2 : Int} {s : ByteArray} {n : Nat} {w W : World} (h : PsF P D Y z0 z1 z2 s n w W) (hPY : P ≠ Y) (hDY : D ≠ Y) (hw : w.heap.size ≤ Y) (i : Nat) (hi : i < n) (y : Int) : PsF P D Y z0 z1 z2 s n w (W.setCell ⟨Y, i, none⟩ (.int .u8 y)) := by
  have hk : Keeps (· ≠ Y) W (W.setCell ⟨Y, i, none⟩ (.int .u8 y)) := (Keeps.refl _ _).setCell (p := ⟨Y, i, none⟩) (.inr (fun h => h rfl)) _
  obtain ⟨l, hl, hy⟩ := h.y
  exact ⟨whole_keeps h.p hk hPY, whole_keeps h.d hk hDY, ⟨l.set i y, by rw [List.length_set, hl], hy.set i (by rw [hl]; exact hi) y⟩, by simpa using h.yl, new_of_keeps h.bel hk hw⟩
set_option maxHeartbeats 1000000 in
set_option maxRecDepth 100000 in
theorem cparses_any (v : Value) (nd : Nat) (hnd : nd ≤ 9223372036854775807) (z0 z1 z2 : Int) (hz0 : 0 ≤ z0 ∧ z0 ≤ 65535) (hz1 : 0 ≤ z1 ∧ z1 ≤ 65535) (hz2 : 0 ≤ z2 ∧ z2 ≤ 65535) (raw : ByteArray) (hraw : raw.size ≤ 9223372036854775807) (kk : Array Value) (w : World) (ht : Tabs refF refK kk w) (hd : DraftsAt w v nd) :
    Calls Tryz.prog 4 #[v, .agg #[.int .u16 z0, .int .u16 z1, .int .u16 z2], .string raw] w fun e w' => e = .returned (.bool true) ∧ Below w.heap.size w w' := by
  have HT := aside ht
  have HDA := aside hd
  obtain ⟨P, hP⟩ : ∃ x, x = w.heap.size := ⟨_, rfl⟩
  obtain ⟨w0, hw0⟩ : ∃ z, z = w.alloc (.cells #[.int .u16 z0, .int .u16 z1, .int .u16 z2] 29) := ⟨_, rfl⟩
  have HB0 : Aside (Below w.heap.size w w0) := by rw [hw0]; exact new_alloc _ _
  have HP0 : Aside (w0.heap[P]? = some (.cells #[.int .u16 z0, .int .u16 z1, .int .u16 z2] 29 (0, 0))) := by rw [hw0, hP]; exact heap_new _ _
  have HPW := aside hP
  have HZ := aside (⟨hz0, hz1, hz2⟩ : (0 ≤ z0 ∧ z0 ≤ 65535) ∧ (0 ≤ z1 ∧ z1 ≤ 65535) ∧ (0 ≤ z2 ∧ z2 ≤ 65535))
  have HND := aside hnd
  clear ht hd hz0 hz1 hz2 hnd
  go_enter Tryz.func4, Tryz.ntmps4
  go_upto_region 1 with fail
  rw [← hw0, ← hP]
  clear hw0 hP
  go_cut [2] (fun s2 wx => ∃ r : ByteArray, s2 = .string r ∧ r.size ≤ 200 ∧ wx = w0)
  case first =>
    by_cases h2 : raw.size ≤ 200
    · have e1 : (raw.size : Int) ≤ 200 := by omega
      go_wp2_with fail
      go_meet
      case rel => exact ⟨raw, rfl, h2, rfl⟩
    · have e1 : ¬ (raw.size : Int) ≤ 200 := by omega
      have e2 : (200 : Int) ≤ raw.size := by omega
      have e3 : 200 ≤ raw.size := by omega
      have hs : (raw.extract 0 200).size ≤ 200 := by rw [ByteArray.size_extract]; omega
      have HS := aside hs
      clear hs
      go_wp2_with fail
      go_meet
      case rel => exact ⟨_, rfl, HS.out, rfl⟩
  case rest =>
    obtain ⟨r, rfl, hr200, rfl⟩ := hcut
    clear hraw
    have HR200 := aside hr200
    clear hr200
    go_wp2_with fail
    refine (records_any v nd HND.out wc (HDA.out.on HB0.out)).mono ?_
    rintro e w1 ⟨v1, ds, rfl, hr1, hm1, hl1, hb1⟩
    have HV1 : Aside (RecsAt w1 v1 ds) := hr1.at_
    have HM1 := aside hm1
    have HL1 := aside hl1
    have HB1 : Aside (Below w.heap.size w w1) := new_trans HB0.out hb1
    have HP1 := aside (whole_new HP0.out hb1)
    clear hr1 hm1 hl1 hb1
    go_wp2_with fail
    refine (rtext_any v1 ds (by have := HL1.out; omega) HM1.out w1 HV1.out).mono ?_
    rintro e w2 ⟨rfl, hb2⟩
    obtain ⟨x, hx⟩ : ∃ x, x = textF (sumB refK refF) zero32 ds := ⟨_, rfl⟩
    obtain ⟨s, hs⟩ : ∃ s, s = lastF (sumB refK refF) zero32 ds := ⟨_, rfl⟩
    rw [← hx, ← hs]
    have HXZ : Aside (x.size ≤ 185 * 12) := by
      have := text_le (sumB_size refK refF) ds zero32 HM1.out
      rw [← hx] at this
      have := HL1.out
      rw [Aside]
      omega
    have HSZ : Aside (s.size = 32) := by rw [hs]; exact lastF_size (sumB_size refK refF) _ _ zero32_size
    have HB2 := aside (new_trans HB1.out hb2)
    have HP2 := aside (whole_new HP1.out hb2)
    clear hx hs hb2 HP1 HV1 HM1 HL1 HB1 HP0 HB0
    have hds : (Tryz.prog.info? 33).map (·.size) = some (digA s).size := by rw [digA_size]; kernel_rfl
    go_upto_region 4 with (first
      | (refine wpList_store_row rfl _ _ _ rfl w2.heap.size (digA s) rfl rfl 33 _ (heap_new w2 _) hds (by rw [digA_size]; rfl) (digA_one s) ?_; rw [World.setRow_alloc_new])
      | fail)
    obtain ⟨D, hD⟩ : ∃ x, x = w2.heap.size := ⟨_, rfl⟩
    obtain ⟨w3, hw3⟩ : ∃ z, z = w2.alloc (.cells (digA s) 33) := ⟨_, rfl⟩
    have HD3 : Aside (w3.heap[D]? = some (.cells (digA s) 33 (0, 0))) := by rw [hw3, hD]; exact heap_new _ _
    have HP3 : Aside (w3.heap[P]? = some (.cells #[.int .u16 z0, .int .u16 z1, .int .u16 z2] 29 (0, 0))) := by rw [hw3]; exact whole_new HP2.out (new_alloc _ _)
    have HB3 : Aside (Below w.heap.size w w3) := by rw [hw3]; exact st_new w _ _ HB2.out (new_alloc _ _)
    have hPD : P < D := by rw [hD]; exact whole_lt HP2.out
    rw [← hw3, ← hD]
    have kc := Lib.run_convert_string_bytes (P := Tryz.prog) w3 9 26 5 x Tryz.underlying9 Tryz.underlying26 Tryz.underlying5
    obtain ⟨Y, hY⟩ : ∃ x, x = w3.heap.size := ⟨_, rfl⟩
    obtain ⟨cp, hcp⟩ : ∃ c, c = grownCap w3 x.size 0 5 := ⟨_, rfl⟩
    obtain ⟨w4, hw4⟩ : ∃ z, z = Lib.bytesWorld w3 5 x := ⟨_, rfl⟩
    obtain ⟨n, hn⟩ : ∃ n, n = x.size := ⟨_, rfl⟩
    have hb4 : Below w3.heap.size w3 w4 := by rw [hw4]; exact new_bytesWorld _ _ _
    have HF4 : Aside (PsF P D Y z0 z1 z2 s n w w4) := by
      refine ⟨whole_new HP3.out hb4, whole_new HD3.out hb4, ⟨numsOf x, by rw [numsOf_length, hn], ?_⟩, ?_, st_new w _ _ HB3.out hb4⟩
      · rw [hw4, hY]; exact BytAt.conv w3 x
      · rw [hw4, hY, Lib.bytesWorld_size]; exact Nat.lt_succ_self _
    have HNE : Aside (P ≠ Y ∧ D ≠ Y ∧ w.heap.size ≤ Y) := by
      have h1 := whole_lt HD3.out
      have h2 := HB3.out.size
      rw [hY]; exact ⟨by omega, by omega, h2⟩
    have hncp : n ≤ cp := by rw [hcp, hn]; exact grownCap_ge _ _ _ _
    rw [← hY, ← hcp, ← hw4] at kc
    have hn12 : n ≤ 185 * 12 := by rw [hn]; exact HXZ.out
    have HXN := aside hn
    clear hb4 hw4 hY hcp hw3 hD HD3 HP3 HB3 HP2 HB2 hds
    go_upto_region 5 with fail
    rw [← hn]
    clear kc hn
    go_cut [29] (fun s29 wx => s29 = .bool (decide (0 < n)) ∧ wx = w4)
    case first =>
      go_wp2_with fail
      go_meet
      case rel => exact ⟨rfl, rfl⟩
    case rest =>
      obtain ⟨rfl, hwx⟩ := hcut
      rw [hwx]
      clear hwx
      apply_assumption
      go_cut [10] (fun s10 wx => s10 = .slice (some ⟨Y, 0, none⟩) n cp ∧ Aside (PsF P D Y z0 z1 z2 s n w wx))
      case first =>
        by_cases hn0 : n = 0
        · have e1 : decide (0 < n) = false := decide_eq_false (by omega)
          go_wp2_with fail
          go_meet
          case rel => exact ⟨by rw [hn0], HF4⟩
        · have e1 : decide (0 < n) = true := decide_eq_true (by omega)
          obtain ⟨u, hu⟩ : ∃ u : Nat, z0 = u := ⟨z0.toNat, by have := HZ.out; omega⟩
          subst hu
          obtain ⟨j, hj⟩ : ∃ j, j = u % n := ⟨_, rfl⟩
          have hjn : j < n := by rw [hj]; exact Nat.mod_lt _ (by omega)
          have hrem : (u : Int).tmod (n : Int) = (j : Int) := by rw [hj]; rfl
          have hnn0 : ¬ (n : Int) = 0 := by omega
          have hnb : ((n : Int) == 0) = false := by simpa using hn0
          have hwu : IntKind.i64.wrap (u : Int) = u := IntWalk.i64_in _ (by have := HZ.out; omega)
          have hji : (j : Int) < n := by omega
          have c0 : w4.cell? ⟨P, 0, none⟩ = some (.int .u16 u) := cell_whole HF4.out.p 0
          have c1 : w4.cell? ⟨P, 1, none⟩ = some (.int .u16 z1) := cell_whole HF4.out.p 1
          obtain ⟨l, hl, hy⟩ := HF4.out.y
          have cy := hy.cell j (by rw [hl]; exact hjn)
          have fy := hy.free j (by rw [hl]; exact hjn)
          obtain ⟨y0, hy0⟩ : ∃ y, y = l.getD j 0 := ⟨_, rfl⟩
          rw [← hy0] at cy
          have HSET : Aside (∀ y, PsF P D Y u z1 z2 s n w (w4.setCell ⟨Y, j, none⟩ (.int .u8 y))) := fun y => HF4.out.setY HNE.out.1 HNE.out.2.1 HNE.out.2.2 j hjn y
          clear hj hl hy hy0
          go_upto_region 6 with fail
          go_still_tail 16, (by kernel_rfl)
          go_wp2_with fail
          go_meet
          case rel => exact ⟨rfl, (HSET.out _).on (new_drew _)⟩
      case rest =>
        obtain ⟨rfl, HF⟩ := hcut
        clear HF4 hn12
        have hds : (Tryz.prog.info? 33).map (·.size) = some (digA s).size := by rw [digA_size]; kernel_rfl
        go_wp2_with (first
          | (refine wpList_load_row rfl _ _ rfl D rfl _ (digA s) (0, 0) _ HF.out.d Tryz.underlying33 rfl hds ?_)
          | fail)
        refine (rnext_any s r HSZ.out (by have := HR200.out; omega) wc).mono ?_
        rintro e w5 ⟨rfl, hb5⟩
        have HF5 := aside (HF.out.on hb5)
        obtain ⟨u, hu⟩ : ∃ u, u = sumB refK refF (s ++ r) := ⟨_, rfl⟩
        rw [← hu]
        have HUZ : Aside (u.size = 32) := by rw [hu]; exact sumB_size _ _ _
        have hdu : (Tryz.prog.info? 33).map (·.size) = some (digA u).size := by rw [digA_size]; kernel_rfl
        clear hb5 hu HF hds
        go_upto_region 8 with (first
          | (refine wpList_store_row rfl _ _ _ rfl w5.heap.size (digA u) rfl rfl 33 _ (heap_new w5 _) hdu (by rw [digA_size]; rfl) (digA_one u) ?_; rw [World.setRow_alloc_new])
          | fail)
        obtain ⟨E, hE⟩ : ∃ x, x = w5.heap.size := ⟨_, rfl⟩
        obtain ⟨w6, hw6⟩ : ∃ z, z = w5.alloc (.cells (digA u) 33) := ⟨_, rfl⟩
        have hE6 : w6.heap[E]? = some (.cells (digA u) 33 (0, 0)) := by rw [hw6, hE]; exact heap_new _ _
        have HF6 : Aside (PsF P D Y z0 z1 z2 s n w w6) := by rw [hw6]; exact HF5.out.on (new_alloc _ _)
        rw [← hw6, ← hE]
        have HSA := aside (SumAt.of HUZ.out hE6)
        clear hw6 hE hE6 HF5 hdu
        simp only [Act.put]
        go_cut [12] (fun s12 wx => ∃ o : ByteArray, s12 = .string o ∧ o.size ≤ 10000 ∧ Aside (PsF P D Y z0 z1 z2 s n w wx))
        case first =>
          obtain ⟨m, hm⟩ : ∃ m, m = r.size := ⟨_, rfl⟩
          have hm2 : m ≤ 200 := by rw [hm]; exact HR200.out
          have hwr : IntKind.u8.wrap (r.size : Int) = (m : Int) := by rw [IntKind.wrap_u8, ← hm]; omega
          obtain ⟨pr, hpr⟩ : ∃ p, p = strOfNums [0, (m : Int)] := ⟨_, rfl⟩
          have hps : pr.size = 2 := by rw [hpr, strOf_size]; rfl
          have kp := run_convert_bytes_arg (P := Tryz.prog) (w := (w6.alloc (.cells #[.int .u8 0, .int .u8 m] 5)).drew) 26 5 Tryz.underlying26 Tryz.underlying5 w6.heap.size 0 2 2 [0, (m : Int)] rfl (fun i hi => by
            rw [Nat.zero_add]
            refine (cell_new w6 #[.int .u8 0, .int .u8 m] 5 i).trans ?_
            match i, hi with
            | 0, _ => rfl
            | 1, _ => rfl) 9 Tryz.underlying9
          rw [← hpr] at kp
          have hB0 : Aside (Below w6.heap.size w6 w6.drew) := new_drew w6
          have hB1 : Aside (Below w6.heap.size w6 (w6.alloc (.cells #[.int .u8 0, .int .u8 m] 5)).drew) := new_trans (new_alloc _ _) (new_drew _)
          have hxz := HXZ.out
          have huz := HUZ.out
          have z1' : ¬ 9223372036854775807 < x.size + 2 := by omega
          have z2' : ¬ 9223372036854775807 < x.size + 2 + r.size := by omega
          have z3' : ¬ 9223372036854775807 < x.size + 2 + r.size + 32 := by omega
          have HMR := aside hm
          clear hpr hm
          have kd0 := (cv_keep HSA.out hB0).1
          have kd1 := (cv_keep HSA.out hB1).1
          have HOZ : Aside ((x ++ pr ++ r ++ u).size ≤ 10000) := by rw [Aside, ByteArray.size_append, ByteArray.size_append, ByteArray.size_append]; have := HR200.out; omega
          have HF7 := aside (HF6.out.on hB1)
          clear hB0 hB1
          go_region
          all_goals
            go_wp2_with fail
            go_meet
            case rel => exact ⟨_, rfl, HOZ.out, HF7.out⟩
        case rest =>
          obtain ⟨o, rfl, ho, HF⟩ := hcut
          have HOZ := aside ho
          clear ho HF6 HSA
          go_wp2_with fail
          refine (parses_any x (by have := HXZ.out; omega) kk wc (HT.out.on HF.out.bel)).mono ?_
          rintro e wa ⟨rfl, hba⟩
          have HFa := aside (HF.out.on hba)
          clear hba HF
          obtain ⟨l, hl, hy⟩ := HFa.out.y
          have kc := bytes_text Y l n cp hl wa hy
          obtain ⟨b2, hb2⟩ : ∃ b, b = strOfNums l := ⟨_, rfl⟩
          have hbz : b2.size = n := by rw [hb2, strOf_size, hl]
          rw [← hb2] at kc
          have HBZ := aside hbz
          clear hl hy hb2 hbz
          go_wp2_with fail
          clear kc
          refine (parses_any b2 (by rw [HBZ.out, HXN.out]; have := HXZ.out; omega) kk wa (HT.out.on HFa.out.bel)).mono ?_
          rintro e wb ⟨rfl, hbb⟩
          have HFb := aside (HFa.out.on hbb)
          clear hbb HFa
          have c2 : wb.cell? ⟨P, 2, none⟩ = some (.int .u16 z2) := cell_whole HFb.out.p 2
          obtain ⟨q, hq⟩ : ∃ q : Nat, z2 = q := ⟨z2.toNat, by have := HZ.out; omega⟩
          subst hq
          have hxz := HXZ.out
          obtain ⟨j, hj⟩ : ∃ j, j = q % (x.size + 1) := ⟨_, rfl⟩
          have hjx : j ≤ x.size := by rw [hj]; have := Nat.mod_lt q (show 0 < x.size + 1 by omega); omega
          have hwq : IntKind.i64.wrap (q : Int) = q := IntWalk.i64_in _ (by have := HZ.out; omega)
          obtain ⟨k, hk⟩ : ∃ k, k = x.size + 1 := ⟨_, rfl⟩
          have hwk : IntKind.i64.wrap ((x.size : Int) + 1) = (k : Int) := by rw [IntWalk.i64_in _ (by omega), hk]; omega
          have hk0 : ¬ k = 0 := by omega
          have hki0 : ¬ (k : Int) = 0 := by omega
          have hrem : (q : Int).tmod (k : Int) = (j : Int) := by rw [hj, ← hk]; rfl
          have hji : (j : Int) ≤ x.size := by omega
          have HXJ : Aside ((x.extract 0 j).size ≤ 1000000) := by rw [Aside, ByteArray.size_extract]; omega
          clear hj hk hjx
          go_wp2_with fail
          clear c2 hwq hwk hk0 hki0 hrem hji
          refine (parses_any (x.extract 0 j) (by exact HXJ.out) kk wb (HT.out.on HFb.out.bel)).mono ?_
          rintro e wc ⟨rfl, hbc⟩
          have HFc := aside (HFb.out.on hbc)
          clear hbc HFb
          have hr200 := HR200.out
          have zz : ¬ 9223372036854775807 < x.size + r.size := by omega
          go_wp2_with fail
          clear zz
          refine (parses_any (x ++ r) (by rw [ByteArray.size_append]; omega) kk wc (HT.out.on HFc.out.bel)).mono ?_
          rintro e wd ⟨rfl, hbd⟩
          have HFd := aside (HFc.out.on hbd)
          clear hbd HFc
          go_wp2_with fail
          refine (parses_any o (by have := HOZ.out; omega) kk wd (HT.out.on HFd.out.bel)).mono ?_
          rintro e we ⟨rfl, hbe⟩
          have HFe := aside (HFd.out.on hbe)
          clear hbe HFd
          go_wp2_with fail
          refine (parses_any r (by omega) kk we (HT.out.on HFe.out.bel)).mono ?_
          rintro e wf ⟨rfl, hbf⟩
          have HFf := aside (HFe.out.on hbf)
          clear hbf HFe
          go_wp2_with fail
          refine (works_any refF refK kk wf (HT.out.on HFf.out.bel)).mono ?_
          rintro e wg ⟨rfl, hbg⟩
          have HBG := aside (new_trans HFf.out.bel hbg)
          clear hbg HFf
          go_wp2_with fail
          go_ret
          exact ⟨rfl, HBG.out⟩
end Go.Proofs.YtkpmcjfolncmmaaGreatDoor
