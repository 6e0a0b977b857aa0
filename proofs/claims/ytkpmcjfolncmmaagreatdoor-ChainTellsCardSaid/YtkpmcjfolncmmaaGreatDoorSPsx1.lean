/- consignref30.Records: drafts' records; they may be. -/
import Derived.Test.YtkpmcjfolncmmaaGreatDoorSWrk1
import Derived.Test.YtkpmcjfolncmmaaGreatDoorSSame2
import Derived.Deep.RegionHeld3
import Derived.Test.YtkpmcjfolncmmaaGreatDoorSTold1
import Derived.Test.YtkpmcjfolncmmaaGreatDoorSNxr
import Derived.Test.YtkpmcjfolncmmaaGreatDoorSLaw1
import Derived.Test.YtkpmcjfolncmmaaGreatDoorSDrfZ
import Derived.Test.YtkpmcjfolncmmaaGreatDoorSDrz
import Derived.Deep.DeepCutAuto
import Derived.StillTailTactics
import Derived.BigRegion
set_option linter.all false
namespace Go.Proofs.YtkpmcjfolncmmaaGreatDoor
open Go.RowKit
end Go.Proofs.YtkpmcjfolncmmaaGreatDoor
namespace Go.Proofs.YtkpmcjfolncmmaaGreatDoor
open Go.RowKit
end Go.Proofs.YtkpmcjfolncmmaaGreatDoor
namespace Go.Proofs.YtkpmcjfolncmmaaGreatDoor
open Go.RowKit
end Go.Proofs.YtkpmcjfolncmmaaGreatDoor
namespace Go.Proofs.YtkpmcjfolncmmaaGreatDoor
open Go.RowKit
def RcsPost (w : World) (e : Ending) (w' : World) : Prop :=
  ∃ v ds, e = .returned v ∧ RecsF w.heap.size w' v ds ∧ AllMay ds ∧ ds.length ≤ 12 ∧ Below w.heap.size w w'
set_option maxHeartbeats 2000000 in
set_option maxRecDepth 100000 in
theorem records_any (v : Value) (n : Nat) (hn : n ≤ 9223372036854775807) (w : World) (h : DraftsAt w v n) :
    Calls Tryz.prog 12 #[v] w (RcsPost w) := by
  obtain ⟨a, cap, dv, rfl, hcap, hrw, hra⟩ := h
  have HRW := aside hrw
  have HRA := aside hra
  clear hrw hra
  go_enter Tryz.func12, Tryz.ntmps12
  go_wp2_with fail
  go_loopg [3, 4] 12 (fun g v3 v4 wr => ∃ (k : Nat) (ds : List RecD), k ≤ 12 ∧ v4 = .int .i64 k ∧ 12 - k ≤ g ∧ ds.length = k ∧ Aside (AllMay ds) ∧ Aside (RecsF w.heap.size wr v3 ds) ∧ Aside (Below w.heap.size w wr))
  case atStart => exact ⟨0, [], by omega, rfl, by omega, rfl, fun x h => by simp at h, RecsF.nil _ _, Below.refl _ _⟩
  case round =>
    obtain ⟨k, ds, hk, rfl, hg, hl, HA, HR, HB⟩ := hrel
    obtain ⟨av, cv, rfl⟩ : ∃ av cv, u3 = .slice av k cv := by
      obtain ⟨_, _, h2, _⟩ := HR.out
      obtain ⟨a, cap, e, _⟩ := ownsRow_form h2
      exact ⟨a, cap, by rw [e, hl]⟩
    by_cases hc : k < n ∧ k < 12
    · obtain ⟨hkn, hk12⟩ := hc
      have hki : (k : Int) < 12 := by omega
      have hni : (k : Int) < n := by omega
      have HME : Aside (∀ q, 12 - k ≤ q → 12 - (k + 1) < q) := fun q h => by omega
      obtain ⟨lb, lo, rfl, hlb, hj⟩ := HRW.out (by omega)
      have hrg := rangeAt_on (hj k hkn) hlb HB.out
      have HRG := aside hrg
      have HD : Aside (DrAt wr (dv k)) := (HRA.out k hkn).on HB.out
      have hi0 : (Tryz.prog.info? 28).map (·.size) = some (drCells (dv k)).toList.length := by kernel_rfl
      have HHL := aside hl
      clear hj hrg hl
      go_upto_region 5 with fail
      go_wp2_with (first
        | (refine wpList_load_midG (by rfl) _ _ rfl lb (lo + k * 10) rfl _ _ HRG.out Tryz.underlying28 rfl hi0 (drCells (dv k)) (Array.toArray_toList) ?_)
        | fail)
      refine (draft_any (dv k) wr HD.out).mono ?_
      rintro e w2 ⟨rv, d, rfl, hrf, hmd, hdo, hb2⟩
      have HRF := aside hrf
      have HMD := aside hmd
      have HDO := aside hdo
      have HR2 := aside (HR.out.on hb2)
      have HB2 := aside (new_trans HB.out hb2)
      have HS2 : Aside (w.heap.size ≤ wr.heap.size ∧ wr.heap.size ≤ w2.heap.size) := ⟨HB.out.size, hb2.size⟩
      obtain ⟨D, hD⟩ : ∃ D, D = recCells rv := ⟨_, rfl⟩
      have HONE : Aside (D.all (·.oneCell') = true) := by rw [hD]; exact hrf.one
      have HD49 : Aside (D.size = 49) := by rw [hD]; exact recCells_size rv
      have HDD := aside hD
      rw [← hD]
      obtain ⟨rvs, hv1, hv2, hv3⟩ := HR2.out
      have HV1 := aside hv1
      have HV2 : Aside (w2.ownsRow w.heap.size 38 49 (.slice av k cv) k (rvs.flatMap fun r => (recCells r).toList)) := by rw [← HHL.out]; rw [HHL.out]; have := hv2; rw [HHL.out] at this; exact this
      have HV3 := aside hv3
      clear hrf hmd hdo hb2 hD hv1 hv2 hv3 hi0
      go_wp2_with (first
        | (refine wpList_slice_by rfl 48 1 _ rfl (.agg D) _ rfl (rec_slice D HD49.out w2) ?_)
        | (at_builtin; refine wpList_append_one rfl _ _ 48 38 rfl (.agg (recCells {})) 49 216 Tryz.underlying48 Tryz.infoRec rfl (by decide) w.heap.size _ k _ rfl (World.ownsRow.alloc HV2.out _) w2.heap.size D.toList ?c1 ?c2 rfl ?c3 ?c4 ?c5 ?c6 ?_)
        | fail)
      case c1 => rw [Array.length_toList]; exact HD49.out
      case c2 => intro y hy; exact (Array.all_eq_true_iff_forall_mem.1 HONE.out) y (by simpa using hy)
      case c3 => intro j y hy; rw [cell_new]; simpa using hy
      case c4 => unfold maxLen; omega
      case c5 => omega
      case c6 => have := HS2.out; simp; omega
      intro v' w8 hown' hgrow
      have hkg : ∀ K : Nat → Prop, (∀ k', (Value.slice av k cv).ownBlock = some k' → ¬ K k') → Keeps K w2 w8 := fun K hK => (keeps_of_new (new_alloc w2 (.cells D 38)) K).trans (keeps_grown hgrow K hK)
      have HRS8 : Aside (RecsF w.heap.size w8 v' (ds ++ [d])) := by
        refine RecsF.snoc (w := w2) (v := .slice av k cv) HV1.out (by rw [HHL.out]; exact HV2.out) HV3.out (HRF.out.mono HS2.out.1) hkg ?_
        rw [HHL.out, ← HDD.out]
        exact hown'
      have hob : ∀ k', (Value.slice av k cv).ownBlock = some k' → w.heap.size ≤ k' := fun k' hk => (World.ownsRow.lt HV2.out k' hk).1
      have HB8 : Aside (Below w.heap.size w w8) := HB2.out.trans (((hkg (· < w.heap.size) (fun k' hk => by have := hob k' hk; omega)).below HB2.out.size))
      have HA8 : Aside (AllMay (ds ++ [d])) := fun x hx => by
        rcases List.mem_append.1 hx with h | h
        · exact HA.out x h
        · rw [List.mem_singleton.1 h]; exact ⟨HMD.out, HDO.out⟩
      have HL8 : Aside ((ds ++ [d]).length = k + 1) := by rw [Aside, List.length_append, HHL.out]; rfl
      clear hown' hgrow hkg hob
      go_wp2_with fail
      go_roundg (12 - (k + 1))
      case measure => exact HME.out _ hg
      case rel => exact ⟨k + 1, ds ++ [d], hk12, by go_num, Nat.le_refl _, HL8.out, HA8, HRS8, HB8⟩
    · have HP : Aside (RcsPost w (.returned (.slice av k cv)) wr) := ⟨_, ds, rfl, HR.out, HA.out, by omega, HB.out⟩
      by_cases hkn : k < n
      · have hni : (k : Int) < n := by omega
        have hki : ¬ (k : Int) < 12 := fun h => hc ⟨hkn, by omega⟩
        clear hc
        go_wp2_with fail
        go_ret
        exact HP.out
      · have hni : ¬ (k : Int) < n := by omega
        clear hc
        go_wp2_with fail
        go_ret
        exact HP.out
end Go.Proofs.YtkpmcjfolncmmaaGreatDoor
namespace Go.Proofs.YtkpmcjfolncmmaaGreatDoor
open Go.RowKit
structure PsF (P D Y : Nat) (z0 z1 z2 : Int) (s : ByteArray) (n : Nat) (w W : World) : Prop where
  p : W.heap[P]? = some (.cells #[.int .u16 z0, .int .u16 z1, .int .u16 z2] 29 (0, 0))
  d : W.heap[D]? = some (.cells (digA s) 33 (0, 0))
  y : ∃ l : List Int, l.length = n ∧ BytAt W Y l
  yl : Y < W.heap.size
  bel : Below w.heap.size w W
theorem PsF.on {P D Y : Nat} {z0 z1 z2 : Int} {s : ByteArray} {n : Nat} {w W W' : World} (h : PsF P D Y z0 z1 z2 s n w W) (hb : Below W.heap.size W W') : PsF P D Y z0 z1 z2 s n w W' := by
  obtain ⟨l, hl, hy⟩ := h.y
  exact ⟨whole_new h.p hb, whole_new h.d hb, ⟨l, hl, hy.on h.yl hb⟩, Nat.lt_of_lt_of_le h.yl hb.size, new_trans h.bel hb⟩
end Go.Proofs.YtkpmcjfolncmmaaGreatDoor
