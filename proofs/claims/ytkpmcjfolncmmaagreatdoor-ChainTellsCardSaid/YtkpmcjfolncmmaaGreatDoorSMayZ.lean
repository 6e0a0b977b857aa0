/- chain.may, walked: of all records. -/
import Derived.Test.YtkpmcjfolncmmaaGreatDoorSMayA
import Derived.Test.YtkpmcjfolncmmaaGreatDoorSMayK4
import Derived.Test.YtkpmcjfolncmmaaGreatDoorSMayK5
import Derived.Test.YtkpmcjfolncmmaaGreatDoorSMayK6
set_option linter.all false
namespace Go.Proofs.YtkpmcjfolncmmaaGreatDoor
open Go.RowKit
set_option maxHeartbeats 2000000 in
set_option maxRecDepth 100000 in
theorem may_none (rv : RecV) (d : RecD) (hk : ¬ (1 ≤ d.kind ∧ d.kind ≤ 6)) (w : World) (h : RecAt w rv d) :
    Calls Tryz.prog 32 #[.agg (recCells rv)] w fun e w' => e = .returned (.bool (mayB d)) ∧ Below w.heap.size w w' := by
  obtain ⟨b, l, o, rfl, hb, hl, hw⟩ := h
  have HM : Aside (mayB d = false) := by
    rw [Aside, mayB, rightB, if_neg (by omega), if_neg (by omega), if_neg (by omega), if_neg (by omega), if_neg (by omega), if_neg (by omega)]
    rfl
  obtain ⟨L, hL⟩ : ∃ x, x = w.heap.size := ⟨_, rfl⟩
  obtain ⟨w0, hw0⟩ : ∃ z, z = w.alloc (.cells (recCells (d.toV b l o)) 38) := ⟨_, rfl⟩
  have HN0 : Aside (Below w.heap.size w w0) := by rw [hw0]; exact new_alloc _ _
  have HR0 : Aside (RecIn w0 L (d.toV b l o)) := by rw [hw0, hL]; exact RecIn.box _ _
  obtain ⟨k, hkk⟩ : ∃ k, k = d.kind := ⟨_, rfl⟩
  rw [← hkk] at hk
  have HKK := aside hkk
  have e1 : (k == 1) = false := by simp; omega
  have e2 : (k == 2) = false := by simp; omega
  have e3 : (k == 3) = false := by simp; omega
  have e4 : (k == 4) = false := by simp; omega
  have e5 : (k == 5) = false := by simp; omega
  have e6 : (k == 6) = false := by simp; omega
  clear hb hl hw hk hkk
  go_enter Tryz.func32, Tryz.ntmps32
  go_upto_region 1 with fail
  rw [← hw0, ← hL]
  clear hw0 hL
  go_cut [3] (fun s3 wx => wx = w0)
  case first =>
    have c4 : w0.cell? ⟨L, 4, none⟩ = some (.int .i64 d.tick) := HR0.out.tick
    have c1 : w0.cell? ⟨L, 1, none⟩ = some (.int .i64 d.round) := HR0.out.round
    by_cases h1 : 0 ≤ d.tick
    · go_wp2_with fail
      refine (within_any d.round 0 15 _).mono ?_
      rintro e w1 ⟨rfl, rfl⟩
      go_wp2_with fail
      go_meet
      case rel => exact rfl
    · go_wp2_with fail
      go_meet
      case rel => exact rfl
  case rest =>
    obtain rfl := hcut
    have c0 : wc.cell? ⟨L, 0, none⟩ = some (.int .i64 k) := by rw [HKK.out]; exact HR0.out.kind
    go_wp2_with fail
    go_ret
    exact ⟨by rw [HM.out]; rfl, HN0.out⟩
theorem may_any (rv : RecV) (d : RecD) (ho : d.ok) (w : World) (h : RecAt w rv d) :
    Calls Tryz.prog 32 #[.agg (recCells rv)] w fun e w' => e = .returned (.bool (mayB d)) ∧ Below w.heap.size w w' := by
  by_cases hk : 1 ≤ d.kind ∧ d.kind ≤ 6
  · have h6 : d.kind = 1 ∨ d.kind = 2 ∨ d.kind = 3 ∨ d.kind = 4 ∨ d.kind = 5 ∨ d.kind = 6 := by omega
    rcases h6 with e | e | e | e | e | e
    · exact may_k1 rv d ho e w h
    · exact may_k2 rv d ho e w h
    · exact may_k3 rv d ho e w h
    · exact may_k4 rv d ho e w h
    · exact may_k5 rv d ho e w h
    · exact may_k6 rv d ho e w h
  · exact may_none rv d hk w h
end Go.Proofs.YtkpmcjfolncmmaaGreatDoor
