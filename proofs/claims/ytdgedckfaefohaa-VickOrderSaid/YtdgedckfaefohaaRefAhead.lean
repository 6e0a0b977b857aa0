/- consignref21.Ahead. -/
import Derived.Test.YtdgedckfaefohaaIs
import Derived.Test.YtdgedckfaefohaaRefPlain
namespace Go.Proofs.Ytdgedckfaefohaa
open Go.RowKit Go.Sort
open Go.Proofs.Ytdgedckfaefohaa.Srt Go.Proofs.Ytdgedckfaefohaa.Vk

/-- Ahead answers whether it is. -/
def AheadPost (b : Bool) (w : World) (e : Ending) (w' : World) : Prop := e = .returned (.bool b) ∧ ∃ q, w' = w.drewN q

set_option maxHeartbeats 4000000 in
set_option maxRecDepth 100000 in
theorem refAhead (i k lb lo n cap : Nat) (c1 b1 c2 b2 : Int) (w : World) (hi : i < n) (hk : k < n)
    (h1 : w.cell? ⟨lb, lo + i * 2, none⟩ = some (.int .i64 c1)) (h2 : w.cell? ⟨lb, lo + i * 2 + 1, none⟩ = some (.int .u64 b1))
    (h3 : w.cell? ⟨lb, lo + k * 2, none⟩ = some (.int .i64 c2)) (h4 : w.cell? ⟨lb, lo + k * 2 + 1, none⟩ = some (.int .u64 b2)) :
    Calls Try.prog 47 #[.slice (some ⟨lb, lo, none⟩) n cap, .int .i64 i, .int .i64 k] w (AheadPost (decide (b1 < b2 ∨ (b1 = b2 ∧ (c1 < c2 ∨ (c1 = c2 ∧ i < k))))) w) := by
  have hiz : (i : Int) < (n : Int) := by omega
  have hkz : (k : Int) < (n : Int) := by omega
  by_cases hb : b1 = b2
  · subst hb
    have hbb : (b1 != b1) = false := by simp
    by_cases hc : c1 = c2
    · subst hc
      have hcc : (c1 != c1) = false := by simp
      have hr : decide (b1 < b1 ∨ (b1 = b1 ∧ (c1 < c1 ∨ (c1 = c1 ∧ i < k)))) = decide (i < k) := by rw [decide_eq_decide]; omega
      rw [hr]
      clear hr
      go_enter Try.func47, Try.ntmps47
      go_wp2_with fail
      go_quiet (fail)
      go_wp2_with fail
      go_quiet (fail)
      go_wp2
      go_ret
      exact ⟨by simp, _, rfl⟩
    · have hcc : (c1 != c2) = true := by simpa using hc
      have hr : decide (b1 < b1 ∨ (b1 = b1 ∧ (c1 < c2 ∨ (c1 = c2 ∧ i < k)))) = decide (c1 < c2) := by rw [decide_eq_decide]; omega
      rw [hr]
      clear hr
      have HC := aside hc
      clear hc
      go_enter Try.func47, Try.ntmps47
      go_wp2_with fail
      go_quiet (fail)
      go_wp2_with fail
      go_quiet (fail)
      go_wp2_with fail
      go_quiet (fail)
      go_wp2
      go_ret
      exact ⟨rfl, _, by rw [World.drewN_drewN, World.drewN_drewN]⟩
  · have hbb : (b1 != b2) = true := by simpa using hb
    have hr : decide (b1 < b2 ∨ (b1 = b2 ∧ (c1 < c2 ∨ (c1 = c2 ∧ i < k)))) = decide (b1 < b2) := by rw [decide_eq_decide]; omega
    rw [hr]
    clear hr
    have HB := aside hb
    clear hb
    go_enter Try.func47, Try.ntmps47
    go_wp2_with fail
    go_quiet (fail)
    go_wp2_with fail
    go_quiet (fail)
    go_wp2
    go_ret
    exact ⟨rfl, _, by rw [World.drewN_drewN]⟩

theorem refAhead_bs (bs : List Bd) (i k lb lo cap : Nat) (w : World) (hi : i < bs.length) (hk : k < bs.length) (hl : BidCells w lb lo bs) :
    Calls Try.prog 47 #[.slice (some ⟨lb, lo, none⟩) bs.length cap, .int .i64 i, .int .i64 k] w (AheadPost (decide (Vk.ahead bs i k)) w) :=
  refAhead i k lb lo bs.length cap _ _ _ _ w hi hk (hl i hi).1 (hl i hi).2 (hl k hk).1 (hl k hk).2

end Go.Proofs.Ytdgedckfaefohaa
