/- Small facts that all walks of this seat share: plain lemmas on the numbers' tables of the translation. -/
import Derived.Test.YtdgedckfaefohaaRows
import Derived.WalkKit
import Derived.WalkSpells
import Derived.WalkLawsBesides
import Derived.Lib.Hide
import Derived.IntWalk
import Derived.Deep.QuietTactic
import Derived.BigQuiet
import Derived.StillTailTactics
namespace Go.Proofs.Ytdgedckfaefohaa
open Go.RowKit

/-- cmp.isNaN at uint64 answers false. -/
theorem isNaNU (x : Int) (w : World) : Calls Try.prog 63 #[.int .u64 x] w fun e w' => e = .returned (.bool false) ∧ w = w' := by
  go_enter Try.func63, Try.ntmps63
  go_wp2
  go_ret
  exact ⟨by simp, rfl⟩

/-- cmp.isNaN at int answers false. -/
theorem isNaNI (x : Int) (w : World) : Calls Try.prog 64 #[.int .i64 x] w fun e w' => e = .returned (.bool false) ∧ w = w' := by
  go_enter Try.func64, Try.ntmps64
  go_wp2
  go_ret
  exact ⟨by simp, rfl⟩

/-- What cmp.Compare answers. -/
def cmpOf (x y : Int) : Int := if x < y then -1 else if y < x then 1 else 0

set_option maxHeartbeats 1000000 in
/-- cmp.Compare at uint64. -/
theorem compareU (x y : Int) (w : World) : Calls Try.prog 45 #[.int .u64 x, .int .u64 y] w fun e w' => e = .returned (.int .i64 (cmpOf x y)) ∧ w = w' := by
  unfold cmpOf
  by_cases h1 : x < y
  · rw [if_pos h1]
    go_enter Try.func45, Try.ntmps45
    go_wp2_with (go_at_call 63; refine (isNaNU _ _).mono ?_; rintro e w' ⟨rfl, rfl⟩)
    go_ret
    exact ⟨rfl, rfl⟩
  · rw [if_neg h1]
    by_cases h2 : y < x
    · rw [if_pos h2]
      go_enter Try.func45, Try.ntmps45
      go_wp2_with (go_at_call 63; refine (isNaNU _ _).mono ?_; rintro e w' ⟨rfl, rfl⟩)
      go_ret
      exact ⟨rfl, rfl⟩
    · rw [if_neg h2]
      go_enter Try.func45, Try.ntmps45
      go_wp2_with (go_at_call 63; refine (isNaNU _ _).mono ?_; rintro e w' ⟨rfl, rfl⟩)
      go_ret
      exact ⟨rfl, rfl⟩

set_option maxHeartbeats 1000000 in
/-- cmp.Compare at int. -/
theorem compareI (x y : Int) (w : World) : Calls Try.prog 46 #[.int .i64 x, .int .i64 y] w fun e w' => e = .returned (.int .i64 (cmpOf x y)) ∧ w = w' := by
  unfold cmpOf
  by_cases h1 : x < y
  · rw [if_pos h1]
    go_enter Try.func46, Try.ntmps46
    go_wp2_with (go_at_call 64; refine (isNaNI _ _).mono ?_; rintro e w' ⟨rfl, rfl⟩)
    go_ret
    exact ⟨rfl, rfl⟩
  · rw [if_neg h1]
    by_cases h2 : y < x
    · rw [if_pos h2]
      go_enter Try.func46, Try.ntmps46
      go_wp2_with (go_at_call 64; refine (isNaNI _ _).mono ?_; rintro e w' ⟨rfl, rfl⟩)
      go_ret
      exact ⟨rfl, rfl⟩
    · rw [if_neg h2]
      go_enter Try.func46, Try.ntmps46
      go_wp2_with (go_at_call 64; refine (isNaNI _ _).mono ?_; rintro e w' ⟨rfl, rfl⟩)
      go_ret
      exact ⟨rfl, rfl⟩

end Go.Proofs.Ytdgedckfaefohaa
