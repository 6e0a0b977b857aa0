/- cmp.Or at two ints: the first that is not 0. -/
import Derived.Test.YtdgedckfaefohaaBase
namespace Go.Proofs.Ytdgedckfaefohaa
open Go.RowKit

/-- What cmp.Or answers at two numbers. -/
def orOf (a b : Int) : Int := if a = 0 then b else a

set_option maxHeartbeats 1000000 in
theorem or2 (a b : Int) (blk : Nat) (w : World) (ha : w.cell? ⟨blk, 0, none⟩ = some (.int .i64 a)) (hb : w.cell? ⟨blk, 1, none⟩ = some (.int .i64 b)) :
    Calls Try.prog 44 #[.slice (some ⟨blk, 0, none⟩) 2 2] w fun e w' => e = .returned (.int .i64 (orOf a b)) ∧ w = w' := by
  unfold orOf
  by_cases h1 : a = 0
  · subst h1
    rw [if_pos rfl]
    by_cases h2 : b = 0
    · subst h2
      go_enter Try.func44, Try.ntmps44
      go_wp2
      refine wp_loop_rounds 3 ?_
      repeat (rw [rounds_succ]; go_wp2)
      go_ret
      exact ⟨rfl, rfl⟩
    · have h2' : (b == 0) = false := beq_eq_false_iff_ne.2 h2
      go_enter Try.func44, Try.ntmps44
      go_wp2
      refine wp_loop_rounds 3 ?_
      repeat (rw [rounds_succ]; go_wp2)
      go_ret
      exact ⟨rfl, rfl⟩
  · rw [if_neg h1]
    have h1' : (a == 0) = false := beq_eq_false_iff_ne.2 h1
    go_enter Try.func44, Try.ntmps44
    go_wp2
    refine wp_loop_rounds 3 ?_
    repeat (rw [rounds_succ]; go_wp2)
    go_ret
    exact ⟨rfl, rfl⟩

end Go.Proofs.Ytdgedckfaefohaa
