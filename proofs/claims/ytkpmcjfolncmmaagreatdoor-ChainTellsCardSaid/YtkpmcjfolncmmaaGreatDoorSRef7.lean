/- The document's May and the program's are one; so are their answers to twins. Plain. Printed by wip/gen/refm3.py. -/
import Derived.Test.YtkpmcjfolncmmaaGreatDoorSRfR0
import Derived.Test.YtkpmcjfolncmmaaGreatDoorSRef5
set_option linter.all false
namespace Go.Proofs.YtkpmcjfolncmmaaGreatDoor
open Go.RowKit
def restRB (d : RecD) : Bool := (decide (0 ≤ d.tick) && (withinB d.round 0 15 && (withinB d.lot 0 15 && (withinB d.carrier 0 7 && decide (d.bid ≤ 4294967296))))) && (allTo (riseAt d.barred) d.barred.length && (decide (d.kind ≠ 5) || toldB d.state d.winner d.price))
def mayRB (d : RecD) : Bool := decide (d = bareD d) && (if d.kind = 1 then sceneRB d else restRB d)
theorem mayRB_eq (d : RecD) (hk : 1 ≤ d.kind ∧ d.kind ≤ 6) : mayRB d = mayB d := by
  rcases kinds6 hk with e | e | e | e | e | e
  all_goals
    obtain ⟨kind, round, lot, carrier, tick, barred, dig, bid, nonce, state, winner, price, carriers, commit, reveal, scheme, lots, owners⟩ := d
    dsimp only at e
    subst e
    rw [Bool.eq_iff_iff]
    simp [mayRB, mayB, bareD, restOf, emptyD, rightB, restRB, sceneD_eq, sceneRB, baseB, withinB, allTo, toldB]
    try (constructor <;> intro h <;> simp_all [allTo])
end Go.Proofs.YtkpmcjfolncmmaaGreatDoor
