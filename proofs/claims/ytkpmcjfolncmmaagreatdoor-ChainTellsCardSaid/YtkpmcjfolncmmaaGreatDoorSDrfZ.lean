/- (Draft).Record, of any draft: the six kinds joined. -/
import Derived.Test.YtkpmcjfolncmmaaGreatDoorSDrfK1a
import Derived.Test.YtkpmcjfolncmmaaGreatDoorSDrfK1b
import Derived.Test.YtkpmcjfolncmmaaGreatDoorSDrf1
set_option linter.all false
namespace Go.Proofs.YtkpmcjfolncmmaaGreatDoor
open Go.RowKit
theorem draft_any (d : DrV) (w : World) (h : DrAt w d) : Calls Tryz.prog 7 #[.agg (drCells d)] w (DrPost w) := by
  have h0 := h.kind
  by_cases h1 : d.kind % 6 = 0
  · by_cases hn : d.nb ≤ 16
    · exact draft_1a d w h h1 hn
    · exact draft_1b d w h h1 (by omega)
  by_cases h2 : d.kind % 6 = 1
  · exact draft_2 d w h h2
  by_cases h3 : d.kind % 6 = 2
  · exact draft_3 d w h h3
  by_cases h4 : d.kind % 6 = 3
  · exact draft_4 d w h h4
  by_cases h5 : d.kind % 6 = 4
  · exact draft_5 d w h h5
  exact draft_6 d w h (by omega)
end Go.Proofs.YtkpmcjfolncmmaaGreatDoor
