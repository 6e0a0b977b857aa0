/- What the document's Read answers, by cases, is what the program's Read answers. Plain. Printed by wip/gen/refrd.py. -/
import Derived.Test.YtkpmcjfolncmmaaGreatDoorSRef7
import Derived.Test.YtkpmcjfolncmmaaGreatDoorSRef5
set_option linter.all false
namespace Go.Proofs.YtkpmcjfolncmmaaGreatDoor
open Go.RowKit
theorem readF_none {t : ByteArray} (h : t.size < 1) : readF t = ({}, 14) := by rw [readF, if_pos (by omega)]
theorem readF_kind {t : ByteArray} (h : 1 ≤ t.size) (hw : withinB (getV t 0 1) 1 6 = false) : readF t = ({}, 15) := by rw [readF, if_neg (by omega), if_pos hw]
theorem readF_broken {t : ByteArray} (h : 1 ≤ t.size) (hw : withinB (getV t 0 1) 1 6 = true) (hb : (bodyW t (getV t 0 1) (some 1)).2 = none) : readF t = ({}, 14) := by
  have hl := body_law t _ ((within_iff _ _ _).1 hw)
  have hn : ¬ kindOk (getV t 0 1) t := fun hk => by
    obtain ⟨q, hq, _⟩ := hl.1 hk
    rw [hb] at hq
    cases hq
  rw [readF, if_neg (by omega), if_neg (by rw [hw]; decide), if_pos hn]
theorem readF_some {t : ByteArray} (h : 1 ≤ t.size) (hw : withinB (getV t 0 1) 1 6 = true) {q : Nat} (hq : (bodyW t (getV t 0 1) (some 1)).2 = some q) :
    readF t = if q < t.size ∨ mayRB (bodyW t (getV t 0 1) (some 1)).1 = false then ({}, 15) else ((bodyW t (getV t 0 1) (some 1)).1, 0) := by
  have hk := (within_iff _ _ _).1 hw
  have hl := body_law t _ hk
  have hb := (bodyW_ok t _ hk (some 1)).1
  have hkn : kindOk (getV t 0 1) t := Decidable.byContradiction fun hn => by
    have := hl.2 hn
    rw [hq] at this
    cases this
  obtain ⟨q', hq', e1, e2⟩ := hl.1 hkn
  rw [hq] at hq'
  injection hq' with hq'
  subst hq'
  have hm := mayRB_twin e2 (by rw [hb]; exact hk)
  rw [readF, if_neg (by omega), if_neg (by rw [hw]; decide), if_neg (by exact fun h => h hkn), ← e1, hm]
  by_cases hc : q < t.size ∨ mayB (kindR (getV t 0 1) t) = false
  · rw [if_pos hc, if_pos (hc.imp (fun h => by omega) id)]
  · rw [if_neg hc, if_neg (fun h => hc (h.imp (fun h => by omega) id))]
    rcases e2 with e2 | ⟨_, h2, h3, h4⟩
    · rw [e2]
    · exact absurd (.inr (by rw [← hm, mayRB_neg h2 h3])) hc
end Go.Proofs.YtkpmcjfolncmmaaGreatDoor
