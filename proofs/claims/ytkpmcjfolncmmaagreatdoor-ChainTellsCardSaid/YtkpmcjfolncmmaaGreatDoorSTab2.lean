/- What the tables hold, by the row's condition: the document's constants. -/
import Derived.Test.YtkpmcjfolncmmaaGreatDoorSTab
import Derived.Test.YtkpmcjfolncmmaaGreatDoorSHsh8
set_option linter.all false
namespace Go.Proofs.YtkpmcjfolncmmaaGreatDoor
open Go.RowKit
theorem words_are {H : Type} {enc : TypeId × Value → H} {W : World} {spare : Nat → Bool} {fuel : Nat} {t : TypeId} {n : Nat} {cs : List Value} {zs : List Int} {ps : List MemPlace} (ht : Tryz.prog.underlying t = some (.array n 133)) (hc : Tryz.prog.cellsOf t = n)
    (h : DataW.trod enc Tryz.prog W 0 spare false fuel t cs = some (.agg (zs.map fun z => .lit (.int .u32 z)), ps)) : cs.length = n ∧ ∀ j, j < n → cs[j]? = some (.int .u32 (zs.getD j 0)) := by
  obtain ⟨xs, m, _, hx, hlen, hxl, hel⟩ := DataW.trod_array ht h
  rw [hc] at hlen
  refine ⟨hlen, fun j hj => ?_⟩
  have h0 := hel j hj
  rw [Tryz.cellsU32, List.getElem?_eq_getElem (by omega)] at h0
  obtain ⟨z, e, ex, _⟩ := DataW.trod_int Tryz.underlying133 h0
  have e1 : cs[j]? = some (.int .u32 z) := by
    have := congrArg (fun l => l[0]?) e
    simpa using this
  have hm : xs.map (·.1) = zs.map fun z => DataW.lit (.int .u32 z) := by
    have := congrArg Prod.fst hx
    simpa using this.symm
  have h2 := congrArg (fun l => l[j]?) hm
  simp only [List.getElem?_map, List.getElem?_eq_getElem (show j < xs.length by omega)] at h2
  rw [show (xs[j]) = (DataW.lit (.int .u32 z), []) from ex] at h2
  cases hz : zs[j]? with
  | none => rw [hz] at h2; simp at h2
  | some y =>
    rw [hz] at h2
    have : z = y := by simpa using h2
    rw [e1, List.getD_eq_getElem?_getD, hz, this]
    rfl
def firstL : List Int := natV (fracsL 8 false)
def roundsL : List Int := natV (fracsL 64 true)
theorem first_laid {H : Type} : (Rows.laid_consign_sha_first : DataW H) = .agg (firstL.map fun z => .lit (.int .u32 z)) := by rw [firstL, fracs8]; rfl
theorem rounds_laid {H : Type} : (Rows.laid_consign_sha_rounds : DataW H) = .agg (roundsL.map fun z => .lit (.int .u32 z)) := by rw [roundsL, fracs64]; rfl
theorem tabs_are {W : World} (h : laidMetH Tryz.prog laidAll W) : ∃ kk, Tabs refF refK kk W := by
  have h' : laidMet Tryz.prog [("consign/sha.first", Rows.laid_consign_sha_first), ("consign/sha.rounds", Rows.laid_consign_sha_rounds)] W ∧ handlesMet Tryz.prog [("errors.errorType", Rows.laid_errors_errorType)] W := h
  obtain ⟨⟨ps, ⟨g0, t0, cs0, f0, p0, q0, hg0, ht0, hv0, hd0, ⟨g1, t1, cs1, f1, p1, q1, hg1, ht1, hv1, hd1, _, _⟩, _⟩, _, _⟩, hE⟩ := h'
  obtain rfl := Option.some.inj (Tryz.gFirst.symm.trans hg0)
  obtain rfl := Option.some.inj (Tryz.gRounds.symm.trans hg1)
  obtain rfl := Option.some.inj (Tryz.tFirst.symm.trans ht0)
  obtain rfl := Option.some.inj (Tryz.tRounds.symm.trans ht1)
  rw [first_laid] at hd0
  rw [rounds_laid] at hd1
  obtain ⟨l0, ha⟩ := words_are Tryz.underlying189 Tryz.cellsState hd0
  obtain ⟨l1, hK⟩ := words_are Tryz.underlying198 Tryz.cellsRounds hd1
  have hgr : TabIn cs1 W := by
    unfold World.var? at hv1
    rw [Tryz.gRounds] at hv1
    simp only [Option.bind] at hv1
    split at hv1
    · rename_i cs T fr hc
      obtain rfl := Option.some.inj hv1
      exact ⟨T, fr, hc⟩
    · cases hv1
  refine ⟨cs1, ⟨⟨fun j hj => ?_, hgr, ?_, fun j hj => ?_, refF_ok⟩, errtab_of hE⟩⟩
  · rw [World.var?_cell hg0 hv0 j, ← Array.getElem?_toList, ha j hj]
    exact congrArg (fun x => some (Value.int .u32 x)) (refF_get j hj)
  · rw [← Array.length_toList]; exact l1
  · rw [← Array.getElem?_toList, hK j hj]; rfl
end Go.Proofs.YtkpmcjfolncmmaaGreatDoor
