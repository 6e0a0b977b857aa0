/- What the row's condition gives: sha's tables and errors' own variable. -/
import Derived.Test.YtkpmcjfolncmmaaGreatDoorMLaw1
import Derived.Test.YtkpmcjfolncmmaaGreatDoorRows
import Derived.ProofKit
import Derived.LaidMore
import Derived.OpenShut
import Derived.Deep.Slices
import Derived.Stop.Joined
set_option linter.all false
namespace Go.Proofs.YtkpmcjfolncmmaaGreatDoor
open Go.RowKit Go.ChangeShapes Go.WideShapes

/-- The row's list. -/
def laidAll : List (String × DataW Unit) := [("errors.errorType", Rows.laid_errors_errorType), ("consign/sha.first", Rows.laid_consign_sha_first), ("consign/sha.rounds", Rows.laid_consign_sha_rounds)]
theorem Tryz.gErr : Tryz.prog.globalNamed "errors.errorType" = some 0 := by kernel_rfl
theorem Tryz.gFirst : Tryz.prog.globalNamed "consign/sha.first" = some 1 := by kernel_rfl
theorem Tryz.gRounds : Tryz.prog.globalNamed "consign/sha.rounds" = some 2 := by kernel_rfl
theorem Tryz.tFirst : (Tryz.prog.globals[1]?).map (·.type) = some 189 := by kernel_rfl
theorem Tryz.tRounds : (Tryz.prog.globals[2]?).map (·.type) = some 198 := by kernel_rfl
theorem Tryz.rtype : (Tryz.prog.cutTypes.find? (·.1 == "internal/reflectlite.rtype")).map (·.2) = some 176 := by kernel_rfl
theorem Tryz.oneRow : ((List.range Tryz.prog.types.size).filter fun t => Tryz.prog.rowNamed t [101, 114, 114, 111, 114]) = [92] := by kernel_rfl
theorem Tryz.cellsU32 : Tryz.prog.cellsOf 133 = 1 := by kernel_rfl
theorem Tryz.cellsState : Tryz.prog.cellsOf 189 = 8 := by kernel_rfl
theorem Tryz.cellsRounds : Tryz.prog.cellsOf 198 = 64 := by kernel_rfl

/-- A table of words that lies in a variable. -/
theorem words_of {H : Type} {enc : TypeId × Value → H} {W : World} {spare : Nat → Bool} {fuel : Nat} {t : TypeId} {n : Nat} {cs : List Value} {x : DataW H × List MemPlace} (ht : Tryz.prog.underlying t = some (.array n 133)) (hc : Tryz.prog.cellsOf t = n)
    (h : DataW.trod enc Tryz.prog W 0 spare false fuel t cs = some x) : cs.length = n ∧ ∃ f : Nat → Int, ∀ j, j < n → cs[j]? = some (.int .u32 (f j)) ∧ 0 ≤ f j ∧ f j ≤ 4294967295 := by
  obtain ⟨xs, m, _, _, hlen, hxl, hel⟩ := DataW.trod_array ht h
  rw [hc] at hlen
  have each : ∀ j, j < n → ∃ z : Int, cs[j]? = some (.int .u32 z) ∧ 0 ≤ z ∧ z ≤ 4294967295 := by
    intro j hj
    have h0 := hel j hj
    rw [Tryz.cellsU32, List.getElem?_eq_getElem (by omega)] at h0
    obtain ⟨z, e, _, hw⟩ := DataW.trod_int Tryz.underlying133 h0
    simp [Lit.wf, IntKind.min, IntKind.max, IntKind.signed, IntKind.bits] at hw
    refine ⟨z, ?_, hw⟩
    have := congrArg (fun l => l[0]?) e
    simpa using this
  obtain ⟨f, hf⟩ := Deep.choose_lt each
  exact ⟨hlen, f, hf⟩

theorem errtab_of {W : World} (h : handlesMet Tryz.prog [("errors.errorType", Rows.laid_errors_errorType)] W) : ErrTab W := by
  obtain ⟨name, u, ty, e1, e2, e3, e4, e5⟩ := h _ (List.mem_singleton.2 rfl)
  have en : name = [101, 114, 114, 111, 114] := (Option.some.inj e1).symm
  subst en
  obtain rfl := Option.some.inj (Tryz.rtype.symm.trans e2)
  have hm : ty ∈ (List.range Tryz.prog.types.size).filter fun t => Tryz.prog.rowNamed t [101, 114, 114, 111, 114] := List.mem_filter.2 ⟨List.mem_range.2 e3, e4⟩
  rw [Tryz.oneRow] at hm
  obtain rfl := List.mem_singleton.1 hm
  have hh : typeHandle Tryz.prog 92 = .pointer (some ⟨3, 92, none⟩) := by kernel_rfl
  rw [hh] at e5
  have := World.var?_cell Tryz.gErr e5 0
  simpa [ErrTab] using this

/-- What the condition gives. -/
theorem tabs_of_laid {W : World} (h : laidMetH Tryz.prog laidAll W) : ∃ F K kk, Tabs F K kk W := by
  have h' : laidMet Tryz.prog [("consign/sha.first", Rows.laid_consign_sha_first), ("consign/sha.rounds", Rows.laid_consign_sha_rounds)] W ∧ handlesMet Tryz.prog [("errors.errorType", Rows.laid_errors_errorType)] W := h
  obtain ⟨⟨ps, ⟨g0, t0, cs0, f0, p0, q0, hg0, ht0, hv0, hd0, ⟨g1, t1, cs1, f1, p1, q1, hg1, ht1, hv1, hd1, _, _⟩, _⟩, _, _⟩, hE⟩ := h'
  obtain rfl := Option.some.inj (Tryz.gFirst.symm.trans hg0)
  obtain rfl := Option.some.inj (Tryz.gRounds.symm.trans hg1)
  obtain rfl := Option.some.inj (Tryz.tFirst.symm.trans ht0)
  obtain rfl := Option.some.inj (Tryz.tRounds.symm.trans ht1)
  obtain ⟨l0, a, ha⟩ := words_of Tryz.underlying189 Tryz.cellsState hd0
  obtain ⟨l1, K, hK⟩ := words_of Tryz.underlying198 Tryz.cellsRounds hd1
  have hgr : TabIn cs1 W := by
    unfold World.var? at hv1
    rw [Tryz.gRounds] at hv1
    simp only [Option.bind] at hv1
    split at hv1
    · rename_i cs T fr hc
      obtain rfl := Option.some.inj hv1
      exact ⟨T, fr, hc⟩
    · cases hv1
  refine ⟨⟨a 0, a 1, a 2, a 3, a 4, a 5, a 6, a 7⟩, K, cs1, ⟨⟨fun j hj => ?_, hgr, ?_, fun j hj => ?_, ?_⟩, errtab_of hE⟩⟩
  · rw [World.var?_cell hg0 hv0 j, ← Array.getElem?_toList]
    match j, hj with
    | 0, _ => exact (ha 0 (by omega)).1
    | 1, _ => exact (ha 1 (by omega)).1
    | 2, _ => exact (ha 2 (by omega)).1
    | 3, _ => exact (ha 3 (by omega)).1
    | 4, _ => exact (ha 4 (by omega)).1
    | 5, _ => exact (ha 5 (by omega)).1
    | 6, _ => exact (ha 6 (by omega)).1
    | 7, _ => exact (ha 7 (by omega)).1
  · rw [← Array.length_toList]; exact l1
  · rw [← Array.getElem?_toList]; exact (hK j hj).1
  · exact ⟨(ha 0 (by omega)).2, (ha 1 (by omega)).2, (ha 2 (by omega)).2, (ha 3 (by omega)).2, (ha 4 (by omega)).2, (ha 5 (by omega)).2, (ha 6 (by omega)).2, (ha 7 (by omega)).2⟩

/-- The door's own heap meets the condition. -/
theorem door_met (os : Os) (args : Array Value) : laidMetH Tryz.prog laidAll ((World.doorLaid Tryz.prog 400 os).forCall (fun _ _ => 0) ⟨#[], args, []⟩).memory :=
  laidMetH_of_parts3 (fuel := 8) (laidMet_of_run' 8 (by kernel_rfl) (by kernel_rfl)) (by kernel_rfl) (by kernel_rfl)

end Go.Proofs.YtkpmcjfolncmmaaGreatDoor
