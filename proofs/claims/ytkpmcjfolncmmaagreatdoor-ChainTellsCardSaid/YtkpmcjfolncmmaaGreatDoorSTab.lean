/- What the row's condition gives: sha's tables and errors' own variable. -/
import Derived.Test.YtkpmcjfolncmmaaGreatDoorSLaw1
import Derived.Test.YtkpmcjfolncmmaaGreatDoorRows
import Derived.ProofKit
import Derived.LaidMore
import Derived.OpenShut
import Derived.Deep.Slices
import Derived.Stop.Joined
set_option linter.all false
namespace Go.Proofs.YtkpmcjfolncmmaaGreatDoor
open Go.RowKit Go.ChangeShapes Go.WideShapes
def laidAll : List (String × DataW Unit) := [("errors.errorType", Rows.laid_errors_errorType), ("consign/sha.first", Rows.laid_consign_sha_first), ("consign/sha.rounds", Rows.laid_consign_sha_rounds)]
theorem Tryz.gErr : Tryz.prog.globalNamed "errors.errorType" = some 0 := by kernel_rfl
theorem Tryz.gFirst : Tryz.prog.globalNamed "consign/sha.first" = some 1 := by kernel_rfl
theorem Tryz.gRounds : Tryz.prog.globalNamed "consign/sha.rounds" = some 2 := by kernel_rfl
theorem Tryz.tFirst : (Tryz.prog.globals[1]?).map (·.type) = some 189 := by kernel_rfl
theorem Tryz.tRounds : (Tryz.prog.globals[2]?).map (·.type) = some 198 := by kernel_rfl
theorem Tryz.rtype : (Tryz.prog.cutTypes.find? (·.1 == "internal/reflectlite.rtype")).map (·.2) = some 176 := by kernel_rfl
theorem Tryz.oneRow : ((List.range Tryz.prog.types.size).filter fun t => Tryz.prog.rowNamed t [101, 114, 114, 111, 114]) = [92] := by kernel_rfl
theorem Tryz.cellsU32 : Tryz.prog.cellsOf 133 = 1 := by kernel_rfl
theorem Tryz.cellsState : Tryz.prog.cellsOf 189 = 8 := by kernel_rfl
theorem Tryz.cellsRounds : Tryz.prog.cellsOf 198 = 64 := by kernel_rfl
theorem errtab_of {W : World} (h : handlesMet Tryz.prog [("errors.errorType", Rows.laid_errors_errorType)] W) : ErrTab W := by
  obtain ⟨name, u, ty, e1, e2, e3, e4, e5⟩ := h _ (List.mem_singleton.2 rfl)
  have en : name = [101, 114, 114, 111, 114] := (Option.some.inj e1).symm
  subst en
  obtain rfl := Option.some.inj (Tryz.rtype.symm.trans e2)
  have hm : ty ∈ (List.range Tryz.prog.types.size).filter fun t => Tryz.prog.rowNamed t [101, 114, 114, 111, 114] := List.mem_filter.2 ⟨List.mem_range.2 e3, e4⟩
  rw [Tryz.oneRow] at hm
  obtain rfl := List.mem_singleton.1 hm
  have hh : typeHandle Tryz.prog 92 = .pointer (some ⟨3, 92, none⟩) := by kernel_rfl
  rw [hh] at e5
  have := World.var?_cell Tryz.gErr e5 0
  simpa [ErrTab] using this
theorem door_met (os : Os) (args : Array Value) : laidMetH Tryz.prog laidAll ((World.doorLaid Tryz.prog 400 os).forCall (fun _ _ => 0) ⟨#[], args, []⟩).memory :=
  laidMetH_of_parts3 (fuel := 8) (laidMet_of_run' 8 (by kernel_rfl) (by kernel_rfl)) (by kernel_rfl) (by kernel_rfl)
end Go.Proofs.YtkpmcjfolncmmaaGreatDoor
