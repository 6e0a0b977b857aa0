/- What the row's condition gives: errors' own variable. -/
import Derived.Test.YtfnekbfcndkjeaaGreatDoorZDrf2
import Derived.ProofKit
import Derived.LaidMore
import Derived.OpenShut
import Derived.Deep.Slices
import Derived.Stop.Joined
set_option linter.all false
namespace Go.Proofs.YtfnekbfcndkjeaaGreatDoor
open Go.Proofs.Tryz Go.RowKit Go.ChangeShapes Go.WideShapes
def gY : List (String × DataW Unit) := [("errors.errorType", Rows.laid_errors_errorType)]
theorem Tryz.gErr : prog.globalNamed "errors.errorType" = some 0 := by kernel_rfl
theorem Tryz.rtype : (prog.cutTypes.find? (·.1 == "internal/reflectlite.rtype")).map (·.2) = some 182 := by kernel_rfl
theorem Tryz.oneRow:((List.range prog.types.size).filter fun t=>prog.rowNamed t [101,114,114,111,114])=[67]:=by kernel_rfl
theorem vM {W : World} (h : handlesMet prog [("errors.errorType", Rows.laid_errors_errorType)] W) : ew W := by
 obtain⟨name,u,ty,e1,e2,e3,e4,e5⟩:=h _ (List.mem_singleton.2 rfl)
 have en:name=[101,114,114,111,114]:=(Option.some.inj e1).symm
 subst en
 obtain rfl:=Option.some.inj (Tryz.rtype.symm.trans e2)
 have hm:ty∈(List.range prog.types.size).filter fun t=>prog.rowNamed t [101,114,114,111,114]:=List.mem_filter.2 ⟨List.mem_range.2 e3,e4⟩
 rw[Tryz.oneRow] at hm
 obtain rfl:=List.mem_singleton.1 hm
 have hh:typeHandle prog 67=.pointer (some ⟨3,67,none⟩):=by kernel_rfl
 rw[hh] at e5
 have:=World.var?_cell Tryz.gErr e5 0
 simpa [ew] using this
theorem mc {W:World} (h:laidMetH prog gY W):ew W:=by
 have h' : laidMet prog [] W ∧ handlesMet prog [("errors.errorType", Rows.laid_errors_errorType)] W := h
 exact vM h'.2
theorem rH (os:Os) (args:Array Value):laidMetH prog gY ((World.doorLaid prog 400 os).forCall (fun _ _=>0) ⟨#[],args,[]⟩).memory:=
 laidMetH_of_parts (laidMet_nil _ _) (by kernel_rfl)
