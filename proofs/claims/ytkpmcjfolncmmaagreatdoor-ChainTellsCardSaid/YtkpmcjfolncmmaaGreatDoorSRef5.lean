/- What the document's reader reads of each kind; small laws. Printed by wip/gen/refb.py. -/
import Derived.Test.YtkpmcjfolncmmaaGreatDoorSOct2
import Derived.Test.YtkpmcjfolncmmaaGreatDoorSLst1
import Derived.Test.YtkpmcjfolncmmaaGreatDoorSByt1
import Derived.Test.YtkpmcjfolncmmaaGreatDoorSPln2
import Derived.Test.YtkpmcjfolncmmaaGreatDoorSRec2
import Derived.Deep.WholeRow
set_option linter.all false
namespace Go.Proofs.YtkpmcjfolncmmaaGreatDoor
open Go.RowKit
end Go.Proofs.YtkpmcjfolncmmaaGreatDoor
namespace Go.Proofs.YtkpmcjfolncmmaaGreatDoor
open Go.RowKit
end Go.Proofs.YtkpmcjfolncmmaaGreatDoor
namespace Go.Proofs.YtkpmcjfolncmmaaGreatDoor
open Go.RowKit
theorem storeAt_fresh {P : Program} (w : World) (t : TypeId) (c c' : Array Value) (hi : (P.info? t).map (·.size) = some c'.size) (ho : c.size = c'.size) (h1 : c'.all (·.oneCell') = true) :
    (Instr.storeAt t (.pointer (some ⟨w.heap.size, 0, none⟩)) (.agg c')).run P (w.alloc (.cells c t)) = .ok () (w.alloc (.cells c' t)) := by
  simp only [Instr.storeAt, Instr.sureAddr, Sem.run_bind, Sem.run_pure, Result.andThen]
  exact run_storeVar_new w t c c' hi ho h1
theorem build_k (k : Int) (w : World) : (Instr.build 38 #[(0, .int .i64 k)]).run Tryz.prog w = .ok (.agg (recCells { kind := k })) w := by kernel_rfl
theorem RfAt.other {w : World} {b L : Nat} {t : ByteArray} {st : Option Nat} (h : RfAt w b t st) (hne : L ≠ b) (j : Nat) (v : Value) : RfAt (w.setCell ⟨L, j, none⟩ v) b t st :=
  h.keeps ((Keeps.refl (· ≠ L) _).setCell (p := ⟨L, j, none⟩) (.inr (fun h => h rfl)) _) (Ne.symm hne)
theorem RfAt.row {w : World} {b L : Nat} {t : ByteArray} {st : Option Nat} (h : RfAt w b t st) (hne : L ≠ b) (cs : Array Value) : RfAt (w.setRow L cs) b t st :=
  h.keeps (keeps_setRow (K := (· ≠ L)) w L cs (fun h => h rfl)) (Ne.symm hne)
theorem RfAt.on {w w' : World} {b : Nat} {t : ByteArray} {st : Option Nat} (h : RfAt w b t st) (hb : Below w.heap.size w w') : RfAt w' b t st :=
  h.keeps (keeps_of_new hb (fun _ => True)) trivial
end Go.Proofs.YtkpmcjfolncmmaaGreatDoor
namespace Go.Proofs.YtkpmcjfolncmmaaGreatDoor
open Go.RowKit
theorem kinds6 {k : Int} (hk : 1 ≤ k ∧ k ≤ 6) : k = 1 ∨ k = 2 ∨ k = 3 ∨ k = 4 ∨ k = 5 ∨ k = 6 := by omega
end Go.Proofs.YtkpmcjfolncmmaaGreatDoor
namespace Go.Proofs.YtkpmcjfolncmmaaGreatDoor
open Go.RowKit
end Go.Proofs.YtkpmcjfolncmmaaGreatDoor
namespace Go.Proofs.YtkpmcjfolncmmaaGreatDoor
open Go.RowKit
end Go.Proofs.YtkpmcjfolncmmaaGreatDoor
namespace Go.Proofs.YtkpmcjfolncmmaaGreatDoor
open Go.RowKit
end Go.Proofs.YtkpmcjfolncmmaaGreatDoor
namespace Go.Proofs.YtkpmcjfolncmmaaGreatDoor
open Go.RowKit
end Go.Proofs.YtkpmcjfolncmmaaGreatDoor
namespace Go.Proofs.YtkpmcjfolncmmaaGreatDoor
open Go.RowKit
end Go.Proofs.YtkpmcjfolncmmaaGreatDoor
namespace Go.Proofs.YtkpmcjfolncmmaaGreatDoor
open Go.RowKit
end Go.Proofs.YtkpmcjfolncmmaaGreatDoor
namespace Go.Proofs.YtkpmcjfolncmmaaGreatDoor
open Go.RowKit
end Go.Proofs.YtkpmcjfolncmmaaGreatDoor
