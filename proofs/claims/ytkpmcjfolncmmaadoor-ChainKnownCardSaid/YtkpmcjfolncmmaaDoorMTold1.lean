/- errors.As at a concrete target, walked (after the guide's ToyasAs), and api.Told. -/
import Derived.Test.YtkpmcjfolncmmaaDoorMByt1
import Derived.LaidEql
import Derived.Stop.Asserts
import Derived.RowKitTokens
import Derived.Test.YtkpmcjfolncmmaaDoorMRec2
set_option linter.all false
namespace Go.Proofs.YtkpmcjfolncmmaaDoor
open Go.RowKit Go.Extern.Stop Go.Stop Go.Extern

/-- errors.As(nil, target). -/
theorem as_nil (t : Value) (w : World) :
    Calls Tryd.prog 49 #[.nilIface, t] w fun e w' => e = .returned (.bool false) ∧ w' = w := by
  go_enter Tryd.func49, Tryd.ntmps49
  go_wp2
  go_ret
  exact ⟨rfl, rfl⟩

/-! ### CLOSED FACTS ON THE MODEL's ENTRIES FOR internal/reflectlite, at this program's types: 25: *p.E · 27: **p.E · 23: error · 45: reflectlite's rtype · 1: how many package-level variables the dump has -/
theorem Tryd.valueOf27 (t : Addr) (w : World) : (ReflectliteValue.unpack (.iface 111 (.pointer (some t)))).run Tryd.prog w
    = .ok (.agg #[.pointer (some ⟨3, 111, none⟩), .pointer (some ⟨w.heap.size, 0, none⟩), .int .u64 150]) (w.alloc (.cells #[.pointer (some t)] 111)) := by kernel_rfl
theorem Tryd.type27 (a : Addr) (w : World) : (ReflectliteValue.methodAny (ReflectliteValue.valueError "reflectlite.Value.Type" 0) (fun t _ _ _ => ReflectliteType.toType t) #[.agg #[.pointer (some ⟨3, 111, none⟩), .pointer (some a), .int .u64 150]]).run Tryd.prog w
    = .ok (.iface 156 (.agg #[.pointer (some ⟨3, 111, none⟩)])) w := by kernel_rfl
theorem Tryd.methodKind (h : Value) (w : World) : (Go.method 296 156 (.agg #[h]) "Kind").run Tryd.prog w = .ok (92, h) w := by kernel_rfl
theorem Tryd.kind27 (w : World) : ((ReflectliteType.abiMethod fun t => (fun a : Nat => Value.int IntKind.u8 (a : Int)) <$> Rtype.kind t) #[.pointer (some ⟨3, 111, none⟩)]).run Tryd.prog w = .ok (.int .u8 22) w := by kernel_rfl
theorem Tryd.kind25 (w : World) : ((ReflectliteType.abiMethod fun t => (fun a : Nat => Value.int IntKind.u8 (a : Int)) <$> Rtype.kind t) #[.pointer (some ⟨3, 81, none⟩)]).run Tryd.prog w = .ok (.int .u8 22) w := by kernel_rfl

/-! ### THE ENTRIES THAT READ OR WRITE MEMORY: laws with a premise on the cell (after Derived/Lib/ReflectliteSlice.lean's manner: each unfolding a lemma of its own, by rfl) -/
theorem rlm (z : Sem Value) (f : TypeId → Addr → Nat → Nat → Sem Value) (v : Value) :
    ReflectliteValue.method z f #[v] = (do match ← ReflectliteValue.parts v with | none => z | some (t, a, fl) => f t a fl (fl % 32)) := rfl
theorem Tryd.parts27 (a : Addr) (w : World) : (ReflectliteValue.parts (.agg #[.pointer (some ⟨3, 111, none⟩), .pointer (some a), .int .u64 150])).run Tryd.prog w = .ok (some (111, a, 150)) w := by kernel_rfl
/-- (Value).IsNil at the Value of a **p.E that is not nil. -/
theorem Tryd.isNil27 (a p : Addr) (W : World) (ha : W.cell? a = some (.pointer (some p))) :
    (ReflectliteValue.method (ReflectliteValue.valueError "reflectlite.Value.IsNil" 0) ReflectliteValue.isNil #[.agg #[.pointer (some ⟨3, 111, none⟩), .pointer (some a), .int .u64 150]]).run Tryd.prog W = .ok (.bool false) W := by
  rw [rlm]
  simp only [Sem.run_bind, Tryd.parts27, Result.andThen]
  simp [ReflectliteValue.isNil, loadVar, isAgg, underlying, Tryd.underlying111, ha, Result.andThen]

theorem Tryd.methodElem (h : Value) (w : World) : (Go.method 296 156 (.agg #[h]) "Elem").run Tryd.prog w = .ok (104, .agg #[h]) w := by kernel_rfl
theorem Tryd.methodImplements (h : Value) (w : World) : (Go.method 296 156 (.agg #[h]) "Implements").run Tryd.prog w = .ok (105, .agg #[h]) w := by kernel_rfl
theorem Tryd.methodAssignableTo (h : Value) (w : World) : (Go.method 296 156 (.agg #[h]) "AssignableTo").run Tryd.prog w = .ok (102, .agg #[h]) w := by kernel_rfl
theorem Tryd.elem27 (w : World) : (ReflectliteType.method ReflectliteType.elem #[.agg #[.pointer (some ⟨3, 111, none⟩)]]).run Tryd.prog w = .ok (.iface 156 (.agg #[.pointer (some ⟨3, 81, none⟩)])) w := by kernel_rfl
theorem Tryd.implements25 (w : World) : (ReflectliteType.relation "Implements" ReflectliteType.implements_ #[.agg #[.pointer (some ⟨3, 81, none⟩)], .iface 156 (.agg #[.pointer (some ⟨3, 35, none⟩)])]).run Tryd.prog w = .ok (.bool true) w := by kernel_rfl
theorem Tryd.typeOf25 (v : Value) (w : World) : (ReflectliteType.typeOf #[.iface 81 v]).run Tryd.prog w = .ok (.iface 156 (.agg #[.pointer (some ⟨3, 81, none⟩)])) w := by kernel_rfl
theorem Tryd.assignable25 (w : World) : (ReflectliteType.relation "AssignableTo" ReflectliteType.assignableTo #[.agg #[.pointer (some ⟨3, 81, none⟩)], .iface 156 (.agg #[.pointer (some ⟨3, 81, none⟩)])]).run Tryd.prog w = .ok (.bool true) w := by kernel_rfl
theorem Tryd.valueOf25 (e : Addr) (w : World) : (ReflectliteValue.unpack (.iface 81 (.pointer (some e)))).run Tryd.prog w
    = .ok (.agg #[.pointer (some ⟨3, 81, none⟩), .pointer (some ⟨w.heap.size, 0, none⟩), .int .u64 150]) (w.alloc (.cells #[.pointer (some e)] 81)) := by kernel_rfl

theorem Tryd.elemOf27 (w : World) : (Rtype.elem? 111).run Tryd.prog w = .ok (some 81) w := by kernel_rfl
theorem Tryd.mk25 (p : Addr) (w : World) : (ReflectliteValue.mk 81 p ReflectliteValue.flagAddr).run Tryd.prog w = .ok (.agg #[.pointer (some ⟨3, 81, none⟩), .pointer (some p), .int .u64 406]) w := by kernel_rfl
/-- (Value).Elem at the Value of a **p.E that is not nil: the Value of the *p.E variable that it points to, addressable. -/
theorem Tryd.elemV27 (a p : Addr) (W : World) (ha : W.cell? a = some (.pointer (some p))) :
    (ReflectliteValue.method (ReflectliteValue.valueError "reflectlite.Value.Elem" 0) ReflectliteValue.elem #[.agg #[.pointer (some ⟨3, 111, none⟩), .pointer (some a), .int .u64 150]]).run Tryd.prog W
      = .ok (.agg #[.pointer (some ⟨3, 81, none⟩), .pointer (some p), .int .u64 406]) W := by
  rw [rlm]
  simp only [Sem.run_bind, Tryd.parts27, Result.andThen]
  simp [ReflectliteValue.elem, loadVar, isAgg, underlying, Tryd.underlying111, ha, Result.andThen, Tryd.elemOf27, Tryd.mk25]
theorem rls (v x : Value) : ReflectliteValue.set #[v, x] = (do
    let (some (dst, a, fl), some (src, b, _)) := (← ReflectliteValue.parts v, ← ReflectliteValue.parts x)
      | unsupported (.noEntry "extern/(internal/reflectlite.Value).Set.zeroValue")
    if fl / ReflectliteValue.flagAddr % 2 == 0 then unsupported (.noEntry "extern/(internal/reflectlite.Value).Set.unaddressable")
    let val ← loadVar src b
    if ← Rtype.directlyAssignable dst src then storeVar dst a val
    else if ← Rtype.implements dst src then
      if (← Rtype.kind src) == 20 then
        match val with
        | .nilIface => unsupported (.noEntry "extern/reflectlite: a nil value of one interface type handed on as a value of another")
        | _ => storeVar dst a val
      else storeVar dst a (.iface src val)
    else panicString ("reflectlite.Set: value of type " ++ (← Rtype.spelt src) ++ " is not assignable to type " ++ (← Rtype.spelt dst))
    pure (.tuple #[])) := rfl
theorem Tryd.parts25a (a : Addr) (w : World) : (ReflectliteValue.parts (.agg #[.pointer (some ⟨3, 81, none⟩), .pointer (some a), .int .u64 406])).run Tryd.prog w = .ok (some (81, a, 406)) w := by kernel_rfl
theorem Tryd.parts25 (a : Addr) (w : World) : (ReflectliteValue.parts (.agg #[.pointer (some ⟨3, 81, none⟩), .pointer (some a), .int .u64 150])).run Tryd.prog w = .ok (some (81, a, 150)) w := by kernel_rfl
theorem Tryd.direct25 (w : World) : (Rtype.directlyAssignable 81 81).run Tryd.prog w = .ok true w := by kernel_rfl
theorem Tryd.size25 (w : World) : (sizeOf 81).run Tryd.prog w = .ok 1 w := by kernel_rfl
/-- (Value).Set: the *p.E variable at 'ta' gets what the Value's own variable 'b' holds. -/
theorem Tryd.set25 (ta b e : Addr) (old : Value) (W : World) (hb : W.cell? b = some (.pointer (some e))) (ht : W.cell? ta = some old) (hf : W.frozen? ta = false) :
    (ReflectliteValue.set #[.agg #[.pointer (some ⟨3, 81, none⟩), .pointer (some ta), .int .u64 406], .agg #[.pointer (some ⟨3, 81, none⟩), .pointer (some b), .int .u64 150]]).run Tryd.prog W
      = .ok (.tuple #[]) (W.setCell ta (.pointer (some e))) := by
  rw [rls]
  simp only [Sem.run_bind, Tryd.parts25a, Tryd.parts25, Result.andThen]
  simp [ReflectliteValue.flagAddr, loadVar, isAgg, underlying, Tryd.underlying81, hb, Result.andThen, Tryd.direct25, storeVar, Value.cells, storeCells, Addr.add]
  rw [run_store Tryd.prog W ta _ _ (by rfl)]
  simp [ht, hf]

set_option maxRecDepth 100000 in
set_option maxHeartbeats 4000000 in
theorem as_hit (e t : Addr) (old : Value) (w : World) (hg : w.cell? ⟨1, 0, none⟩ = some (.iface 156 (.agg #[.pointer (some ⟨3, 35, none⟩)]))) (ht0 : w.cell? t = some old) (hf0 : w.frozen? t = false) :
    Calls Tryd.prog 49 #[.iface 81 (.pointer (some e)), .iface 111 (.pointer (some t))] w fun ev w' => ev = .returned (.bool true) ∧ w' = ((((w.alloc (.cells #[.pointer (some t)] 111)).alloc (.cells #[.pointer (some ⟨3, 111, none⟩), .pointer (some ⟨w.heap.size, 0, none⟩), .int .u64 150] 136)).alloc (.cells #[.pointer (some ⟨3, 111, none⟩), .pointer (some ⟨w.heap.size, 0, none⟩), .int .u64 150] 136)).alloc (.cells #[.pointer (some e)] 81)).setCell t (.pointer (some e)) := by
  have h6 := @run_callFunc_extern Tryd.prog 62 _ (fun args => ReflectliteValue.unpack (args.getD 0 (.tuple #[]))) Tryd.func62 (by kernel_rfl) (by kernel_rfl) (by kernel_rfl) (by kernel_rfl)
  have h7 := @run_callFunc_extern Tryd.prog 63 _ (ReflectliteValue.methodAny (ReflectliteValue.valueError "reflectlite.Value.Type" 0) (fun t _ _ _ => ReflectliteType.toType t)) Tryd.func63 (by kernel_rfl) (by kernel_rfl) (by kernel_rfl) (by kernel_rfl)
  have h8 := @run_callFunc_extern Tryd.prog 64 _ (ReflectliteValue.method (ReflectliteValue.valueError "reflectlite.Value.IsNil" 0) ReflectliteValue.isNil) Tryd.func64 (by kernel_rfl) (by kernel_rfl) (by kernel_rfl) (by kernel_rfl)
  have h27 := @run_callFunc_extern Tryd.prog 92 _ (ReflectliteType.abiMethod fun t => do pure (.int .u8 (← Rtype.kind t))) Tryd.func92 (by kernel_rfl) (by kernel_rfl) (by kernel_rfl) (by kernel_rfl)
  have h37 := @run_callFunc_extern Tryd.prog 104 _ (ReflectliteType.method ReflectliteType.elem) Tryd.func104 (by kernel_rfl) (by kernel_rfl) (by kernel_rfl) (by kernel_rfl)
  have h38 := @run_callFunc_extern Tryd.prog 105 _ (ReflectliteType.relation "Implements" ReflectliteType.implements_) Tryd.func105 (by kernel_rfl) (by kernel_rfl) (by kernel_rfl) (by kernel_rfl)
  have h10 := @run_callFunc_extern Tryd.prog 74 _ ReflectliteType.typeOf Tryd.func74 (by kernel_rfl) (by kernel_rfl) (by kernel_rfl) (by kernel_rfl)
  have h35 := @run_callFunc_extern Tryd.prog 102 _ (ReflectliteType.relation "AssignableTo" ReflectliteType.assignableTo) Tryd.func102 (by kernel_rfl) (by kernel_rfl) (by kernel_rfl) (by kernel_rfl)
  have h11 := @run_callFunc_extern Tryd.prog 75 _ (ReflectliteValue.method (ReflectliteValue.valueError "reflectlite.Value.Elem" 0) ReflectliteValue.elem) Tryd.func75 (by kernel_rfl) (by kernel_rfl) (by kernel_rfl) (by kernel_rfl)
  have h12 := @run_callFunc_extern Tryd.prog 76 _ ReflectliteValue.set Tryd.func76 (by kernel_rfl) (by kernel_rfl) (by kernel_rfl) (by kernel_rfl)
  have tO := Tryd.typeOf25
  have mA := Tryd.methodAssignableTo
  have a25 := Tryd.assignable25
  have v25 := Tryd.valueOf25
  have f6 := Tryd.valueOf27
  have f7 := Tryd.type27
  have mK := Tryd.methodKind
  have mE := Tryd.methodElem
  have mI := Tryd.methodImplements
  have k27 := Tryd.kind27
  have k25 := Tryd.kind25
  have e27 := Tryd.elem27
  have i25 := Tryd.implements25
  have n8 := Tryd.isNil27 ⟨w.heap.size, 0, none⟩ t ((w.alloc (.cells #[.pointer (some t)] 111)).alloc (.cells #[.pointer (some ⟨3, 111, none⟩), .pointer (some ⟨w.heap.size, 0, none⟩), .int .u64 150] 136)) (by simp)
  have hlt : 1 < w.heap.size := cell_lt hg
  have hg2 : ((w.alloc (.cells #[.pointer (some t)] 111)).alloc (.cells #[.pointer (some ⟨3, 111, none⟩), .pointer (some ⟨w.heap.size, 0, none⟩), .int .u64 150] 136)).cell? ⟨1, 0, none⟩ = some (.iface 156 (.agg #[.pointer (some ⟨3, 35, none⟩)])) := by
    rw [World.cell?_alloc_lt _ _ ⟨1, 0, none⟩ (by simp; omega), World.cell?_alloc_lt _ _ ⟨1, 0, none⟩ hlt]; exact hg
  have htl : t.block < w.heap.size := cell_lt ht0
  have el := Tryd.elemV27 ⟨w.heap.size, 0, none⟩ t (((w.alloc (.cells #[.pointer (some t)] 111)).alloc (.cells #[.pointer (some ⟨3, 111, none⟩), .pointer (some ⟨w.heap.size, 0, none⟩), .int .u64 150] 136)).alloc (.cells #[.pointer (some ⟨3, 111, none⟩), .pointer (some ⟨w.heap.size, 0, none⟩), .int .u64 150] 136)) (by rw [World.cell?_alloc_lt _ _ ⟨w.heap.size, 0, none⟩ (by simp; omega)]; simp)
  have st := Tryd.set25 t ⟨w.heap.size + 1 + 1 + 1, 0, none⟩ e old ((((w.alloc (.cells #[.pointer (some t)] 111)).alloc (.cells #[.pointer (some ⟨3, 111, none⟩), .pointer (some ⟨w.heap.size, 0, none⟩), .int .u64 150] 136)).alloc (.cells #[.pointer (some ⟨3, 111, none⟩), .pointer (some ⟨w.heap.size, 0, none⟩), .int .u64 150] 136)).alloc (.cells #[.pointer (some e)] 81))
    (by rw [World.cell?_alloc_at _ _ _ _ (by simp)]; rfl)
    (by rw [World.cell?_alloc_lt _ _ t (by simp; omega), World.cell?_alloc_lt _ _ t (by simp; omega), World.cell?_alloc_lt _ _ t (by simp; omega), World.cell?_alloc_lt _ _ t htl]; exact ht0)
    (by rw [World.frozen?_alloc_old _ _ t (by simp; omega), World.frozen?_alloc_old _ _ t (by simp; omega), World.frozen?_alloc_old _ _ t (by simp; omega), World.frozen?_alloc_old _ _ t (Nat.ne_of_lt htl)]; exact hf0)
  go_enter Tryd.func49, Tryd.ntmps49
  go_wp2
  refine wp_loop_rounds 1 ?_
  rw [rounds_succ]
  go_wp2
  go_ret
  exact ⟨rfl, rfl⟩

end Go.Proofs.YtkpmcjfolncmmaaDoor

/- api.Told, of a fault, walked. -/
namespace Go.Proofs.YtkpmcjfolncmmaaDoor
open Go.RowKit

/-- errors' own variable, as it lies. -/
def ErrTab (w : World) : Prop := w.cell? ⟨1, 0, none⟩ = some (.iface 156 (.agg #[.pointer (some ⟨3, 35, none⟩)]))
theorem ErrTab.on {w w' : World} (h : ErrTab w) (hb : Below w.heap.size w w') : ErrTab w' := (hb.cell (cell_lt h)).trans h
theorem ErrTab.keeps {K : Nat → Prop} {w w' : World} (h : ErrTab w) (hk : Keeps K w w') (hK : K 1) : ErrTab w' := cell_keeps h hk hK

set_option maxHeartbeats 2000000 in
set_option maxRecDepth 100000 in
theorem told_fault (e : Nat) (c p i : Int) (w : World) (hg : ErrTab w) (h0 : w.cell? ⟨e, 0, none⟩ = some (.int .i64 c)) (h1 : w.cell? ⟨e, 1, none⟩ = some (.int .i64 p)) (h2 : w.cell? ⟨e, 2, none⟩ = some (.int .i64 i)) :
    Calls Tryd.prog 27 #[.iface 81 (.pointer (some ⟨e, 0, none⟩))] w fun ev w' => ev = .returned (.agg #[.int .i64 c, .int .i64 p, .int .i64 i]) ∧ Below w.heap.size w w' := by
  obtain ⟨R, hR⟩ : ∃ x, x = w.heap.size := ⟨_, rfl⟩
  obtain ⟨T, hT⟩ : ∃ x, x = w.heap.size + 1 := ⟨_, rfl⟩
  obtain ⟨w2, hw2⟩ : ∃ z, z = (w.alloc (.cells #[.int .i64 0, .int .i64 0, .int .i64 0] 83)).alloc (.cells #[.pointer none] 81) := ⟨_, rfl⟩
  have hn := new_alloc (w.alloc (.cells #[.int .i64 0, .int .i64 0, .int .i64 0] 83)) (.cells #[.pointer none] 81)
  have hs : (w.alloc (.cells #[.int .i64 0, .int .i64 0, .int .i64 0] 83)).heap.size = w.heap.size + 1 := by simp
  have HN2 : Aside (Below w.heap.size w w2) := by rw [hw2]; exact new_trans (new_alloc _ _) (new_alloc _ _)
  have HR : Aside (w2.heap[R]? = some (.cells #[.int .i64 0, .int .i64 0, .int .i64 0] 83 (0, 0))) := by rw [hw2, hR]; exact whole_new (heap_new _ _) hn
  have HTC : Aside (w2.cell? ⟨T, 0, none⟩ = some (.pointer none) ∧ w2.frozen? ⟨T, 0, none⟩ = false) := by
    have c := cell_new (w.alloc (.cells #[.int .i64 0, .int .i64 0, .int .i64 0] 83)) #[.pointer none] 81 0
    have f := frozen_new (w.alloc (.cells #[.int .i64 0, .int .i64 0, .int .i64 0] 83)) #[.pointer none] 81 0
    rw [hs] at c f
    rw [hw2, hT]
    exact ⟨c, f⟩
  have HG := aside (hg.on HN2.out)
  have hel : e < w.heap.size := cell_lt h0
  have HNE : Aside (R ≠ T ∧ e ≠ T ∧ e ≠ R ∧ w.heap.size ≤ R ∧ w.heap.size ≤ T) := by refine ⟨by omega, by omega, by omega, by omega, by omega⟩
  have H0 : Aside (w2.cell? ⟨e, 0, none⟩ = some (.int .i64 c)) := (HN2.out.cell (p := ⟨e, 0, none⟩) hel).trans h0
  have H1 : Aside (w2.cell? ⟨e, 1, none⟩ = some (.int .i64 p)) := (HN2.out.cell (p := ⟨e, 1, none⟩) hel).trans h1
  have H2 : Aside (w2.cell? ⟨e, 2, none⟩ = some (.int .i64 i)) := (HN2.out.cell (p := ⟨e, 2, none⟩) hel).trans h2
  clear hg h0 h1 h2 hn hs hel
  go_enter Tryd.func27, Tryd.ntmps27
  go_wp2_with fail
  rw [← hw2, ← hT, ← hR]
  clear hw2 hT hR
  refine (as_hit ⟨e, 0, none⟩ ⟨T, 0, none⟩ (.pointer none) w2 HG.out HTC.out.1 HTC.out.2).mono ?_
  rintro ev w3 ⟨rfl, hw3⟩
  have hb3 : ∃ w4, Below w2.heap.size w2 w4 ∧ w3 = w4.setCell ⟨T, 0, none⟩ (.pointer (some ⟨e, 0, none⟩)) :=
    ⟨_, new_trans (new_trans (new_trans (new_alloc _ _) (new_alloc _ _)) (new_alloc _ _)) (new_alloc _ _), hw3⟩
  clear hw3
  obtain ⟨w4, hb4, hw3⟩ := hb3
  have hk3 : Keeps (· ≠ T) w2 w3 := by rw [hw3]; exact (keeps_of_new hb4 _).setCell (p := ⟨T, 0, none⟩) (.inr (fun h => h rfl)) _
  have cT : w3.cell? ⟨T, 0, none⟩ = some (.pointer (some ⟨e, 0, none⟩)) := by rw [hw3]; exact World.cell?_setCell_same _ _ _ ((hb4.cell (cell_lt HTC.out.1)).trans HTC.out.1)
  have c0 := cell_keeps H0.out hk3 HNE.out.2.1
  have c1 := cell_keeps H1.out hk3 HNE.out.2.1
  have c2 := cell_keeps H2.out hk3 HNE.out.2.1
  have HR3 := aside (whole_keeps HR.out hk3 HNE.out.1)
  have r0 : w3.cell? ⟨R, 0, none⟩ = some (.int .i64 0) := cell_whole HR3.out 0
  have r1 : w3.cell? ⟨R, 1, none⟩ = some (.int .i64 0) := cell_whole HR3.out 1
  have r2 : w3.cell? ⟨R, 2, none⟩ = some (.int .i64 0) := cell_whole HR3.out 2
  have q0 := frozen_whole HR3.out 0
  have q1 := frozen_whole HR3.out 1
  have q2 := frozen_whole HR3.out 2
  have HB3 : Aside (Below w.heap.size w w3) := new_of_keeps HN2.out hk3 HNE.out.2.2.2.2
  have HF : Aside (Below w.heap.size w _) := ((HB3.out.setCell (p := ⟨R, 0, none⟩) HNE.out.2.2.2.1 (.int .i64 c)).setCell (p := ⟨R, 1, none⟩) HNE.out.2.2.2.1 (.int .i64 p)).setCell (p := ⟨R, 2, none⟩) HNE.out.2.2.2.1 (.int .i64 i)
  clear hb4 hw3 hk3
  go_wp2_with fail
  refine bodyPost_ret (v := .agg #[.int .i64 c, .int .i64 p, .int .i64 i]) ?_ rfl ⟨rfl, HF.out⟩
  simp [results, Tryd.results27, go_sem, r0, r1, r2]

end Go.Proofs.YtkpmcjfolncmmaaDoor
