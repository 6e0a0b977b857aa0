/- errors.As at a concrete target, walked (after the guide's ToyasAs), and api.Told. -/
import Derived.Test.YtkpmcjfolncmmaaGreatDoorSByt1
import Derived.LaidEql
import Derived.Stop.Asserts
import Derived.RowKitTokens
import Derived.Test.YtkpmcjfolncmmaaGreatDoorSRec2
set_option linter.all false
namespace Go.Proofs.YtkpmcjfolncmmaaGreatDoor
open Go.RowKit Go.Extern.Stop Go.Stop Go.Extern
theorem as_nil (t : Value) (w : World) :
    Calls Tryz.prog 77 #[.nilIface, t] w fun e w' => e = .returned (.bool false) ∧ w' = w := by
  go_enter Tryz.func77, Tryz.ntmps77
  go_wp2
  go_ret
  exact ⟨rfl, rfl⟩
theorem Tryz.valueOf27 (t : Addr) (w : World) : (ReflectliteValue.unpack (.iface 143 (.pointer (some t)))).run Tryz.prog w
    = .ok (.agg #[.pointer (some ⟨3, 143, none⟩), .pointer (some ⟨w.heap.size, 0, none⟩), .int .u64 150]) (w.alloc (.cells #[.pointer (some t)] 143)) := by kernel_rfl
theorem Tryz.type27 (a : Addr) (w : World) : (ReflectliteValue.methodAny (ReflectliteValue.valueError "reflectlite.Value.Type" 0) (fun t _ _ _ => ReflectliteType.toType t) #[.agg #[.pointer (some ⟨3, 143, none⟩), .pointer (some a), .int .u64 150]]).run Tryz.prog w
    = .ok (.iface 176 (.agg #[.pointer (some ⟨3, 143, none⟩)])) w := by kernel_rfl
theorem Tryz.methodKind (n : Nat) (h : Value) (w : World) : (Go.method (n + 8) 176 (.agg #[h]) "Kind").run Tryz.prog w = .ok (125, h) w := by kernel_rfl
theorem Tryz.kind27 (w : World) : ((ReflectliteType.abiMethod fun t => (fun a : Nat => Value.int IntKind.u8 (a : Int)) <$> Rtype.kind t) #[.pointer (some ⟨3, 143, none⟩)]).run Tryz.prog w = .ok (.int .u8 22) w := by kernel_rfl
theorem Tryz.kind25 (w : World) : ((ReflectliteType.abiMethod fun t => (fun a : Nat => Value.int IntKind.u8 (a : Int)) <$> Rtype.kind t) #[.pointer (some ⟨3, 141, none⟩)]).run Tryz.prog w = .ok (.int .u8 22) w := by kernel_rfl
theorem rlm (z : Sem Value) (f : TypeId → Addr → Nat → Nat → Sem Value) (v : Value) :
    ReflectliteValue.method z f #[v] = (do match ← ReflectliteValue.parts v with | none => z | some (t, a, fl) => f t a fl (fl % 32)) := rfl
theorem Tryz.parts27 (a : Addr) (w : World) : (ReflectliteValue.parts (.agg #[.pointer (some ⟨3, 143, none⟩), .pointer (some a), .int .u64 150])).run Tryz.prog w = .ok (some (143, a, 150)) w := by kernel_rfl
theorem Tryz.isNil27 (a p : Addr) (W : World) (ha : W.cell? a = some (.pointer (some p))) :
    (ReflectliteValue.method (ReflectliteValue.valueError "reflectlite.Value.IsNil" 0) ReflectliteValue.isNil #[.agg #[.pointer (some ⟨3, 143, none⟩), .pointer (some a), .int .u64 150]]).run Tryz.prog W = .ok (.bool false) W := by
  rw [rlm]
  simp only [Sem.run_bind, Tryz.parts27, Result.andThen]
  simp [ReflectliteValue.isNil, loadVar, isAgg, underlying, Tryz.underlying143, ha, Result.andThen]
theorem Tryz.methodElem (n : Nat) (h : Value) (w : World) : (Go.method (n + 8) 176 (.agg #[h]) "Elem").run Tryz.prog w = .ok (138, .agg #[h]) w := by kernel_rfl
theorem Tryz.methodImplements (n : Nat) (h : Value) (w : World) : (Go.method (n + 8) 176 (.agg #[h]) "Implements").run Tryz.prog w = .ok (139, .agg #[h]) w := by kernel_rfl
theorem Tryz.methodAssignableTo (n : Nat) (h : Value) (w : World) : (Go.method (n + 8) 176 (.agg #[h]) "AssignableTo").run Tryz.prog w = .ok (136, .agg #[h]) w := by kernel_rfl
theorem Tryz.elem27 (w : World) : (ReflectliteType.method ReflectliteType.elem #[.agg #[.pointer (some ⟨3, 143, none⟩)]]).run Tryz.prog w = .ok (.iface 176 (.agg #[.pointer (some ⟨3, 141, none⟩)])) w := by kernel_rfl
theorem Tryz.implements25 (w : World) : (ReflectliteType.relation "Implements" ReflectliteType.implements_ #[.agg #[.pointer (some ⟨3, 141, none⟩)], .iface 176 (.agg #[.pointer (some ⟨3, 92, none⟩)])]).run Tryz.prog w = .ok (.bool true) w := by kernel_rfl
theorem Tryz.typeOf25 (v : Value) (w : World) : (ReflectliteType.typeOf #[.iface 141 v]).run Tryz.prog w = .ok (.iface 176 (.agg #[.pointer (some ⟨3, 141, none⟩)])) w := by kernel_rfl
theorem Tryz.assignable25 (w : World) : (ReflectliteType.relation "AssignableTo" ReflectliteType.assignableTo #[.agg #[.pointer (some ⟨3, 141, none⟩)], .iface 176 (.agg #[.pointer (some ⟨3, 141, none⟩)])]).run Tryz.prog w = .ok (.bool true) w := by kernel_rfl
theorem Tryz.valueOf25 (e : Addr) (w : World) : (ReflectliteValue.unpack (.iface 141 (.pointer (some e)))).run Tryz.prog w
    = .ok (.agg #[.pointer (some ⟨3, 141, none⟩), .pointer (some ⟨w.heap.size, 0, none⟩), .int .u64 150]) (w.alloc (.cells #[.pointer (some e)] 141)) := by kernel_rfl
theorem Tryz.elemOf27 (w : World) : (Rtype.elem? 143).run Tryz.prog w = .ok (some 141) w := by kernel_rfl
theorem Tryz.mk25 (p : Addr) (w : World) : (ReflectliteValue.mk 141 p ReflectliteValue.flagAddr).run Tryz.prog w = .ok (.agg #[.pointer (some ⟨3, 141, none⟩), .pointer (some p), .int .u64 406]) w := by kernel_rfl
theorem Tryz.elemV27 (a p : Addr) (W : World) (ha : W.cell? a = some (.pointer (some p))) :
    (ReflectliteValue.method (ReflectliteValue.valueError "reflectlite.Value.Elem" 0) ReflectliteValue.elem #[.agg #[.pointer (some ⟨3, 143, none⟩), .pointer (some a), .int .u64 150]]).run Tryz.prog W
      = .ok (.agg #[.pointer (some ⟨3, 141, none⟩), .pointer (some p), .int .u64 406]) W := by
  rw [rlm]
  simp only [Sem.run_bind, Tryz.parts27, Result.andThen]
  simp [ReflectliteValue.elem, loadVar, isAgg, underlying, Tryz.underlying143, ha, Result.andThen, Tryz.elemOf27, Tryz.mk25]
theorem rls (v x : Value) : ReflectliteValue.set #[v, x] = (do
    let (some (dst, a, fl), some (src, b, _)) := (← ReflectliteValue.parts v, ← ReflectliteValue.parts x)
      | unsupported (.noEntry "extern/(internal/reflectlite.Value).Set.zeroValue")
    if fl / ReflectliteValue.flagAddr % 2 == 0 then unsupported (.noEntry "extern/(internal/reflectlite.Value).Set.unaddressable")
    let val ← loadVar src b
    if ← Rtype.directlyAssignable dst src then storeVar dst a val
    else if ← Rtype.implements dst src then
      if (← Rtype.kind src) == 20 then
        match val with
        | .nilIface => unsupported (.noEntry "extern/reflectlite: a nil value of one interface type handed on as a value of another")
        | _ => storeVar dst a val
      else storeVar dst a (.iface src val)
    else panicString ("reflectlite.Set: value of type " ++ (← Rtype.spelt src) ++ " is not assignable to type " ++ (← Rtype.spelt dst))
    pure (.tuple #[])) := rfl
theorem Tryz.parts25a (a : Addr) (w : World) : (ReflectliteValue.parts (.agg #[.pointer (some ⟨3, 141, none⟩), .pointer (some a), .int .u64 406])).run Tryz.prog w = .ok (some (141, a, 406)) w := by kernel_rfl
theorem Tryz.parts25 (a : Addr) (w : World) : (ReflectliteValue.parts (.agg #[.pointer (some ⟨3, 141, none⟩), .pointer (some a), .int .u64 150])).run Tryz.prog w = .ok (some (141, a, 150)) w := by kernel_rfl
theorem Tryz.direct25 (w : World) : (Rtype.directlyAssignable 141 141).run Tryz.prog w = .ok true w := by kernel_rfl
theorem Tryz.set25 (ta b e : Addr) (old : Value) (W : World) (hb : W.cell? b = some (.pointer (some e))) (ht : W.cell? ta = some old) (hf : W.frozen? ta = false) :
    (ReflectliteValue.set #[.agg #[.pointer (some ⟨3, 141, none⟩), .pointer (some ta), .int .u64 406], .agg #[.pointer (some ⟨3, 141, none⟩), .pointer (some b), .int .u64 150]]).run Tryz.prog W
      = .ok (.tuple #[]) (W.setCell ta (.pointer (some e))) := by
  rw [rls]
  simp only [Sem.run_bind, Tryz.parts25a, Tryz.parts25, Result.andThen]
  simp [ReflectliteValue.flagAddr, loadVar, isAgg, underlying, Tryz.underlying141, hb, Result.andThen, Tryz.direct25, storeVar, Value.cells, storeCells, Addr.add]
  rw [run_store Tryz.prog W ta _ _ (by rfl)]
  simp [ht, hf]
set_option maxRecDepth 100000 in
set_option maxHeartbeats 4000000 in
theorem as_hit (e t : Addr) (old : Value) (w : World) (hg : w.cell? ⟨0, 0, none⟩ = some (.iface 176 (.agg #[.pointer (some ⟨3, 92, none⟩)]))) (ht0 : w.cell? t = some old) (hf0 : w.frozen? t = false) :
    Calls Tryz.prog 77 #[.iface 141 (.pointer (some e)), .iface 143 (.pointer (some t))] w fun ev w' => ev = .returned (.bool true) ∧ w' = ((((w.alloc (.cells #[.pointer (some t)] 143)).alloc (.cells #[.pointer (some ⟨3, 143, none⟩), .pointer (some ⟨w.heap.size, 0, none⟩), .int .u64 150] 160)).alloc (.cells #[.pointer (some ⟨3, 143, none⟩), .pointer (some ⟨w.heap.size, 0, none⟩), .int .u64 150] 160)).alloc (.cells #[.pointer (some e)] 141)).setCell t (.pointer (some e)) := by
  have h6 := @run_callFunc_extern Tryz.prog 92 _ (fun args => ReflectliteValue.unpack (args.getD 0 (.tuple #[]))) Tryz.func92 (by kernel_rfl) (by kernel_rfl) (by kernel_rfl) (by kernel_rfl)
  have h7 := @run_callFunc_extern Tryz.prog 93 _ (ReflectliteValue.methodAny (ReflectliteValue.valueError "reflectlite.Value.Type" 0) (fun t _ _ _ => ReflectliteType.toType t)) Tryz.func93 (by kernel_rfl) (by kernel_rfl) (by kernel_rfl) (by kernel_rfl)
  have h8 := @run_callFunc_extern Tryz.prog 94 _ (ReflectliteValue.method (ReflectliteValue.valueError "reflectlite.Value.IsNil" 0) ReflectliteValue.isNil) Tryz.func94 (by kernel_rfl) (by kernel_rfl) (by kernel_rfl) (by kernel_rfl)
  have h27 := @run_callFunc_extern Tryz.prog 125 _ (ReflectliteType.abiMethod fun t => do pure (.int .u8 (← Rtype.kind t))) Tryz.func125 (by kernel_rfl) (by kernel_rfl) (by kernel_rfl) (by kernel_rfl)
  have h37 := @run_callFunc_extern Tryz.prog 138 _ (ReflectliteType.method ReflectliteType.elem) Tryz.func138 (by kernel_rfl) (by kernel_rfl) (by kernel_rfl) (by kernel_rfl)
  have h38 := @run_callFunc_extern Tryz.prog 139 _ (ReflectliteType.relation "Implements" ReflectliteType.implements_) Tryz.func139 (by kernel_rfl) (by kernel_rfl) (by kernel_rfl) (by kernel_rfl)
  have h10 := @run_callFunc_extern Tryz.prog 101 _ ReflectliteType.typeOf Tryz.func101 (by kernel_rfl) (by kernel_rfl) (by kernel_rfl) (by kernel_rfl)
  have h35 := @run_callFunc_extern Tryz.prog 136 _ (ReflectliteType.relation "AssignableTo" ReflectliteType.assignableTo) Tryz.func136 (by kernel_rfl) (by kernel_rfl) (by kernel_rfl) (by kernel_rfl)
  have h11 := @run_callFunc_extern Tryz.prog 102 _ (ReflectliteValue.method (ReflectliteValue.valueError "reflectlite.Value.Elem" 0) ReflectliteValue.elem) Tryz.func102 (by kernel_rfl) (by kernel_rfl) (by kernel_rfl) (by kernel_rfl)
  have h12 := @run_callFunc_extern Tryz.prog 103 _ ReflectliteValue.set Tryz.func103 (by kernel_rfl) (by kernel_rfl) (by kernel_rfl) (by kernel_rfl)
  have tO := Tryz.typeOf25
  have mA := Tryz.methodAssignableTo
  have a25 := Tryz.assignable25
  have v25 := Tryz.valueOf25
  have f6 := Tryz.valueOf27
  have f7 := Tryz.type27
  have mK := Tryz.methodKind
  have mE := Tryz.methodElem
  have mI := Tryz.methodImplements
  have k27 := Tryz.kind27
  have k25 := Tryz.kind25
  have e27 := Tryz.elem27
  have i25 := Tryz.implements25
  have n8 := Tryz.isNil27 ⟨w.heap.size, 0, none⟩ t ((w.alloc (.cells #[.pointer (some t)] 143)).alloc (.cells #[.pointer (some ⟨3, 143, none⟩), .pointer (some ⟨w.heap.size, 0, none⟩), .int .u64 150] 160)) (by simp)
  have hlt : 0 < w.heap.size := cell_lt hg
  have hg2 : ((w.alloc (.cells #[.pointer (some t)] 143)).alloc (.cells #[.pointer (some ⟨3, 143, none⟩), .pointer (some ⟨w.heap.size, 0, none⟩), .int .u64 150] 160)).cell? ⟨0, 0, none⟩ = some (.iface 176 (.agg #[.pointer (some ⟨3, 92, none⟩)])) := by
    rw [World.cell?_alloc_lt _ _ ⟨0, 0, none⟩ (by simp <;> omega), World.cell?_alloc_lt _ _ ⟨0, 0, none⟩ hlt]; exact hg
  have htl : t.block < w.heap.size := cell_lt ht0
  have el := Tryz.elemV27 ⟨w.heap.size, 0, none⟩ t (((w.alloc (.cells #[.pointer (some t)] 143)).alloc (.cells #[.pointer (some ⟨3, 143, none⟩), .pointer (some ⟨w.heap.size, 0, none⟩), .int .u64 150] 160)).alloc (.cells #[.pointer (some ⟨3, 143, none⟩), .pointer (some ⟨w.heap.size, 0, none⟩), .int .u64 150] 160)) (by rw [World.cell?_alloc_lt _ _ ⟨w.heap.size, 0, none⟩ (by simp; omega)]; simp)
  have st := Tryz.set25 t ⟨w.heap.size + 1 + 1 + 1, 0, none⟩ e old ((((w.alloc (.cells #[.pointer (some t)] 143)).alloc (.cells #[.pointer (some ⟨3, 143, none⟩), .pointer (some ⟨w.heap.size, 0, none⟩), .int .u64 150] 160)).alloc (.cells #[.pointer (some ⟨3, 143, none⟩), .pointer (some ⟨w.heap.size, 0, none⟩), .int .u64 150] 160)).alloc (.cells #[.pointer (some e)] 141))
    (by rw [World.cell?_alloc_at _ _ _ _ (by simp)]; rfl)
    (by rw [World.cell?_alloc_lt _ _ t (by simp; omega), World.cell?_alloc_lt _ _ t (by simp; omega), World.cell?_alloc_lt _ _ t (by simp; omega), World.cell?_alloc_lt _ _ t htl]; exact ht0)
    (by rw [World.frozen?_alloc_old _ _ t (by simp; omega), World.frozen?_alloc_old _ _ t (by simp; omega), World.frozen?_alloc_old _ _ t (by simp; omega), World.frozen?_alloc_old _ _ t (Nat.ne_of_lt htl)]; exact hf0)
  go_enter Tryz.func77, Tryz.ntmps77
  go_wp2
  refine wp_loop_rounds 1 ?_
  rw [rounds_succ]
  go_wp2
  go_ret
  exact ⟨rfl, rfl⟩
end Go.Proofs.YtkpmcjfolncmmaaGreatDoor
namespace Go.Proofs.YtkpmcjfolncmmaaGreatDoor
open Go.RowKit
def ErrTab (w : World) : Prop := w.cell? ⟨0, 0, none⟩ = some (.iface 176 (.agg #[.pointer (some ⟨3, 92, none⟩)]))
theorem ErrTab.on {w w' : World} (h : ErrTab w) (hb : Below w.heap.size w w') : ErrTab w' := (hb.cell (cell_lt h)).trans h
theorem ErrTab.keeps {K : Nat → Prop} {w w' : World} (h : ErrTab w) (hk : Keeps K w w') (hK : K 0) : ErrTab w' := cell_keeps h hk hK
set_option maxHeartbeats 2000000 in
set_option maxRecDepth 100000 in
theorem told_fault (e : Nat) (c p i : Int) (w : World) (hg : ErrTab w) (h0 : w.cell? ⟨e, 0, none⟩ = some (.int .i64 c)) (h1 : w.cell? ⟨e, 1, none⟩ = some (.int .i64 p)) (h2 : w.cell? ⟨e, 2, none⟩ = some (.int .i64 i)) :
    Calls Tryz.prog 45 #[.iface 141 (.pointer (some ⟨e, 0, none⟩))] w fun ev w' => ev = .returned (.agg #[.int .i64 c, .int .i64 p, .int .i64 i]) ∧ Below w.heap.size w w' := by
  obtain ⟨R, hR⟩ : ∃ x, x = w.heap.size := ⟨_, rfl⟩
  obtain ⟨T, hT⟩ : ∃ x, x = w.heap.size + 1 := ⟨_, rfl⟩
  obtain ⟨w2, hw2⟩ : ∃ z, z = (w.alloc (.cells #[.int .i64 0, .int .i64 0, .int .i64 0] 96)).alloc (.cells #[.pointer none] 141) := ⟨_, rfl⟩
  have hn := new_alloc (w.alloc (.cells #[.int .i64 0, .int .i64 0, .int .i64 0] 96)) (.cells #[.pointer none] 141)
  have hs : (w.alloc (.cells #[.int .i64 0, .int .i64 0, .int .i64 0] 96)).heap.size = w.heap.size + 1 := by simp
  have HN2 : Aside (Below w.heap.size w w2) := by rw [hw2]; exact new_trans (new_alloc _ _) (new_alloc _ _)
  have HR : Aside (w2.heap[R]? = some (.cells #[.int .i64 0, .int .i64 0, .int .i64 0] 96 (0, 0))) := by rw [hw2, hR]; exact whole_new (heap_new _ _) hn
  have HTC : Aside (w2.cell? ⟨T, 0, none⟩ = some (.pointer none) ∧ w2.frozen? ⟨T, 0, none⟩ = false) := by
    have c := cell_new (w.alloc (.cells #[.int .i64 0, .int .i64 0, .int .i64 0] 96)) #[.pointer none] 141 0
    have f := frozen_new (w.alloc (.cells #[.int .i64 0, .int .i64 0, .int .i64 0] 96)) #[.pointer none] 141 0
    rw [hs] at c f
    rw [hw2, hT]
    exact ⟨c, f⟩
  have HG := aside (hg.on HN2.out)
  have hel : e < w.heap.size := cell_lt h0
  have HNE : Aside (R ≠ T ∧ e ≠ T ∧ e ≠ R ∧ w.heap.size ≤ R ∧ w.heap.size ≤ T) := by refine ⟨by omega, by omega, by omega, by omega, by omega⟩
  have H0 : Aside (w2.cell? ⟨e, 0, none⟩ = some (.int .i64 c)) := (HN2.out.cell (p := ⟨e, 0, none⟩) hel).trans h0
  have H1 : Aside (w2.cell? ⟨e, 1, none⟩ = some (.int .i64 p)) := (HN2.out.cell (p := ⟨e, 1, none⟩) hel).trans h1
  have H2 : Aside (w2.cell? ⟨e, 2, none⟩ = some (.int .i64 i)) := (HN2.out.cell (p := ⟨e, 2, none⟩) hel).trans h2
  clear hg h0 h1 h2 hn hs hel
  go_enter Tryz.func45, Tryz.ntmps45
  go_wp2_with fail
  rw [← hw2, ← hT, ← hR]
  clear hw2 hT hR
  refine (as_hit ⟨e, 0, none⟩ ⟨T, 0, none⟩ (.pointer none) w2 HG.out HTC.out.1 HTC.out.2).mono ?_
  rintro ev w3 ⟨rfl, hw3⟩
  have hb3 : ∃ w4, Below w2.heap.size w2 w4 ∧ w3 = w4.setCell ⟨T, 0, none⟩ (.pointer (some ⟨e, 0, none⟩)) :=
    ⟨_, new_trans (new_trans (new_trans (new_alloc _ _) (new_alloc _ _)) (new_alloc _ _)) (new_alloc _ _), hw3⟩
  clear hw3
  obtain ⟨w4, hb4, hw3⟩ := hb3
  have hk3 : Keeps (· ≠ T) w2 w3 := by rw [hw3]; exact (keeps_of_new hb4 _).setCell (p := ⟨T, 0, none⟩) (.inr (fun h => h rfl)) _
  have cT : w3.cell? ⟨T, 0, none⟩ = some (.pointer (some ⟨e, 0, none⟩)) := by rw [hw3]; exact World.cell?_setCell_same _ _ _ ((hb4.cell (cell_lt HTC.out.1)).trans HTC.out.1)
  have c0 := cell_keeps H0.out hk3 HNE.out.2.1
  have c1 := cell_keeps H1.out hk3 HNE.out.2.1
  have c2 := cell_keeps H2.out hk3 HNE.out.2.1
  have HR3 := aside (whole_keeps HR.out hk3 HNE.out.1)
  have r0 : w3.cell? ⟨R, 0, none⟩ = some (.int .i64 0) := cell_whole HR3.out 0
  have r1 : w3.cell? ⟨R, 1, none⟩ = some (.int .i64 0) := cell_whole HR3.out 1
  have r2 : w3.cell? ⟨R, 2, none⟩ = some (.int .i64 0) := cell_whole HR3.out 2
  have q0 := frozen_whole HR3.out 0
  have q1 := frozen_whole HR3.out 1
  have q2 := frozen_whole HR3.out 2
  have HB3 : Aside (Below w.heap.size w w3) := new_of_keeps HN2.out hk3 HNE.out.2.2.2.2
  have HF : Aside (Below w.heap.size w _) := ((HB3.out.setCell (p := ⟨R, 0, none⟩) HNE.out.2.2.2.1 (.int .i64 c)).setCell (p := ⟨R, 1, none⟩) HNE.out.2.2.2.1 (.int .i64 p)).setCell (p := ⟨R, 2, none⟩) HNE.out.2.2.2.1 (.int .i64 i)
  clear hb4 hw3 hk3
  go_wp2_with fail
  refine bodyPost_ret (v := .agg #[.int .i64 c, .int .i64 p, .int .i64 i]) ?_ rfl ⟨rfl, HF.out⟩
  simp [results, Tryz.results45, go_sem, r0, r1, r2]
end Go.Proofs.YtkpmcjfolncmmaaGreatDoor
