/- api.Told, of a fault, walked. -/
import Derived.Test.YtfnekbfcndkjeaaGreatDoorZBya
import Derived.Stop.Asserts
import Derived.RowKitTokens
set_option maxHeartbeats 4000000
set_option maxRecDepth 100000
set_option linter.all false
namespace Go.Proofs.YtfnekbfcndkjeaaGreatDoor
open Go.Proofs.Tryz Go.RowKit Go.Extern.Stop Go.Stop Go.Extern
theorem Tryz.valueOf27 (t:Addr) (w:World):(ReflectliteValue.unpack (.iface 116 (.pointer (some t)))).run prog w
  =.ok (.agg #[.pointer (some ⟨3,116,none⟩),.pointer (some ⟨w.heap.size,0,none⟩),.int .u64 150]) (w.alloc (.cells #[.pointer (some t)] 116)):=by kernel_rfl
theorem Tryz.type27 (a : Addr) (w : World) : (ReflectliteValue.methodAny (ReflectliteValue.valueError "reflectlite.Value.Type" 0) (fun t _ _ _ => ReflectliteType.toType t) #[.agg #[.pointer (some ⟨3, 116, none⟩), .pointer (some a), .int .u64 150]]).run prog w
  =.ok (.iface 182 (.agg #[.pointer (some ⟨3,116,none⟩)])) w:=by kernel_rfl
theorem Tryz.methodKind (n : Nat) (h : Value) (w : World) : (Go.method (n + 8) 182 (.agg #[h]) "Kind").run prog w = .ok (149, h) w := by kernel_rfl
theorem Tryz.kind27 (w:World):((ReflectliteType.abiMethod fun t=>(fun a:Nat=>Value.int IntKind.u8 (a:Int)) <$> Rtype.kind t) #[.pointer (some ⟨3,116,none⟩)]).run prog w=.ok (.int .u8 22) w:=by kernel_rfl
theorem Tryz.kind25 (w:World):((ReflectliteType.abiMethod fun t=>(fun a:Nat=>Value.int IntKind.u8 (a:Int)) <$> Rtype.kind t) #[.pointer (some ⟨3,104,none⟩)]).run prog w=.ok (.int .u8 22) w:=by kernel_rfl
theorem Bx (z:Sem Value) (f:TypeId->Addr->Nat->Nat->Sem Value) (v:Value):
  ReflectliteValue.method z f #[v]=(do match <-ReflectliteValue.parts v with | none=>z | some (t,a,fl)=>f t a fl (fl % 32)):=rfl
theorem Tryz.parts27 (a:Addr) (w:World):(ReflectliteValue.parts (.agg #[.pointer (some ⟨3,116,none⟩),.pointer (some a),.int .u64 150])).run prog w=.ok (some (116,a,150)) w:=by kernel_rfl
theorem Tryz.isNil27 (a p:Addr) (W:World) (ha:W.cell? a=some (.pointer (some p))):
  (ReflectliteValue.method (ReflectliteValue.valueError "reflectlite.Value.IsNil" 0) ReflectliteValue.isNil #[.agg #[.pointer (some ⟨3, 116, none⟩), .pointer (some a), .int .u64 150]]).run prog W = .ok (.bool false) W := by
 rw[Bx]
 simp only[Sem.run_bind,Tryz.parts27,Result.andThen]
 simp[ReflectliteValue.isNil,loadVar,isAgg,underlying,underlying116,ha,Result.andThen]
theorem Tryz.methodElem (n : Nat) (h : Value) (w : World) : (Go.method (n + 8) 182 (.agg #[h]) "Elem").run prog w = .ok (176, .agg #[h]) w := by kernel_rfl
theorem Tryz.methodImplements (n : Nat) (h : Value) (w : World) : (Go.method (n + 8) 182 (.agg #[h]) "Implements").run prog w = .ok (177, .agg #[h]) w := by kernel_rfl
theorem Tryz.methodAssignableTo (n : Nat) (h : Value) (w : World) : (Go.method (n + 8) 182 (.agg #[h]) "AssignableTo").run prog w = .ok (174, .agg #[h]) w := by kernel_rfl
theorem Tryz.elem27 (w:World):(ReflectliteType.method ReflectliteType.elem #[.agg #[.pointer (some ⟨3,116,none⟩)]]).run prog w=.ok (.iface 182 (.agg #[.pointer (some ⟨3,104,none⟩)])) w:=by kernel_rfl
theorem Tryz.implements25 (w : World) : (ReflectliteType.relation "Implements" ReflectliteType.implements_ #[.agg #[.pointer (some ⟨3, 104, none⟩)], .iface 182 (.agg #[.pointer (some ⟨3, 67, none⟩)])]).run prog w = .ok (.bool true) w := by kernel_rfl
theorem Tryz.typeOf25 (v:Value) (w:World):(ReflectliteType.typeOf #[.iface 104 v]).run prog w=.ok (.iface 182 (.agg #[.pointer (some ⟨3,104,none⟩)])) w:=by kernel_rfl
theorem Tryz.assignable25 (w : World) : (ReflectliteType.relation "AssignableTo" ReflectliteType.assignableTo #[.agg #[.pointer (some ⟨3, 104, none⟩)], .iface 182 (.agg #[.pointer (some ⟨3, 104, none⟩)])]).run prog w = .ok (.bool true) w := by kernel_rfl
theorem Tryz.valueOf25 (e:Addr) (w:World):(ReflectliteValue.unpack (.iface 104 (.pointer (some e)))).run prog w
  =.ok (.agg #[.pointer (some ⟨3,104,none⟩),.pointer (some ⟨w.heap.size,0,none⟩),.int .u64 150]) (w.alloc (.cells #[.pointer (some e)] 104)):=by kernel_rfl
theorem Tryz.elemOf27 (w:World):(Rtype.elem? 116).run prog w=.ok (some 104) w:=by kernel_rfl
theorem Tryz.mk25 (p:Addr) (w:World):(ReflectliteValue.mk 104 p ReflectliteValue.flagAddr).run prog w=.ok (.agg #[.pointer (some ⟨3,104,none⟩),.pointer (some p),.int .u64 406]) w:=by kernel_rfl
theorem Tryz.elemV27 (a p:Addr) (W:World) (ha:W.cell? a=some (.pointer (some p))):
  (ReflectliteValue.method (ReflectliteValue.valueError "reflectlite.Value.Elem" 0) ReflectliteValue.elem #[.agg #[.pointer (some ⟨3, 116, none⟩), .pointer (some a), .int .u64 150]]).run prog W
   =.ok (.agg #[.pointer (some ⟨3,104,none⟩),.pointer (some p),.int .u64 406]) W:=by
 rw[Bx]
 simp only[Sem.run_bind,Tryz.parts27,Result.andThen]
 simp[ReflectliteValue.elem,loadVar,isAgg,underlying,underlying116,ha,Result.andThen,Tryz.elemOf27,Tryz.mk25]
theorem Bz (v x:Value):ReflectliteValue.set #[v,x]=(do
  let (some (dst,a,fl),some (src,b,_)):=(<-ReflectliteValue.parts v,<-ReflectliteValue.parts x)
   | unsupported (.noEntry "extern/(internal/reflectlite.Value).Set.zeroValue")
  if fl / ReflectliteValue.flagAddr % 2 == 0 then unsupported (.noEntry "extern/(internal/reflectlite.Value).Set.unaddressable")
  let val <-loadVar src b
  if <-Rtype.directlyAssignable dst src then storeVar dst a val
  else if <-Rtype.implements dst src then
   if (<-Rtype.kind src)==20 then
    match val with
    | .nilIface => unsupported (.noEntry "extern/reflectlite: a nil value of one interface type handed on as a value of another")
    | _=>storeVar dst a val
   else storeVar dst a (.iface src val)
  else panicString ("reflectlite.Set: value of type " ++ (← Rtype.spelt src) ++ " is not assignable to type " ++ (← Rtype.spelt dst))
  pure (.tuple #[])):=rfl
theorem Tryz.parts25a (a:Addr) (w:World):(ReflectliteValue.parts (.agg #[.pointer (some ⟨3,104,none⟩),.pointer (some a),.int .u64 406])).run prog w=.ok (some (104,a,406)) w:=by kernel_rfl
theorem Tryz.parts25 (a:Addr) (w:World):(ReflectliteValue.parts (.agg #[.pointer (some ⟨3,104,none⟩),.pointer (some a),.int .u64 150])).run prog w=.ok (some (104,a,150)) w:=by kernel_rfl
theorem Tryz.direct25 (w:World):(Rtype.directlyAssignable 104 104).run prog w=.ok true w:=by kernel_rfl
theorem Tryz.set25 (ta b e:Addr) (old:Value) (W:World) (hb:W.cell? b=some (.pointer (some e))) (ht:W.cell? ta=some old) (hf:W.frozen? ta=false):
  (ReflectliteValue.set #[.agg #[.pointer (some ⟨3,104,none⟩),.pointer (some ta),.int .u64 406],.agg #[.pointer (some ⟨3,104,none⟩),.pointer (some b),.int .u64 150]]).run prog W
   =.ok (.tuple #[]) (W.setCell ta (.pointer (some e))):=by
 rw[Bz]
 simp only[Sem.run_bind,Tryz.parts25a,Tryz.parts25,Result.andThen]
 simp[ReflectliteValue.flagAddr,loadVar,isAgg,underlying,underlying104,hb,Result.andThen,Tryz.direct25,storeVar,Value.cells,storeCells,Addr.add]
 rw[run_store prog W ta _ _ (by rfl)]
 simp[ht,hf]
theorem AB (e t:Addr) (old:Value) (w:World) (hg:w.cell? ⟨0,0,none⟩=some (.iface 182 (.agg #[.pointer (some ⟨3,67,none⟩)]))) (ht0:w.cell? t=some old) (hf0:w.frozen? t=false):
  Calls prog 62 #[.iface 104 (.pointer (some e)),.iface 116 (.pointer (some t))] w fun ev w'=>ev=.returned (.bool true)/\w'=((((w.alloc (.cells #[.pointer (some t)] 116)).alloc (.cells #[.pointer (some ⟨3,116,none⟩),.pointer (some ⟨w.heap.size,0,none⟩),.int .u64 150] 153)).alloc (.cells #[.pointer (some ⟨3,116,none⟩),.pointer (some ⟨w.heap.size,0,none⟩),.int .u64 150] 153)).alloc (.cells #[.pointer (some e)] 104)).setCell t (.pointer (some e)):=by
 have h6:=@run_callFunc_extern prog 96 _ (fun args=>ReflectliteValue.unpack (args.getD 0 (.tuple #[]))) func96 (by kernel_rfl) (by kernel_rfl) (by kernel_rfl) (by kernel_rfl)
 have h7 := @run_callFunc_extern prog 97 _ (ReflectliteValue.methodAny (ReflectliteValue.valueError "reflectlite.Value.Type" 0) (fun t _ _ _ => ReflectliteType.toType t)) func97 (by kernel_rfl) (by kernel_rfl) (by kernel_rfl) (by kernel_rfl)
 have h8 := @run_callFunc_extern prog 98 _ (ReflectliteValue.method (ReflectliteValue.valueError "reflectlite.Value.IsNil" 0) ReflectliteValue.isNil) func98 (by kernel_rfl) (by kernel_rfl) (by kernel_rfl) (by kernel_rfl)
 have h27:=@run_callFunc_extern prog 149 _ (ReflectliteType.abiMethod fun t=>do pure (.int .u8 (<-Rtype.kind t))) func149 (by kernel_rfl) (by kernel_rfl) (by kernel_rfl) (by kernel_rfl)
 have h37:=@run_callFunc_extern prog 176 _ (ReflectliteType.method ReflectliteType.elem) func176 (by kernel_rfl) (by kernel_rfl) (by kernel_rfl) (by kernel_rfl)
 have h38 := @run_callFunc_extern prog 177 _ (ReflectliteType.relation "Implements" ReflectliteType.implements_) func177 (by kernel_rfl) (by kernel_rfl) (by kernel_rfl) (by kernel_rfl)
 have h10:=@run_callFunc_extern prog 117 _ ReflectliteType.typeOf func117 (by kernel_rfl) (by kernel_rfl) (by kernel_rfl) (by kernel_rfl)
 have h35 := @run_callFunc_extern prog 174 _ (ReflectliteType.relation "AssignableTo" ReflectliteType.assignableTo) func174 (by kernel_rfl) (by kernel_rfl) (by kernel_rfl) (by kernel_rfl)
 have h11 := @run_callFunc_extern prog 118 _ (ReflectliteValue.method (ReflectliteValue.valueError "reflectlite.Value.Elem" 0) ReflectliteValue.elem) func118 (by kernel_rfl) (by kernel_rfl) (by kernel_rfl) (by kernel_rfl)
 have h12:=@run_callFunc_extern prog 119 _ ReflectliteValue.set func119 (by kernel_rfl) (by kernel_rfl) (by kernel_rfl) (by kernel_rfl)
 have tO:=Tryz.typeOf25
 have mA:=Tryz.methodAssignableTo
 have a25:=Tryz.assignable25
 have v25:=Tryz.valueOf25
 have f6:=Tryz.valueOf27
 have f7:=Tryz.type27
 have mK:=Tryz.methodKind
 have mE:=Tryz.methodElem
 have mI:=Tryz.methodImplements
 have k27:=Tryz.kind27
 have k25:=Tryz.kind25
 have e27:=Tryz.elem27
 have i25:=Tryz.implements25
 have n8:=Tryz.isNil27 ⟨w.heap.size,0,none⟩ t ((w.alloc (.cells #[.pointer (some t)] 116)).alloc (.cells #[.pointer (some ⟨3,116,none⟩),.pointer (some ⟨w.heap.size,0,none⟩),.int .u64 150] 153)) (by simp)
 have hlt:0<w.heap.size:=aC hg
 have hg2:((w.alloc (.cells #[.pointer (some t)] 116)).alloc (.cells #[.pointer (some ⟨3,116,none⟩),.pointer (some ⟨w.heap.size,0,none⟩),.int .u64 150] 153)).cell? ⟨0,0,none⟩=some (.iface 182 (.agg #[.pointer (some ⟨3,67,none⟩)])):=by
  rw[World.cell?_alloc_lt _ _ ⟨0,0,none⟩ (by simp <;> omega),World.cell?_alloc_lt _ _ ⟨0,0,none⟩ hlt];exact hg
 have htl:t.block<w.heap.size:=aC ht0
 have el:=Tryz.elemV27 ⟨w.heap.size,0,none⟩ t (((w.alloc (.cells #[.pointer (some t)] 116)).alloc (.cells #[.pointer (some ⟨3,116,none⟩),.pointer (some ⟨w.heap.size,0,none⟩),.int .u64 150] 153)).alloc (.cells #[.pointer (some ⟨3,116,none⟩),.pointer (some ⟨w.heap.size,0,none⟩),.int .u64 150] 153)) (by rw[World.cell?_alloc_lt _ _ ⟨w.heap.size,0,none⟩ (by simp;omega)];simp)
 have st:=Tryz.set25 t ⟨w.heap.size + 1 + 1 + 1,0,none⟩ e old ((((w.alloc (.cells #[.pointer (some t)] 116)).alloc (.cells #[.pointer (some ⟨3,116,none⟩),.pointer (some ⟨w.heap.size,0,none⟩),.int .u64 150] 153)).alloc (.cells #[.pointer (some ⟨3,116,none⟩),.pointer (some ⟨w.heap.size,0,none⟩),.int .u64 150] 153)).alloc (.cells #[.pointer (some e)] 104))
  (by rw[World.cell?_alloc_at _ _ _ _ (by simp)];rfl)
  (by rw[World.cell?_alloc_lt _ _ t (by simp;omega),World.cell?_alloc_lt _ _ t (by simp;omega),World.cell?_alloc_lt _ _ t (by simp;omega),World.cell?_alloc_lt _ _ t htl];exact ht0)
  (by rw[World.frozen?_alloc_old _ _ t (by simp;omega),World.frozen?_alloc_old _ _ t (by simp;omega),World.frozen?_alloc_old _ _ t (by simp;omega),World.frozen?_alloc_old _ _ t (Nat.ne_of_lt htl)];exact hf0)
 go_enter func62,ntmps62
 go_wp2
 refine wp_loop_rounds 1 ?_
 rw[rounds_succ]
 go_wp2
 go_ret
 exact⟨rfl,rfl⟩
open Go.RowKit
def ew (w:World):Prop:=w.cell? ⟨0,0,none⟩=some (.iface 182 (.agg #[.pointer (some ⟨3,67,none⟩)]))
theorem ew.on {w w':World} (h:ew w) (hb:Below w.heap.size w w'):ew w':=(hb.cell (aC h)).trans h
theorem ew.keeps {K:Nat->Prop} {w w':World} (h:ew w) (hk:am K w w') (hK:K 0):ew w':=aJ h hk hK
theorem ss (e:Nat) (c p i:Int) (w:World) (hg:ew w) (h0:w.cell? ⟨e,0,none⟩=some (.int .i64 c)) (h1:w.cell? ⟨e,1,none⟩=some (.int .i64 p)) (h2:w.cell? ⟨e,2,none⟩=some (.int .i64 i)):
  Calls prog 35 #[.iface 104 (.pointer (some ⟨e,0,none⟩))] w fun ev w'=>ev=.returned (.agg #[.int .i64 c,.int .i64 p,.int .i64 i])/\Below w.heap.size w w':=by
 obtain⟨R,hR⟩:∃x,x=w.heap.size:=⟨_,rfl⟩
 obtain⟨T,hT⟩:∃x,x=w.heap.size + 1:=⟨_,rfl⟩
 obtain⟨w2,hw2⟩:∃z,z=(w.alloc (.cells #[.int .i64 0,.int .i64 0,.int .i64 0] 85)).alloc (.cells #[.pointer none] 104):=⟨_,rfl⟩
 have hn:=af (w.alloc (.cells #[.int .i64 0,.int .i64 0,.int .i64 0] 85)) (.cells #[.pointer none] 104)
 have hs:(w.alloc (.cells #[.int .i64 0,.int .i64 0,.int .i64 0] 85)).heap.size=w.heap.size + 1:=by simp
 have HN2:aa (Below w.heap.size w w2):=by rw[hw2];exact aD (af _ _) (af _ _)
 have HR:aa (w2.heap[R]?=some (.cells #[.int .i64 0,.int .i64 0,.int .i64 0] 85 (0,0))):=by rw[hw2,hR];exact au (ax _ _) hn
 have HTC:aa (w2.cell? ⟨T,0,none⟩=some (.pointer none)/\w2.frozen? ⟨T,0,none⟩=false):=by
  have c:=aO (w.alloc (.cells #[.int .i64 0,.int .i64 0,.int .i64 0] 85)) #[.pointer none] 104 0
  have f:=eT (w.alloc (.cells #[.int .i64 0,.int .i64 0,.int .i64 0] 85)) #[.pointer none] 104 0
  rw[hs] at c f
  rw[hw2,hT]
  exact⟨c,f⟩
 have HG:=ac (hg.on HN2.out)
 have hel:e<w.heap.size:=aC h0
 have HNE:aa (R≠T/\e≠T/\e≠R/\w.heap.size<=R/\w.heap.size<=T):=by refine⟨by omega,by omega,by omega,by omega,by omega⟩
 have H0:aa (w2.cell? ⟨e,0,none⟩=some (.int .i64 c)):=(HN2.out.cell (p:=⟨e,0,none⟩) hel).trans h0
 have H1:aa (w2.cell? ⟨e,1,none⟩=some (.int .i64 p)):=(HN2.out.cell (p:=⟨e,1,none⟩) hel).trans h1
 have H2:aa (w2.cell? ⟨e,2,none⟩=some (.int .i64 i)):=(HN2.out.cell (p:=⟨e,2,none⟩) hel).trans h2
 clear hg h0 h1 h2 hn hs hel
 go_enter func35,ntmps35
 go_wp2_with fail
 rw[<-hw2,<-hT,<-hR]
 clear hw2 hT hR
 refine (AB ⟨e,0,none⟩ ⟨T,0,none⟩ (.pointer none) w2 HG.out HTC.out.1 HTC.out.2).mono ?_
 rintro ev w3 ⟨rfl,hw3⟩
 have hb3:∃w4,Below w2.heap.size w2 w4/\w3=w4.setCell ⟨T,0,none⟩ (.pointer (some ⟨e,0,none⟩)):=
  ⟨_,aD (aD (aD (af _ _) (af _ _)) (af _ _)) (af _ _),hw3⟩
 clear hw3
 obtain⟨w4,hb4,hw3⟩:=hb3
 have hk3:am (·≠T) w2 w3:=by rw[hw3];exact (ak hb4 _).setCell (p:=⟨T,0,none⟩) (.inr (fun h=>h rfl)) _
 have cT:w3.cell? ⟨T,0,none⟩=some (.pointer (some ⟨e,0,none⟩)):=by rw[hw3];exact World.cell?_setCell_same _ _ _ ((hb4.cell (aC HTC.out.1)).trans HTC.out.1)
 have c0:=aJ H0.out hk3 HNE.out.2.1
 have c1:=aJ H1.out hk3 HNE.out.2.1
 have c2:=aJ H2.out hk3 HNE.out.2.1
 have HR3:=ac (aw HR.out hk3 HNE.out.1)
 have r0:w3.cell? ⟨R,0,none⟩=some (.int .i64 0):=aq HR3.out 0
 have r1:w3.cell? ⟨R,1,none⟩=some (.int .i64 0):=aq HR3.out 1
 have r2:w3.cell? ⟨R,2,none⟩=some (.int .i64 0):=aq HR3.out 2
 have q0:=aL HR3.out 0
 have q1:=aL HR3.out 1
 have q2:=aL HR3.out 2
 have HB3:aa (Below w.heap.size w w3):=bZ HN2.out hk3 HNE.out.2.2.2.2
 have HF:aa (Below w.heap.size w _):=((HB3.out.setCell (p:=⟨R,0,none⟩) HNE.out.2.2.2.1 (.int .i64 c)).setCell (p:=⟨R,1,none⟩) HNE.out.2.2.2.1 (.int .i64 p)).setCell (p:=⟨R,2,none⟩) HNE.out.2.2.2.1 (.int .i64 i)
 clear hb4 hw3 hk3
 go_wp2_with fail
 refine bodyPost_ret (v:=.agg #[.int .i64 c,.int .i64 p,.int .i64 i]) ?_ rfl ⟨rfl,HF.out⟩
 simp[results,Tryz.results35,go_sem,r0,r1,r2]
