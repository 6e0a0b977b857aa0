/- The document's May, walked: of a record whose kind is one. Printed by wip/gen/refm3.py. -/
import Derived.Test.YtfnekbfcndkjeaaGreatDoorZPar1
import Derived.Deep.WholeRow
set_option maxHeartbeats 40000000
set_option maxRecDepth 100000
set_option linter.all false
namespace Go.Proofs.YtfnekbfcndkjeaaGreatDoor
open Go.Proofs.Tryz Go.RowKit
theorem dI {P:Program} (w:World) (t:TypeId) (c c':Array Value) (hi:(P.info? t).map (·.size)=some c'.size) (ho:c.size=c'.size) (h1:c'.all (·.oneCell')=true):
  (Instr.storeAt t (.pointer (some ⟨w.heap.size,0,none⟩)) (.agg c')).run P (w.alloc (.cells c t))=.ok () (w.alloc (.cells c' t)):=by
 simp only[Instr.storeAt,Instr.sureAddr,Sem.run_bind,Sem.run_pure,Result.andThen]
 exact run_storeVar_new w t c c' hi ho h1
theorem jG (k:Int) (w:World):(Instr.build 49 #[(0,.int .i64 k)]).run prog w=.ok (.agg (ae {kind:=k})) w:=by kernel_rfl
theorem kv.other {w:World} {b L:Nat} {t:ByteArray} {st:Option Nat} (h:kv w b t st) (hne:L≠b) (j:Nat) (v:Value):kv (w.setCell ⟨L,j,none⟩ v) b t st:=
 h.keeps ((am.refl (·≠L) _).setCell (p:=⟨L,j,none⟩) (.inr (fun h=>h rfl)) _) (Ne.symm hne)
theorem kv.row {w:World} {b L:Nat} {t:ByteArray} {st:Option Nat} (h:kv w b t st) (hne:L≠b) (cs:Array Value):kv (w.setRow L cs) b t st:=
 h.keeps (aI (K:=(·≠L)) w L cs (fun h=>h rfl)) (Ne.symm hne)
theorem kv.on {w w':World} {b:Nat} {t:ByteArray} {st:Option Nat} (h:kv w b t st) (hb:Below w.heap.size w w'):kv w' b t st:=
 h.keeps (ak hb (fun _=>True)) trivial
def dR (d:RecD):RecD:=
 if d.kind=1 then {kind:=1,carriers:=d.carriers,commit:=d.commit,reveal:=d.reveal,scheme:=d.scheme,lots:=d.lots,owners:=d.owners}
 else if d.kind=2 then {kind:=2,round:=d.round,lot:=d.lot,tick:=d.tick,barred:=d.barred}
 else if d.kind=3 then {kind:=3,round:=d.round,carrier:=d.carrier,dig:=d.dig,tick:=d.tick}
 else if d.kind=4 then {kind:=4,round:=d.round,carrier:=d.carrier,bid:=d.bid,nonce:=d.nonce,tick:=d.tick}
 else if d.kind=5 then {kind:=5,round:=d.round,state:=d.state,winner:=d.winner,price:=d.price,tick:=d.tick}
 else {kind:=6,tick:=d.tick}
theorem Be {d:RecD} (h:d.kind=1):dR d={kind:=1,carriers:=d.carriers,commit:=d.commit,reveal:=d.reveal,scheme:=d.scheme,lots:=d.lots,owners:=d.owners}:=by rw[dR,if_pos h]
theorem Bf {d:RecD} (h:d.kind=2):dR d={kind:=2,round:=d.round,lot:=d.lot,tick:=d.tick,barred:=d.barred}:=by rw[dR,if_neg (by omega),if_pos h]
theorem Bg {d:RecD} (h:d.kind=3):dR d={kind:=3,round:=d.round,carrier:=d.carrier,dig:=d.dig,tick:=d.tick}:=by rw[dR,if_neg (by omega),if_neg (by omega),if_pos h]
theorem Bh {d:RecD} (h:d.kind=4):dR d={kind:=4,round:=d.round,carrier:=d.carrier,bid:=d.bid,nonce:=d.nonce,tick:=d.tick}:=by rw[dR,if_neg (by omega),if_neg (by omega),if_neg (by omega),if_pos h]
theorem Bi {d:RecD} (h:d.kind=5):dR d={kind:=5,round:=d.round,state:=d.state,winner:=d.winner,price:=d.price,tick:=d.tick}:=by rw[dR,if_neg (by omega),if_neg (by omega),if_neg (by omega),if_neg (by omega),if_pos h]
theorem Bj {d:RecD} (h:d.kind=6):dR d={kind:=6,tick:=d.tick}:=by rw[dR,if_neg (by omega),if_neg (by omega),if_neg (by omega),if_neg (by omega),if_neg (by omega)]
theorem ah.putDig (f:Nat->Int):∀(n k:Nat) (w:World) (L:Nat) (r:RecV),k + n=32->ah w L r->ah (w.setCells L (6 + k) ((List.range' k n).map fun j=>Value.int .u8 (f j))) L {r with dig:=fun j=>if k<=j then f j else r.dig j}
 | 0,k,w,L,r,hk,h=>by
  have e:ae {r with dig:=fun j=>if k<=j then f j else r.dig j}=ae r:=by
   have:k=32:=by omega
   subst this
   rfl
  show w.heap[L]?=_
  rw[e]
  exact h
 | n + 1,k,w,L,r,hk,h=>by
  rw[List.range'_succ,List.map_cons,World.setCells]
  have h1:=h.setDig k (by omega) (f k)
  have h2:=ah.putDig f n (k + 1) _ L _ (by omega) h1
  have e:∀j,(if k + 1<=j then f j else z6 r.dig k (f k) j)=if k<=j then f j else r.dig j:=by
   intro j
   unfold z6
   by_cases a:k + 1<=j
   ·rw[if_pos a,if_pos (by omega)]
   ·rw[if_neg a]
    by_cases b:j=k
    ·rw[if_pos b,if_pos (by omega),b]
    ·rw[if_neg b,if_neg (by omega)]
  simp only[e] at h2
  exact h2
theorem gG {L:Nat} {w:World}:∀(vs:List Value) (o:Nat) (u:World),am (·≠L) w u->am (·≠L) w (u.setCells L o vs)
 | [],_,_,hu=>hu
 | v :: vs,o,u,hu=>gG vs _ _ (hu.setCell (p:=⟨L,o,none⟩) (.inr (fun e=>e rfl)) v)
theorem tc {w:World} {L:Nat} {r:RecV} (h:ah w L r) (f:Nat->Int):∃wz,(Instr.storeAt 43 (.pointer (some ⟨L,6,none⟩)) (.agg ((List.range 32).map fun j=>Value.int .u8 (f j)).toArray)).run prog w=.ok () wz/\ah wz L {r with dig:=f}/\am (·≠L) w wz:=by
 refine⟨w.setCells L 6 ((List.range 32).map fun j=>Value.int .u8 (f j)),?_,?_,gG _ _ _ (am.refl _ _)⟩
 ·have:=run_storeAt_mid (P:=prog) w L 6 43 ((List.range 32).map fun j=>Value.int .u8 (f j)).toArray (by simpa using h.there) (by rw[List.size_toArray,List.length_map,List.length_range];kernel_rfl) (by simp[show ∀k n,(Value.int k n).oneCell'=true from fun _ _=>rfl])
  simpa using this
 ·have:=ah.putDig f 32 0 w L r rfl h
  rw[<-List.range_eq_range'] at this
  simpa using this
theorem ah.outRange {w:World} {L:Nat} {r:RecV} (h:ah w L r):w.rangeAt L 40 [.int .i64 r.state,.int .i64 r.winner,.int .u64 r.price]:=by
 intro j v hv
 match j,hv with
 | 0,hv=>rw[h.state];exact hv
 | 1,hv=>rw[h.winner];exact hv
 | 2,hv=>rw[h.price];exact hv
 | _ + 3,hv=>simp at hv
theorem vl {w:World} {L:Nat} {r:RecV} (h:ah w L r) (s x p:Int):∃wz,(Instr.storeAt 46 (.pointer (some ⟨L,40,none⟩)) (.agg #[.int .i64 s,.int .i64 x,.int .u64 p])).run prog w=.ok () wz/\ah wz L {r with state:=s,winner:=x,price:=p}/\am (·≠L) w wz:=by
 refine⟨w.setCells L 40 [.int .i64 s,.int .i64 x,.int .u64 p],?_,((h.setState s).setWinner x).setPrice p,gG _ _ _ (am.refl _ _)⟩
 have ht:w.there L 40 3:=fun j hj=>by
  match j,hj with
  | 0,_=>exact⟨by rw[h.state];rfl,h.free _⟩
  | 1,_=>exact⟨by rw[h.winner];rfl,h.free _⟩
  | 2,_=>exact⟨by rw[h.price];rfl,h.free _⟩
  | _ + 3,h=>omega
 exact run_storeAt_mid (P:=prog) w L 40 46 #[.int .i64 s,.int .i64 x,.int .u64 p] ht (by kernel_rfl) (by simp[Value.oneCell'])
theorem bK {P:Program} (w:World) (b o:Nat) (ty:TypeId) (v:Value) (hs:(w.cell? ⟨b,o,none⟩).isSome=true) (hf:w.frozen? ⟨b,o,none⟩=false) (hi:(P.info? ty).map (·.size)=some 1) (h1:v.oneCell'=true):
  (Instr.storeAt ty (.pointer (some ⟨b,o,none⟩)) v).run P w=.ok () (w.setCell ⟨b,o,none⟩ v):=by
 have:=run_storeCells_cells (P:=P) b o [v] 0 w (fun j hj=>by simp at hj;subst hj;simpa using hs) (fun j hj=>by simp at hj;subst hj;simpa using hf) (fun x hx=>by simp at hx;subst hx;exact h1)
 have hc:v.cells=#[v]:=by cases v <;> first | rfl | cases h1
 have hv:(storeVar ty ⟨b,o,none⟩ v).run P w=.ok () (w.setCell ⟨b,o,none⟩ v):=by
  cases hq:P.info? ty with
  | none=>simp[hq] at hi
  | some i=>
   have hz:i.size=1:=by simpa [hq] using hi
   simp only[Nat.add_zero,World.setCells] at this
   simp[storeVar,sizeOf,typeInfo,hq,hc,hz,this]
 simp only[Instr.storeAt,Instr.sureAddr,Sem.run_bind,Sem.run_pure,Result.andThen_ok,hv]
theorem aY {P:Program} {ops:Array Oper} {o:Oper} {a:Act} {K:Act->World->Prop} {Q:Exit->Act->World->Prop} {E':Prop} {w w1:World} (hgd:o.guard=none) (ty:TypeId) (x y:Operand) (ho:o.op=.store ty x y)
  (p v:Value) (hx:a.eval x=p) (hy:a.eval y=v) (hr:(Instr.storeAt ty p v).run P w=.ok () w1) (h:K (a.put o.dst undef) w1):
  if Region.wanted o (yielded ops a.tmps)=true then Oper.wp P o a w K Q else E':=by
 have hw:Region.wanted o (yielded ops a.tmps)=true:=by simp[Region.wanted,hgd]
 rw[if_pos hw]
 unfold Oper.wp execOp
 simp only[ho,hx,hy,Sem.run_bind,hr,Result.andThen_ok,Sem.run_pure]
 exact h
def eW (d:RecD) (w:World) (e:Ending) (w':World):Prop:=
 ∃rv,e=.returned (.agg (ae rv))/\bu w' rv (dR d)/\Below w.heap.size w w'
theorem xV (rv:RecV) (d:RecD) (hk:1<=d.kind/\d.kind<=6) (w:World) (h:bu w rv d):
  Calls prog 85 #[.agg (ae rv)] w (eW d w):=by
 obtain⟨b,l,o,rfl,hb,hl,hw⟩:=h
 have HRB:=ac hb
 have HRL:=ac hl
 have HRW:=ac hw
 obtain⟨ab,cb,rfl,_,_⟩:=hb
 obtain⟨al,cl,rfl,_,_⟩:=hl
 obtain⟨ao,co,rfl,_,_⟩:=hw
 obtain⟨kd,hkd⟩:=nm (d.kind)
 have HKD:=ac hkd
 have HKK:=ac hk
 clear hkd hk
 go_enter func85,ntmps85
 go_upto_region 1 with fail
 rw[zR]
 obtain⟨wb,hwb⟩:=nm (w.alloc (.cells (ae (d.toV (.slice ab d.barred.length cb) (.slice al d.lots.length cl) (.slice ao d.owners.length co))) 49))
 obtain⟨wa,hwa⟩:∃z,z=wb.alloc (.cells (ae {}) 49):=⟨_,rfl⟩
 have HSB:aa (wb.heap.size=w.heap.size + 1):=by rw[hwb];simp[aa]
 have HSA:aa (wa.heap.size=w.heap.size + 1 + 1):=by rw[hwa];simp[aa,HSB.out]
 have HNa:aa (Below w.heap.size w wa):=by rw[hwa,hwb];exact aD (af _ _) (af _ _)
 have HXa:aa (ah wa w.heap.size (d.toV (.slice ab d.barred.length cb) (.slice al d.lots.length cl) (.slice ao d.owners.length co))):=by rw[hwa,hwb];exact (ah.box w _).new (af _ _)
 have HBa:aa (ah wa (w.heap.size + 1) {}):=by rw[hwa,<-HSB.out];exact ah.box wb {}
 obtain⟨R,hR⟩:=nm (w.heap.size + 1)
 obtain⟨X,hX⟩:=nm (w.heap.size)
 rw[<-hwb,<-hwa,<-hR,<-hX]
 rw[<-hR] at HBa
 rw[<-hX] at HXa
 have HRE:=ac hR
 have HXE:=ac hX
 clear hwb hwa hR hX
 obtain⟨w0,hw0⟩:∃z,z=wa.alloc (.cells (ae {kind:=kd}) 49):=⟨_,rfl⟩
 have HST:aa ((Instr.storeAt 49 (.pointer (some ⟨wa.heap.size,0,none⟩)) (.agg (ae {kind:=kd}))).run prog (wa.alloc (.cells (ae {}) 49))=.ok () w0):=by
  rw[aa,hw0]
  exact dI wa 49 (ae {}) _ (by rw[aj];kernel_rfl) rfl (aM _ rfl rfl rfl)
 have HW0:=ac hw0
 clear hw0
 have c0:wa.cell? ⟨X,0,none⟩=some (.int .i64 kd):=by rw[HKD.out];exact HXa.out.kind
 go_upto_region 2 with (first
  | (refine aQ rfl 49 _ rfl [(0,.int .i64 kd)] rfl _ (jG _ _) ?_)
  | (refine bR rfl 49 _ _ rfl _ _ rfl rfl HST.out ?_)
  | fail)
 clear c0
 have hw0:=HW0.out
 have hR:=HRE.out
 have hX:=HXE.out
 obtain⟨L,hL⟩:=nm (wa.heap.size)
 have HN0:aa (Below w.heap.size w w0):=by rw[hw0];exact aD HNa.out (af _ _)
 have HR0:aa (ah w0 L {kind:=kd}):=by rw[hw0,hL];exact ah.box _ _
 have HB0:aa (ah w0 R {}):=by rw[hw0];exact HBa.out.new (af _ _)
 have HX0:aa (ah w0 X (d.toV (.slice ab d.barred.length cb) (.slice al d.lots.length cl) (.slice ao d.owners.length co))):=by rw[hw0];exact HXa.out.new (af _ _)
 have hsa:=HSA.out
 have hXL:X≠L:=by omega
 have hRL:R≠L:=by omega
 have hLw:w.heap.size<=L:=by omega
 have hRw:w.heap.size<=R:=by omega
 rw[<-hL]
 clear hw0 hR hX HRE HXE hL hsa HSA HSB HNa HBa HXa HST HW0
 have h6:kd=1\/kd=2\/kd=3\/kd=4\/kd=5\/kd=6:=by have:=HKK.out;have:=HKD.out;omega
 rcases h6 with rfl | rfl | rfl | rfl | rfl | rfl
 ·skip
  have c0:w0.cell? ⟨X,0,none⟩=some (.int .i64 1):=by rw[HKD.out];exact HX0.out.kind
  go_upto_region 4 with fail
  clear c0
  have hx0:ah w0.drew X (d.toV (.slice ab d.barred.length cb) (.slice al d.lots.length cl) (.slice ao d.owners.length co)):=HX0.out.drew
  have hr0:ah w0.drew L {kind:=1}:=HR0.out.drew
  have hn0:Below w.heap.size w w0.drew:=HN0.out.trans ((aA w0).mono HN0.out.size)
  have hb0:ah w0.drew R {}:=HB0.out.drew
  obtain⟨w1,hw1⟩:∃z,z=(w0.drew).setCell ⟨L,43,none⟩ (.int .i64 d.carriers):=⟨_,rfl⟩
  have HST1:aa ((Instr.storeAt 3 (.pointer (some ⟨L,43,none⟩)) (.int .i64 d.carriers)).run prog w0.drew=.ok () w1):=by
   rw[hw1];exact bK w0.drew L 43 3 (.int .i64 d.carriers) (by rw[hr0.carriers];rfl) (hr0.free _) (by kernel_rfl) rfl
  have hx1:ah w1 X (d.toV (.slice ab d.barred.length cb) (.slice al d.lots.length cl) (.slice ao d.owners.length co)):=by rw[hw1];exact hx0.other hXL _
  have hr1:ah w1 L {kind:=1,carriers:=d.carriers}:=by rw[hw1];exact hr0.setCarriers d.carriers
  have hn1:Below w.heap.size w w1:=by rw[hw1];exact hn0.setCell (p:=⟨L,43,none⟩) hLw _
  have hb1:ah w1 R {}:=by rw[hw1];exact hb0.other hRL _
  have HX1:=ac hx1
  obtain⟨w2,hw2⟩:∃z,z=w1.setCell ⟨L,44,none⟩ (.int .i64 d.commit):=⟨_,rfl⟩
  have HST2:aa ((Instr.storeAt 3 (.pointer (some ⟨L,44,none⟩)) (.int .i64 d.commit)).run prog w1=.ok () w2):=by
   rw[hw2];exact bK w1 L 44 3 (.int .i64 d.commit) (by rw[hr1.commit];rfl) (hr1.free _) (by kernel_rfl) rfl
  have hx2:ah w2 X (d.toV (.slice ab d.barred.length cb) (.slice al d.lots.length cl) (.slice ao d.owners.length co)):=by rw[hw2];exact hx1.other hXL _
  have hr2:ah w2 L {kind:=1,carriers:=d.carriers,commit:=d.commit}:=by rw[hw2];exact hr1.setCommit d.commit
  have hn2:Below w.heap.size w w2:=by rw[hw2];exact hn1.setCell (p:=⟨L,44,none⟩) hLw _
  have hb2:ah w2 R {}:=by rw[hw2];exact hb1.other hRL _
  have HX2:=ac hx2
  obtain⟨w3,hw3⟩:∃z,z=w2.setCell ⟨L,45,none⟩ (.int .i64 d.reveal):=⟨_,rfl⟩
  have HST3:aa ((Instr.storeAt 3 (.pointer (some ⟨L,45,none⟩)) (.int .i64 d.reveal)).run prog w2=.ok () w3):=by
   rw[hw3];exact bK w2 L 45 3 (.int .i64 d.reveal) (by rw[hr2.reveal];rfl) (hr2.free _) (by kernel_rfl) rfl
  have hx3:ah w3 X (d.toV (.slice ab d.barred.length cb) (.slice al d.lots.length cl) (.slice ao d.owners.length co)):=by rw[hw3];exact hx2.other hXL _
  have hr3:ah w3 L {kind:=1,carriers:=d.carriers,commit:=d.commit,reveal:=d.reveal}:=by rw[hw3];exact hr2.setReveal d.reveal
  have hn3:Below w.heap.size w w3:=by rw[hw3];exact hn2.setCell (p:=⟨L,45,none⟩) hLw _
  have hb3:ah w3 R {}:=by rw[hw3];exact hb2.other hRL _
  have HX3:=ac hx3
  obtain⟨w4,hw4⟩:∃z,z=w3.setCell ⟨L,46,none⟩ (.int .i64 d.scheme):=⟨_,rfl⟩
  have HST4:aa ((Instr.storeAt 3 (.pointer (some ⟨L,46,none⟩)) (.int .i64 d.scheme)).run prog w3=.ok () w4):=by
   rw[hw4];exact bK w3 L 46 3 (.int .i64 d.scheme) (by rw[hr3.scheme];rfl) (hr3.free _) (by kernel_rfl) rfl
  have hx4:ah w4 X (d.toV (.slice ab d.barred.length cb) (.slice al d.lots.length cl) (.slice ao d.owners.length co)):=by rw[hw4];exact hx3.other hXL _
  have hr4:ah w4 L {kind:=1,carriers:=d.carriers,commit:=d.commit,reveal:=d.reveal,scheme:=d.scheme}:=by rw[hw4];exact hr3.setScheme d.scheme
  have hn4:Below w.heap.size w w4:=by rw[hw4];exact hn3.setCell (p:=⟨L,46,none⟩) hLw _
  have hb4:ah w4 R {}:=by rw[hw4];exact hb3.other hRL _
  have HX4:=ac hx4
  obtain⟨w5,hw5⟩:∃z,z=w4.setCell ⟨L,47,none⟩ (.slice al d.lots.length cl):=⟨_,rfl⟩
  have HST5:aa ((Instr.storeAt 47 (.pointer (some ⟨L,47,none⟩)) (.slice al d.lots.length cl)).run prog w4=.ok () w5):=by
   rw[hw5];exact bK w4 L 47 47 (.slice al d.lots.length cl) (by rw[hr4.lots];rfl) (hr4.free _) (by kernel_rfl) rfl
  have hx5:ah w5 X (d.toV (.slice ab d.barred.length cb) (.slice al d.lots.length cl) (.slice ao d.owners.length co)):=by rw[hw5];exact hx4.other hXL _
  have hr5:ah w5 L {kind:=1,carriers:=d.carriers,commit:=d.commit,reveal:=d.reveal,scheme:=d.scheme,lots:=(.slice al d.lots.length cl)}:=by rw[hw5];exact hr4.setLots (.slice al d.lots.length cl)
  have hn5:Below w.heap.size w w5:=by rw[hw5];exact hn4.setCell (p:=⟨L,47,none⟩) hLw _
  have hb5:ah w5 R {}:=by rw[hw5];exact hb4.other hRL _
  have HX5:=ac hx5
  obtain⟨w6,hw6⟩:∃z,z=w5.setCell ⟨L,48,none⟩ (.slice ao d.owners.length co):=⟨_,rfl⟩
  have HST6:aa ((Instr.storeAt 41 (.pointer (some ⟨L,48,none⟩)) (.slice ao d.owners.length co)).run prog w5=.ok () w6):=by
   rw[hw6];exact bK w5 L 48 41 (.slice ao d.owners.length co) (by rw[hr5.owners];rfl) (hr5.free _) (by kernel_rfl) rfl
  have hx6:ah w6 X (d.toV (.slice ab d.barred.length cb) (.slice al d.lots.length cl) (.slice ao d.owners.length co)):=by rw[hw6];exact hx5.other hXL _
  have hr6:ah w6 L {kind:=1,carriers:=d.carriers,commit:=d.commit,reveal:=d.reveal,scheme:=d.scheme,lots:=(.slice al d.lots.length cl),owners:=(.slice ao d.owners.length co)}:=by rw[hw6];exact hr5.setOwners (.slice ao d.owners.length co)
  have hn6:Below w.heap.size w w6:=by rw[hw6];exact hn5.setCell (p:=⟨L,48,none⟩) hLw _
  have hb6:ah w6 R {}:=by rw[hw6];exact hb5.other hRL _
  have HX6:=ac hx6
  have HZR:=ac hr6
  have HZN:=ac hn6
  have HZB:=ac hb6
  have HXD:=ac hx0
  clear hx0 hr0 hn0 hb0 hx1 hr1 hn1 hb1 hw1 hx2 hr2 hn2 hb2 hw2 hx3 hr3 hn3 hb3 hw3 hx4 hr4 hn4 hb4 hw4 hx5 hr5 hn5 hb5 hw5 hx6 hr6 hn6 hb6 hw6
  refine wp_region_held_drew (S:=fun W=>ah W X (d.toV (.slice ab d.barred.length cb) (.slice al d.lots.length cl) (.slice ao d.owners.length co))) (by kernel_rfl) HXD.out (fun hHeld=>?_)
  refine ts 0 (.pointer (some ⟨X,43,none⟩)) hHeld ?_
  simp only[Act.put,ps]
  refine tk 1 (.int .i64 d.carriers) hHeld ?_ ?_
  ·intro W hSw
   have c:W.cell? ⟨X,43,none⟩=some (.int .i64 d.carriers):=hSw.carriers
   go_simp
  simp only[Act.put,ps]
  refine ts 2 (.pointer (some ⟨X,44,none⟩)) hHeld ?_
  simp only[Act.put,ps]
  refine tk 3 (.int .i64 d.commit) hHeld ?_ ?_
  ·intro W hSw
   have c:W.cell? ⟨X,44,none⟩=some (.int .i64 d.commit):=hSw.commit
   go_simp
  simp only[Act.put,ps]
  refine ts 4 (.pointer (some ⟨X,45,none⟩)) hHeld ?_
  simp only[Act.put,ps]
  refine tk 5 (.int .i64 d.reveal) hHeld ?_ ?_
  ·intro W hSw
   have c:W.cell? ⟨X,45,none⟩=some (.int .i64 d.reveal):=hSw.reveal
   go_simp
  simp only[Act.put,ps]
  refine ts 6 (.pointer (some ⟨X,46,none⟩)) hHeld ?_
  simp only[Act.put,ps]
  refine tk 7 (.int .i64 d.scheme) hHeld ?_ ?_
  ·intro W hSw
   have c:W.cell? ⟨X,46,none⟩=some (.int .i64 d.scheme):=hSw.scheme
   go_simp
  simp only[Act.put,ps]
  refine ts 8 (.pointer (some ⟨X,47,none⟩)) hHeld ?_
  simp only[Act.put,ps]
  refine tk 9 (.slice al d.lots.length cl) hHeld ?_ ?_
  ·intro W hSw
   have c:W.cell? ⟨X,47,none⟩=some (.slice al d.lots.length cl):=hSw.lots
   go_simp
  simp only[Act.put,ps]
  refine ts 10 (.pointer (some ⟨X,48,none⟩)) hHeld ?_
  simp only[Act.put,ps]
  refine tk 11 (.slice ao d.owners.length co) hHeld ?_ ?_
  ·intro W hSw
   have c:W.cell? ⟨X,48,none⟩=some (.slice ao d.owners.length co):=hSw.owners
   go_simp
  simp only[Act.put,ps]
  refine ts 12 (.pointer (some ⟨L,43,none⟩)) hHeld ?_
  simp only[Act.put,ps]
  refine rd 13 (fun K hK=>?_)
  refine aY rfl 3 _ _ rfl _ _ rfl rfl HST1.out ?_
  refine hK.out _ _ HX1.out (fun hHeld=>?_)
  clear hK K
  try simp only[Act.put,ps]
  refine ts 14 (.pointer (some ⟨L,44,none⟩)) hHeld ?_
  simp only[Act.put,ps]
  refine rd 15 (fun K hK=>?_)
  refine aY rfl 3 _ _ rfl _ _ rfl rfl HST2.out ?_
  refine hK.out _ _ HX2.out (fun hHeld=>?_)
  clear hK K
  try simp only[Act.put,ps]
  refine ts 16 (.pointer (some ⟨L,45,none⟩)) hHeld ?_
  simp only[Act.put,ps]
  refine rd 17 (fun K hK=>?_)
  refine aY rfl 3 _ _ rfl _ _ rfl rfl HST3.out ?_
  refine hK.out _ _ HX3.out (fun hHeld=>?_)
  clear hK K
  try simp only[Act.put,ps]
  refine ts 18 (.pointer (some ⟨L,46,none⟩)) hHeld ?_
  simp only[Act.put,ps]
  refine rd 19 (fun K hK=>?_)
  refine aY rfl 3 _ _ rfl _ _ rfl rfl HST4.out ?_
  refine hK.out _ _ HX4.out (fun hHeld=>?_)
  clear hK K
  try simp only[Act.put,ps]
  refine ts 20 (.pointer (some ⟨L,47,none⟩)) hHeld ?_
  simp only[Act.put,ps]
  refine rd 21 (fun K hK=>?_)
  refine aY rfl 47 _ _ rfl _ _ rfl rfl HST5.out ?_
  refine hK.out _ _ HX5.out (fun hHeld=>?_)
  clear hK K
  try simp only[Act.put,ps]
  refine ts 22 (.pointer (some ⟨L,48,none⟩)) hHeld ?_
  simp only[Act.put,ps]
  refine rd 23 (fun K hK=>?_)
  refine aY rfl 41 _ _ rfl _ _ rfl rfl HST6.out ?_
  refine hK.out _ _ HX6.out (fun hHeld=>?_)
  clear hK K
  try simp only[Act.put,ps]
  refine wpAnyH_done (by kernel_rfl) ?_ _
  obtain⟨r,hr⟩:∃r:RecV,r={kind:=1,carriers:=d.carriers,commit:=d.commit,reveal:=d.reveal,scheme:=d.scheme,lots:=(.slice al d.lots.length cl),owners:=(.slice ao d.owners.length co)}:=⟨_,rfl⟩
  have HRZ:aa (ah w6 L r):=by rw[hr];exact HZR.out
  have hone:(ae r).all (·.oneCell')=true:=by rw[hr];exact aM _ rfl rfl rfl
  have hi0:(prog.info? 49).map (·.size)=some (ae r).size:=by rw[aj];kernel_rfl
  obtain⟨wf,hwf⟩:=nm (w6.setRow R (ae r))
  have HBF:aa (Below w.heap.size w wf):=by rw[hwf];exact bZ HZN.out (aI (K:=(·≠R)) w6 R _ (fun h=>h rfl)) hRw
  have HRF:aa (ah wf R r):=by rw[hwf];exact HZB.out.setRow _
  have HE:aa (eW d w (.returned (.agg (ae r))) wf):=by
   refine⟨r,rfl,?_,HBF.out⟩
   rw[hr,Be HKD.out.symm]
   exact⟨.slice none 0 0,(.slice al d.lots.length cl),(.slice ao d.owners.length co),by simp only[RecD.toV,dU],bA.nil _,HRL.out.on HBF.out,HRW.out.on HBF.out⟩
  have HWF:=ac hwf
  clear hwf hr
  go_wp2_with (first
   | (refine wpList_load_row rfl _ _ rfl L rfl _ (ae r) (0,0) _ HRZ.out underlying49 rfl hi0 ?_)
   | (refine wpList_store_row rfl _ _ _ rfl R (ae r) rfl rfl 49 _ HZB.out hi0 rfl hone ?_;rw[<-HWF.out])
   | fail)
  refine bodyPost_ret (results_cell_row rfl _ _ R 49 (ae r) (0,0) _ rfl HRF.out underlying49 rfl hi0) rfl ?_
  exact HE.out
 ·skip
  have c0:w0.cell? ⟨X,0,none⟩=some (.int .i64 2):=by rw[HKD.out];exact HX0.out.kind
  go_upto_region 6 with fail
  clear c0
  have hx0:ah w0.drew X (d.toV (.slice ab d.barred.length cb) (.slice al d.lots.length cl) (.slice ao d.owners.length co)):=HX0.out.drew
  have hr0:ah w0.drew L {kind:=2}:=HR0.out.drew
  have hn0:Below w.heap.size w w0.drew:=HN0.out.trans ((aA w0).mono HN0.out.size)
  have hb0:ah w0.drew R {}:=HB0.out.drew
  obtain⟨w1,hw1⟩:∃z,z=(w0.drew).setCell ⟨L,1,none⟩ (.int .i64 d.round):=⟨_,rfl⟩
  have HST1:aa ((Instr.storeAt 3 (.pointer (some ⟨L,1,none⟩)) (.int .i64 d.round)).run prog w0.drew=.ok () w1):=by
   rw[hw1];exact bK w0.drew L 1 3 (.int .i64 d.round) (by rw[hr0.round];rfl) (hr0.free _) (by kernel_rfl) rfl
  have hx1:ah w1 X (d.toV (.slice ab d.barred.length cb) (.slice al d.lots.length cl) (.slice ao d.owners.length co)):=by rw[hw1];exact hx0.other hXL _
  have hr1:ah w1 L {kind:=2,round:=d.round}:=by rw[hw1];exact hr0.setRound d.round
  have hn1:Below w.heap.size w w1:=by rw[hw1];exact hn0.setCell (p:=⟨L,1,none⟩) hLw _
  have hb1:ah w1 R {}:=by rw[hw1];exact hb0.other hRL _
  have HX1:=ac hx1
  obtain⟨w2,hw2⟩:∃z,z=w1.setCell ⟨L,2,none⟩ (.int .i64 d.lot):=⟨_,rfl⟩
  have HST2:aa ((Instr.storeAt 3 (.pointer (some ⟨L,2,none⟩)) (.int .i64 d.lot)).run prog w1=.ok () w2):=by
   rw[hw2];exact bK w1 L 2 3 (.int .i64 d.lot) (by rw[hr1.lot];rfl) (hr1.free _) (by kernel_rfl) rfl
  have hx2:ah w2 X (d.toV (.slice ab d.barred.length cb) (.slice al d.lots.length cl) (.slice ao d.owners.length co)):=by rw[hw2];exact hx1.other hXL _
  have hr2:ah w2 L {kind:=2,round:=d.round,lot:=d.lot}:=by rw[hw2];exact hr1.setLot d.lot
  have hn2:Below w.heap.size w w2:=by rw[hw2];exact hn1.setCell (p:=⟨L,2,none⟩) hLw _
  have hb2:ah w2 R {}:=by rw[hw2];exact hb1.other hRL _
  have HX2:=ac hx2
  obtain⟨w3,hw3⟩:∃z,z=w2.setCell ⟨L,4,none⟩ (.int .i64 d.tick):=⟨_,rfl⟩
  have HST3:aa ((Instr.storeAt 3 (.pointer (some ⟨L,4,none⟩)) (.int .i64 d.tick)).run prog w2=.ok () w3):=by
   rw[hw3];exact bK w2 L 4 3 (.int .i64 d.tick) (by rw[hr2.tick];rfl) (hr2.free _) (by kernel_rfl) rfl
  have hx3:ah w3 X (d.toV (.slice ab d.barred.length cb) (.slice al d.lots.length cl) (.slice ao d.owners.length co)):=by rw[hw3];exact hx2.other hXL _
  have hr3:ah w3 L {kind:=2,round:=d.round,lot:=d.lot,tick:=d.tick}:=by rw[hw3];exact hr2.setTick d.tick
  have hn3:Below w.heap.size w w3:=by rw[hw3];exact hn2.setCell (p:=⟨L,4,none⟩) hLw _
  have hb3:ah w3 R {}:=by rw[hw3];exact hb2.other hRL _
  have HX3:=ac hx3
  obtain⟨w4,hw4⟩:∃z,z=w3.setCell ⟨L,5,none⟩ (.slice ab d.barred.length cb):=⟨_,rfl⟩
  have HST4:aa ((Instr.storeAt 41 (.pointer (some ⟨L,5,none⟩)) (.slice ab d.barred.length cb)).run prog w3=.ok () w4):=by
   rw[hw4];exact bK w3 L 5 41 (.slice ab d.barred.length cb) (by rw[hr3.barred];rfl) (hr3.free _) (by kernel_rfl) rfl
  have hx4:ah w4 X (d.toV (.slice ab d.barred.length cb) (.slice al d.lots.length cl) (.slice ao d.owners.length co)):=by rw[hw4];exact hx3.other hXL _
  have hr4:ah w4 L {kind:=2,round:=d.round,lot:=d.lot,tick:=d.tick,barred:=(.slice ab d.barred.length cb)}:=by rw[hw4];exact hr3.setBarred (.slice ab d.barred.length cb)
  have hn4:Below w.heap.size w w4:=by rw[hw4];exact hn3.setCell (p:=⟨L,5,none⟩) hLw _
  have hb4:ah w4 R {}:=by rw[hw4];exact hb3.other hRL _
  have HX4:=ac hx4
  have HZR:=ac hr4
  have HZN:=ac hn4
  have HZB:=ac hb4
  have HXD:=ac hx0
  clear hx0 hr0 hn0 hb0 hx1 hr1 hn1 hb1 hw1 hx2 hr2 hn2 hb2 hw2 hx3 hr3 hn3 hb3 hw3 hx4 hr4 hn4 hb4 hw4
  refine wp_region_held_drew (S:=fun W=>ah W X (d.toV (.slice ab d.barred.length cb) (.slice al d.lots.length cl) (.slice ao d.owners.length co))) (by kernel_rfl) HXD.out (fun hHeld=>?_)
  refine ts 0 (.pointer (some ⟨X,1,none⟩)) hHeld ?_
  simp only[Act.put,ps]
  refine tk 1 (.int .i64 d.round) hHeld ?_ ?_
  ·intro W hSw
   have c:W.cell? ⟨X,1,none⟩=some (.int .i64 d.round):=hSw.round
   go_simp
  simp only[Act.put,ps]
  refine ts 2 (.pointer (some ⟨X,2,none⟩)) hHeld ?_
  simp only[Act.put,ps]
  refine tk 3 (.int .i64 d.lot) hHeld ?_ ?_
  ·intro W hSw
   have c:W.cell? ⟨X,2,none⟩=some (.int .i64 d.lot):=hSw.lot
   go_simp
  simp only[Act.put,ps]
  refine ts 4 (.pointer (some ⟨X,4,none⟩)) hHeld ?_
  simp only[Act.put,ps]
  refine tk 5 (.int .i64 d.tick) hHeld ?_ ?_
  ·intro W hSw
   have c:W.cell? ⟨X,4,none⟩=some (.int .i64 d.tick):=hSw.tick
   go_simp
  simp only[Act.put,ps]
  refine ts 6 (.pointer (some ⟨X,5,none⟩)) hHeld ?_
  simp only[Act.put,ps]
  refine tk 7 (.slice ab d.barred.length cb) hHeld ?_ ?_
  ·intro W hSw
   have c:W.cell? ⟨X,5,none⟩=some (.slice ab d.barred.length cb):=hSw.barred
   go_simp
  simp only[Act.put,ps]
  refine ts 8 (.pointer (some ⟨L,1,none⟩)) hHeld ?_
  simp only[Act.put,ps]
  refine rd 9 (fun K hK=>?_)
  refine aY rfl 3 _ _ rfl _ _ rfl rfl HST1.out ?_
  refine hK.out _ _ HX1.out (fun hHeld=>?_)
  clear hK K
  try simp only[Act.put,ps]
  refine ts 10 (.pointer (some ⟨L,2,none⟩)) hHeld ?_
  simp only[Act.put,ps]
  refine rd 11 (fun K hK=>?_)
  refine aY rfl 3 _ _ rfl _ _ rfl rfl HST2.out ?_
  refine hK.out _ _ HX2.out (fun hHeld=>?_)
  clear hK K
  try simp only[Act.put,ps]
  refine ts 12 (.pointer (some ⟨L,4,none⟩)) hHeld ?_
  simp only[Act.put,ps]
  refine rd 13 (fun K hK=>?_)
  refine aY rfl 3 _ _ rfl _ _ rfl rfl HST3.out ?_
  refine hK.out _ _ HX3.out (fun hHeld=>?_)
  clear hK K
  try simp only[Act.put,ps]
  refine ts 14 (.pointer (some ⟨L,5,none⟩)) hHeld ?_
  simp only[Act.put,ps]
  refine rd 15 (fun K hK=>?_)
  refine aY rfl 41 _ _ rfl _ _ rfl rfl HST4.out ?_
  refine hK.out _ _ HX4.out (fun hHeld=>?_)
  clear hK K
  try simp only[Act.put,ps]
  refine wpAnyH_done (by kernel_rfl) ?_ _
  obtain⟨r,hr⟩:∃r:RecV,r={kind:=2,round:=d.round,lot:=d.lot,tick:=d.tick,barred:=(.slice ab d.barred.length cb)}:=⟨_,rfl⟩
  have HRZ:aa (ah w4 L r):=by rw[hr];exact HZR.out
  have hone:(ae r).all (·.oneCell')=true:=by rw[hr];exact aM _ rfl rfl rfl
  have hi0:(prog.info? 49).map (·.size)=some (ae r).size:=by rw[aj];kernel_rfl
  obtain⟨wf,hwf⟩:=nm (w4.setRow R (ae r))
  have HBF:aa (Below w.heap.size w wf):=by rw[hwf];exact bZ HZN.out (aI (K:=(·≠R)) w4 R _ (fun h=>h rfl)) hRw
  have HRF:aa (ah wf R r):=by rw[hwf];exact HZB.out.setRow _
  have HE:aa (eW d w (.returned (.agg (ae r))) wf):=by
   refine⟨r,rfl,?_,HBF.out⟩
   rw[hr,Bf HKD.out.symm]
   exact⟨(.slice ab d.barred.length cb),.slice none 0 0,.slice none 0 0,by simp only[RecD.toV,dU],HRB.out.on HBF.out,cZ.nil _,bA.nil _⟩
  have HWF:=ac hwf
  clear hwf hr
  go_wp2_with (first
   | (refine wpList_load_row rfl _ _ rfl L rfl _ (ae r) (0,0) _ HRZ.out underlying49 rfl hi0 ?_)
   | (refine wpList_store_row rfl _ _ _ rfl R (ae r) rfl rfl 49 _ HZB.out hi0 rfl hone ?_;rw[<-HWF.out])
   | fail)
  refine bodyPost_ret (results_cell_row rfl _ _ R 49 (ae r) (0,0) _ rfl HRF.out underlying49 rfl hi0) rfl ?_
  exact HE.out
 ·skip
  have c0:w0.cell? ⟨X,0,none⟩=some (.int .i64 3):=by rw[HKD.out];exact HX0.out.kind
  go_upto_region 8 with fail
  clear c0
  have l1:=HR0.out.round
  have f1:=HR0.out.free 1
  have l3:=HR0.out.carrier
  have f3:=HR0.out.free 3
  have l4:=HR0.out.tick
  have f4:=HR0.out.free 4
  dsimp only at l1 l3 l4
  obtain⟨w1,hw1⟩:∃z,z=(w0.drew.setCell ⟨L,1,none⟩ (.int .i64 d.round)).setCell ⟨L,3,none⟩ (.int .i64 d.carrier):=⟨_,rfl⟩
  have hr1:ah w1 L {kind:=3,round:=d.round,carrier:=d.carrier}:=by rw[hw1];exact (HR0.out.drew.setRound d.round).setCarrier d.carrier
  have hn1:Below w.heap.size w w1:=by
   rw[hw1]
   have h1:=HN0.out.trans ((aA w0).mono HN0.out.size)
   exact (h1.setCell (p:=⟨L,1,none⟩) hLw _).setCell (p:=⟨L,3,none⟩) hLw _
  have hb1:ah w1 R {}:=by rw[hw1];exact (HB0.out.drew.other hRL _).other hRL _
  have hx1:ah w1 X (d.toV (.slice ab d.barred.length cb) (.slice al d.lots.length cl) (.slice ao d.owners.length co)):=by rw[hw1];exact (HX0.out.drew.other hXL _).other hXL _
  obtain⟨w2,hst,hr2,hk2⟩:=tc hr1 (fun j=>d.dig.getD j 0)
  obtain⟨ds,hds⟩:∃ds:Array Value,((List.range 32).map fun j=>Value.int .u8 (d.dig.getD j 0)).toArray=ds:=⟨_,rfl⟩
  rw[hds] at hst
  rw[hw1] at hst
  have HST:=ac hst
  have HR2:=ac hr2
  have HN2:aa (Below w.heap.size w w2):=bZ hn1 hk2 hLw
  have HB2:=ac (hb1.keeps hk2 hRL)
  have HX2:=ac (hx1.keeps hk2 hXL)
  have k4:=hr2.tick
  have f4b:=hr2.free 4
  dsimp only at k4
  have HXD:aa (ah w0.drew X (d.toV (.slice ab d.barred.length cb) (.slice al d.lots.length cl) (.slice ao d.owners.length co))):=HX0.out.drew
  clear hst hr1 hn1 hb1 hx1 hr2 hk2 hw1 w1 l4 f4
  refine wp_region_held_drew (S:=fun W=>ah W X (d.toV (.slice ab d.barred.length cb) (.slice al d.lots.length cl) (.slice ao d.owners.length co))) (by kernel_rfl) HXD.out (fun hHeld=>?_)
  refine ts 0 (.pointer (some ⟨X,1,none⟩)) hHeld ?_
  simp only[Act.put,ps]
  refine tk 1 (.int .i64 d.round) hHeld ?_ ?_
  ·intro W hSw
   have c:W.cell? ⟨X,1,none⟩=some (.int .i64 d.round):=hSw.round
   go_simp
  simp only[Act.put,ps]
  refine ts 2 (.pointer (some ⟨X,3,none⟩)) hHeld ?_
  simp only[Act.put,ps]
  refine tk 3 (.int .i64 d.carrier) hHeld ?_ ?_
  ·intro W hSw
   have c:W.cell? ⟨X,3,none⟩=some (.int .i64 d.carrier):=hSw.carrier
   go_simp
  simp only[Act.put,ps]
  refine ts 4 (.pointer (some ⟨X,6,none⟩)) hHeld ?_
  simp only[Act.put,ps]
  refine tl 5 (.agg ((List.range 32).map fun j=>Value.int .u8 (d.dig.getD j 0)).toArray) rfl (yieldsIf_load_mid (by rfl) 43 (.tmp 49) rfl X 6 rfl _ _ (fun W hW=>hW.digRange) underlying43 rfl (by kernel_rfl)) hHeld ?_
  simp only[Act.put,ps]
  rw[hds]
  refine ts 6 (.pointer (some ⟨X,4,none⟩)) hHeld ?_
  simp only[Act.put,ps]
  refine tk 7 (.int .i64 d.tick) hHeld ?_ ?_
  ·intro W hSw
   have c:W.cell? ⟨X,4,none⟩=some (.int .i64 d.tick):=hSw.tick
   go_simp
  simp only[Act.put,ps]
  refine ts 8 (.pointer (some ⟨L,1,none⟩)) hHeld ?_
  simp only[Act.put,ps]
  refine rd 9 (fun K hK=>?_)
  go_simp
  refine hK.out _ _ (hHeld.other hXL _) (fun hHeld=>?_)
  clear hK K
  try simp only[Act.put,ps]
  refine ts 10 (.pointer (some ⟨L,3,none⟩)) hHeld ?_
  simp only[Act.put,ps]
  refine rd 11 (fun K hK=>?_)
  go_simp
  refine hK.out _ _ (hHeld.other hXL _) (fun hHeld=>?_)
  clear hK K
  try simp only[Act.put,ps]
  refine ts 12 (.pointer (some ⟨L,6,none⟩)) hHeld ?_
  simp only[Act.put,ps]
  refine rd 13 (fun K hK=>?_)
  refine aY rfl 43 _ _ rfl _ _ rfl rfl HST.out ?_
  refine hK.out _ _ HX2.out (fun hHeld=>?_)
  clear hK K
  try simp only[Act.put,ps]
  refine ts 14 (.pointer (some ⟨L,4,none⟩)) hHeld ?_
  simp only[Act.put,ps]
  refine rd 15 (fun K hK=>?_)
  go_simp
  refine hK.out _ _ (hHeld.other hXL _) (fun hHeld=>?_)
  clear hK K
  try simp only[Act.put,ps]
  refine wpAnyH_done (by kernel_rfl) ?_ _
  obtain⟨wz,hwz⟩:∃z,z=w2.setCell ⟨L,4,none⟩ (.int .i64 d.tick):=⟨_,rfl⟩
  have HZR:aa (ah wz L {kind:=3,round:=d.round,carrier:=d.carrier,tick:=d.tick,dig:=fun j=>d.dig.getD j 0}):=by rw[hwz];exact HR2.out.setTick d.tick
  have HZN:aa (Below w.heap.size w wz):=by rw[hwz];exact HN2.out.setCell (p:=⟨L,4,none⟩) hLw _
  have HZB:aa (ah wz R {}):=by rw[hwz];exact HB2.out.other hRL _
  rw[<-hwz]
  clear hwz k4 f4b l1 f1 l3 f3
  obtain⟨r,hr⟩:∃r:RecV,r={kind:=3,round:=d.round,carrier:=d.carrier,tick:=d.tick,dig:=fun j=>d.dig.getD j 0}:=⟨_,rfl⟩
  have HRZ:aa (ah wz L r):=by rw[hr];exact HZR.out
  have hone:(ae r).all (·.oneCell')=true:=by rw[hr];exact aM _ rfl rfl rfl
  have hi0:(prog.info? 49).map (·.size)=some (ae r).size:=by rw[aj];kernel_rfl
  obtain⟨wf,hwf⟩:=nm (wz.setRow R (ae r))
  have HBF:aa (Below w.heap.size w wf):=by rw[hwf];exact bZ HZN.out (aI (K:=(·≠R)) wz R _ (fun h=>h rfl)) hRw
  have HRF:aa (ah wf R r):=by rw[hwf];exact HZB.out.setRow _
  have HE:aa (eW d w (.returned (.agg (ae r))) wf):=by
   refine⟨r,rfl,?_,HBF.out⟩
   rw[hr,Bg HKD.out.symm]
   exact⟨.slice none 0 0,.slice none 0 0,.slice none 0 0,by simp only[RecD.toV],bA.nil _,cZ.nil _,bA.nil _⟩
  have HWF:=ac hwf
  clear hwf hr
  go_wp2_with (first
   | (refine wpList_load_row rfl _ _ rfl L rfl _ (ae r) (0,0) _ HRZ.out underlying49 rfl hi0 ?_)
   | (refine wpList_store_row rfl _ _ _ rfl R (ae r) rfl rfl 49 _ HZB.out hi0 rfl hone ?_;rw[<-HWF.out])
   | fail)
  refine bodyPost_ret (results_cell_row rfl _ _ R 49 (ae r) (0,0) _ rfl HRF.out underlying49 rfl hi0) rfl ?_
  exact HE.out
 ·skip
  have c0:w0.cell? ⟨X,0,none⟩=some (.int .i64 4):=by rw[HKD.out];exact HX0.out.kind
  go_upto_region 10 with fail
  clear c0
  have hx0:ah w0.drew X (d.toV (.slice ab d.barred.length cb) (.slice al d.lots.length cl) (.slice ao d.owners.length co)):=HX0.out.drew
  have hr0:ah w0.drew L {kind:=4}:=HR0.out.drew
  have hn0:Below w.heap.size w w0.drew:=HN0.out.trans ((aA w0).mono HN0.out.size)
  have hb0:ah w0.drew R {}:=HB0.out.drew
  obtain⟨w1,hw1⟩:∃z,z=(w0.drew).setCell ⟨L,1,none⟩ (.int .i64 d.round):=⟨_,rfl⟩
  have HST1:aa ((Instr.storeAt 3 (.pointer (some ⟨L,1,none⟩)) (.int .i64 d.round)).run prog w0.drew=.ok () w1):=by
   rw[hw1];exact bK w0.drew L 1 3 (.int .i64 d.round) (by rw[hr0.round];rfl) (hr0.free _) (by kernel_rfl) rfl
  have hx1:ah w1 X (d.toV (.slice ab d.barred.length cb) (.slice al d.lots.length cl) (.slice ao d.owners.length co)):=by rw[hw1];exact hx0.other hXL _
  have hr1:ah w1 L {kind:=4,round:=d.round}:=by rw[hw1];exact hr0.setRound d.round
  have hn1:Below w.heap.size w w1:=by rw[hw1];exact hn0.setCell (p:=⟨L,1,none⟩) hLw _
  have hb1:ah w1 R {}:=by rw[hw1];exact hb0.other hRL _
  have HX1:=ac hx1
  obtain⟨w2,hw2⟩:∃z,z=w1.setCell ⟨L,3,none⟩ (.int .i64 d.carrier):=⟨_,rfl⟩
  have HST2:aa ((Instr.storeAt 3 (.pointer (some ⟨L,3,none⟩)) (.int .i64 d.carrier)).run prog w1=.ok () w2):=by
   rw[hw2];exact bK w1 L 3 3 (.int .i64 d.carrier) (by rw[hr1.carrier];rfl) (hr1.free _) (by kernel_rfl) rfl
  have hx2:ah w2 X (d.toV (.slice ab d.barred.length cb) (.slice al d.lots.length cl) (.slice ao d.owners.length co)):=by rw[hw2];exact hx1.other hXL _
  have hr2:ah w2 L {kind:=4,round:=d.round,carrier:=d.carrier}:=by rw[hw2];exact hr1.setCarrier d.carrier
  have hn2:Below w.heap.size w w2:=by rw[hw2];exact hn1.setCell (p:=⟨L,3,none⟩) hLw _
  have hb2:ah w2 R {}:=by rw[hw2];exact hb1.other hRL _
  have HX2:=ac hx2
  obtain⟨w3,hw3⟩:∃z,z=w2.setCell ⟨L,38,none⟩ (.int .u64 d.bid):=⟨_,rfl⟩
  have HST3:aa ((Instr.storeAt 44 (.pointer (some ⟨L,38,none⟩)) (.int .u64 d.bid)).run prog w2=.ok () w3):=by
   rw[hw3];exact bK w2 L 38 44 (.int .u64 d.bid) (by rw[hr2.bid];rfl) (hr2.free _) (by kernel_rfl) rfl
  have hx3:ah w3 X (d.toV (.slice ab d.barred.length cb) (.slice al d.lots.length cl) (.slice ao d.owners.length co)):=by rw[hw3];exact hx2.other hXL _
  have hr3:ah w3 L {kind:=4,round:=d.round,carrier:=d.carrier,bid:=d.bid}:=by rw[hw3];exact hr2.setBid d.bid
  have hn3:Below w.heap.size w w3:=by rw[hw3];exact hn2.setCell (p:=⟨L,38,none⟩) hLw _
  have hb3:ah w3 R {}:=by rw[hw3];exact hb2.other hRL _
  have HX3:=ac hx3
  obtain⟨w4,hw4⟩:∃z,z=w3.setCell ⟨L,39,none⟩ (.int .u64 d.nonce):=⟨_,rfl⟩
  have HST4:aa ((Instr.storeAt 44 (.pointer (some ⟨L,39,none⟩)) (.int .u64 d.nonce)).run prog w3=.ok () w4):=by
   rw[hw4];exact bK w3 L 39 44 (.int .u64 d.nonce) (by rw[hr3.nonce];rfl) (hr3.free _) (by kernel_rfl) rfl
  have hx4:ah w4 X (d.toV (.slice ab d.barred.length cb) (.slice al d.lots.length cl) (.slice ao d.owners.length co)):=by rw[hw4];exact hx3.other hXL _
  have hr4:ah w4 L {kind:=4,round:=d.round,carrier:=d.carrier,bid:=d.bid,nonce:=d.nonce}:=by rw[hw4];exact hr3.setNonce d.nonce
  have hn4:Below w.heap.size w w4:=by rw[hw4];exact hn3.setCell (p:=⟨L,39,none⟩) hLw _
  have hb4:ah w4 R {}:=by rw[hw4];exact hb3.other hRL _
  have HX4:=ac hx4
  obtain⟨w5,hw5⟩:∃z,z=w4.setCell ⟨L,4,none⟩ (.int .i64 d.tick):=⟨_,rfl⟩
  have HST5:aa ((Instr.storeAt 3 (.pointer (some ⟨L,4,none⟩)) (.int .i64 d.tick)).run prog w4=.ok () w5):=by
   rw[hw5];exact bK w4 L 4 3 (.int .i64 d.tick) (by rw[hr4.tick];rfl) (hr4.free _) (by kernel_rfl) rfl
  have hx5:ah w5 X (d.toV (.slice ab d.barred.length cb) (.slice al d.lots.length cl) (.slice ao d.owners.length co)):=by rw[hw5];exact hx4.other hXL _
  have hr5:ah w5 L {kind:=4,round:=d.round,carrier:=d.carrier,bid:=d.bid,nonce:=d.nonce,tick:=d.tick}:=by rw[hw5];exact hr4.setTick d.tick
  have hn5:Below w.heap.size w w5:=by rw[hw5];exact hn4.setCell (p:=⟨L,4,none⟩) hLw _
  have hb5:ah w5 R {}:=by rw[hw5];exact hb4.other hRL _
  have HX5:=ac hx5
  have HZR:=ac hr5
  have HZN:=ac hn5
  have HZB:=ac hb5
  have HXD:=ac hx0
  clear hx0 hr0 hn0 hb0 hx1 hr1 hn1 hb1 hw1 hx2 hr2 hn2 hb2 hw2 hx3 hr3 hn3 hb3 hw3 hx4 hr4 hn4 hb4 hw4 hx5 hr5 hn5 hb5 hw5
  refine wp_region_held_drew (S:=fun W=>ah W X (d.toV (.slice ab d.barred.length cb) (.slice al d.lots.length cl) (.slice ao d.owners.length co))) (by kernel_rfl) HXD.out (fun hHeld=>?_)
  refine ts 0 (.pointer (some ⟨X,1,none⟩)) hHeld ?_
  simp only[Act.put,ps]
  refine tk 1 (.int .i64 d.round) hHeld ?_ ?_
  ·intro W hSw
   have c:W.cell? ⟨X,1,none⟩=some (.int .i64 d.round):=hSw.round
   go_simp
  simp only[Act.put,ps]
  refine ts 2 (.pointer (some ⟨X,3,none⟩)) hHeld ?_
  simp only[Act.put,ps]
  refine tk 3 (.int .i64 d.carrier) hHeld ?_ ?_
  ·intro W hSw
   have c:W.cell? ⟨X,3,none⟩=some (.int .i64 d.carrier):=hSw.carrier
   go_simp
  simp only[Act.put,ps]
  refine ts 4 (.pointer (some ⟨X,38,none⟩)) hHeld ?_
  simp only[Act.put,ps]
  refine tk 5 (.int .u64 d.bid) hHeld ?_ ?_
  ·intro W hSw
   have c:W.cell? ⟨X,38,none⟩=some (.int .u64 d.bid):=hSw.bid
   go_simp
  simp only[Act.put,ps]
  refine ts 6 (.pointer (some ⟨X,39,none⟩)) hHeld ?_
  simp only[Act.put,ps]
  refine tk 7 (.int .u64 d.nonce) hHeld ?_ ?_
  ·intro W hSw
   have c:W.cell? ⟨X,39,none⟩=some (.int .u64 d.nonce):=hSw.nonce
   go_simp
  simp only[Act.put,ps]
  refine ts 8 (.pointer (some ⟨X,4,none⟩)) hHeld ?_
  simp only[Act.put,ps]
  refine tk 9 (.int .i64 d.tick) hHeld ?_ ?_
  ·intro W hSw
   have c:W.cell? ⟨X,4,none⟩=some (.int .i64 d.tick):=hSw.tick
   go_simp
  simp only[Act.put,ps]
  refine ts 10 (.pointer (some ⟨L,1,none⟩)) hHeld ?_
  simp only[Act.put,ps]
  refine rd 11 (fun K hK=>?_)
  refine aY rfl 3 _ _ rfl _ _ rfl rfl HST1.out ?_
  refine hK.out _ _ HX1.out (fun hHeld=>?_)
  clear hK K
  try simp only[Act.put,ps]
  refine ts 12 (.pointer (some ⟨L,3,none⟩)) hHeld ?_
  simp only[Act.put,ps]
  refine rd 13 (fun K hK=>?_)
  refine aY rfl 3 _ _ rfl _ _ rfl rfl HST2.out ?_
  refine hK.out _ _ HX2.out (fun hHeld=>?_)
  clear hK K
  try simp only[Act.put,ps]
  refine ts 14 (.pointer (some ⟨L,38,none⟩)) hHeld ?_
  simp only[Act.put,ps]
  refine rd 15 (fun K hK=>?_)
  refine aY rfl 44 _ _ rfl _ _ rfl rfl HST3.out ?_
  refine hK.out _ _ HX3.out (fun hHeld=>?_)
  clear hK K
  try simp only[Act.put,ps]
  refine ts 16 (.pointer (some ⟨L,39,none⟩)) hHeld ?_
  simp only[Act.put,ps]
  refine rd 17 (fun K hK=>?_)
  refine aY rfl 44 _ _ rfl _ _ rfl rfl HST4.out ?_
  refine hK.out _ _ HX4.out (fun hHeld=>?_)
  clear hK K
  try simp only[Act.put,ps]
  refine ts 18 (.pointer (some ⟨L,4,none⟩)) hHeld ?_
  simp only[Act.put,ps]
  refine rd 19 (fun K hK=>?_)
  refine aY rfl 3 _ _ rfl _ _ rfl rfl HST5.out ?_
  refine hK.out _ _ HX5.out (fun hHeld=>?_)
  clear hK K
  try simp only[Act.put,ps]
  refine wpAnyH_done (by kernel_rfl) ?_ _
  obtain⟨r,hr⟩:∃r:RecV,r={kind:=4,round:=d.round,carrier:=d.carrier,bid:=d.bid,nonce:=d.nonce,tick:=d.tick}:=⟨_,rfl⟩
  have HRZ:aa (ah w5 L r):=by rw[hr];exact HZR.out
  have hone:(ae r).all (·.oneCell')=true:=by rw[hr];exact aM _ rfl rfl rfl
  have hi0:(prog.info? 49).map (·.size)=some (ae r).size:=by rw[aj];kernel_rfl
  obtain⟨wf,hwf⟩:=nm (w5.setRow R (ae r))
  have HBF:aa (Below w.heap.size w wf):=by rw[hwf];exact bZ HZN.out (aI (K:=(·≠R)) w5 R _ (fun h=>h rfl)) hRw
  have HRF:aa (ah wf R r):=by rw[hwf];exact HZB.out.setRow _
  have HE:aa (eW d w (.returned (.agg (ae r))) wf):=by
   refine⟨r,rfl,?_,HBF.out⟩
   rw[hr,Bh HKD.out.symm]
   exact⟨.slice none 0 0,.slice none 0 0,.slice none 0 0,by simp only[RecD.toV,dU],bA.nil _,cZ.nil _,bA.nil _⟩
  have HWF:=ac hwf
  clear hwf hr
  go_wp2_with (first
   | (refine wpList_load_row rfl _ _ rfl L rfl _ (ae r) (0,0) _ HRZ.out underlying49 rfl hi0 ?_)
   | (refine wpList_store_row rfl _ _ _ rfl R (ae r) rfl rfl 49 _ HZB.out hi0 rfl hone ?_;rw[<-HWF.out])
   | fail)
  refine bodyPost_ret (results_cell_row rfl _ _ R 49 (ae r) (0,0) _ rfl HRF.out underlying49 rfl hi0) rfl ?_
  exact HE.out
 ·skip
  have c0:w0.cell? ⟨X,0,none⟩=some (.int .i64 5):=by rw[HKD.out];exact HX0.out.kind
  go_upto_region 12 with fail
  clear c0
  have l1:=HR0.out.round
  have f1:=HR0.out.free 1
  have l4:=HR0.out.tick
  have f4:=HR0.out.free 4
  dsimp only at l1 l4
  obtain⟨w1,hw1⟩:∃z,z=w0.drew.setCell ⟨L,1,none⟩ (.int .i64 d.round):=⟨_,rfl⟩
  have hr1:ah w1 L {kind:=5,round:=d.round}:=by rw[hw1];exact HR0.out.drew.setRound d.round
  have hn1:Below w.heap.size w w1:=by
   rw[hw1]
   have h1:=HN0.out.trans ((aA w0).mono HN0.out.size)
   exact h1.setCell (p:=⟨L,1,none⟩) hLw _
  have hb1:ah w1 R {}:=by rw[hw1];exact HB0.out.drew.other hRL _
  have hx1:ah w1 X (d.toV (.slice ab d.barred.length cb) (.slice al d.lots.length cl) (.slice ao d.owners.length co)):=by rw[hw1];exact HX0.out.drew.other hXL _
  obtain⟨w2,hst,hr2,hk2⟩:=vl hr1 d.state d.winner d.price
  rw[hw1] at hst
  have HST:=ac hst
  have HR2:=ac hr2
  have HN2:aa (Below w.heap.size w w2):=bZ hn1 hk2 hLw
  have HB2:=ac (hb1.keeps hk2 hRL)
  have HX2:=ac (hx1.keeps hk2 hXL)
  have k4:=hr2.tick
  have f4b:=hr2.free 4
  dsimp only at k4
  have HXD:aa (ah w0.drew X (d.toV (.slice ab d.barred.length cb) (.slice al d.lots.length cl) (.slice ao d.owners.length co))):=HX0.out.drew
  clear hst hr1 hn1 hb1 hx1 hr2 hk2 hw1 w1 l4 f4
  refine wp_region_held_drew (S:=fun W=>ah W X (d.toV (.slice ab d.barred.length cb) (.slice al d.lots.length cl) (.slice ao d.owners.length co))) (by kernel_rfl) HXD.out (fun hHeld=>?_)
  refine ts 0 (.pointer (some ⟨X,1,none⟩)) hHeld ?_
  simp only[Act.put,ps]
  refine tk 1 (.int .i64 d.round) hHeld ?_ ?_
  ·intro W hSw
   have c:W.cell? ⟨X,1,none⟩=some (.int .i64 d.round):=hSw.round
   go_simp
  simp only[Act.put,ps]
  refine ts 2 (.pointer (some ⟨X,40,none⟩)) hHeld ?_
  simp only[Act.put,ps]
  refine tl 3 (.agg #[.int .i64 d.state,.int .i64 d.winner,.int .u64 d.price]) rfl (yieldsIf_load_mid (by rfl) 46 (.tmp 78) rfl X 40 rfl [.int .i64 d.state,.int .i64 d.winner,.int .u64 d.price] _ (fun W hW=>hW.outRange) underlying46 rfl (by kernel_rfl)) hHeld ?_
  simp only[Act.put,ps]
  refine ts 4 (.pointer (some ⟨X,4,none⟩)) hHeld ?_
  simp only[Act.put,ps]
  refine tk 5 (.int .i64 d.tick) hHeld ?_ ?_
  ·intro W hSw
   have c:W.cell? ⟨X,4,none⟩=some (.int .i64 d.tick):=hSw.tick
   go_simp
  simp only[Act.put,ps]
  refine ts 6 (.pointer (some ⟨L,1,none⟩)) hHeld ?_
  simp only[Act.put,ps]
  refine rd 7 (fun K hK=>?_)
  go_simp
  refine hK.out _ _ (hHeld.other hXL _) (fun hHeld=>?_)
  clear hK K
  try simp only[Act.put,ps]
  refine ts 8 (.pointer (some ⟨L,40,none⟩)) hHeld ?_
  simp only[Act.put,ps]
  refine rd 9 (fun K hK=>?_)
  refine aY rfl 46 _ _ rfl _ _ rfl rfl HST.out ?_
  refine hK.out _ _ HX2.out (fun hHeld=>?_)
  clear hK K
  try simp only[Act.put,ps]
  refine ts 10 (.pointer (some ⟨L,4,none⟩)) hHeld ?_
  simp only[Act.put,ps]
  refine rd 11 (fun K hK=>?_)
  go_simp
  refine hK.out _ _ (hHeld.other hXL _) (fun hHeld=>?_)
  clear hK K
  try simp only[Act.put,ps]
  refine wpAnyH_done (by kernel_rfl) ?_ _
  obtain⟨wz,hwz⟩:∃z,z=w2.setCell ⟨L,4,none⟩ (.int .i64 d.tick):=⟨_,rfl⟩
  have HZR:aa (ah wz L {kind:=5,round:=d.round,tick:=d.tick,state:=d.state,winner:=d.winner,price:=d.price}):=by rw[hwz];exact HR2.out.setTick d.tick
  have HZN:aa (Below w.heap.size w wz):=by rw[hwz];exact HN2.out.setCell (p:=⟨L,4,none⟩) hLw _
  have HZB:aa (ah wz R {}):=by rw[hwz];exact HB2.out.other hRL _
  rw[<-hwz]
  clear hwz k4 f4b l1 f1
  obtain⟨r,hr⟩:∃r:RecV,r={kind:=5,round:=d.round,tick:=d.tick,state:=d.state,winner:=d.winner,price:=d.price}:=⟨_,rfl⟩
  have HRZ:aa (ah wz L r):=by rw[hr];exact HZR.out
  have hone:(ae r).all (·.oneCell')=true:=by rw[hr];exact aM _ rfl rfl rfl
  have hi0:(prog.info? 49).map (·.size)=some (ae r).size:=by rw[aj];kernel_rfl
  obtain⟨wf,hwf⟩:=nm (wz.setRow R (ae r))
  have HBF:aa (Below w.heap.size w wf):=by rw[hwf];exact bZ HZN.out (aI (K:=(·≠R)) wz R _ (fun h=>h rfl)) hRw
  have HRF:aa (ah wf R r):=by rw[hwf];exact HZB.out.setRow _
  have HE:aa (eW d w (.returned (.agg (ae r))) wf):=by
   refine⟨r,rfl,?_,HBF.out⟩
   rw[hr,Bi HKD.out.symm]
   exact⟨.slice none 0 0,.slice none 0 0,.slice none 0 0,by simp only[RecD.toV,dU],bA.nil _,cZ.nil _,bA.nil _⟩
  have HWF:=ac hwf
  clear hwf hr
  go_wp2_with (first
   | (refine wpList_load_row rfl _ _ rfl L rfl _ (ae r) (0,0) _ HRZ.out underlying49 rfl hi0 ?_)
   | (refine wpList_store_row rfl _ _ _ rfl R (ae r) rfl rfl 49 _ HZB.out hi0 rfl hone ?_;rw[<-HWF.out])
   | fail)
  refine bodyPost_ret (results_cell_row rfl _ _ R 49 (ae r) (0,0) _ rfl HRF.out underlying49 rfl hi0) rfl ?_
  exact HE.out
 ·skip
  have c0:w0.cell? ⟨X,0,none⟩=some (.int .i64 6):=by rw[HKD.out];exact HX0.out.kind
  go_upto_region 14 with fail
  clear c0
  have c4:w0.cell? ⟨X,4,none⟩=some (.int .i64 d.tick):=HX0.out.tick
  have l4:=HR0.out.tick
  have f4:=HR0.out.free 4
  dsimp only at l4
  go_upto_region 15 with fail
  obtain⟨wz,hwz⟩:∃z,z=(w0.setCell ⟨L,4,none⟩ (.int .i64 d.tick)):=⟨_,rfl⟩
  have HZR:aa (ah wz L {kind:=6,tick:=d.tick}):=by rw[hwz];exact (HR0.out.setTick d.tick)
  have HZN:aa (Below w.heap.size w wz):=by rw[hwz];exact (HN0.out.setCell (p:=⟨L,4,none⟩) hLw (.int .i64 d.tick))
  have HZB:aa (ah wz R {}):=by rw[hwz];exact (HB0.out.other hRL (j:=4) (.int .i64 d.tick))
  rw[<-hwz]
  clear hwz c4 l4 f4
  obtain⟨r,hr⟩:∃r:RecV,r={kind:=6,tick:=d.tick}:=⟨_,rfl⟩
  have HRZ:aa (ah wz L r):=by rw[hr];exact HZR.out
  have hone:(ae r).all (·.oneCell')=true:=by rw[hr];exact aM _ rfl rfl rfl
  have hi0:(prog.info? 49).map (·.size)=some (ae r).size:=by rw[aj];kernel_rfl
  obtain⟨wf,hwf⟩:=nm (wz.setRow R (ae r))
  have HBF:aa (Below w.heap.size w wf):=by rw[hwf];exact bZ HZN.out (aI (K:=(·≠R)) wz R _ (fun h=>h rfl)) hRw
  have HRF:aa (ah wf R r):=by rw[hwf];exact HZB.out.setRow _
  have HE:aa (eW d w (.returned (.agg (ae r))) wf):=by
   refine⟨r,rfl,?_,HBF.out⟩
   rw[hr,Bj HKD.out.symm]
   exact⟨.slice none 0 0,.slice none 0 0,.slice none 0 0,by simp only[RecD.toV,dU],bA.nil _,cZ.nil _,bA.nil _⟩
  have HWF:=ac hwf
  clear hwf hr
  go_wp2_with (first
   | (refine wpList_load_row rfl _ _ rfl L rfl _ (ae r) (0,0) _ HRZ.out underlying49 rfl hi0 ?_)
   | (refine wpList_store_row rfl _ _ _ rfl R (ae r) rfl rfl 49 _ HZB.out hi0 rfl hone ?_;rw[<-HWF.out])
   | fail)
  refine bodyPost_ret (results_cell_row rfl _ _ R 49 (ae r) (0,0) _ rfl HRF.out underlying49 rfl hi0) rfl ?_
  exact HE.out
theorem vn (d:RecD) (h:d.dig.length=32):(dR d).dig.length=32:=by
 unfold dR
 split
 ·rfl
 split
 ·rfl
 split
 ·exact h
 split
 ·rfl
 split
 ·rfl
 rfl
theorem te (d:RecD) (n:Nat) (h:d.barred.length + d.lots.length + d.owners.length<=n):(dR d).barred.length + (dR d).lots.length + (dR d).owners.length<=n:=by
 unfold dR
 split
 ·show 0 + d.lots.length + d.owners.length<=n
  omega
 split
 ·show d.barred.length + 0 + 0<=n
  omega
 split
 ·exact Nat.zero_le _
 split
 ·exact Nat.zero_le _
 split
 ·exact Nat.zero_le _
 exact Nat.zero_le _
theorem AO {k:Int} (hk:1<=k/\k<=6):k=1\/k=2\/k=3\/k=4\/k=5\/k=6:=by omega
def ii (d:RecD):Bool:=(decide (0<=d.tick) &&(aE d.round 0 15 &&(aE d.lot 0 15 &&(aE d.carrier 0 7 &&decide (d.bid<=4294967296))))) &&(a9 (bO d.barred) d.barred.length &&(decide (d.kind≠5) ||di d.state d.winner d.price))
def o6 (d:RecD):Bool:=decide (d=dR d) &&(if d.kind=1 then dP d else ii d)
theorem xW (d:RecD) (hk:1<=d.kind/\d.kind<=6):o6 d=cF d:=by
 rcases AO hk with e | e | e | e | e | e
 all_goals
  obtain⟨kind,round,lot,carrier,tick,barred,dig,bid,nonce,state,winner,price,carriers,commit,reveal,scheme,lots,owners⟩:=d
  dsimp only at e
  subst e
  rw[Bool.eq_iff_iff]
  simp[o6,cF,dR,bP,dm,bT,ii,ur,dP,dO,aE,a9,di]
  try (constructor <;> intro h <;> simp_all [a9])
theorem xX {W:World} {L:Nat} {r:RecV} (h:ah W L r):W.rangeAt L 0 (ae r).toList:=by
 intro j v hv
 rw[Nat.zero_add,h.cell j]
 simpa using hv
theorem xY (rv:RecV) (d:RecD) (hk:1<=d.kind/\d.kind<=6) (hdg:d.dig.length=32) (hrows:d.barred.length + d.lots.length + d.owners.length<=1099511627776) (w:World) (h:bu w rv d):
  Calls prog 53 #[.agg (ae rv)] w fun e w'=>e=.returned (.bool (o6 d))/\Below w.heap.size w w':=by
 obtain⟨L,hL⟩:=nm (w.heap.size)
 obtain⟨w0,hw0⟩:=nm (w.alloc (.cells (ae rv) 49))
 have HN0:aa (Below w.heap.size w w0):=by rw[hw0];exact af _ _
 have HR0:aa (ah w0 L rv):=by rw[hw0,hL];exact ah.box _ _
 have HRA:aa (bu w0 rv d):=h.on HN0.out
 have HRV:aa (∃ b l o,rv=d.toV b l o/\bA w b d.barred):=by
  obtain⟨b,l,o,e,hb,_,_⟩:=h
  exact⟨b,l,o,e,hb⟩
 have HLL:aa (w.heap.size<=L):=by rw[hL];exact Nat.le_refl _
 have HRS:=ac hrows
 have HDG:=ac hdg
 have HKB:=ac hk
 obtain⟨S,hS⟩:∃S:Bool,S=o6 d:=⟨_,rfl⟩
 have HSB:=ac hS
 rw[<-hS]
 obtain⟨cp,hcp⟩:∃cp,cp=(ae rv).toList:=⟨_,rfl⟩
 have HCP:aa (cp.toArray=ae rv):=by rw[aa,hcp,Array.toArray_toList]
 have hi1:(prog.info? 49).map (·.size)=some cp.length:=by rw[hcp,Array.length_toList,aj];kernel_rfl
 have HCR:aa (∀ W,ah W L rv->W.rangeAt L 0 cp):=by rw[hcp];exact fun W hW=>xX hW
 obtain⟨k,hkk⟩:=nm (d.kind)
 rw[<-hkk] at hk
 have HKK:=ac hkk
 have HRK:aa (rv.kind=k):=by obtain⟨b,l,o,e,_⟩:=h;rw[aa,hkk,e];rfl
 have e1:decide (k<1)=false:=by simp;omega
 have e6:decide (6<k)=false:=by simp;omega
 clear hS h hrows hdg hcp hk hkk
 go_enter func53,ntmps53
 go_upto_region 1 with fail
 rw[<-hw0,<-hL]
 clear hw0 hL
 have HRD:aa (ah w0.drew L rv):=HR0.out.drew
 refine wp_region_held_drew (S:=fun W=>ah W L rv) (by kernel_rfl) HRD.out (fun hHeld=>?_)
 refine ts 0 (.pointer (some ⟨L,0,none⟩)) hHeld ?_
 try simp only[Act.put,ps]
 refine tk 1 (.int .i64 k) hHeld ?_ ?_
 ·intro W hSw
  have c:W.cell? ⟨L,0,none⟩=some (.int .i64 k):=by rw[<-HRK.out];exact hSw.kind
  go_simp
 try simp only[Act.put,ps]
 refine ts 2 (.bool false) hHeld ?_
 try simp only[Act.put,ps]
 refine ts 3 (.bool false) hHeld ?_
 try simp only[Act.put,ps]
 refine ts 4 (.pointer (some ⟨L,0,none⟩)) hHeld ?_
 try simp only[Act.put,ps]
 refine tk 5 (.int .i64 k) hHeld ?_ ?_
 ·intro W hSw
  have c:W.cell? ⟨L,0,none⟩=some (.int .i64 k):=by rw[<-HRK.out];exact hSw.kind
  go_simp
 try simp only[Act.put,ps]
 refine ts 6 (.bool false) hHeld ?_
 try simp only[Act.put,ps]
 refine ts 7 (.bool false) hHeld ?_
 try simp only[Act.put,ps]
 refine ts 8 (.bool false) hHeld ?_
 try simp only[Act.put,ps]
 refine tl 9 (.agg cp.toArray) rfl (yieldsIf_load_mid (by rfl) 49 (.tmp 1) rfl L 0 rfl cp _ (fun W hW=>HCR.out W hW) underlying49 rfl hi1) hHeld ?_
 try simp only[Act.put,ps]
 refine tl 10 (.agg cp.toArray) rfl (yieldsIf_load_mid (by rfl) 49 (.tmp 1) rfl L 0 rfl cp _ (fun W hW=>HCR.out W hW) underlying49 rfl hi1) hHeld ?_
 try simp only[Act.put,ps]
 rw[HCP.out]
 refine rd 11 (fun K hK=>?_)
 go_simp
 refine (xV rv d HKB.out _ (HRA.out.on (aA _))).mono ?_
 rintro ev w3 ⟨r3,rfl,hf3,hb3⟩
 have HB3:aa (Below w.heap.size w w3):=aD HN0.out (aD (aA _) (hb3.mono (by simp)))
 have HD3:aa (Below w0.heap.size w0 w3):=(aA w0).trans (hb3.mono (by simp))
 have HF3:aa (bu w3 r3 (dR d)):=hf3
 have HA3:aa (bu w3 rv d):=HRA.out.on HD3.out
 have HR3:aa (ah w3 L rv):=HR0.out.new HD3.out
 clear hb3 hf3
 refine hK.out _ _ HR3.out (fun hHeld=>?_)
 clear hK K
 try simp only[Act.put,ps]
 refine rd 12 (fun K hK=>?_)
 go_simp
 refine (xk rv r3 d (dR d) HDG.out (vn d HDG.out) HRS.out (te d _ HRS.out) _ HA3.out HF3.out).mono ?_
 rintro ev w4 ⟨rfl,hb4⟩
 have HB4:aa (Below w.heap.size w w4):=aD HB3.out hb4
 have HD4:aa (Below w0.heap.size w0 w4):=HD3.out.trans (hb4.mono HD3.out.size)
 have HR4:aa (ah w4 L rv):=HR0.out.new HD4.out
 have HA4:aa (bu w4 rv d):=HRA.out.on HD4.out
 clear hb4
 refine hK.out _ _ HR4.out (fun hHeld=>?_)
 clear hK K
 by_cases hde:d=dR d
 case neg=>
  have HF:aa (S=false):=by rw[aa,HSB.out,o6,decide_eq_false hde];rfl
  rw[decide_eq_false hde]
  clear hde
  try simp only[Act.put,ps]
  refine ts 13 (.bool true) hHeld ?_
  try simp only[Act.put,ps]
  refine ts 14 (.bool true) hHeld ?_
  try simp only[Act.put,ps]
  refine wpAnyH_done (by kernel_rfl) ?_ _
  go_wp2_with fail
  go_ret
  exact⟨by rw[HF.out];rfl,HB4.out⟩
 have HS1:aa (S=if d.kind=1 then dP d else ii d):=by rw[aa,HSB.out,o6,decide_eq_true hde];rfl
 rw[decide_eq_true hde]
 clear hde
 try simp only[Act.put,ps]
 refine ts 13 (.bool false) hHeld ?_
 try simp only[Act.put,ps]
 refine ts 14 (.bool false) hHeld ?_
 try simp only[Act.put,ps]
 refine wpAnyH_done (by kernel_rfl) ?_ _
 have c0:w4.cell? ⟨L,0,none⟩=some (.int .i64 k):=by rw[<-HRK.out];exact HR4.out.kind
 clear hi1 e1 e6
 by_cases hk1:k=1
 case pos=>
  have HF:aa (S=dP d):=by rw[aa,HS1.out,if_pos (by rw[<-HKK.out];exact hk1)]
  subst hk1
  have hi0:(prog.info? 49).map (·.size)=some (ae rv).size:=by rw[aj];kernel_rfl
  go_wp2_with (first
   | (refine wpList_load_row rfl _ _ rfl L rfl _ (ae rv) (0,0) _ HR4.out underlying49 rfl hi0 ?_)
   | fail)
  refine (si rv d HRS.out _ HA4.out).mono ?_
  rintro ev w5 ⟨rfl,hb5⟩
  have HB5:aa (Below w.heap.size w w5):=aD HB4.out hb5
  clear hb5
  go_wp2_with fail
  go_ret
  exact⟨by rw[HF.out];rfl,HB5.out⟩
 have HS2:aa (S=ii d):=by rw[aa,HS1.out,if_neg (by rw[<-HKK.out];exact hk1)]
 have e1:(k==1)=false:=by simpa using hk1
 clear hk1
 obtain⟨bv,lv,ov,hrv,hbv⟩:=HRV.out
 have HBV:aa (bA w4 bv d.barred):=hbv.on HB4.out
 clear hbv
 subst hrv
 obtain⟨nb,hnb⟩:=nm (d.barred.length)
 have HNB:=ac hnb
 have hnb40:nb<=1099511627776:=by have:=HRS.out;omega
 have c4:w4.cell? ⟨L,4,none⟩=some (.int .i64 d.tick):=HR4.out.tick
 have c1:w4.cell? ⟨L,1,none⟩=some (.int .i64 d.round):=HR4.out.round
 have c2:w4.cell? ⟨L,2,none⟩=some (.int .i64 d.lot):=HR4.out.lot
 have c3:w4.cell? ⟨L,3,none⟩=some (.int .i64 d.carrier):=HR4.out.carrier
 have c38:w4.cell? ⟨L,38,none⟩=some (.int .u64 d.bid):=HR4.out.bid
 clear hnb
 by_cases ht:0<=d.tick
 case neg=>
  have HF:aa (S=false):=by rw[aa,HS2.out,ii,decide_eq_false ht];rfl
  have et:decide (d.tick<0)=true:=by simp;omega
  clear ht
  go_wp2_with fail
  go_ret
  exact⟨by rw[HF.out];rfl,HB4.out⟩
 have HT:aa (decide (0<=d.tick)=true):=decide_eq_true ht
 have et:decide (d.tick<0)=false:=by simp;omega
 clear ht
 go_wp2_with fail
 refine (cG d.round 0 15 _).mono ?_
 rintro e wq ⟨rfl,hwq⟩
 rw[hwq]
 clear hwq wq
 obtain⟨B7,hB7⟩:∃B:Bool,B=aE d.round 0 15:=⟨_,rfl⟩
 rw[<-hB7]
 cases B7 with
 | false=>
  have HF:aa (S=false):=by rw[aa,HS2.out,ii,<-hB7];simp
  clear hB7
  go_wp2_with fail
  go_ret
  exact⟨by rw[HF.out];rfl,HB4.out⟩
 | true=>
  have HB7:aa (aE d.round 0 15=true):=hB7.symm
  clear hB7
  go_wp2_with fail
  refine (cG d.lot 0 15 _).mono ?_
  rintro e wq ⟨rfl,hwq⟩
  rw[hwq]
  clear hwq wq
  obtain⟨B8,hB8⟩:∃B:Bool,B=aE d.lot 0 15:=⟨_,rfl⟩
  rw[<-hB8]
  cases B8 with
  | false=>
   have HF:aa (S=false):=by rw[aa,HS2.out,ii,<-hB8];simp
   clear hB8
   go_wp2_with fail
   go_ret
   exact⟨by rw[HF.out];rfl,HB4.out⟩
  | true=>
   have HB8:aa (aE d.lot 0 15=true):=hB8.symm
   clear hB8
   go_wp2_with fail
   refine (cG d.carrier 0 7 _).mono ?_
   rintro e wq ⟨rfl,hwq⟩
   rw[hwq]
   clear hwq wq
   obtain⟨B9,hB9⟩:∃B:Bool,B=aE d.carrier 0 7:=⟨_,rfl⟩
   rw[<-hB9]
   cases B9 with
   | false=>
    have HF:aa (S=false):=by rw[aa,HS2.out,ii,<-hB9];simp
    clear hB9
    go_wp2_with fail
    go_ret
    exact⟨by rw[HF.out];rfl,HB4.out⟩
   | true=>
    have HB9:aa (aE d.carrier 0 7=true):=hB9.symm
    clear hB9
    by_cases hbd:d.bid<=4294967296
    case neg=>
     have HF:aa (S=false):=by rw[aa,HS2.out,ii,decide_eq_false hbd];simp
     have eb:decide ((4294967296:Int)<d.bid)=true:=by simp;omega
     clear hbd
     go_wp2_with fail
     go_ret
     exact⟨by rw[HF.out];rfl,HB4.out⟩
    have HBD:aa (decide (d.bid<=4294967296)=true):=decide_eq_true hbd
    have eb:decide ((4294967296:Int)<d.bid)=false:=by simp;omega
    clear hbd
    have HS3:aa (S=(a9 (bO d.barred) nb &&(decide (k≠5) ||di d.state d.winner d.price))):=by
     rw[aa,HS2.out,ii,HT.out,HB7.out,HB8.out,HB9.out,HBD.out,HNB.out,HKK.out];rfl
    have H0:aa (a9 (bO d.barred) 0=true):=rfl
    go_wp2_with fail
    clear et eb e1 c0 c1 c2 c3 c4 c38
    go_loopg [3] nb (fun gk v3 wr=>∃k:Nat,k<=nb/\v3=.int .i64 k/\nb - k<=gk/\aa (a9 (bO d.barred) k=true)/\aa (Below w4.heap.size w4 wr))
    case atStart=>exact⟨0,by omega,rfl,by omega,H0,Below.refl _ _⟩
    case round=>
     clear H0
     obtain⟨i,hi,rfl,hgi,HA,HBL⟩:=hrel
     have HX2:aa (∀ nq,Below w4.heap.size w4 (wr.drewN nq)):=fun nq=>aD HBL.out (ay _ _)
     have HRr:aa (ah wr L (d.toV bv lv ov)):=HR4.out.new HBL.out
     have HBr:aa (bA wr bv d.barred):=HBV.out.on HBL.out
     have c5:wr.cell? ⟨L,5,none⟩=some bv:=HRr.out.barred
     obtain⟨a',cap',rfl,hcapq,hj0⟩:=HBr.out
     rw[<-HNB.out] at c5
     clear hcapq
     by_cases hlt:i<nb
     ·have hki:(i:Int)<nb:=by omega
      obtain⟨lb,lo,rfl,hlb,hj⟩:=hj0 (by have:=HNB.out;omega)
      clear hj0
      have d0:=hj i (by rw[<-HNB.out];exact hlt)
      obtain⟨x,hxk⟩:=nm (d.barred.getD i 0)
      rw[<-hxk] at d0
      have HXK:=ac hxk
      obtain⟨B1,hB1⟩:∃B:Bool,B=aE x 0 7:=⟨_,rfl⟩
      have HBA:=ac hB1
      have HC:aa (∀ W,Calls prog 87 #[.int .i64 x,.int .i64 0,.int .i64 7] W fun e w'=>e=.returned (.bool B1)/\w'=W):=by
       rw[hB1];exact fun W=>cG x 0 7 W
      clear hxk hB1
      cases B1 with
      | false=>
       have HF:aa (S=false):=by
        have:=ee (bO d.barred) i nb hlt (by rw[bO,<-HXK.out,<-HBA.out];rfl)
        rw[aa,HS3.out,this];rfl
       clear hj
       go_upto_region 10 with fail
       go_quiet (first | (go_at_call 87;exact Calls.quiet_of_same (HC.out _)))
       have HLAST:=ac (aD HB4.out (HX2.out nq))
       go_wp2_with fail
       go_ret
       exact⟨by rw[HF.out];rfl,HLAST.out⟩
      | true=>
       by_cases hi0:i=0
       ·have HA2:aa (a9 (bO d.barred) (i + 1)=true):=by
         rw[aa,a9,HA.out,bO,<-HXK.out,<-HBA.out,hi0];rfl
        subst hi0
        rw[Nat.add_zero] at d0
        clear hj
        go_upto_region 10 with fail
        go_quiet (first | (go_at_call 87;exact Calls.quiet_of_same (HC.out _)))
        go_wp2_with fail
        go_roundg (nb - (0 + 1))
        case measure=>omega
        case rel=>exact⟨0 + 1,by omega,rfl,by omega,HA2,HX2.out _⟩
       ·have d1:=hj (i - 1) (by have:=HNB.out;omega)
        obtain⟨y,hyk⟩:=nm (d.barred.getD (i - 1) 0)
        rw[<-hyk] at d1
        have HYK:=ac hyk
        clear hj hyk
        have hic:((i - 1:Nat):Int)=(i:Int) - 1:=by omega
        obtain⟨j,hji⟩:∃j,i=j + 1:=⟨i - 1,by omega⟩
        subst hji
        have ej:j + 1 - 1=j:=by omega
        rw[ej] at d1
        clear hic ej hi0
        by_cases hxy:x<=y
        ·have HF:aa (S=false):=by
          have:=ee (bO d.barred) (j + 1) nb hlt (by rw[bO,<-HXK.out,<-HYK.out,decide_eq_false (p:=j + 1=0) (by omega),decide_eq_false (p:=y<x) (by omega)];simp)
          rw[aa,HS3.out,this];rfl
         have exy:decide (x<=y)=true:=decide_eq_true hxy
         clear hxy
         go_upto_region 10 with fail
         go_quiet (first | (go_at_call 87;exact Calls.quiet_of_same (HC.out _)))
         have HLAST:=ac (aD HB4.out (HX2.out nq))
         go_wp2_with fail
         go_ret
         exact⟨by rw[HF.out];rfl,HLAST.out⟩
        ·have HA2:aa (a9 (bO d.barred) (j + 1 + 1)=true):=by
          rw[aa,a9,HA.out,bO,<-HXK.out,<-HBA.out,<-HYK.out,decide_eq_true (p:=y<x) (by omega)];simp
         have exy:decide (x<=y)=false:=decide_eq_false hxy
         clear hxy
         go_upto_region 10 with fail
         go_quiet (first | (go_at_call 87;exact Calls.quiet_of_same (HC.out _)))
         go_wp2_with fail
         go_roundg (nb - (j + 1 + 1))
         case measure=>omega
         case rel=>exact⟨j + 1 + 1,by omega,rfl,by omega,HA2,HX2.out _⟩
     ·have hki:¬(i:Int)<nb:=by omega
      have hin:i=nb:=by omega
      have HS4:aa (S=(decide (k≠5) ||di d.state d.winner d.price)):=by rw[aa,HS3.out,<-hin,HA.out];rfl
      have c0:wr.cell? ⟨L,0,none⟩=some (.int .i64 k):=by rw[<-HRK.out];exact HRr.out.kind
      clear hin hj0 hlt
      by_cases hk5:k=5
      ·have HF:aa (S=di d.state d.winner d.price):=by rw[aa,HS4.out,decide_eq_false (p:=k≠5) (by omega)];rfl
       subst hk5
       have c40:wr.cell? ⟨L,40,none⟩=some (.int .i64 d.state):=HRr.out.state
       have c41:wr.cell? ⟨L,41,none⟩=some (.int .i64 d.winner):=HRr.out.winner
       have c42:wr.cell? ⟨L,42,none⟩=some (.int .u64 d.price):=HRr.out.price
       go_wp2_with fail
       refine (pz d.state d.winner d.price wr).mono ?_
       rintro e w6 ⟨rfl,hb6⟩
       have HLAST:=ac (aD (aD HB4.out HBL.out) hb6)
       clear hb6 c0 c40 c41 c42
       go_wp2_with fail
       go_ret
       exact⟨by rw[HF.out];rfl,HLAST.out⟩
      ·have HF:aa (S=true):=by rw[aa,HS4.out,decide_eq_true (p:=k≠5) hk5];rfl
       have e5:(k !=5)=true:=by simpa using hk5
       have HLAST:=ac (aD HB4.out HBL.out)
       go_wp2_with fail
       go_ret
       exact⟨by rw[HF.out];rfl,HLAST.out⟩
    end Go.Proofs.YtfnekbfcndkjeaaGreatDoor
