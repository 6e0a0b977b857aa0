/- Play, walked. -/
import Derived.Test.YtfnekbfcndkjeaaGreatDoorZMsl1
import Derived.Test.YtfnekbfcndkjeaaGreatDoorZOf2
set_option maxHeartbeats 4000000
set_option maxRecDepth 100000
set_option linter.all false
namespace Go.Proofs.YtfnekbfcndkjeaaGreatDoor
open Go.Proofs.Tryz Go.RowKit
open Vk (vickOf)
theorem qJ {S:Nat->Prop} {n:Nat} {w:World} {p:Nat} {v:bS} {st:MSt} (h:bB S n w p v st) (hS:∀k,S k->k<w.heap.size) (hno:st.opn=none) (rv:RecV):
  Calls prog 44 #[.pointer (some ⟨p,0,none⟩),.agg (ae rv)] w (dF S n w p st none):=by
 obtain⟨L,hL⟩:=nm (w.heap.size)
 obtain⟨w0,hw0⟩:=nm (w.alloc (.cells (ae rv) 49))
 have HN0:aa (Below w.heap.size w w0):=by rw[hw0];exact af _ _
 have HR0:aa (ah w0 L rv):=by rw[hw0,hL];exact ah.box _ _
 have HH:=ac h
 have HSS:=ac hS
 have HNO:=ac hno
 have hi0:(prog.info? 49).map (·.size)=some (ae rv).size:=by rw[aj];kernel_rfl
 clear h hS hno
 go_enter func44,ntmps44
 go_upto_region 1 with fail
 rw[<-hw0,<-hL]
 clear hw0 hL
 go_wp2_with (guard_target =~ wpList _ _ _ _ _ _;refine wpList_load_row rfl _ _ rfl L rfl _ (ae rv) (0,0) _ HR0.out underlying49 rfl hi0 ?_)
 refine (lx (HH.out.new HN0.out) HNO.out rv).mono ?_
 rintro e w1 ⟨rfl,hb1⟩
 have HN1:=ac (HN0.out.trans (hb1.mono HN0.out.size))
 clear hb1 hi0
 go_wp2_with fail
 go_ret
 exact aW HH.out HSS.out HN1.out
theorem lG (f:Int->Option Int):∀k,(d8 f k).length<=k
 | 0=>Nat.le_refl _
 | k + 1=>by
  have:=lG f k
  rw[d8,List.length_append]
  split <;> simp <;> omega
def b8 (bs:List (Int × Int)):List Value:=bs.flatMap fun x=>[.int .i64 x.1,.int .u64 x.2]
theorem qK (bs:List (Int × Int)):∀j,j<bs.length->(b8 bs)[j * 2]?=some (.int .i64 bs[j]!.1)/\(b8 bs)[j * 2 + 1]?=some (.int .u64 bs[j]!.2):=by
 induction bs with
 | nil=>intro j h;simp at h
 | cons x xs ih=>
  intro j h
  cases j with
  | zero=>exact⟨rfl,rfl⟩
  | succ j=>
   have:=ih j (by simpa using h)
   have e:b8 (x :: xs)=.int .i64 x.1 :: .int .u64 x.2 :: b8 xs:=rfl
   rw[e,show (j + 1) * 2=j * 2 + 1 + 1 by omega]
   simpa using this
theorem js {base:Nat} {w:World} {v:Value} {bs:List (Int × Int)} (h:w.ownsRow base 60 2 v bs.length (b8 bs)):gC w v bs:=by
 obtain⟨a,cap,e,_,hx⟩:=az h
 by_cases h0:0<bs.length
 ·obtain⟨g,ea,_,hg,hj⟩:=hx h0
  subst ea
  refine .inr ⟨g,0,cap,e,fun _=>hg,fun j hjl=>?_⟩
  have:=qK bs j hjl
  rw[Nat.zero_add]
  exact⟨hj _ _ this.1,hj _ _ this.2⟩
 ·obtain rfl:bs=[]:=List.length_eq_zero_iff.1 (by omega)
  rcases h.2 with ⟨e,_⟩ | ⟨g,cap,_,e,_⟩
  ·exact .inl ⟨.inl e,rfl⟩
  ·exact .inl ⟨.inr ⟨_,_,e⟩,rfl⟩
theorem Tryz.infoBd:(prog.info? 60).map (fun i=>(i.zero,i.size,i.bytes))=some (some (.agg #[.int .i64 0,.int .u64 0]),2,16):=by kernel_rfl
theorem AG (a b c x y z:Int) (w:World):(binOp .neq 46 (.agg #[.int .i64 a,.int .i64 b,.int .u64 c]) (.agg #[.int .i64 x,.int .i64 y,.int .u64 z])).run prog w=.ok (.bool (!(a==x &&(b==y &&c==z)))) w:=by
 have u3:=underlying3
 have a3:=Tryz.isAgg3
 have z3:=Tryz.sizeOf3
 have u23:=underlying44
 have a23:=Tryz.isAgg44
 have z23:=Tryz.sizeOf44
 rw[run_neq_struct,show (10000:Nat)=9999 + 1 from rfl,run_equalIn_agg w 9999 46 _ _ Tryz.structOut Tryz.heldOut]
 simp only[Program.fieldsOf,underlying46]
 go_simp
 by_cases h1:a=x <;> by_cases h2:b=y <;> by_cases h3:c=z <;> simp[h1,h2,h3]
theorem dH {P:Program} {ops:Array Oper} {Q:Exit->Act->World->Prop} {md:Region.Mode} {S:World->Prop} {t:Nat} {j:Nat} {o:Oper} {n:Nat} {listed:Array Bool} {a:Act} {w:World} (hr:Region.ready md ops listed=[j]) (ho:ops[j]?=some o)
  (h:∀K:Act->World->Prop,Shut (∀ b u,S u->dK P md ops Q S t n (listed.setIfInBounds j true) b u->K b u)->if Region.wanted o (yielded ops a.tmps)=true then Oper.wp P o a w K Q else K (a.put o.dst undef) w):dK P md ops Q S t (n + 1) listed a w:=
 ⟨fun h0=>(by rw[hr] at h0;cases h0),fun k hk=>by
  rw[hr] at hk
  obtain rfl:=List.mem_singleton.1 hk
  exact wpOp_step ho fun K hK=>h K fun b u hs hb=>hK b u ⟨.inr hs,hb⟩⟩
theorem nw {ops:Array Oper} {o:Oper} {a:Act} {K:Act->World->Prop} {Q:Exit->Act->World->Prop} {E':Prop} {w:World} (hgd:o.guard=none) (s x:Operand) (t:TypeId)
  (ho:o.op=.call {callee:=.builtin .append,args:=#[s,x],argTypes:=#[t,t]}) (e:TypeId) (z:Value) (size bytes:Nat) (ht:prog.underlying t=some (.slice e)) (hE:(prog.info? e).map (fun i=>(i.zero,i.size,i.bytes))=some (some z,size,bytes)) (hzs:z.cells.size=size) (hsz:0<size)
  (v:Value) (n:Nat) (xs:List Value) (hs:a.eval s=v) (hown:w.ownsRow 0 e size v n xs) (g:Nat) (y:List Value) (hx:a.eval x=.slice (some ⟨g,0,none⟩) 1 1) (hy1:y.length=size) (hy:∀j u,y[j]?=some u->w.cell? ⟨g,j,none⟩=some u) (hone:∀u∈y,u.oneCell'=true)
  (hlen:n + 1<=maxLen) (hby:(n + 1) * bytes<=140737488355328)
  (h:∀v' w',w'.ownsRow 0 e size v' (n + 1) (xs++y)->w.grownBy w' v.ownBlock->(v'.ownBlock=v.ownBlock\/v'.ownBlock=some w.heap.size)->K (a.put o.dst v') w'):
  if Region.wanted o (yielded ops a.tmps)=true then Oper.wp prog o a w K Q else E':=by
 have hw:Region.wanted o (yielded ops a.tmps)=true:=by simp[Region.wanted,hgd]
 rw[if_pos hw]
 obtain⟨i,hi,hz,h1,h2⟩:=info_parts hE
 obtain⟨v',w',hr,r1,r2,_,r4⟩:=run_append_own_at (P:=prog) w 0 t o.type e i z size bytes ht hi hz h1 h2 hzs hsz v n xs hown ⟨g,0,none⟩ 1 1 y (by rw[Nat.one_mul];exact hy1) (fun j u hu=>by
  rw[show (⟨g,0,none⟩:Addr).add j=⟨g,j,none⟩ by simp only[Addr.add];split <;> simp_all]
  exact hy j u hu) hone hlen hby (Nat.zero_le _)
 unfold Oper.wp execOp
 simp only[ho,resolve,invoke,builtin,Sem.run_bind,Sem.run_pure,Result.andThen_ok,List.map_toArray,List.map_cons,List.map_nil,hs,hx,hr]
 exact h v' w' r1 r2 r4
theorem pO (xs:List OutT):(dt xs).length=xs.length * 3:=by
 induction xs with
 | nil=>rfl
 | cons x xs ih=>
  have e:dt (x :: xs)=.int .i64 x.1 :: .int .i64 x.2.1 :: .int .u64 x.2.2 :: dt xs:=rfl
  rw[e,List.length_cons,List.length_cons,List.length_cons,ih,List.length_cons]
  omega
theorem sE {S:Nat->Prop} {n:Nat} {w w7 w8 w9 wA wB wz:World} {p og sg no ns ocap scap lt rqn:Nat} {v:bS} {st:MSt} {op:Opn} {d:RecD} {nv:Value} {ocur' scur':Array Value} (h:bB S n w p v st) (hS:∀k,S k->k<w.heap.size)
  (hlt:op.lot=lt) (hlt2:lt<st.states.length) (hrq:(st.scene.lots.getD lt (0,0)).1=rqn)
  (hb7:Below w.heap.size w w7) (hno:no=st.owners.length) (hns:ns=st.states.length) (hvo:v.owners=.slice (some ⟨og,0,none⟩) no ocap) (hoc:no<=ocap) (hom:ocap<=maxLen)
  (hvs:v.states=.slice (some ⟨sg,0,none⟩) ns scap) (hsc:ns<=scap) (hsm:scap<=maxLen)
  (k8:am (·≠og) w7 w8) (ho8:w8.heap[og]?=some (.cells ocur' 3 (0,0))) (hos:ocur'.size=ocap) (hoj:∀j,j<no->ocur'[j]?=some (.int .i64 ((if d.state=2 then st.owners.set rqn d.winner else st.owners).getD j 0)))
  (k9:am (·≠sg) w8 w9) (hs9:w9.heap[sg]?=some (.cells scur' 3 (0,0))) (hss:scur'.size=scap) (hsj:∀j,j<ns->scur'[j]?=some (.int .i64 ((st.states.set lt d.state).getD j 0)))
  (hA:Below w9.heap.size w9 wA) (hgr:wA.grownBy wB v.outs.ownBlock) (hnv:wB.ownsRow 0 46 3 nv (st.outs.length + 1) (dt st.outs++[.int .i64 d.state,.int .i64 d.winner,.int .u64 d.price]))
  (hloc:∀k,nv.ownBlock=some k->v.outs.ownBlock=some k\/wA.heap.size<=k) (kz:am (·≠p) wB wz) (hm:aV wz p {v with outs:=nv,opn:=.pointer none}):
  dF S n w p st (some (eY st op d)) (.returned (.bool true)) wz:=by
 have hog:v.owners.ownBlock=some og:=by rw[hvo];rfl
 have hsg:v.states.ownBlock=some sg:=by rw[hvs];rfl
 obtain⟨oc0,hO⟩:=h.owners.block og hog
 obtain⟨sc0,hSt⟩:=h.states.block sg hsg
 have hogp:og≠p:=h.here.ne hO (by decide)
 have hsgp:sg≠p:=h.here.ne hSt (by decide)
 have hos2:og≠sg:=fun e=>h.ap1 og hog (by rw[e];exact hsg)
 have hOut:∀k,v.outs.ownBlock=some k->k≠og/\k≠sg/\k≠p:=fun k hk=>by
  obtain⟨cc,hc⟩:=h.outs.block k hk
  exact⟨kI hc hO (by decide),kI hc hSt (by decide),h.here.ne hc (by decide)⟩
 have kB:am (fun k=>v.outs.ownBlock≠some k) wA wB:=aF hgr _ (fun k hk=>by rw[hk];simp)
 have k9z:am (fun k=>v.outs.ownBlock≠some k/\k≠p) w9 wz:=((ak hA _).trans (kB.mono (fun k _ hk=>hk.1))).trans (kz.mono (fun k _ hk=>hk.2))
 have k8z:am (fun k=>k≠sg/\v.outs.ownBlock≠some k/\k≠p) w8 wz:=(k9.mono (fun k _ hk=>hk.1)).trans (k9z.mono (fun k _ hk=>hk.2))
 have k0z:am (fun k=>k≠og/\k≠sg/\v.outs.ownBlock≠some k/\k≠p) w wz:=((ak hb7 _).trans (k8.mono (fun k _ hk=>hk.1))).trans (k8z.mono (fun k _ hk=>hk.2))
 have nOut:∀k,(∃ cc,w.heap[k]?=some (.cells cc 3 (0,0)))->v.outs.ownBlock≠some k:=fun k ⟨cc,hc⟩ e=>by
  obtain⟨c2,h2⟩:=h.outs.block k e
  rw[hc] at h2;injection h2 with h2;injection h2 with _ h2 _;revert h2;decide
 have hoz:wz.heap[og]?=some (.cells ocur' 3 (0,0)):=aw ho8 k8z ⟨hos2,nOut og ⟨oc0,hO⟩,hogp⟩
 have hsz:wz.heap[sg]?=some (.cells scur' 3 (0,0)):=aw hs9 k9z ⟨nOut sg ⟨sc0,hSt⟩,hsgp⟩
 have s0:=k0z.size
 have hwA:w.heap.size<=wA.heap.size:=Nat.le_trans hb7.size (Nat.le_trans k8.size (Nat.le_trans k9.size hA.size))
 refine⟨rfl,fun k=>S k\/(w.heap.size<=k/\k<wz.heap.size),⟨_,⟨hm,.inl h.own,h.scn,?_,?_,?_,?_,?_,h.ap1,h.ap2,h.ap3,rfl,h.tick,h.ended,?_,h.sok⟩⟩,k0z.mono (fun k _ hk=>⟨fun e=>hk (by rw[e];exact h.owners.2 og hog),fun e=>hk (by rw[e];exact h.states.2 sg hsg),fun e=>hk (h.outs.2 k e),fun e=>hk (by rw[e];exact h.own)⟩),fun k hk=>hk.imp id (fun h=>h.1),fun k hk=>by rcases hk with hk | hk;exact Nat.lt_of_lt_of_le (hS k hk) s0;exact hk.2⟩
 ·exact (h.lots.keep k0z (fun k hk=>by
   obtain⟨cc,hc⟩:=h.lots.block k hk
   exact⟨kI hc hO (by decide),kI hc hSt (by decide),fun e=>by
    obtain⟨c2,h2⟩:=h.outs.block k e
    rw[hc] at h2;injection h2 with h2;injection h2 with _ h2 _;revert h2;decide,h.here.ne hc (by decide)⟩)).wide (fun k hk=>.inl hk)
 ·show eZ _ wz v.owners (if d.state=2 then st.owners.set (st.req op.lot.toNat) d.winner else st.owners)
  have e:st.req op.lot.toNat=rqn:=by rw[MSt.req,hlt,Int.toNat_natCast,hrq,Int.toNat_natCast]
  have hl:(if d.state=2 then st.owners.set rqn d.winner else st.owners).length=no:=by split <;> simp[hno]
  rw[e,hvo]
  exact gx (.inl (h.owners.2 og hog)) hl.symm (by rw[hl];exact hoc) hom hoz hos (fun j hj=>hoj j (by rw[hl] at hj;exact hj))
 ·show eZ _ wz v.states (st.states.set op.lot.toNat d.state)
  rw[hlt,Int.toNat_natCast,hvs]
  exact gx (.inl (h.states.2 sg hsg)) (by rw[List.length_set,hns]) (by rw[List.length_set,<-hns];exact hsc) hsm hsz hss (fun j hj=>hsj j (by rw[List.length_set,<-hns] at hj;exact hj))
 ·have e:dt (st.outs++[(d.state,d.winner,d.price)])=dt st.outs++[.int .i64 d.state,.int .i64 d.winner,.int .u64 d.price]:=by simp[dt]
  refine⟨?_,fun k hk=>?_⟩
  ·show wz.ownsRow 0 46 3 nv (st.outs++[(d.state,d.winner,d.price)]).length _
   rw[List.length_append]
   show wz.ownsRow 0 46 3 nv (st.outs.length + 1) (dt (st.outs++[(d.state,d.winner,d.price)]))
   rw[e]
   have hne:∀k,nv.ownBlock=some k->k≠p:=fun k hk=>by
    rcases hloc k hk with e | e
    ·exact (hOut k e).2.2
    ·have:=hS p h.own;omega
   obtain⟨e1,e2⟩:=hnv
   refine⟨e1,e2.imp_right ?_⟩
   rintro⟨g,cap,cur,e3,hg,hh,r⟩
   exact⟨g,cap,cur,e3,hg,aw hh kz (hne g (by rw[e3];rfl)),r⟩
  ·rcases hloc k hk with e | e
   ·exact .inl (h.outs.2 k e)
   ·exact .inr ⟨by omega,Nat.lt_of_lt_of_le (World.ownsRow.lt hnv k hk).2 kz.size⟩
 ·exact (h.barred.keep k0z (fun k hk=>by
   obtain⟨cc,hc⟩:=h.barred.block k hk
   exact⟨fun e=>h.ap2 og hog (by rw[<-e];exact hk),fun e=>h.ap3 sg hsg (by rw[<-e];exact hk),nOut k ⟨cc,hc⟩,h.here.ne hc (by decide)⟩)).wide (fun k hk=>.inl hk)
 ·show (st.outs++[(d.state,d.winner,d.price)]).length<=n + 1
  rw[List.length_append]
  exact Nat.succ_le_succ h.nout
theorem uP {S:Nat->Prop} {w:World} {u:Value} {xs:List (Int × Int)} (h:rI S w u xs) (k:Nat) (hk:k<xs.length):∃g cap,u=.slice (some ⟨g,0,none⟩) xs.length cap/\S g/\w.cell? ⟨g,k * 2,none⟩=some (.int .i64 (xs.getD k (0,0)).1)/\w.cell? ⟨g,k * 2 + 1,none⟩=some (.int .i64 (xs.getD k (0,0)).2):=by
 obtain⟨a,cap,e,_,hx⟩:=az h.1
 obtain⟨g,ea,_,hg,hj⟩:=hx (by omega)
 have:=gQ xs k hk
 exact⟨g,cap,by rw[e,ea],h.2 g (by rw[e,ea];rfl),hj _ _ this.1,hj _ _ this.2⟩
theorem qL {S:Nat->Prop} {n:Nat} {w:World} {p:Nat} {v:bS} {st:MSt} (h:bB S n w p v st) (hS:∀k,S k->k<w.heap.size) (hn:n<1000000000) (hwf:st.Wf) (op:Opn) (hop:st.opn=some op) (rv:RecV) (d:RecD) (hrv:∃b l ow,rv=d.toV b l ow) (htk:0<=d.tick/\d.tick<=9223372036854775807):
  Calls prog 44 #[.pointer (some ⟨p,0,none⟩),.agg (ae rv)] w (dF S n w p st (if eJ st op d then some (eY st op d) else none)):=by
 obtain⟨R,hR⟩:∃R,R=(if eJ st op d then some (eY st op d) else none):=⟨_,rfl⟩
 rw[<-hR]
 have HR:=ac hR
 clear hR
 obtain⟨L,hL⟩:=nm (w.heap.size)
 obtain⟨w0,hw0⟩:=nm (w.alloc (.cells (ae rv) 49))
 have HN0:aa (Below w.heap.size w w0):=by rw[hw0];exact af _ _
 have HR0:ah w0 L rv:=by rw[hw0,hL];exact ah.box _ _
 have HLw:aa (w.heap.size<=L):=Nat.le_of_eq hL.symm
 have hrr:rv.round=d.round:=by obtain⟨b,l,ow,e⟩:=hrv;rw[e];rfl
 have hrt:rv.tick=d.tick:=by obtain⟨b,l,ow,e⟩:=hrv;rw[e];rfl
 have hrs:rv.state=d.state/\rv.winner=d.winner/\rv.price=d.price:=by obtain⟨b,l,ow,e⟩:=hrv;rw[e];exact⟨rfl,rfl,rfl⟩
 have HRS:=ac hrs
 have HH:=ac h
 have HSS:=ac hS
 have HWF:=ac hwf
 have HO:=ac hop
 obtain⟨r,mb,bb,hov,hsr,hsm,hsb,hmb,hrnd,hmm,hbm,hlen⟩:fR S n w v.opn (some op):=by rw[<-hop];exact h.opn
 have HOV:=ac hov
 have HSM:=ac hsm
 have HLEN:=ac hlen
 have HMB:=ac hmb
 have HRB:aa (∃ cs,w.heap[r]?=some (.cells cs 133 (0,0))/\cs[49]?=some (.map (some mb))):=by obtain⟨cs,k0,_,_,_,k49,_⟩:=hrnd;exact⟨cs,k0,k49⟩
 have HMBL:aa (∃ es ck,w.heap[mb]?=some (.map es ck)):=hmm.block
 have HC0:aa (ey n w0 p L r mb bb v op rv):=⟨h.here.new HN0.out,hrnd.keeps (ak HN0.out (fun _=>True)) trivial,hmm.new HN0.out,hbm.new HN0.out,HR0⟩
 have HG0:=ac (jB (h.new HN0.out) hwf op hop rv (by rw[hrt];exact htk))
 have hi0:(prog.info? 49).map (·.size)=some (ae rv).size:=by rw[aj];kernel_rfl
 have hlot:=(hwf.opn op hop).1
 have hlens:=hwf.lens
 have hnl:=hwf.nlots
 clear h hS hwf hop hrnd hmm hbm hlen hov hsr hsm hsb hmb hrv hrs htk
 obtain⟨g,hg⟩:=nm (d.tick - op.tick)
 have HGE:=ac hg
 rw[hrr,hrt,<-hg] at HG0
 obtain⟨lt,hlt⟩:∃q:Nat,op.lot=q:=Int.eq_ofNat_of_zero_le hlot.1
 have HLT:=ac hlt
 have hlt2:lt<st.scene.lots.length:=by omega
 have HLT2:=ac hlt2
 clear hg hlt hlot HR0 hlt2
 go_enter func44,ntmps44
 go_upto_region 1 with fail
 rw[<-hw0,<-hL]
 clear hw0 hL
 go_wp2_with (guard_target =~ wpList _ _ _ _ _ _;refine wpList_load_row rfl _ _ rfl L rfl _ (ae rv) (0,0) _ HC0.out.rc underlying49 rfl hi0 ?_)
 refine HG0.out.mono ?_
 rintro e w1 ⟨rfl,hb1⟩
 have HN1:=ac (HN0.out.trans (hb1.mono HN0.out.size))
 have HC1:=ac (HC0.out.new hb1)
 clear hb1 hi0 HC0 HG0
 by_cases hxy:d.round=op.round
 case neg=>
  have HNP:aa (¬ eJ st op d):=fun h=>hxy h.1
  rw[if_neg hxy]
  clear hxy hrr hrt
  go_wp2_with fail
  go_ret
  rw[HR.out,if_neg HNP.out]
  exact aW HH.out HSS.out HN1.out
 case pos=>
 have HXY:=ac hxy
 rw[if_pos hxy]
 clear hxy hrr hrt
 have HDUE:=ac (mw (HH.out.new HN1.out) HWF.out)
 obtain⟨du,hdu⟩:=nm (st.due)
 rw[<-hdu] at HDUE
 have HDU:=ac hdu
 clear hdu
 go_wp2_with fail
 refine HDUE.out.mono ?_
 rintro e w2 ⟨rfl,q2,hw2⟩
 have HN2:aa (Below w.heap.size w w2):=by rw[hw2];exact bH HN1.out q2
 have HC2:aa (ey n w2 p L r mb bb v op rv):=by rw[hw2];exact HC1.out.new (ay _ _)
 clear hw2 HC1
 by_cases h2:g=du
 case neg=>
  have HNP:aa (¬ eJ st op d):=fun h=>h2 (by rw[HGE.out,HDU.out];exact h.2.1)
  have hb2:(g !=du)=true:=by simpa using h2
  clear h2
  go_wp2_with fail
  go_ret
  rw[HR.out,if_neg HNP.out]
  exact aW HH.out HSS.out HN2.out
 case pos=>
 have HGD:=ac h2
 have hb2:(g !=du)=false:=by simpa using h2
 have HH2:=ac (HH.out.new HN2.out)
 obtain⟨lg,lcap,hlv,hlS,hl1,hl2⟩:=uP HH2.out.lots lt HLT2.out
 obtain⟨rq,hrq⟩:∃x,x=(st.scene.lots.getD lt (0,0)).1:=⟨_,rfl⟩
 obtain⟨rs,hrs⟩:∃x,x=(st.scene.lots.getD lt (0,0)).2:=⟨_,rfl⟩
 obtain⟨nlt,hnlt⟩:=nm (st.scene.lots.length)
 rw[<-hrq] at hl1
 rw[<-hrs] at hl2
 have c47:w2.cell? ⟨p,47,none⟩=some (.slice (some ⟨lg,0,none⟩) nlt lcap):=by rw[hnlt,<-hlv];exact HC2.out.md.rlots
 have c52:w2.cell? ⟨p,52,none⟩=some (.pointer (some ⟨r,0,none⟩)):=by rw[<-HOV.out];exact HC2.out.md.opn
 have r2:w2.cell? ⟨r,2,none⟩=some (.int .i64 lt):=by rw[<-HLT.out];exact HC2.out.rnd.lot
 have hli:(lt:Int)<nlt:=by have:=HLT2.out;rw[hnlt];omega
 have HLV:aa (v.scn.lots=.slice (some ⟨lg,0,none⟩) nlt lcap):=by rw[hnlt];exact hlv
 have HRQ:=ac hrq
 have HRSV:=ac hrs
 clear h2 hrq hrs hnlt hlv hlS
 go_upto_region 4 with fail
 clear hb2 c47 c52 r2
 have HSL:aa (∀ W,Below w2.heap.size w2 W->ey n W p L r mb bb v op rv/\W.cell? ⟨lg,lt * 2,none⟩=some (.int .i64 rq)/\W.cell? ⟨lg,lt * 2 + 1,none⟩=some (.int .i64 rs)):=by
  have g1:=aC hl1
  exact fun W hW=>⟨HC2.out.new hW,(hW.cell g1).trans hl1,(hW.cell (p:=⟨lg,lt * 2 + 1,none⟩) g1).trans hl2⟩
 refine wp_region_held_drew (S:=fun W=>ey n W p L r mb bb v op rv/\W.cell? ⟨lg,lt * 2,none⟩=some (.int .i64 rq)/\W.cell? ⟨lg,lt * 2 + 1,none⟩=some (.int .i64 rs)) (by kernel_rfl) (HSL.out _ (aA _)) (fun hHeld=>?_)
 refine ts 0 (.pointer (some ⟨p,0,none⟩)) hHeld ?_
 try simp only[Act.put,ps]
 refine ts 1 (.pointer (some ⟨p,0,none⟩)) hHeld ?_
 try simp only[Act.put,ps]
 refine ts 2 (.pointer (some ⟨p,0,none⟩)) hHeld ?_
 try simp only[Act.put,ps]
 refine ts 3 (.pointer (some ⟨p,47,none⟩)) hHeld ?_
 try simp only[Act.put,ps]
 refine tk 4 (.slice (some ⟨lg,0,none⟩) nlt lcap) hHeld ?_ ?_
 ·intro W hSw
  have c:=hSw.1.md.rlots
  rw[HLV.out] at c
  go_simp
 try simp only[Act.put,ps]
 refine ts 5 (.pointer (some ⟨p,0,none⟩)) hHeld ?_
 try simp only[Act.put,ps]
 refine ts 6 (.pointer (some ⟨p,0,none⟩)) hHeld ?_
 try simp only[Act.put,ps]
 refine ts 7 (.pointer (some ⟨p,52,none⟩)) hHeld ?_
 try simp only[Act.put,ps]
 refine tk 8 (.pointer (some ⟨r,0,none⟩)) hHeld ?_ ?_
 ·intro W hSw
  have c:=hSw.1.md.opn
  rw[HOV.out] at c
  go_simp
 try simp only[Act.put,ps]
 refine ts 9 (.pointer (some ⟨r,0,none⟩)) hHeld ?_
 try simp only[Act.put,ps]
 refine ts 10 (.pointer (some ⟨r,0,none⟩)) hHeld ?_
 try simp only[Act.put,ps]
 refine ts 11 (.pointer (some ⟨r,2,none⟩)) hHeld ?_
 try simp only[Act.put,ps]
 refine tk 12 (.int .i64 lt) hHeld ?_ ?_
 ·intro W hSw
  have c:=hSw.1.rnd.lot
  rw[HLT.out] at c
  go_simp
 try simp only[Act.put,ps]
 refine ts 13 (.pointer (some ⟨lg,lt * 2,none⟩)) hHeld ?_
 try simp only[Act.put,ps]
 refine tk 14 (.agg #[.int .i64 rq,.int .i64 rs]) hHeld ?_ ?_
 ·intro W hSw
  have d1:=hSw.2.1
  have d2:=hSw.2.2
  go_simp
 try simp only[Act.put,ps]
 refine rd 15 (fun K hK=>?_)
 go_simp
 refine hK.out _ (w2.drew.alloc (.cells #[.int .i64 0,.int .i64 0] 63)) (HSL.out _ (aD (aA w2) (af _ _))) (fun hHeld=>?_)
 clear hK K
 try simp only[Act.put,ps]
 refine rd 16 (fun K hK=>?_)
 go_simp
 refine hK.out _ (w2.drew.alloc (.cells #[.int .i64 rq,.int .i64 rs] 63)) (HSL.out _ (aD (aA w2) (af _ _))) (fun hHeld=>?_)
 clear hK K
 try simp only[Act.put,ps]
 refine wpAnyH_done (by kernel_rfl) ?_ _
 clear hHeld
 go_upto_region 5 with fail
 obtain⟨X,hX⟩:=nm (w2.heap.size)
 obtain⟨w3,hw3⟩:=nm (w2.drew.alloc (.cells #[.int .i64 rq,.int .i64 rs] 63))
 have HB3:aa (Below w2.heap.size w2 w3):=by rw[hw3];exact aD (aA w2) (af _ _)
 have HX3:aa (w3.heap[X]?=some (.cells #[.int .i64 rq,.int .i64 rs] 63 (0,0))):=by rw[hw3,hX];exact ax _ _
 rw[<-hw3,<-hX]
 have HXW:aa (w.heap.size<=X):=by rw[hX];exact HN2.out.size
 have HC3:=ac (HC2.out.new HB3.out)
 have HN3:=ac (HN2.out.trans (HB3.out.mono HN2.out.size))
 obtain⟨can,hcan⟩:∃q:Nat,st.scene.carriers=q:=Int.eq_ofNat_of_zero_le HWF.out.carr.1
 have hcan8:can<=8:=by have:=HWF.out.carr.2;omega
 have HCAN:=ac hcan
 have c43:w3.cell? ⟨p,43,none⟩=some (.int .i64 can):=by have:=HC3.out.md.rcarriers;rw[HH.out.carriers,hcan] at this;exact this
 have hrs2:0<=rs/\rs<=16777216:=by rw[HRSV.out];exact HWF.out.resv lt HLT2.out
 clear hw3 hX HC2 HH2 hl1 hl2 hli hcan HSL
 go_wp2_with fail
 clear c43
 go_loopg [8,47] can (fun g v8 v47 wr=>∃k:Nat,k<=can/\v47=.int .i64 k/\can - k<=g/\aa (wr.ownsRow w3.heap.size 60 2 v8 (d8 op.bids k).length (b8 (d8 op.bids k)))/\aa (Below w3.heap.size w3 wr))
 case atStart=>exact⟨0,Nat.zero_le _,rfl,Nat.le_refl _,World.ownsRow_nil _ _ _ _,Below.refl _ _⟩
 case round=>
  obtain⟨k,hk,rfl,hg,HOB,HB⟩:=hrel
  have HCk:aa (ey n wr p L r mb bb v op rv):=HC3.out.new HB.out
  by_cases hkc:k<can
  ·have hki:(k:Int)<can:=by omega
   have c52:wr.cell? ⟨p,52,none⟩=some (.pointer (some ⟨r,0,none⟩)):=by rw[<-HOV.out];exact HCk.out.md.opn
   have r50:=HCk.out.rnd.bids
   have hI:qx (k:Int):=⟨by omega,by omega⟩
   cases hbk:op.bids k with
   | none=>
    have HBK:=ac hbk
    have e1:(gv op.bids k).getD (.int .u64 0)=.int .u64 0:=by simp[gv,hbk]
    have e2:(gv op.bids k).isSome=false:=by simp[gv,hbk]
    have HE1:=ac e1
    have HE2:=ac e2
    have HS:aa (d8 op.bids (k + 1)=d8 op.bids k):=by rw[aa,d8,hbk,List.append_nil]
    clear hbk e1 e2
    go_wp2_with (first
     | (at_lookup;refine jh _ rfl _ _ 131 44 rfl underlying131 (tK _) bb n (gv op.bids) rfl HCk.out.bids k rfl hI (.int .u64 0) false HE1.out HE2.out ?_)
     | fail)
    go_roundg (can - (k + 1))
    case measure=>omega
    case rel=>exact⟨k + 1,hkc,by go_num,Nat.le_refl _,by rw[HS.out];exact HOB.out,HB.out⟩
   | some b=>
    have HBK:=ac hbk
    have e1:(gv op.bids k).getD (.int .u64 0)=.int .u64 b:=by simp[gv,hbk]
    have e2:(gv op.bids k).isSome=true:=by simp[gv,hbk]
    have HE1:=ac e1
    have HE2:=ac e2
    have HS:aa (d8 op.bids (k + 1)=d8 op.bids k++[((k:Int),b)]):=by rw[aa,d8,hbk]
    have hlk:=lG op.bids k
    have HLK:=ac hlk
    have HBS:=ac HB.out.size
    clear hbk e1 e2 hlk
    go_wp2_with (first
     | (at_lookup;refine jh _ rfl _ _ 131 44 rfl underlying131 (tK _) bb n (gv op.bids) rfl HCk.out.bids k rfl hI (.int .u64 b) true HE1.out HE2.out ?_)
     | (at_builtin;refine aZ rfl _ _ 51 60 rfl (.agg #[.int .i64 0,.int .u64 0]) 2 16 underlying51 Tryz.infoBd rfl (by decide) w3.heap.size _ (d8 op.bids k).length _ rfl (World.ownsRow.alloc HOB.out _) wr.heap.size [.int .i64 k,.int .u64 b] ?c1 ?c2 rfl ?c3 ?c4 ?c5 ?c6 ?_)
     | fail)
    case c1=>rfl
    case c2=>intro u hu;rcases List.mem_cons.1 hu with rfl | hu;rfl;obtain rfl:=List.mem_singleton.1 hu;rfl
    case c3=>intro j y hy;rw[aO];simpa using hy
    case c4=>have:=HLK.out;unfold maxLen;omega
    case c5=>have:=HLK.out;omega
    case c6=>have:=HBS.out;simp;omega
    intro v' w4 hown hgrow
    have HO4:aa (w4.ownsRow w3.heap.size 60 2 v' (d8 op.bids (k + 1)).length (b8 (d8 op.bids (k + 1)))):=by
     rw[HS.out,List.length_append]
     have e:b8 (d8 op.bids k++[((k:Int),b)])=b8 (d8 op.bids k)++[.int .i64 k,.int .u64 b]:=by simp[b8]
     rw[e]
     exact hown
    have HB4:aa (Below w3.heap.size w3 w4):=(HB.out.alloc HBS.out _).grown hgrow (by have:=HBS.out;simp;omega) (fun j hj=>bM HOB.out j hj)
    clear hown hgrow
    go_wp2_with fail
    go_roundg (can - (k + 1))
    case measure=>omega
    case rel=>exact⟨k + 1,hkc,by go_num,Nat.le_refl _,HO4.out,HB4.out⟩
  ·have hki:¬(k:Int)<can:=by omega
   obtain rfl:can=k:=by omega
   obtain⟨x1,x2,x3,hx⟩:∃a b c,vickOf (d8 op.bids can) rs=(a,b,c):=⟨_,_,_,rfl⟩
   have HX:=ac hx
   have hOF:=AF (d8 op.bids can) _ rs wr (js HOB.out) (by have:=lG op.bids can;omega)
   have HOF:aa (Calls prog 18 _ wr fun e w'=>e=.returned (.agg #[.int .i64 x1,.int .i64 x2,.int .u64 x3])/\Below wr.heap.size wr w'):=hOF.mono (fun e w' hh=>⟨by rw[hh.1,hx];rfl,hh.2⟩)
   have cX1:wr.cell? ⟨X,1,none⟩=some (.int .i64 rs):=aq (aw HX3.out (fj HB.out) (aK HX3.out)) 1
   have hrm:rs % 18446744073709551616=rs:=by omega
   clear hx hOF hki
   go_wp2_with fail
   refine HOF.out.mono ?_
   rintro e w5 ⟨rfl,hb5⟩
   have HB5:=ac hb5
   clear hb5 cX1 hrm HOF
   go_upto_region 14 with fail
   obtain⟨W,hW⟩:=nm (w5.heap.size)
   obtain⟨w6,hw6⟩:=nm (w5.alloc (.cells #[.int .i64 x1,.int .i64 x2,.int .u64 x3] 46))
   have HB6:aa (Below w3.heap.size w3 w6):=by rw[hw6];exact (HB.out.trans (HB5.out.mono HB.out.size)).alloc (Nat.le_trans HB.out.size HB5.out.size) _
   have HW6:aa (w6.heap[W]?=some (.cells #[.int .i64 x1,.int .i64 x2,.int .u64 x3] 46 (0,0))):=by rw[hw6,hW];exact ax _ _
   have HWW:aa (w3.heap.size<=W):=by rw[hW];exact Nat.le_trans HB.out.size HB5.out.size
   rw[<-hw6,<-hW]
   clear hw6 hW HB5 HB HOB HCk
   obtain⟨s,hs⟩:=nm (d.state)
   obtain⟨wi,hwi⟩:=nm (d.winner)
   obtain⟨pr,hpr⟩:=nm (d.price)
   have HSt:=ac hs
   have HWi:=ac hwi
   have HPr:=ac hpr
   have HC6:=ac (HC3.out.new HB6.out)
   have e40:w6.cell? ⟨L,40,none⟩=some (.int .i64 s):=by rw[hs,<-HRS.out.1];exact HC6.out.rc.state
   have cW0:w6.cell? ⟨W,0,none⟩=some (.int .i64 x1):=aq HW6.out 0
   obtain⟨B,hB⟩:=nm (decide (x1=2/\s=4))
   have HBB:=ac hB
   clear hs hwi hpr hB
   go_cut [83] (fun s wx=>s=.bool B/\w6=wx)
   case first=>
    by_cases h1:x1=2
    ·have hb1:(x1==2)=true:=by simpa using h1
     have HE:aa (B=(s==4)):=by
      rw[aa,HBB.out,show (s==4)=decide (s=4) from rfl]
      exact decide_eq_decide.2 ⟨fun h=>h.2,fun h=>⟨h1,h⟩⟩
     clear h1
     go_wp2_with fail
     go_meet
     case rel=>exact⟨by rw[HE.out],rfl⟩
    ·have hb1:(x1==2)=false:=by simpa using h1
     have HE:aa (B=false):=by rw[aa,HBB.out];exact decide_eq_false (fun h=>h1 h.1)
     clear h1
     go_wp2_with fail
     go_meet
     case rel=>exact⟨by rw[HE.out],rfl⟩
   case rest=>
   obtain⟨rfl,hwc⟩:=hcut
   subst hwc
   obtain⟨y1,hy1⟩:∃y,y=(if x1=2/\s=4 then (4:Int) else x1):=⟨_,rfl⟩
   have HY1:=ac hy1
   clear hy1 e40 cW0
   go_upto_if 83 with fail
   go_cut [] (fun wx=>aa (wx.heap[W]?=some (.cells #[.int .i64 y1,.int .i64 x2,.int .u64 x3] 46 (0,0))/\am (·≠W) w6 wx))
   case first=>
    cases B with
    | true=>
     have hB:=of_decide_eq_true HBB.out.symm
     have HY:aa (y1=4):=by rw[aa,HY1.out,if_pos hB]
     have cW0:w6.cell? ⟨W,0,none⟩=some (.int .i64 x1):=aq HW6.out 0
     have fW0:=aL HW6.out 0
     clear hB
     go_wp2_with fail
     go_meet
     case rel=>exact⟨by rw[HY.out];exact aH HW6.out 0 _,(am.refl _ _).setCell (p:=⟨W,0,none⟩) (.inr (fun h=>h rfl)) _⟩
    | false=>
     have hB:=of_decide_eq_false HBB.out.symm
     have HY:aa (y1=x1):=by rw[aa,HY1.out,if_neg hB]
     clear hB
     go_wp2_with fail
     go_meet
     case rel=>exact⟨by rw[HY.out];exact HW6.out,am.refl _ _⟩
   case rest=>
   have hc:=hcut.out
   have HW7:=ac hc.1
   have HK7:=ac hc.2
   clear hcut hc
   obtain⟨w7,hw7⟩:=nm (wc)
   rw[<-hw7] at HW7 HK7 ⊢
   clear hw7 wc HW6
   have HLW3:aa (L<w3.heap.size/\p<w3.heap.size/\r<w3.heap.size/\X<w3.heap.size):=⟨HC3.out.rc.lt,HC3.out.md.lt,HC3.out.rnd.lt,aK HX3.out⟩
   have HR7:aa (ah w7 L rv):=HC6.out.rc.keeps HK7.out (by have:=HLW3.out;have:=HWW.out;omega)
   have HWANT:aa (tF st op d=(y1,x2,x3)):=by
    rw[aa,tF,HCAN.out,HLT.out,Int.toNat_natCast,Int.toNat_natCast,<-HRSV.out,HX.out,HY1.out,<-HSt.out]
    by_cases hh:x1=2/\s=4
    ·rw[if_pos hh,if_pos hh]
    ·rw[if_neg hh,if_neg hh]
   have b0:w7.cell? ⟨W,0,none⟩=some (.int .i64 y1):=aq HW7.out 0
   have b1:w7.cell? ⟨W,1,none⟩=some (.int .i64 x2):=aq HW7.out 1
   have b2:w7.cell? ⟨W,2,none⟩=some (.int .u64 x3):=aq HW7.out 2
   have e40:w7.cell? ⟨L,40,none⟩=some (.int .i64 s):=by rw[HSt.out,<-HRS.out.1];exact HR7.out.state
   have e41:w7.cell? ⟨L,41,none⟩=some (.int .i64 wi):=by rw[HWi.out,<-HRS.out.2.1];exact HR7.out.winner
   have e42:w7.cell? ⟨L,42,none⟩=some (.int .u64 pr):=by rw[HPr.out,<-HRS.out.2.2];exact HR7.out.price
   have hne:=AG y1 x2 x3 s wi pr
   by_cases heq:y1=s/\x2=wi/\x3=pr
   case neg=>
    have HNP:aa (¬ eJ st op d):=fun h=>heq (by
     have:=h.2.2
     rw[HWANT.out,<-HSt.out,<-HWi.out,<-HPr.out] at this
     injection this with h1 h2
     injection h2 with h2 h3
     exact⟨h1,h2,h3⟩)
    have hbn:(y1==s &&(x2==wi &&x3==pr))=false:=by
     by_cases a1:y1=s <;> by_cases a2:x2=wi <;> by_cases a3:x3=pr <;> simp[a1,a2,a3]
     exact absurd ⟨a1,a2,a3⟩ heq
    rw[hbn] at hne
    have HB7:aa (Below w.heap.size w w7):=by
     have h1:Below w.heap.size w w6:=HN3.out.trans (HB6.out.mono HN3.out.size)
     exact h1.trans ((HK7.out.mono (K':=(·<w.heap.size)) (fun k _ hk=>by have:=HWW.out;have:=HN3.out.size;omega)).below h1.size)
    clear heq hbn
    go_wp2_with fail
    go_ret
    rw[HR.out,if_neg HNP.out]
    exact aW HH.out HSS.out HB7.out
   case pos=>
   obtain⟨q1,q2,q3⟩:=heq
   subst q1 q2 q3
   have HCP:aa (eJ st op d):=⟨HXY.out,by rw[<-HGE.out,<-HDU.out];exact HGD.out,by rw[HWANT.out,<-HSt.out,<-HWi.out,<-HPr.out]⟩
   have hbn:(y1==y1 &&(x2==x2 &&x3==x3))=true:=by simp
   rw[hbn] at hne
   clear hbn
   go_upto_region 18 with fail
   have HB7:aa (Below w.heap.size w w7):=by
    have h1:Below w.heap.size w w6:=HN3.out.trans (HB6.out.mono HN3.out.size)
    exact h1.trans ((HK7.out.mono (K':=(·<w.heap.size)) (fun k _ hk=>by have:=HWW.out;have:=HN3.out.size;omega)).below h1.size)
   have HM7:aa (aV w7 p v):=HC6.out.md.keeps HK7.out (by have:=HLW3.out;have:=HWW.out;omega)
   have HX7:aa (w7.heap[X]?=some (.cells #[.int .i64 rq,.int .i64 rs] 63 (0,0))):=aw (aw HX3.out (fj HB6.out) HLW3.out.2.2.2) HK7.out (by have:=HLW3.out;have:=HWW.out;omega)
   have HRN7:aa (df w7 r op mb bb):=HC6.out.rnd.keeps HK7.out (by have:=HLW3.out;have:=HWW.out;omega)
   have hreq:=HWF.out.reqs lt HLT2.out
   rw[<-HRQ.out] at hreq
   obtain⟨rqn,hrqn⟩:∃q:Nat,rq=q:=Int.eq_ofNat_of_zero_le hreq.1
   have HI7:aa (eZ S w7 v.owners st.owners/\eZ S w7 v.states st.states/\qd S w7 v.outs st.outs):=⟨HH.out.owners.keeps (fj HB7.out) (fun k hk=>HSS.out k hk),HH.out.states.keeps (fj HB7.out) (fun k hk=>HSS.out k hk),HH.out.outs.keeps (fj HB7.out) (fun k hk=>HSS.out k hk)⟩
   obtain⟨og,ocap,ocur,hvo,hoS,hoc,hom,hoh,hos,hoj⟩:=HI7.out.1.cur (by omega)
   obtain⟨sg,scap,scur,hvs,hsS,hsc,hsm,hsh,hss,hsj⟩:=HI7.out.2.1.cur (by rw[HWF.out.lens];have:=HLT2.out;omega)
   obtain⟨no,hno⟩:=nm (st.owners.length)
   obtain⟨ns,hns⟩:=nm (st.states.length)
   rw[<-hno] at hvo hoc hoj hreq
   rw[<-hns] at hvs hsc hsj
   have hrn:rqn<no:=by omega
   have hln:lt<ns:=by rw[hns,HWF.out.lens];exact HLT2.out
   have hop_:og≠p:=HM7.out.ne hoh (by decide)
   have hsp:sg≠p:=HM7.out.ne hsh (by decide)
   have hos_:og≠sg:=fun e=>HH.out.ap1 og (by rw[hvo];rfl) (by rw[hvs,e];rfl)
   have hoW:og≠W:=by have:=HSS.out og hoS;have:=HWW.out;have:=HN3.out.size;omega
   have hsW:sg≠W:=by have:=HSS.out sg hsS;have:=HWW.out;have:=HN3.out.size;omega
   have hor:og≠r:=fun e=>by obtain⟨cs,hc,_⟩:=HRN7.out;rw[<-e] at hc;rw[hoh] at hc;injection hc with hc;injection hc with _ hc _;revert hc;decide
   have HVO:=ac hvo
   have HVS:=ac hvs
   have HOC:=ac hoc
   have HOM:=ac hom
   have HOH:=ac hoh
   have HOS:=ac hos
   have HOJ:=ac hoj
   have HSC:=ac hsc
   have HSM2:=ac hsm
   have HSH:=ac hsh
   have HSSZ:=ac hss
   have HSJ:=ac hsj
   have HNOO:=ac hno
   have HNSS:=ac hns
   have HRQN:=ac hrqn
   clear hvo hoS hoc hom hoh hos hoj hvs hsS hsc hsm hsh hss hsj hno hns hreq e40 e41 e42 b1 b2 hne
   go_upto_if 91 with fail
   go_cut [] (fun wx=>aa (∃ ocur',wx.heap[og]?=some (.cells ocur' 3 (0,0))/\ocur'.size=ocap/\(∀ j,j<no->ocur'[j]?=some (.int .i64 ((if y1=2 then st.owners.set rqn x2 else st.owners).getD j 0)))/\am (·≠og) w7 wx))
   case first=>
    by_cases h2:y1=2
    ·have H2:=ac h2
     have hb:(y1==2)=true:=by simpa using h2
     have c49:w7.cell? ⟨p,49,none⟩=some (.slice (some ⟨og,0,none⟩) no ocap):=by rw[<-HVO.out];exact HM7.out.owners
     have cX0:w7.cell? ⟨X,0,none⟩=some (.int .i64 rqn):=by rw[<-HRQN.out];exact aq HX7.out 0
     have cW1:w7.cell? ⟨W,1,none⟩=some (.int .i64 x2):=aq HW7.out 1
     have cg:w7.cell? ⟨og,rqn,none⟩=some (.int .i64 (st.owners.getD rqn 0)):=(aq HOH.out rqn).trans (HOJ.out rqn hrn)
     have fg:=aL HOH.out rqn
     have hri:(rqn:Int)<no:=by omega
     have hsz:rqn<ocur.size:=by rw[HOS.out];exact Nat.lt_of_lt_of_le hrn HOC.out
     have HSZ:=ac hsz
     clear h2 hsz
     go_upto_region 19 with fail
     go_region
     go_wp2_with fail
     go_meet
     case rel=>
      refine⟨ocur.setIfInBounds rqn (.int .i64 x2),aH HOH.out rqn _,by simpa using HOS.out,fun j hj=>?_,((am.refl _ w7).setCell (p:=⟨og,rqn,none⟩) (.inr (fun h=>h rfl)) _).drew⟩
      rw[if_pos H2.out]
      by_cases e:j=rqn
      ·subst e
       rw[Array.getElem?_setIfInBounds_self_of_lt HSZ.out,List.getD_eq_getElem?_getD,List.getElem?_set_self (by rw[<-HNOO.out];exact hj)]
       rfl
      ·rw[Array.getElem?_setIfInBounds_ne (Ne.symm e),HOJ.out j hj,List.getD_eq_getElem?_getD,List.getD_eq_getElem?_getD,List.getElem?_set_ne (Ne.symm e)]
    ·have H2:=ac h2
     have hb:(y1==2)=false:=by simpa using h2
     clear h2
     go_wp2_with fail
     go_meet
     case rel=>exact⟨ocur,HOH.out,HOS.out,fun j hj=>by rw[if_neg H2.out];exact HOJ.out j hj,am.refl _ _⟩
   case rest=>
   obtain⟨ocur',h8,h8s,h8j,k8⟩:=hcut.out
   obtain⟨w8,hw8⟩:=nm (wc)
   rw[<-hw8] at h8 k8 ⊢
   have HO8:=ac h8
   have HOS8:=ac h8s
   have HOJ8:=ac h8j
   have HK8:=ac k8
   clear hcut hw8 wc h8 h8s h8j k8 b0
   have HM8:=ac (HM7.out.keeps HK8.out hop_.symm)
   have HW8:aa (w8.heap[W]?=some (.cells #[.int .i64 y1,.int .i64 x2,.int .u64 x3] 46 (0,0))):=aw HW7.out HK8.out hoW.symm
   have HSH8:aa (w8.heap[sg]?=some (.cells scur 3 (0,0))):=aw HSH.out HK8.out hos_.symm
   have HRN8:aa (df w8 r op mb bb):=HRN7.out.keeps HK8.out hor.symm
   have c50:w8.cell? ⟨p,50,none⟩=some (.slice (some ⟨sg,0,none⟩) ns scap):=by rw[<-HVS.out];exact HM8.out.states
   have c52:w8.cell? ⟨p,52,none⟩=some (.pointer (some ⟨r,0,none⟩)):=by rw[<-HOV.out];exact HM8.out.opn
   have r2:w8.cell? ⟨r,2,none⟩=some (.int .i64 lt):=by rw[<-HLT.out];exact HRN8.out.lot
   have b0:w8.cell? ⟨W,0,none⟩=some (.int .i64 y1):=aq HW8.out 0
   have cs:w8.cell? ⟨sg,lt,none⟩=some (.int .i64 (st.states.getD lt 0)):=(aq HSH8.out lt).trans (HSJ.out lt hln)
   have fs:=aL HSH8.out lt
   have hli:(lt:Int)<ns:=by omega
   go_upto_region 20 with fail
   go_region
   go_upto_region 21 with fail
   obtain⟨w9,hw9⟩:∃z,z=(w8.setCell ⟨sg,lt,none⟩ (.int .i64 y1)).drew:=⟨_,rfl⟩
   have HK9:aa (am (·≠sg) w8 w9):=by rw[hw9];exact ((am.refl _ w8).setCell (p:=⟨sg,lt,none⟩) (.inr (fun h=>h rfl)) _).drew
   have HS9:aa (w9.heap[sg]?=some (.cells (scur.setIfInBounds lt (.int .i64 y1)) 3 (0,0))):=by rw[hw9];exact aH HSH8.out lt _
   rw[<-hw9]
   have HM9:=ac (HM8.out.keeps HK9.out hsp.symm)
   have HW9:aa (w9.heap[W]?=some (.cells #[.int .i64 y1,.int .i64 x2,.int .u64 x3] 46 (0,0))):=aw HW8.out HK9.out hsW.symm
   have HI9:aa (qd S w9 v.outs st.outs):=(HI7.out.2.2.keep HK8.out (fun k hk e=>by
    obtain⟨cc,hc⟩:=HI7.out.2.2.block k hk
    rw[e,HOH.out] at hc;injection hc with hc;injection hc with _ hc _;revert hc;decide)).keep HK9.out (fun k hk e=>by
    obtain⟨cc,hc⟩:=HI7.out.2.2.block k hk
    rw[e,HSH.out] at hc;injection hc with hc;injection hc with _ hc _;revert hc;decide)
   have hnout:=HH.out.nout
   clear hw9 c50 c52 r2 b0 cs fs hli
   generalize W=BX at *
   obtain⟨oa,oc,hov2⟩:=HI9.out.form
   obtain⟨nout,hnout2⟩:=nm (st.outs.length)
   rw[<-hnout2] at hov2 hnout
   have HVO2:=ac hov2
   have HNOUT:=ac hnout2
   obtain⟨cp,hcp⟩:∃c:List Value,c=[.int .i64 y1,.int .i64 x2,.int .u64 x3]:=⟨_,rfl⟩
   have hi3:(prog.info? 46).map (·.size)=some cp.length:=by rw[hcp];kernel_rfl
   have HCR:aa (∀ W:World,W.heap[BX]?=some (.cells #[.int .i64 y1,.int .i64 x2,.int .u64 x3] 46 (0,0))->W.rangeAt BX 0 cp):=by
    rw[hcp]
    intro W hW j u hu
    rw[Nat.zero_add,aq hW]
    simpa using hu
   have HCPE:=ac hcp
   have hBXo:∀k,v.outs.ownBlock=some k->k≠BX:=fun k hk e=>by have:=HSS.out k (HI9.out.2 k hk);have:=HWW.out;have:=HN3.out.size;omega
   have hBXp:BX≠p:=by have:=HLW3.out;have:=HWW.out;omega
   have HBXO:=ac hBXo
   clear hov2 hnout2 hcp hBXo
   have HS0:aa (aV w9.drew p v/\w9.drew.heap[BX]?=some (.cells #[.int .i64 y1,.int .i64 x2,.int .u64 x3] 46 (0,0))):=⟨HM9.out.new (aA _),HW9.out⟩
   refine eU (t:=10) (S:=fun W=>aV W p v/\W.heap[BX]?=some (.cells #[.int .i64 y1,.int .i64 x2,.int .u64 x3] 46 (0,0))) (by kernel_rfl) ?_
   refine lf 0 (.pointer (some ⟨p,0,none⟩)) (.inr HS0.out) ?_
   try simp only[Act.put,ps]
   refine lf 1 (.pointer (some ⟨p,0,none⟩)) (.inr HS0.out) ?_
   try simp only[Act.put,ps]
   refine lf 2 (.pointer (some ⟨p,0,none⟩)) (.inr HS0.out) ?_
   try simp only[Act.put,ps]
   refine lf 3 (.pointer (some ⟨p,51,none⟩)) (.inr HS0.out) ?_
   try simp only[Act.put,ps]
   refine cX (i:=4) (oi:=_) (v:=.slice oa nout oc) rfl (by kernel_rfl) (by kernel_rfl) (by kernel_rfl) (by decide) (by kernel_rfl) (by rfl) (fun _ _ _ h=>h) (Or.inl ⟨by rfl,?_⟩) HS0.out ?_
   ·intro W hSw
    have c:=hSw.1.outs
    rw[HVO2.out] at c
    go_simp
   try simp only[Act.put,ps]
   refine cX (i:=5) (oi:=_) (v:=.agg cp.toArray) rfl (by kernel_rfl) (by kernel_rfl) (by kernel_rfl) (by decide) (by kernel_rfl) (by rfl) (fun _ _ _ h=>h) (yieldsIf_load_mid (by rfl) 46 (.tmp 12) rfl BX 0 rfl cp _ (fun W hW=>HCR.out W hW.2) underlying46 rfl hi3) HS0.out ?_
   try simp only[Act.put,ps]
   rw[HCPE.out]
   refine dH (j:=6) (o:=_) (by kernel_rfl) rfl fun K hK=>?_
   go_simp
   obtain⟨wA,hwA⟩:=nm (w9.drew.alloc (.cells #[.int .i64 y1,.int .i64 x2,.int .u64 x3] 46))
   have HBA:aa (Below w9.heap.size w9 wA):=by rw[hwA];exact aD (aA w9) (af _ _)
   have HGA:aa (wA.heap[w9.heap.size]?=some (.cells #[.int .i64 y1,.int .i64 x2,.int .u64 x3] 46 (0,0))):=by rw[hwA];exact ax _ _
   have HMA:aa (aV wA p v):=HM9.out.new HBA.out
   have HWA:aa (wA.heap[BX]?=some (.cells #[.int .i64 y1,.int .i64 x2,.int .u64 x3] 46 (0,0))):=au HW9.out HBA.out
   have HS1:aa (aV (w9.drew.alloc (.cells #[.int .i64 y1,.int .i64 x2,.int .u64 x3] 46)) p v/\(w9.drew.alloc (.cells #[.int .i64 y1,.int .i64 x2,.int .u64 x3] 46)).heap[BX]?=some (.cells #[.int .i64 y1,.int .i64 x2,.int .u64 x3] 46 (0,0))):=by rw[<-hwA];exact⟨HMA.out,HWA.out⟩
   refine hK.out _ (w9.drew.alloc (.cells #[.int .i64 y1,.int .i64 x2,.int .u64 x3] 46)) HS1.out ?_
   clear hK K
   try simp only[Act.put,ps]
   rw[<-hwA]
   obtain⟨gA,hgA⟩:=nm (w9.heap.size)
   rw[<-hgA] at HGA ⊢
   clear hwA hgA HS1
   refine dH (j:=7) (o:=_) (by kernel_rfl) rfl fun K hK=>?_
   refine nw rfl _ _ 65 rfl 46 (.agg #[.int .i64 0,.int .i64 0,.int .u64 0]) 3 24 underlying65 Tryz.infoOut rfl (by decide) (.slice oa nout oc) nout (dt st.outs) rfl ?_ gA [.int .i64 y1,.int .i64 x2,.int .u64 x3] rfl rfl ?_ ?_ ?_ ?_ ?_
   ·have:=(HI9.out.keeps (ak HBA.out (fun _=>True)) (fun _ _=>trivial)).1
    rw[HVO2.out,<-HNOUT.out] at this
    exact this
   ·intro j u hu;rw[aq HGA.out];simpa using hu
   ·intro u hu;rcases List.mem_cons.1 hu with rfl | hu;rfl;rcases List.mem_cons.1 hu with rfl | hu;rfl;obtain rfl:=List.mem_singleton.1 hu;rfl
   ·unfold maxLen;omega
   ·omega
   intro nv wB hnv hgr hloc
   obtain⟨na,nc,rfl,_⟩:=az hnv
   rw[<-HVO2.out] at hgr hloc
   have HNV:=ac hnv
   have HGR:=ac hgr
   have HLOC:aa (∀ k,(Value.slice na (nout + 1) nc).ownBlock=some k->v.outs.ownBlock=some k\/wA.heap.size<=k):=fun k hk=>by
    rcases hloc with e | e
    ·exact .inl (e ▸ hk)
    ·rw[e] at hk;exact .inr (by injection hk with hk;omega)
   have HMB:aa (aV wB p v):=HMA.out.keeps (aF hgr (fun k=>v.outs.ownBlock≠some k) (fun k hk=>by rw[hk];simp)) (fun e=>by
    obtain⟨cc,hc⟩:=HI9.out.block p e
    exact (HM9.out.ne hc (by decide)) rfl)
   have HWB:aa (wB.heap[BX]?=some (.cells #[.int .i64 y1,.int .i64 x2,.int .u64 x3] 46 (0,0))):=aw HWA.out (aF hgr (fun k=>v.outs.ownBlock≠some k) (fun k hk=>by rw[hk];simp)) (fun e=>HBXO.out BX e rfl)
   clear hnv hgr hloc
   have HS2:=ac (And.intro HMB.out HWB.out)
   refine hK.out _ wB HS2.out ?_
   clear hK K
   try simp only[Act.put,ps]
   refine lf 8 (.pointer (some ⟨p,0,none⟩)) (.inr HS2.out) ?_
   try simp only[Act.put,ps]
   refine lf 9 (.pointer (some ⟨p,51,none⟩)) (.inr HS2.out) ?_
   try simp only[Act.put,ps]
   have c51:=HMB.out.outs
   have f51:=HMB.out.free 51
   refine gh (j:=10) (o:=_) (by kernel_rfl) rfl (by rfl) fun K hK=>?_
   go_simp
   obtain⟨w11,hw11⟩:∃z,z=wB.setCell ⟨p,51,none⟩ (.slice na (nout + 1) nc):=⟨_,rfl⟩
   have HKz:aa (am (·≠p) wB w11):=by rw[hw11];exact (am.refl _ _).setCell (p:=⟨p,51,none⟩) (.inr (fun h=>h rfl)) _
   have HM11:aa (aV w11 p {v with outs:=.slice na (nout + 1) nc}):=by rw[hw11];exact HMB.out.setOuts _
   rw[<-hw11]
   clear hw11 c51 f51
   refine hK.out _ w11 ?_
   clear hK K
   try simp only[Act.put,ps]
   refine fZ (by kernel_rfl) ?_ _
   go_upto_region 22 with fail
   have c52:=HM11.out.opn
   have f52:=HM11.out.free 52
   go_wp2_with fail
   go_ret
   rw[HR.out,if_pos HCP.out]
   exact sE HH.out HSS.out HLT.out (by rw[<-HNSS.out];exact hln) (by rw[<-HRQ.out];exact HRQN.out) HB7.out HNOO.out HNSS.out HVO.out HOC.out HOM.out HVS.out HSC.out HSM2.out HK8.out HO8.out HOS8.out
    (fun j hj=>by rw[<-HSt.out,<-HWi.out];exact HOJ8.out j hj) HK9.out HS9.out (by simpa using HSSZ.out)
    (fun j hj=>by
     rw[<-HSt.out]
     by_cases e:j=lt
     ·subst e
      rw[Array.getElem?_setIfInBounds_self_of_lt (by rw[HSSZ.out];exact Nat.lt_of_lt_of_le hln HSC.out),List.getD_eq_getElem?_getD,List.getElem?_set_self (by rw[<-HNSS.out];exact hj)]
      rfl
     ·rw[Array.getElem?_setIfInBounds_ne (Ne.symm e),HSJ.out j hj,List.getD_eq_getElem?_getD,List.getD_eq_getElem?_getD,List.getElem?_set_ne (Ne.symm e)])
    HBA.out HGR.out (by rw[<-HSt.out,<-HWi.out,<-HPr.out,<-HNOUT.out];exact HNV.out) HLOC.out (HKz.out.trans ((am.refl _ _).setCell (p:=⟨p,52,none⟩) (.inr (fun h=>h rfl)) _)) (HM11.out.setOpn _)
open Go.RowKit Go.Maps
theorem sF (a:Option Addr) (cap:Nat) (w:World):Calls prog 75 #[.slice a 0 cap] w fun e w'=>e=.returned (.tuple #[])/\∃m,w'=w.drewN m:=by
 go_enter func75,ntmps75
 go_wp2_with fail
 go_loopw [6] (fun i wr=>i=.int .i64 0/\wr=w) (fun _ _=>0)
 case atStart=>exact⟨rfl,rfl⟩
 case round=>
  obtain⟨rfl,rfl⟩:=hrel
  go_wp2_with fail
  go_end0
  exact⟨rfl,0,rfl⟩
theorem kO {S:Nat->Prop} {w:World} {u:Value} {xs:List Int} (h:eZ S w u xs) (hx:xs.length<=1000000):
  Calls prog 75 #[u] w fun e w'=>e=.returned (.tuple #[])/\am (fun k=>u.ownBlock≠some k) w w'/\eZ S w' u (ci xs.length xs):=by
 rcases Nat.eq_zero_or_pos xs.length with h0 | h0
 ·obtain⟨a,cap,e,_⟩:=h.form
  rw[h0] at e
  have hl:ci xs.length xs=xs:=by rw[h0,kE]
  rw[hl,e]
  refine (sF a cap w).mono ?_
  rintro e2 w2 ⟨rfl,m,rfl⟩
  exact⟨rfl,ak (ay _ _) _,e ▸ h.keeps (ak (ay _ _) (fun _=>True)) (fun _ _=>trivial)⟩
 ·obtain⟨g,cap,cur,e,hg,hc,hm,hh,hs,hj⟩:=h.cur h0
  rw[e]
  refine (oR g cap xs.length xs (Nat.le_refl _) hx w cur hh hj).mono ?_
  rintro e2 w2 ⟨rfl,hk,cur2,hg2,hs2,hj2⟩
  have hl:=dq xs.length xs
  exact⟨rfl,hk.mono (fun k _ hk e=>hk (by rw[e];rfl)),gx hg hl.symm (by rw[hl];exact hc) hm hg2 (by rw[hs2,hs]) (fun j hj=>hj2 j (by rw[hl] at hj;exact hj))⟩
theorem qM {S:Nat->Prop} {n:Nat} {w w2 wz:World} {p:Nat} {v:bS} {st:MSt} (h:bB S n w p v st) (hS:∀k,S k->k<w.heap.size) (k2:am (fun k=>v.states.ownBlock≠some k) w w2) (hs:eZ S w2 v.states (ci st.states.length st.states))
  (kz:am (·≠p) w2 wz) (hm:aV wz p {v with opn:=.pointer none,ended:=true}):dF S n w p st (some (im st)) (.returned (.bool true)) wz:=by
 have k:am (fun k=>v.states.ownBlock≠some k/\k≠p) w wz:=(k2.mono (fun k _ hk=>hk.1)).trans (kz.mono (fun k _ hk=>hk.2))
 have hst:∀k,(∃ cc T,w.heap[k]?=some (.cells cc T (0,0))/\T≠3)->v.states.ownBlock≠some k:=fun k ⟨cc,T,hc,hT⟩ e=>by
  obtain⟨c2,h2⟩:=h.states.block k e
  rw[hc] at h2;injection h2 with h2;injection h2 with _ h2 _;exact hT h2
 refine⟨rfl,S,⟨_,⟨hm,h.own,h.scn,?_,?_,?_,?_,?_,h.ap1,h.ap2,h.ap3,rfl,h.tick,rfl,Nat.le_succ_of_le h.nout,h.sok⟩⟩,k.mono (fun j _ hj=>⟨fun e=>hj (h.states.2 j e),fun e=>hj (by rw[e];exact h.own)⟩),fun _ h=>.inl h,fun j hj=>Nat.lt_of_lt_of_le (hS j hj) k.size⟩
 ·exact h.lots.keep k (fun j hj=>by
   obtain⟨cc,hc⟩:=h.lots.block j hj
   exact⟨hst j ⟨cc,_,hc,by decide⟩,h.here.ne hc (by decide)⟩)
 ·exact h.owners.keep k (fun j hj=>by
   obtain⟨cc,hc⟩:=h.owners.block j hj
   exact⟨h.ap1 j hj,h.here.ne hc (by decide)⟩)
 ·exact hs.keep kz (fun j hj=>by
   obtain⟨cc,hc⟩:=h.states.block j hj
   exact h.here.ne hc (by decide))
 ·exact h.outs.keep k (fun j hj=>by
   obtain⟨cc,hc⟩:=h.outs.block j hj
   exact⟨hst j ⟨cc,_,hc,by decide⟩,h.here.ne hc (by decide)⟩)
 ·exact h.barred.keep k (fun j hj=>by
   obtain⟨cc,hc⟩:=h.barred.block j hj
   exact⟨fun e=>h.ap3 j e hj,h.here.ne hc (by decide)⟩)
theorem oS {S:Nat->Prop} {n:Nat} {w:World} {p:Nat} {v:bS} {st:MSt} (h:bB S n w p v st) (hw:st.Wf) (x:Int) (hx:x=st.due) (q:Nat):
  Calls prog 77 #[.pointer (some ⟨p,0,none⟩)] (w.drewN q) fun e w'=>e=.returned (.int .i64 x)/\∃m,w'=w.drewN m:=by
 subst hx
 exact eD fun W ⟨q',e⟩=>by subst e;exact mw (h.new (ay _ _)) hw
theorem uQ {S:Nat->Prop} {n:Nat} {w:World} {p:Nat} {v:bS} {st:MSt} (h:bB S n w p v st) (hS:∀k,S k->k<w.heap.size) (hwf:st.Wf) (hno:st.opn=none) (rv:RecV):
  Calls prog 45 #[.pointer (some ⟨p,0,none⟩),.agg (ae rv)] w (dF S n w p st (some (im st))):=by
 obtain⟨L,hL⟩:=nm (w.heap.size)
 obtain⟨w0,hw0⟩:=nm (w.alloc (.cells (ae rv) 49))
 have HN0:aa (Below w.heap.size w w0):=by rw[hw0];exact af _ _
 have HR0:aa (ah w0 L rv):=by rw[hw0,hL];exact ah.box _ _
 have HH:=ac h
 have HSS:=ac hS
 have HWF:=ac hwf
 have HNS:aa (st.states.length<=1000000):=by have:=hwf.nlots;have:=hwf.lens;rw[aa];omega
 have hvo:v.opn=.pointer none:=by have:=h.opn;rw[hno] at this;exact this
 have c52:w0.cell? ⟨p,52,none⟩=some (.pointer none):=by have:=(h.here.new HN0.out).opn;rw[hvo] at this;exact this
 clear h hS hwf hno hvo
 go_enter func45,ntmps45
 go_upto_region 1 with fail
 rw[<-hw0,<-hL]
 clear hw0 hL
 go_quiet (fail)
 generalize hw1:w0.drewN _=w1
 have HN1:aa (Below w.heap.size w w1):=by rw[<-hw1];exact bH HN0.out _
 clear hw1 c52
 have HL1:=ac (kO (HH.out.new HN1.out).states HNS.out)
 have c50:=(HH.out.here.new HN1.out).states
 go_wp2_with fail
 refine HL1.out.mono ?_
 rintro e w2 ⟨rfl,hk2,hi2⟩
 have HK2:aa (am (fun k=>v.states.ownBlock≠some k) w w2):=(ak HN1.out _).trans hk2
 have HI2:=ac hi2
 have HM2:aa (aV w2 p v):=HH.out.here.keeps HK2.out (fun e=>by
  obtain⟨cc,hc⟩:=HH.out.states.block p e
  exact (HH.out.here.ne hc (by decide)) rfl)
 clear hk2 hi2 c50
 have c52:=HM2.out.opn
 have f52:=HM2.out.free 52
 have c55:=HM2.out.ended
 have f55:=HM2.out.free 55
 go_wp2_with fail
 go_ret
 exact qM HH.out HSS.out HK2.out HI2.out (((am.refl _ _).setCell (p:=⟨p,52,none⟩) (.inr (fun h=>h rfl)) (.pointer none)).setCell (p:=⟨p,55,none⟩) (.inr (fun h=>h rfl)) (.bool true)) ((HM2.out.setOpn (.pointer none)).setEnded true)
theorem uR {S:Nat->Prop} {n:Nat} {w:World} {p:Nat} {v:bS} {st:MSt} (h:bB S n w p v st) (hS:∀k,S k->k<w.heap.size) (hwf:st.Wf) (op:Opn) (hop:st.opn=some op) (rv:RecV) (d:RecD) (hrt:rv.tick=d.tick) (htk:0<=d.tick/\d.tick<=9223372036854775807):
  Calls prog 45 #[.pointer (some ⟨p,0,none⟩),.agg (ae rv)] w (dF S n w p st (if iU st d then some (im st) else none)):=by
 obtain⟨L,hL⟩:=nm (w.heap.size)
 obtain⟨w0,hw0⟩:=nm (w.alloc (.cells (ae rv) 49))
 have HN0:aa (Below w.heap.size w w0):=by rw[hw0];exact af _ _
 have HR0:aa (ah w0 L rv):=by rw[hw0,hL];exact ah.box _ _
 have HH:=ac h
 have HSS:=ac hS
 have HWF:=ac hwf
 have HNS:aa (st.states.length<=1000000):=by have:=hwf.nlots;have:=hwf.lens;rw[aa];omega
 obtain⟨G,hG⟩:=nm (decide (st.due<=d.tick - op.tick))
 have HE:(if iU st d then some (im st) else none)=if G=true then none else some (im st):=by
  have hi:iU st d↔d.tick - op.tick<st.due:=by unfold iU;rw[hop]
  rw[hG]
  by_cases hq:st.due<=d.tick - op.tick
  ·rw[if_neg (by rw[hi];omega),if_pos (by simpa using hq)]
  ·rw[if_pos (by rw[hi];omega),if_neg (by simpa using hq)]
 rw[HE]
 clear HE
 obtain⟨R,hR⟩:∃R,R=(if G=true then none else some (im st)):=⟨_,rfl⟩
 rw[<-hR]
 have HRR:=ac hR
 clear hR
 obtain⟨r,mb,bb,hov,_,_,_,_,hrnd,_,_,_⟩:fR S n w v.opn (some op):=by rw[<-hop];exact h.opn
 obtain⟨tkQ,htk2⟩:=nm (d.tick)
 obtain⟨ot,hot⟩:=nm (op.tick)
 have hotb:=(hwf.opn op hop).2
 rw[<-hot] at hotb
 rw[<-htk2] at htk
 have c52:w0.cell? ⟨p,52,none⟩=some (.pointer (some ⟨r,0,none⟩)):=by have:=(h.here.new HN0.out).opn;rw[hov] at this;exact this
 have r4:w0.cell? ⟨r,4,none⟩=some (.int .i64 ot):=by rw[hot];exact (hrnd.keeps (ak HN0.out (fun _=>True)) trivial).tick
 have e4:w0.cell? ⟨L,4,none⟩=some (.int .i64 tkQ):=by rw[htk2,<-hrt];exact HR0.out.tick
 obtain⟨du,hdu⟩:=nm (st.due)
 have HDU:=ac hdu
 rw[<-hdu,<-htk2,<-hot] at hG
 have HG:=ac hG
 have HHN:=ac (h.new HN0.out)
 clear h hS hwf hop hov hrnd hrt htk2 hot hdu hG
 go_enter func45,ntmps45
 go_upto_region 1 with fail
 rw[<-hw0,<-hL]
 clear hw0 hL
 have hgd:decide (du<=tkQ - ot)=G:=HG.out.symm
 cases G with
 | true=>
  have HRN:aa (R=none):=by rw[aa,HRR.out,if_pos rfl]
  go_quiet ((go_at_call 77;exact oS HHN.out HWF.out du HDU.out _))
  go_wp2_with fail
  go_ret
  rw[HRN.out]
  exact aW HH.out HSS.out (bH HN0.out _)
 | false=>
 have HRN:aa (R=some (im st)):=by rw[aa,HRR.out,if_neg (by decide)]
 go_quiet ((go_at_call 77;exact oS HHN.out HWF.out du HDU.out _))
 generalize hw1:w0.drewN _=w1
 have HN1:aa (Below w.heap.size w w1):=by rw[<-hw1];exact bH HN0.out _
 clear hw1 c52 r4 e4 hgd
 have HL1:=ac (kO (HH.out.new HN1.out).states HNS.out)
 have c50:=(HH.out.here.new HN1.out).states
 go_wp2_with fail
 refine HL1.out.mono ?_
 rintro e w2 ⟨rfl,hk2,hi2⟩
 have HK2:aa (am (fun k=>v.states.ownBlock≠some k) w w2):=(ak HN1.out _).trans hk2
 have HI2:=ac hi2
 have HM2:aa (aV w2 p v):=HH.out.here.keeps HK2.out (fun e=>by
  obtain⟨cc,hc⟩:=HH.out.states.block p e
  exact (HH.out.here.ne hc (by decide)) rfl)
 clear hk2 hi2 c50
 have c52:=HM2.out.opn
 have f52:=HM2.out.free 52
 have c55:=HM2.out.ended
 have f55:=HM2.out.free 55
 go_wp2_with fail
 go_ret
 rw[HRN.out]
 exact qM HH.out HSS.out HK2.out HI2.out (((am.refl _ _).setCell (p:=⟨p,52,none⟩) (.inr (fun h=>h rfl)) (.pointer none)).setCell (p:=⟨p,55,none⟩) (.inr (fun h=>h rfl)) (.bool true)) ((HM2.out.setOpn (.pointer none)).setEnded true)
def jD (opf:List Int->RecD->Bool) (S:Nat->Prop) (n:Nat) (w:World) (p:Nat) (st:MSt) (d:RecD) (e:Ending) (w':World):Prop:=
 e=.returned (.int .i64 (cd opf st d).1)/\∃S':Nat->Prop,ft S' (n + 1) w' p (cd opf st d).2/\am (fun k=>¬S k) w w'/\(∀ k,S' k->S k\/w.heap.size<=k)/\∀k,S' k->k<w'.heap.size
def oT (opf:List Int->RecD->Bool) (S:Nat->Prop) (n:Nat) (w:World) (p:Nat) (st:MSt) (rv:RecV) (d:RecD):Prop:=
 ∀w3 v,Below w.heap.size w w3->bB S n w3 p v st->(∀ k,S k->k<w3.heap.size)->n<1000000000->st.Wf->(∃ b l ow,rv=d.toV b l ow)->uK d->Calls prog 43 #[.pointer (some ⟨p,0,none⟩),.agg (ae rv)] w3 (dF S n w3 p st (match st.opn with | none=>none | some o=>if b9 opf st o d then some (fm st o d) else none))
def fV (st:MSt):Prop:=st.scene.kind=0\/st.scene.scheme≠0
theorem qN {opf:List Int->RecD->Bool} {st:MSt} {d:RecD} (h:fV st) (hd:d.kind=1->d.scheme≠0):fV (cd opf st d).2:=by
 refine gu (P:=fun x=>fV x.2) (fun _=>h) (fun _=>h) fun st' hm hh hs=>?_
 rcases gt hs with ⟨hk,hp,rfl⟩ | ⟨hk,hp,rfl⟩ | ⟨hk,o,hop,hp,rfl⟩ | ⟨hk,o,hop,hp,rfl⟩ | ⟨hk,o,hop,hp,rfl⟩ | ⟨_,hp,rfl⟩
 ·exact .inr (hd hk)
 all_goals exact h
theorem dF.from {S:Nat->Prop} {n:Nat} {w w3 w':World} {p:Nat} {st:MSt} {r:Option MSt} {e:Ending} (hb:Below w.heap.size w w3) (h:dF S n w3 p st r e w'):dF S n w p st r e w':=by
 obtain⟨h1,S',h2,h3,h4,h5⟩:=h
 exact⟨h1,S',h2,(ak hb _).trans h3,fun k hk=>(h4 k hk).imp id (fun h=>Nat.le_trans hb.size h),h5⟩
theorem jk.box {S:Nat->Prop} {w w':World} {rv:RecV} {d:RecD} (h:jk S w rv d) (hb:Below w.heap.size w w'):jk S w' rv d:=fun W hW=>h W ((ak hb _).trans hW)
theorem ez {P:Program} {ops:Array Oper} {Q:Exit->Act->World->Prop} {md:Region.Mode} {S:World->Prop} {t:Nat} (C:List Nat) {i:Nat} {oi:Oper} {v:Value} {n:Nat} {listed:Array Bool} {a:Act} {w:World} (hi:ops[i]?=some oi) (hsel:Region.noSelect ops=true) (hf:Region.free md ops listed i=true) (hr:(Region.ready md ops listed).contains i=true)
  (hC:C.all (fun x=>!(listed.getD x false) &&(i :: C).any (fun y=>Region.waitsFor md ops x y))=true) (ht:C.contains t=true) (hit:i≠t)
  (hQ:∀c a w,Q (.panic c) (a.put oi.dst v) w->Q (.panic c) a w) (hy:YieldsIf P ops S oi v a) (hS:S w)
  (h:dK P md ops Q S t n (listed.setIfInBounds i true) (a.put oi.dst v) w):dK P md ops Q S t (n + 1) listed a w:=by
 have ht':t∈C:=by simpa using ht
 have hC':∀x∈C,listed.getD x false=false/\∃y∈i :: C,Region.waitsFor md ops x y=true:=by
  intro x hx
  have:=List.all_eq_true.1 hC x hx
  rw[Bool.and_eq_true,List.any_eq_true] at this
  exact⟨by simpa using this.1,this.2⟩
 refine jT hi hsel hQ hit S (fun l=>∀x∈C,l.getD x false=false) (fun l u g ho=>?_) (fun l j g hu hj hji x hx=>?_) n listed a w (Region.free_spec hi hf) (fun x hx=>(hC' x hx).1) (by simpa using hr) hy (.inr hS) h
 ·rcases ho with ho | ho
  ·rw[g t ht'] at ho;cases ho
  ·exact ho
 ·have hjx:j≠x:=fun hjx=>by
   subst hjx
   obtain⟨y,hy,hw⟩:=(hC' j hx).2
   obtain⟨oj,hoj,e,he,hb,heq⟩:=Region.waitsFor_spec hw
   obtain⟨_,o2,ho2,hall⟩:=mem_ready.1 hj
   rw[hoj] at ho2
   cases ho2
   have h1:=hall e he hb
   rw[heq] at h1
   rcases List.mem_cons.1 hy with rfl | hy
   ·by_cases hl:y<l.size
    ·simp[hl] at hu h1;rw[hu] at h1;cases h1
    ·simp[Array.getElem?_eq_none (Nat.le_of_not_lt hl)] at hu
   ·have g1:=g y hy
    by_cases hl:y<l.size
    ·simp[hl] at g1 h1;rw[g1] at h1;cases h1
    ·simp[Array.getElem?_eq_none (Nat.le_of_not_lt hl)] at h1
  show (l.setIfInBounds j true).getD x false=false
  rw[getD_set_ne false hjx];exact g x hx
theorem lV {S:Nat->Prop} {n:Nat} {w:World} {p:Nat} {v:bS} {st:MSt} (h:bB S n w p v st) (x:Bool) (hx:x=decide (st.scene.kind≠0)) (q:Nat):
  Calls prog 46 #[.pointer (some ⟨p,0,none⟩)] (w.drewN q) fun e w'=>e=.returned (.bool x)/\∃m,w'=w.drewN m:=by
 subst hx
 exact eD fun W ⟨q',e⟩=>by subst e;exact oP (h.new (ay _ _))
def j6 (k:Nat):FuncId:=if k=1 then 40 else if k=2 then 41 else if k=3 then 42 else if k=4 then 43 else if k=5 then 44 else 45
def tQ (st:MSt) (d:RecD):Option MSt->Int × MSt | some st'=>(0,{st' with tick:=d.tick}) | none=>(22,st)
theorem xG {opf:List Int->RecD->Bool} {st:MSt} {d:RecD} (hm:cF d=true):cd opf st d=tQ st d (if fo st d then gp opf st d else none):=by
 unfold cd tQ
 rw[if_pos hm]
 by_cases h:fo st d
 ·rw[if_pos h,if_pos h];rfl
 ·rw[if_neg h,if_neg h]
theorem bB.storeTick {S:Nat->Prop} {n:Nat} {w:World} {p:Nat} {v:bS} {st:MSt} (h:bB S n w p v st) (x:Int):bB S n (w.setCell ⟨p,54,none⟩ (.int .i64 x)) p {v with tick:=x} {st with tick:=x}:=by
 have k:am (·≠p) w (w.setCell ⟨p,54,none⟩ (.int .i64 x)):=(am.refl _ _).setCell (p:=⟨p,54,none⟩) (.inr (fun h=>h rfl)) _
 have hI:∀{u:Value} {xs:List Int},eZ S w u xs->∀j,u.ownBlock=some j->j≠p:=fun hu j hj=>by
  obtain⟨cc,hc⟩:=hu.block j hj
  exact h.here.ne hc (by decide)
 exact {h with
  here:=h.here.setTick x
  lots:=h.lots.keep k (fun j hj=>by
   obtain⟨cc,hc⟩:=h.lots.block j hj
   exact h.here.ne hc (by decide))
  owners:=h.owners.keep k (hI h.owners)
  states:=h.states.keep k (hI h.states)
  outs:=h.outs.keep k (fun j hj=>by
   obtain⟨cc,hc⟩:=h.outs.block j hj
   exact h.here.ne hc (by decide))
  barred:=h.barred.keep k (hI h.barred)
  opn:=h.opn.keep k (fun j hj=>by
   rcases hj with ⟨cs,hc⟩ | ⟨es,ck,hc⟩
   ·exact h.here.ne hc (by decide)
   ·intro e
    rw[e,h.here] at hc
    injection hc with hc
    injection hc)
  tick:=rfl}
def sG:Array Value:=#[Value.nilFunc,Value.func (Fn.func 40) #[] #[],Value.func (Fn.func 41) #[] #[],Value.func (Fn.func 42) #[] #[],Value.func (Fn.func 43) #[] #[],Value.func (Fn.func 44) #[] #[],Value.func (Fn.func 45) #[] #[]]
theorem xH (k:Nat) (h:1<=k/\k<=6):sG[k]?=some (.func (.func (j6 k)) #[] #[]):=by
 have h6:k=1\/k=2\/k=3\/k=4\/k=5\/k=6:=by omega
 rcases h6 with rfl | rfl | rfl | rfl | rfl | rfl <;> rfl
theorem uS (k:Nat) (h:1<=k/\k<=6) (args:Array Value) (w:World):(callFunc (j6 k) args).run prog w=.ok (.enter (j6 k) args) w:=by
 have h6:k=1\/k=2\/k=3\/k=4\/k=5\/k=6:=by omega
 rcases h6 with rfl | rfl | rfl | rfl | rfl | rfl
 ·change (callFunc 40 args).run prog w=.ok (.enter 40 args) w;go_simp;try rfl
 ·change (callFunc 41 args).run prog w=.ok (.enter 41 args) w;go_simp;try rfl
 ·change (callFunc 42 args).run prog w=.ok (.enter 42 args) w;go_simp;try rfl
 ·change (callFunc 43 args).run prog w=.ok (.enter 43 args) w;go_simp;try rfl
 ·change (callFunc 44 args).run prog w=.ok (.enter 44 args) w;go_simp;try rfl
 ·change (callFunc 45 args).run prog w=.ok (.enter 45 args) w;go_simp;try rfl
theorem sH (opf:List Int->RecD->Bool) {S:Nat->Prop} {n:Nat} {w:World} {p:Nat} {v:bS} {st:MSt} (h:bB S n w p v st) (hwf:st.Wf) (hS:∀k,S k->k<w.heap.size) (hn:n<1000000000) (rv:RecV) (d:RecD) (hr:jk S w rv d) (hok:d.ok) (hrev:oT opf S n w p st rv d)
  (hm:cF d=true) (hh:fo st d) (k:Nat) (hk:d.kind=k):∀W,Below w.heap.size w W->Calls prog (j6 k) #[.pointer (some ⟨p,0,none⟩),.agg (ae rv)] W (dF S n W p st (gp opf st d)):=by
 intro W hb
 have hW:=h.new hb
 have hSW:∀k,S k->k<W.heap.size:=fun k hk=>Nat.lt_of_lt_of_le (hS k hk) hb.size
 have hRW:=hr.box hb
 have hrv:∃b l ow,rv=d.toV b l ow:=by obtain⟨b,l,o,e,_⟩:=hr w (am.refl _ _);exact⟨b,l,o,e⟩
 have hrt:rv.tick=d.tick:=by obtain⟨b,l,ow,e⟩:=hrv;rw[e];rfl
 have hkd:=dW hm
 have hb0:=dY hm
 have htk:0<=d.tick/\d.tick<=9223372036854775807:=⟨hb0.1,hok.tick.2⟩
 have h6:k=1\/k=2\/k=3\/k=4\/k=5\/k=6:=by omega
 unfold gp
 rw[hk]
 have rdQ:d.kind=3\/d.kind=4->uK d:=fun e=>⟨htk,qw hm e,hok.len,hok.dig,hok.bid,hok.nonce⟩
 rcases h6 with rfl | rfl | rfl | rfl | rfl | rfl
 ·have hk0:st.scene.kind=0:=by
   have:=hh.2.1
   rw[hk] at this
   by_cases e:st.scene.kind=0
   ·exact e
   ·exact absurd (by rw[decide_eq_true e];rfl) this
  exact uF hW hSW hn (hwf.fresh hk0).2.2.1 hwf rv d hok.kind (jz hm hk) hRW
 ·exact uI hW hSW hn hwf rv d (jA hm hk) htk hRW
 ·cases ho:st.opn with
  | none=>exact pI hW hSW ho rv
  | some op=>exact pJ hW hSW hn hwf op ho rv d hrv (rdQ (.inl hk))
 ·exact hrev W v hb hW hSW hn hwf hrv (rdQ (.inr hk))
 ·cases ho:st.opn with
  | none=>exact qJ hW hSW ho rv
  | some op=>exact qL hW hSW hn hwf op ho rv d hrv htk
 ·cases ho:st.opn with
  | none=>
   have:iU st d:=by unfold iU;rw[ho];trivial
   show Calls _ _ _ _ (dF S n W p st (if iU st d then some (im st) else none))
   rw[if_pos this]
   exact uQ hW hSW hwf ho rv
  | some op=>exact uR hW hSW hwf op ho rv d hrt htk
theorem oU (opf:List Int->RecD->Bool) {S:Nat->Prop} {n:Nat} {w:World} {p:Nat} {st:MSt} (h:ft S n w p st) (hS:∀k,S k->k<w.heap.size) (hn:n<1000000000) (rv:RecV) (d:RecD) (hr:jk S w rv d) (hok:d.ok) (hrev:oT opf S n w p st rv d):
  Calls prog 17 #[.pointer (some ⟨p,0,none⟩),.agg (ae rv)] w (jD opf S n w p st d):=by
 obtain⟨L,hL⟩:=nm (w.heap.size)
 obtain⟨w0,hw0⟩:=nm (w.alloc (.cells (ae rv) 49))
 have HN0:aa (Below w.heap.size w w0):=by rw[hw0];exact af _ _
 have HR0:aa (ah w0 L rv):=by rw[hw0,hL];exact ah.box _ _
 have HLW:aa (L=w.heap.size):=hL
 have HH:=ac h
 have HSS:=ac hS
 have HRO:=ac hr
 have HOK:=ac hok
 have HREV:=ac hrev
 have hi0:(prog.info? 49).map (·.size)=some (ae rv).size:=by rw[aj];kernel_rfl
 have hi3:(prog.info? 49).map (·.size)=some (ae rv).toList.length:=by rw[Array.length_toList,aj];kernel_rfl
 clear h hS hr hok hrev
 go_enter func17,ntmps17
 go_upto_region 3 with fail
 rw[<-hw0,<-hL]
 clear hw0 hL
 go_wp2_with (guard_target =~ wpList _ _ _ _ _ _;refine wpList_load_row rfl _ _ rfl L rfl _ (ae rv) (0,0) _ HR0.out underlying49 rfl hi0 ?_)
 refine (uB rv d HOK.out w0 (HRO.out _ (ak HN0.out _))).mono ?_
 rintro e w1 ⟨rfl,hb1⟩
 have HN1:=ac (HN0.out.trans (hb1.mono HN0.out.size))
 have HR1:=ac (HR0.out.new hb1)
 clear hb1 hi0
 by_cases hm:cF d=true
 case neg=>
  have HT:aa (cd opf st d=(15,st)):=by rw[aa,cd,if_neg hm]
  rw[show j3 d=(⟨#[]⟩,15) by rw[j3,if_neg hm]]
  clear hm
  go_wp2_with fail
  go_ret
  unfold jD
  rw[HT.out]
  exact⟨rfl,S,(HH.out.new HN1.out).wide (fun _ h=>h) (Nat.le_succ n),ak HN1.out _,fun _ h=>.inl h,fun k hk=>Nat.lt_of_lt_of_le (HSS.out k hk) HN1.out.size⟩
 case pos=>
 have HM:=ac hm
 rw[show j3 d=(dp d,0) by rw[j3,if_pos hm]]
 clear hm
 go_upto_region 7 with fail
 rw[show (w1.alloc (.cells #[Value.nilFunc,Value.func (Fn.func 40) #[] #[],Value.func (Fn.func 41) #[] #[],Value.func (Fn.func 42) #[] #[],Value.func (Fn.func 43) #[] #[],Value.func (Fn.func 44) #[] #[],Value.func (Fn.func 45) #[] #[]] 100))=w1.alloc (.cells sG 100) from rfl]
 obtain⟨T,hT⟩:=nm (w1.heap.size)
 obtain⟨w3,hw3⟩:=nm (w1.alloc (.cells sG 100))
 have HN31:Below w1.heap.size w1 w3:=by rw[hw3];exact af _ _
 have HT3:aa (w3.heap[T]?=some (.cells sG 100 (0,0))):=by rw[hw3,hT];exact ax _ _
 have HN3:aa (Below w.heap.size w w3):=HN1.out.trans (HN31.mono HN1.out.size)
 have HR3:aa (ah w3 L rv):=HR1.out.new HN31
 rw[<-hw3,<-hT]
 clear hw3 HN31 HN1 HR1 hT
 obtain⟨⟨v,hv⟩,hwf,hnx⟩:=HH.out
 have HV:=ac hv
 have HWF:=ac hwf
 have HNX:=ac hnx
 have HVN:=ac (hv.new HN3.out)
 obtain⟨R,hR⟩:∃R,R=(if fo st d then gp opf st d else none):=⟨_,rfl⟩
 have HRR:=ac hR
 obtain⟨b0,l0,o0,erv,hq0⟩:=HRO.out w (am.refl _ _)
 have hrk:rv.kind=d.kind:=by rw[erv];rfl
 have hrt:rv.tick=d.tick:=by rw[erv];rfl
 obtain⟨kd,hkd⟩:∃x:Nat,d.kind=x:=Int.eq_ofNat_of_zero_le (by have:=dW HM.out;omega)
 have hk6:1<=kd/\kd<=6:=by have:=dW HM.out;omega
 obtain⟨td,htd⟩:=nm (d.tick)
 obtain⟨tm,htm⟩:=nm (st.tick)
 obtain⟨en,hen⟩:=nm (st.ended)
 have HTD:=ac htd
 have HKD:=ac hkd
 have e0:w3.cell? ⟨L,0,none⟩=some (.int .i64 kd):=by rw[<-hkd,<-hrk];exact HR3.out.kind
 have e4:w3.cell? ⟨L,4,none⟩=some (.int .i64 td):=by rw[htd,<-hrt];exact HR3.out.tick
 have HE0:aa (∀ W,ah W L rv->W.cell? ⟨L,0,none⟩=some (.int .i64 kd)):=fun W h=>by rw[<-hkd,<-hrk];exact h.kind
 have HE4:aa (∀ W,ah W L rv->W.cell? ⟨L,4,none⟩=some (.int .i64 td)):=fun W h=>by rw[htd,<-hrt];exact h.tick
 have c55:w3.cell? ⟨p,55,none⟩=some (.bool en):=by have:=HVN.out.here.ended;rw[hv.ended,<-hen] at this;exact this
 have c54:w3.cell? ⟨p,54,none⟩=some (.int .i64 tm):=by have:=HVN.out.here.tick;rw[hv.tick,<-htm] at this;exact this
 have HVT:aa (v.tick=tm):=by rw[htm];exact hv.tick
 have HVE:aa (v.ended=en):=by rw[hen];exact hv.ended
 have HHP:aa (fo st d↔en=false/\decide (st.scene.kind≠0)≠decide ((kd:Int)=1)/\tm<=td):=by unfold fo;rw[hen,htm,htd,hkd];exact Iff.rfl
 have HCALL:aa (fo st d->∀W,Below w.heap.size w W->Calls prog (j6 kd) #[.pointer (some ⟨p,0,none⟩),.agg (ae rv)] W (dF S n W p st (gp opf st d))):=fun hh=>sH opf HV.out HWF.out HSS.out hn rv d HRO.out HOK.out HREV.out HM.out hh kd HKD.out
 have HNONE:aa (¬ fo st d->R=none):=fun h=>by rw[HRR.out,if_neg h]
 have HSOME:aa (fo st d->R=gp opf st d):=fun h=>by rw[HRR.out,if_pos h]
 clear hR hv hwf hnx erv hq0 b0 l0 o0 hrk hrt hkd htd htm hen
 go_cut [48] (fun s wx=>s=.bool (!R.isSome)/\aa (dF S n w p st R (.returned (.bool R.isSome)) wx/\ah wx L rv))
 case first=>
  --F
  cases hen:en with
  | true=>
   rw[hen] at c55
   have HRN:aa (R=none):=HNONE.out (fun h=>by have:=(HHP.out.1 h).1;rw[hen] at this;cases this)
   clear hen
   go_quiet (fail)
   go_wp2_with fail
   go_meet
   case rel=>exact⟨by rw[HRN.out];rfl,by rw[HRN.out];exact⟨aW HV.out HSS.out (bH HN3.out _),HR3.out.new (ay _ _)⟩⟩
  | false=>
  rw[hen] at c55
  have HENF:=ac hen
  clear hen
  obtain⟨sc,hsc⟩:=nm (decide ((kd:Int)=1))
  obtain⟨bg,hbg⟩:=nm (decide (st.scene.kind≠0))
  have HBG:=ac hbg
  have HHP2:aa (fo st d↔bg≠sc/\tm<=td):=by rw[hsc,hbg];exact⟨fun h=>(HHP.out.1 h).2,fun h=>HHP.out.2 ⟨HENF.out,h⟩⟩
  have hscd:((kd:Int)==1)=sc:=by rw[hsc];rfl
  clear hsc hbg
  by_cases hbs:bg=sc
  ·have HRN:aa (R=none):=HNONE.out (fun h=>(HHP2.out.1 h).1 hbs)
   have hbb:(bg==sc)=true:=by rw[hbs];simp
   clear hbs
   go_quiet ((go_at_call 46;exact lV HVN.out bg HBG.out _))
   go_wp2_with fail
   go_meet
   case rel=>exact⟨by rw[HRN.out];rfl,by rw[HRN.out];exact⟨aW HV.out HSS.out (bH HN3.out _),HR3.out.new (ay _ _)⟩⟩
  have hbb:(bg==sc)=false:=by cases bg <;> cases sc <;> simp_all
  have HBS:=ac hbs
  clear hbs
  by_cases ht:td<tm
  ·have HRN:aa (R=none):=HNONE.out (fun h=>by have:=(HHP2.out.1 h).2;omega)
   have htt:decide (td<tm)=true:=by simpa using ht
   clear ht
   go_quiet ((go_at_call 46;exact lV HVN.out bg HBG.out _))
   go_wp2_with fail
   go_meet
   case rel=>exact⟨by rw[HRN.out];rfl,by rw[HRN.out];exact⟨aW HV.out HSS.out (bH HN3.out _),HR3.out.new (ay _ _)⟩⟩
  have htt:decide (td<tm)=false:=by simpa using ht
  have HHERE:aa (fo st d):=HHP2.out.2 ⟨HBS.out,by omega⟩
  clear ht
  obtain⟨cp,hcp⟩:∃c,c=(ae rv).toList:=⟨_,rfl⟩
  have HCPR:aa (∀ W,ah W L rv->W.rangeAt L 0 cp):=fun W h=>by rw[hcp];exact qA h
  have HCALL2:aa (∀ W,Below w.heap.size w W->Calls prog (j6 kd) #[.pointer (some ⟨p,0,none⟩),.agg cp.toArray] W (dF S n W p st (gp opf st d))):=by rw[hcp,Array.toArray_toList];exact HCALL.out HHERE.out
  rw[<-hcp] at hi3
  clear hcp
  have HS0:aa ((fun W=>aV W p v/\ah W L rv/\W.heap[T]?=some (.cells sG 100 (0,0))) w3.drew):=⟨HVN.out.here.new (aA _),HR3.out.new (aA _),au HT3.out (aA _)⟩
  refine eU (t:=28) (S:=fun W=>aV W p v/\ah W L rv/\W.heap[T]?=some (.cells sG 100 (0,0))) (by kernel_rfl) ?_
  refine lf 0 (.pointer (some ⟨p,0,none⟩)) (.inr HS0.out) ?_
  try simp only[Act.put,ps]
  refine lf 1 (.pointer (some ⟨p,0,none⟩)) (.inr HS0.out) ?_
  try simp only[Act.put,ps]
  refine lf 2 (.pointer (some ⟨p,55,none⟩)) (.inr HS0.out) ?_
  try simp only[Act.put,ps]
  refine ez [4,6,12,21,28] (i:=3) (oi:=_) (v:=.bool false) rfl (by kernel_rfl) (by kernel_rfl) (by kernel_rfl) (by kernel_rfl) (by kernel_rfl) (by decide) (fun _ _ _ h=>h) (Or.inl ⟨by rfl,?_⟩) HS0.out ?_
  ·intro W hSw
   have c:=hSw.1.ended
   rw[HVE.out,HENF.out] at c
   go_simp
  try simp only[Act.put,ps]
  refine lf 4 (.bool false) (.inr HS0.out) ?_
  try simp only[Act.put,ps]
  refine lf 5 (.pointer (some ⟨p,0,none⟩)) (.inr HS0.out) ?_
  try simp only[Act.put,ps]
  refine lf 7 (.pointer (some ⟨L,0,none⟩)) (.inr HS0.out) ?_
  try simp only[Act.put,ps]
  refine ez [9,10,11,12,21,28] (i:=8) (oi:=_) (v:=.int .i64 kd) rfl (by kernel_rfl) (by kernel_rfl) (by kernel_rfl) (by kernel_rfl) (by kernel_rfl) (by decide) (fun _ _ _ h=>h) (Or.inl ⟨by rfl,?_⟩) HS0.out ?_
  ·intro W hSw
   have c:=HE0.out W hSw.2.1
   go_simp
  try simp only[Act.put,ps]
  refine lf 9 (.bool sc) (.inr HS0.out) ?_
  try simp only[Act.put,ps]
  refine dH (j:=6) (o:=_) (by kernel_rfl) rfl fun K hK=>?_
  go_simp
  refine (oP (HVN.out.new (aA w3))).mono ?_
  rintro e w4 ⟨rfl,q4,hw4⟩
  have HN43:Below w3.heap.size w3 w4:=by rw[hw4];exact bH (aA w3) _
  have HN4:aa (Below w.heap.size w w4):=HN3.out.trans (HN43.mono HN3.out.size)
  have HS1:aa ((fun W=>aV W p v/\ah W L rv/\W.heap[T]?=some (.cells sG 100 (0,0))) w4):=⟨HVN.out.here.new HN43,HR3.out.new HN43,au HT3.out HN43⟩
  clear hw4 HN43 HS0
  rw[<-HBG.out]
  try go_simp
  refine hK.out _ w4 HS1.out ?_
  clear hK K
  try simp only[Act.put,ps]
  refine lf 10 (.bool false) (.inr HS1.out) ?_
  try simp only[Act.put,ps]
  refine lf 11 (.bool false) (.inr HS1.out) ?_
  try simp only[Act.put,ps]
  refine lf 12 (.bool false) (.inr HS1.out) ?_
  try simp only[Act.put,ps]
  refine lf 13 (.pointer (some ⟨L,4,none⟩)) (.inr HS1.out) ?_
  try simp only[Act.put,ps]
  refine ez [19,20,21,28] (i:=14) (oi:=_) (v:=.int .i64 td) rfl (by kernel_rfl) (by kernel_rfl) (by kernel_rfl) (by kernel_rfl) (by kernel_rfl) (by decide) (fun _ _ _ h=>h) (Or.inl ⟨by rfl,?_⟩) HS1.out ?_
  ·intro W hSw
   have c:=HE4.out W hSw.2.1
   go_simp
  try simp only[Act.put,ps]
  refine lf 15 (.pointer (some ⟨p,0,none⟩)) (.inr HS1.out) ?_
  try simp only[Act.put,ps]
  refine lf 16 (.pointer (some ⟨p,0,none⟩)) (.inr HS1.out) ?_
  try simp only[Act.put,ps]
  refine lf 17 (.pointer (some ⟨p,54,none⟩)) (.inr HS1.out) ?_
  try simp only[Act.put,ps]
  refine ez [19,20,21,28] (i:=18) (oi:=_) (v:=.int .i64 tm) rfl (by kernel_rfl) (by kernel_rfl) (by kernel_rfl) (by kernel_rfl) (by kernel_rfl) (by decide) (fun _ _ _ h=>h) (Or.inl ⟨by rfl,?_⟩) HS1.out ?_
  ·intro W hSw
   have c:=hSw.1.tick
   rw[HVT.out] at c
   go_simp
  try simp only[Act.put,ps]
  refine lf 19 (.bool false) (.inr HS1.out) ?_
  try simp only[Act.put,ps]
  refine lf 20 (.bool false) (.inr HS1.out) ?_
  try simp only[Act.put,ps]
  refine lf 21 (.bool false) (.inr HS1.out) ?_
  try simp only[Act.put,ps]
  refine lf 22 (.pointer (some ⟨L,0,none⟩)) (.inr HS1.out) ?_
  try simp only[Act.put,ps]
  refine ez [24,25,28] (i:=23) (oi:=_) (v:=.int .i64 kd) rfl (by kernel_rfl) (by kernel_rfl) (by kernel_rfl) (by kernel_rfl) (by kernel_rfl) (by decide) (fun _ _ _ h=>h) (Or.inl ⟨by rfl,?_⟩) HS1.out ?_
  ·intro W hSw
   have c:=HE0.out W hSw.2.1
   go_simp
  try simp only[Act.put,ps]
  refine ox (i:=24) (oi:=_) (v:=.pointer (some ⟨T,kd,none⟩)) rfl (by kernel_rfl) (by kernel_rfl) (by kernel_rfl) (by decide) (fun _ _ _ h=>h) (Or.inl ⟨by rfl,?_⟩) (.inr HS1.out) ?_
  ·intro W hSw
   have hk7:(kd:Int)<7:=by omega
   go_simp
  try simp only[Act.put,ps]
  refine ez [28] (i:=25) (oi:=_) (v:=.func (.func (j6 kd)) #[] #[]) rfl (by kernel_rfl) (by kernel_rfl) (by kernel_rfl) (by kernel_rfl) (by kernel_rfl) (by decide) (fun _ _ _ h=>h) (Or.inl ⟨by rfl,?_⟩) HS1.out ?_
  ·intro W hSw
   have c:=(aq hSw.2.2 kd).trans (xH kd hk6)
   go_simp
  try simp only[Act.put,ps]
  refine lf 26 (.pointer (some ⟨p,0,none⟩)) (.inr HS1.out) ?_
  try simp only[Act.put,ps]
  refine ez [28] (i:=27) (oi:=_) (v:=.agg cp.toArray) rfl (by kernel_rfl) (by kernel_rfl) (by kernel_rfl) (by kernel_rfl) (by kernel_rfl) (by decide) (fun _ _ _ h=>h) (yieldsIf_load_mid (by rfl) 49 (.tmp 3) rfl L 0 rfl cp _ (fun W hW=>HCPR.out W hW.2.1) underlying49 rfl hi3) HS1.out ?_
  try simp only[Act.put,ps]
  refine gh (j:=28) (o:=_) (by kernel_rfl) rfl (by kernel_rfl) fun K hK=>?_
  go_simp
  rw[uS kd hk6,Oper.upon_enter]
  refine (HCALL2.out w4 HN4.out).mono ?_
  rintro e w5 hms
  have HMS:=ac hms
  have HK5:=ac hms.2
  obtain⟨rfl,-⟩:=hms
  have HRF:aa (ah w5 L rv):=by
   obtain⟨S5,_,k5,_⟩:=HK5.out
   exact HS1.out.2.1.keeps k5 (fun h=>by have:=HSS.out L h;have:=HLW.out;omega)
  try go_simp
  refine hK.out _ w5 ?_
  clear hK K
  try simp only[Act.put,ps]
  refine lf 29 (.bool !(gp opf st d).isSome) (.inl (by kernel_rfl)) ?_
  try simp only[Act.put,ps]
  refine lf 30 (.bool !(gp opf st d).isSome) (.inl (by kernel_rfl)) ?_
  try simp only[Act.put,ps]
  refine fZ (by kernel_rfl) ?_ _
  apply_assumption
  go_meet
  case rel=>
   rw[HSOME.out HHERE.out]
   exact⟨rfl,(HMS.out.from HN4.out),HRF.out⟩
  --E
 case rest=>
 obtain⟨rfl,HQ⟩:=hcut
 obtain⟨w5,hw5⟩:=nm (wc)
 rw[<-hw5] at HQ ⊢
 clear hw5 wc e0 e4 c55 c54 HVN
 have HT:aa (cd opf st d=tQ st d R):=by rw[aa,HRR.out];exact xG HM.out
 have HWF2:=ac (yX (opf:=opf) (d:=d) HWF.out HOK.out)
 have HNX2:=ac (yY (opf:=opf) (d:=d) HNX.out)
 clear HNONE HSOME HRR
 cases hRR:R with
 | none=>
  rw[hRR] at HT HQ
  clear hRR
  go_wp2_with fail
  go_ret
  obtain⟨⟨_,S',⟨v',hv'⟩,hk,h1,h2⟩,_⟩:=HQ.out
  unfold jD
  rw[HT.out] at HWF2 HNX2 ⊢
  exact⟨rfl,S',⟨⟨v',hv'⟩,HWF2.out,HNX2.out⟩,hk,h1,h2⟩
 | some st'=>
  rw[hRR] at HT HQ
  clear hRR
  obtain⟨⟨_,S',⟨v',hv'⟩,hk,h1,h2⟩,hrc⟩:=HQ.out
  have HV':aa (bB S' (n + 1) w5 p v' st'):=ac hv'
  have HK':=ac hk
  have HA:=ac h1
  have HB:=ac h2
  have e4:=HE4.out _ hrc
  have c54:=hv'.here.tick
  have f54:=hv'.here.free 54
  clear hv' hk h1 h2 hrc
  go_wp2_with fail
  go_ret
  unfold jD
  rw[HT.out] at HWF2 HNX2 ⊢
  refine⟨rfl,S',⟨⟨{v' with tick:=td},?_⟩,HWF2.out,HNX2.out⟩,HK'.out.setCell (p:=⟨p,54,none⟩) (.inr (fun h=>h HV.out.own)) _,HA.out,fun k hk=>?_⟩
  ·rw[tQ,<-HTD.out];exact HV'.out.storeTick td
  exact Nat.lt_of_lt_of_le (HB.out k hk) ((am.refl (fun _=>False) w5).setCell (p:=⟨p,54,none⟩) (.inr (fun h=>h)) (.int .i64 td)).size
theorem BD {S:Nat->Prop} {n:Nat} {w:World} {p:Nat} {st:MSt} (h:ft S n w p st):Calls prog 21 #[.pointer (some ⟨p,0,none⟩)] w (io 3 1 st.owners.length (st.owners.map (Value.int .i64)) w):=by
 obtain⟨⟨v,hv⟩,hw,_⟩:=h
 have c:=hv.here.owners
 have HSRC:=ac hv.owners.row.src
 have hl:st.owners.length<=1000000000:=Nat.le_trans hw.nown (by decide)
 clear hv hw
 go_enter func21,ntmps21
 go_wp2_with fail
 refine (j4 w _ _ _ hl HSRC.out).mono ?_
 rintro e w1 ⟨nv,rfl,hnv,hb⟩
 have HNV:=ac hnv
 have HB:=ac hb
 clear hnv hb
 go_wp2_with fail
 go_ret
 exact⟨nv,rfl,HNV.out,HB.out⟩
theorem qd.src {S:Nat->Prop} {w:World} {v:Value} {xs:List OutT} (h:qd S w v xs):y6 w v xs.length 3 (dt xs):=by
 obtain⟨a,cap,e,hc,hx⟩:=az h.1
 refine⟨a,cap,e,pO xs,fun u hu=>by obtain⟨z,_,hz⟩:=List.mem_flatMap.1 hu;rcases List.mem_cons.1 hz with rfl | hz;rfl;rcases List.mem_cons.1 hz with rfl | hz;rfl;obtain rfl:=List.mem_singleton.1 hz;rfl,fun h0=>?_⟩
 obtain⟨g,ea,_,hg,hj⟩:=hx h0
 exact⟨g,0,ea,hg,fun j u hu=>by rw[Nat.zero_add];exact hj j u hu⟩
theorem kP {S:Nat->Prop} {n:Nat} {w:World} {p:Nat} {st:MSt} (h:ft S n w p st) (hn:n<1000000000):Calls prog 23 #[.pointer (some ⟨p,0,none⟩)] w (io 46 3 st.outs.length (dt st.outs) w):=by
 obtain⟨⟨v,hv⟩,hw,_⟩:=h
 have c:=hv.here.outs
 have HSRC:=ac hv.outs.src
 have hl:st.outs.length<=1000000000:=Nat.le_trans hv.nout (by omega)
 clear hv hw
 go_enter func23,ntmps23
 go_wp2_with fail
 refine (sp w _ _ _ hl HSRC.out).mono ?_
 rintro e w1 ⟨nv,rfl,hnv,hb⟩
 have HNV:=ac hnv
 have HB:=ac hb
 clear hnv hb
 go_wp2_with fail
 go_ret
 exact⟨nv,rfl,HNV.out,HB.out⟩
theorem uT {S:Nat->Prop} {n:Nat} {w:World} {p:Nat} {st:MSt} (h:ft S n w p st):Calls prog 24 #[.pointer (some ⟨p,0,none⟩)] w fun e w'=>e=.returned (.bool st.ended)/\∃m,w'=w.drewN m:=by
 obtain⟨⟨v,hv⟩,hw,_⟩:=h
 have c:w.cell? ⟨p,55,none⟩=some (.bool st.ended):=by rw[<-hv.ended];exact hv.here.ended
 clear hv hw
 go_enter func24,ntmps24
 go_wp2_with fail
 go_ret
 exact⟨rfl,0,rfl⟩
def eS (opf:List Int->RecD->Bool):MSt->List RecD->Nat->Option (Int × Nat)
 | _,[],_=>none
 | st,d :: ds,i=>if (cd opf st d).1=0 then eS opf (cd opf st d).2 ds (i + 1) else some ((cd opf st d).1,i)
def qO (opf:List Int->RecD->Bool) (ds:List RecD) (w:World) (e:Ending) (w':World):Prop:=
 Below w.heap.size w w'/\
  ((eS opf {} ds 0=none/\∃u v,e=.returned (.tuple #[u,v,.nilIface])/\w'.ownsRow w.heap.size 3 1 u (eC opf {} ds).owners.length ((eC opf {} ds).owners.map (Value.int .i64))/\
    w'.ownsRow w.heap.size 46 3 v (eC opf {} ds).outs.length (dt (eC opf {} ds).outs))\/
 ∃c i f,eS opf {} ds 0=some (c,i)/\e=.returned (.tuple #[.slice none 0 0,.slice none 0 0,.iface 104 (.pointer (some ⟨f,0,none⟩))])/\w.heap.size<=f/\
    w'.heap[f]?=some (.cells #[.int .i64 c,.int .i64 0,.int .i64 i] 85 (0,0)))
def sI (opf:List Int->RecD->Bool) (ds:List RecD) (P:MSt->Prop) (w:World) (p k:Nat) (wr:World):Prop:=
 Below w.heap.size w wr/\eS opf {} ds 0=eS opf (eC opf {} (ds.take k)) (ds.drop k) k/\P (eC opf {} (ds.take k))/\∃S:Nat->Prop,ft S k wr p (eC opf {} (ds.take k))/\(∀ j,S j->j<wr.heap.size)/\∀j,S j->w.heap.size<=j
theorem bu.one {w:World} {v:RecV} {d:RecD} (h:bu w v d):(ae v).all (·.oneCell')=true:=by
 obtain⟨b,l,o,rfl,⟨a1,c1,rfl,_⟩,⟨a2,c2,rfl,_⟩,⟨a3,c3,rfl,_⟩⟩:=h
 exact aM _ rfl rfl rfl
theorem qP (opf:List Int->RecD->Bool) (st:MSt) (ds:List RecD) (k:Nat) (hk:k<ds.length):eC opf st (ds.take (k + 1))=(cd opf (eC opf st (ds.take k)) (ds.getD k {})).2:=by
 unfold eC
 rw[nf ds k hk,List.foldl_append]
 rfl
theorem xI (opf:List Int->RecD->Bool) (st:MSt) (ds:List RecD) (k:Nat) (hk:k<ds.length):eS opf st (ds.drop k) k=if (cd opf st (ds.getD k {})).1=0 then eS opf (cd opf st (ds.getD k {})).2 (ds.drop (k + 1)) (k + 1) else some ((cd opf st (ds.getD k {})).1,k):=by
 rw[List.drop_eq_getElem_cons hk,List.getD_eq_getElem?_getD,List.getElem?_eq_getElem hk]
 rfl
theorem qQ (opf:List Int->RecD->Bool) (P:MSt->Prop) (hP0:P {}) (w:World) (v:Value) (ds:List RecD) (hds:ds.length<1000000000) (h:aX w v ds) (hok:∀d∈ds,d.ok) (hPs:∀st d,P st->d∈ds->P (cd opf st d).2)
  (hrev:∀W S n p st rv d,Below w.heap.size w W->P st->d∈ds->oT opf S n W p st rv d):Calls prog 19 #[v] w (qO opf ds w):=by
 obtain⟨a,cap,rvs,rfl,hcap,hrw,hra⟩:=h
 have HRW:=ac hrw
 have HRA:=ac hra
 have HOK:=ac hok
 have HPS:=ac hPs
 have HREV:=ac hrev
 obtain⟨n,hn⟩:=nm (ds.length)
 have HNN:=ac hn
 have hn9:n<1000000000:=by rw[hn];exact hds
 have hP00:=ac hP0
 rw[<-hn]
 clear hrw hra hok hPs hrev hn hds hcap hP0
 go_enter func19,ntmps19
 go_wp2_with fail
 refine (pF w).mono ?_
 rintro e w1 ⟨rfl,hw1⟩
 obtain⟨p,hp⟩:=nm (w.heap.size)
 have HP1:aa (sI opf ds P w p 0 w1):=by
  refine⟨by rw[hw1];exact af _ _,by simp[eC],by simpa [eC] using hP00.out,_,by simpa [eC,hp] using oO hw1,fun j hj=>?_,fun j hj=>?_⟩
  ·rw[hj,hw1];simp
  ·exact Nat.le_of_eq hj.symm
 rw[<-hp]
 clear hw1 hp
 go_wp2_with fail
 go_loopg [12] n (fun g v12 wr=>∃k:Nat,k<=n/\v12=.int .i64 k/\n - k<=g/\aa (sI opf ds P w p k wr))
 case atStart=>exact⟨0,Nat.zero_le _,rfl,by omega,HP1.out⟩
 case round=>
  clear HP1
  obtain⟨k,hk,rfl,hg,HA⟩:=hrel
  by_cases hlt:k<n
  ·have hki:(k:Int)<n:=by omega
   obtain⟨hbr,hfl,hpk,S,hmd,hSs,hSb⟩:=HA.out
   have HBR:=ac hbr
   have HFL:=ac hfl
   have HPK:=ac hpk
   have HMD:=ac hmd
   have HSS:=ac hSs
   have HSB:=ac hSb
   have HM:aa (n - (k + 1)<gk/\k + 1<=n):=⟨by omega,hlt⟩
   obtain⟨lb,lo,rfl,hlb,hj⟩:=HRW.out (by rw[<-HNN.out];omega)
   have HRG:=ac (ex (hj k (by rw[<-HNN.out];exact hlt)) hlb HBR.out)
   obtain⟨rv,hrv⟩:=nm (rvs k)
   rw[<-hrv] at HRG
   obtain⟨d,hd⟩:∃d,d=ds.getD k {}:=⟨_,rfl⟩
   have HDD:=ac hd
   have hmem:d∈ds:=by
    rw[hd,List.getD_eq_getElem?_getD,List.getElem?_eq_getElem (show k<ds.length by rw[<-HNN.out];exact hlt)]
    exact List.getElem_mem _
   have HRV:aa (bu w rv d):=by rw[hrv,hd];exact HRA.out k (by rw[<-HNN.out];exact hlt)
   have HKD:aa (k<ds.length):=by rw[<-HNN.out];exact hlt
   have HMEM:=ac hmem
   have hi0:(prog.info? 49).map (·.size)=some (ae rv).toList.length:=by rw[Array.length_toList,aj];kernel_rfl
   clear hj hrv hmem hd hg hbr hfl hpk hmd hSs hSb
   have hon:=bu.one HRV.out
   have hi49:(prog.info? 49).map (·.size)=some (ae rv).size:=by rw[aj];kernel_rfl
   go_upto_region 5 with (first
    | (refine aG (by rfl) _ _ rfl lb (lo + k * 49) rfl _ _ HRG.out underlying49 rfl hi0 (ae rv) (Array.toArray_toList) ?_)
    | (refine wpList_store_row rfl _ _ _ rfl wr.heap.size (ae rv) rfl rfl 49 _ (ax wr _) hi49 (by rw[aj];simp) hon ?_;rw[World.setRow_alloc_new])
    | fail)
   obtain⟨L,hL⟩:=nm (wr.heap.size)
   obtain⟨w5,hw5⟩:=nm (wr.alloc (.cells (ae rv) 49))
   have HR5:aa (ah w5 L rv):=by rw[hw5,hL];exact ah.box _ _
   have hb5:Below wr.heap.size wr w5:=by rw[hw5];exact af _ _
   have HB5:aa (Below w.heap.size w w5):=ar w _ _ HBR.out hb5
   have HMD5:=ac (HMD.out.new hb5)
   have HSS5:aa (∀ j,S j->j<w5.heap.size):=fun j hj=>Nat.lt_of_lt_of_le (HSS.out j hj) hb5.size
   rw[<-hw5,<-hL]
   clear hw5 hL hb5 hon HRG HMD HSS
   have HRO:aa (jk S w5 rv d):=fun W hW=>HRV.out.on ⟨hW.os.trans HB5.out.os,hW.tape.trans HB5.out.tape,hW.output.trans HB5.out.output,Nat.le_trans HB5.out.size hW.size,fun j hj=>(hW.block j (Nat.lt_of_lt_of_le hj HB5.out.size) (fun h=>by have:=HSB.out j h;omega)).trans (HB5.out.block j hj)⟩
   go_wp2_with (first
    | (refine wpList_load_row rfl _ _ rfl L rfl _ (ae rv) (0,0) _ HR5.out underlying49 rfl hi49 ?_)
    | fail)
   refine (oU opf HMD5.out HSS5.out (by omega) rv d HRO.out (HOK.out d HMEM.out) (HREV.out w5 S k p _ rv d HB5.out HPK.out HMEM.out)).mono ?_
   rintro e w6 ⟨rfl,S',hmd6,hk6,hs6,hz6⟩
   have HB6:aa (Below w.heap.size w w6):=⟨hk6.os.trans HB5.out.os,hk6.tape.trans HB5.out.tape,hk6.output.trans HB5.out.output,Nat.le_trans HB5.out.size hk6.size,fun j hj=>(hk6.block j (Nat.lt_of_lt_of_le hj HB5.out.size) (fun h=>by have:=HSB.out j h;omega)).trans (HB5.out.block j hj)⟩
   have HMD6:=ac hmd6
   have HZ6:=ac hz6
   have HS6:aa (∀ j,S' j->w.heap.size<=j):=fun j hj=>(hs6 j hj).elim (HSB.out j) (fun h=>Nat.le_trans HB5.out.size h)
   obtain⟨c,hc⟩:∃c,c=(cd opf (eC opf {} (ds.take k)) d).1:=⟨_,rfl⟩
   rw[<-hc]
   have HC:=ac hc
   have HNX:aa (eC opf {} (ds.take (k + 1))=(cd opf (eC opf {} (ds.take k)) d).2):=by rw[aa,qP _ _ _ _ HKD.out,<-HDD.out]
   have HFA:aa (eS opf {} ds 0=if c=0 then eS opf (eC opf {} (ds.take (k + 1))) (ds.drop (k + 1)) (k + 1) else some (c,k)):=by rw[aa,HFL.out,xI _ _ _ _ HKD.out,<-HDD.out,<-HC.out,HNX.out]
   clear hmd6 hk6 hs6 hz6 hc hi0 hi49 HR5 HB5 HMD5 HSS5 HRO
   by_cases h0:c=0
   ·subst h0
    have HFB:aa (eS opf {} ds 0=eS opf (eC opf {} (ds.take (k + 1))) (ds.drop (k + 1)) (k + 1)):=by rw[aa,HFA.out,if_pos rfl]
    have HPA:aa (sI opf ds P w p (k + 1) w6):=⟨HB6.out,HFB.out,by rw[HNX.out];exact HPS.out _ _ HPK.out HMEM.out,S',by rw[HNX.out];exact HMD6.out,HZ6.out,HS6.out⟩
    go_wp2_with fail
    go_roundg (n - (k + 1))
    case measure=>exact HM.out.1
    case rel=>exact⟨k + 1,HM.out.2,by go_num,Nat.le_refl _,HPA.out⟩
   ·have hcb:(c !=0)=true:=by simpa using h0
    have HFB:aa (eS opf {} ds 0=some (c,k)):=by rw[aa,HFA.out,if_neg h0]
    clear h0
    go_wp2_with fail
    go_ret3
    refine⟨ar w _ _ HB6.out (af _ _),.inr ⟨c,k,w6.heap.size,HFB.out,rfl,HB6.out.size,ax _ _⟩⟩
  ·have hki:¬(k:Int)<n:=by omega
   obtain rfl:k=n:=by omega
   obtain⟨hbr,hfl,hpk,S,hmd,hSs,hSb⟩:=HA.out
   have hnt:ds.take k=ds:=by rw[HNN.out];exact List.take_length
   have hnd:ds.drop k=[]:=by rw[HNN.out];exact List.drop_length
   rw[hnt,hnd] at hfl
   rw[hnt] at hmd
   have HBR:=ac hbr
   have HFL:aa (eS opf {} ds 0=none):=hfl
   have HMD:=ac hmd
   clear hnt hnd hbr hfl hpk hmd hSs hSb
   go_wp2_with fail
   refine (BD HMD.out).mono ?_
   rintro e w2 ⟨u,rfl,hu,hb2⟩
   have HU:=ac hu
   have HB2:=ac hb2
   have HMD2:=ac (HMD.out.new hb2)
   clear hu hb2
   go_wp2_with fail
   refine (kP HMD2.out (by omega)).mono ?_
   rintro e w3 ⟨x,rfl,hx,hb3⟩
   have HX:=ac hx
   have HU3:=ac (bG HU.out hb3)
   have HB3:aa (Below w.heap.size w w3):=ar w _ _ (ar w _ _ HBR.out HB2.out) hb3
   have HW2:aa (w.heap.size<=w2.heap.size):=Nat.le_trans HBR.out.size HB2.out.size
   clear hx hb3
   go_wp2_with fail
   go_ret3
   exact⟨HB3.out,.inl ⟨HFL.out,u,x,rfl,bY HU3.out HBR.out.size,bY HX.out HW2.out⟩⟩
