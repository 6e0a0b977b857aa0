/- The document's draft of records: Records, walked. Printed by wip/gen/mrv.py. -/
import Derived.Test.YtfnekbfcndkjeaaGreatDoorZMrg
import Derived.Test.YtfnekbfcndkjeaaGreatDoorZMop
set_option maxHeartbeats 8000000
set_option maxRecDepth 100000
set_option linter.all false
namespace Go.Proofs.YtfnekbfcndkjeaaGreatDoor
open Go.Proofs.Tryz Go.RowKit Go.Maps
def Ad (w:World) (e:Ending) (w':World):Prop:=
 ∃v ds,e=.returned v/\dQ w.heap.size w' v ds/\(∀ d∈ds,cF d=true/\d.ok)/\(ds.length<=52/\0<ds.length)/\Below w.heap.size w w'
structure rr (w0:World) (L:Nat) (D:Array Value) (W:World) (v:Value) (ds:List RecD) (k:Nat):Prop where
 bel:Below w0.heap.size w0 W
 box:W.heap[L]?=some (.cells D 24 (0,0))
 recs:dQ w0.heap.size W v ds
 dw:DW ds
 tick:∀j,j<ds.length->(ds.getD j {}).tick<=50
 len:ds.length<=k + 1
theorem rr.new {w0:World} {L:Nat} {D:Array Value} {W W':World} {v:Value} {ds:List RecD} {k:Nat} (h:rr w0 L D W v ds k) (hb:Below W.heap.size W W'):rr w0 L D W' v ds k:=
 ⟨ar w0 _ _ h.bel hb,au h.box hb,h.recs.on hb,h.dw,h.tick,h.len⟩
theorem rr.next {w0:World} {L:Nat} {D:Array Value} {W:World} {v:Value} {ds:List RecD} {k:Nat} (h:rr w0 L D W v ds k):rr w0 L D W v ds (k + 1):=
 ⟨h.bel,h.box,h.recs,h.dw,h.tick,Nat.le_succ_of_le h.len⟩
theorem DW.tick0 {ds:List RecD} (h:DW ds) {j:Nat} (hj:j<ds.length):0<=(ds.getD j {}).tick:=(dY (h.at_ hj).1).1
theorem rr.snoc {w0:World} {L:Nat} {D:Array Value} {W W':World} {v v':Value} {ds:List RecD} {k:Nat} {rvs:List RecV} {rv:RecV} {d:RecD} (h:rr w0 L D W v ds k) (hL:L<w0.heap.size) (h1:rvs.length=ds.length)
  (h2:W.ownsRow w0.heap.size 49 49 v ds.length (rvs.flatMap fun r=>(ae r).toList)) (h3:∀j,j<ds.length->bD w0.heap.size W (rvs.getD j {}) (ds.getD j {})) (hr:bD w0.heap.size W rv d)
  (hk:∀K:Nat->Prop,(∀ k,v.ownBlock=some k->¬K k)->am K W W') (hown:W'.ownsRow w0.heap.size 49 49 v' (ds.length + 1) ((rvs.flatMap fun r=>(ae r).toList)++(ae rv).toList))
  (hm:cF d=true) (hok:d.ok) (hc:o7 ds d) (ht:d.tick<=50) (hk9:k<=60):rr w0 L D W' v' (ds++[d]) (k + 1):=by
 have ho:∀j,v.ownBlock=some j->w0.heap.size<=j:=fun j hj=>(World.ownsRow.lt h2 j hj).1
 refine⟨aB h.bel (hk (fun j=>j<w0.heap.size) (fun j hj e=>by have:=ho j hj;omega)) (fun j hj=>hj),?_,dQ.snoc h1 h2 h3 hr hk hown,h.dw.snoc (by have:=h.len;omega) hm hok hc,?_,?_⟩
 ·exact aw h.box (hk (fun j=>j=L) (fun j hj e=>by have:=ho j hj;omega)) rfl
 ·intro j hj
  by_cases e:j<ds.length
  ·rw[eH e];exact h.tick j e
  ·have:j=ds.length:=by rw[List.length_append] at hj;simp at hj;omega
   subst this
   rw[lL];exact ht
 ·rw[List.length_append];have:=h.len;simp;omega
theorem ye {s:rJ} (hs:s.ok) {ls:List (Int × Int)} {xs:List Int} (hl:ls.length=s.n) (hx:xs.length=s.n + 1) (hy:∀y∈xs,0<=y/\y<s.ca) (hz:∀x∈ls,(1<=x.1/\x.1<=s.n)/\0<=x.2/\x.2<=1020):DW [s.rd ls xs]:=by
 have h5:=hs.n
 have hca:=hs.ca
 have hcm:=hs.cm
 have hre:=hs.re
 have hm:=Bk s.ca s.cm s.re s.sc ls xs hs.ca (by omega) (by omega) hs.sc (fun x hx=>by have:=hz x hx;omega) (by omega) (fun y hyy=>by have:=hy y hyy;omega) (by omega)
 have hk:(s.rd ls xs).kind=1:=rfl
 refine⟨by simp,by simp,jz hm.1 hk,?_,?_,?_,?_⟩
 ·intro k hk
  have hk':k<ls.length:=hk
  have hmem:ls.getD k (0,0)∈ls:=by rw[List.getD_eq_getElem?_getD,List.getElem?_eq_getElem hk'];exact List.getElem_mem _
  have:=hz _ hmem
  show 0<=(ls.getD k (0,0)).1/\(ls.getD k (0,0)).1<(xs.length:Int)
  omega
 ·intro j hj hk2
  obtain rfl:j=0:=by simp at hj;omega
  exact absurd (hk.symm.trans hk2) (by decide)
 ·intro j hj hk2
  obtain rfl:j=0:=by simp at hj;omega
  exact absurd (hk.symm.trans hk2) (by decide)
 ·intro d hd
  rw[List.mem_singleton.1 hd]
  exact hm
theorem vx {B:Nat} {W W':World} {rv:RecV} {d:RecD} (h:bD B W rv d) (hB:B<=W.heap.size) (hW:W'=W.alloc (.cells (ae rv) 49)):dQ B W' (.slice (some ⟨W.heap.size,0,none⟩) 1 1) [d]:=by
 refine⟨[rv],rfl,⟨by simp[aj],.inr ⟨W.heap.size,1,ae rv,rfl,hB,by rw[hW];exact ax _ _,Nat.le_refl _,by decide,by rw[aj],?_⟩⟩,fun j hj=>?_⟩
 ·have:(ae rv).toList.length=49:=by rw[Array.length_toList,aj]
  rw[List.take_of_length_le (by simp[this])]
  simp
 ·obtain rfl:j=0:=by simp at hj;omega
  exact h.on (by rw[hW];exact af _ _)
theorem kl (B:Nat) (W:World) {d:RecD} (h1:d.barred=[]) (h2:d.lots=[]) (h3:d.owners=[]):bD B W (aN d) d:=
 ⟨.slice none 0 0,.slice none 0 0,.slice none 0 0,rfl,by rw[h1];exact de.nil _ _,by rw[h2];exact d7.nil _ _,by rw[h3];exact de.nil _ _⟩
theorem zU (W:World) (t:Int):(Instr.build 49 #[(0,.int .i64 6),(4,.int .i64 t)]).run prog W=.ok (.agg (ae (aN {kind:=6,tick:=t}))) W:=by kernel_rfl
theorem p9 (w:World) (dr:sV) (hdr:dr.ok) (b:Value) (hb:i4 w b dr.n):
  Calls prog 10 #[.agg (dr.cells b)] w (Ad w):=by
 have HDR:=ac hdr
 obtain⟨L,hL⟩:∃x,x=w.heap.size:=⟨_,rfl⟩
 obtain⟨D,hDD⟩:∃D:Array Value,D=dr.cells b:=⟨_,rfl⟩
 obtain⟨w0,hw0⟩:∃z,z=w.alloc (.cells D 24):=⟨_,rfl⟩
 have HS0:aa (w0.heap.size=L + 1):=by rw[aa,hw0,hL];simp
 have HLW:aa (L=w.heap.size):=hL
 have HN0:aa (Below w.heap.size w w0):=by rw[hw0];exact af _ _
 have HX0:aa (w0.heap[L]?=some (.cells D 24 (0,0))):=by rw[hw0,hL];exact ax _ _
 have HB0:aa (i4 w0 b dr.n):=hb.up HN0.out
 have HDD:=ac hDD
 have HDZ:aa ((prog.info? 24).map (·.size)=some D.size):=by rw[aa,hDD];kernel_rfl
 obtain⟨n,hn⟩:∃x,x=dr.n:=⟨_,rfl⟩
 have hn4:n<=4000000000000000000:=by rw[hn];exact hdr.n
 obtain⟨ba,bc,hbv,hbc,_⟩:=HB0.out
 rw[<-hn] at hbv hbc
 have HBV:=ac hbv
 have HNN:=ac hn
 have HD5:aa (D[5]?=some (.slice ba n bc)):=by rw[aa,hDD,<-hbv];rfl
 rw[<-hDD]
 clear hb hdr hDD hn hbv
 go_enter func10,ntmps10
 go_upto_region 1 with fail
 refine kj hw0 ?_
 rw[<-hL]
 clear hw0 hL
 go_wp2_with (first
  | (refine wpList_load_row rfl _ _ rfl L rfl _ D (0,0) _ HX0.out underlying24 rfl HDZ.out ?_)
  | fail)
 have hcall:=ti w0 dr HDR.out b HB0.out
 rw[<-HDD.out] at hcall
 refine hcall.mono ?_
 clear hcall
 rintro e w1 ⟨hb1,s,lv,ov,ls,xs,hs,rfl,hrf,hls,hxs,hy,hx⟩
 have HDS:aa (DW [s.rd ls xs]):=ye hs hls hxs hy hx
 obtain⟨RS,hRS⟩:∃R,R=ae (s.rv lv ov):=⟨_,rfl⟩
 have HRZ:aa (RS.size=49):=by rw[hRS];exact aj _
 have HR1:aa (rr w0 L D (w1.alloc (.cells RS 49)) (.slice (some ⟨w1.heap.size,0,none⟩) 1 1) [s.rd ls xs] 0):=by
  refine⟨ar w0 _ _ hb1 (af _ _),au (au HX0.out hb1) (af _ _),vx hrf hb1.size (by rw[hRS]),HDS.out,fun j hj=>?_,by simp⟩
  obtain rfl:j=0:=by simp at hj;omega
  show (0:Int)<=50
  decide
 rw[<-hRS]
 clear hb1 hs hrf hls hxs hy hx hRS
 go_upto_region 2 with (first
  | (refine fN rfl 29 1 _ rfl (.agg RS) _ rfl (d6 RS HRZ.out w1) ?_)
  | fail)
 obtain⟨w2,hw2⟩:∃z,z=w1.alloc (.cells RS 49):=⟨_,rfl⟩
 obtain⟨lb,hlb⟩:∃x,x=w1.heap.size:=⟨_,rfl⟩
 rw[<-hw2,<-hlb] at HR1
 rw[<-hw2,<-hlb]
 clear hw2 hlb
 go_wp2_with fail
 go_loopg [3,4,5] 50 (fun g v3 v4 v5 wr=>∃(k now:Nat) (ds:List RecD),k<=50/\now<=k/\v4=.int .i64 now/\v5=.int .i64 k/\50 - k<=g/\aa (rr w0 L D wr v3 ds k))
 case atStart=>exact⟨0,0,_,by omega,by omega,rfl,rfl,by omega,HR1.out⟩
 case round=>
  clear HR1
  obtain⟨k,now,ds,hk,hnow,rfl,rfl,hg,HR⟩:=hrel
  obtain⟨m,hm⟩:∃m,m=ds.length:=⟨_,rfl⟩
  obtain⟨lb,cv,rfl⟩:∃lb cv,u3=.slice (some ⟨lb,0,none⟩) m cv:=by
   obtain⟨_,_,h2,_⟩:=HR.out.recs
   obtain⟨a,cap,e,_,hx⟩:=az h2
   obtain⟨g,ea,_⟩:=hx HR.out.dw.ne
   exact⟨g,cap,by rw[e,ea,hm]⟩
  have HM:=ac hm
  have hm52:m<=k + 1:=by rw[hm];exact HR.out.len
  have hm0:0<m:=by rw[hm];exact HR.out.dw.ne
  have hm0i:(0:Int)<m:=by omega
  have c5:wr.cell? ⟨L,5,none⟩=some (.slice ba n bc):=by rw[aq HR.out.box];exact HD5.out
  have HDS:aa (ds.length<1000000000):=by have:=HR.out.dw.small;rw[aa];omega
  clear hm
  by_cases hc:k<n/\k<50
  ·obtain⟨hkn,hk50⟩:=hc
   have hki:(k:Int)<50:=by omega
   have hni:(k:Int)<n:=by omega
   have HME:aa (∀ q,50 - k<=q->50 - (k + 1)<q):=fun q h=>by omega
   obtain⟨x,hx255,bb,bo,hba,cz⟩:∃x:Nat,x<=255/\∃bb bo,ba=some ⟨bb,bo,none⟩/\wr.cell? ⟨bb,bo + k,none⟩=some (.int .u8 x):=by
    obtain⟨ba',bc',e,_,hj⟩:=HB0.out.up HR.out.bel
    rw[HBV.out,<-HNN.out] at e
    obtain⟨ea,_,_⟩:=Value.slice.inj e
    obtain⟨bb,bo,eb,_,hz⟩:=hj (by rw[<-HNN.out];omega)
    obtain⟨z,cz,z0,z1⟩:=hz k (by rw[<-HNN.out];exact hkn)
    obtain⟨x,rfl⟩:∃x:Nat,z=x:=Int.eq_ofNat_of_zero_le z0
    exact⟨x,by omega,bb,bo,by rw[ea,eb],cz⟩
   subst hba
   have wz:IntKind.i64.wrap (x:Int)=x:=IntWalk.i64_in _ (by omega)
   go_upto_region 7 with fail
   clear cz wz hkn hni hki
   have hra:=HR.out.recs.at_
   have HRA:=ac hra
   clear hra
   go_wp2_with fail
   refine (iJ wr _ ds HDS.out HRA.out).mono ?_
   rintro e wx ⟨rfl,hwx⟩
   rw[hwx]
   clear hwx wx
   obtain⟨op,hop⟩:∃x,x=dg ds ds.length:=⟨_,rfl⟩
   rw[<-hop]
   have HOP:=ac hop
   clear hop
   go_upto_region 8 with fail
   go_cut [8] (fun s8 wx=>∃du:Bool,s8=.bool du/\∃q,wx=wr.drewN q)
   case first=>
    rcases HR.out.dw.opened with ho | ⟨at_,ho,hat,hk2,hl0,hl1⟩
    ·obtain rfl:op=-1:=HOP.out.trans ho
     clear ho
     go_quiet (fail)
     go_wp2_with fail
     go_meet
     case rel=>exact⟨false,rfl,_,rfl⟩
    ·obtain rfl:op=(at_:Int):=HOP.out.trans ho
     have h0:decide ((at_:Int)>=0)=true:=decide_eq_true (by omega)
     have hin:(at_:Int)<m:=by rw[HM.out];omega
     obtain⟨a',cap',e',_,hj'⟩:=HRA.out.cols
     obtain⟨lb',lo',ea',_,hcl⟩:=hj' HR.out.dw.ne
     have e1:=(Value.slice.inj e').1
     rw[ea'] at e1
     injection e1 with e1
     injection e1 with e1 e2
     subst e1;subst e2
     have c4:=(hcl at_ hat).tick
     have t0:=HR.out.dw.tick0 hat
     have t1:=HR.out.tick at_ hat
     obtain⟨tk,htk⟩:∃x,x=(ds.getD at_ {}).tick:=⟨_,rfl⟩
     have c44:=(hcl 0 HR.out.dw.ne).commit
     have c45:=(hcl 0 HR.out.dw.ne).reveal
     have s1:=HR.out.dw.scn.commit
     have s2:=HR.out.dw.scn.reveal
     obtain⟨cm,hcm⟩:∃x,x=(ds.getD 0 {}).commit:=⟨_,rfl⟩
     obtain⟨rl,hrl⟩:∃x,x=(ds.getD 0 {}).reveal:=⟨_,rfl⟩
     rw[<-htk] at c4 t0 t1
     rw[<-hcm] at c44 s1
     rw[<-hrl] at c45 s2
     simp only[Nat.zero_mul,Nat.add_zero,Nat.zero_add] at c4 c44 c45
     have q1:IntKind.i64.wrap ((now:Int) - tk)=(now:Int) - tk:=IntWalk.i64_in _ (by omega)
     have q2:IntKind.i64.wrap (cm + rl)=cm + rl:=IntWalk.i64_in _ (by omega)
     obtain⟨du,hdu⟩:∃y:Bool,y=((now:Int) - tk==cm + rl):=⟨_,rfl⟩
     have hdu':=hdu.symm
     clear ho hl0 hl1 hk2 e' ea' hj' hcl htk hcm hrl hdu
     go_quiet (fail)
     go_wp2_with fail
     go_meet
     case rel=>exact⟨du,by first | rfl | simp[hdu'],_,rfl⟩
   case rest=>
   obtain⟨du,rfl,q,hq⟩:=hcut
   have HR2:aa (rr w0 L D wc (.slice (some ⟨lb,0,none⟩) m cv) ds k):=by rw[hq];exact HR.out.new (ay _ _)
   clear hq HRA c5
   have hx8:(x:Int).tmod 8=((x % 8:Nat):Int):=rfl
   go_upto_region 9 with fail
   go_cut [60] (fun s60 wx=>∃c:Bool,s60=.bool c/\wx=wc)
   case first=>
    by_cases h3:x % 8<3
    ·have b3:decide (((x % 8:Nat):Int)<3)=true:=decide_eq_true (by omega)
     have b4:decide ((x:Int).tmod 8<3)=true:=b3
     have b5:(x:Int) % 8<3:=by omega
     have b6:decide ((x:Int) % 8<3)=true:=decide_eq_true b5
     clear h3
     cases du <;> (go_wp2_with fail;go_meet;case rel=>exact⟨_,rfl,rfl⟩)
    ·have b3:decide (((x % 8:Nat):Int)<3)=false:=decide_eq_false (by omega)
     have b4:decide ((x:Int).tmod 8<3)=false:=b3
     have b5:¬(x:Int) % 8<3:=by omega
     have b6:decide ((x:Int) % 8<3)=false:=decide_eq_false b5
     clear h3
     go_wp2_with fail
     go_meet
     case rel=>exact⟨_,rfl,rfl⟩
   case rest=>
   obtain⟨c,rfl,hwc⟩:=hcut
   rw[hwc]
   have HR3:=HR2
   clear hwc hx8
   cases c with
   | true=>
    have qn:IntKind.i64.wrap ((now:Int) + 1)=(now:Int) + 1:=IntWalk.i64_in _ (by omega)
    go_wp2_with fail
    go_roundg (50 - (k + 1))
    case measure=>exact HME.out _ hg
    case rel=>exact⟨k + 1,now + 1,ds,by omega,by omega,by go_num,by go_num,Nat.le_refl _,HR3.out.next⟩
   | false=>
   go_upto_region 11 with fail
   go_wp2_with (first
    | (refine wpList_load_row rfl _ _ rfl L rfl _ D (0,0) _ HR3.out.box underlying24 rfl HDZ.out ?_)
    | fail)
   have hcall:=rp _ dr HDR.out b (HB0.out.up HR3.out.bel) _ ds HR3.out.recs.at_ HR3.out.dw (fun j hj=>by have:=HR3.out.tick j hj;omega) now (by omega) x hx255
   rw[<-HDD.out] at hcall
   refine hcall.mono ?_
   clear hcall
   rintro e w4 ⟨hb4,rv,d,rfl,hrf,hok,htk⟩
   have HRF:aa (bD w0.heap.size w4 rv d):=hrf.mono HR3.out.bel.size
   have HOK:=ac hok
   have HTK:aa (d.tick<=50):=by rw[aa,htk];omega
   have HR4:=ac (HR3.out.new hb4)
   obtain⟨R,hR⟩:∃R,R=ae rv:=⟨_,rfl⟩
   have HONE:aa (R.all (·.oneCell')=true):=by rw[hR];exact hrf.one
   have HR49:aa (R.size=49):=by rw[hR];exact aj rv
   have HRR:=ac hR
   have HI49:aa ((prog.info? 49).map (·.size)=some R.size):=by rw[aa,hR,aj];kernel_rfl
   rw[<-hR]
   clear hb4 hrf hok htk hR
   go_upto_region 12 with (first
    | (refine wpList_store_row rfl _ _ _ rfl w4.heap.size R rfl rfl 49 _ (ax w4 _) HI49.out (by rw[HR49.out];simp) HONE.out ?_;rw[World.setRow_alloc_new])
    | fail)
   obtain⟨w5,hw5⟩:∃z,z=w4.alloc (.cells R 49):=⟨_,rfl⟩
   obtain⟨A,hA⟩:∃x,x=w4.heap.size:=⟨_,rfl⟩
   have hb5:Below w4.heap.size w4 w5:=by rw[hw5];exact af _ _
   have HA5:aa (w5.heap[A]?=some (.cells R 49 (0,0))):=by rw[hw5,hA];exact ax _ _
   have HR5:=ac (HR4.out.new hb5)
   have HRF5:=ac (HRF.out.on hb5)
   rw[<-hw5,<-hA]
   clear hw5 hA hb5 HR4 HRF
   go_wp2_with (first
    | (refine wpList_load_row rfl _ _ rfl A rfl _ R (0,0) _ HA5.out underlying49 rfl HI49.out ?_)
    | fail)
   have hcall:=o9 w5 _ ds HR5.out.recs.at_ HR5.out.dw rv d HRF5.out.at_ HOK.out
   rw[<-HRR.out] at hcall
   refine hcall.mono ?_
   clear hcall
   rintro e w6 ⟨c,rfl,hb6,himp⟩
   have HIM:=ac himp
   have HR6:=ac (HR5.out.new hb6)
   have HRF6:=ac (HRF5.out.on hb6)
   have HA6:=ac (au HA5.out hb6)
   clear hb6 himp HR5 HRF5 HA5
   by_cases h0:c=0
   ·subst h0
    have HCM:=ac (HIM.out rfl)
    obtain⟨rvs,hv1,hv2,hv3⟩:=HR6.out.recs
    have HV1:=ac hv1
    have HV2:aa (w6.ownsRow w0.heap.size 49 49 (.slice (some ⟨lb,0,none⟩) m cv) m (rvs.flatMap fun r=>(ae r).toList)):=by have:=hv2;rw[<-HM.out] at this;exact this
    have HV3:=ac hv3
    have HSZ:aa (w0.heap.size<=w6.heap.size):=HR6.out.bel.size
    clear hv1 hv2 hv3
    go_wp2_with (first
     | (refine wpList_load_row rfl _ _ rfl A rfl _ R (0,0) _ HA6.out underlying49 rfl HI49.out ?_)
     | (refine fN rfl 29 1 _ rfl (.agg R) _ rfl (d6 R HR49.out w6) ?_)
     | (at_builtin;refine aZ rfl _ _ 29 49 rfl (.agg (ae {})) 49 216 underlying29 Tryz.infoRec rfl (by decide) w0.heap.size _ m _ rfl (World.ownsRow.alloc HV2.out _) w6.heap.size R.toList ?c1 ?c2 rfl ?c3 ?c4 ?c5 ?c6 ?_)
     | fail)
    case c1=>rw[Array.length_toList];exact HR49.out
    case c2=>intro y hy;exact (Array.all_eq_true_iff_forall_mem.1 HONE.out) y (by simpa using hy)
    case c3=>intro j y hy;rw[aO];simpa using hy
    case c4=>unfold maxLen;omega
    case c5=>omega
    case c6=>have:=HSZ.out;simp;omega
    intro v' w8 hown' hgrow
    have hkg:∀K:Nat->Prop,(∀ k',(Value.slice (some ⟨lb,0,none⟩) m cv).ownBlock=some k'->¬K k')->am K w6 w8:=fun K hK=>(ak (af w6 (.cells R 49)) K).trans (aF hgrow K hK)
    have HR8:aa (rr w0 L D w8 v' (ds++[d]) (k + 1)):=by
     refine rr.snoc HR6.out (by have:=HS0.out;omega) HV1.out (by rw[<-HM.out];exact HV2.out) HV3.out HRF6.out hkg ?_ HCM.out.1 HOK.out HCM.out.2 HTK.out (by omega)
     rw[<-HM.out,<-HRR.out]
     exact hown'
    clear hown' hgrow hkg
    go_wp2_with fail
    go_roundg (50 - (k + 1))
    case measure=>exact HME.out _ hg
    case rel=>exact⟨k + 1,now,ds++[d],by omega,by omega,rfl,by go_num,Nat.le_refl _,HR8.out⟩
   ·have hcb:(c==0)=false:=by simpa using h0
    clear h0
    go_wp2_with fail
    go_roundg (50 - (k + 1))
    case measure=>exact HME.out _ hg
    case rel=>exact⟨k + 1,now,ds,by omega,by omega,rfl,by go_num,Nat.le_refl _,HR6.out.next⟩
  ·go_upto_region 4 with fail
   go_cut [22] (fun s22 wx=>s22=.bool false/\wx=wr)
   case first=>
    by_cases hkn:k<n
    ·have hni:(k:Int)<n:=by omega
     have hki:¬(k:Int)<50:=fun h=>hc ⟨hkn,by omega⟩
     clear hc
     go_wp2_with fail
     go_meet
     case rel=>exact⟨rfl,rfl⟩
    ·have hni:¬(k:Int)<n:=by omega
     clear hc
     go_wp2_with fail
     go_meet
     case rel=>exact⟨rfl,rfl⟩
   case rest=>
   obtain⟨rfl,hwc⟩:=hcut
   rw[hwc]
   clear hwc hc wc
   have HFIN:aa (∀ v W ds' k',k'<=51->rr w0 L D W v ds' k'->Ad w (.returned v) W):=fun v W ds' k' hk' h=>
    ⟨v,ds',rfl,h.recs.mono HN0.out.size,h.dw.may,⟨by have:=h.len;omega,h.dw.ne⟩,ar w _ _ HN0.out h.bel⟩
   obtain⟨E,hE⟩:∃E,E=ae (aN {kind:=6,tick:=(now:Int)}):=⟨_,rfl⟩
   have hbe:=zU wr now
   rw[<-hE] at hbe
   have HBE:=ac hbe
   have HE49:aa (E.size=49):=by rw[hE];exact aj _
   have HONE:aa (E.all (·.oneCell')=true):=by rw[hE];exact (kl 0 wr (d:={kind:=6,tick:=(now:Int)}) rfl rfl rfl).one
   have HEI:aa ((prog.info? 49).map (·.size)=some E.size):=by rw[aa,hE,aj];kernel_rfl
   have HEE:=ac hE
   clear hE hbe
   go_upto_region 15 with (first
    | (refine aQ rfl 49 _ rfl [(0,.int .i64 6),(4,.int .i64 now)] rfl (.agg E) HBE.out ?_)
    | (refine wpList_store_row rfl _ _ _ rfl wr.heap.size E rfl rfl 49 _ (ax wr _) HEI.out (by rw[HE49.out];simp) HONE.out ?_;rw[World.setRow_alloc_new])
    | fail)
   obtain⟨w3,hw3⟩:∃z,z=wr.alloc (.cells E 49):=⟨_,rfl⟩
   obtain⟨A,hA⟩:∃x,x=wr.heap.size:=⟨_,rfl⟩
   have hb3:Below wr.heap.size wr w3:=by rw[hw3];exact af _ _
   have HA3:aa (w3.heap[A]?=some (.cells E 49 (0,0))):=by rw[hw3,hA];exact ax _ _
   have HR3:=ac (HR.out.new hb3)
   rw[<-hw3,<-hA]
   clear hw3 hA hb3 HR HBE c5
   have c5:w3.cell? ⟨L,5,none⟩=some (.slice ba n bc):=by rw[aq HR3.out.box];exact HD5.out
   have qa:IntKind.i64.wrap ((n:Int) - 1)=(n:Int) - 1:=IntWalk.i64_in _ (by omega)
   have qb:IntKind.i64.wrap ((n:Int) - 1 + n)=(n:Int) - 1 + n:=IntWalk.i64_in _ (by omega)
   go_wp2_with (first
    | (refine wpList_load_row rfl _ _ rfl L rfl _ D (0,0) _ HR3.out.box underlying24 rfl HDZ.out ?_)
    | fail)
   have hcall:=iK w3 dr HDR.out b (HB0.out.up HR3.out.bel) ((n:Int) - 1 + n) (by rw[<-HNN.out];omega) (by omega)
   rw[<-HDD.out] at hcall
   refine hcall.mono ?_
   clear hcall c5 qa qb
   rintro e w4 ⟨⟨z,hz0,hz1,rfl⟩,hb4⟩
   have HR4:=ac (HR3.out.new hb4)
   have HA4:=ac (au HA3.out hb4)
   clear hb4 HR3 HA3
   by_cases hz:z.tmod 2=1
   case neg=>
    have bz:(z.tmod 2==1)=false:=by simpa using hz
    have bz2:¬z % 2=1:=by rw[<-Int.tmod_eq_emod_of_nonneg hz0];exact hz
    have bz3:(z % 2==1)=false:=by simpa using bz2
    clear hz
    go_wp2_with fail
    go_ret
    exact HFIN.out _ _ _ k (by omega) HR4.out
   case pos=>
   have bz:(z.tmod 2==1)=true:=by simpa using hz
   have bz2:z % 2=1:=by rw[<-Int.tmod_eq_emod_of_nonneg hz0];exact hz
   have bz3:(z % 2==1)=true:=by simpa using bz2
   have HRG:aa (w4.rangeAt A 0 E.toList):=fun j u hu=>by
    rw[Nat.zero_add,aq HA4.out]
    simpa using hu
   have HEL:aa ((prog.info? 49).map (·.size)=some E.toList.length):=by rw[aa,Array.length_toList];exact HEI.out
   clear hz
   go_wp2_with (first
    | (refine aG (by rfl) _ _ rfl A 0 rfl _ _ HRG.out underlying49 rfl HEL.out E (Array.toArray_toList) ?_)
    | fail)
   have hcall:=o9 w4 _ ds HR4.out.recs.at_ HR4.out.dw _ {kind:=6,tick:=(now:Int)} (kl 0 w4 (d:={kind:=6,tick:=(now:Int)}) rfl rfl rfl).at_ ⟨rfl,dL,by simp;omega,by simp,by simp,by simp,by simp,by simp,by simp,by simp,by simp,by simp,by simp,by simp⟩
   rw[<-HEE.out] at hcall
   refine hcall.mono ?_
   clear hcall
   rintro e w6 ⟨c,rfl,hb6,himp⟩
   have HIM:=ac himp
   have HR6:=ac (HR4.out.new hb6)
   have HA6:=ac (au HA4.out hb6)
   clear hb6 himp HR4 HA4 HRG
   by_cases h0:c=0
   case neg=>
    have hcb:(c==0)=false:=by simpa using h0
    clear h0
    go_wp2_with fail
    go_ret
    exact HFIN.out _ _ _ k (by omega) HR6.out
   case pos=>
   subst h0
   have HCM:=ac (HIM.out rfl)
   obtain⟨rvs,hv1,hv2,hv3⟩:=HR6.out.recs
   have HV1:=ac hv1
   have HV2:aa (w6.ownsRow w0.heap.size 49 49 (.slice (some ⟨lb,0,none⟩) m cv) m (rvs.flatMap fun r=>(ae r).toList)):=by have:=hv2;rw[<-HM.out] at this;exact this
   have HV3:=ac hv3
   have HSZ:aa (w0.heap.size<=w6.heap.size):=HR6.out.bel.size
   clear hv1 hv2 hv3
   go_wp2_with (first
    | (refine wpList_load_row rfl _ _ rfl A rfl _ E (0,0) _ HA6.out underlying49 rfl HEI.out ?_)
    | (refine fN rfl 29 1 _ rfl (.agg E) _ rfl (d6 E HE49.out w6) ?_)
    | (at_builtin;refine aZ rfl _ _ 29 49 rfl (.agg (ae {})) 49 216 underlying29 Tryz.infoRec rfl (by decide) w0.heap.size _ m _ rfl (World.ownsRow.alloc HV2.out _) w6.heap.size E.toList ?c1 ?c2 rfl ?c3 ?c4 ?c5 ?c6 ?_)
    | fail)
   case c1=>rw[Array.length_toList];exact HE49.out
   case c2=>intro y hy;exact (Array.all_eq_true_iff_forall_mem.1 HONE.out) y (by simpa using hy)
   case c3=>intro j y hy;rw[aO];simpa using hy
   case c4=>unfold maxLen;omega
   case c5=>omega
   case c6=>have:=HSZ.out;simp;omega
   intro v' w8 hown' hgrow
   have hkg:∀K:Nat->Prop,(∀ k',(Value.slice (some ⟨lb,0,none⟩) m cv).ownBlock=some k'->¬K k')->am K w6 w8:=fun K hK=>(ak (af w6 (.cells E 49)) K).trans (aF hgrow K hK)
   have HR8:aa (rr w0 L D w8 v' (ds++[{kind:=6,tick:=(now:Int)}]) (k + 1)):=by
    refine rr.snoc HR6.out (by have:=HS0.out;omega) HV1.out (by rw[<-HM.out];exact HV2.out) HV3.out (kl _ _ rfl rfl rfl) hkg ?_ HCM.out.1 ⟨rfl,dL,by simp;omega,by simp,by simp,by simp,by simp,by simp,by simp,by simp,by simp,by simp,by simp,by simp⟩ HCM.out.2 (by simp;omega) (by omega)
    rw[<-HM.out,<-HEE.out]
    exact hown'
   clear hown' hgrow hkg
   go_wp2_with fail
   go_ret
   exact HFIN.out _ _ _ (k + 1) (by omega) HR8.out
