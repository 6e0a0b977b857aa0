/- ModelTime, walked. Printed by wip/gen/mtm.py. -/
import Derived.Test.YtfnekbfcndkjeaaGreatDoorSMlw
set_option maxHeartbeats 16000000
set_option maxRecDepth 100000
set_option linter.all false
namespace Go.Proofs.YtfnekbfcndkjeaaGreatDoor
open Go.Proofs.Tryz Go.RowKit Go.Maps
structure ld (st:MSt) (now op cm du:Int):Prop where
 now:now=st.tick
 cm:cm=st.scene.commit
 du:du=st.due
 scn:(st.scene.kind=0/\st.scene.commit=0)\/(st.scene.kind≠0/\st.scene.commit≠0)
 op:st.ended=false->(st.opn=none/\op=-1)\/∃o,st.opn=some o/\op=o.tick
theorem yx {st:MSt} (h:st.Wf):0<=st.tick/\st.tick<=9223372036854775807:=h.tick
theorem yy:ld {} 0 (-1) 0 0:=⟨rfl,rfl,rfl,.inl ⟨rfl,rfl⟩,fun _=>.inl ⟨rfl,rfl⟩⟩
theorem vL (w:World) (dr:sV) (hdr:dr.ok) (bv:Value) (hb:i4 w bv dr.n) (x0 x1 x2:Int) (hx0:0<=x0/\x0<=255) (hx1:0<=x1/\x1<=255) (hx2:-32768<=x2/\x2<=32767) (tn:Bool) (hte:ew w) (F:S8) (kf:Nat->Int) (kk:Array Value) (hsh:cV F kf kk w):
  Calls prog 7 #[.agg (dr.cells bv),.agg #[.int .u8 x0,.int .u8 x1,.int .i16 x2],.bool tn] w fun e w'=>e=.returned (.bool true)/\Below w.heap.size w w':=by
 have HDR:=ac hdr
 have HX:aa ((0<=x0/\x0<=255)/\(0<=x1/\x1<=255)/\(-32768<=x2/\x2<=32767)):=⟨hx0,hx1,hx2⟩
 have HTE:=ac hte
 have HSH:=ac hsh
 obtain⟨L,hL⟩:∃x,x=w.heap.size:=⟨_,rfl⟩
 obtain⟨D,hDD⟩:∃D:Array Value,D=dr.cells bv:=⟨_,rfl⟩
 obtain⟨C,hCC⟩:∃C:Array Value,C=#[.int .u8 x0,.int .u8 x1,.int .i16 x2]:=⟨_,rfl⟩
 obtain⟨w0,hw0⟩:∃z,z=(w.alloc (.cells D 24)).alloc (.cells C 27):=⟨_,rfl⟩
 have hs1:(w.alloc (.cells D 24)).heap.size=L + 1:=by rw[hL];simp
 have HN0:aa (Below w.heap.size w w0):=by rw[hw0];exact ar w _ _ (af _ _) (af _ _)
 have HD0:aa (w0.heap[L]?=some (.cells D 24 (0,0))):=by rw[hw0,hL];exact au (ax _ _) (af _ _)
 have HC0:aa (w0.heap[L + 1]?=some (.cells C 27 (0,0))):=by rw[hw0,<-hs1];exact ax _ _
 have HB0:aa (i4 w0 bv dr.n):=hb.up HN0.out
 have HDD:=ac hDD
 have HCC:=ac hCC
 have HDZ:aa ((prog.info? 24).map (·.size)=some D.size):=by rw[aa,hDD];kernel_rfl
 have HCZ:aa ((prog.info? 27).map (·.size)=some C.size):=by rw[aa,hCC];kernel_rfl
 rw[<-hDD,<-hCC]
 clear hb hdr hDD hCC hx0 hx1 hx2 hs1 hte hsh
 go_enter func7,ntmps7
 go_upto_region 1 with fail
 refine ge hw0 ?_
 rw[<-hL]
 clear hw0 hL
 go_wp2_with fail
 refine (pF w0).mono ?_
 rintro e w1 ⟨rfl,hw1⟩
 obtain⟨p,hp⟩:∃x,x=w0.heap.size:=⟨_,rfl⟩
 have hb1:Below w0.heap.size w0 w1:=by rw[hw1];exact af _ _
 have HN1:aa (Below w.heap.size w w1):=ar w _ _ HN0.out hb1
 have HW1:=ac hw1
 have HPP:=ac hp
 rw[<-hp]
 clear hw1 hp
 go_wp2_with fail
 refine (nI w1 (HTE.out.on HN1.out)).mono ?_
 rintro e w2 ⟨rfl,hb2⟩
 have HB12:=ac hb2
 have HN2:aa (Below w.heap.size w w2):=ar w _ _ HN1.out hb2
 have HD2:aa (w2.heap[L]?=some (.cells D 24 (0,0))):=au (au HD0.out hb1) hb2
 have HC2:aa (w2.heap[L + 1]?=some (.cells C 27 (0,0))):=au (au HC0.out hb1) hb2
 have HB2:aa (i4 w2 bv dr.n):=(HB0.out.up hb1).up hb2
 clear hb1 hb2
 go_wp2_with (first
  | (refine wpList_load_row rfl _ _ rfl L rfl _ D (0,0) _ HD2.out underlying24 rfl HDZ.out ?_)
  | (refine wpList_load_row rfl _ _ rfl (L + 1) rfl _ C (0,0) _ HC2.out underlying27 rfl HCZ.out ?_)
  | fail)
 have hcall:=nR w2 dr HDR.out bv HB2.out x0 x1 x2 HX.out.1 HX.out.2.1 HX.out.2.2 tn
 rw[<-HDD.out,<-HCC.out] at hcall
 refine hcall.mono ?_
 clear hcall
 rintro e w3 ⟨v,ds,rfl,hro,hok,hl60,hb3⟩
 obtain⟨av,cap,rvs,rfl,hcap,hrow,hrec⟩:=hro
 obtain⟨n,hn⟩:∃n,n=ds.length:=⟨_,rfl⟩
 obtain⟨B,hB⟩:∃x,x=w2.heap.size:=⟨_,rfl⟩
 have HLW0:aa (dN (fun _=>False) w w3 B p 0 {} w3):=by
  have:=rG HN0.out HW1.out HB12.out hb3
  rw[<-HPP.out,<-hB] at this
  exact this
 have HNN:=ac hn
 have HOK:=ac hok
 have HROW:aa (0<n->∃lb lo,av=some ⟨lb,lo,none⟩/\lb<w3.heap.size/\B<=lb/\∀j,j<n->w3.rangeAt lb (lo + j * 49) (ae (rvs j)).toList):=by rw[hB,hn];exact hrow
 have HREC:aa (∀ W,am (fun k=>B<=k/\k<w3.heap.size) w3 W->∀j,j<n->bu W (rvs j) (ds.getD j {})):=by rw[hB,hn];exact hrec
 have hn60:n<=60:=by rw[hn];exact hl60
 have hncap:n<=cap:=by rw[hn];exact hcap
 rw[<-hn]
 clear hn hB hok hl60 hcap hrow hrec HD0 HC0 HB0 HD2 HC2 HB2 HB12 hb3
 go_wp2_with fail
 go_loopg [9,10,11,12,13] n (fun g v9 v10 v11 v12 v13 wr=>∃(k:Nat) (now op cm du:Int) (st:MSt),k<=n/\v9=.int .i64 now/\v10=.int .i64 op/\v11=.int .i64 cm/\v12=.int .i64 du/\v13=.int .i64 k/\n - k<=g/\aa (ld st now op cm du)/\aa (dN (fun _=>False) w w3 B p k st wr))
 case atStart=>exact⟨0,0,-1,0,0,{},Nat.zero_le _,rfl,rfl,rfl,rfl,rfl,by omega,yy,HLW0.out⟩
 case round=>
  clear HLW0
  obtain⟨k,now,op,cm,du,st,hk,rfl,rfl,rfl,rfl,rfl,hg,HT,HL⟩:=hrel
  by_cases hlt:k<n
  ·skip
   have hki:(k:Int)<n:=by omega
   obtain⟨lb,lo,rfl,hlb,hBl,hj⟩:=HROW.out (by omega)
   obtain⟨rv,hrv⟩:∃rv,rv=rvs k:=⟨_,rfl⟩
   obtain⟨d,hd⟩:∃d,d=ds.getD k {}:=⟨_,rfl⟩
   have HRG:aa (wr.rangeAt lb (lo + k * 49) (ae rv).toList):=by rw[hrv];exact ik (hj k hlt) HL.out.rows ⟨hBl,hlb⟩
   have HRC:aa (∀ W,am (fun k=>B<=k/\k<w3.heap.size) w3 W->bu W rv d):=fun W hW=>by rw[hrv,hd];exact HREC.out W hW k hlt
   have HDO:aa d.ok:=by
    rw[hd]
    exact HOK.out _ (dJ (by rw[<-HNN.out];exact hlt))
   have HDD2:=ac hd
   have HM:aa (n - (k + 1)<gk/\k + 1<=n):=⟨by omega,hlt⟩
   have hi0:(prog.info? 49).map (·.size)=some (ae rv).toList.length:=by rw[Array.length_toList,aj];kernel_rfl
   have hi49:(prog.info? 49).map (·.size)=some (ae rv).size:=by rw[aj];kernel_rfl
   have hon:=bu.one (HRC.out w3 (am.refl _ _))
   clear hj hrv hd
   go_upto_region 10 with (first
    | (refine aG (by rfl) _ _ rfl lb (lo + k * 49) rfl _ _ HRG.out underlying49 rfl hi0 (ae rv) (Array.toArray_toList) ?_)
    | (refine wpList_store_row rfl _ _ _ rfl wr.heap.size (ae rv) rfl rfl 49 _ (ax wr _) hi49 (by rw[aj];simp) hon ?_;rw[World.setRow_alloc_new])
    | fail)
   obtain⟨A,hA⟩:∃x,x=wr.heap.size:=⟨_,rfl⟩
   obtain⟨w5,hw5⟩:∃z,z=wr.alloc (.cells (ae rv) 49):=⟨_,rfl⟩
   have hb5:Below wr.heap.size wr w5:=by rw[hw5];exact af _ _
   have HA5:aa (ah w5 A rv):=by rw[hw5,hA];exact ah.box _ _
   have HL5:=ac (HL.out.more hb5)
   have HAO:aa (wr.heap.size<=A/\A<w5.heap.size):=⟨Nat.le_of_eq hA.symm,HA5.out.lt⟩
   obtain⟨O,hO⟩:∃O:Nat->Prop,O=fun j=>False\/(wr.heap.size<=j/\j<w5.heap.size):=⟨_,rfl⟩
   have HAO:aa (O A):=by rw[hO];exact .inr HAO.out
   have HL5:aa (dN O w w3 B p k st w5):=by rw[hO];exact HL5.out
   rw[<-hw5,<-hA]
   clear hw5 hA hb5 hon HRG hlb hBl hi0 hO
   go_wp2_with fail
   refine HL5.out.ended.mono ?_
   rintro e w6 ⟨rfl,hb6⟩
   have HL6:=ac (HL5.out.new hb6)
   have HA6:=ac (HA5.out.new hb6)
   obtain⟨en,hen⟩:∃b,b=st.ended:=⟨_,rfl⟩
   have HEN:=ac hen
   rw[<-hen]
   clear hb6 hen HL5 HA5 HL
   go_wp2_with (first
    | (refine wpList_load_row rfl _ _ rfl A rfl _ (ae rv) (0,0) _ HA6.out underlying49 rfl hi49 ?_)
    | fail)
   refine (HL6.out.take (by omega) HSH.out rv d HRC.out HDO.out).mono ?_
   rintro e w7 ⟨rfl,hl7,hk7⟩
   have HL7:=ac hl7
   have HA7:aa (ah w7 A rv):=HA6.out.keeps hk7 HAO.out
   obtain⟨c,hc⟩:∃c,c=(cd (fK F kf) st d).1:=⟨_,rfl⟩
   have HC:=ac hc
   rw[<-hc]
   have HWF:aa st.Wf:=HL6.out.wf
   clear hl7 hk7 hc HL6 HA6
   by_cases h0:c=0
   case neg=>
    have hcb:(c !=0)=true:=by simpa using h0
    have HST:aa ((cd (fK F kf) st d).2=st):=oI (by rw[<-HC.out];exact h0)
    clear h0
    go_wp2_with fail
    go_roundg (n - (k + 1))
    case measure=>exact HM.out.1
    case rel=>exact⟨k + 1,now,op,cm,du,st,HM.out.2,rfl,rfl,rfl,rfl,by go_num,Nat.le_refl _,HT.out,(by have:=HL7.out;rw[HST.out] at this;exact this.less (fun _ h=>h.elim))⟩
   case pos=>
   subst h0
   obtain⟨st1,hm,hh,hs,he⟩:=oJ HC.out.symm
   have HE:=ac he
   have HS:=ac hs
   have HH:=ac hh
   have HMY:=ac hm
   have hne:en=false:=by rw[HEN.out];exact hh.1
   subst hne
   have ht0:=dY hm
   have hwt:=yx HWF.out
   obtain⟨td,htd⟩:∃x,x=d.tick:=⟨_,rfl⟩
   have HTD:=ac htd
   have htn:now<=td:=by rw[htd,HT.out.now];exact hh.2.2
   have hn0:0<=now:=by rw[HT.out.now];exact hwt.1
   have htb:0<=td/\td<=9223372036854775807:=by rw[htd];exact⟨ht0.1,HDO.out.tick.2⟩
   have hrt:rv.tick=td/\rv.kind=d.kind/\rv.commit=d.commit/\rv.reveal=d.reveal:=by
    obtain⟨b,l,o,e,_⟩:=HRC.out w3 (am.refl _ _)
    rw[e,htd]
    exact⟨rfl,rfl,rfl,rfl⟩
   have c4:w7.cell? ⟨A,4,none⟩=some (.int .i64 td):=by have:=HA7.out.tick;rw[hrt.1] at this;exact this
   have c0:w7.cell? ⟨A,0,none⟩=some (.int .i64 d.kind):=by have:=HA7.out.kind;rw[hrt.2.1] at this;exact this
   have HRT:=ac hrt
   have b1:decide (td<now)=false:=decide_eq_false (by omega)
   have b1':¬td<now:=by omega
   have HOP:=ac (HT.out.op (by rw[<-HEN.out]))
   have HOB:aa (-1<=op/\op<=9223372036854775807/\∀o,st.opn=some o->op=o.tick/\0<=op):=by
    rcases HOP.out with ⟨h1,h2⟩ | ⟨o,h1,h2⟩
    ·exact⟨by omega,by omega,fun o h=>by rw[h1] at h;cases h⟩
    ·have:=(HWF.out.opn o h1).2
     exact⟨by omega,by omega,fun o' h=>by rw[h1] at h;obtain rfl:=Option.some.inj h;exact⟨h2,by omega⟩⟩
   have HCMB:aa (0<=cm/\cm<=64/\0<=du/\du<=128):=by
    have h1:=HWF.out.comm
    have h2:=HWF.out.revl
    rw[aa,HT.out.cm,HT.out.du,MSt.due]
    omega
   have HK1:aa (d.kind=1->st.scene.kind=0/\cm=0):=fun h1=>by
    have h2:=HH.out.2.1
    rw[h1] at h2
    have h3:st.scene.kind=0:=by
     by_cases e:st.scene.kind=0
     ·exact e
     ·exact absurd (by rw[decide_eq_true e];rfl) h2
    rcases HT.out.scn with h4 | h4
    ·exact⟨h3,HT.out.cm.trans h4.2⟩
    ·exact absurd h3 h4.1
   have HK2:aa (d.kind≠1->st.scene.kind≠0/\cm≠0):=fun h1=>by
    have h2:=HH.out.2.1
    have h3:st.scene.kind≠0:=fun e=>by
     rw[decide_eq_false h1,decide_eq_false (fun h=>h e)] at h2
     exact h2 rfl
    rcases HT.out.scn with h4 | h4
    ·exact absurd h4.1 h3
    ·exact⟨h3,by rw[HT.out.cm];exact h4.2⟩
   clear hm hh hs he ht0 hwt htd hrt HC
   rcases gt HS.out with ⟨hk1,hp,hst⟩ | ⟨hk1,hp,hst⟩ | ⟨hk1,o,hop,hp,hst⟩ | ⟨hk1,o,hop,hp,hst⟩ | ⟨hk1,o,hop,hp,hst⟩ | ⟨hk1,hp,hst⟩
   ·have HK:=ac hk1
    have hsc:=jz HMY.out hk1
    have hcz:=HK1.out hk1
    have hst0:=(HWF.out.fresh hcz.1).2.2.1
    have hop1:op=-1:=by
     rcases HOP.out with ⟨_,h2⟩ | ⟨o,h1,_⟩
     ·exact h2
     ·rw[hst0] at h1;cases h1
    obtain⟨cz,hcz2⟩:=hcz
    subst hcz2
    subst hop1
    obtain⟨cq,hcq⟩:∃x,x=d.commit:=⟨_,rfl⟩
    obtain⟨rq,hrq⟩:∃x,x=d.reveal:=⟨_,rfl⟩
    have HRL:aa (ld (cd (fK F kf) st d).2 td (-1) cq (cq + rq)):=by
     rw[HE.out,hst,hcq,hrq]
     exact⟨HTD.out,rfl,rfl,.inr ⟨by show d.kind≠0;omega,by have:=hsc.commit;show d.commit≠0;omega⟩,fun _=>.inl ⟨hst0,rfl⟩⟩
    have c44:w7.cell? ⟨A,44,none⟩=some (.int .i64 cq):=by have:=HA7.out.commit;rw[HRT.out.2.2.1,<-hcq] at this;exact this
    have c45:w7.cell? ⟨A,45,none⟩=some (.int .i64 rq):=by have:=HA7.out.reveal;rw[HRT.out.2.2.2,<-hrq] at this;exact this
    have wq:IntKind.i64.wrap (cq + rq)=cq + rq:=IntWalk.i64_in _ (by have:=hsc.commit;have:=hsc.reveal;omega)
    rw[hk1] at c0
    clear hk1 hp hst hsc cz hst0 hcq hrq
    go_upto_region 17 with fail
    go_quiet (fail)
    have HL8:=ac (HL7.out.new (ay w7 nq))
    obtain⟨w8,hw8⟩:∃z,z=w7.drewN nq:=⟨_,rfl⟩
    rw[<-hw8] at HL8 ⊢
    clear hw8
    go_wp2_with fail
    go_roundg (n - (k + 1))
    case measure=>exact HM.out.1
    case rel=>exact⟨k + 1,td,-1,cq,cq + rq,_,HM.out.2,rfl,rfl,rfl,rfl,by go_num,Nat.le_refl _,HRL.out,HL8.out.less (fun _ h=>h.elim)⟩
   ·have hk2:=HK2.out (by omega)
    have hcm0:(cm==0)=false:=by simpa using hk2.2
    have hcm1:=HCMB.out
    have hop1:op=-1:=by
     rcases HOP.out with ⟨_,h2⟩ | ⟨o,h1,_⟩
     ·exact h2
     ·have:=hp.1;rw[h1] at this;cases this
    subst hop1
    have HRL:aa (ld (cd (fK F kf) st d).2 td td cm du):=by
     rw[HE.out,hst]
     exact⟨HTD.out,HT.out.cm,HT.out.du,.inr ⟨hk2.1,by show st.scene.commit≠0;rw[<-HT.out.cm];exact hk2.2⟩,fun _=>.inr ⟨_,rfl,HTD.out⟩⟩
    have hkd:d.kind=2:=by omega
    rw[hkd] at c0
    clear hkd hk1 hp hst hk2 hcm1 htn hn0 htb
    go_wp2_with fail
    go_roundg (n - (k + 1))
    case measure=>exact HM.out.1
    case rel=>exact⟨k + 1,td,td,cm,du,_,HM.out.2,rfl,rfl,rfl,rfl,by go_num,Nat.le_refl _,HRL.out,HL7.out.less (fun _ h=>h.elim)⟩
   ·have hk2:=HK2.out (by omega)
    have hcm0:(cm==0)=false:=by simpa using hk2.2
    have hcm1:=HCMB.out
    obtain⟨ho1,ho2⟩:=HOB.out.2.2 o hop
    have ho3:=HOB.out.2.1
    have bo:decide (op<0)=false:=decide_eq_false (by omega)
    have bo':¬op<0:=by omega
    have wo:IntKind.i64.wrap (td - op)=td - op:=IntWalk.i64_in _ (by omega)
    have hg1:td - op<cm:=by rw[HTD.out,ho1,HT.out.cm];exact hp.2.1
    have bg:decide (cm<=td - op)=false:=decide_eq_false (by omega)
    have bg':¬cm<=td - op:=by omega
    have HRL:aa (ld (cd (fK F kf) st d).2 td op cm du):=by
     rw[HE.out,hst]
     exact⟨HTD.out,HT.out.cm,HT.out.du,.inr ⟨hk2.1,by show st.scene.commit≠0;rw[<-HT.out.cm];exact hk2.2⟩,fun _=>.inr ⟨_,rfl,ho1⟩⟩
    have hkd:d.kind=3:=by omega
    rw[hkd] at c0
    clear hkd hk1 hp hst hk2 hcm1 htn hn0 htb ho1 ho2 ho3 hop hg1
    go_wp2_with fail
    go_roundg (n - (k + 1))
    case measure=>exact HM.out.1
    case rel=>exact⟨k + 1,td,op,cm,du,_,HM.out.2,rfl,rfl,rfl,rfl,by go_num,Nat.le_refl _,HRL.out,HL7.out.less (fun _ h=>h.elim)⟩
   ·have hk2:=HK2.out (by omega)
    have hcm0:(cm==0)=false:=by simpa using hk2.2
    have hcm1:=HCMB.out
    obtain⟨ho1,ho2⟩:=HOB.out.2.2 o hop
    have ho3:=HOB.out.2.1
    have bo:decide (op<0)=false:=decide_eq_false (by omega)
    have bo':¬op<0:=by omega
    have wo:IntKind.i64.wrap (td - op)=td - op:=IntWalk.i64_in _ (by omega)
    have hg1:cm<=td - op:=by rw[HTD.out,ho1,HT.out.cm];exact hp.2.1
    have hg2:td - op<du:=by rw[HTD.out,ho1,HT.out.du];exact hp.2.2.1
    have bg:decide (td - op<cm)=false:=decide_eq_false (by omega)
    have bg':¬td - op<cm:=by omega
    have bh:decide (du<=td - op)=false:=decide_eq_false (by omega)
    have bh':¬du<=td - op:=by omega
    have HRL:aa (ld (cd (fK F kf) st d).2 td op cm du):=by
     rw[HE.out,hst]
     exact⟨HTD.out,HT.out.cm,HT.out.du,.inr ⟨hk2.1,by show st.scene.commit≠0;rw[<-HT.out.cm];exact hk2.2⟩,fun _=>.inr ⟨_,rfl,ho1⟩⟩
    have hkd:d.kind=4:=by omega
    rw[hkd] at c0
    clear hkd hk1 hp hst hk2 hcm1 htn hn0 htb ho1 ho2 ho3 hop hg1 hg2
    go_wp2_with fail
    go_roundg (n - (k + 1))
    case measure=>exact HM.out.1
    case rel=>exact⟨k + 1,td,op,cm,du,_,HM.out.2,rfl,rfl,rfl,rfl,by go_num,Nat.le_refl _,HRL.out,HL7.out.less (fun _ h=>h.elim)⟩
   ·have hk2:=HK2.out (by omega)
    have hcm0:(cm==0)=false:=by simpa using hk2.2
    have hcm1:=HCMB.out
    obtain⟨ho1,ho2⟩:=HOB.out.2.2 o hop
    have ho3:=HOB.out.2.1
    have bo:decide (op<0)=false:=decide_eq_false (by omega)
    have bo':¬op<0:=by omega
    have wo:IntKind.i64.wrap (td - op)=td - op:=IntWalk.i64_in _ (by omega)
    have hg1:td - op=du:=by rw[HTD.out,ho1,HT.out.du];exact hp.2.1
    have bg:(td - op==du)=true:=by simpa using hg1
    have bh:(td - op !=du)=false:=by simpa using hg1
    have HRL:aa (ld (cd (fK F kf) st d).2 td (-1) cm du):=by
     rw[HE.out,hst]
     exact⟨HTD.out,HT.out.cm,HT.out.du,.inr ⟨hk2.1,by show st.scene.commit≠0;rw[<-HT.out.cm];exact hk2.2⟩,fun _=>.inl ⟨rfl,rfl⟩⟩
    have hkd:d.kind=5:=by omega
    rw[hkd] at c0
    clear hkd hk1 hp hst hk2 hcm1 htn hn0 htb ho1 ho2 ho3 hop hg1
    go_wp2_with fail
    go_roundg (n - (k + 1))
    case measure=>exact HM.out.1
    case rel=>exact⟨k + 1,td,-1,cm,du,_,HM.out.2,rfl,rfl,rfl,rfl,by go_num,Nat.le_refl _,HRL.out,HL7.out.less (fun _ h=>h.elim)⟩
   ·have hk6:d.kind=6:=by
     have:=dW HMY.out
     omega
    have HKK:=ac hk6
    rcases HOP.out with ⟨hno,hop1⟩ | ⟨o,hop,hoo⟩
    ·have hk2:=HK2.out (by omega)
     have hcm0:(cm==0)=false:=by simpa using hk2.2
     have hcm1:=HCMB.out
     subst hop1
     have HRL:aa (ld (cd (fK F kf) st d).2 td (-1) cm du):=by
      rw[HE.out,hst]
      exact⟨HTD.out,HT.out.cm,HT.out.du,.inr ⟨hk2.1,by show st.scene.commit≠0;rw[<-HT.out.cm];exact hk2.2⟩,fun h=>by cases h⟩
     have hkd:d.kind=6:=by omega
     rw[hkd] at c0
     clear hkd hk1 hp hst hk2 hcm1 htn hn0 htb hk6 hno
     go_wp2_with fail
     go_roundg (n - (k + 1))
     case measure=>exact HM.out.1
     case rel=>exact⟨k + 1,td,-1,cm,du,_,HM.out.2,rfl,rfl,rfl,rfl,by go_num,Nat.le_refl _,HRL.out,HL7.out.less (fun _ h=>h.elim)⟩
    ·have hk2:=HK2.out (by omega)
     have hcm0:(cm==0)=false:=by simpa using hk2.2
     have hcm1:=HCMB.out
     obtain⟨ho1,ho2⟩:=HOB.out.2.2 o hop
     have ho3:=HOB.out.2.1
     have bo:decide (op<0)=false:=decide_eq_false (by omega)
     have bo':¬op<0:=by omega
     have wo:IntKind.i64.wrap (td - op)=td - op:=IntWalk.i64_in _ (by omega)
     have hg2:td - op<du:=by
      have:=hp
      unfold iU at this
      rw[hop] at this
      rw[HTD.out,ho1,HT.out.du]
      exact this
     have be:decide (op>=0)=true:=decide_eq_true (by omega)
     have be':0<=op:=ho2
     have bh:decide (du<=td - op)=false:=decide_eq_false (by omega)
     have bh':¬du<=td - op:=by omega
     have HRL:aa (ld (cd (fK F kf) st d).2 td op cm du):=by
      rw[HE.out,hst]
      exact⟨HTD.out,HT.out.cm,HT.out.du,.inr ⟨hk2.1,by show st.scene.commit≠0;rw[<-HT.out.cm];exact hk2.2⟩,fun h=>by cases h⟩
     have hkd:d.kind=6:=by omega
     rw[hkd] at c0
     clear hkd hk1 hp hst hk2 hcm1 htn hn0 htb hk6 ho1 ho2 ho3 hop hg2 hoo
     go_wp2_with fail
     go_roundg (n - (k + 1))
     case measure=>exact HM.out.1
     case rel=>exact⟨k + 1,td,op,cm,du,_,HM.out.2,rfl,rfl,rfl,rfl,by go_num,Nat.le_refl _,HRL.out,HL7.out.less (fun _ h=>h.elim)⟩
  ·have hki:¬(k:Int)<n:=by omega
   go_wp2_with fail
   go_ret
   exact⟨rfl,HL.out.bel⟩
