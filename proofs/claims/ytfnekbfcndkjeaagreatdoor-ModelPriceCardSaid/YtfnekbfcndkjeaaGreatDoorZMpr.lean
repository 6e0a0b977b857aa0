/- ModelPrice, walked. Printed by wip/gen/mpr.py. -/
import Derived.Test.YtfnekbfcndkjeaaGreatDoorZPr0
set_option maxHeartbeats 16000000
set_option maxRecDepth 100000
set_option linter.all false
namespace Go.Proofs.YtfnekbfcndkjeaaGreatDoor
open Go.Proofs.Tryz Go.RowKit Go.Maps
open Vk (vickOf Ca)
theorem CC (w:World) (dr:sV) (hdr:dr.ok) (bv:Value) (hb:i4 w bv dr.n) (x0 x1 x2:Int) (hx0:0<=x0/\x0<=255) (hx1:0<=x1/\x1<=255) (hx2:-32768<=x2/\x2<=32767) (tn:Bool) (hte:ew w) (F:S8) (kf:Nat->Int) (kk:Array Value) (hsh:cV F kf kk w):
  Calls prog 4 #[.agg (dr.cells bv),.agg #[.int .u8 x0,.int .u8 x1,.int .i16 x2],.bool tn] w fun e w'=>e=.returned (.bool true)/\Below w.heap.size w w':=by
 have HDR:=ac hdr
 have HX:aa ((0<=x0/\x0<=255)/\(0<=x1/\x1<=255)/\(-32768<=x2/\x2<=32767)):=⟨hx0,hx1,hx2⟩
 have HTE:=ac hte
 have HSH:=ac hsh
 obtain⟨L,hL⟩:=nm (w.heap.size)
 obtain⟨D,hDD⟩:∃D:Array Value,D=dr.cells bv:=⟨_,rfl⟩
 obtain⟨C,hCC⟩:∃C:Array Value,C=#[.int .u8 x0,.int .u8 x1,.int .i16 x2]:=⟨_,rfl⟩
 obtain⟨w0,hw0⟩:∃z,z=(w.alloc (.cells D 24)).alloc (.cells C 27):=⟨_,rfl⟩
 have hs1:(w.alloc (.cells D 24)).heap.size=L + 1:=by rw[hL];simp
 have HN0:aa (Below w.heap.size w w0):=by rw[hw0];exact ar w _ _ (af _ _) (af _ _)
 have HD0:aa (w0.heap[L]?=some (.cells D 24 (0,0))):=by rw[hw0,hL];exact au (ax _ _) (af _ _)
 have HC0:aa (w0.heap[L + 1]?=some (.cells C 27 (0,0))):=by rw[hw0,<-hs1];exact ax _ _
 have HB0:aa (i4 w0 bv dr.n):=hb.up HN0.out
 have HDD:=ac hDD
 have HCC:=ac hCC
 have HDZ:aa ((prog.info? 24).map (·.size)=some D.size):=by rw[aa,hDD];kernel_rfl
 have HCZ:aa ((prog.info? 27).map (·.size)=some C.size):=by rw[aa,hCC];kernel_rfl
 rw[<-hDD,<-hCC]
 clear hb hdr hDD hCC hx0 hx1 hx2 hs1 hte hsh
 go_enter func4,ntmps4
 go_upto_region 1 with fail
 refine ge hw0 ?_
 rw[<-hL]
 clear hw0 hL
 go_wp2_with fail
 refine (pF w0).mono ?_
 rintro e w1 ⟨rfl,hw1⟩
 obtain⟨p,hp⟩:=nm (w0.heap.size)
 have hb1:Below w0.heap.size w0 w1:=by rw[hw1];exact af _ _
 have HN1:aa (Below w.heap.size w w1):=ar w _ _ HN0.out hb1
 have HW1:=ac hw1
 have HPP:=ac hp
 rw[<-hp]
 clear hw1 hp
 go_wp2_with fail
 refine (yw w1).mono ?_
 rintro e wx ⟨rfl,hwx⟩
 rw[hwx]
 clear hwx wx
 go_wp2_with fail
 refine (nI w1 (HTE.out.on HN1.out)).mono ?_
 rintro e w2 ⟨rfl,hb2⟩
 have HB12:=ac hb2
 have HN2:aa (Below w.heap.size w w2):=ar w _ _ HN1.out hb2
 have HD2:aa (w2.heap[L]?=some (.cells D 24 (0,0))):=au (au HD0.out hb1) hb2
 have HC2:aa (w2.heap[L + 1]?=some (.cells C 27 (0,0))):=au (au HC0.out hb1) hb2
 have HB2:aa (i4 w2 bv dr.n):=(HB0.out.up hb1).up hb2
 clear hb1 hb2
 go_wp2_with (first
  | (refine wpList_load_row rfl _ _ rfl L rfl _ D (0,0) _ HD2.out underlying24 rfl HDZ.out ?_)
  | (refine wpList_load_row rfl _ _ rfl (L + 1) rfl _ C (0,0) _ HC2.out underlying27 rfl HCZ.out ?_)
  | fail)
 have hcall:=nR w2 dr HDR.out bv HB2.out x0 x1 x2 HX.out.1 HX.out.2.1 HX.out.2.2 tn
 rw[<-HDD.out,<-HCC.out] at hcall
 refine hcall.mono ?_
 clear hcall
 rintro e w3 ⟨v,ds,rfl,hro,hok,hl60,hb3⟩
 obtain⟨av,cap,rvs,rfl,hcap,hrow,hrec⟩:=hro
 obtain⟨n,hn⟩:=nm (ds.length)
 obtain⟨B,hB⟩:=nm (w2.heap.size)
 have HLW0:aa (dN (fun _=>False) w w3 B p 0 {} w3):=by
  have:=rG HN0.out HW1.out HB12.out hb3
  rw[<-HPP.out,<-hB] at this
  exact this
 have HNN:=ac hn
 have HOK:=ac hok
 have HROW:aa (0<n->∃lb lo,av=some ⟨lb,lo,none⟩/\lb<w3.heap.size/\B<=lb/\∀j,j<n->w3.rangeAt lb (lo + j * 49) (ae (rvs j)).toList):=by rw[hB,hn];exact hrow
 have HREC:aa (∀ W,am (fun k=>B<=k/\k<w3.heap.size) w3 W->∀j,j<n->bu W (rvs j) (ds.getD j {})):=by rw[hB,hn];exact hrec
 have hn60:n<=60:=by rw[hn];exact hl60
 have hncap:n<=cap:=by rw[hn];exact hcap
 rw[<-hn]
 clear hn hB hok hl60 hcap hrow hrec HD0 HC0 HB0 HD2 HC2 HB2 HB12 hb3
 go_upto_region 6 with fail
 obtain⟨SC,hSC⟩:=nm (w3.heap.size)
 obtain⟨w4,hw4⟩:∃z,z=(w3.alloc (.cells (ae {}) 49)).alloc (.cells (ae {}) 49):=⟨_,rfl⟩
 have hb4:Below w3.heap.size w3 w4:=by rw[hw4];exact ar w3 _ _ (af _ _) (af _ _)
 have hs4:(w3.alloc (.cells (ae {}) 49)).heap.size=SC + 1:=by rw[hSC];simp
 have hs5:w4.heap.size=SC + 2:=by rw[hw4];simp[hSC]
 have HPM:aa (CN B p 0 w w3 SC (SC + 1) (.slice none 0 0) (.slice none 0 0) {} w4):=by
  refine⟨_,{},{},[],[],HLW0.out.more hb4,⟨?_,?_,⟨rfl,.inl ⟨rfl,rfl⟩⟩,⟨rfl,.inl ⟨rfl,rfl⟩⟩,.inr ⟨by omega,by omega⟩,.inr ⟨by omega,by omega⟩,fun k e=>by simp[Value.ownBlock] at e,fun k e=>by simp[Value.ownBlock] at e,by omega⟩,⟨rfl,fun o h=>by cases h⟩,fun W _=>cZ.nil W,Nat.le_refl _,Nat.le_refl _⟩
  ·show w4.heap[SC]?=some (.cells (ae {}) 49 (0,0))
   rw[hw4,hSC]
   exact au (ax _ _) (af _ _)
  ·show w4.heap[SC + 1]?=some (.cells (ae {}) 49 (0,0))
   rw[hw4,<-hs4]
   exact ax _ _
 refine ge hw4 ?_
 rw[<-hSC]
 clear hw4 hSC hb4 hs4 hs5 HLW0
 go_wp2_with fail
 go_loopg [12,13,14] n (fun g v12 v13 v14 wr=>∃(k:Nat) (st:MSt),k<=n/\v14=.int .i64 k/\n - k<=g/\aa (CN B p k w w3 SC (SC + 1) v12 v13 st wr))
 case atStart=>exact⟨0,{},Nat.zero_le _,rfl,by omega,HPM.out⟩
 case round=>
  clear HPM
  obtain⟨k,st,hk,rfl,hg,HPM⟩:=hrel
  obtain⟨Q0,scv,opv,ml,bl,hL,hMM,hRR,hLL,hml,hbl⟩:=HPM.out
  have HL:=ac hL
  have HMEM:=ac hMM
  have HREL:=ac hRR
  have HLTS:=ac hLL
  have HLEN:aa (ml.length<=k/\bl.length<=k):=⟨hml,hbl⟩
  clear hL hMM hRR hLL hml hbl HPM
  by_cases hlt:k<n
  ·skip
   have hki:(k:Int)<n:=by omega
   obtain⟨lb,lo,rfl,hlb,hBl,hj⟩:=HROW.out (by omega)
   obtain⟨rv,hrv⟩:=nm (rvs k)
   obtain⟨d,hd⟩:∃d,d=ds.getD k {}:=⟨_,rfl⟩
   have HRG:aa (wr.rangeAt lb (lo + k * 49) (ae rv).toList):=by rw[hrv];exact ik (hj k hlt) HL.out.rows ⟨hBl,hlb⟩
   have HRC:aa (∀ W,am (fun k=>B<=k/\k<w3.heap.size) w3 W->bu W rv d):=fun W hW=>by rw[hrv,hd];exact HREC.out W hW k hlt
   have HDO:aa d.ok:=by
    rw[hd]
    exact HOK.out _ (dJ (by rw[<-HNN.out];exact hlt))
   have HDD2:=ac hd
   have HM:aa (n - (k + 1)<gk/\k + 1<=n):=⟨by omega,hlt⟩
   have hi0:(prog.info? 49).map (·.size)=some (ae rv).toList.length:=by rw[Array.length_toList,aj];kernel_rfl
   have hi49:(prog.info? 49).map (·.size)=some (ae rv).size:=by rw[aj];kernel_rfl
   have hon:=bu.one (HRC.out w3 (am.refl _ _))
   clear hj hrv hd
   go_upto_region 12 with (first
    | (refine aG (by rfl) _ _ rfl lb (lo + k * 49) rfl _ _ HRG.out underlying49 rfl hi0 (ae rv) (Array.toArray_toList) ?_)
    | (refine wpList_store_row rfl _ _ _ rfl wr.heap.size (ae rv) rfl rfl 49 _ (ax wr _) hi49 (by rw[aj];simp) hon ?_;rw[World.setRow_alloc_new])
    | fail)
   obtain⟨A,hA⟩:=nm (wr.heap.size)
   obtain⟨w5,hw5⟩:=nm (wr.alloc (.cells (ae rv) 49))
   have hb5:Below wr.heap.size wr w5:=by rw[hw5];exact af _ _
   have HA5:aa (ah w5 A rv):=by rw[hw5,hA];exact ah.box _ _
   have HL5:=ac (HL.out.more hb5)
   have HAO:aa (wr.heap.size<=A/\A<w5.heap.size):=⟨Nat.le_of_eq hA.symm,HA5.out.lt⟩
   have HAN:aa (A≠SC/\A≠SC + 1):=by
    have h1:=HMEM.out.sc.lt
    have h2:=HMEM.out.op.lt
    exact⟨by omega,by omega⟩
   obtain⟨O,hO⟩:∃O:Nat->Prop,O=fun j=>Q0 j\/(wr.heap.size<=j/\j<w5.heap.size):=⟨_,rfl⟩
   have HAO:aa (O A):=by rw[hO];exact .inr HAO.out
   have HL5:aa (dN O w w3 B p k st w5):=by rw[hO];exact HL5.out
   have HM5:aa (BJ O w5 SC (SC + 1) scv opv u12 u13 ml bl):=by rw[hO];exact (HMEM.out.new hb5).wide (fun _ h=>.inl h)
   have HON:=ac hon
   rw[<-hw5,<-hA]
   clear hw5 hA hb5 hon HRG hlb hBl hi0 hO HMEM HL
   go_wp2_with (first
    | (refine wpList_load_row rfl _ _ rfl A rfl _ (ae rv) (0,0) _ HA5.out underlying49 rfl hi49 ?_)
    | fail)
   refine (HL5.out.take (by omega) HSH.out rv d HRC.out HDO.out).mono ?_
   rintro e w7 ⟨rfl,hl7,hk7⟩
   obtain⟨s,hs⟩:∃s,s=(cd (fK F kf) st d).2:=⟨_,rfl⟩
   have HL7:aa (dN O w w3 B p (k + 1) s w7):=by rw[hs];exact hl7
   have HA7:aa (ah w7 A rv):=HA5.out.keeps hk7 HAO.out
   have HM7:aa (BJ O w7 SC (SC + 1) scv opv u12 u13 ml bl):=HM5.out.keeps hk7 (fun _ h=>h)
   have HSS:=ac hs
   obtain⟨c,hc⟩:∃c,c=(cd (fK F kf) st d).1:=⟨_,rfl⟩
   have HC:=ac hc
   rw[<-hc]
   have HWF:aa st.Wf:=HL5.out.wf
   clear hl7 hk7 hc hs HL5 HA5 HM5
   by_cases h0:c=0
   case neg=>
    have hcb:(c !=0)=true:=by simpa using h0
    have HST:aa (s=st):=by rw[aa,HSS.out];exact oI (by rw[<-HC.out];exact h0)
    clear h0
    go_wp2_with fail
    go_roundg (n - (k + 1))
    case measure=>exact HM.out.1
    case rel=>exact⟨k + 1,s,HM.out.2,by go_num,Nat.le_refl _,O,scv,opv,ml,bl,HL7.out,HM7.out,by rw[HST.out];exact HREL.out,by rw[HST.out];exact HLTS.out,by have:=HLEN.out;omega,by have:=HLEN.out;omega⟩
   case pos=>
   subst h0
   obtain⟨st1,hm,hh,hs,he⟩:=oJ HC.out.symm
   have HE:aa (s={st1 with tick:=d.tick}):=HSS.out.trans he
   have HS:=ac hs
   have HH:=ac hh
   have HMY:=ac hm
   have hrt:rv.kind=d.kind/\rv.lot=d.lot/\rv.round=d.round/\rv.carrier=d.carrier/\rv.bid=d.bid/\rv.nonce=d.nonce/\rv.scheme=d.scheme/\(rv.dig=fun j=>d.dig.getD j 0):=by
    obtain⟨b,l,o,e,_⟩:=HRC.out w3 (am.refl _ _)
    rw[e]
    exact⟨rfl,rfl,rfl,rfl,rfl,rfl,rfl,rfl⟩
   have hro:rv.state=d.state/\rv.winner=d.winner/\rv.price=d.price:=by
    obtain⟨b,l,o,e,_⟩:=HRC.out w3 (am.refl _ _)
    rw[e]
    exact⟨rfl,rfl,rfl⟩
   have c0:w7.cell? ⟨A,0,none⟩=some (.int .i64 d.kind):=by have:=HA7.out.kind;rw[hrt.1] at this;exact this
   have HRT:=ac hrt
   have HRO:=ac hro
   clear hm hh hs he hrt hro HC
   rcases gt HS.out with ⟨hk1,hp,hst⟩ | ⟨hk1,hp,hst⟩ | ⟨hk1,o,hop,hp,hst⟩ | ⟨hk1,o,hop,hp,hst⟩ | ⟨hk1,o,hop,hp,hst⟩ | ⟨hk1,hp,hst⟩
   ·have hop0:st.opn=none:=by
     have h2:=HH.out.2.1
     rw[hk1] at h2
     have h3:st.scene.kind=0:=by
      by_cases e:st.scene.kind=0
      ·exact e
      ·exact absurd (by rw[decide_eq_true e];rfl) h2
     exact (HWF.out.fresh h3).2.2.1
    have HRL:aa (Cm s rv opv ml bl):=by
     rw[HE.out,hst]
     exact⟨HRT.out.2.2.2.2.2.2.1,fun o h=>absurd (hop0.symm.trans h) (by simp)⟩
    have HLT:aa (∀ W,am (fun k=>B<=k/\k<w3.heap.size) w3 W->cZ W rv.lots s.scene.lots):=fun W hW=>by
     obtain⟨b,l,ow,e,h1,h2,h3⟩:=HRC.out W hW
     rw[HE.out,hst,e]
     exact h2
    have HLX:aa (dN O w w3 B p (k + 1) s (w7.setRow SC (ae rv))):=HL7.out.put (aI w7 SC _ (fun h=>h HM7.out.osc))
    rw[hk1] at c0
    clear hk1 hp hst hop0
    go_wp2_with (first
     | (refine wpList_load_row rfl _ _ rfl A rfl _ (ae rv) (0,0) _ HA7.out underlying49 rfl hi49 ?_)
     | (refine wpList_store_row rfl _ _ _ rfl SC (ae rv) rfl rfl 49 (ae scv) HM7.out.sc hi49 (by rw[aj,aj]) HON.out ?_)
     | fail)
    go_roundg (n - (k + 1))
    case measure=>exact HM.out.1
    case rel=>exact⟨k + 1,s,HM.out.2,by go_num,Nat.le_refl _,O,rv,opv,ml,bl,HLX.out,HM7.out.setScene rv,HRL.out,HLT.out,by have:=HLEN.out;omega,by have:=HLEN.out;omega⟩
   ·have HRL:aa (Cm s scv rv [] []):=by
     rw[HE.out,hst]
     refine⟨HREL.out.scheme,fun o h=>?_⟩
     obtain rfl:=Option.some.inj h
     exact⟨HRT.out.2.2.1,HRT.out.2.1,BW.nil,by rw[Cl],fun x h=>by cases h⟩
    have HLT:aa (∀ W,am (fun k=>B<=k/\k<w3.heap.size) w3 W->cZ W scv.lots s.scene.lots):=by rw[HE.out,hst];exact HLTS.out
    have HLX:aa (dN O w w3 B p (k + 1) s (w7.setRow (SC + 1) (ae rv))):=HL7.out.put (aI w7 (SC + 1) _ (fun h=>h HM7.out.oop))
    rw[hk1] at c0
    clear hk1 hp hst
    go_wp2_with (first
     | (refine wpList_load_row rfl _ _ rfl A rfl _ (ae rv) (0,0) _ HA7.out underlying49 rfl hi49 ?_)
     | (refine wpList_store_row rfl _ _ _ rfl (SC + 1) (ae rv) rfl rfl 49 (ae opv) HM7.out.op hi49 (by rw[aj,aj]) HON.out ?_)
     | fail)
    go_roundg (n - (k + 1))
    case measure=>exact HM.out.1
    case rel=>exact⟨k + 1,s,HM.out.2,by go_num,Nat.le_refl _,O,scv,rv,[],[],HLX.out,HM7.out.setOpen rv,HRL.out,HLT.out,Nat.zero_le _,Nat.zero_le _⟩
   ·skip
    obtain⟨hor,hol,hmo,hpb,hmc⟩:=HREL.out.op o hop
    obtain⟨gn,mcap,rfl,hmcap,hmx⟩:=CD HM7.out.mks
    obtain⟨m,hm⟩:=nm (ml.length)
    have HMLE:=ac hm
    rw[<-hm] at hmcap hmx
    rw[<-hm]
    have hmk:m<=k:=by rw[hm];exact HLEN.out.1
    obtain⟨cr,hcr⟩:=nm (d.carrier)
    have HCR:=ac hcr
    have HMX:=ac hmx
    have HMO:=ac hmo
    have HPB:=ac hpb
    have HMC:=ac hmc
    have HOR:=ac hor
    have HOL:=ac hol
    have c3:∀W,ah W A rv->W.cell? ⟨A,3,none⟩=some (.int .i64 cr):=fun W hW=>by have:=hW.carrier;rw[HRT.out.2.2.2.1,<-hcr] at this;exact this
    have C3:=ac c3
    clear hor hol hmo hpb hmc hm hcr hmx c3
    have HNO:aa (o.marks cr=none):=by
     have:=hp.2.2.2.2.2
     rw[<-HCR.out] at this
     cases hm:o.marks cr with
     | none=>rfl
     | some l=>rw[hm] at this;cases this
    have hcb:0<=cr/\cr<st.scene.carriers:=⟨by rw[HCR.out];exact (qw HMY.out (.inl hk1)).1,by rw[HCR.out];exact hp.2.2.1⟩
    have HRL:aa (Cm s scv opv (ml++[(cr,d.dig)]) bl):=by
     rw[HE.out,hst]
     refine⟨HREL.out.scheme,fun o' h=>?_⟩
     obtain rfl:=Option.some.inj h
     refine⟨HOR.out,HOL.out,by rw[<-HCR.out];exact HMO.out.snoc HNO.out,HPB.out,fun x hx=>?_⟩
     rcases List.mem_append.1 hx with hx | hx
     ·exact HMC.out x hx
     ·rw[List.mem_singleton.1 hx];exact⟨hcb,HDO.out.len⟩
    have HLT:aa (∀ W,am (fun k=>B<=k/\k<w3.heap.size) w3 W->cZ W scv.lots s.scene.lots):=by rw[HE.out,hst];exact HLTS.out
    rw[hk1] at c0
    clear hk1 hp hst hop hcb
    go_wp2_with fail
    go_loopg [16] m (fun g v16 wi=>∃j:Nat,j<=m/\v16=.int .i64 j/\m - j<=g/\aa (Below w7.heap.size w7 wi))
    case atStart=>exact⟨0,Nat.zero_le _,rfl,by omega,Below.refl _ _⟩
    case round=>
     obtain⟨j,hjm,rfl,hgj,HB⟩:=hrel
     by_cases hj:j<m
     ·have hji:(j:Int)<m:=by omega
      have HME:aa (∀ q,m - j<=q->m - (j + 1)<q):=fun q h=>by omega
      obtain⟨g,rfl,hgs,hrow⟩:=HMX.out (by omega)
      obtain⟨x,hx⟩:∃x,x=(ml.getD j (0,[])).1:=⟨_,rfl⟩
      have cx:wr.cell? ⟨g,j * 33,none⟩=some (.int .i64 x):=by rw[hx];exact (HB.out.cell (p:=⟨g,j * 33,none⟩) hgs).trans (hrow j hj).1
      have c3:wr.cell? ⟨A,3,none⟩=some (.int .i64 cr):=C3.out _ (HA7.out.new HB.out)
      have hne:(x==cr)=false:=by
       rw[beq_eq_false_iff_ne]
       intro e
       have:=HMO.out.has j (by rw[<-HMLE.out];exact hj)
       rw[<-hx,e,HNO.out] at this
       cases this
      clear hx hrow hgs
      go_wp2_with fail
      go_quiet (fail)
      go_wp2_with fail
      go_roundg (m - (j + 1))
      case measure=>exact HME.out _ hgj
      case rel=>exact⟨j + 1,hj,by go_num,Nat.le_refl _,HB.out.trans ((ay _ _).mono HB.out.size)⟩
     ·have hji:¬(j:Int)<m:=by omega
      have HL8:=ac (HL7.out.new HB.out)
      have HMW:=ac (HM7.out.new HB.out)
      have HA8:=ac (HA7.out.new HB.out)
      have c3:wr.cell? ⟨A,3,none⟩=some (.int .i64 cr):=C3.out _ HA8.out
      obtain⟨cp,hcp⟩:∃x:List Value,x=(List.range 32).map fun j=>Value.int .u8 (rv.dig j):=⟨_,rfl⟩
      have hi1:(prog.info? 43).map (·.size)=some cp.length:=by rw[hcp,List.length_map,List.length_range];kernel_rfl
      have HCP:aa (wr.rangeAt A 6 cp):=by rw[hcp];exact HA8.out.digRange
      obtain⟨MK,hMK⟩:=nm (BM cr rv.dig)
      have HBM:aa (∀ W,(Instr.build 55 #[(0,.int .i64 cr),(1,.agg cp.toArray)]).run prog W=.ok (.agg MK) W):=fun W=>by rw[hcp,hMK];exact CK cr rv.dig W
      have HMK33:aa (MK.size=33):=by rw[hMK];exact Ch _ _
      have HMK1:aa (∀ u∈MK.toList,u.oneCell'=true):=by rw[hMK];exact CB _ _
      have HMKE:aa (MK=BM cr (fun j=>d.dig.getD j 0)):=by rw[aa,hMK,HRT.out.2.2.2.2.2.2.2]
      have HOWN:aa (wr.ownsRow 0 55 33 (.slice gn m mcap) m (BQ ml)):=by have:=HMW.out.mks;rw[<-HMLE.out] at this;exact this
      have HMW:aa (BJ O wr SC (SC + 1) scv opv (.slice gn m mcap) u13 ml bl):=by have:=HMW.out;rw[<-HMLE.out] at this;exact this
      clear hj hgj hjm hcp hMK
      go_wp2_with (first
       | (refine aG (by rfl) _ _ rfl A 6 rfl _ _ HCP.out underlying43 rfl hi1 _ rfl ?_)
       | (refine aQ rfl 55 _ rfl [(0,.int .i64 cr),(1,.agg cp.toArray)] rfl (.agg MK) (HBM.out _) ?_)
       | (refine fN rfl 50 1 _ rfl (.agg MK) _ rfl (CL MK HMK33.out wr) ?_)
       | (at_builtin;refine BO rfl _ _ 50 55 rfl (.agg (BM 0 (fun _=>0))) 33 40 underlying50 Tryz.infoMk rfl (by decide) 0 _ m _ rfl (World.ownsRow.alloc HOWN.out _) wr.heap.size MK.toList ?c1 ?c2 rfl ?c3 ?c4 ?c5 ?c6 ?_)
       | fail)
      case c1=>exact HMK33.out
      case c2=>exact fun u hu=>HMK1.out u (by simpa using hu)
      case c4=>unfold maxLen;omega
      case c5=>omega
      intro v' w8 hown' hgrow hat
      have hkg:am (fun j=>¬O j) wr w8:=(ak (af wr (.cells MK 55)) _).trans (aF hgrow _ (fun j e h=>h (HMW.out.omk j e)))
      have HL9:=ac (HL8.out.grow hkg)
      have HM9:aa (BJ (fun j=>O j\/(wr.heap.size<=j/\j<w8.heap.size)) w8 SC (SC + 1) scv opv v' u13 (ml++[(cr,d.dig)]) bl):=by
       refine HMW.out.mark (af wr (.cells MK 55)) hgrow (by rw[<-HMKE.out,<-HMLE.out];exact hown') (fun _ h=>.inl h) (fun j e=>?_)
       rcases hat with h | h
       ·exact .inl (HMW.out.omk j (by rw[<-h];exact e))
       ·refine .inr ⟨?_,(World.ownsRow.lt hown' j e).2⟩
        rw[h] at e
        have e2:=Option.some.inj e
        try simp at e2
        omega
      clear hown' hgrow hat hkg
      go_wp2_with fail
      go_roundg (n - (k + 1))
      case measure=>exact HM.out.1
      case rel=>exact⟨k + 1,s,HM.out.2,by go_num,Nat.le_refl _,_,scv,opv,_,bl,HL9.out,HM9.out,HRL.out,HLT.out,by rw[List.length_append];have:=HLEN.out;simp;omega,by have:=HLEN.out;omega⟩
   ·skip
    obtain⟨hor,hol,hmo,hpb,hmc⟩:=HREL.out.op o hop
    obtain⟨gn,mcap,rfl,hmcap,hmx⟩:=CD HM7.out.mks
    obtain⟨m,hm⟩:=nm (ml.length)
    have HMLE:=ac hm
    rw[<-hm] at hmcap hmx
    rw[<-hm]
    have hmk:m<=k:=by rw[hm];exact HLEN.out.1
    obtain⟨cr,hcr⟩:=nm (d.carrier)
    have HCR:=ac hcr
    have HMX:=ac hmx
    have HMO:=ac hmo
    have HPB:=ac hpb
    have HMC:=ac hmc
    have HOR:=ac hor
    have HOL:=ac hol
    have c3:∀W,ah W A rv->W.cell? ⟨A,3,none⟩=some (.int .i64 cr):=fun W hW=>by have:=hW.carrier;rw[HRT.out.2.2.2.1,<-hcr] at this;exact this
    have C3:=ac c3
    clear hor hol hmo hpb hmc hm hcr hmx c3
    obtain⟨eu,hdg⟩:∃l,o.marks cr=some l:=by
     have:=hp.2.2.2.1
     rw[<-HCR.out] at this
     cases hm:o.marks cr with
     | none=>rw[hm] at this;cases this
     | some l=>exact⟨l,rfl⟩
    have HDG:=ac hdg
    obtain⟨i0,hi0,hmi⟩:=HMO.out.all cr eu hdg
    have HI0:aa (i0<m):=by rw[HMLE.out];exact hi0
    have HMI:=ac hmi
    have hcb:0<=cr/\cr<st.scene.carriers:=by have:=HMC.out _ (Cr hi0);rw[hmi] at this;exact this.1
    have HDGL:aa (eu.length=32):=by have:=HMC.out _ (Cr hi0);rw[hmi] at this;exact this.2
    obtain⟨cn,hcn⟩:∃q:Nat,cr=q:=Int.eq_ofNat_of_zero_le hcb.1
    obtain⟨so,hrn⟩:=nm (d.round)
    obtain⟨bq,hbq⟩:=nm (d.bid)
    obtain⟨nn,hnn⟩:=nm (d.nonce)
    have HNB:aa (o.bids cr=none):=by
     have:=hp.2.2.2.2.1
     rw[<-HCR.out] at this
     cases hm:o.bids cr with
     | none=>rfl
     | some l=>rw[hm] at this;cases this
    have HRL:aa (Cm s scv opv ml (bl++[(cr,bq)])):=by
     rw[HE.out,hst]
     refine⟨HREL.out.scheme,fun o' h=>?_⟩
     obtain rfl:=Option.some.inj h
     refine⟨HOR.out,HOL.out,HMO.out,?_,HMC.out⟩
     have h1:=Cy o.bids cn bq (by rw[<-hcn];exact HNB.out) st.scene.carriers.toNat (by omega)
     rw[<-hcn] at h1
     show (bl++[(cr,bq)]).Perm (d8 (jI o.bids d.carrier d.bid) st.scene.carriers.toNat)
     rw[<-HCR.out,<-hbq]
     exact (HPB.out.append_right _).trans h1.symm
    have HLT:aa (∀ W,am (fun k=>B<=k/\k<w3.heap.size) w3 W->cZ W scv.lots s.scene.lots):=by rw[HE.out,hst];exact HLTS.out
    have HRN:aa (opv.round=so):=by rw[aa,HOR.out,hrn];exact hp.1.symm
    have HRV:aa (rv.round=so/\rv.bid=bq/\rv.nonce=nn):=by rw[hrn,hbq,hnn];exact⟨HRT.out.2.2.1,HRT.out.2.2.2.2.1,HRT.out.2.2.2.2.2.1⟩
    have HOPF:aa (st.scene.scheme=0->fK F kf eu d=true):=fun h=>by
     have:=hp.2.2.2.2.2 h
     rw[<-HCR.out,hdg] at this
     exact this
    have HOPE:aa (fK F kf eu d=decide (∀ j∈List.range 32,(jy (jH kf F (strOfNums (fi so cr bq nn)))).getD j 0=eu.getD j 0)):=by rw[aa,hrn,hbq,hnn,HCR.out];rfl
    have HSI:aa (tx so cr bq nn):=by
     have h1:=dY HMY.out
     have h2:=qw HMY.out (.inr hk1)
     have h3:=HDO.out.bid
     have h4:=HDO.out.nonce
     rw[<-HCR.out] at h2
     exact⟨by omega,by omega,by rw[hbq];exact h3,by rw[hnn];exact h4⟩
    obtain⟨sch,hsch⟩:=nm (st.scene.scheme)
    have HSCH:aa (scv.scheme=sch):=by rw[aa,hsch];exact HREL.out.scheme
    rw[<-hsch] at HOPF
    rw[hk1] at c0
    clear hk1 hp hst hop hcb hcn hrn hbq hnn hdg hmi hi0 hsch
    go_wp2_with fail
    go_loopg [17,18] m (fun g v17 v18 wi=>∃(j:Nat) (b:Bool),j<=m/\v17=.bool b/\v18=.int .i64 j/\m - j<=g/\aa (i0<j->b=true)/\aa (Below w7.heap.size w7 wi))
    case atStart=>exact⟨0,false,Nat.zero_le _,rfl,rfl,by omega,fun h=>absurd h (Nat.not_lt_zero _),Below.refl _ _⟩
    case round=>
     obtain⟨j,b,hjm,rfl,rfl,hgj,HIB,HB⟩:=hrel
     by_cases hj:j<m
     ·have hji:(j:Int)<m:=by omega
      have HME:aa (∀ q,m - j<=q->m - (j + 1)<q):=fun q h=>by omega
      obtain⟨g,rfl,hgs,hrow⟩:=HMX.out (by omega)
      obtain⟨x,hx⟩:∃x,x=(ml.getD j (0,[])).1:=⟨_,rfl⟩
      have HX:=ac hx
      have HCX:aa (∀ W,Below w7.heap.size w7 W->W.cell? ⟨g,j * 33,none⟩=some (.int .i64 x)):=fun W hW=>by rw[hx];exact (hW.cell (p:=⟨g,j * 33,none⟩) hgs).trans (hrow j hj).1
      have HDX:aa (∀ W,Below w7.heap.size w7 W->W.rangeAt g (j * 33 + 1) ((List.range 32).map fun k=>Value.int .u8 ((ml.getD j (0,[])).2.getD k 0))):=fun W hW i u hu=>(hW.cell (p:=⟨g,j * 33 + 1 + i,none⟩) hgs).trans ((hrow j hj).2 i u hu)
      have HJM:aa (j<ml.length):=by rw[<-HMLE.out];exact hj
      have HJ:=ac hj
      clear hx hrow hgs
      go_upto_region 30 with fail
      cases b with
      | true=>
       go_quiet (fail)
       go_wp2_with fail
       go_roundg (m - (j + 1))
       case measure=>exact HME.out _ hgj
       case rel=>exact⟨j + 1,true,HJ.out,by rfl,by go_num,Nat.le_refl _,fun h=>rfl,HB.out.trans ((ay _ _).mono HB.out.size)⟩
      | false=>
       by_cases hxc:x=cr
       case neg=>
        have hne:(x==cr)=false:=by simpa using hxc
        have HNI:aa (j≠i0):=fun e=>by rw[HX.out,e,HMI.out] at hxc;exact hxc rfl
        have cx:=HCX.out wr HB.out
        have c3:=C3.out wr (HA7.out.new HB.out)
        clear hxc
        go_quiet (fail)
        go_wp2_with fail
        go_roundg (m - (j + 1))
        case measure=>exact HME.out _ hgj
        case rel=>exact⟨j + 1,false,HJ.out,by rfl,by go_num,Nat.le_refl _,fun h=>absurd (HIB.out (by have:=HNI.out;omega)) (by decide),HB.out.trans ((ay _ _).mono HB.out.size)⟩
       case pos=>
       have hxx:(x==cr)=true:=by simpa using hxc
       by_cases hs0:sch=0
       case neg=>
        have hsn:(sch !=0)=true:=by simpa using hs0
        have cx:=HCX.out wr HB.out
        have c3:=C3.out wr (HA7.out.new HB.out)
        have h46:=(HM7.out.sc.new HB.out).scheme
        rw[HSCH.out] at h46
        clear hxc hs0
        go_quiet (fail)
        go_wp2_with fail
        go_roundg (m - (j + 1))
        case measure=>exact HME.out _ hgj
        case rel=>exact⟨j + 1,true,HJ.out,by rfl,by go_num,Nat.le_refl _,fun h=>rfl,HB.out.trans ((ay _ _).mono HB.out.size)⟩
       case pos=>
       subst hs0
       have HMLJ:aa ((ml.getD j (0,[])).2=eu):=by
        have h:=HMO.out.has j HJM.out
        rw[<-HX.out,hxc,HDG.out] at h
        exact (Option.some.inj h).symm
       obtain⟨cp,hcp⟩:∃x:List Value,x=(List.range 32).map fun k=>Value.int .u8 ((ml.getD j (0,[])).2.getD k 0):=⟨_,rfl⟩
       have hi3:(prog.info? 43).map (·.size)=some cp.length:=by rw[hcp,List.length_map,List.length_range];kernel_rfl
       have HCPE:aa (cp.toArray=(eu.map (Value.int .u8)).toArray):=by rw[aa,hcp,HMLJ.out,CJ HDGL.out]
       have HDX2:aa (∀ W,Below w7.heap.size w7 W->W.rangeAt g (j * 33 + 1) cp):=by rw[hcp];exact HDX.out
       have HYF:aa (decide (∀ j∈List.range 32,(jy (jH kf F (strOfNums (fi so cr bq nn)))).getD j 0=eu.getD j 0)=true):=by rw[aa,<-HOPE.out];exact HOPF.out rfl
       clear hcp
       refine wp_region_held_drew (S:=fun W=>Below w7.heap.size w7 W) (by kernel_rfl) ((HB.out.drew:Below w7.heap.size w7 wr.drew)) (fun hHeld=>?_)
       refine ts 0 (.bool false) hHeld ?_
       try simp only[Act.put,ps]
       refine ts 1 (.bool false) hHeld ?_
       try simp only[Act.put,ps]
       refine ts 2 (.slice (some ⟨g,0,none⟩) m mcap) hHeld ?_
       try simp only[Act.put,ps]
       refine ts 3 (.int .i64 j) hHeld ?_
       try simp only[Act.put,ps]
       refine ts 4 (.pointer (some ⟨g,j * 33,none⟩)) hHeld ?_
       try simp only[Act.put,ps]
       refine ts 5 (.pointer (some ⟨g,j * 33,none⟩)) hHeld ?_
       try simp only[Act.put,ps]
       refine tk 6 (.int .i64 x) hHeld ?_ ?_
       ·intro W hSw
        have cx:=HCX.out W hSw
        go_simp
       try simp only[Act.put,ps]
       refine ts 7 (.pointer (some ⟨A,3,none⟩)) hHeld ?_
       try simp only[Act.put,ps]
       refine tk 8 (.int .i64 cr) hHeld ?_ ?_
       ·intro W hSw
        have c3:=C3.out W (HA7.out.new hSw)
        go_simp
       try simp only[Act.put,ps]
       refine ts 9 (.bool true) hHeld ?_
       try simp only[Act.put,ps]
       refine ts 10 (.bool true) hHeld ?_
       try simp only[Act.put,ps]
       refine ts 11 (.pointer (some ⟨SC,46,none⟩)) hHeld ?_
       try simp only[Act.put,ps]
       refine tk 12 (.int .i64 0) hHeld ?_ ?_
       ·intro W hSw
        have h:=(HM7.out.sc.new hSw).scheme
        rw[HSCH.out] at h
        go_simp
       try simp only[Act.put,ps]
       refine ts 13 (.bool false) hHeld ?_
       try simp only[Act.put,ps]
       refine ts 14 (.bool false) hHeld ?_
       try simp only[Act.put,ps]
       refine ts 15 (.iface 95 (.agg #[])) hHeld ?_
       try simp only[Act.put,ps]
       refine ts 16 (.slice (some ⟨g,0,none⟩) m mcap) hHeld ?_
       try simp only[Act.put,ps]
       refine ts 17 (.int .i64 j) hHeld ?_
       try simp only[Act.put,ps]
       refine ts 18 (.pointer (some ⟨g,j * 33,none⟩)) hHeld ?_
       try simp only[Act.put,ps]
       refine ts 19 (.pointer (some ⟨g,j * 33 + 1,none⟩)) hHeld ?_
       try simp only[Act.put,ps]
       refine tl 20 (.agg cp.toArray) rfl (yieldsIf_load_mid (by rfl) 43 (.tmp 110) rfl g (j * 33 + 1) rfl cp _ (fun W hW=>HDX2.out W hW) underlying43 rfl hi3) hHeld ?_
       try simp only[Act.put,ps]
       refine ts 21 (.pointer (some ⟨SC + 1,1,none⟩)) hHeld ?_
       try simp only[Act.put,ps]
       refine tk 22 (.int .i64 so) hHeld ?_ ?_
       ·intro W hSw
        have h:=(HM7.out.op.new hSw).round
        rw[HRN.out] at h
        go_simp
       try simp only[Act.put,ps]
       refine ts 23 (.pointer (some ⟨A,3,none⟩)) hHeld ?_
       try simp only[Act.put,ps]
       refine tk 24 (.int .i64 cr) hHeld ?_ ?_
       ·intro W hSw
        have c3:=C3.out W (HA7.out.new hSw)
        go_simp
       try simp only[Act.put,ps]
       refine ts 25 (.pointer (some ⟨A,38,none⟩)) hHeld ?_
       try simp only[Act.put,ps]
       refine tk 26 (.int .u64 bq) hHeld ?_ ?_
       ·intro W hSw
        have h:=(HA7.out.new hSw).bid
        rw[HRV.out.2.1] at h
        go_simp
       try simp only[Act.put,ps]
       refine ts 27 (.pointer (some ⟨A,39,none⟩)) hHeld ?_
       try simp only[Act.put,ps]
       refine tk 28 (.int .u64 nn) hHeld ?_ ?_
       ·intro W hSw
        have h:=(HA7.out.new hSw).nonce
        rw[HRV.out.2.2] at h
        go_simp
       try simp only[Act.put,ps]
       refine tl 29 (.agg #[.int .i64 so,.int .i64 cr,.int .u64 bq,.int .u64 nn]) rfl (oq (by rfl) 58 _ rfl [(0,.int .i64 so),(1,.int .i64 cr),(2,.int .u64 bq),(3,.int .u64 nn)] rfl _ (fun W=>zX W so cr bq nn)) hHeld ?_
       try simp only[Act.put,ps]
       refine ts 30 (.func (.method "Opens") #[.iface 95 (.agg #[])] #[]) hHeld ?_
       try simp only[Act.put,ps]
       refine tk 31 (.func (.method "Opens") #[.iface 95 (.agg #[])] #[]) hHeld ?_ ?_
       ·intro W hSw
        have hn:=CM W
        go_simp
       try simp only[Act.put,ps]
       refine ts 32 (.iface 95 (.agg #[])) hHeld ?_
       try simp only[Act.put,ps]
       obtain⟨W0,hW0⟩:=nm (wr.drew)
       have HB0:aa (Below w7.heap.size w7 W0):=by rw[hW0];exact HB.out.drew
       rw[<-hW0] at hHeld ⊢
       clear hW0
       refine rd 33 (fun K hK=>?_)
       go_simp
       rw[HCPE.out]
       refine (tz eu HDGL.out so cr bq nn HSI.out F kf kk W0 ((HSH.out.on HL7.out.bel).on HB0.out)).mono ?_
       rintro e w8 ⟨rfl,hb8⟩
       rw[HYF.out,<-HCPE.out]
       have HB8:aa (Below w7.heap.size w7 w8):=HB0.out.trans (hb8.mono HB0.out.size)
       clear hb8
       refine hK.out _ w8 HB8.out (fun hHeld=>?_)
       clear hK K
       try simp only[Act.put,ps]
       refine ts 34 (.bool true) hHeld ?_
       try simp only[Act.put,ps]
       refine ts 35 (.bool true) hHeld ?_
       try simp only[Act.put,ps]
       refine ts 36 (.bool true) hHeld ?_
       try simp only[Act.put,ps]
       refine ts 37 (.bool true) hHeld ?_
       try simp only[Act.put,ps]
       refine wpAnyH_done (by kernel_rfl) ?_ _
       clear hHeld hxx hxc
       go_wp2_with fail
       go_roundg (m - (j + 1))
       case measure=>exact HME.out _ hgj
       case rel=>exact⟨j + 1,true,HJ.out,by rfl,by go_num,Nat.le_refl _,fun h=>rfl,HB8.out⟩
     ·have hji:¬(j:Int)<m:=by omega
      obtain rfl:b=true:=HIB.out (by have:=HI0.out;omega)
      have HL8:=ac (HL7.out.new HB.out)
      have HMW:aa (BJ O wr SC (SC + 1) scv opv (.slice gn m mcap) u13 ml bl):=by have:=HM7.out.new HB.out;rw[<-HMLE.out] at this;exact this
      have HA8:=ac (HA7.out.new HB.out)
      have c1:wr.cell? ⟨A,1,none⟩=some (.int .i64 so):=by have:=HA8.out.round;rw[HRV.out.1] at this;exact this
      have c3:wr.cell? ⟨A,3,none⟩=some (.int .i64 cr):=C3.out _ HA8.out
      have c38:wr.cell? ⟨A,38,none⟩=some (.int .u64 bq):=by have:=HA8.out.bid;rw[HRV.out.2.1] at this;exact this
      have d1:wr.cell? ⟨SC + 1,1,none⟩=some (.int .i64 so):=by have:=HMW.out.op.round;rw[HRN.out] at this;exact this
      have e1:(so !=so)=false:=by simp
      obtain⟨bn,hbn⟩:=nm (bl.length)
      have hbk:bn<=k:=by rw[hbn];exact HLEN.out.2
      have HBN:=ac hbn
      have HOWN:aa (wr.ownsRow 0 60 2 u13 bn (b8 bl)):=by rw[hbn];exact HMW.out.bd
      clear hj hgj hjm hbn
      go_wp2_with (first
       | (at_builtin;refine BO rfl _ _ 51 60 rfl (.agg #[.int .i64 0,.int .u64 0]) 2 16 underlying51 Tryz.infoBd rfl (by decide) 0 _ bn _ rfl (World.ownsRow.alloc HOWN.out _) wr.heap.size [.int .i64 cr,.int .u64 bq] ?e1 ?e2 rfl ?e3 ?e4 ?e5 ?e6 ?_)
       | fail)
      case e2=>first
       | (intro u hu;rcases hu with rfl | rfl <;> rfl)
       | (intro u hu;rcases List.mem_cons.1 hu with rfl | hu;rfl;obtain rfl:=List.mem_singleton.1 hu;rfl)
       | simp[Value.oneCell']
      case e4=>unfold maxLen;omega
      case e5=>omega
      intro v' w8 hown' hgrow hat
      have hkg:am (fun j=>¬O j) wr w8:=(ak (af wr _) _).trans (aF hgrow _ (fun j e h=>h (HMW.out.obd j e)))
      have HL9:=ac (HL8.out.grow hkg)
      have HM9:aa (BJ (fun j=>O j\/(wr.heap.size<=j/\j<w8.heap.size)) w8 SC (SC + 1) scv opv (.slice gn m mcap) v' ml (bl++[(cr,bq)])):=by
       refine HMW.out.bid (af wr _) hgrow (by rw[<-HBN.out];exact hown') (fun _ h=>.inl h) (fun j e=>?_)
       rcases hat with h | h
       ·exact .inl (HMW.out.obd j (by rw[<-h];exact e))
       ·refine .inr ⟨?_,(World.ownsRow.lt hown' j e).2⟩
        rw[h] at e
        have e2:=Option.some.inj e
        try simp at e2
        omega
      clear hown' hgrow hat hkg
      go_wp2_with fail
      go_roundg (n - (k + 1))
      case measure=>exact HM.out.1
      case rel=>exact⟨k + 1,s,HM.out.2,by go_num,Nat.le_refl _,_,scv,opv,ml,_,HL9.out,HM9.out,HRL.out,HLT.out,by have:=HLEN.out;omega,by rw[List.length_append];have:=HLEN.out;simp;omega⟩
   ·obtain⟨hor,hol,hmo,hpb,hmc⟩:=HREL.out.op o hop
    have holt:=(HWF.out.opn o hop).1
    have hlens:=HWF.out.lens
    obtain⟨lt,hlt2⟩:∃q:Nat,o.lot=q:=Int.eq_ofNat_of_zero_le holt.1
    obtain⟨nl,hnl⟩:=nm (st.scene.lots.length)
    have hltn:lt<nl:=by omega
    have hnl16:nl<=16:=by rw[hnl];exact HWF.out.nlots
    have hrs:=HWF.out.resv lt (by omega)
    obtain⟨rs,hrsv⟩:∃x,x=(st.scene.lots.getD lt (0,0)).2:=⟨_,rfl⟩
    rw[<-hrsv] at hrs
    obtain⟨la2,lc2,e9,hlc,hrow⟩:=HLTS.out w7 HL7.out.rows
    rw[<-hnl] at e9 hlc hrow
    obtain⟨lb2,lo2,ela,hlb2,hcl⟩:=hrow (by omega)
    have cl:=(hcl lt hltn).2
    rw[<-hrsv] at cl
    subst ela
    obtain⟨x1,x2,x3,hx⟩:∃a b c,vickOf bl rs=(a,b,c):=⟨_,_,_,rfl⟩
    obtain⟨sv,hsv⟩:=nm (d.state)
    obtain⟨wv,hwv⟩:=nm (d.winner)
    obtain⟨nx,hpv⟩:=nm (d.price)
    have HWANT:aa ((if x1=2/\sv=4 then ((4:Int),x2,x3) else (x1,x2,x3))=(sv,wv,nx)):=by
     have h1:=hp.2.2
     unfold tF at h1
     rw[hlt2,Int.toNat_natCast,<-hrsv,<-Ca hpb,hx,<-hsv,<-hwv,<-hpv] at h1
     exact h1
    have HRL:aa (Cm s scv opv ml bl):=by
     rw[HE.out,hst]
     exact⟨HREL.out.scheme,fun o' h=>by cases h⟩
    have HLT:aa (∀ W,am (fun k=>B<=k/\k<w3.heap.size) w3 W->cZ W scv.lots s.scene.lots):=by rw[HE.out,hst];exact HLTS.out
    have c40:∀W,ah W A rv->W.cell? ⟨A,40,none⟩=some (.int .i64 sv):=fun W hW=>by have:=hW.state;rw[HRO.out.1,<-hsv] at this;exact this
    have c41:∀W,ah W A rv->W.cell? ⟨A,41,none⟩=some (.int .i64 wv):=fun W hW=>by have:=hW.winner;rw[HRO.out.2.1,<-hwv] at this;exact this
    have c42:∀W,ah W A rv->W.cell? ⟨A,42,none⟩=some (.int .u64 nx):=fun W hW=>by have:=hW.price;rw[HRO.out.2.2,<-hpv] at this;exact this
    have C40:=ac c40
    have C41:=ac c41
    have C42:=ac c42
    have d2:w7.cell? ⟨SC + 1,2,none⟩=some (.int .i64 lt):=by have:=HM7.out.op.lot;rw[hol,hlt2] at this;exact this
    have d47:w7.cell? ⟨SC,47,none⟩=some (.slice (some ⟨lb2,lo2,none⟩) nl lc2):=by have:=HM7.out.sc.lots;rw[e9] at this;exact this
    have HOF0:=AF bl u13 rs w7 (js HM7.out.bd) (by have:=HLEN.out;omega)
    have HOF:aa (Calls prog 18 #[u13,.int .u64 rs] w7 fun e w'=>e=.returned (.agg #[.int .i64 x1,.int .i64 x2,.int .u64 x3])/\Below w7.heap.size w7 w'):=HOF0.mono (fun e w' hh=>⟨by rw[hh.1,hx];rfl,hh.2⟩)
    have b1:decide ((lt:Int)<0)=false:=decide_eq_false (by omega)
    have b1':¬(lt:Int)<0:=by omega
    have b2:decide ((nl:Int)<=lt)=false:=decide_eq_false (by omega)
    have b2':¬(nl:Int)<=lt:=by omega
    have b5:(lt:Int)<nl:=by omega
    have hrm:rs % 18446744073709551616=rs:=by omega
    rw[hk1] at c0
    clear hk1 hp hst hop holt hlens hlt2 hnl hlc hrow hcl hrsv e9 hlb2 hx hsv hwv hpv hor hol hmo hpb hmc HOF0 c40 c41 c42
    go_wp2_with fail
    refine HOF.out.mono ?_
    rintro e w8 ⟨rfl,hb8⟩
    have HB8:=ac hb8
    clear hb8 HOF hrm c0 cl d2 d47
    go_upto_region 38 with fail
    obtain⟨W,hW⟩:=nm (w8.heap.size)
    obtain⟨w9,hw9⟩:=nm (w8.alloc (.cells #[.int .i64 x1,.int .i64 x2,.int .u64 x3] 46))
    have hb9:Below w7.heap.size w7 w9:=by rw[hw9];exact HB8.out.alloc HB8.out.size _
    have HW9:aa (w9.heap[W]?=some (.cells #[.int .i64 x1,.int .i64 x2,.int .u64 x3] 46 (0,0))):=by rw[hw9,hW];exact ax _ _
    have HWW:aa (w7.heap.size<=W/\W<w9.heap.size):=⟨by rw[hW];exact HB8.out.size,aK HW9.out⟩
    have HLY:=ac (HL7.out.more hb9)
    have HMY9:aa (BJ O w9 SC (SC + 1) scv opv u12 u13 ml bl):=HM7.out.new hb9
    have HA9:=ac (HA7.out.new hb9)
    have HOSZ:aa (∀ j,O j->j≠W):=fun j hj e=>by have:=HL7.out.osz j hj;have:=HWW.out.1;omega
    rw[<-hw9,<-hW]
    clear hw9 hW hb9 HB8
    have e40:w9.cell? ⟨A,40,none⟩=some (.int .i64 sv):=C40.out _ HA9.out
    have cW0:w9.cell? ⟨W,0,none⟩=some (.int .i64 x1):=aq HW9.out 0
    have hne:∀X,(binOp .neq 46 (.agg #[.int .i64 sv,.int .i64 wv,.int .u64 nx]) (.agg #[.int .i64 sv,.int .i64 wv,.int .u64 nx])).run prog X=.ok (.bool false) X:=fun X=>by
     have:=AG sv wv nx sv wv nx X
     simpa using this
    have HNE:=ac hne
    clear hne
    by_cases h24:x1=2/\sv=4
    ·have hw:=HWANT.out
     rw[if_pos h24] at hw
     obtain⟨hx1,hs4⟩:=h24
     subst hx1 hs4
     obtain⟨_,h2⟩:=Prod.mk.inj hw
     obtain⟨rfl,rfl⟩:=Prod.mk.inj h2
     have fW0:=aL HW9.out 0
     obtain⟨wz,hwz⟩:∃z,z=w9.setCell ⟨W,0,none⟩ (.int .i64 4):=⟨_,rfl⟩
     have HKZ:aa (am (·≠W) w9 wz):=by rw[hwz];exact (am.refl _ _).setCell (p:=⟨W,0,none⟩) (.inr (fun h=>h rfl)) _
     have HWZ:aa (wz.heap[W]?=some (.cells #[.int .i64 4,.int .i64 x2,.int .u64 x3] 46 (0,0))):=by rw[hwz];exact aH HW9.out 0 _
     have HLZ:=ac (HLY.out.put (HKZ.out.mono (fun k _ h e=>h (.inr (by rw[e];exact HWW.out)))))
     have HMZ:aa (BJ (fun j=>O j\/(w7.heap.size<=j/\j<w9.heap.size)) wz SC (SC + 1) scv opv u12 u13 ml bl):=(HMY9.out.keeps HKZ.out (fun j hj=>HOSZ.out j hj)).wide (fun _ h=>.inl h)
     have HAZ:aa (ah wz A rv):=HA9.out.keeps HKZ.out (HOSZ.out A HAO.out)
     clear hw h2
     go_upto_region 41 with fail
     refine ge hwz ?_
     clear hwz e40 cW0 fW0 HLY HMY9 HA9 HW9
     have e40:wz.cell? ⟨A,40,none⟩=some (.int .i64 4):=C40.out _ HAZ.out
     have e41:wz.cell? ⟨A,41,none⟩=some (.int .i64 x2):=C41.out _ HAZ.out
     have e42:wz.cell? ⟨A,42,none⟩=some (.int .u64 x3):=C42.out _ HAZ.out
     have cW0:wz.cell? ⟨W,0,none⟩=some (.int .i64 4):=aq HWZ.out 0
     have cW1:wz.cell? ⟨W,1,none⟩=some (.int .i64 x2):=aq HWZ.out 1
     have cW2:wz.cell? ⟨W,2,none⟩=some (.int .u64 x3):=aq HWZ.out 2
     have hne:=HNE.out
     go_wp2_with fail
     go_roundg (n - (k + 1))
     case measure=>exact HM.out.1
     case rel=>exact⟨k + 1,s,HM.out.2,by go_num,Nat.le_refl _,_,scv,opv,ml,bl,HLZ.out,HMZ.out,HRL.out,HLT.out,by have:=HLEN.out;omega,by have:=HLEN.out;omega⟩
    ·have hw:=HWANT.out
     rw[if_neg h24] at hw
     obtain⟨rfl,h2⟩:=Prod.mk.inj hw
     obtain⟨rfl,rfl⟩:=Prod.mk.inj h2
     have HMZ:aa (BJ (fun j=>O j\/(w7.heap.size<=j/\j<w9.heap.size)) w9 SC (SC + 1) scv opv u12 u13 ml bl):=HMY9.out.wide (fun _ h=>.inl h)
     have e41:w9.cell? ⟨A,41,none⟩=some (.int .i64 x2):=C41.out _ HA9.out
     have e42:w9.cell? ⟨A,42,none⟩=some (.int .u64 x3):=C42.out _ HA9.out
     have cW1:w9.cell? ⟨W,1,none⟩=some (.int .i64 x2):=aq HW9.out 1
     have cW2:w9.cell? ⟨W,2,none⟩=some (.int .u64 x3):=aq HW9.out 2
     have hne:=HNE.out
     clear hw h2
     by_cases hx2:x1=2
     ·subst hx2
      clear h24
      go_wp2_with fail
      go_roundg (n - (k + 1))
      case measure=>exact HM.out.1
      case rel=>exact⟨k + 1,s,HM.out.2,by go_num,Nat.le_refl _,_,scv,opv,ml,bl,HLY.out,HMZ.out,HRL.out,HLT.out,by have:=HLEN.out;omega,by have:=HLEN.out;omega⟩
     ·have hb1:(x1==2)=false:=by simpa using hx2
      clear h24 hx2
      go_wp2_with fail
      go_roundg (n - (k + 1))
      case measure=>exact HM.out.1
      case rel=>exact⟨k + 1,s,HM.out.2,by go_num,Nat.le_refl _,_,scv,opv,ml,bl,HLY.out,HMZ.out,HRL.out,HLT.out,by have:=HLEN.out;omega,by have:=HLEN.out;omega⟩
   ·have hk6:d.kind=6:=by
     have:=dW HMY.out
     omega
    have HRL:aa (Cm s scv opv ml bl):=by
     rw[HE.out,hst]
     exact⟨HREL.out.scheme,fun o' h=>by cases h⟩
    have HLT:aa (∀ W,am (fun k=>B<=k/\k<w3.heap.size) w3 W->cZ W scv.lots s.scene.lots):=by rw[HE.out,hst];exact HLTS.out
    rw[hk6] at c0
    clear hk1 hp hst hk6
    go_wp2_with fail
    go_roundg (n - (k + 1))
    case measure=>exact HM.out.1
    case rel=>exact⟨k + 1,s,HM.out.2,by go_num,Nat.le_refl _,O,scv,opv,ml,bl,HL7.out,HM7.out,HRL.out,HLT.out,by have:=HLEN.out;omega,by have:=HLEN.out;omega⟩
  ·have hki:¬(k:Int)<n:=by omega
   go_wp2_with fail
   go_ret
   exact⟨rfl,HL.out.bel⟩
