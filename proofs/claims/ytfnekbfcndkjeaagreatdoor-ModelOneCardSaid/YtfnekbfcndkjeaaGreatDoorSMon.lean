/- ModelOne, walked. Printed by wip/gen/mon.py. -/
import Derived.Test.YtfnekbfcndkjeaaGreatDoorSOn0
set_option maxHeartbeats 16000000
set_option maxRecDepth 100000
set_option linter.all false
namespace Go.Proofs.YtfnekbfcndkjeaaGreatDoor
open Go.Proofs.Tryz Go.RowKit Go.Maps
theorem yD (w:World) (dr:sV) (hdr:dr.ok) (bv:Value) (hb:i4 w bv dr.n) (x0 x1 x2:Int) (hx0:0<=x0/\x0<=255) (hx1:0<=x1/\x1<=255) (hx2:-32768<=x2/\x2<=32767) (tn:Bool) (hte:ew w) (F:S8) (kf:Nat->Int) (kk:Array Value) (hsh:cV F kf kk w):
  Calls prog 6 #[.agg (dr.cells bv),.agg #[.int .u8 x0,.int .u8 x1,.int .i16 x2],.bool tn] w fun e w'=>e=.returned (.bool true)/\Below w.heap.size w w':=by
 have HDR:=ac hdr
 have HX:aa ((0<=x0/\x0<=255)/\(0<=x1/\x1<=255)/\(-32768<=x2/\x2<=32767)):=⟨hx0,hx1,hx2⟩
 have HTE:=ac hte
 have HSH:=ac hsh
 obtain⟨L,hL⟩:=nm (w.heap.size)
 obtain⟨D,hDD⟩:∃D:Array Value,D=dr.cells bv:=⟨_,rfl⟩
 obtain⟨C,hCC⟩:∃C:Array Value,C=#[.int .u8 x0,.int .u8 x1,.int .i16 x2]:=⟨_,rfl⟩
 obtain⟨w0,hw0⟩:∃z,z=(w.alloc (.cells D 24)).alloc (.cells C 27):=⟨_,rfl⟩
 have hs1:(w.alloc (.cells D 24)).heap.size=L + 1:=by rw[hL];simp
 have HN0:aa (Below w.heap.size w w0):=by rw[hw0];exact ar w _ _ (af _ _) (af _ _)
 have HD0:aa (w0.heap[L]?=some (.cells D 24 (0,0))):=by rw[hw0,hL];exact au (ax _ _) (af _ _)
 have HC0:aa (w0.heap[L + 1]?=some (.cells C 27 (0,0))):=by rw[hw0,<-hs1];exact ax _ _
 have HB0:aa (i4 w0 bv dr.n):=hb.up HN0.out
 have HDD:=ac hDD
 have HCC:=ac hCC
 have HDZ:aa ((prog.info? 24).map (·.size)=some D.size):=by rw[aa,hDD];kernel_rfl
 have HCZ:aa ((prog.info? 27).map (·.size)=some C.size):=by rw[aa,hCC];kernel_rfl
 rw[<-hDD,<-hCC]
 clear hb hdr hDD hCC hx0 hx1 hx2 hs1 hte hsh
 go_enter func6,ntmps6
 go_upto_region 1 with fail
 refine ge hw0 ?_
 rw[<-hL]
 clear hw0 hL
 go_wp2_with fail
 refine (pF w0).mono ?_
 rintro e w1 ⟨rfl,hw1⟩
 obtain⟨p,hp⟩:=nm (w0.heap.size)
 have hb1:Below w0.heap.size w0 w1:=by rw[hw1];exact af _ _
 have HN1:aa (Below w.heap.size w w1):=ar w _ _ HN0.out hb1
 have HW1:=ac hw1
 have HPP:=ac hp
 rw[<-hp]
 clear hw1 hp
 go_wp2_with fail
 refine (nI w1 (HTE.out.on HN1.out)).mono ?_
 rintro e w2 ⟨rfl,hb2⟩
 have HB12:=ac hb2
 have HN2:aa (Below w.heap.size w w2):=ar w _ _ HN1.out hb2
 have HD2:aa (w2.heap[L]?=some (.cells D 24 (0,0))):=au (au HD0.out hb1) hb2
 have HC2:aa (w2.heap[L + 1]?=some (.cells C 27 (0,0))):=au (au HC0.out hb1) hb2
 have HB2:aa (i4 w2 bv dr.n):=(HB0.out.up hb1).up hb2
 clear hb1 hb2
 go_wp2_with (first
  | (refine wpList_load_row rfl _ _ rfl L rfl _ D (0,0) _ HD2.out underlying24 rfl HDZ.out ?_)
  | (refine wpList_load_row rfl _ _ rfl (L + 1) rfl _ C (0,0) _ HC2.out underlying27 rfl HCZ.out ?_)
  | fail)
 have hcall:=nR w2 dr HDR.out bv HB2.out x0 x1 x2 HX.out.1 HX.out.2.1 HX.out.2.2 tn
 rw[<-HDD.out,<-HCC.out] at hcall
 refine hcall.mono ?_
 clear hcall
 rintro e w3 ⟨v,ds,rfl,hro,hok,hl60,hb3⟩
 obtain⟨av,cap,rvs,rfl,hcap,hrow,hrec⟩:=hro
 obtain⟨n,hn⟩:=nm (ds.length)
 obtain⟨B,hB⟩:=nm (w2.heap.size)
 have HLW0:aa (dN (fun _=>False) w w3 B p 0 {} w3):=by
  have:=rG HN0.out HW1.out HB12.out hb3
  rw[<-HPP.out,<-hB] at this
  exact this
 have HNN:=ac hn
 have HOK:=ac hok
 have HROW:aa (0<n->∃lb lo,av=some ⟨lb,lo,none⟩/\lb<w3.heap.size/\B<=lb/\∀j,j<n->w3.rangeAt lb (lo + j * 49) (ae (rvs j)).toList):=by rw[hB,hn];exact hrow
 have HREC:aa (∀ W,am (fun k=>B<=k/\k<w3.heap.size) w3 W->∀j,j<n->bu W (rvs j) (ds.getD j {})):=by rw[hB,hn];exact hrec
 have hn60:n<=60:=by rw[hn];exact hl60
 have hncap:n<=cap:=by rw[hn];exact hcap
 rw[<-hn]
 clear hn hB hok hl60 hcap hrow hrec HD0 HC0 HB0 HD2 HC2 HB2 HB12 hb3
 go_wp2_with fail
 go_loopg [9,10,11,12,13] n (fun g v9 v10 v11 v12 v13 wr=>∃(k:Nat) (lv nv:Value) (lot carr:Int) (st:MSt),k<=n/\lv=v9/\nv=v10/\v11=.int .i64 lot/\v12=.int .i64 carr/\v13=.int .i64 k/\n - k<=g/\aa (yA B p k w w3 st lv nv lot carr wr))
 case atStart=>exact⟨0,_,_,-1,0,{},Nat.zero_le _,rfl,rfl,rfl,rfl,rfl,by omega,yC HLW0.out⟩
 case round=>
  clear HLW0
  obtain⟨k,lv,nv,lot,carr,st,hk,rfl,rfl,rfl,rfl,rfl,hg,HMD⟩:=hrel
  obtain⟨Q0,hT,hLV,hL,hNV⟩:=HMD.out
  have HT:=ac hT
  have HLV:=ac hLV
  have HL:=ac hL
  have HNV:=ac hNV
  clear hT hLV hL hNV HMD
  by_cases hlt:k<n
  ·skip
   have hki:(k:Int)<n:=by omega
   obtain⟨lb,lo,rfl,hlb,hBl,hj⟩:=HROW.out (by omega)
   obtain⟨rv,hrv⟩:=nm (rvs k)
   obtain⟨d,hd⟩:∃d,d=ds.getD k {}:=⟨_,rfl⟩
   have HRG:aa (wr.rangeAt lb (lo + k * 49) (ae rv).toList):=by rw[hrv];exact ik (hj k hlt) HL.out.rows ⟨hBl,hlb⟩
   have HRC:aa (∀ W,am (fun k=>B<=k/\k<w3.heap.size) w3 W->bu W rv d):=fun W hW=>by rw[hrv,hd];exact HREC.out W hW k hlt
   have HDO:aa d.ok:=by
    rw[hd]
    exact HOK.out _ (dJ (by rw[<-HNN.out];exact hlt))
   have HDD2:=ac hd
   have HM:aa (n - (k + 1)<gk/\k + 1<=n):=⟨by omega,hlt⟩
   have hi0:(prog.info? 49).map (·.size)=some (ae rv).toList.length:=by rw[Array.length_toList,aj];kernel_rfl
   have hi49:(prog.info? 49).map (·.size)=some (ae rv).size:=by rw[aj];kernel_rfl
   have hon:=bu.one (HRC.out w3 (am.refl _ _))
   clear hj hrv hd
   go_upto_region 12 with (first
    | (refine aG (by rfl) _ _ rfl lb (lo + k * 49) rfl _ _ HRG.out underlying49 rfl hi0 (ae rv) (Array.toArray_toList) ?_)
    | (refine wpList_store_row rfl _ _ _ rfl wr.heap.size (ae rv) rfl rfl 49 _ (ax wr _) hi49 (by rw[aj];simp) hon ?_;rw[World.setRow_alloc_new])
    | fail)
   obtain⟨A,hA⟩:=nm (wr.heap.size)
   obtain⟨w5,hw5⟩:=nm (wr.alloc (.cells (ae rv) 49))
   have hb5:Below wr.heap.size wr w5:=by rw[hw5];exact af _ _
   have HA5:aa (ah w5 A rv):=by rw[hw5,hA];exact ah.box _ _
   have HL5:=ac (HL.out.more hb5)
   have HAO:aa (wr.heap.size<=A/\A<w5.heap.size):=⟨Nat.le_of_eq hA.symm,HA5.out.lt⟩
   obtain⟨O,hO⟩:∃O:Nat->Prop,O=fun j=>Q0 j\/(wr.heap.size<=j/\j<w5.heap.size):=⟨_,rfl⟩
   have HAO:aa (O A):=by rw[hO];exact .inr HAO.out
   have HL5:aa (dN O w w3 B p k st w5):=by rw[hO];exact HL5.out
   have HNV5:aa (eZ O w5 nv st.owners):=by rw[hO];exact (HNV.out.keeps (ak hb5 (fun _=>True)) (fun _ _=>trivial)).wide (fun _ h=>.inl h)
   rw[<-hw5,<-hA]
   clear hw5 hA hb5 hon HRG hlb hBl hi0 hO
   go_wp2_with fail
   refine (HL5.out.outs (by omega)).mono ?_
   rintro e w6a ⟨⟨oa,ocap,rfl⟩,hb6a⟩
   have HL6a:=ac (HL5.out.new hb6a)
   have HA6a:=ac (HA5.out.new hb6a)
   have HNV6a:aa (eZ O w6a nv st.owners):=HNV5.out.keeps (ak hb6a (fun _=>True)) (fun _ _=>trivial)
   obtain⟨no,hno⟩:=nm (st.outs.length)
   have HNO:=ac hno
   rw[<-hno]
   clear hb6a hno HL5 HA5 HNV5 HL HNV
   go_wp2_with fail
   refine HL6a.out.ended.mono ?_
   rintro e w6 ⟨rfl,hb6⟩
   have HL6:=ac (HL6a.out.new hb6)
   have HA6:=ac (HA6a.out.new hb6)
   have HNV6:aa (eZ O w6 nv st.owners):=HNV6a.out.keeps (ak hb6 (fun _=>True)) (fun _ _=>trivial)
   obtain⟨en,hen⟩:=nm (st.ended)
   have HEN:=ac hen
   rw[<-hen]
   clear hb6 hen HL6a HA6a HNV6a
   go_wp2_with (first
    | (refine wpList_load_row rfl _ _ rfl A rfl _ (ae rv) (0,0) _ HA6.out underlying49 rfl hi49 ?_)
    | fail)
   refine (HL6.out.take (by omega) HSH.out rv d HRC.out HDO.out).mono ?_
   rintro e w7 ⟨rfl,hl7,hk7⟩
   obtain⟨s,hs⟩:∃s,s=(cd (fK F kf) st d).2:=⟨_,rfl⟩
   have HL7:aa (dN O w w3 B p (k + 1) s w7):=by rw[hs];exact hl7
   have HA7:aa (ah w7 A rv):=HA6.out.keeps hk7 HAO.out
   have HNV7:aa (eZ O w7 nv st.owners):=HNV6.out.keeps hk7 (fun _ h=>h)
   have HSS:=ac hs
   obtain⟨c,hc⟩:∃c,c=(cd (fK F kf) st d).1:=⟨_,rfl⟩
   have HC:=ac hc
   rw[<-hc]
   have HWF:aa st.Wf:=HL6.out.wf
   have HNO6:aa (no<=60):=by
    obtain⟨S,⟨⟨v,hv⟩,_⟩,_⟩:=HL6.out.mod
    have:=hv.nout
    rw[aa,HNO.out]
    omega
   clear hl7 hk7 hc hs HL6 HA6 HNV6
   go_upto_if 51 with fail
   go_cut [9,10,11,12,15,16] (fun v9 v10 v11 v12 v15 v16 wx=>∃(lv nv:Value) (lot carr:Int),lv=v9/\nv=v10/\v11=.int .i64 lot/\v12=.int .i64 carr/\v15=.int .i64 ((s.outs.length:Nat):Int)/\v16=.bool s.ended/\aa (yA B p (k + 1) w w3 s lv nv lot carr wx))
   case first=>
    by_cases h0:c=0
    case neg=>
     have hcb:(c==0)=false:=by simpa using h0
     have HST:aa (s=st):=by rw[aa,HSS.out];exact oI (by rw[<-HC.out];exact h0)
     clear h0
     go_wp2_with fail
     go_meet
     case rel=>exact⟨_,_,lot,carr,rfl,rfl,rfl,rfl,by rw[HST.out,<-HNO.out],by rw[HST.out,<-HEN.out],O,by rw[HST.out];exact HT.out,by rw[HST.out];exact HLV.out,HL7.out,by rw[HST.out];exact HNV7.out⟩
    case pos=>
    subst h0
    obtain⟨st1,hm,hh,hs,he⟩:=oJ HC.out.symm
    have HE:aa (s={st1 with tick:=d.tick}):=HSS.out.trans he
    have HS:=ac hs
    have HH:=ac hh
    have HMY:=ac hm
    have hne:en=false:=by rw[HEN.out];exact hh.1
    subst hne
    have hrt:rv.kind=d.kind/\rv.lot=d.lot/\rv.state=d.state/\rv.winner=d.winner/\rv.carriers=d.carriers:=by
     obtain⟨b,l,o,e,_⟩:=HRC.out w3 (am.refl _ _)
     rw[e]
     exact⟨rfl,rfl,rfl,rfl,rfl⟩
    have c0:w7.cell? ⟨A,0,none⟩=some (.int .i64 d.kind):=by have:=HA7.out.kind;rw[hrt.1] at this;exact this
    have HRT:=ac hrt
    clear hm hh hs he hrt HC
    rcases gt HS.out with ⟨hk1,hp,hst⟩ | ⟨hk1,hp,hst⟩ | ⟨hk1,o,hop,hp,hst⟩ | ⟨hk1,o,hop,hp,hst⟩ | ⟨hk1,o,hop,hp,hst⟩ | ⟨hk1,hp,hst⟩
    ·have HK:=ac hk1
     have hop0:st.opn=none:=by
      have h2:=HH.out.2.1
      rw[hk1] at h2
      have h3:st.scene.kind=0:=by
       by_cases e:st.scene.kind=0
       ·exact e
       ·exact absurd (by rw[decide_eq_true e];rfl) h2
      exact (HWF.out.fresh h3).2.2.1
     have hsc:=jz HMY.out hk1
     have hnown:d.owners.length<=64:=hsc.nown
     have HSE:aa (s.outs=st.outs/\s.ended=false/\s.owners=d.owners/\s.scene.lots=d.lots/\s.scene.carriers=d.carriers/\s.opn=none):=by
      rw[aa,HE.out,hst]
      exact⟨rfl,HEN.out.symm,rfl,rfl,rfl,hop0⟩
     rw[hk1] at c0
     obtain⟨b,l,ov,e,hr1,hr2,hr3⟩:=HRC.out w3 (am.refl _ _)
     have HEV:=ac e
     obtain⟨oa2,oc2,rfl,hoc2,_⟩:=hr3
     obtain⟨la2,lc2,rfl,hlc2,_⟩:=hr2
     obtain⟨cq,hcq⟩:=nm (d.carriers)
     have HCQ:=ac hcq
     have c43:∀W,ah W A rv->W.cell? ⟨A,43,none⟩=some (.int .i64 cq):=fun W hW=>by have:=hW.carriers;rw[HRT.out.2.2.2.2,<-hcq] at this;exact this
     have c47:∀W,ah W A rv->W.cell? ⟨A,47,none⟩=some (.slice la2 d.lots.length lc2):=fun W hW=>by have:=hW.lots;rw[e] at this;exact this
     have c48:∀W,ah W A rv->W.cell? ⟨A,48,none⟩=some (.slice oa2 d.owners.length oc2):=fun W hW=>by have:=hW.owners;rw[e] at this;exact this
     have C43:=ac c43
     have C47:=ac c47
     have C48:=ac c48
     have HSRC:aa (∀ W,am (fun k=>B<=k/\k<w3.heap.size) w3 W->0<d.owners.length->∃lb lo,oa2=some ⟨lb,lo,none⟩/\∀j u,(d.owners.map (Value.int .i64))[j]?=some u->W.cell? ⟨lb,lo + j,none⟩=some u):=fun W hW h0=>by
      obtain⟨_,_,hr⟩:=(HRC.out W hW).rows e
      obtain⟨a,c,e2,_,_,hx⟩:=hr.src
      obtain⟨lb,lo,ea,hj⟩:=hx h0
      obtain⟨ea2,_,_⟩:=Value.slice.inj e2
      exact⟨lb,lo,ea2.trans ea,hj.2⟩
     have HLV2:aa (∀ W,am (fun k=>B<=k/\k<w3.heap.size) w3 W->cZ W (.slice la2 d.lots.length lc2) d.lots):=fun W hW=>((HRC.out W hW).rows e).2.1
     have HN64:=ac hnown
     clear hk1 hp hst hsc hop0 hcq e hr1 hoc2 hlc2 c43 c47 c48 hnown
     go_upto_region 17 with fail
     refine wp_region_held_drew (S:=fun W=>ah W A rv) (by kernel_rfl) (HA7.out.drew) (fun hHeld=>?_)
     simp only[List.size_toArray,List.length_cons,List.length_nil,Nat.zero_add,Nat.reduceAdd]
     have hHeld:=hHeld
     refine ts 0 (.pointer (some ⟨A,47,none⟩)) hHeld ?_
     try simp only[Act.put,ps]
     refine tk 1 (.slice la2 d.lots.length lc2) hHeld ?_ ?_
     ·intro W hSw
      have c:=C47.out W hSw
      go_simp
     try simp only[Act.put,ps]
     refine ts 3 (.pointer (some ⟨A,48,none⟩)) hHeld ?_
     try simp only[Act.put,ps]
     refine tk 4 (.slice oa2 d.owners.length oc2) hHeld ?_ ?_
     ·intro W hSw
      have c:=C48.out W hSw
      go_simp
     try simp only[Act.put,ps]
     refine ts 6 (.pointer (some ⟨A,43,none⟩)) hHeld ?_
     try simp only[Act.put,ps]
     refine tk 7 (.int .i64 cq) hHeld ?_ ?_
     ·intro W hSw
      have c:=C43.out W hSw
      go_simp
     try simp only[Act.put,ps]
     obtain⟨W0,hW0⟩:=nm (w7.drew)
     have HB0:aa (Below w7.heap.size w7 W0):=by rw[hW0];exact aA _
     rw[<-hW0] at hHeld ⊢
     clear hW0
     refine rd 2 (fun K hK=>?_)
     refine aP (by rfl) 41 0 [] rfl [] rfl _ (yz _) ?_
     obtain⟨h0,hh0⟩:=nm (W0.heap.size)
     obtain⟨Wa,hW⟩:=nm (W0.alloc (.cells #[] 3))
     have bj:Below W0.heap.size W0 Wa:=by rw[hW];exact af _ _
     have HBa:aa (Below w7.heap.size w7 Wa):=ar w7 _ _ HB0.out bj
     have HEa:aa (Wa.ownsRow w7.heap.size 3 1 (.slice (some ⟨h0,0,none⟩) 0 0) 0 []):=⟨rfl,.inr ⟨h0,0,#[],rfl,by rw[hh0];exact HB0.out.size,by rw[hW,hh0];exact ax _ _,Nat.le_refl _,by decide,rfl,rfl⟩⟩
     have HRa:aa (ah Wa A rv):=HA7.out.new HBa.out
     have HKa:aa (am (fun k=>B<=k/\k<w3.heap.size) w3 Wa):=HL7.out.rows.trans (ak HBa.out _)
     rw[<-hW,<-hh0]
     refine hK.out _ Wa HRa.out (fun hHeld=>?_)
     clear hK K hW bj hh0
     try simp only[Act.put,ps]
     refine rd 5 (fun K hK=>?_)
     refine mt rfl _ _ 41 3 rfl (.int .i64 0) 1 8 underlying41 Tryz.infoInt rfl (by decide) w7.heap.size (.slice (some ⟨h0,0,none⟩) 0 0) 0 [] rfl HEa.out oa2 d.owners.length oc2 (d.owners.map (Value.int .i64)) rfl (by rw[List.length_map,Nat.mul_one]) (fun u hu=>by obtain⟨z,_,rfl⟩:=List.mem_map.1 hu;rfl) (HSRC.out Wa HKa.out) (by have:=HN64.out;unfold maxLen;omega) (by have:=HN64.out;omega) HBa.out.size ?_
     intro nvb Wb hown hgr
     have HBb:aa (Below w7.heap.size w7 Wb):=aB HBa.out (aF hgr (·<w7.heap.size) (fun j hj=>Nat.not_lt.2 (World.ownsRow.lt HEa.out j hj).1)) (fun j hj=>hj)
     have HNVb:aa (eZ (fun j=>O j\/(w7.heap.size<=j/\j<Wb.heap.size)) Wb nvb d.owners):=kJ (by rw[Nat.zero_add]) hown (Nat.le_refl _)
     have HRb:aa (ah Wb A rv):=HA7.out.new HBb.out
     clear hown hgr
     refine hK.out _ Wb HRb.out (fun hHeld=>?_)
     clear hK K
     try simp only[Act.put,ps]
     refine ts 8 (.slice la2 d.lots.length lc2) hHeld ?_
     try simp only[Act.put,ps]
     refine ts 9 (nvb) hHeld ?_
     try simp only[Act.put,ps]
     refine ts 10 (.int .i64 cq) hHeld ?_
     try simp only[Act.put,ps]
     refine wpAnyH_done (by kernel_rfl) ?_ _
     clear hHeld
     apply_assumption
     go_wp2_with fail
     go_meet
     case rel=>exact⟨_,_,lot,cq,rfl,rfl,rfl,rfl,by rw[HSE.out.1,<-HNO.out],by rw[HSE.out.2.1],_,⟨by rw[HSE.out.2.2.2.2.1,HCQ.out],fun _ o h=>by rw[HSE.out.2.2.2.2.2] at h;cases h⟩,by rw[HSE.out.2.2.2.1];exact HLV2.out,HL7.out.more HBb.out,by rw[HSE.out.2.2.1];exact HNVb.out⟩
    ·obtain⟨lt,hlt2⟩:=nm (d.lot)
     have c2:w7.cell? ⟨A,2,none⟩=some (.int .i64 lt):=by have:=HA7.out.lot;rw[HRT.out.2.1,<-hlt2] at this;exact this
     have HREL:aa (s.outs=st.outs/\s.ended=false/\s.owners=st.owners/\s.scene=st.scene/\pi s lt carr):=by
      rw[aa,HE.out,hst]
      exact⟨rfl,HEN.out.symm,rfl,rfl,HT.out.carr,fun _ o h=>by obtain rfl:=Option.some.inj h;exact hlt2⟩
     rw[hk1] at c0
     clear hk1 hp hst hlt2
     go_wp2_with fail
     go_meet
     case rel=>exact⟨_,_,lt,carr,rfl,rfl,rfl,rfl,by rw[HREL.out.1,<-HNO.out],by rw[HREL.out.2.1],O,HREL.out.2.2.2.2,by rw[HREL.out.2.2.2.1];exact HLV.out,HL7.out,by rw[HREL.out.2.2.1];exact HNV7.out⟩
    ·have HREL:aa (s.outs=st.outs/\s.ended=false/\s.owners=st.owners/\s.scene=st.scene/\pi s lot carr):=by
      rw[aa,HE.out,hst]
      exact⟨rfl,HEN.out.symm,rfl,rfl,HT.out.carr,fun _ o' h=>by obtain rfl:=Option.some.inj h;exact HT.out.op HEN.out.symm o hop⟩
     rw[hk1] at c0
     clear hk1 hp hst hop
     go_wp2_with fail
     go_meet
     case rel=>exact⟨_,_,lot,carr,rfl,rfl,rfl,rfl,by rw[HREL.out.1,<-HNO.out],by rw[HREL.out.2.1],O,HREL.out.2.2.2.2,by rw[HREL.out.2.2.2.1];exact HLV.out,HL7.out,by rw[HREL.out.2.2.1];exact HNV7.out⟩
    ·have HREL:aa (s.outs=st.outs/\s.ended=false/\s.owners=st.owners/\s.scene=st.scene/\pi s lot carr):=by
      rw[aa,HE.out,hst]
      exact⟨rfl,HEN.out.symm,rfl,rfl,HT.out.carr,fun _ o' h=>by obtain rfl:=Option.some.inj h;exact HT.out.op HEN.out.symm o hop⟩
     rw[hk1] at c0
     clear hk1 hp hst hop
     go_wp2_with fail
     go_meet
     case rel=>exact⟨_,_,lot,carr,rfl,rfl,rfl,rfl,by rw[HREL.out.1,<-HNO.out],by rw[HREL.out.2.1],O,HREL.out.2.2.2.2,by rw[HREL.out.2.2.2.1];exact HLV.out,HL7.out,by rw[HREL.out.2.2.1];exact HNV7.out⟩
    ·have hlo:=HT.out.op HEN.out.symm o hop
     have hol:=(HWF.out.opn o hop).1
     have hlens:=HWF.out.lens
     obtain⟨lt,hlt2⟩:∃q:Nat,o.lot=q:=Int.eq_ofNat_of_zero_le hol.1
     obtain⟨nl,hnl⟩:=nm (st.scene.lots.length)
     have hltn:lt<nl:=by omega
     rw[hlt2] at hlo
     subst hlo
     have hrq:=HWF.out.reqs lt (by omega)
     obtain⟨sq,hsq⟩:∃q:Nat,(st.scene.lots.getD lt (0,0)).1=q:=Int.eq_ofNat_of_zero_le hrq.1
     obtain⟨m,hm2⟩:=nm (st.owners.length)
     have hsm:sq<m:=by omega
     have hm64:m<=64:=by rw[hm2];exact HWF.out.nown
     have hnl16:nl<=16:=by rw[hnl];exact HWF.out.nlots
     obtain⟨la2,lc2,e9,hlc,hrow⟩:=HLV.out w7 HL7.out.rows
     rw[<-hnl] at e9 hlc hrow
     obtain⟨lb2,lo2,ela,hlb2,hcl⟩:=hrow (by omega)
     have cl:=(hcl lt hltn).1
     rw[hsq] at cl
     obtain⟨gn,ncap,e10,hOg,cn,fn⟩:=HNV7.out.cell sq (by omega)
     rw[<-hm2] at e10
     obtain⟨xo,hxo⟩:=nm (st.owners.getD sq 0)
     rw[<-hxo] at cn
     obtain⟨sv,hsv⟩:=nm (d.state)
     obtain⟨wv,hwv⟩:=nm (d.winner)
     have c40:w7.cell? ⟨A,40,none⟩=some (.int .i64 sv):=by have:=HA7.out.state;rw[HRT.out.2.2.1,<-hsv] at this;exact this
     have c41:w7.cell? ⟨A,41,none⟩=some (.int .i64 wv):=by have:=HA7.out.winner;rw[HRT.out.2.2.2.1,<-hwv] at this;exact this
     have HLO:aa (s.outs.length=no + 1/\s.ended=false/\s.scene=st.scene/\pi s lt carr):=by
      rw[aa,HE.out,hst]
      exact⟨by show (st.outs++_).length=_;rw[List.length_append,HNO.out];rfl,HEN.out.symm,rfl,HT.out.carr,fun _ o' h=>by cases h⟩
     have HOW:aa (s.owners=if sv=2 then st.owners.set sq wv else st.owners):=by
      rw[aa,HE.out,hst,hsv,hwv]
      show (if d.state=2 then st.owners.set (st.req o.lot.toNat) d.winner else st.owners)=_
      rw[MSt.req,hlt2,Int.toNat_natCast,hsq,Int.toNat_natCast]
     have hwno:IntKind.i64.wrap ((no:Int) + 1)=((no + 1:Nat):Int):=by have:=HNO6.out;rw[IntWalk.i64_in _ (by omega)];rfl
     have b1:decide ((lt:Int)<0)=false:=decide_eq_false (by omega)
     have b1':¬(lt:Int)<0:=by omega
     have b2:decide ((nl:Int)<=lt)=false:=decide_eq_false (by omega)
     have b2':¬(nl:Int)<=lt:=by omega
     have b3:decide ((sq:Int)<0)=false:=decide_eq_false (by omega)
     have b3':¬(sq:Int)<0:=by omega
     have b4:decide ((m:Int)<=sq)=false:=decide_eq_false (by omega)
     have b4':¬(m:Int)<=sq:=by omega
     have b5:(lt:Int)<nl:=by omega
     have b6:(sq:Int)<m:=by omega
     have HIP:aa (sq<st.owners.length/\m=st.owners.length):=⟨by omega,hm2⟩
     have HOG:=ac hOg
     have HE10:=ac e10
     subst ela
     rw[hk1] at c0
     rw[e9,e10]
     clear hk1 hp hst hop hol hlens hlt2 hnl hrq hsq hm2 hlc hrow hcl hxo hsv hwv hlb2 hOg
     by_cases h2:sv=2
     ·subst h2
      have HNX:aa (eZ O (w7.setCell ⟨gn,sq,none⟩ (.int .i64 wv)) (.slice (some ⟨gn,0,none⟩) m ncap) s.owners):=by
       rw[aa,HOW.out,if_pos rfl]
       have h:=HNV7.out
       rw[HE10.out] at h
       exact h.put HIP.out.2 sq HIP.out.1 wv
      have HLX:aa (dN O w w3 B p (k + 1) s (w7.setCell ⟨gn,sq,none⟩ (.int .i64 wv))):=HL7.out.put ((am.refl _ _).setCell (p:=⟨gn,sq,none⟩) (.inr (fun h=>h HOG.out)) _)
      have HLV2:aa (∀ W,am (fun k=>B<=k/\k<w3.heap.size) w3 W->cZ W (.slice (some ⟨lb2,lo2,none⟩) nl lc2) st.scene.lots):=by rw[<-e9];exact HLV.out
      clear e9 e10
      go_wp2_with fail
      go_meet
      case rel=>exact⟨_,_,_,carr,rfl,rfl,rfl,rfl,by rw[HLO.out.1];rfl,by rw[HLO.out.2.1],O,HLO.out.2.2.2,by rw[HLO.out.2.2.1];exact HLV2.out,HLX.out,HNX.out⟩
     ·have hb2:(sv==2)=false:=by simpa using h2
      have HNX:aa (eZ O w7 (.slice (some ⟨gn,0,none⟩) m ncap) s.owners):=by
       rw[aa,HOW.out,if_neg h2,<-e10]
       exact HNV7.out
      have HLV2:aa (∀ W,am (fun k=>B<=k/\k<w3.heap.size) w3 W->cZ W (.slice (some ⟨lb2,lo2,none⟩) nl lc2) st.scene.lots):=by rw[<-e9];exact HLV.out
      clear e9 e10 h2
      go_wp2_with fail
      go_meet
      case rel=>exact⟨_,_,_,carr,rfl,rfl,rfl,rfl,by rw[HLO.out.1];rfl,by rw[HLO.out.2.1],O,HLO.out.2.2.2,by rw[HLO.out.2.2.1];exact HLV2.out,HL7.out,HNX.out⟩
    ·have hk6:d.kind=6:=by
      have:=dW HMY.out
      omega
     have HREL:aa (s.outs=st.outs/\s.ended=true/\s.owners=st.owners/\s.scene=st.scene/\pi s lot carr):=by
      rw[aa,HE.out,hst]
      exact⟨rfl,rfl,rfl,rfl,HT.out.carr,fun h=>by cases h⟩
     rw[hk6] at c0
     clear hk1 hp hst hk6
     go_wp2_with fail
     go_meet
     case rel=>exact⟨_,_,lot,carr,rfl,rfl,rfl,rfl,by rw[HREL.out.1,<-HNO.out],by rw[HREL.out.2.1],O,HREL.out.2.2.2.2,by rw[HREL.out.2.2.2.1];exact HLV.out,HL7.out,by rw[HREL.out.2.2.1];exact HNV7.out⟩
   case rest=>
    obtain⟨lv2,nv2,lot2,carr2,rfl,rfl,rfl,rfl,rfl,rfl,HMD⟩:=hcut
    obtain⟨Q1,hT,hLV,hL,hNV⟩:=HMD.out
    have HT2:=ac hT
    have HLV2:=ac hLV
    have HL8:=ac hL
    have HNV8:=ac hNV
    have HWS:aa s.Wf:=hL.wf
    obtain⟨ns,hns⟩:=nm (s.outs.length)
    obtain⟨es,hes⟩:=nm (s.ended)
    have HNS:=ac hns
    have HES:=ac hes
    rw[<-hns,<-hes]
    clear hT hLV hL hNV HMD HL7 HA7 HNV7 hns hes
    clear HT HLV
    go_wp2_with fail
    refine HL8.out.owners.mono ?_
    rintro e w9 ⟨⟨u,rfl,hu⟩,hb9⟩
    have HL9:=ac (HL8.out.more hb9)
    have HNV9:aa (eZ Q1 w9 nv2 s.owners):=HNV8.out.keeps (ak hb9 (fun _=>True)) (fun _ _=>trivial)
    have HNQ:aa (∀ j,wc.heap.size<=j->¬Q1 j):=fun j hj hq=>absurd (HL8.out.osz j hq) (Nat.not_lt.2 hj)
    have HU9:=ac hu
    clear hu hb9 HL8 HNV8
    go_wp2_with fail
    refine (vO u nv2 s.owners (by have:=HWS.out.nown;omega) w9 HU9.out.row HNV9.out.row).mono ?_
    rintro e wA ⟨rfl,hbA⟩
    have HLA:=ac (HL9.out.new hbA)
    have HNVA:aa (eZ Q1 wA nv2 s.owners):=HNV9.out.keeps (ak hbA (fun _=>True)) (fun _ _=>trivial)
    have HUA:=ac (HU9.out.keeps (ak hbA (fun _=>True)) (fun _ _=>trivial))
    clear hbA HL9 HNV9 HU9
    go_wp2_with fail
    refine (HLA.out.outs (by omega)).mono ?_
    rintro e wB ⟨⟨oa3,oc3,rfl⟩,hbB⟩
    have HLB:=ac (HLA.out.new hbB)
    have HNVB:aa (eZ Q1 wB nv2 s.owners):=HNVA.out.keeps (ak hbB (fun _=>True)) (fun _ _=>trivial)
    have HUB:=ac (HUA.out.keeps (ak hbB (fun _=>True)) (fun _ _=>trivial))
    rw[<-HNS.out]
    have hnn:((ns:Int) !=ns)=false:=by simp
    clear hbB HLA HNVA HUA
    go_wp2_with fail
    refine HLB.out.ended.mono ?_
    rintro e wC ⟨rfl,hbC⟩
    rw[<-HES.out]
    have hnb:(es !=es)=false:=by simp
    obtain⟨ua,ucap,eu,_⟩:=HUB.out.form
    obtain⟨m,hm⟩:=nm (s.owners.length)
    obtain⟨Q2,hQ2⟩:∃Q:Nat->Prop,Q=fun j=>Q1 j\/(wc.heap.size<=j/\j<w9.heap.size):=⟨_,rfl⟩
    have HIN:aa (yB Q2 Q1 B p (k + 1) w w3 s nv2 ua m 0 wC):=by
     refine⟨by rw[hQ2];exact HLB.out.new hbC,HNVB.out.keeps (ak hbC (fun _=>True)) (fun _ _=>trivial),fun h0=>?_⟩
     obtain⟨g,cap,cur,e,hg,_,_,hh,_,hx⟩:=(HUB.out.keeps (ak hbC (fun _=>True)) (fun _ _=>trivial)).cur (by omega)
     rw[eu] at e
     obtain⟨ea,_,_⟩:=Value.slice.inj e
     have hg:=hg.resolve_left (fun h=>h)
     exact⟨g,cur,ea,by rw[hQ2];exact .inr hg,HNQ.out g hg.1,hh,fun i _ hi=>hx i (by omega)⟩
    have HQ2:aa (∀ j,Q1 j->Q2 j):=by rw[hQ2];exact fun _ h=>.inl h
    have HMM:=ac hm
    rw[eu,<-hm]
    have hm64:m<=64:=by rw[hm];exact HWS.out.nown
    clear eu hm hQ2 hbC HLB HNVB HUB HNQ
    go_wp2_with fail
    go_loopg [20] m (fun g v20 wi=>∃j:Nat,j<=m/\v20=.int .i64 j/\m - j<=g/\aa (yB Q2 Q1 B p (k + 1) w w3 s nv2 ua m j wi))
    case atStart=>exact⟨0,Nat.zero_le _,rfl,by omega,HIN.out⟩
    case round=>
     clear HIN
     obtain⟨j,hjm,rfl,hgj,HI⟩:=hrel
     by_cases hj:j<m
     ·have hji:(j:Int)<m:=by omega
      obtain⟨h1,h2,h3⟩:=HI.out
      obtain⟨g,cur,rfl,hO,hO',hh,hc⟩:=h3 hj
      obtain⟨x,hx⟩:=nm (s.owners.getD j 0)
      have cx:wr.cell? ⟨g,j,none⟩=some (.int .i64 x):=by rw[aq hh,hx];exact hc j (Nat.le_refl _) hj
      have fx:=aL hh j
      have hxb:0<=x/\x<carr2:=by
       rw[HT2.out.carr,hx]
       exact HWS.out.own _ ((da s.owners _).2 ⟨j,by rw[<-HMM.out];exact hj,rfl⟩)
      have b1:decide (x<0)=false:=decide_eq_false (by omega)
      have b1':¬x<0:=by omega
      have b2:decide (carr2<=x)=false:=decide_eq_false (by omega)
      have b2':¬carr2<=x:=by omega
      have HST:=ac (HI.out.step hj (.int .i64 (-1)))
      have HME:aa (∀ q,m - j<=q->m - (j + 1)<q):=fun q h=>by omega
      clear h1 h2 h3 hO hO' hh hc hx hxb HI
      go_wp2_with fail
      go_roundg (m - (j + 1))
      case measure=>exact HME.out _ hgj
      case rel=>exact⟨j + 1,hj,by go_num,Nat.le_refl _,HST.out⟩
     ·have hji:¬(j:Int)<m:=by omega
      clear hj hgj
      go_wp2_with fail
      go_roundg (n - (k + 1))
      case measure=>exact HM.out.1
      case rel=>exact⟨k + 1,lv2,nv2,lot2,carr2,s,HM.out.2,rfl,rfl,rfl,rfl,by go_num,Nat.le_refl _,Q1,HT2.out,HLV2.out,HI.out.1.less HQ2.out,HI.out.2.1⟩
  ·have hki:¬(k:Int)<n:=by omega
   go_wp2_with fail
   go_ret
   exact⟨rfl,HL.out.bel⟩
