/- The document's block, walked. -/
import Derived.Test.YtfnekbfcndkjeaaGreatDoorZHsh8
import Derived.Test.YtfnekbfcndkjeaaGreatDoorZSlc
import Derived.Laws.CopyOwn
set_option maxHeartbeats 1000000
set_option maxRecDepth 100000
set_option linter.all false
namespace Go.Proofs.YtfnekbfcndkjeaaGreatDoor
open Go.Proofs.Tryz Go.RowKit
def eR (z:S8):Array Value:=#[.int .u32 z.a,.int .u32 z.b,.int .u32 z.c,.int .u32 z.d,.int .u32 z.e,.int .u32 z.f,.int .u32 z.g,.int .u32 z.h]
def yF (K:Nat->Int) (g lo:Nat) (w:World):Prop:=g<w.heap.size/\∀j,j<64->w.cell? ⟨g,lo + j,none⟩=some (.int .u32 (K j))
theorem yF.on {K:Nat->Int} {g lo:Nat} {w w':World} (h:yF K g lo w) (hb:Below w.heap.size w w'):yF K g lo w':=
 ⟨Nat.lt_of_lt_of_le h.1 hb.size,fun j hj=>(hb.cell (p:=⟨g,lo + j,none⟩) h.1).trans (h.2 j hj)⟩
theorem yF.words {B:Nat->Int} {base:Nat} {E:TypeId} {w:World} {v:Value} (h:w.ownsRow base E 1 v 64 ((bJ B 64).map (Value.int .u32))):∃g cap,v=.slice (some ⟨g,0,none⟩) 64 cap/\yF (wd B) g 0 w:=by
 obtain⟨a,cap,e,_,hx⟩:=az h
 obtain⟨g,rfl,_,hg,hj⟩:=hx (by omega)
 refine⟨g,cap,e,hg,fun j hjl=>?_⟩
 rw[Nat.zero_add]
 refine hj j _ ?_
 rw[List.getElem?_map,iM B 64 j hjl]
 rfl
theorem br {b:Nat} {z:S8} {w:World} {t:TypeId} {fr:Nat × Nat} (h:w.heap[b]?=some (.cells (eR z) t fr)) (j:Nat) (hj:j<8):w.cell? ⟨b,j,none⟩=some (.int .u32 (z.get j)):=by
 rw[aq h,eR]
 exact mH z j hj
theorem AM (a b c d e f g h:Int) (w:World):(Instr.build 173 #[(0,.int .u32 a),(1,.int .u32 b),(2,.int .u32 c),(3,.int .u32 d),(4,.int .u32 e),(5,.int .u32 f),(6,.int .u32 g),(7,.int .u32 h)]).run prog w=.ok (.agg #[.int .u32 a,.int .u32 b,.int .u32 c,.int .u32 d,.int .u32 e,.int .u32 f,.int .u32 g,.int .u32 h]) w:=by kernel_rfl
theorem AN (a b c d e f g h:Int):(#[.int .u32 a,.int .u32 b,.int .u32 c,.int .u32 d,.int .u32 e,.int .u32 f,.int .u32 g,.int .u32 h]:Array Value).all (·.oneCell')=true:=by simp[Value.oneCell']
theorem zD (e:Int) (he:0<=e/\e<=4294967295):bits .xor .u32 IntKind.u32.max e=4294967295 - e:=by
 obtain⟨e,rfl,ke⟩:=j9 e he
 have h:=u32_xor_nat 4294967295 e (by decide) ke
 have hm:IntKind.u32.max=((4294967295:Nat):Int):=by decide
 rw[hm,h]
 have:4294967295 ^^^ e=4294967295 - e:=by
  apply Nat.eq_of_testBit_eq
  intro i
  rw[Nat.testBit_xor,tY e i ke,show (4294967295:Nat)=2 ^ 32 - 1 by decide,Nat.testBit_two_pow_sub_one]
  by_cases hi:i<32
  ·simp[hi]
  ·rw[kR e i ke hi];simp[hi]
 rw[this]
 omega
theorem vh (st:S8) (hst:st.ok) (blk:ByteArray) (g lo cap:Nat) (hcap:64<=cap) (K:Nat->Int) (kb ko kc:Nat) (w:World) (hb:o4 blk g lo w) (hk:yF K kb ko w):
  Calls prog 114 #[.agg (eR st),.slice (some ⟨g,lo,none⟩) 64 cap,.slice (some ⟨kb,ko,none⟩) 64 kc] w fun e w'=>e=.returned (.agg (eR (em K st blk)))/\Below w.heap.size w w':=by
 obtain⟨R,hR⟩:∃R,R=em K st blk:=⟨_,rfl⟩
 rw[<-hR]
 have HRR:=ac hR
 clear hR
 have HST:=ac hst
 have HBK:=ac hb
 have HKR:=ac hk
 have HCAP:=ac hcap
 clear hst hb hcap hk
 go_enter func114,ntmps114
 go_wp2_with fail
 obtain⟨b,hb⟩:∃x,x=w.heap.size:=⟨_,rfl⟩
 obtain⟨w0,hw0⟩:∃x,x=(w.alloc (.cells (eR st) 173)).alloc (.cells #[.int .u32 0,.int .u32 0,.int .u32 0,.int .u32 0,.int .u32 0,.int .u32 0,.int .u32 0,.int .u32 0] 173):=⟨_,rfl⟩
 have HB0:aa (Below w.heap.size w w0):=by rw[hw0];exact aD (af _ _) (af _ _)
 have HS0:aa (w0.heap[b]?=some (.cells (eR st) 173 (0,0))):=by
  rw[hw0,hb]
  exact au (ax w _) (af _ _)
 have HR0:aa (w0.heap[b + 1]?=some (.cells #[.int .u32 0,.int .u32 0,.int .u32 0,.int .u32 0,.int .u32 0,.int .u32 0,.int .u32 0,.int .u32 0] 173 (0,0))):=by
  rw[aa,hw0,hb,show w.heap.size + 1=(w.alloc (.cells (eR st) 173)).heap.size by simp]
  exact ax _ _
 rw[<-hw0,<-hb]
 have HBW:=ac hb
 clear hw0 hb
 refine (vg blk g lo cap HCAP.out w0 (HBK.out.on HB0.out)).mono ?_
 rintro e w1 ⟨v,rfl,ho,hb1⟩
 rw[bE] at ho
 obtain⟨wb,wc,rfl,hwa⟩:=yF.words ho
 have HWA:=ac hwa
 have HB1:aa (Below w.heap.size w w1):=aD HB0.out hb1
 have HS1:=ac (au HS0.out hb1)
 have HR1:=ac (au HR0.out hb1)
 have HKR1:=ac (HKR.out.on HB1.out)
 clear hb1 ho hwa HS0 HR0 HB0 HKR
 have c0:=br HS1.out 0 (by omega)
 have c1:=br HS1.out 1 (by omega)
 have c2:=br HS1.out 2 (by omega)
 have c3:=br HS1.out 3 (by omega)
 have c4:=br HS1.out 4 (by omega)
 have c5:=br HS1.out 5 (by omega)
 have c6:=br HS1.out 6 (by omega)
 have c7:=br HS1.out 7 (by omega)
 simp only[S8.get] at c0 c1 c2 c3 c4 c5 c6 c7
 go_wp2_with fail
 clear c0 c1 c2 c3 c4 c5 c6 c7
 obtain⟨X,hX⟩:∃x,x=w1.heap.size:=⟨_,rfl⟩
 obtain⟨w2,hw2⟩:∃x,x=w1.alloc (.cells #[.int .u32 st.a,.int .u32 st.b,.int .u32 st.c,.int .u32 st.d,.int .u32 st.e,.int .u32 st.f,.int .u32 st.g,.int .u32 st.h] 173):=⟨_,rfl⟩
 have HX2:aa (w2.heap[X]?=some (.cells (eR st) 173 (0,0))):=by rw[hw2,hX];exact ax _ _
 have HB2:aa (Below w1.heap.size w1 w2):=by rw[hw2];exact af _ _
 have HXW:=ac hX
 rw[<-hw2,<-hX]
 obtain⟨B,hB⟩:∃B,B=wd (bf blk):=⟨_,rfl⟩
 rw[<-hB] at HWA
 have HBE:=ac hB
 clear hX hw2 hB
 go_loopg [9] 64 (fun gk v9 wr=>∃(t:Nat) (z:S8),v9=.int .i64 t/\t<=64/\64 - t<=gk/\aa (z=mF K B st t)/\aa (wr.heap[X]?=some (.cells (eR z) 173 (0,0)))/\aa (Below w1.heap.size w1 wr))
 case atStart=>exact⟨0,st,rfl,by omega,by omega,rfl,HX2,HB2⟩
 case round=>
  clear HX2 HB2
  obtain⟨t,z,rfl,ht,hgk,HZ,HX,HB⟩:=hrel
  have HZO:aa z.ok:=by rw[aa,HZ.out];exact mG K B st HST.out t
  by_cases h64:t<64
  ·have hz64:(t:Int)<64:=by omega
   have HM:aa (64 - (t + 1)<gk/\t + 1<=64):=⟨by omega,by omega⟩
   have c0:=br HX.out 0 (by omega)
   have c1:=br HX.out 1 (by omega)
   have c2:=br HX.out 2 (by omega)
   have c3:=br HX.out 3 (by omega)
   have c4:=br HX.out 4 (by omega)
   have c5:=br HX.out 5 (by omega)
   have c6:=br HX.out 6 (by omega)
   have c7:=br HX.out 7 (by omega)
   have cw:=(HWA.out.on HB.out).2 t h64
   rw[Nat.zero_add] at cw
   have ck:=(HKR1.out.on HB.out).2 t h64
   have HZN:aa (mF K B st (t + 1)=i7 z (K t) (B t)):=by rw[aa,HZ.out];rfl
   obtain⟨k,hk⟩:∃x,x=K t:=⟨_,rfl⟩
   obtain⟨x,hx⟩:∃x,x=B t:=⟨_,rfl⟩
   rw[<-hk] at ck HZN
   rw[<-hx] at cw HZN
   have HXF:=HX.out
   obtain⟨za,zb,zc,zd,ze,zf,zg,zh⟩:=z
   simp only[S8.get] at c0 c1 c2 c3 c4 c5 c6 c7
   have HZB:aa ((0<=ze/\ze<=4294967295)/\(0<=zf/\zf<=4294967295)/\(0<=zg/\zg<=4294967295)/\(0<=za/\za<=4294967295)/\(0<=zb/\zb<=4294967295)/\(0<=zc/\zc<=4294967295)):=by
    obtain⟨a1,a2,a3,a4,a5,a6,a7,a8⟩:=HZO.out
    exact⟨a5,a6,a7,a1,a2,a3⟩
   have HXL:aa (X<wr.heap.size):=aK HXF
   have HXI:=ac HXF
   clear hk hx hgk ht HX HXF
   go_wp2_with fail
   go_quiet (fail)
   have hq:∀(g i:Nat) (v:Value),wr.cell? ⟨g,i,none⟩=some v->(wr.drewN nq).cell? ⟨g,i,none⟩=some v:=fun g i v h=>((ay wr nq).cell (aC h)).trans h
   replace c0:=hq _ _ _ c0
   replace c1:=hq _ _ _ c1
   replace c2:=hq _ _ _ c2
   replace c3:=hq _ _ _ c3
   replace c4:=hq _ _ _ c4
   replace c5:=hq _ _ _ c5
   replace c6:=hq _ _ _ c6
   replace c7:=hq _ _ _ c7
   replace cw:=hq _ _ _ cw
   replace ck:=hq _ _ _ ck
   have HB3:aa (Below w1.heap.size w1 (wr.drewN nq)):=ar w1 _ _ HB.out (ay _ _)
   have HX3:aa ((wr.drewN nq).heap[X]?=some (.cells (eR ⟨za,zb,zc,zd,ze,zf,zg,zh⟩) 173 (0,0))):=HXI.out
   have HXL3:aa (X<(wr.drewN nq).heap.size):=HXL.out
   clear hq HB HXI HXL
   generalize wr.drewN nq=w3 at c0 c1 c2 c3 c4 c5 c6 c7 cw ck HB3 HX3 HXL3 ⊢
   go_wp2_with fail
   obtain⟨ch,hch⟩:∃x,x=bits .xor .u32 (bits .and .u32 ze zf) (bits .and .u32 (bits .xor .u32 IntKind.u32.max ze) zg):=⟨_,rfl⟩
   obtain⟨mj,hmj⟩:∃x,x=bits .xor .u32 (bits .xor .u32 (bits .and .u32 za zb) (bits .and .u32 za zc)) (bits .and .u32 zb zc):=⟨_,rfl⟩
   rw[<-hch,<-hmj]
   have HCH:aa (ch=bits .xor .u32 zg (bits .and .u32 ze (bits .xor .u32 zf zg))):=by
    obtain⟨a1,a2,a3,_⟩:=HZB.out
    rw[aa,hch,zD ze a1]
    exact A4 ze zf zg a1 a2 a3
   have HMJ:aa (mj=bits .or .u32 (bits .and .u32 za zb) (bits .and .u32 zc (bits .or .u32 za zb))):=by
    obtain⟨_,_,_,a1,a2,a3⟩:=HZB.out
    rw[aa,hmj]
    exact AL za zb zc a1 a2 a3
   clear hch hmj
   go_quiet ((go_at_call 129;exact kq (xS _ _ _ (by simp))))
   have hq:∀(g i:Nat) (v:Value),w3.cell? ⟨g,i,none⟩=some v->(w3.drewN nq).cell? ⟨g,i,none⟩=some v:=fun g i v h=>((ay w3 nq).cell (aC h)).trans h
   replace c0:=hq _ _ _ c0
   replace c1:=hq _ _ _ c1
   replace c2:=hq _ _ _ c2
   replace c3:=hq _ _ _ c3
   replace c4:=hq _ _ _ c4
   replace c5:=hq _ _ _ c5
   replace c6:=hq _ _ _ c6
   have HB4:aa (Below w1.heap.size w1 (w3.drewN nq)):=ar w1 _ _ HB3.out (ay _ _)
   have HX4:aa ((w3.drewN nq).heap[X]?=some (.cells (eR ⟨za,zb,zc,zd,ze,zf,zg,zh⟩) 173 (0,0))):=HX3.out
   clear hq HB3 HX3
   clear c7 cw ck
   have HXL4:aa (X<(w3.drewN nq).heap.size):=HXL3.out
   generalize w3.drewN nq=w4 at c0 c1 c2 c3 c4 c5 c6 HB4 HX4 HXL4 ⊢
   go_upto_region 11 with (go_at_call 129;refine (xS _ _ _ (by simp)).mono ?_;rintro e w5 ⟨rfl,rfl⟩)
   obtain⟨p1,hp1⟩:∃p,p=(zh + bits .xor .u32 (bits .xor .u32 (cL 6 ze) (cL 11 ze)) (cL 25 ze) + ch + k + x) % 4294967296:=⟨_,rfl⟩
   obtain⟨p2,hp2⟩:∃p,p=(bits .xor .u32 (bits .xor .u32 (cL 2 za) (cL 13 za)) (cL 22 za) + mj) % 4294967296:=⟨_,rfl⟩
   rw[<-hp1,<-hp2]
   have HP:aa (i7 ⟨za,zb,zc,zd,ze,zf,zg,zh⟩ k x=⟨(p1 + p2) % 4294967296,za,zb,zc,(zd + p1) % 4294967296,ze,zf,zg⟩):=by
    have e1:vX ⟨za,zb,zc,zd,ze,zf,zg,zh⟩ k x=p1:=by rw[hp1,HCH.out];rfl
    have e2:yK ⟨za,zb,zc,zd,ze,zf,zg,zh⟩=p2:=by rw[hp2,HMJ.out];rfl
    rw[aa,i7,e1,e2]
   have kw1:IntKind.u32.wrap (p1 + p2)=(p1 + p2) % 4294967296:=IntKind.wrap_u32 _
   have kw2:IntKind.u32.wrap (zd + p1)=(zd + p1) % 4294967296:=IntKind.wrap_u32 _
   have hi8:(prog.info? 173).map (·.size)=some 8:=by kernel_rfl
   clear hp1 hp2
   go_wp2_with (first
    | (refine aQ rfl 173 _ rfl [(0,.int .u32 ((p1 + p2) % 4294967296)),(1,.int .u32 za),(2,.int .u32 zb),(3,.int .u32 zc),(4,.int .u32 ((zd + p1) % 4294967296)),(5,.int .u32 ze),(6,.int .u32 zf),(7,.int .u32 zg)] rfl _ (AM _ _ _ _ _ _ _ _ _) ?_)
    | (refine wpList_store_row rfl _ _ _ rfl X #[.int .u32 ((p1 + p2) % 4294967296),.int .u32 za,.int .u32 zb,.int .u32 zc,.int .u32 ((zd + p1) % 4294967296),.int .u32 ze,.int .u32 zf,.int .u32 zg] rfl rfl 173 _ HX4.out hi8 rfl (AN _ _ _ _ _ _ _ _) ?_)
    | fail)
   have HX5:aa ((w4.setRow X #[.int .u32 ((p1 + p2) % 4294967296),.int .u32 za,.int .u32 zb,.int .u32 zc,.int .u32 ((zd + p1) % 4294967296),.int .u32 ze,.int .u32 zf,.int .u32 zg]).heap[X]?=some (.cells (eR (i7 ⟨za,zb,zc,zd,ze,zf,zg,zh⟩ k x)) 173 (0,0))):=by
    rw[HP.out]
    exact setRow_heap w4 X _ _ _ _ HX4.out
   have HB5:aa (Below w1.heap.size w1 (w4.setRow X #[.int .u32 ((p1 + p2) % 4294967296),.int .u32 za,.int .u32 zb,.int .u32 zc,.int .u32 ((zd + p1) % 4294967296),.int .u32 ze,.int .u32 zf,.int .u32 zg])):=below_setRow HB4.out (by rw[HXW.out];exact Nat.le_refl _) _
   clear HX4 HB4 c0 c1 c2 c3 c4 c5 c6 kw1 kw2
   go_wp2_with fail
   go_roundg (64 - (t + 1))
   case measure=>exact HM.out.1
   case rel=>exact⟨t + 1,i7 ⟨za,zb,zc,zd,ze,zf,zg,zh⟩ k x,by go_num,HM.out.2,by omega,HZN.out.symm,HX5,HB5⟩
  ·have hz64:¬(t:Int)<64:=by omega
   obtain rfl:t=64:=by omega
   have HF:aa (pk st z=R):=by
    rw[aa,HZ.out,HBE.out,HRR.out]
    exact oz K st blk 64 rfl
   have HS:=ac (au HS1.out HB.out)
   have HR:=ac (au HR1.out HB.out)
   have HBw:aa (Below w.heap.size w wr):=aD HB1.out HB.out
   have hbX:b≠X:=by have:=aK HS1.out;rw[HXW.out];omega
   have HA0:aa (il b 0 st z wr):=fun j hj=>⟨by rw[if_neg (by omega)];exact br HS.out j hj,aL HS.out j⟩
   have HXC:aa (∀ j,j<8->wr.cell? ⟨X,j,none⟩=some (.int .u32 (z.get j))):=fun j hj=>br HX.out j hj
   clear HZ ht hgk h64 HB HS HX
   go_wp2_with fail
   have HK0:aa (Below w.heap.size w wr):=HBw
   go_loopg [16] 8 (fun gk v16 wr=>∃i:Nat,v16=.int .i64 i/\i<=8/\8 - i<=gk/\aa (il b i st z wr)/\aa (∀ j,j<8->wr.cell? ⟨X,j,none⟩=some (.int .u32 (z.get j)))/\aa (wr.heap[b + 1]?=some (.cells #[.int .u32 0,.int .u32 0,.int .u32 0,.int .u32 0,.int .u32 0,.int .u32 0,.int .u32 0,.int .u32 0] 173 (0,0)))/\aa (Below w.heap.size w wr))
   case atStart=>exact⟨0,rfl,by omega,by omega,HA0,HXC,HR,HK0⟩
   case round=>
    clear HA0 HXC HR HK0 HBw
    obtain⟨i,rfl,hi,hgk,HA,HXC,HR,HBw⟩:=hrel
    by_cases h8:i<8
    ·have hz8:(i:Int)<8:=by omega
     have c0:=(HA.out i h8).1
     have f0:=(HA.out i h8).2
     have c1:=HXC.out i h8
     rw[if_neg (by omega)] at c0
     have HG:=ac (qe st z i h8)
     obtain⟨y,hy⟩:∃x,x=st.get i:=⟨_,rfl⟩
     obtain⟨x,hx⟩:∃x,x=z.get i:=⟨_,rfl⟩
     rw[<-hy] at c0 HG
     rw[<-hx] at c1 HG
     have HM:aa (8 - (i + 1)<gk/\i + 1<=8):=⟨by omega,by omega⟩
     have kw:IntKind.u32.wrap (y + x)=(y + x) % 4294967296:=IntKind.wrap_u32 _
     clear hy hx hgk hi
     go_upto_region 15 with fail
     go_still_tail 9,(by kernel_rfl)
     go_wp2_with fail
     have HA2:aa (il b (i + 1) st z ((wr.setCell ⟨b,i,none⟩ (.int .u32 ((y + x) % 4294967296))).drew)):=il.drew (HA.out.step h8 _ HG.out.symm)
     have HX2:aa (∀ j,j<8->((wr.setCell ⟨b,i,none⟩ (.int .u32 ((y + x) % 4294967296))).drew).cell? ⟨X,j,none⟩=some (.int .u32 (z.get j))):=fun j hj=>by
      refine Eq.trans ?_ (HXC.out j hj)
      exact World.cell?_setCell_other wr _ _ _ (by intro e;exact hbX (congrArg Addr.block e))
     have HR2:aa (((wr.setCell ⟨b,i,none⟩ (.int .u32 ((y + x) % 4294967296))).drew).heap[b + 1]?=some (.cells #[.int .u32 0,.int .u32 0,.int .u32 0,.int .u32 0,.int .u32 0,.int .u32 0,.int .u32 0,.int .u32 0] 173 (0,0))):=eA HR.out (by omega) _ _
     have HB2:aa (Below w.heap.size w ((wr.setCell ⟨b,i,none⟩ (.int .u32 ((y + x) % 4294967296))).drew)):=(HBw.out.setCell (p:=⟨b,i,none⟩) (by rw[HBW.out];exact Nat.le_refl _) _).drew
     clear c0 f0 c1 kw HA HXC HR HBw
     go_roundg (8 - (i + 1))
     case measure=>exact HM.out.1
     case rel=>exact⟨i + 1,by go_num,HM.out.2,by omega,HA2,HX2,HR2,HB2⟩
    ·have hz8:¬(i:Int)<8:=by omega
     obtain rfl:i=8:=by omega
     have cs:∀j,j<8->wr.cell? ⟨b,j,none⟩=some (.int .u32 (R.get j)):=fun j hj=>by
      have h:=(HA.out j hj).1
      rw[if_pos hj,HF.out] at h
      exact h
     clear HRR HF
     obtain⟨ra,rb,rc,rd,re,rf,rg,rh⟩:=R
     have c0:=cs 0 (by omega)
     have c1:=cs 1 (by omega)
     have c2:=cs 2 (by omega)
     have c3:=cs 3 (by omega)
     have c4:=cs 4 (by omega)
     have c5:=cs 5 (by omega)
     have c6:=cs 6 (by omega)
     have c7:=cs 7 (by omega)
     simp only[S8.get] at c0 c1 c2 c3 c4 c5 c6 c7
     have hi8:(prog.info? 173).map (·.size)=some 8:=by kernel_rfl
     obtain⟨ws,hws⟩:∃x,x=wr.setRow (b + 1) #[.int .u32 ra,.int .u32 rb,.int .u32 rc,.int .u32 rd,.int .u32 re,.int .u32 rf,.int .u32 rg,.int .u32 rh]:=⟨_,rfl⟩
     have hh:ws.heap[b + 1]?=some (.cells (eR ⟨ra,rb,rc,rd,re,rf,rg,rh⟩) 173 (0,0)):=by rw[hws];exact setRow_heap wr (b + 1) _ _ _ _ HR.out
     have HBs:aa (Below w.heap.size w ws):=by rw[hws];exact below_setRow HBw.out (by rw[HBW.out];omega) _
     have HWS:=ac hws
     clear cs hi hgk h8 HA HXC HBw hws
     go_wp2_with (first
      | (refine wpList_store_row rfl _ _ _ rfl (b + 1) #[.int .u32 ra,.int .u32 rb,.int .u32 rc,.int .u32 rd,.int .u32 re,.int .u32 rf,.int .u32 rg,.int .u32 rh] rfl rfl 173 _ HR.out hi8 rfl (AN _ _ _ _ _ _ _ _) ?_;rw[<-HWS.out])
      | fail)
     have hi8':(prog.info? 173).map (·.size)=some (eR ⟨ra,rb,rc,rd,re,rf,rg,rh⟩).size:=hi8
     exact bodyPost_ret (results_cell_row rfl _ _ (b + 1) 173 (eR ⟨ra,rb,rc,rd,re,rf,rg,rh⟩) (0,0) _ rfl hh underlying173 rfl hi8') rfl ⟨rfl,HBs.out⟩
