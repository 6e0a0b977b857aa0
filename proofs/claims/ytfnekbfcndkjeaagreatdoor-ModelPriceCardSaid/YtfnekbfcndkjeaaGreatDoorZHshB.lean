/- The document's sum, walked: it is the program's. -/
import Derived.Test.YtfnekbfcndkjeaaGreatDoorZHshA
import Derived.Test.YtfnekbfcndkjeaaGreatDoorZHsh9
set_option maxHeartbeats 1000000
set_option maxRecDepth 100000
set_option linter.all false
namespace Go.Proofs.YtfnekbfcndkjeaaGreatDoor
open Go.Proofs.Tryz Go.RowKit
def fY:S8:=⟨1779033703,3144134277,1013904242,2773480762,1359893119,2600822924,528734635,1541459225⟩
def i5 (j:Nat):Int:=(fH (jw 64 true)).getD j 0
theorem zE:fY.ok:=by unfold S8.ok fY;decide
theorem xT:∀j,j<8->(fH (jw 8 false)).getD j 0=fY.get j:=by rw[xQ];decide
def gE (D:Nat) (z:S8) (n:Nat) (w:World):Prop:=∃cs,w.heap[D]?=some (.cells cs 173 (0,0))/\cs.size=8/\∀j,j<n->cs[j]?=some (.int .u32 (z.get j))
theorem gE.set {D:Nat} {z:S8} {n:Nat} {w:World} (h:gE D z n w) (hn:n<8) (x:Int) (hx:x=z.get n):gE D z (n + 1) (w.setCell ⟨D,n,none⟩ (.int .u32 x)):=by
 obtain⟨cs,h1,h2,h3⟩:=h
 subst hx
 refine⟨_,heap_setCell_same w D n cs _ _ h1,by simpa using h2,fun j hj=>?_⟩
 rw[Array.getElem?_setIfInBounds]
 by_cases e:n=j
 ·rw[if_pos e,if_pos (by omega),e]
 ·rw[if_neg e]
  exact h3 j (by omega)
theorem gE.cell {D:Nat} {z:S8} {n:Nat} {w:World} (h:gE D z n w) (j:Nat) (hj:j<8):∃v,w.cell? ⟨D,j,none⟩=some v/\w.frozen? ⟨D,j,none⟩=false:=by
 obtain⟨cs,h1,h2,h3⟩:=h
 exact⟨cs[j]'(by omega),by rw[aq h1,Array.getElem?_eq_getElem (by omega)],aL h1 j⟩
theorem gE.full {D:Nat} {z:S8} {w:World} (h:gE D z 8 w):w.heap[D]?=some (.cells (eR z) 173 (0,0)):=by
 obtain⟨cs,h1,h2,h3⟩:=h
 rw[h1]
 have e:cs=eR z:=by
  refine Array.ext (by rw[h2];rfl) fun i hi1 hi2=>?_
  have h4:=h3 i (by omega)
  have h5:=mH z i (by omega)
  rw[Array.getElem?_eq_getElem hi1] at h4
  have h6:(eR z)[i]?=some (.int .u32 (z.get i)):=h5
  rw[Array.getElem?_eq_getElem hi2] at h6
  exact (Option.some.inj h4).trans (Option.some.inj h6).symm
 rw[e]
theorem zF (t:ByteArray):Bs (mr t):=by
 intro x hx
 rw[mr,List.mem_append] at hx
 rcases hx with hx | hx
 ·exact Bs.nums t x hx
 ·rw[gL,List.mem_append] at hx
  rcases hx with hx | hx
  ·rw[bQ,List.mem_cons] at hx
   rcases hx with rfl | hx
   ·omega
   ·rw[List.mem_replicate] at hx;omega
  ·simp only[dh,List.mem_cons,List.not_mem_nil,or_false] at hx
   omega
theorem gl.keeps {D:Nat} {z:S8} {n:Nat} {w w':World} {K:Nat->Prop} (h:gl D z n w) (hk:am K w w') (hK:K D):gl D z n w':=by
 obtain⟨cs,h1,h2,h3⟩:=h
 exact⟨cs,aw h1 hk hK,h2,h3⟩
theorem zG (t:ByteArray) (hts:t.size<=1000000000) (w:World):
  Calls prog 93 #[.string t] w fun e w'=>e=.returned (.agg (bL (jH i5 fY t)))/\Below w.heap.size w w':=by
 obtain⟨RES,hRES⟩:∃R,R=jH i5 fY t:=⟨_,rfl⟩
 rw[<-hRES]
 have HRES:=ac hRES
 have HTS:=ac hts
 clear hts hRES
 go_enter func93,ntmps93
 go_wp2_with fail
 rw[Bl]
 obtain⟨D,hD⟩:∃x,x=w.heap.size:=⟨_,rfl⟩
 obtain⟨w0,hw0⟩:∃x,x=(w.alloc (.cells (Array.replicate 32 (.int .u8 0)) 43)).alloc (.cells #[Value.int IntKind.u32 0,Value.int IntKind.u32 0,Value.int IntKind.u32 0,Value.int IntKind.u32 0,Value.int IntKind.u32 0,Value.int IntKind.u32 0,Value.int IntKind.u32 0,Value.int IntKind.u32 0] 173):=⟨_,rfl⟩
 have HB0:aa (Below w.heap.size w w0):=by rw[hw0];exact aD (af _ _) (af _ _)
 have HD0:aa (w0.heap[D]?=some (.cells (Array.replicate 32 (.int .u8 0)) 43 (0,0))):=by
  rw[hw0,hD]
  exact au (ax w _) (af _ _)
 have HS0:aa (gE (D + 1) fY 0 w0):=by
  rw[aa,hw0,hD,show w.heap.size + 1=(w.alloc (.cells (Array.replicate 32 (.int .u8 0)) 43)).heap.size by simp]
  exact⟨_,ax _ _,rfl,fun j hj=>by omega⟩
 rw[<-hw0,<-hD]
 have HDW:=ac hD
 clear hw0 hD
 refine (jR 8 (by omega) false (by rw[t6];decide) (by rw[t6];decide) w0).mono ?_
 rintro e w1 ⟨v,rfl,ho,hb1⟩
 have hl8:(fH (jw 8 false)).length=8:=by rw[xQ];rfl
 rw[hl8] at ho
 obtain⟨fa,fc,e0,_,hx⟩:=az ho
 obtain⟨fb,rfl,_,hfl,hfj⟩:=hx (by omega)
 subst e0
 have HF1:aa (fb<w1.heap.size/\∀j,j<8->w1.cell? ⟨fb,j,none⟩=some (.int .u32 (fY.get j))):=by
  refine⟨hfl,fun j hj=>hfj j _ ?_⟩
  rw[List.getElem?_map,List.getElem?_eq_getElem (by rw[hl8];exact hj)]
  have h:=xT j hj
  rw[List.getD_eq_getElem?_getD,List.getElem?_eq_getElem (by rw[hl8];exact hj)] at h
  exact congrArg (fun x=>some (Value.int .u32 x)) h
 have HB1:aa (Below w.heap.size w w1):=aD HB0.out hb1
 have HD1:aa (w1.heap[D]?=some (.cells (Array.replicate 32 (.int .u8 0)) 43 (0,0))):=au HD0.out hb1
 have HS1:aa (gE (D + 1) fY 0 w1):=by
  obtain⟨cs,h1,h2,h3⟩:=HS0.out
  exact⟨cs,au h1 hb1,h2,h3⟩
 have hne:fb≠D + 1:=by
  obtain⟨cs,h1,h2,h3⟩:=HS0.out
  have hl:=aK h1
  obtain⟨_,h4⟩:=ho
  rcases h4 with ⟨h5,_⟩ | ⟨g',_,_,h5,h6,_⟩
  ·cases h5
  ·cases h5;omega
 clear ho hb1 hx hfl hfj HB0 HD0 HS0 hl8
 go_wp2_with fail
 go_loopg [5] 8 (fun gk v5 wr=>∃i:Nat,v5=.int .i64 i/\i<=8/\8 - i<=gk/\aa (gE (D + 1) fY i wr)/\aa (fb<wr.heap.size/\∀j,j<8->wr.cell? ⟨fb,j,none⟩=some (.int .u32 (fY.get j)))/\aa (wr.heap[D]?=some (.cells (Array.replicate 32 (.int .u8 0)) 43 (0,0)))/\aa (Below w.heap.size w wr))
 case atStart=>exact⟨0,rfl,by omega,by omega,HS1,HF1,HD1,HB1⟩
 case round=>
  clear HS1 HF1 HD1 HB1
  obtain⟨i,rfl,hi,hgk,HS,HF,HD,HB⟩:=hrel
  by_cases h8:i<8
  ·have hz8:(i:Int)<8:=by omega
   have c0:=HF.out.2 i h8
   obtain⟨u,c1,f1⟩:=HS.out.cell i h8
   have HM:aa (8 - (i + 1)<gk/\i + 1<=8):=⟨by omega,by omega⟩
   have HX:aa (∀ x,x=fY.get i->gE (D + 1) fY (i + 1) (wr.setCell ⟨D + 1,i,none⟩ (.int .u32 x))):=fun x hx=>HS.out.set h8 x hx
   obtain⟨x,hx⟩:∃x,x=fY.get i:=⟨_,rfl⟩
   rw[<-hx] at c0
   have HS2:=ac (HX.out x hx)
   have HF2:aa (fb<(wr.setCell ⟨D + 1,i,none⟩ (.int .u32 x)).heap.size/\∀j,j<8->(wr.setCell ⟨D + 1,i,none⟩ (.int .u32 x)).cell? ⟨fb,j,none⟩=some (.int .u32 (fY.get j))):=⟨by rw[World.size_setCell];exact HF.out.1,fun j hj=>(World.cell?_setCell_other wr _ _ _ (by intro e;exact hne (congrArg Addr.block e).symm)).trans (HF.out.2 j hj)⟩
   have HD2:aa ((wr.setCell ⟨D + 1,i,none⟩ (.int .u32 x)).heap[D]?=some (.cells (Array.replicate 32 (.int .u8 0)) 43 (0,0))):=eA HD.out (by omega) _ _
   have HB2:aa (Below w.heap.size w (wr.setCell ⟨D + 1,i,none⟩ (.int .u32 x))):=HB.out.setCell (p:=⟨D + 1,i,none⟩) (by show w.heap.size<=D + 1;have:=HDW.out;omega) _
   clear hx hi hgk HX HS HF HD HB
   go_wp2_with fail
   go_roundg (8 - (i + 1))
   case measure=>exact HM.out.1
   case rel=>exact⟨i + 1,by go_num,HM.out.2,by omega,HS2,HF2,HD2,HB2⟩
  ·have hz8:¬(i:Int)<8:=by omega
   obtain rfl:i=8:=by omega
   have HSF:=ac HS.out.full
   clear hi hgk h8 HS HF
   go_wp2_with fail
   refine (jR 64 (by omega) true nJ.1 (by rw[nJ.2];omega) wr).mono ?_
   rintro e w2 ⟨v,rfl,ho,hb2⟩
   have hl64:(fH (jw 64 true)).length=64:=by rw[eF,jw,List.length_map,nJ.2]
   rw[hl64] at ho
   obtain⟨ka,kc,e0,_,hx⟩:=az ho
   obtain⟨kb,rfl,_,hkl,hkj⟩:=hx (by omega)
   subst e0
   have HK2:aa (yF i5 kb 0 w2):=by
    refine⟨hkl,fun j hj=>?_⟩
    rw[Nat.zero_add]
    refine hkj j _ ?_
    rw[List.getElem?_map,List.getElem?_eq_getElem (by rw[hl64];exact hj),i5,List.getD_eq_getElem?_getD,List.getElem?_eq_getElem (by rw[hl64];exact hj)]
    rfl
   have HSF2:=ac (au HSF.out hb2)
   have HD2:=ac (au HD.out hb2)
   have HB2:=ac (ar w _ _ HB.out hb2)
   have HKG:aa (D + 1<kb):=by
    have h1:=aK HSF.out
    obtain⟨_,h4⟩:=ho
    rcases h4 with ⟨h5,_⟩ | ⟨g',_,_,h5,h6,_⟩
    ·cases h5
    ·cases h5;rw[aa];omega
   clear ho hb2 hx hkl hkj HSF HD HB hl64
   go_wp2_with fail
   refine (zA t HTS.out w2).mono ?_
   rintro e w3 ⟨v,rfl,hr,hb3⟩
   have HK3:=ac (HK2.out.on hb3)
   have HS3:=ac (au HSF2.out hb3)
   have HD3:=ac (au HD2.out hb3)
   have HB3:=ac (ar w _ _ HB2.out hb3)
   obtain⟨pb,pc,rfl,hpg,hpl,hpc,_,hpj⟩:=hr
   have HPG:aa (D + 1<pb):=by have h1:=aK HSF2.out;rw[aa];omega
   clear hpg
   obtain⟨P,hP⟩:∃P,P=strOfNums (mr t):=⟨_,rfl⟩
   have hPl:(mr t).length=P.size:=by rw[hP,dz]
   have hP64:P.size % 64=0/\P.size<=1000001000:=by
    rw[<-hPl,ri]
    have:=HTS.out
    unfold cN
    omega
   have HPB:aa (pb<w3.heap.size/\∀j,j<P.size->w3.cell? ⟨pb,j,none⟩=some (.int .u8 (bf P j))):=by
    refine⟨hpl,fun j hj=>?_⟩
    rw[hpj j (by rw[hPl];exact hj),hP,gO,ku _ (zF t)]
   obtain⟨N,hN⟩:∃N,N=P.size / 64:=⟨_,rfl⟩
   have hPN:P.size=64 * N:=by omega
   have hNl:64 * N<=1000001000:=by omega
   have HRE:aa (RES=bN i5 fY P N):=by
    rw[aa,HRES.out,<-zB,<-hP,<-hN]
   rw[hPl,hPN] at hpc ⊢
   rw[hPN] at HPB
   clear hb3 hpj hpl hP hPl hP64 hN hPN HK2 HSF2 HD2 HB2 HRES
   go_wp2_with fail
   obtain⟨M,hM⟩:∃M,M=64 * N:=⟨_,rfl⟩
   rw[<-hM] at hpc HPB ⊢
   have HMN:=ac hM
   have HPC:=ac hpc
   have hM9:M<=1000001000:=by omega
   have HM9:=ac hM9
   clear hM hpc hM9 hNl
   go_loopg [8] N (fun gk v8 wr=>∃n i:Nat,v8=.int .i64 i/\i<=M/\aa (i=64 * n)/\N - n<=gk/\aa (wr.heap[D + 1]?=some (.cells (eR (bN i5 fY P n)) 173 (0,0)))/\aa (wr.heap[D]?=some (.cells (Array.replicate 32 (.int .u8 0)) 43 (0,0)))/\aa (yF i5 kb 0 wr)/\aa (pb<wr.heap.size/\∀j,j<M->wr.cell? ⟨pb,j,none⟩=some (.int .u8 (bf P j)))/\aa (Below w.heap.size w wr))
   case atStart=>exact⟨0,0,rfl,by omega,rfl,by omega,HS3,HD3,HK3,HPB,HB3⟩
   case round=>
    clear HS3 HD3 HK3 HPB HB3
    obtain⟨n,i,rfl,hi,HI,hgk,HS,HD,HK,HPB,HB⟩:=hrel
    by_cases hlt:i<M
    ·have hzi:(i:Int)<M:=by omega
     have hiM:i + 64<=M:=by have:=HI.out;have:=HMN.out;omega
     have HM:aa (N - (n + 1)<gk):=by have:=HI.out;have:=HMN.out;rw[aa];omega
     have HZ:aa (bN i5 fY P n).ok:=jW i5 fY P zE n
     obtain⟨z,hz⟩:∃z,z=bN i5 fY P n:=⟨_,rfl⟩
     have HZN:aa (bN i5 fY P (n + 1)=em i5 z (P.extract i (i + 64))):=by rw[aa,hz,HI.out];rfl
     rw[<-hz] at HZ HS
     obtain⟨blk,hblk⟩:∃b,b=P.extract i (i + 64):=⟨_,rfl⟩
     have HBA:aa (o4 blk pb i wr):=⟨HPB.out.1,fun j hj=>by rw[HPB.out.2 (i + j) (by omega),hblk,i6 P i (i + 64) j (by omega)]⟩
     rw[<-hblk] at HZN
     have c0:=br HS.out 0 (by omega)
     have c1:=br HS.out 1 (by omega)
     have c2:=br HS.out 2 (by omega)
     have c3:=br HS.out 3 (by omega)
     have c4:=br HS.out 4 (by omega)
     have c5:=br HS.out 5 (by omega)
     have c6:=br HS.out 6 (by omega)
     have c7:=br HS.out 7 (by omega)
     simp only[S8.get] at c0 c1 c2 c3 c4 c5 c6 c7
     obtain⟨i2,hi2⟩:∃x,x=i + 64:=⟨_,rfl⟩
     have hpc:=HPC.out
     have e1:IntKind.i64.wrap ((i:Int) + 64)=(i2:Int):=by rw[IntWalk.i64_in _ (by have:=HM9.out;omega)];omega
     have u1:(i2:Int)<=pc:=by omega
     have u2:(i:Int)<=i2:=by omega
     have u3:¬pc=i:=by omega
     have HI2:=ac hi2
     have u4:i2 - i=64:=by omega
     have HIM:=ac hiM
     clear hz hblk hi hgk hlt hiM hi2 hpc
     go_upto_region 12 with fail
     go_still_tail 7,(by kernel_rfl)
     go_wp2_with fail
     have h64:64<=pc - i:=by omega
     refine (vh z HZ.out blk pb i (pc - i) h64 i5 kb 0 kc wr.drew (HBA.out.on (aA _)) (HK.out.on (aA _))).mono ?_
     rintro e w5 ⟨rfl,hb5⟩
     rw[<-HZN.out]
     obtain⟨zz,hzz⟩:∃zz,zz=bN i5 fY P (n + 1):=⟨_,rfl⟩
     rw[<-hzz]
     have hb5':Below wr.heap.size wr w5:=aD (aA wr) hb5
     have HS5:=ac (au HS.out hb5')
     have HD5:=ac (au HD.out hb5')
     have HK5:=ac (HK.out.on hb5')
     have HPB5:aa (pb<w5.heap.size/\∀j,j<M->w5.cell? ⟨pb,j,none⟩=some (.int .u8 (bf P j))):=⟨Nat.lt_of_lt_of_le HPB.out.1 hb5'.size,fun j hj=>(hb5'.cell (p:=⟨pb,j,none⟩) HPB.out.1).trans (HPB.out.2 j hj)⟩
     have HB5:=ac (ar w _ _ HB.out hb5')
     have hkD:kb≠D + 1/\pb≠D + 1:=by
      have h1:=HKG.out
      have h2:=HPG.out
      omega
     have HZZ:=ac hzz
     clear hb5 hb5' hzz c0 c1 c2 c3 c4 c5 c6 c7 e1 u1 u2 u3 u4 h64 HZ HZN HBA HS HD HK HPB HB
     have hi8:(prog.info? 173).map (·.size)=some (eR zz).size:=by kernel_rfl
     obtain⟨w6,hw6⟩:∃x,x=w5.setRow (D + 1) (eR zz):=⟨_,rfl⟩
     have HS6:aa (w6.heap[D + 1]?=some (.cells (eR (bN i5 fY P (n + 1))) 173 (0,0))):=by rw[aa,hw6,<-HZZ.out];exact setRow_heap w5 (D + 1) _ _ _ _ HS5.out
     have HD6:aa (w6.heap[D]?=some (.cells (Array.replicate 32 (.int .u8 0)) 43 (0,0))):=by rw[aa,hw6,setRow_other w5 (D + 1) D _ (by omega)];exact HD5.out
     have HK6:aa (yF i5 kb 0 w6):=⟨by rw[hw6,setRow_size];exact HK5.out.1,fun j hj=>by rw[hw6,cell_setRow_other w5 (D + 1) _ _ hkD.1];exact HK5.out.2 j hj⟩
     have HPB6:aa (pb<w6.heap.size/\∀j,j<M->w6.cell? ⟨pb,j,none⟩=some (.int .u8 (bf P j))):=⟨by rw[hw6,setRow_size];exact HPB5.out.1,fun j hj=>by rw[hw6,cell_setRow_other w5 (D + 1) _ _ hkD.2];exact HPB5.out.2 j hj⟩
     have HB6:aa (Below w.heap.size w w6):=by rw[aa,hw6];exact below_setRow HB5.out (by have:=HDW.out;omega) _
     have HW6:=ac hw6
     have hone:(eR zz).all (·.oneCell')=true:=AN _ _ _ _ _ _ _ _
     clear hw6 HD5 HK5 HPB5 HB5 hkD
     go_wp2_with (first
      | (refine wpList_store_row rfl _ _ _ rfl (D + 1) (eR zz) rfl rfl 173 _ HS5.out hi8 rfl hone ?_;rw[<-HW6.out])
      | fail)
     have hb9:i<=1000001000:=by have:=HM9.out;have:=HIM.out;omega
     clear HS5 hi8 hone
     go_wp2_with fail
     go_roundg (N - (n + 1))
     case measure=>exact HM.out
     case rel=>exact⟨n + 1,i + 64,congrArg (Value.int .i64) (by rw[IntWalk.wrap64_in _ (by omega)];omega),by have:=HIM.out;omega,by have:=HI.out;rw[aa];omega,by omega,HS6,HD6,HK6,HPB6,HB6⟩
    ·have hzi:¬(i:Int)<M:=by omega
     have hnN:n=N:=by have:=HI.out;have:=HMN.out;omega
     have HS7:aa (wr.heap[D + 1]?=some (.cells (eR RES) 173 (0,0))):=by rw[aa,HRE.out,<-hnN];exact HS.out
     clear HS HK HPB hi hgk hlt hnN
     go_wp2_with fail
     rw[Bl]
     obtain⟨E,hE⟩:∃x,x=wr.heap.size:=⟨_,rfl⟩
     obtain⟨w8,hw8⟩:∃x,x=wr.alloc (.cells (Array.replicate 32 (.int .u8 0)) 43):=⟨_,rfl⟩
     have HG8:aa (gl E RES 0 w8):=by rw[aa,hw8,hE];exact⟨_,ax _ _,by simp,fun j hj=>by omega⟩
     have HS8:aa (w8.heap[D + 1]?=some (.cells (eR RES) 173 (0,0))):=by rw[aa,hw8];exact au HS7.out (af _ _)
     have HD8:aa (w8.heap[D]?=some (.cells (Array.replicate 32 (.int .u8 0)) 43 (0,0))):=by rw[aa,hw8];exact au HD.out (af _ _)
     have HB8:aa (Below w.heap.size w w8):=by rw[aa,hw8];exact ar w _ _ HB.out (af _ _)
     have hDE:D + 1<E:=by rw[hE];exact aK HS7.out
     have HED:=ac hDE
     rw[<-hw8,<-hE]
     clear hw8 hE hDE HS7 HD HB
     go_loopg [10] 32 (fun gk v10 wr=>∃i:Nat,v10=.int .i64 i/\i<=32/\32 - i<=gk/\aa (gl E RES i wr)/\aa (wr.heap[D + 1]?=some (.cells (eR RES) 173 (0,0)))/\aa (wr.heap[D]?=some (.cells (Array.replicate 32 (.int .u8 0)) 43 (0,0)))/\aa (Below w.heap.size w wr))
     case atStart=>exact⟨0,rfl,by omega,by omega,HG8,HS8,HD8,HB8⟩
     case round=>
      clear HG8 HS8 HD8 HB8
      obtain⟨i,rfl,hi,hgk,HG,HS,HD,HB⟩:=hrel
      by_cases h32:i<32
      ·have hz32:(i:Int)<32:=by omega
       have HM:aa (32 - (i + 1)<gk/\i + 1<=32):=⟨by omega,by omega⟩
       obtain⟨q,hq⟩:∃q,q=i / 4:=⟨_,rfl⟩
       have hq8:q<8:=by omega
       have hz8:(q:Int)<8:=by omega
       have htd:(i:Int).tdiv 4=(q:Int):=by rw[hq];rfl
       have c0:=br HS.out q hq8
       have HXV:aa (fQ RES i=RES.get q / 2 ^ (24 - 8 * (i % 4)) % 256):=by rw[aa,hq];rfl
       obtain⟨x,hx⟩:∃x,x=RES.get q:=⟨_,rfl⟩
       rw[<-hx] at c0 HXV
       obtain⟨u,c1,f1⟩:=HG.out.cell i h32
       have HGS:aa (∀ x,x=fQ RES i->gl E RES (i + 1) (wr.setCell ⟨E,i,none⟩ (.int .u8 x))):=fun x hx=>HG.out.set h32 x hx
       have HS2:aa (∀ v,(wr.setCell ⟨E,i,none⟩ v).heap[D + 1]?=some (.cells (eR RES) 173 (0,0))):=fun v=>eA HS.out (by have:=HED.out;omega) _ _
       have HD2:aa (∀ v,(wr.setCell ⟨E,i,none⟩ v).heap[D]?=some (.cells (Array.replicate 32 (.int .u8 0)) 43 (0,0))):=fun v=>eA HD.out (by have:=HED.out;omega) _ _
       have HB2:aa (∀ v,Below w.heap.size w (wr.setCell ⟨E,i,none⟩ v)):=fun v=>HB.out.setCell (p:=⟨E,i,none⟩) (by show w.heap.size<=E;have:=HED.out;have:=HDW.out;omega) _
       have h4:i % 4=0\/i % 4=1\/i % 4=2\/i % 4=3:=by omega
       clear hq hx hi hgk HG HS HD HB hq8
       rcases h4 with h4 | h4 | h4 | h4
       ·have htm:(i:Int).tmod 4=0:=by
         have:(i:Int).tmod 4=((i % 4:Nat):Int):=rfl
         rw[this,h4];rfl
        have HV:aa (x / 16777216 % 256=fQ RES i):=by rw[aa,HXV.out,h4];rfl
        clear h4
        go_wp2_with fail
        go_roundg (32 - (i + 1))
        case measure=>exact HM.out.1
        case rel=>exact⟨i + 1,by go_num,HM.out.2,by omega,HGS.out _ HV.out,HS2.out _,HD2.out _,HB2.out _⟩
       ·have htm:(i:Int).tmod 4=1:=by
         have:(i:Int).tmod 4=((i % 4:Nat):Int):=rfl
         rw[this,h4];rfl
        have HV:aa (x / 65536 % 256=fQ RES i):=by rw[aa,HXV.out,h4];rfl
        clear h4
        go_wp2_with fail
        go_roundg (32 - (i + 1))
        case measure=>exact HM.out.1
        case rel=>exact⟨i + 1,by go_num,HM.out.2,by omega,HGS.out _ HV.out,HS2.out _,HD2.out _,HB2.out _⟩
       ·have htm:(i:Int).tmod 4=2:=by
         have:(i:Int).tmod 4=((i % 4:Nat):Int):=rfl
         rw[this,h4];rfl
        have HV:aa (x / 256 % 256=fQ RES i):=by rw[aa,HXV.out,h4];rfl
        clear h4
        go_wp2_with fail
        go_roundg (32 - (i + 1))
        case measure=>exact HM.out.1
        case rel=>exact⟨i + 1,by go_num,HM.out.2,by omega,HGS.out _ HV.out,HS2.out _,HD2.out _,HB2.out _⟩
       ·have htm:(i:Int).tmod 4=3:=by
         have:(i:Int).tmod 4=((i % 4:Nat):Int):=rfl
         rw[this,h4];rfl
        have HV:aa (x % 256=fQ RES i):=by rw[aa,HXV.out,h4];simp
        clear h4
        go_wp2_with fail
        go_roundg (32 - (i + 1))
        case measure=>exact HM.out.1
        case rel=>exact⟨i + 1,by go_num,HM.out.2,by omega,HGS.out _ HV.out,HS2.out _,HD2.out _,HB2.out _⟩
      ·have hz32:¬(i:Int)<32:=by omega
       obtain rfl:i=32:=by omega
       have HGF:=ac HG.out.full
       have hi0:(prog.info? 43).map (·.size)=some (bL RES).size:=by rw[cJ];kernel_rfl
       have HBE:aa (Below w.heap.size w (wr.setRow D (bL RES))):=below_setRow HB.out (by have:=HDW.out;omega) _
       have HHE:aa ((wr.setRow D (bL RES)).heap[D]?=some (.cells (bL RES) 43 (0,0))):=setRow_heap wr D _ _ _ _ HD.out
       clear hi hgk h32 HG HS HB
       go_wp2_with (first
        | (refine wpList_load_row rfl _ _ rfl E rfl _ (bL RES) (0,0) _ HGF.out underlying43 rfl hi0 ?_)
        | (refine wpList_store_row rfl _ _ _ rfl D (bL RES) rfl rfl 43 _ HD.out hi0 (by rw[cJ];rfl) (gM RES) ?_)
        | fail)
       exact bodyPost_ret (results_cell_row rfl _ _ D 43 (bL RES) (0,0) _ rfl HHE.out underlying43 rfl hi0) rfl ⟨rfl,HBE.out⟩
