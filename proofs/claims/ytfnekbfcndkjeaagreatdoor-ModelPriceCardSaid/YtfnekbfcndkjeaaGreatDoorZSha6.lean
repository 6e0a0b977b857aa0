/- sha.Sum, walked. -/
import Derived.Test.YtfnekbfcndkjeaaGreatDoorZSha4
set_option maxHeartbeats 4000000
set_option maxRecDepth 100000
set_option linter.all false
namespace Go.Proofs.YtfnekbfcndkjeaaGreatDoor
open Go.Proofs.Tryz Go.RowKit
theorem ue (z:S8) (r l:Value) (i:Nat) (hi:i<8):(#[Value.int .u32 z.a,.int .u32 z.b,.int .u32 z.c,.int .u32 z.d,.int .u32 z.e,.int .u32 z.f,.int .u32 z.g,.int .u32 z.h,r,l]:Array Value)[i]?=some (.int .u32 (z.get i)):=by
 match i,hi with
 | 0,_ | 1,_ | 2,_ | 3,_ | 4,_ | 5,_ | 6,_ | 7,_=>rfl
 | _ + 8,h=>omega
theorem cQ.new (w:World) (z:S8) (rest:ByteArray) (ln:Int) (t:TypeId):
  cQ w.heap.size z rest ln (w.alloc (.cells #[.int .u32 z.a,.int .u32 z.b,.int .u32 z.c,.int .u32 z.d,.int .u32 z.e,.int .u32 z.f,.int .u32 z.g,.int .u32 z.h,.string rest,.int .u64 ln] t)):=
 ⟨fun j hj=>⟨by rw[aO];exact ue z _ _ j hj,eT _ _ _ _⟩,by rw[aO];rfl,eT _ _ _ _,by rw[aO];rfl,eT _ _ _ _⟩
structure Ak (b:Nat) (z:S8) (w:World):Prop where
 c0:w.cell? ⟨b,0,none⟩=some (.int .u32 z.a)
 c1:w.cell? ⟨b,1,none⟩=some (.int .u32 z.b)
 c2:w.cell? ⟨b,2,none⟩=some (.int .u32 z.c)
 c3:w.cell? ⟨b,3,none⟩=some (.int .u32 z.d)
 c4:w.cell? ⟨b,4,none⟩=some (.int .u32 z.e)
 c5:w.cell? ⟨b,5,none⟩=some (.int .u32 z.f)
 c6:w.cell? ⟨b,6,none⟩=some (.int .u32 z.g)
 c7:w.cell? ⟨b,7,none⟩=some (.int .u32 z.h)
theorem rO {b:Nat} {z:S8} {w:World} (h:∀j,j<8->w.cell? ⟨b,j,none⟩=some (.int .u32 (z.get j))):Ak b z w:=
 ⟨h 0 (by omega),h 1 (by omega),h 2 (by omega),h 3 (by omega),h 4 (by omega),h 5 (by omega),h 6 (by omega),h 7 (by omega)⟩
theorem yO (F:S8) (w:World) (hF:∀j,j<8->w.cell? ⟨1,j,none⟩=some (.int .u32 (F.get j))):
  Calls prog 157 #[] w fun e w'=>e=.returned (.pointer (some ⟨w.heap.size,0,none⟩))/\cQ w.heap.size F ByteArray.empty 0 w'/\Below w.heap.size w w':=by
 obtain⟨c0,c1,c2,c3,c4,c5,c6,c7⟩:=rO hF
 clear hF
 go_enter func157,ntmps157
 go_wp2
 go_ret
 exact⟨rfl,cQ.new w F ByteArray.empty 0 _,af _ _⟩
def cN (r:Nat):Nat:=(119 - r) % 64
def dh (n:Int):List Int:=[n / 72057594037927936 % 256,n / 281474976710656 % 256,n / 1099511627776 % 256,n / 4294967296 % 256,n / 16777216 % 256,n / 65536 % 256,n / 256 % 256,n % 256]
def bQ (z:Nat):List Int:=128 :: List.replicate z 0
def gL (r:Nat) (ln:Int):List Int:=bQ (cN r)++dh (8 * ln % 18446744073709551616)
theorem bx (z:Nat):(bQ z).length=z + 1:=by simp[bQ]
theorem mM (z:Nat):bQ (z + 1)=bQ z++[0]:=by simp[bQ,List.replicate_succ']
def fQ (z:S8) (j:Nat):Int:=z.get (j / 4) / 2 ^ (24 - 8 * (j % 4)) % 256
def bL (z:S8):Array Value:=Array.ofFn (n:=32) fun j=>.int .u8 (fQ z j.val)
def uf (K:Nat->Int) (st:S8) (rest:ByteArray) (ln:Int):S8:=
 bN K st (rest++strOfNums (gL rest.size ln)) ((rest++strOfNums (gL rest.size ln)).size / 64)
def rP (K:Nat->Int) (st:S8) (rest:ByteArray) (ln:Int) (w:World) (e:Ending) (w':World):Prop:=
 e=.returned (.agg (bL (uf K st rest ln)))/\Below w.heap.size w w'
theorem wj (W:World):(Instr.makeSlice 22 (.int .i64 1) (.int .i64 128)).run prog W=.ok (.slice (some ⟨W.heap.size,0,none⟩) 1 128) (W.alloc (.cells (madeCells #[.int .u8 0] 128) 5)):=by
 obtain⟨i0,hi,hz0,hz1,hz2⟩:=info_parts Tryz.infoU8
 have:=run_make (P:=prog) W 22 5 i0 (.int .u8 0) underlying22 hi hz0 .i64 .i64 1 128 (by omega) (by omega) (by rw[hz2];omega) (by omega)
 simpa [hz1,Value.cells] using this
def gl (D:Nat) (z:S8) (n:Nat) (w:World):Prop:=∃cs,w.heap[D]?=some (.cells cs 43 (0,0))/\cs.size=32/\∀j,j<n->cs[j]?=some (.int .u8 (fQ z j))
theorem gl.set {D:Nat} {z:S8} {n:Nat} {w:World} (h:gl D z n w) (hn:n<32) (x:Int) (hx:x=fQ z n):gl D z (n + 1) (w.setCell ⟨D,n,none⟩ (.int .u8 x)):=by
 obtain⟨cs,h1,h2,h3⟩:=h
 subst hx
 refine⟨_,heap_setCell_same w D n cs _ _ h1,by simpa using h2,fun j hj=>?_⟩
 rw[Array.getElem?_setIfInBounds]
 by_cases e:n=j
 ·rw[if_pos e,if_pos (by omega),e]
 ·rw[if_neg e]
  exact h3 j (by omega)
theorem gl.cell {D:Nat} {z:S8} {n:Nat} {w:World} (h:gl D z n w) (j:Nat) (hj:j<32):∃v,w.cell? ⟨D,j,none⟩=some v/\w.frozen? ⟨D,j,none⟩=false:=by
 obtain⟨cs,h1,h2,h3⟩:=h
 refine⟨cs[j]'(by omega),?_,?_⟩
 ·unfold World.cell?
  simp only[h1]
  simp[h2,hj]
 ·unfold World.frozen?
  simp only[h1]
  simp
theorem cJ (z:S8):(bL z).size=32:=by unfold bL;exact Array.size_ofFn
theorem i9 (z:S8) (i:Nat) (hi:i<32):(bL z)[i]?=some (.int .u8 (fQ z i)):=by
 unfold bL
 rw[Array.getElem?_ofFn,dif_pos hi]
theorem gM (z:S8):(bL z).all (·.oneCell')=true:=by
 rw[Array.all_eq_true]
 intro i hi
 have h5:=i9 z i (by rw[<-cJ z];exact hi)
 rw[Array.getElem?_eq_getElem hi] at h5
 rw[Option.some.inj h5]
 rfl
theorem rQ (z:S8) (cs:Array Value) (h2:cs.size=32) (h3:∀j,j<32->cs[j]?=some (.int .u8 (fQ z j))):cs=bL z:=by
 refine Array.ext ?_ fun i hi1 hi2=>?_
 ·rw[h2,cJ]
 ·have h4:=h3 i (by omega)
  have h5:=i9 z i (by omega)
  rw[Array.getElem?_eq_getElem hi1] at h4
  rw[Array.getElem?_eq_getElem hi2] at h5
  exact (Option.some.inj h4).trans (Option.some.inj h5).symm
theorem gl.full {D:Nat} {z:S8} {w:World} (h:gl D z 32 w):w.heap[D]?=some (.cells (bL z) 43 (0,0)):=by
 obtain⟨cs,h1,h2,h3⟩:=h
 rw[h1,rQ z cs h2 h3]
theorem eB (cs:Array Value) (t:Nat) (v:Int) (ht:t<8) (h:cs[t]?=some (.int .u32 v)) (W:World):(Instr.index 227 (.agg cs) (.int .i64 (t:Int))).run prog W=.ok (.int .u32 v) W:=by
 have a:=Tryz.isAgg172
 have z:=Tryz.sizeOf172
 simp[Instr.index,go_sem,part,a,z,h,asIntOf]
 intro h2
 omega
theorem rR (b:Nat) (rest:ByteArray) (st:S8) (hst:st.ok) (ln:Int) (hln:0<=ln/\ln<=18446744073709551615) (w:World) (hr:rest.size<64) (kk:Array Value) (hkz:kk.size=64) (K:Nat->Int) (hk:iQ kk w) (hK:∀j,j<64->kk[j]?=some (.int .u32 (K j)))
  (hh:cQ b st rest ln w):
  Calls prog 159 #[.pointer (some ⟨b,0,none⟩)] w (rP K st rest ln w):=by
 obtain⟨c0,c1,c2,c3,c4,c5,c6,c7⟩:=rO (fun j hj=>(hh.st j hj).1)
 have c8:=hh.rest
 have c9:=hh.len
 have HH:=ac hh
 have HKK:=ac hk
 have HK:=ac hK
 have HKZ:=ac hkz
 have HST:=ac hst
 have HLN:=ac hln
 have hbl:b<w.heap.size:=aC hh.rest
 have hmk:=wj
 have hm0:(madeCells #[Value.int .u8 0] 128)[0]?=some (.int .u8 0):=by kernel_rfl
 clear hh hk hK hkz hst hln
 go_enter func159,ntmps159
 go_wp2_with fail
 rw[Bl]
 clear c0 c1 c2 c3 c4 c5 c6 c7 c8 c9 hmk hm0
 obtain⟨D,hD⟩:∃x,x=w.heap.size:=⟨_,rfl⟩
 obtain⟨wd,hwd⟩:∃x,x=w.alloc (.cells (Array.replicate 32 (.int .u8 0)) 43):=⟨_,rfl⟩
 have hsd:wd.heap.size=D + 1:=by rw[hwd,hD];simp
 have HD0:wd.heap[D]?=some (.cells (Array.replicate 32 (.int .u8 0)) 43 (0,0)):=by rw[hwd,hD];exact ax _ _
 have hNd:Below w.heap.size w wd:=by rw[hwd];exact af _ _
 obtain⟨wc,hwc⟩:∃x,x=wd.alloc (.cells #[.int .u32 st.a,.int .u32 st.b,.int .u32 st.c,.int .u32 st.d,.int .u32 st.e,.int .u32 st.f,.int .u32 st.g,.int .u32 st.h,.string rest,.int .u64 ln] 229):=⟨_,rfl⟩
 have hsc:wc.heap.size=D + 2:=by rw[hwc];simp[hsd]
 have HC0:cQ (D + 1) st rest ln wc:=by rw[hwc,<-hsd];exact cQ.new _ _ _ _ _
 have hNc:Below wd.heap.size wd wc:=by rw[hwc];exact af _ _
 obtain⟨w1,hw1⟩:∃x,x=wc.alloc (.cells ((madeCells #[Value.int .u8 0] 128).setIfInBounds 0 (.int .u8 128)) 5):=⟨_,rfl⟩
 have hN1:Below wc.heap.size wc w1:=by rw[hw1];exact af _ _
 have HO1:aa (dS (D + 2) w1 (.slice (some ⟨D + 2,0,none⟩) 1 128) (bQ 0)):=by
  refine⟨rfl,.inr ⟨D + 2,128,_,rfl,Nat.le_refl _,by rw[hw1,<-hsc];exact ax _ _,by decide,by unfold maxLen;decide,by kernel_rfl,by kernel_rfl⟩⟩
 have HD1:aa (w1.heap[D]?=some (.cells (Array.replicate 32 (.int .u8 0)) 43 (0,0))):=(hN1.block D (by omega)).trans ((hNc.block D (by omega)).trans HD0)
 have HC1:aa (cQ (D + 1) st rest ln w1):=HC0.on hN1
 have HN1:aa (Below w.heap.size w w1):=aD (aD hNd hNc) hN1
 have hs1:D + 2<w1.heap.size:=by rw[hw1];simp[hsc]
 have hDw:=ac hD
 rw[<-hD,<-hwd,<-hwc,<-hw1]
 clear hwd hwc hw1 HD0 HC0 hNd hNc hN1 hD
 go_loopg [4] (cN rest.size) (fun g v4 wr=>∃z:Nat,z<=cN rest.size/\cN rest.size - z<=g/\aa (dS (D + 2) wr v4 (bQ z))/\aa (Below (D + 2) w1 wr))
 case atStart=>exact⟨0,by omega,by omega,HO1,Below.refl _ _⟩
 case round=>
  obtain⟨z,hz,hg,HO,HB⟩:=hrel
  have hzr:cN rest.size<=63:=by unfold cN;omega
  have c8:wr.cell? ⟨b,8,none⟩=some (.string rest):=(HB.out.cell (p:=⟨b,8,none⟩) (by simp only;rw[hDw.out];omega)).trans ((HN1.out.cell hbl).trans HH.out.rest)
  obtain⟨a,cap,rfl,hform⟩:=HO.out.form
  have HO2:aa (dS (D + 2) wr (.slice a (z + 1) cap) (bQ z)):=by have:=HO.out;rw[bx] at this;exact this
  rw[bx] at hform ⊢
  clear HO
  have HFM:=ac hform
  clear hform
  have hsw:w1.heap.size<=wr.heap.size:=HB.out.size
  by_cases hlt:z<cN rest.size
  ·have hne:(((rest.size:Int) + ((z:Int) + 1)) % 64 !=56)=true:=by
    rw[bne_iff_ne]
    unfold cN at hlt
    omega
   have hown:=HO2.out
   have hlp:(bQ z).length<=64:=by rw[bx];omega
   clear HO2 HFM
   go_wp2_with (first
    | (at_builtin;refine bI rfl _ _ rfl (D + 2) _ (bQ z) rfl (hown.alloc _) wr.heap.size 0 rfl (by rw[aO];rfl) (by omega) (by simp;omega) ?_)
    | fail)
   intro v' w2 hown' hgrow
   have HB2:aa (Below (D + 2) w1 w2):=(HB.out.alloc (by omega) _).grown hgrow (by simp;omega) (fun k hk=>(hown.block k hk).1)
   rw[<-mM] at hown'
   have HO3:=ac hown'
   clear hown hown' hgrow HB c8
   go_wp2
   go_roundg (cN rest.size - (z + 1))
   case measure=>omega
   case rel=>exact⟨z + 1,by omega,by omega,HO3,HB2⟩
  ·have hzz:z=cN rest.size:=by omega
   have hne:(((rest.size:Int) + ((z:Int) + 1)) % 64 !=56)=false:=by
    rw[bne_eq_false_iff_eq]
    unfold cN at hzz
    omega
   go_wp2
   obtain⟨v4,hv4⟩:∃v,v=Value.slice a (z + 1) cap:=⟨_,rfl⟩
   have HO4:aa (dS (D + 2) wr v4 (bQ (cN rest.size)++(dh (8 * ln % 18446744073709551616)).take 0)):=by
    have:=HO2.out
    rw[hzz] at this
    rw[hv4,hzz]
    show dS _ _ _ _
    simpa using this
   have HZZ:=ac hzz
   rw[<-hv4]
   have hne2:=hne
   rw[hzz] at hne2
   rw[hne2]
   clear hne2
   clear hv4 HO2 HFM hne hzz hz hlt hg c8
   go_loopg [4,5] 8 (fun g v4 v5 wr=>∃k:Nat,k<=8/\v5=.int .i64 (56 - 8 * (k:Int))/\8 - k<=g/\aa (dS (D + 2) wr v4 (bQ (cN rest.size)++(dh (8 * ln % 18446744073709551616)).take k))/\aa (Below (D + 2) w1 wr))
   case atStart=>exact⟨0,by omega,rfl,by omega,HO4,HB⟩
   case round=>
    clear HO4 HB hsw
    obtain⟨k,hk,rfl,hg,HO,HB⟩:=hrel
    have c9:wr.cell? ⟨b,9,none⟩=some (.int .u64 ln):=(HB.out.cell (p:=⟨b,9,none⟩) (by simp only;rw[hDw.out];omega)).trans ((HN1.out.cell hbl).trans HH.out.len)
    obtain⟨a,cap,rfl,hform⟩:=HO.out.form
    obtain⟨m,hm⟩:∃m,m=(bQ (cN rest.size)++(dh (8 * ln % 18446744073709551616)).take k).length:=⟨_,rfl⟩
    have HM:aa (m=cN rest.size + 1 + k):=by
     rw[aa,hm,List.length_append,bx,List.length_take]
     simp[dh]
     omega
    have HO2:aa (dS (D + 2) wr (.slice a m cap) (bQ (cN rest.size)++(dh (8 * ln % 18446744073709551616)).take k)):=by rw[hm];exact HO.out
    rw[<-hm] at hform ⊢
    have HFM:=ac hform
    have hmm:m<=100:=by have:=HM.out;omega
    have hsw:w1.heap.size<=wr.heap.size:=HB.out.size
    clear hm hform HO
    match k,hk with
    | 0,_=>
     rw[show (56 - 8 * ((0:Nat):Int))=56 from rfl]
     have hown:=HO2.out
     have hl2:(bQ (cN rest.size)++(dh (8 * ln % 18446744073709551616)).take 0).length<=100:=by rw[List.length_append,bx,List.length_take];omega
     clear HO2 HFM
     go_wp2_with (first
      | (at_builtin;refine bI rfl _ _ rfl (D + 2) _ (bQ (cN rest.size)++(dh (8 * ln % 18446744073709551616)).take 0) rfl (hown.alloc _) wr.heap.size _ rfl (by rw[aO];rfl) (by omega) (by simp;omega) ?_)
      | fail)
     intro v' w2 hown' hgrow
     have HB2:aa (Below (D + 2) w1 w2):=(HB.out.alloc (by omega) _).grown hgrow (by simp;omega) (fun k hk=>(hown.block k hk).1)
     have HO3:aa (dS (D + 2) w2 v' (bQ (cN rest.size)++(dh (8 * ln % 18446744073709551616)).take 1)):=by
      show dS _ _ _ _
      simpa [dh,IntKind.wrap_u64] using hown'
     clear hown hown' hgrow HB c9
     go_wp2
     go_roundg (8 - 1)
     case measure=>omega
     case rel=>exact⟨1,by omega,rfl,by omega,HO3,HB2⟩
    | 1,_=>
     rw[show (56 - 8 * ((1:Nat):Int))=48 from rfl]
     have hown:=HO2.out
     have hl2:(bQ (cN rest.size)++(dh (8 * ln % 18446744073709551616)).take 1).length<=100:=by rw[List.length_append,bx,List.length_take];omega
     clear HO2 HFM
     go_wp2_with (first
      | (at_builtin;refine bI rfl _ _ rfl (D + 2) _ (bQ (cN rest.size)++(dh (8 * ln % 18446744073709551616)).take 1) rfl (hown.alloc _) wr.heap.size _ rfl (by rw[aO];rfl) (by omega) (by simp;omega) ?_)
      | fail)
     intro v' w2 hown' hgrow
     have HB2:aa (Below (D + 2) w1 w2):=(HB.out.alloc (by omega) _).grown hgrow (by simp;omega) (fun k hk=>(hown.block k hk).1)
     have HO3:aa (dS (D + 2) w2 v' (bQ (cN rest.size)++(dh (8 * ln % 18446744073709551616)).take 2)):=by
      show dS _ _ _ _
      simpa [dh,IntKind.wrap_u64] using hown'
     clear hown hown' hgrow HB c9
     go_wp2
     go_roundg (8 - 2)
     case measure=>omega
     case rel=>exact⟨2,by omega,rfl,by omega,HO3,HB2⟩
    | 2,_=>
     rw[show (56 - 8 * ((2:Nat):Int))=40 from rfl]
     have hown:=HO2.out
     have hl2:(bQ (cN rest.size)++(dh (8 * ln % 18446744073709551616)).take 2).length<=100:=by rw[List.length_append,bx,List.length_take];omega
     clear HO2 HFM
     go_wp2_with (first
      | (at_builtin;refine bI rfl _ _ rfl (D + 2) _ (bQ (cN rest.size)++(dh (8 * ln % 18446744073709551616)).take 2) rfl (hown.alloc _) wr.heap.size _ rfl (by rw[aO];rfl) (by omega) (by simp;omega) ?_)
      | fail)
     intro v' w2 hown' hgrow
     have HB2:aa (Below (D + 2) w1 w2):=(HB.out.alloc (by omega) _).grown hgrow (by simp;omega) (fun k hk=>(hown.block k hk).1)
     have HO3:aa (dS (D + 2) w2 v' (bQ (cN rest.size)++(dh (8 * ln % 18446744073709551616)).take 3)):=by
      show dS _ _ _ _
      simpa [dh,IntKind.wrap_u64] using hown'
     clear hown hown' hgrow HB c9
     go_wp2
     go_roundg (8 - 3)
     case measure=>omega
     case rel=>exact⟨3,by omega,rfl,by omega,HO3,HB2⟩
    | 3,_=>
     rw[show (56 - 8 * ((3:Nat):Int))=32 from rfl]
     have hown:=HO2.out
     have hl2:(bQ (cN rest.size)++(dh (8 * ln % 18446744073709551616)).take 3).length<=100:=by rw[List.length_append,bx,List.length_take];omega
     clear HO2 HFM
     go_wp2_with (first
      | (at_builtin;refine bI rfl _ _ rfl (D + 2) _ (bQ (cN rest.size)++(dh (8 * ln % 18446744073709551616)).take 3) rfl (hown.alloc _) wr.heap.size _ rfl (by rw[aO];rfl) (by omega) (by simp;omega) ?_)
      | fail)
     intro v' w2 hown' hgrow
     have HB2:aa (Below (D + 2) w1 w2):=(HB.out.alloc (by omega) _).grown hgrow (by simp;omega) (fun k hk=>(hown.block k hk).1)
     have HO3:aa (dS (D + 2) w2 v' (bQ (cN rest.size)++(dh (8 * ln % 18446744073709551616)).take 4)):=by
      show dS _ _ _ _
      simpa [dh,IntKind.wrap_u64] using hown'
     clear hown hown' hgrow HB c9
     go_wp2
     go_roundg (8 - 4)
     case measure=>omega
     case rel=>exact⟨4,by omega,rfl,by omega,HO3,HB2⟩
    | 4,_=>
     rw[show (56 - 8 * ((4:Nat):Int))=24 from rfl]
     have hown:=HO2.out
     have hl2:(bQ (cN rest.size)++(dh (8 * ln % 18446744073709551616)).take 4).length<=100:=by rw[List.length_append,bx,List.length_take];omega
     clear HO2 HFM
     go_wp2_with (first
      | (at_builtin;refine bI rfl _ _ rfl (D + 2) _ (bQ (cN rest.size)++(dh (8 * ln % 18446744073709551616)).take 4) rfl (hown.alloc _) wr.heap.size _ rfl (by rw[aO];rfl) (by omega) (by simp;omega) ?_)
      | fail)
     intro v' w2 hown' hgrow
     have HB2:aa (Below (D + 2) w1 w2):=(HB.out.alloc (by omega) _).grown hgrow (by simp;omega) (fun k hk=>(hown.block k hk).1)
     have HO3:aa (dS (D + 2) w2 v' (bQ (cN rest.size)++(dh (8 * ln % 18446744073709551616)).take 5)):=by
      show dS _ _ _ _
      simpa [dh,IntKind.wrap_u64] using hown'
     clear hown hown' hgrow HB c9
     go_wp2
     go_roundg (8 - 5)
     case measure=>omega
     case rel=>exact⟨5,by omega,rfl,by omega,HO3,HB2⟩
    | 5,_=>
     rw[show (56 - 8 * ((5:Nat):Int))=16 from rfl]
     have hown:=HO2.out
     have hl2:(bQ (cN rest.size)++(dh (8 * ln % 18446744073709551616)).take 5).length<=100:=by rw[List.length_append,bx,List.length_take];omega
     clear HO2 HFM
     go_wp2_with (first
      | (at_builtin;refine bI rfl _ _ rfl (D + 2) _ (bQ (cN rest.size)++(dh (8 * ln % 18446744073709551616)).take 5) rfl (hown.alloc _) wr.heap.size _ rfl (by rw[aO];rfl) (by omega) (by simp;omega) ?_)
      | fail)
     intro v' w2 hown' hgrow
     have HB2:aa (Below (D + 2) w1 w2):=(HB.out.alloc (by omega) _).grown hgrow (by simp;omega) (fun k hk=>(hown.block k hk).1)
     have HO3:aa (dS (D + 2) w2 v' (bQ (cN rest.size)++(dh (8 * ln % 18446744073709551616)).take 6)):=by
      show dS _ _ _ _
      simpa [dh,IntKind.wrap_u64] using hown'
     clear hown hown' hgrow HB c9
     go_wp2
     go_roundg (8 - 6)
     case measure=>omega
     case rel=>exact⟨6,by omega,rfl,by omega,HO3,HB2⟩
    | 6,_=>
     rw[show (56 - 8 * ((6:Nat):Int))=8 from rfl]
     have hown:=HO2.out
     have hl2:(bQ (cN rest.size)++(dh (8 * ln % 18446744073709551616)).take 6).length<=100:=by rw[List.length_append,bx,List.length_take];omega
     clear HO2 HFM
     go_wp2_with (first
      | (at_builtin;refine bI rfl _ _ rfl (D + 2) _ (bQ (cN rest.size)++(dh (8 * ln % 18446744073709551616)).take 6) rfl (hown.alloc _) wr.heap.size _ rfl (by rw[aO];rfl) (by omega) (by simp;omega) ?_)
      | fail)
     intro v' w2 hown' hgrow
     have HB2:aa (Below (D + 2) w1 w2):=(HB.out.alloc (by omega) _).grown hgrow (by simp;omega) (fun k hk=>(hown.block k hk).1)
     have HO3:aa (dS (D + 2) w2 v' (bQ (cN rest.size)++(dh (8 * ln % 18446744073709551616)).take 7)):=by
      show dS _ _ _ _
      simpa [dh,IntKind.wrap_u64] using hown'
     clear hown hown' hgrow HB c9
     go_wp2
     go_roundg (8 - 7)
     case measure=>omega
     case rel=>exact⟨7,by omega,rfl,by omega,HO3,HB2⟩
    | 7,_=>
     rw[show (56 - 8 * ((7:Nat):Int))=0 from rfl]
     have hown:=HO2.out
     have hl2:(bQ (cN rest.size)++(dh (8 * ln % 18446744073709551616)).take 7).length<=100:=by rw[List.length_append,bx,List.length_take];omega
     clear HO2 HFM
     go_wp2_with (first
      | (at_builtin;refine bI rfl _ _ rfl (D + 2) _ (bQ (cN rest.size)++(dh (8 * ln % 18446744073709551616)).take 7) rfl (hown.alloc _) wr.heap.size _ rfl (by rw[aO];rfl) (by omega) (by simp;omega) ?_)
      | fail)
     intro v' w2 hown' hgrow
     have HB2:aa (Below (D + 2) w1 w2):=(HB.out.alloc (by omega) _).grown hgrow (by simp;omega) (fun k hk=>(hown.block k hk).1)
     have HO3:aa (dS (D + 2) w2 v' (bQ (cN rest.size)++(dh (8 * ln % 18446744073709551616)).take 8)):=by
      show dS _ _ _ _
      simpa [dh,IntKind.wrap_u64] using hown'
     clear hown hown' hgrow HB c9
     go_wp2
     go_roundg (8 - 8)
     case measure=>omega
     case rel=>exact⟨8,by omega,rfl,by omega,HO3,HB2⟩
    | 8,_=>
     rw[show (56 - 8 * ((8:Nat):Int))=-8 from rfl]
     have HLEN:aa ((gL rest.size ln).length=m):=by
      rw[aa,gL,List.length_append,bx,HM.out]
      simp[dh]
     have hpm:cN rest.size<=63:=by unfold cN;omega
     obtain⟨g',rfl,hg',hcs⟩:=HFM.out (by have:=HM.out;omega)
     have kc:=run_convert_bytes_arg (P:=prog) (w:=wr) 22 5 underlying22 underlying5 g' 0 m cap (gL rest.size ln) HLEN.out (by intro i hi;rw[Nat.zero_add];exact hcs i hi) 9 underlying9
     obtain⟨px,hpx⟩:∃t,t=strOfNums (gL rest.size ln):=⟨_,rfl⟩
     have HPX:=ac hpx
     have hpz:px.size=m:=by rw[hpx,strOfNums_size];exact HLEN.out
     rw[<-hpx] at kc
     have HT0:aa (iQ kk wr):=by
      have hgl:2<w.heap.size:=HKK.out.lt
      exact HKK.out.of_block ((HB.out.block _ (by rw[hDw.out];omega)).trans (HN1.out.block _ hgl))
     have HC2:aa (cQ (D + 1) st rest ln wr):=HC1.out.of_block (HB.out.block (D + 1) (by omega))
     have hgD:2<D:=by rw[hDw.out];exact HKK.out.lt
     clear hcs HO2 HFM hpx
     go_wp2_with fail
     have hlast:(rest.size + px.size:Nat)<=9223372036854775807:=by omega
     refine (oA (D + 1) px rest st HST.out ln HLN.out wr hlast kk HKZ.out K HT0.out HK.out (by omega) HC2.out).mono ?_
     rintro e w2 ⟨rfl,hkp,hh2⟩
     obtain⟨z,hz⟩:∃z,z=bN K st (rest++px) ((rest++px).size / 64):=⟨_,rfl⟩
     rw[<-hz] at hh2
     have HZ:aa (z=uf K st rest ln):=by rw[aa,hz,uf,HPX.out]
     obtain⟨c0,c1,c2,c3,c4,c5,c6,c7⟩:=rO (fun j hj=>(hh2.st j hj).1)
     have HN2:aa (Below w.heap.size w w2):=by
      refine HN1.out.trans ?_
      have h1:Below D w1 wr:=HB.out.mono (by omega)
      exact (by rw[<-hDw.out];exact h1.trans (am.below (hkp.mono (fun k hk h=>by omega)) (by omega)))
     have HG0:aa (gl D z 0 w2):=⟨_,(hkp.block D (by omega) (by omega)).trans ((HB.out.block D (by omega)).trans HD1.out),by simp,fun j hj=>by omega⟩
     clear hz hh2 hkp HC2 HT0 kc hpz hlast HPX
     go_wp2_with fail
     clear c0 c1 c2 c3 c4 c5 c6 c7
     go_loopg [51] 8 (fun g v51 wr=>∃i:Nat,i<=8/\v51=.int .i64 i/\8 - i<=g/\aa (gl D z (4 * i) wr)/\aa (Below w.heap.size w wr))
     case atStart=>exact⟨0,by omega,rfl,by omega,HG0,HN2⟩
     case round=>
      clear HG0 HN2
      obtain⟨i,hi,rfl,hg,HG,HB3⟩:=hrel
      match i,hi with
      | 0,_=>
       rw[show ((0:Nat):Int)=0 from rfl]
       have hidx:∀W,(Instr.index 227 (.agg #[.int .u32 z.a,.int .u32 z.b,.int .u32 z.c,.int .u32 z.d,.int .u32 z.e,.int .u32 z.f,.int .u32 z.g,.int .u32 z.h]) (.int .i64 0)).run prog W=.ok (.int .u32 z.a) W:=fun W=>eB _ 0 _ (by omega) rfl W
       go_wp2_with fail
       clear hidx
       go_loopg [55] 4 (fun g v55 wr=>∃k:Nat,k<=4/\v55=.int .i64 k/\4 - k<=g/\aa (gl D z (0 + k) wr)/\aa (Below w.heap.size w wr))
       case atStart=>exact⟨0,by omega,rfl,by omega,HG,HB3⟩
       case round=>
        clear HG HB3
        obtain⟨k,hk,rfl,hg2,HG,HB3⟩:=hrel
        match k,hk with
        | 0,_=>
         rw[show ((0:Nat):Int)=0 from rfl]
         obtain⟨x,hx,hfx⟩:=HG.out.cell 0 (by omega)
         go_wp2_with fail
         go_roundg (4 - 1)
         case measure=>omega
         case rel=>exact⟨1,by omega,rfl,by omega,HG.out.set (by omega) _ (by simp[fQ,S8.get]),HB3.out.setCell (p:=⟨D,0,none⟩) (by rw[hDw.out];exact Nat.le_refl _) _⟩
        | 1,_=>
         rw[show ((1:Nat):Int)=1 from rfl]
         obtain⟨x,hx,hfx⟩:=HG.out.cell 1 (by omega)
         go_wp2_with fail
         go_roundg (4 - 2)
         case measure=>omega
         case rel=>exact⟨2,by omega,rfl,by omega,HG.out.set (by omega) _ (by simp[fQ,S8.get]),HB3.out.setCell (p:=⟨D,1,none⟩) (by rw[hDw.out];exact Nat.le_refl _) _⟩
        | 2,_=>
         rw[show ((2:Nat):Int)=2 from rfl]
         obtain⟨x,hx,hfx⟩:=HG.out.cell 2 (by omega)
         go_wp2_with fail
         go_roundg (4 - 3)
         case measure=>omega
         case rel=>exact⟨3,by omega,rfl,by omega,HG.out.set (by omega) _ (by simp[fQ,S8.get]),HB3.out.setCell (p:=⟨D,2,none⟩) (by rw[hDw.out];exact Nat.le_refl _) _⟩
        | 3,_=>
         rw[show ((3:Nat):Int)=3 from rfl]
         obtain⟨x,hx,hfx⟩:=HG.out.cell 3 (by omega)
         go_wp2_with fail
         go_roundg (4 - 4)
         case measure=>omega
         case rel=>exact⟨4,by omega,rfl,by omega,HG.out.set (by omega) _ (by simp[fQ,S8.get]),HB3.out.setCell (p:=⟨D,3,none⟩) (by rw[hDw.out];exact Nat.le_refl _) _⟩
        | 4,_=>
         rw[show ((4:Nat):Int)=4 from rfl]
         go_wp2_with fail
         go_roundg (8 - 1)
         case measure=>omega
         case rel=>exact⟨1,by omega,rfl,by omega,HG,HB3⟩
      | 1,_=>
       rw[show ((1:Nat):Int)=1 from rfl]
       have hidx:∀W,(Instr.index 227 (.agg #[.int .u32 z.a,.int .u32 z.b,.int .u32 z.c,.int .u32 z.d,.int .u32 z.e,.int .u32 z.f,.int .u32 z.g,.int .u32 z.h]) (.int .i64 1)).run prog W=.ok (.int .u32 z.b) W:=fun W=>eB _ 1 _ (by omega) rfl W
       go_wp2_with fail
       clear hidx
       go_loopg [55] 4 (fun g v55 wr=>∃k:Nat,k<=4/\v55=.int .i64 k/\4 - k<=g/\aa (gl D z (4 + k) wr)/\aa (Below w.heap.size w wr))
       case atStart=>exact⟨0,by omega,rfl,by omega,HG,HB3⟩
       case round=>
        clear HG HB3
        obtain⟨k,hk,rfl,hg2,HG,HB3⟩:=hrel
        match k,hk with
        | 0,_=>
         rw[show ((0:Nat):Int)=0 from rfl]
         obtain⟨x,hx,hfx⟩:=HG.out.cell 4 (by omega)
         go_wp2_with fail
         go_roundg (4 - 1)
         case measure=>omega
         case rel=>exact⟨1,by omega,rfl,by omega,HG.out.set (by omega) _ (by simp[fQ,S8.get]),HB3.out.setCell (p:=⟨D,4,none⟩) (by rw[hDw.out];exact Nat.le_refl _) _⟩
        | 1,_=>
         rw[show ((1:Nat):Int)=1 from rfl]
         obtain⟨x,hx,hfx⟩:=HG.out.cell 5 (by omega)
         go_wp2_with fail
         go_roundg (4 - 2)
         case measure=>omega
         case rel=>exact⟨2,by omega,rfl,by omega,HG.out.set (by omega) _ (by simp[fQ,S8.get]),HB3.out.setCell (p:=⟨D,5,none⟩) (by rw[hDw.out];exact Nat.le_refl _) _⟩
        | 2,_=>
         rw[show ((2:Nat):Int)=2 from rfl]
         obtain⟨x,hx,hfx⟩:=HG.out.cell 6 (by omega)
         go_wp2_with fail
         go_roundg (4 - 3)
         case measure=>omega
         case rel=>exact⟨3,by omega,rfl,by omega,HG.out.set (by omega) _ (by simp[fQ,S8.get]),HB3.out.setCell (p:=⟨D,6,none⟩) (by rw[hDw.out];exact Nat.le_refl _) _⟩
        | 3,_=>
         rw[show ((3:Nat):Int)=3 from rfl]
         obtain⟨x,hx,hfx⟩:=HG.out.cell 7 (by omega)
         go_wp2_with fail
         go_roundg (4 - 4)
         case measure=>omega
         case rel=>exact⟨4,by omega,rfl,by omega,HG.out.set (by omega) _ (by simp[fQ,S8.get]),HB3.out.setCell (p:=⟨D,7,none⟩) (by rw[hDw.out];exact Nat.le_refl _) _⟩
        | 4,_=>
         rw[show ((4:Nat):Int)=4 from rfl]
         go_wp2_with fail
         go_roundg (8 - 2)
         case measure=>omega
         case rel=>exact⟨2,by omega,rfl,by omega,HG,HB3⟩
      | 2,_=>
       rw[show ((2:Nat):Int)=2 from rfl]
       have hidx:∀W,(Instr.index 227 (.agg #[.int .u32 z.a,.int .u32 z.b,.int .u32 z.c,.int .u32 z.d,.int .u32 z.e,.int .u32 z.f,.int .u32 z.g,.int .u32 z.h]) (.int .i64 2)).run prog W=.ok (.int .u32 z.c) W:=fun W=>eB _ 2 _ (by omega) rfl W
       go_wp2_with fail
       clear hidx
       go_loopg [55] 4 (fun g v55 wr=>∃k:Nat,k<=4/\v55=.int .i64 k/\4 - k<=g/\aa (gl D z (8 + k) wr)/\aa (Below w.heap.size w wr))
       case atStart=>exact⟨0,by omega,rfl,by omega,HG,HB3⟩
       case round=>
        clear HG HB3
        obtain⟨k,hk,rfl,hg2,HG,HB3⟩:=hrel
        match k,hk with
        | 0,_=>
         rw[show ((0:Nat):Int)=0 from rfl]
         obtain⟨x,hx,hfx⟩:=HG.out.cell 8 (by omega)
         go_wp2_with fail
         go_roundg (4 - 1)
         case measure=>omega
         case rel=>exact⟨1,by omega,rfl,by omega,HG.out.set (by omega) _ (by simp[fQ,S8.get]),HB3.out.setCell (p:=⟨D,8,none⟩) (by rw[hDw.out];exact Nat.le_refl _) _⟩
        | 1,_=>
         rw[show ((1:Nat):Int)=1 from rfl]
         obtain⟨x,hx,hfx⟩:=HG.out.cell 9 (by omega)
         go_wp2_with fail
         go_roundg (4 - 2)
         case measure=>omega
         case rel=>exact⟨2,by omega,rfl,by omega,HG.out.set (by omega) _ (by simp[fQ,S8.get]),HB3.out.setCell (p:=⟨D,9,none⟩) (by rw[hDw.out];exact Nat.le_refl _) _⟩
        | 2,_=>
         rw[show ((2:Nat):Int)=2 from rfl]
         obtain⟨x,hx,hfx⟩:=HG.out.cell 10 (by omega)
         go_wp2_with fail
         go_roundg (4 - 3)
         case measure=>omega
         case rel=>exact⟨3,by omega,rfl,by omega,HG.out.set (by omega) _ (by simp[fQ,S8.get]),HB3.out.setCell (p:=⟨D,10,none⟩) (by rw[hDw.out];exact Nat.le_refl _) _⟩
        | 3,_=>
         rw[show ((3:Nat):Int)=3 from rfl]
         obtain⟨x,hx,hfx⟩:=HG.out.cell 11 (by omega)
         go_wp2_with fail
         go_roundg (4 - 4)
         case measure=>omega
         case rel=>exact⟨4,by omega,rfl,by omega,HG.out.set (by omega) _ (by simp[fQ,S8.get]),HB3.out.setCell (p:=⟨D,11,none⟩) (by rw[hDw.out];exact Nat.le_refl _) _⟩
        | 4,_=>
         rw[show ((4:Nat):Int)=4 from rfl]
         go_wp2_with fail
         go_roundg (8 - 3)
         case measure=>omega
         case rel=>exact⟨3,by omega,rfl,by omega,HG,HB3⟩
      | 3,_=>
       rw[show ((3:Nat):Int)=3 from rfl]
       have hidx:∀W,(Instr.index 227 (.agg #[.int .u32 z.a,.int .u32 z.b,.int .u32 z.c,.int .u32 z.d,.int .u32 z.e,.int .u32 z.f,.int .u32 z.g,.int .u32 z.h]) (.int .i64 3)).run prog W=.ok (.int .u32 z.d) W:=fun W=>eB _ 3 _ (by omega) rfl W
       go_wp2_with fail
       clear hidx
       go_loopg [55] 4 (fun g v55 wr=>∃k:Nat,k<=4/\v55=.int .i64 k/\4 - k<=g/\aa (gl D z (12 + k) wr)/\aa (Below w.heap.size w wr))
       case atStart=>exact⟨0,by omega,rfl,by omega,HG,HB3⟩
       case round=>
        clear HG HB3
        obtain⟨k,hk,rfl,hg2,HG,HB3⟩:=hrel
        match k,hk with
        | 0,_=>
         rw[show ((0:Nat):Int)=0 from rfl]
         obtain⟨x,hx,hfx⟩:=HG.out.cell 12 (by omega)
         go_wp2_with fail
         go_roundg (4 - 1)
         case measure=>omega
         case rel=>exact⟨1,by omega,rfl,by omega,HG.out.set (by omega) _ (by simp[fQ,S8.get]),HB3.out.setCell (p:=⟨D,12,none⟩) (by rw[hDw.out];exact Nat.le_refl _) _⟩
        | 1,_=>
         rw[show ((1:Nat):Int)=1 from rfl]
         obtain⟨x,hx,hfx⟩:=HG.out.cell 13 (by omega)
         go_wp2_with fail
         go_roundg (4 - 2)
         case measure=>omega
         case rel=>exact⟨2,by omega,rfl,by omega,HG.out.set (by omega) _ (by simp[fQ,S8.get]),HB3.out.setCell (p:=⟨D,13,none⟩) (by rw[hDw.out];exact Nat.le_refl _) _⟩
        | 2,_=>
         rw[show ((2:Nat):Int)=2 from rfl]
         obtain⟨x,hx,hfx⟩:=HG.out.cell 14 (by omega)
         go_wp2_with fail
         go_roundg (4 - 3)
         case measure=>omega
         case rel=>exact⟨3,by omega,rfl,by omega,HG.out.set (by omega) _ (by simp[fQ,S8.get]),HB3.out.setCell (p:=⟨D,14,none⟩) (by rw[hDw.out];exact Nat.le_refl _) _⟩
        | 3,_=>
         rw[show ((3:Nat):Int)=3 from rfl]
         obtain⟨x,hx,hfx⟩:=HG.out.cell 15 (by omega)
         go_wp2_with fail
         go_roundg (4 - 4)
         case measure=>omega
         case rel=>exact⟨4,by omega,rfl,by omega,HG.out.set (by omega) _ (by simp[fQ,S8.get]),HB3.out.setCell (p:=⟨D,15,none⟩) (by rw[hDw.out];exact Nat.le_refl _) _⟩
        | 4,_=>
         rw[show ((4:Nat):Int)=4 from rfl]
         go_wp2_with fail
         go_roundg (8 - 4)
         case measure=>omega
         case rel=>exact⟨4,by omega,rfl,by omega,HG,HB3⟩
      | 4,_=>
       rw[show ((4:Nat):Int)=4 from rfl]
       have hidx:∀W,(Instr.index 227 (.agg #[.int .u32 z.a,.int .u32 z.b,.int .u32 z.c,.int .u32 z.d,.int .u32 z.e,.int .u32 z.f,.int .u32 z.g,.int .u32 z.h]) (.int .i64 4)).run prog W=.ok (.int .u32 z.e) W:=fun W=>eB _ 4 _ (by omega) rfl W
       go_wp2_with fail
       clear hidx
       go_loopg [55] 4 (fun g v55 wr=>∃k:Nat,k<=4/\v55=.int .i64 k/\4 - k<=g/\aa (gl D z (16 + k) wr)/\aa (Below w.heap.size w wr))
       case atStart=>exact⟨0,by omega,rfl,by omega,HG,HB3⟩
       case round=>
        clear HG HB3
        obtain⟨k,hk,rfl,hg2,HG,HB3⟩:=hrel
        match k,hk with
        | 0,_=>
         rw[show ((0:Nat):Int)=0 from rfl]
         obtain⟨x,hx,hfx⟩:=HG.out.cell 16 (by omega)
         go_wp2_with fail
         go_roundg (4 - 1)
         case measure=>omega
         case rel=>exact⟨1,by omega,rfl,by omega,HG.out.set (by omega) _ (by simp[fQ,S8.get]),HB3.out.setCell (p:=⟨D,16,none⟩) (by rw[hDw.out];exact Nat.le_refl _) _⟩
        | 1,_=>
         rw[show ((1:Nat):Int)=1 from rfl]
         obtain⟨x,hx,hfx⟩:=HG.out.cell 17 (by omega)
         go_wp2_with fail
         go_roundg (4 - 2)
         case measure=>omega
         case rel=>exact⟨2,by omega,rfl,by omega,HG.out.set (by omega) _ (by simp[fQ,S8.get]),HB3.out.setCell (p:=⟨D,17,none⟩) (by rw[hDw.out];exact Nat.le_refl _) _⟩
        | 2,_=>
         rw[show ((2:Nat):Int)=2 from rfl]
         obtain⟨x,hx,hfx⟩:=HG.out.cell 18 (by omega)
         go_wp2_with fail
         go_roundg (4 - 3)
         case measure=>omega
         case rel=>exact⟨3,by omega,rfl,by omega,HG.out.set (by omega) _ (by simp[fQ,S8.get]),HB3.out.setCell (p:=⟨D,18,none⟩) (by rw[hDw.out];exact Nat.le_refl _) _⟩
        | 3,_=>
         rw[show ((3:Nat):Int)=3 from rfl]
         obtain⟨x,hx,hfx⟩:=HG.out.cell 19 (by omega)
         go_wp2_with fail
         go_roundg (4 - 4)
         case measure=>omega
         case rel=>exact⟨4,by omega,rfl,by omega,HG.out.set (by omega) _ (by simp[fQ,S8.get]),HB3.out.setCell (p:=⟨D,19,none⟩) (by rw[hDw.out];exact Nat.le_refl _) _⟩
        | 4,_=>
         rw[show ((4:Nat):Int)=4 from rfl]
         go_wp2_with fail
         go_roundg (8 - 5)
         case measure=>omega
         case rel=>exact⟨5,by omega,rfl,by omega,HG,HB3⟩
      | 5,_=>
       rw[show ((5:Nat):Int)=5 from rfl]
       have hidx:∀W,(Instr.index 227 (.agg #[.int .u32 z.a,.int .u32 z.b,.int .u32 z.c,.int .u32 z.d,.int .u32 z.e,.int .u32 z.f,.int .u32 z.g,.int .u32 z.h]) (.int .i64 5)).run prog W=.ok (.int .u32 z.f) W:=fun W=>eB _ 5 _ (by omega) rfl W
       go_wp2_with fail
       clear hidx
       go_loopg [55] 4 (fun g v55 wr=>∃k:Nat,k<=4/\v55=.int .i64 k/\4 - k<=g/\aa (gl D z (20 + k) wr)/\aa (Below w.heap.size w wr))
       case atStart=>exact⟨0,by omega,rfl,by omega,HG,HB3⟩
       case round=>
        clear HG HB3
        obtain⟨k,hk,rfl,hg2,HG,HB3⟩:=hrel
        match k,hk with
        | 0,_=>
         rw[show ((0:Nat):Int)=0 from rfl]
         obtain⟨x,hx,hfx⟩:=HG.out.cell 20 (by omega)
         go_wp2_with fail
         go_roundg (4 - 1)
         case measure=>omega
         case rel=>exact⟨1,by omega,rfl,by omega,HG.out.set (by omega) _ (by simp[fQ,S8.get]),HB3.out.setCell (p:=⟨D,20,none⟩) (by rw[hDw.out];exact Nat.le_refl _) _⟩
        | 1,_=>
         rw[show ((1:Nat):Int)=1 from rfl]
         obtain⟨x,hx,hfx⟩:=HG.out.cell 21 (by omega)
         go_wp2_with fail
         go_roundg (4 - 2)
         case measure=>omega
         case rel=>exact⟨2,by omega,rfl,by omega,HG.out.set (by omega) _ (by simp[fQ,S8.get]),HB3.out.setCell (p:=⟨D,21,none⟩) (by rw[hDw.out];exact Nat.le_refl _) _⟩
        | 2,_=>
         rw[show ((2:Nat):Int)=2 from rfl]
         obtain⟨x,hx,hfx⟩:=HG.out.cell 22 (by omega)
         go_wp2_with fail
         go_roundg (4 - 3)
         case measure=>omega
         case rel=>exact⟨3,by omega,rfl,by omega,HG.out.set (by omega) _ (by simp[fQ,S8.get]),HB3.out.setCell (p:=⟨D,22,none⟩) (by rw[hDw.out];exact Nat.le_refl _) _⟩
        | 3,_=>
         rw[show ((3:Nat):Int)=3 from rfl]
         obtain⟨x,hx,hfx⟩:=HG.out.cell 23 (by omega)
         go_wp2_with fail
         go_roundg (4 - 4)
         case measure=>omega
         case rel=>exact⟨4,by omega,rfl,by omega,HG.out.set (by omega) _ (by simp[fQ,S8.get]),HB3.out.setCell (p:=⟨D,23,none⟩) (by rw[hDw.out];exact Nat.le_refl _) _⟩
        | 4,_=>
         rw[show ((4:Nat):Int)=4 from rfl]
         go_wp2_with fail
         go_roundg (8 - 6)
         case measure=>omega
         case rel=>exact⟨6,by omega,rfl,by omega,HG,HB3⟩
      | 6,_=>
       rw[show ((6:Nat):Int)=6 from rfl]
       have hidx:∀W,(Instr.index 227 (.agg #[.int .u32 z.a,.int .u32 z.b,.int .u32 z.c,.int .u32 z.d,.int .u32 z.e,.int .u32 z.f,.int .u32 z.g,.int .u32 z.h]) (.int .i64 6)).run prog W=.ok (.int .u32 z.g) W:=fun W=>eB _ 6 _ (by omega) rfl W
       go_wp2_with fail
       clear hidx
       go_loopg [55] 4 (fun g v55 wr=>∃k:Nat,k<=4/\v55=.int .i64 k/\4 - k<=g/\aa (gl D z (24 + k) wr)/\aa (Below w.heap.size w wr))
       case atStart=>exact⟨0,by omega,rfl,by omega,HG,HB3⟩
       case round=>
        clear HG HB3
        obtain⟨k,hk,rfl,hg2,HG,HB3⟩:=hrel
        match k,hk with
        | 0,_=>
         rw[show ((0:Nat):Int)=0 from rfl]
         obtain⟨x,hx,hfx⟩:=HG.out.cell 24 (by omega)
         go_wp2_with fail
         go_roundg (4 - 1)
         case measure=>omega
         case rel=>exact⟨1,by omega,rfl,by omega,HG.out.set (by omega) _ (by simp[fQ,S8.get]),HB3.out.setCell (p:=⟨D,24,none⟩) (by rw[hDw.out];exact Nat.le_refl _) _⟩
        | 1,_=>
         rw[show ((1:Nat):Int)=1 from rfl]
         obtain⟨x,hx,hfx⟩:=HG.out.cell 25 (by omega)
         go_wp2_with fail
         go_roundg (4 - 2)
         case measure=>omega
         case rel=>exact⟨2,by omega,rfl,by omega,HG.out.set (by omega) _ (by simp[fQ,S8.get]),HB3.out.setCell (p:=⟨D,25,none⟩) (by rw[hDw.out];exact Nat.le_refl _) _⟩
        | 2,_=>
         rw[show ((2:Nat):Int)=2 from rfl]
         obtain⟨x,hx,hfx⟩:=HG.out.cell 26 (by omega)
         go_wp2_with fail
         go_roundg (4 - 3)
         case measure=>omega
         case rel=>exact⟨3,by omega,rfl,by omega,HG.out.set (by omega) _ (by simp[fQ,S8.get]),HB3.out.setCell (p:=⟨D,26,none⟩) (by rw[hDw.out];exact Nat.le_refl _) _⟩
        | 3,_=>
         rw[show ((3:Nat):Int)=3 from rfl]
         obtain⟨x,hx,hfx⟩:=HG.out.cell 27 (by omega)
         go_wp2_with fail
         go_roundg (4 - 4)
         case measure=>omega
         case rel=>exact⟨4,by omega,rfl,by omega,HG.out.set (by omega) _ (by simp[fQ,S8.get]),HB3.out.setCell (p:=⟨D,27,none⟩) (by rw[hDw.out];exact Nat.le_refl _) _⟩
        | 4,_=>
         rw[show ((4:Nat):Int)=4 from rfl]
         go_wp2_with fail
         go_roundg (8 - 7)
         case measure=>omega
         case rel=>exact⟨7,by omega,rfl,by omega,HG,HB3⟩
      | 7,_=>
       rw[show ((7:Nat):Int)=7 from rfl]
       have hidx:∀W,(Instr.index 227 (.agg #[.int .u32 z.a,.int .u32 z.b,.int .u32 z.c,.int .u32 z.d,.int .u32 z.e,.int .u32 z.f,.int .u32 z.g,.int .u32 z.h]) (.int .i64 7)).run prog W=.ok (.int .u32 z.h) W:=fun W=>eB _ 7 _ (by omega) rfl W
       go_wp2_with fail
       clear hidx
       go_loopg [55] 4 (fun g v55 wr=>∃k:Nat,k<=4/\v55=.int .i64 k/\4 - k<=g/\aa (gl D z (28 + k) wr)/\aa (Below w.heap.size w wr))
       case atStart=>exact⟨0,by omega,rfl,by omega,HG,HB3⟩
       case round=>
        clear HG HB3
        obtain⟨k,hk,rfl,hg2,HG,HB3⟩:=hrel
        match k,hk with
        | 0,_=>
         rw[show ((0:Nat):Int)=0 from rfl]
         obtain⟨x,hx,hfx⟩:=HG.out.cell 28 (by omega)
         go_wp2_with fail
         go_roundg (4 - 1)
         case measure=>omega
         case rel=>exact⟨1,by omega,rfl,by omega,HG.out.set (by omega) _ (by simp[fQ,S8.get]),HB3.out.setCell (p:=⟨D,28,none⟩) (by rw[hDw.out];exact Nat.le_refl _) _⟩
        | 1,_=>
         rw[show ((1:Nat):Int)=1 from rfl]
         obtain⟨x,hx,hfx⟩:=HG.out.cell 29 (by omega)
         go_wp2_with fail
         go_roundg (4 - 2)
         case measure=>omega
         case rel=>exact⟨2,by omega,rfl,by omega,HG.out.set (by omega) _ (by simp[fQ,S8.get]),HB3.out.setCell (p:=⟨D,29,none⟩) (by rw[hDw.out];exact Nat.le_refl _) _⟩
        | 2,_=>
         rw[show ((2:Nat):Int)=2 from rfl]
         obtain⟨x,hx,hfx⟩:=HG.out.cell 30 (by omega)
         go_wp2_with fail
         go_roundg (4 - 3)
         case measure=>omega
         case rel=>exact⟨3,by omega,rfl,by omega,HG.out.set (by omega) _ (by simp[fQ,S8.get]),HB3.out.setCell (p:=⟨D,30,none⟩) (by rw[hDw.out];exact Nat.le_refl _) _⟩
        | 3,_=>
         rw[show ((3:Nat):Int)=3 from rfl]
         obtain⟨x,hx,hfx⟩:=HG.out.cell 31 (by omega)
         go_wp2_with fail
         go_roundg (4 - 4)
         case measure=>omega
         case rel=>exact⟨4,by omega,rfl,by omega,HG.out.set (by omega) _ (by simp[fQ,S8.get]),HB3.out.setCell (p:=⟨D,31,none⟩) (by rw[hDw.out];exact Nat.le_refl _) _⟩
        | 4,_=>
         rw[show ((4:Nat):Int)=4 from rfl]
         go_wp2_with fail
         go_roundg (8 - 8)
         case measure=>omega
         case rel=>exact⟨8,by omega,rfl,by omega,HG,HB3⟩
      | 8,_=>
       rw[show ((8:Nat):Int)=8 from rfl]
       have hfull:=HG.out.full
       have hi0:(prog.info? 43).map (·.size)=some (bL z).size:=by rw[cJ];kernel_rfl
       go_wp2_with (first
        | (refine wpList_load_row rfl _ _ rfl D rfl 43 (bL z) (0,0) _ hfull underlying43 rfl hi0 ?_)
        | (refine wpList_store_row rfl _ _ _ rfl D (bL z) rfl rfl 43 (bL z) hfull hi0 rfl (gM z) ?_;rw[setRow_self _ _ _ _ _ hfull])
        | fail)
       exact bodyPost_ret (results_cell_row rfl _ _ D 43 (bL z) (0,0) _ rfl hfull underlying43 rfl hi0) rfl ⟨by rw[HZ.out],HB3.out⟩
def jH (K:Nat->Int) (F:S8) (t:ByteArray):S8:=
 uf K (bN K F t (t.size / 64)) (t.extract (64 * (t.size / 64)) t.size) ((t.size : Int) % 18446744073709551616)
structure cV (F:S8) (K:Nat->Int) (kk:Array Value) (w:World):Prop where
 first:∀j,j<8->w.cell? ⟨1,j,none⟩=some (.int .u32 (F.get j))
 rounds:iQ kk w
 size:kk.size=64
 get:∀j,j<64->kk[j]?=some (.int .u32 (K j))
 ok:F.ok
theorem cV.on {F:S8} {K:Nat->Int} {kk:Array Value} {w w':World} (h:cV F K kk w) (hb:Below w.heap.size w w'):cV F K kk w':=
 ⟨fun j hj=>(hb.cell (aC (h.first j hj))).trans (h.first j hj),h.rounds.of_block (hb.block _ h.rounds.lt),h.size,h.get,h.ok⟩
theorem yP (text:ByteArray) (hsz:text.size<=9223372036854775807) (F:S8) (K:Nat->Int) (kk:Array Value) (w:World) (ht:cV F K kk w):
  Calls prog 155 #[.string text] w fun e w'=>e=.returned (.agg (bL (jH K F text)))/\Below w.heap.size w w':=by
 have HT:=ac ht
 have HSZ:=ac hsz
 clear ht hsz
 go_enter func155,ntmps155
 go_wp2_with fail
 rw[Bl]
 obtain⟨D,hD⟩:∃x,x=w.heap.size:=⟨_,rfl⟩
 obtain⟨wd,hwd⟩:∃x,x=w.alloc (.cells (Array.replicate 32 (.int .u8 0)) 43):=⟨_,rfl⟩
 have hsd:wd.heap.size=D + 1:=by rw[hwd,hD];simp
 have HD0:aa (wd.heap[D]?=some (.cells (Array.replicate 32 (.int .u8 0)) 43 (0,0))):=by rw[hwd,hD];exact ax _ _
 have HNd:aa (Below w.heap.size w wd):=by rw[hwd];exact af _ _
 have HDw:=ac hD
 have HTd:aa (cV F K kk wd):=HT.out.on HNd.out
 rw[<-hD,<-hwd]
 clear hwd hD HT
 refine (yO F wd HTd.out.first).mono ?_
 rintro e w1 ⟨rfl,hh1,hb1⟩
 rw[hsd] at hh1 ⊢
 have HH1:=ac hh1
 have HN1:=ac hb1
 clear hh1 hb1
 go_wp2_with fail
 have hgD:2<wd.heap.size:=HTd.out.rounds.lt
 have hgD':D + 1≠2:=by omega
 have HT1:=ac (HTd.out.on HN1.out)
 refine (oA (D + 1) text ByteArray.empty F HT1.out.ok 0 (by omega) w1 (by have:=HSZ.out;simpa using this) kk HT1.out.size K HT1.out.rounds HT1.out.get hgD' HH1.out).mono ?_
 rintro e w2 ⟨rfl,hkp,hh2⟩
 rw[ByteArray.empty_append,Int.zero_add] at hh2
 have HH2:=ac hh2
 have HKP:=ac hkp
 clear hh2 hkp
 go_wp2_with fail
 have hs1:wd.heap.size<w1.heap.size:=by rw[hsd];exact aC HH1.out.rest
 have hs2:w1.heap.size<=w2.heap.size:=HKP.out.size
 have HR2:aa (iQ kk w2):=HT1.out.rounds.of_block (HKP.out.block _ (by omega) (Ne.symm hgD'))
 refine (rR (D + 1) (text.extract (64 * (text.size / 64)) text.size) (bN K F text (text.size / 64)) (jW K F text HT1.out.ok _) ((text.size:Int) % 18446744073709551616) (by omega) w2 (by rw[ByteArray.size_extract];omega) kk HT1.out.size K HR2.out HT1.out.get HH2.out).mono ?_
 rintro e w3 ⟨rfl,hb3⟩
 have HN3:=ac hb3
 have hfull:w3.heap[D]?=some (.cells (Array.replicate 32 (.int .u8 0)) 43 (0,0)):=
  (HN3.out.block D (by omega)).trans ((HKP.out.block D (by omega) (by omega)).trans ((HN1.out.block D (by omega)).trans HD0.out))
 have HB3:aa (Below w.heap.size w w3):=by
  have h12:Below D w1 w2:=am.below (HKP.out.mono (fun k hk h=>by omega)) (by omega)
  have h01:Below D wd w1:=HN1.out.mono (by omega)
  have h23:Below D w2 w3:=HN3.out.mono (by omega)
  have h0:Below D w wd:=by rw[HDw.out];exact HNd.out
  exact (by rw[<-HDw.out];exact ((h0.trans h01).trans h12).trans h23)
 obtain⟨z,hz⟩:∃z,z=jH K F text:=⟨_,rfl⟩
 have HZ:=ac hz
 rw[show uf K (bN K F text (text.size / 64)) (text.extract (64 * (text.size / 64)) text.size) ((text.size:Int) % 18446744073709551616)=z from hz.symm]
 have hi0:(prog.info? 43).map (·.size)=some (bL z).size:=by rw[cJ];kernel_rfl
 clear hz hb3 hs1 hs2
 go_wp2_with (first
  | (refine wpList_store_row rfl _ _ _ rfl D (bL z) rfl rfl 43 _ hfull hi0 (by rw[cJ];rfl) (gM z) ?_)
  | fail)
 exact bodyPost_ret (results_cell_row rfl _ _ D 43 (bL z) (0,0) _ rfl (setRow_heap w3 D _ _ _ _ hfull) underlying43 rfl hi0) rfl ⟨by rw[HZ.out],HB3.out.trans ⟨rfl,rfl,rfl,by simp[World.setRow],fun k hk=>setRow_other w3 D k _ (by have:=HDw.out;omega)⟩⟩
