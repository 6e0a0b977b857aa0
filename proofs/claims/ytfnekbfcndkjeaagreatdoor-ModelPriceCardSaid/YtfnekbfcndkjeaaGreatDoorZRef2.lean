/- The document's reader over a text: Num, take, tick. -/
import Derived.Test.YtfnekbfcndkjeaaGreatDoorZOct1
import Derived.Lib.LazyBuf
set_option maxHeartbeats 4000000
set_option maxRecDepth 100000
set_option linter.all false
namespace Go.Proofs.YtfnekbfcndkjeaaGreatDoor
open Go.Proofs.Tryz Go.RowKit
def mg (v:Int) (j:Nat):Int:=v / 256 ^ (7 - j) % 256
def iR (v:Int):Nat->Array Value
 | 0=>#[.int .u8 0,.int .u8 0,.int .u8 0,.int .u8 0,.int .u8 0,.int .u8 0,.int .u8 0,.int .u8 0]
 | 1=>#[.int .u8 0,.int .u8 0,.int .u8 0,.int .u8 0,.int .u8 0,.int .u8 0,.int .u8 0,.int .u8 (v % 256)]
 | 2=>#[.int .u8 0,.int .u8 0,.int .u8 0,.int .u8 0,.int .u8 0,.int .u8 0,.int .u8 (v / 256 % 256),.int .u8 (v % 256)]
 | 3=>#[.int .u8 0,.int .u8 0,.int .u8 0,.int .u8 0,.int .u8 0,.int .u8 (v / 65536 % 256),.int .u8 (v / 256 % 256),.int .u8 (v % 256)]
 | 4=>#[.int .u8 0,.int .u8 0,.int .u8 0,.int .u8 0,.int .u8 (v / 16777216 % 256),.int .u8 (v / 65536 % 256),.int .u8 (v / 256 % 256),.int .u8 (v % 256)]
 | 5=>#[.int .u8 0,.int .u8 0,.int .u8 0,.int .u8 (v / 4294967296 % 256),.int .u8 (v / 16777216 % 256),.int .u8 (v / 65536 % 256),.int .u8 (v / 256 % 256),.int .u8 (v % 256)]
 | 6=>#[.int .u8 0,.int .u8 0,.int .u8 (v / 1099511627776 % 256),.int .u8 (v / 4294967296 % 256),.int .u8 (v / 16777216 % 256),.int .u8 (v / 65536 % 256),.int .u8 (v / 256 % 256),.int .u8 (v % 256)]
 | 7=>#[.int .u8 0,.int .u8 (v / 281474976710656 % 256),.int .u8 (v / 1099511627776 % 256),.int .u8 (v / 4294967296 % 256),.int .u8 (v / 16777216 % 256),.int .u8 (v / 65536 % 256),.int .u8 (v / 256 % 256),.int .u8 (v % 256)]
 | _=>#[.int .u8 (v / 72057594037927936 % 256),.int .u8 (v / 281474976710656 % 256),.int .u8 (v / 1099511627776 % 256),.int .u8 (v / 4294967296 % 256),.int .u8 (v / 16777216 % 256),.int .u8 (v / 65536 % 256),.int .u8 (v / 256 % 256),.int .u8 (v % 256)]
theorem ug (v:Int) (j:Nat) (hj:j<8):(iR v 8)[j]?=some (.int .u8 (mg v j)):=by
 match j,hj with
 | 0,_ | 1,_ | 2,_ | 3,_ | 4,_ | 5,_ | 6,_ | 7,_=>simp[iR,mg]
 | _ + 8,h=>omega
def jX (v:Int):Nat->Bool
 | 0=>true
 | m + 1=>jX v m &&decide (mg v m=0)
theorem tD (v:Int) (j:Nat):∀m,j<m->mg v j≠0->jX v m=false
 | 0,h,_=>by omega
 | m + 1,h,hx=>by
  by_cases e:j=m
  ·rw[jX,<-e]
   simp[hx]
  ·rw[jX,tD v j m (by omega) hx]
   rfl
def dB (v:Int) (n:Nat):List Int:=(List.range n).map fun i=>mg v (8 - n + i)
def gZ (t:ByteArray) (v n:Int):ByteArray × Int:=
 if ja n then if jX v (8 - n.toNat) then (t++strOfNums (dB v n.toNat),0) else (ByteArray.empty,3) else (ByteArray.empty,2)
def yQ (t:ByteArray) (v n:Int) (w:World) (e:Ending) (w':World):Prop:=
 e=.returned (.tuple #[.string (gZ t v n).1,.int .i64 (gZ t v n).2])/\Below w.heap.size w w'
def cj (t:ByteArray):List Int:=t.data.toList.map fun x=>(x.toNat:Int)
theorem bp (t:ByteArray):(cj t).length=t.size:=by
 rw[cj,List.length_map]
 rfl
theorem qi (t:ByteArray):(t.data.toList.map fun x=>Value.int .u8 (x.toNat:Int))=(cj t).map (Value.int .u8):=by
 rw[cj,List.map_map]
 rfl
theorem tE (t:ByteArray) (ys:List Int):strOfNums (cj t++ys)=t++strOfNums ys:=by
 apply ByteArray.ext
 rw[ByteArray.data_append]
 apply Array.toList_inj.1
 rw[Array.toList_append,strOfNums_data,strOfNums_data,List.map_append,cj,List.map_map]
 congr 1
 rw[List.map_congr_left (g:=id),List.map_id]
 intro x _
 simp
theorem uh (W:World) (D:Nat) (xs ys:List Int) (n:Nat) (hn:n=xs.length) (hc:∀j,j<xs.length + ys.length->(W.cell? ⟨D,j,none⟩).isSome=true) (i:Nat) (hi:i<xs.length + ys.length):
  ((W.setCells D 0 (xs.map (Value.int .u8))).setCells D n (ys.map (Value.int .u8))).cell? ⟨D,0 + i,none⟩=some (.int .u8 ((xs++ys).getD i 0)):=by
 subst hn
 rw[Nat.zero_add]
 have h1:∀j,j<xs.length->(W.setCells D 0 (xs.map (Value.int .u8))).cell? ⟨D,j,none⟩=some (.int .u8 (xs.getD j 0)):=by
  intro j hj
  have:=World.cell?_setCells_in D (xs.map (Value.int .u8)) 0 W (fun k hk=>by rw[Nat.zero_add];rw[List.length_map] at hk;exact hc k (by omega)) j (by rw[List.length_map];exact hj)
  rw[Nat.zero_add] at this
  rw[this,List.getElem_map,List.getD_eq_getElem?_getD,List.getElem?_eq_getElem hj]
  rfl
 by_cases e:i<xs.length
 ·rw[World.cell?_setCells_out D _ _ _ _ (fun _ _=>.inl e),h1 i e,List.getD_eq_getElem?_getD,List.getD_eq_getElem?_getD,List.getElem?_append_left e]
 ·obtain⟨k,rfl⟩:∃k,i=xs.length + k:=⟨i - xs.length,by omega⟩
  have h2:∀j,j<(ys.map (Value.int .u8)).length->((W.setCells D 0 (xs.map (Value.int .u8))).cell? ⟨D,xs.length + j,none⟩).isSome=true:=by
   intro j hj
   rw[List.length_map] at hj
   rw[World.cell?_setCells_out D _ _ _ _ (fun _ _=>.inr (by rw[List.length_map];simp only;omega))]
   exact hc _ (by omega)
  rw[World.cell?_setCells_in D (ys.map (Value.int .u8)) xs.length _ h2 k (by rw[List.length_map];omega),List.getElem_map,List.getD_eq_getElem?_getD,List.getElem?_append_right (by omega),Nat.add_sub_cancel_left,List.getElem?_eq_getElem (by omega)]
  rfl
theorem mN (b:Nat):∀(vs:List Value) (o:Nat) (W:World),W.drew.setCells b o vs=(W.setCells b o vs).drew
 | [],_,_=>rfl
 | v :: r,o,W=>mN b r (o + 1) (W.setCell ⟨b,o,none⟩ v)
theorem gN {B b:Nat} {a:World} (hb:B<=b):∀(vs:List Value) (o:Nat) (w:World),Below B a w->Below B a (w.setCells b o vs)
 | [],_,_,h=>h
 | v :: r,o,_,h=>gN hb r (o + 1) _ (h.setCell (p:=⟨b,o,none⟩) hb v)
theorem rS (W:World) (L:Nat) (hL:L<=1099511627786):(Instr.makeSlice 22 (.int .i64 (L:Int)) (.int .i64 (L:Int))).run prog W=.ok (.slice (some ⟨W.heap.size,0,none⟩) L L) (W.alloc (.cells (madeCells #[.int .u8 0] L) 5)):=by
 obtain⟨i0,hi,hz0,hz1,hz2⟩:=info_parts Tryz.infoU8
 have:=run_make (P:=prog) W 22 5 i0 (.int .u8 0) underlying22 hi hz0 .i64 .i64 L L (by omega) (by omega) (by rw[hz2];omega) (by omega)
 simpa [hz1,Value.cells] using this
theorem Al (D N:Nat) (hN:N<=8) (W:World):(Instr.sliceAt 197 (.pointer (some ⟨D,0,none⟩)) none (some (.int .i64 (8 - (N:Int)))) (some (.int .i64 (8 - (N:Int))))).run prog W=.ok (.slice (some ⟨D,0,none⟩) (8 - N) (8 - N)) W:=by
 have ht:prog.underlying 197=some (.array (prog.arrayLen 197) (prog.elem 197)):=by kernel_rfl
 have hl:prog.arrayLen 197=8:=by kernel_rfl
 have he:prog.elem 197=5:=by kernel_rfl
 have hz:=Tryz.sizeOf5
 rw[run_sliceAt_array_hm (ht:=ht) (h0:=by omega) (h2:=Int.le_refl _) (h3:=by rw[hl];omega),he]
 have hm:(8 - (N:Int)).toNat=8 - N:=by omega
 simp[hz,hm,slicedAt,Addr.add]
theorem AW (D N:Nat) (hN:N<=8) (h1:1<=N) (W:World):(Instr.sliceAt 197 (.pointer (some ⟨D,0,none⟩)) (some (.int .i64 (8 - (N:Int)))) none none).run prog W=.ok (.slice (some ⟨D,8 - N,none⟩) N N) W:=by
 have ht:prog.underlying 197=some (.array (prog.arrayLen 197) (prog.elem 197)):=by kernel_rfl
 have hl:prog.arrayLen 197=8:=by kernel_rfl
 have he:prog.elem 197=5:=by kernel_rfl
 have hz:=Tryz.sizeOf5
 rw[run_sliceAt_array_l (ht:=ht) (h0:=by omega) (h1:=by rw[hl];omega),he,hl]
 have hm:(8 - (N:Int)).toNat=8 - N:=by omega
 have hq:8 - (8 - N)=N:=by omega
 simp[hz,hm,slicedAt,hq]
 rw[if_neg (by omega)]
 simp[Addr.add]
 intro h
 omega
theorem Am (D L N:Nat) (h1:1<=N) (W:World):(Instr.sliceAt 22 (.slice (some ⟨D,0,none⟩) (L + N) (L + N)) (some (.int .i64 (L:Int))) none none).run prog W=.ok (.slice (some ⟨D,L,none⟩) N N) W:=by
 have hu:prog.underlying 22=some (.slice (prog.elem 22)):=by kernel_rfl
 have he:prog.elem 22=5:=by kernel_rfl
 have hz:=Tryz.sizeOf5
 rw[run_sliceAt_slice (h:=hu),run_slice_l (h0:=by omega) (h1:=by omega)]
 ·have hq:L + N - L=N:=by omega
  have hN0:N≠0:=by omega
  simp[he,hz,sliced,Addr.add,hq,hN0]
  intro h
  exact h.symm
 ·exact hu
theorem yR (t:ByteArray) (hsz:t.size<=1099511627776) (v n:Int) (hv:0<=v/\v<=18446744073709551615) (w:World):
  Calls prog 105 #[.string t,.int .u64 v,.int .i64 n] w (yQ t v n w):=by
 have HSZ:=ac hsz
 have HV:=ac hv
 clear hsz hv
 go_enter func105,ntmps105
 go_wp2_with fail
 refine (wt n _).mono ?_
 rintro e w1 ⟨rfl,rfl⟩
 by_cases h1:ja n=true
 ·obtain⟨hn1,hn8⟩:1<=n/\n<=8:=by simpa [ja] using h1
  obtain⟨N,rfl⟩:=Int.eq_ofNat_of_zero_le (show 0<=n by omega)
  have HW:=ac h1
  go_wp2_with fail
  clear h1
  go_loopg [16] 8 (fun g v16 wr=>∃k:Nat,k<=8/\v16=.int .i64 k/\8 - k<=g/\wr=w1.alloc (.cells (iR v k) 197))
  case atStart=>exact⟨0,by omega,rfl,by omega,rfl⟩
  case round=>
   obtain⟨k,hk,rfl,hg,rfl⟩:=hrel
   match k,hk with
   | 0,_=>
    rw[show ((0:Nat):Int)=0 from rfl,show iR v 0=#[.int .u8 0,.int .u8 0,.int .u8 0,.int .u8 0,.int .u8 0,.int .u8 0,.int .u8 0,.int .u8 0] from rfl]
    go_wp2_with fail
    go_roundg (8 - 1)
    case measure=>omega
    case rel=>exact⟨1,by omega,rfl,by omega,rfl⟩
   | 1,_=>
    rw[show ((1:Nat):Int)=1 from rfl,show iR v 1=#[.int .u8 0,.int .u8 0,.int .u8 0,.int .u8 0,.int .u8 0,.int .u8 0,.int .u8 0,.int .u8 (v % 256)] from rfl]
    go_wp2_with fail
    go_roundg (8 - 2)
    case measure=>omega
    case rel=>exact⟨2,by omega,rfl,by omega,rfl⟩
   | 2,_=>
    rw[show ((2:Nat):Int)=2 from rfl,show iR v 2=#[.int .u8 0,.int .u8 0,.int .u8 0,.int .u8 0,.int .u8 0,.int .u8 0,.int .u8 (v / 256 % 256),.int .u8 (v % 256)] from rfl]
    go_wp2_with fail
    go_roundg (8 - 3)
    case measure=>omega
    case rel=>exact⟨3,by omega,rfl,by omega,rfl⟩
   | 3,_=>
    rw[show ((3:Nat):Int)=3 from rfl,show iR v 3=#[.int .u8 0,.int .u8 0,.int .u8 0,.int .u8 0,.int .u8 0,.int .u8 (v / 65536 % 256),.int .u8 (v / 256 % 256),.int .u8 (v % 256)] from rfl]
    go_wp2_with fail
    go_roundg (8 - 4)
    case measure=>omega
    case rel=>exact⟨4,by omega,rfl,by omega,rfl⟩
   | 4,_=>
    rw[show ((4:Nat):Int)=4 from rfl,show iR v 4=#[.int .u8 0,.int .u8 0,.int .u8 0,.int .u8 0,.int .u8 (v / 16777216 % 256),.int .u8 (v / 65536 % 256),.int .u8 (v / 256 % 256),.int .u8 (v % 256)] from rfl]
    go_wp2_with fail
    go_roundg (8 - 5)
    case measure=>omega
    case rel=>exact⟨5,by omega,rfl,by omega,rfl⟩
   | 5,_=>
    rw[show ((5:Nat):Int)=5 from rfl,show iR v 5=#[.int .u8 0,.int .u8 0,.int .u8 0,.int .u8 (v / 4294967296 % 256),.int .u8 (v / 16777216 % 256),.int .u8 (v / 65536 % 256),.int .u8 (v / 256 % 256),.int .u8 (v % 256)] from rfl]
    go_wp2_with fail
    go_roundg (8 - 6)
    case measure=>omega
    case rel=>exact⟨6,by omega,rfl,by omega,rfl⟩
   | 6,_=>
    rw[show ((6:Nat):Int)=6 from rfl,show iR v 6=#[.int .u8 0,.int .u8 0,.int .u8 (v / 1099511627776 % 256),.int .u8 (v / 4294967296 % 256),.int .u8 (v / 16777216 % 256),.int .u8 (v / 65536 % 256),.int .u8 (v / 256 % 256),.int .u8 (v % 256)] from rfl]
    go_wp2_with fail
    go_roundg (8 - 7)
    case measure=>omega
    case rel=>exact⟨7,by omega,rfl,by omega,rfl⟩
   | 7,_=>
    rw[show ((7:Nat):Int)=7 from rfl,show iR v 7=#[.int .u8 0,.int .u8 (v / 281474976710656 % 256),.int .u8 (v / 1099511627776 % 256),.int .u8 (v / 4294967296 % 256),.int .u8 (v / 16777216 % 256),.int .u8 (v / 65536 % 256),.int .u8 (v / 256 % 256),.int .u8 (v % 256)] from rfl]
    go_wp2_with fail
    go_roundg (8 - 8)
    case measure=>omega
    case rel=>exact⟨8,by omega,rfl,by omega,rfl⟩
   | 8,_=>
    rw[show ((8:Nat):Int)=8 from rfl]
    obtain⟨wa,hwa⟩:∃x,x=w1.alloc (.cells (iR v 8) 197):=⟨_,rfl⟩
    obtain⟨D,hD⟩:∃x,x=w1.heap.size:=⟨_,rfl⟩
    have HC:aa (∀ j,j<8->wa.cell? ⟨D,j,none⟩=some (.int .u8 (mg v j))):=by
     intro j hj
     rw[hwa,hD,aO]
     exact ug v j hj
    have HNa:aa (Below w1.heap.size w1 wa):=by rw[hwa];exact af _ _
    have hsa:wa.heap.size=D + 1:=by rw[hwa,hD];simp
    have HDw:=ac hD
    rw[<-hwa,<-hD]
    have hN8:N<=8:=by omega
    have hN1:1<=N:=by omega
    have hhm:=Al D N hN8
    obtain⟨M,hM⟩:∃M,M=8 - N:=⟨_,rfl⟩
    rw[<-hM] at hhm
    clear hwa hD hg
    go_wp2_with fail
    clear hhm
    have HTH0:aa (jX v 0=true):=rfl
    go_loopg [34] M (fun g v34 wr=>∃j:Nat,j<=M/\v34=.int .i64 j/\M - j<=g/\aa (jX v j=true)/\wr=wa)
    case atStart=>exact⟨0,by omega,rfl,by omega,HTH0,rfl⟩
    case round=>
     clear HTH0
     obtain⟨j,hj,rfl,hg,HTH,rfl⟩:=hrel
     by_cases hlt:j<M
     ·have hji:(j:Int)<M:=by omega
      have c:=HC.out j (by omega)
      obtain⟨x,hx⟩:∃x,x=mg v j:=⟨_,rfl⟩
      rw[<-hx] at c
      have HX:=ac hx
      clear hx
      by_cases hz:x=0
      ·have hz1:(x !=0)=false:=by simpa using hz
       have HZ:=ac hz
       clear hz
       go_wp2_with fail
       go_roundg (M - (j + 1))
       case measure=>omega
       case rel=>exact⟨j + 1,by omega,rfl,by omega,by rw[aa,jX,HTH.out,<-HX.out,HZ.out];rfl,rfl⟩
      ·have hz1:(x !=0)=true:=by simpa using hz
       have HZ:=ac hz
       clear hz
       go_wp2_with fail
       go_ret2
       have HP:gZ t v N=(ByteArray.empty,3):=by
        have:jX v (8 - N)=false:=by
         rw[<-hM]
         exact tD v j M hlt (by rw[<-HX.out];exact HZ.out)
        rw[gZ,HW.out,Int.toNat_natCast,this]
        rfl
       exact⟨by rw[HP];rfl,HNa.out⟩
     ·have hji:¬(j:Int)<M:=by omega
      have hjM:j=M:=by omega
      have HT2:aa (jX v M=true):=by rw[<-hjM];exact HTH.out
      clear HTH hjM
      have hsz:=HSZ.out
      have hmk:=rS wr (t.size + N) (by omega)
      rw[Int.natCast_add] at hmk
      clear hji hj hg
      have hsa2:wr.heap.size=D + 1:=hsa
      obtain⟨wm,hwm⟩:∃x,x=wr.alloc (.cells (madeCells #[.int .u8 0] (t.size + N)) 5):=⟨_,rfl⟩
      have HM1:aa (∀ j,j<t.size + N->(wm.cell? ⟨D + 1,j,none⟩).isSome=true/\wm.frozen? ⟨D + 1,j,none⟩=false):=by
       intro j hj
       rw[hwm,<-hsa2,aO,eT,Array.getElem?_eq_getElem (by rw[size_madeCells];exact hj)]
       exact⟨rfl,rfl⟩
      have HNm:aa (Below w1.heap.size w1 wm):=by rw[hwm];exact aD HNa.out (af _ _)
      have HCm:aa (∀ j,j<8->wm.cell? ⟨D,j,none⟩=some (.int .u8 (mg v j))):=by
       intro j hj
       rw[hwm]
       exact ((af wr _).cell (p:=⟨D,j,none⟩) (by rw[hsa2];exact Nat.lt_succ_self _)).trans (HC.out j hj)
      rw[<-hwm,hsa2] at hmk
      clear hwm
      have hz8:∀w,(Go.sizeOf 5).run prog w=.ok 1 w:=Tryz.sizeOf5
      have hcp:=run_copy_string (P:=prog) wm 22 9 3 5 (D + 1) 0 (t.size + N) (t.size + N) t underlying22 hz8 (by omega) (fun j hj=>by rw[Nat.zero_add];exact (HM1.out j (by omega)).1) (fun j hj=>by rw[Nat.zero_add];exact (HM1.out j (by omega)).2)
      rw[qi] at hcp
      obtain⟨w3,hw3⟩:∃x,x=wm.setCells (D + 1) 0 ((cj t).map (Value.int .u8)):=⟨_,rfl⟩
      rw[<-hw3] at hcp
      have HW3:=ac hw3
      clear hz8 hw3
      go_wp2_with fail
      clear hcp hmk
      have hll:=AW D N hN8 hN1
      have hsl:=Am (D + 1) t.size N hN1
      have e8:IntKind.i64.wrap (8 - (N:Int))=8 - (N:Int):=IntWalk.i64_in _ (by omega)
      have hpl:(dB v N).length=N:=by rw[dB,List.length_map,List.length_range]
      have hcD:∀j,j<8->w3.drew.cell? ⟨D,j,none⟩=some (.int .u8 (mg v j)):=by
       intro j hj
       show w3.cell? _=_
       rw[HW3.out,World.cell?_setCells_out (D + 1) _ _ _ _ (fun h=>by simp only at h;omega)]
       exact HCm.out j hj
      have hcL:∀j,j<t.size + N->(w3.drew.cell? ⟨D + 1,j,none⟩).isSome=true/\w3.drew.frozen? ⟨D + 1,j,none⟩=false:=by
       intro j hj
       show (w3.cell? _).isSome=true/\w3.frozen? _=false
       rw[HW3.out]
       refine⟨?_,by rw[World.frozen?_setCells];exact (HM1.out j hj).2⟩
       by_cases e:j<t.size
       ·have:=World.cell?_setCells_in (D + 1) ((cj t).map (Value.int .u8)) 0 wm (fun k hk=>by rw[Nat.zero_add];rw[List.length_map,bp] at hk;exact (HM1.out k (by omega)).1) j (by rw[List.length_map,bp];exact e)
        rw[Nat.zero_add] at this
        rw[this]
        rfl
       ·rw[World.cell?_setCells_out (D + 1) _ _ _ _ (fun _ _=>.inr (by rw[List.length_map,bp];simp only;omega))]
        exact (HM1.out j hj).1
      have hcp2:=run_copy_cells (P:=prog) w3.drew 22 22 3 5 (D + 1) t.size N N ⟨D,8 - N,none⟩ N N ((dB v N).map (Value.int .u8)) underlying22 (by kernel_rfl) (by rw[List.length_map,hpl];exact (Nat.min_self N).symm)
       (fun j x hj=>by
        have hjN:j<N:=by
         have:=(List.getElem?_eq_some_iff.1 hj).1
         rw[List.length_map,hpl] at this
         exact this
        have hx:x=.int .u8 (mg v (8 - N + j)):=by
         rw[dB,List.map_map,List.getElem?_map,List.getElem?_range hjN] at hj
         exact (Option.some.inj hj).symm
        rw[hx]
        rw[show (⟨D,8 - N,none⟩:Addr).add j=⟨D,8 - N + j,none⟩ by simp[Addr.add]]
        exact hcD (8 - N + j) (by omega))
       (fun j hj=>(hcL (t.size + j) (by rw[List.length_map,hpl] at hj;omega)).1) (fun j hj=>(hcL (t.size + j) (by rw[List.length_map,hpl] at hj;omega)).2)
       (fun x hx=>by
        obtain⟨y,_,rfl⟩:=List.mem_map.1 hx
        rfl)
      obtain⟨w4,hw4⟩:∃x,x=w3.drew.setCells (D + 1) t.size ((dB v N).map (Value.int .u8)):=⟨_,rfl⟩
      rw[<-hw4] at hcp2
      have kc:=run_convert_bytes_arg (P:=prog) (w:=w4) 22 5 underlying22 underlying5 (D + 1) 0 (t.size + N) (t.size + N) (cj t++dB v N) (by rw[List.length_append,bp,hpl])
       (by
        intro i hi
        rw[hw4,HW3.out,<-mN]
        exact uh wm.drew (D + 1) (cj t) (dB v N) t.size (bp t).symm (fun j hj=>by rw[bp,hpl] at hj;exact (HM1.out j hj).1) i (by rw[bp,hpl];exact hi)) 9 underlying9
      rw[tE] at kc
      have HW4:=ac hw4
      clear hcD hcL hw4
      go_still_tail 7,(by kernel_rfl)
      go_wp2_with fail
      have HP:gZ t v N=(t++strOfNums (dB v N),0):=by
       have hth:jX v (8 - N)=true:=by rw[<-hM];exact HT2.out
       rw[gZ,HW.out,Int.toNat_natCast,hth]
       rfl
      go_ret2
      refine⟨by rw[HP];rfl,?_⟩
      rw[HW4.out,HW3.out]
      exact gN (by have:=HDw.out;omega) _ _ _ (Below.drew (gN (by have:=HDw.out;omega) _ _ _ HNm.out))
 ·have h1':ja n=false:=by simpa using h1
  have HP:aa (gZ t v n=(ByteArray.empty,2)):=by rw[aa,gZ,h1'];rfl
  go_wp2
  go_ret2
  exact⟨by rw[HP.out];rfl,Below.refl _ _⟩
theorem oB (t:ByteArray) (v n:Int):(gZ t v n).1.size<=t.size + 8:=by
 unfold gZ
 by_cases h1:ja n=true
 ·obtain⟨hn1,hn8⟩:1<=n/\n<=8:=by simpa [ja] using h1
  rw[if_pos h1]
  by_cases h2:jX v (8 - n.toNat)=true
  ·rw[if_pos h2]
   simp only
   rw[ByteArray.size_append,strOfNums_size,dB,List.length_map,List.length_range]
   omega
  ·rw[if_neg h2]
   exact Nat.zero_le _
 ·rw[if_neg h1]
  exact Nat.zero_le _
structure jY (b:Nat) (t:ByteArray) (w:World):Prop where
 cell:w.cell? ⟨b,0,none⟩=some (.string t)
 free:w.frozen? ⟨b,0,none⟩=false
def kt (b:Nat) (t:ByteArray) (w:World) (e:Ending) (w':World):Prop:=e=.returned (.tuple #[])/\am (·≠b) w w'/\jY b t w'
theorem pn (b:Nat) (t:ByteArray) (ht:t.size<=1099511627776) (v n:Int) (hv:0<=v/\v<=18446744073709551615) (w:World) (h:jY b t w):
  Calls prog 68 #[.pointer (some ⟨b,0,none⟩),.int .u64 v,.int .i64 n] w (kt b (gZ t v n).1 w):=by
 have c0:=h.cell
 have H:=ac h
 have hbl:b<w.heap.size:=aC h.cell
 clear h
 go_enter func68,ntmps68
 go_wp2_with fail
 refine (yR t ht v n hv w).mono ?_
 rintro e w1 ⟨rfl,hb⟩
 obtain⟨x,hx⟩:∃x,x=(gZ t v n).1:=⟨_,rfl⟩
 obtain⟨y,hy⟩:∃y,y=(gZ t v n).2:=⟨_,rfl⟩
 rw[<-hx,<-hy]
 have HXX:=ac hx
 clear hx hy
 have c1:w1.cell? ⟨b,0,none⟩=some (.string t):=(hb.cell (p:=⟨b,0,none⟩) hbl).trans H.out.cell
 have f1:w1.frozen? ⟨b,0,none⟩=false:=(hb.frozen (p:=⟨b,0,none⟩) hbl).trans H.out.free
 clear c0
 go_wp2_with fail
 go_end0
 rw[<-HXX.out]
 exact⟨rfl,am.setCell (ak hb _) (p:=⟨b,0,none⟩) (.inr (fun h=>h rfl)) _,World.cell?_setCell_same _ _ _ c1,by rw[World.frozen?_setCell];exact f1⟩
def bV (t:ByteArray) (xs:List Int):ByteArray:=xs.foldl (fun t x=>(gZ t (x % 18446744073709551616) 1).1) t
theorem lN (xs:List Int):∀t:ByteArray,(bV t xs).size<=t.size + 8 * xs.length:=by
 induction xs with
 | nil=>intro t;exact Nat.le_refl _
 | cons x xs ih=>
  intro t
  have h1:=ih (gZ t (x % 18446744073709551616) 1).1
  have h2:=oB t (x % 18446744073709551616) 1
  rw[List.length_cons]
  show (bV (gZ t (x % 18446744073709551616) 1).1 xs).size<=_
  omega
theorem qj (t:ByteArray) (xs:List Int) (k:Nat) (hk:k<xs.length):bV t (xs.take (k + 1))=(gZ (bV t (xs.take k)) (xs.getD k 0 % 18446744073709551616) 1).1:=by
 rw[List.take_succ_eq_append_getElem hk,bV,List.foldl_append,List.getD_eq_getElem?_getD,List.getElem?_eq_getElem hk]
 rfl
theorem oC (b:Nat) (t:ByteArray) (xs:List Int) (ht:t.size + 8 * xs.length<=1099511627776) (a:Option Addr) (cap:Nat) (w:World) (h:jY b t w)
  (hx:0<xs.length->∃lb lo,a=some ⟨lb,lo,none⟩/\lb≠b/\∀j,j<xs.length->w.cell? ⟨lb,lo + j,none⟩=some (.int .i64 (xs.getD j 0))):
  Calls prog 65 #[.pointer (some ⟨b,0,none⟩),.slice a xs.length cap] w (kt b (bV t xs) w):=by
 obtain⟨n,hn⟩:∃n,n=xs.length:=⟨_,rfl⟩
 have HN:=ac hn
 rw[<-hn] at hx ht ⊢
 have H:aa (jY b (bV t (xs.take 0)) w):=h
 have HX:=ac hx
 have HK:aa (am (·≠b) w w):=am.refl _ w
 clear h hx hn
 go_enter func65,ntmps65
 go_wp2_with fail
 go_loopg [8] n (fun g v8 wr=>∃k:Nat,k<=n/\v8=.int .i64 k/\n - k<=g/\aa (jY b (bV t (xs.take k)) wr)/\aa (am (·≠b) w wr))
 case atStart=>exact⟨0,by omega,rfl,by omega,H,HK⟩
 case round=>
  clear H HK
  obtain⟨k,hk,rfl,hg,H,HK⟩:=hrel
  by_cases hlt:k<n
  ·have hki:(k:Int)<n:=by omega
   obtain⟨lb,lo,rfl,hlb,hc⟩:=HX.out (by omega)
   have c:wr.cell? ⟨lb,lo + k,none⟩=some (.int .i64 (xs.getD k 0)):=by
    have c0:=hc k hlt
    exact (World.cell?_of_block (w:=w) (a:=⟨lb,lo + k,none⟩) (HK.out.block lb (aC c0) hlb)).trans c0
   obtain⟨x,hxx⟩:∃x,x=xs.getD k 0:=⟨_,rfl⟩
   rw[<-hxx] at c
   have HXX:=ac hxx
   have hw:IntKind.u64.wrap x=x % 18446744073709551616:=IntKind.wrap_u64 x
   clear hxx hc
   go_wp2_with fail
   have hsz:(bV t (xs.take k)).size<=1099511627776:=by
    have h1:=lN (xs.take k) t
    rw[List.length_take] at h1
    omega
   refine (pn b (bV t (xs.take k)) hsz (x % 18446744073709551616) 1 (by omega) wr H.out).mono ?_
   rintro e w2 ⟨rfl,hk2,hw2⟩
   have H2:aa (jY b (bV t (xs.take (k + 1))) w2):=by
    rw[qj t xs k (by rw[<-HN.out];exact hlt),<-HXX.out]
    exact hw2
   have HK2:aa (am (·≠b) w w2):=HK.out.trans hk2
   clear hk2 hw2 c hsz
   go_wp2_with fail
   go_roundg (n - (k + 1))
   case measure=>omega
   case rel=>exact⟨k + 1,by omega,rfl,by omega,H2,HK2⟩
  ·have hki:¬(k:Int)<n:=by omega
   have hkn:k=n:=by omega
   have H2:aa (jY b (bV t xs) wr):=by
    have:=H.out
    rw[hkn,HN.out,List.take_length] at this
    exact this
   clear hkn H
   go_wp2_with fail
   go_end0
   exact⟨rfl,HK.out,H2.out⟩
theorem jY.on {b:Nat} {t:ByteArray} {w w':World} (h:jY b t w) (hb:Below w.heap.size w w'):jY b t w':=
 ⟨(hb.cell (p:=⟨b,0,none⟩) (aC h.cell)).trans h.cell,(hb.frozen (p:=⟨b,0,none⟩) (aC h.cell)).trans h.free⟩
theorem ga (b:Nat) (t:ByteArray) (x:Int) (ht:t.size + 8<=1099511627776) (w:World) (h:jY b t w) (ty:TypeId):
  Calls prog 65 #[.pointer (some ⟨b,0,none⟩),.slice (some ⟨w.heap.size,0,none⟩) 1 1] (w.alloc (.cells #[.int .i64 x] ty)) (kt b (bV t [x]) w):=by
 refine (oC b t [x] (by simpa using ht) (some ⟨w.heap.size,0,none⟩) 1 _ (h.on (af _ _)) (fun _=>⟨_,_,rfl,Nat.ne_of_gt (aC h.cell),fun j hj=>?_⟩)).mono ?_
 ·have h0:j=0:=by simpa using hj
  subst h0
  rw[Nat.zero_add,aO]
  rfl
 ·rintro e w1 ⟨rfl,hk,hw⟩
  exact⟨rfl,(ak (af _ _) _).trans hk,hw⟩
theorem rT (g b:Nat) (t:ByteArray) (ht:t.size + 8<=1099511627776) (x:Int) (w:World) (hg:w.cell? ⟨g,0,none⟩=some (.pointer (some ⟨b,0,none⟩))) (h:jY b t w):
  Calls prog 70 #[.int .i64 x,.pointer (some ⟨g,0,none⟩)] w (kt b (bV t [x]) w):=by
 have H:=ac h
 have hbl:b<w.heap.size:=aC h.cell
 clear h
 go_enter func70,ntmps70
 go_wp2_with fail
 refine (ga b t x ht w H.out _).mono ?_
 rintro e w1 ⟨rfl,hk,hw⟩
 clear hg
 go_wp2_with fail
 go_end0
 exact⟨rfl,hk,hw⟩
theorem rU (g b:Nat) (t:ByteArray) (ht:t.size + 8<=1099511627776) (x:Int) (w:World) (hg:w.cell? ⟨g,0,none⟩=some (.pointer (some ⟨b,0,none⟩))) (h:jY b t w):
  Calls prog 71 #[.int .i64 x,.pointer (some ⟨g,0,none⟩)] w (kt b (bV t [x]) w):=by
 have H:=ac h
 have hbl:b<w.heap.size:=aC h.cell
 clear h
 go_enter func71,ntmps71
 go_wp2_with fail
 refine (ga b t x ht w H.out _).mono ?_
 rintro e w1 ⟨rfl,hk,hw⟩
 clear hg
 go_wp2_with fail
 go_end0
 exact⟨rfl,hk,hw⟩
def rowI (t:ByteArray) (n:Nat) (xs:List Int):ByteArray:=xs.foldl (fun t x=>bV t [x]) (bV t [(n:Int)])
theorem dC (t:ByteArray) (x:Int):(bV t [x]).size<=t.size + 8:=lN [x] t
theorem nV (xs:List Int):∀t:ByteArray,(xs.foldl (fun t x=>bV t [x]) t).size<=t.size + 8 * xs.length:=by
 induction xs with
 | nil=>intro t;exact Nat.le_refl _
 | cons x xs ih=>
  intro t
  have h1:=ih (bV t [x])
  have h2:=dC t x
  rw[List.length_cons,List.foldl_cons]
  omega
theorem oD (t:ByteArray) (n:Nat) (xs:List Int):(rowI t n xs).size<=t.size + 8 + 8 * xs.length:=by
 have h1:=nV xs (bV t [(n:Int)])
 have h2:=dC t (n:Int)
 unfold rowI
 omega
theorem oE (t:ByteArray) (n:Nat) (xs:List Int) (k:Nat) (hk:k<xs.length):rowI t n (xs.take (k + 1))=bV (rowI t n (xs.take k)) [xs.getD k 0]:=by
 rw[List.take_succ_eq_append_getElem hk,rowI,List.foldl_append,List.getD_eq_getElem?_getD,List.getElem?_eq_getElem hk]
 rfl
theorem ui (b g:Nat) (hgb:g≠b) (t:ByteArray) (xs:List Int) (ht:t.size + 16 + 8 * xs.length<=1099511627776) (a:Option Addr) (cap:Nat) (w:World) (h:jY b t w)
  (hg:w.cell? ⟨g,0,none⟩=some (.pointer (some ⟨b,0,none⟩)))
  (hx:0<xs.length->∃lb lo,a=some ⟨lb,lo,none⟩/\lb≠b/\∀j,j<xs.length->w.cell? ⟨lb,lo + j,none⟩=some (.int .i64 (xs.getD j 0))):
  Calls prog 69 #[.pointer (some ⟨b,0,none⟩),.slice a xs.length cap,.func (.func 70) #[] #[.pointer (some ⟨g,0,none⟩)]] w (kt b (rowI t xs.length xs) w):=by
 obtain⟨n,hn⟩:∃n,n=xs.length:=⟨_,rfl⟩
 have HN:=ac hn
 rw[<-hn] at hx ht ⊢
 have H:=ac h
 have HX:=ac hx
 have HG:=ac hg
 clear h hx hn hg
 go_enter func69,ntmps69
 go_wp2_with fail
 refine (ga b t (n:Int) (by omega) w H.out _).mono ?_
 rintro e w1 ⟨rfl,hk1,hw1⟩
 have H1:aa (jY b (rowI t n (xs.take 0)) w1):=hw1
 have HK1:=ac hk1
 clear hk1 hw1
 go_wp2_with fail
 go_loopg [15] n (fun gk v15 wr=>∃k:Nat,k<=n/\v15=.int .i64 k/\n - k<=gk/\aa (jY b (rowI t n (xs.take k)) wr)/\aa (am (·≠b) w wr))
 case atStart=>exact⟨0,by omega,rfl,by omega,H1,HK1⟩
 case round=>
  clear H1 HK1
  obtain⟨k,hk,rfl,hgk,H1,HK⟩:=hrel
  by_cases hlt:k<n
  ·have hki:(k:Int)<n:=by omega
   obtain⟨lb,lo,rfl,hlb,hc⟩:=HX.out (by omega)
   have c:wr.cell? ⟨lb,lo + k,none⟩=some (.int .i64 (xs.getD k 0)):=by
    have c0:=hc k hlt
    exact (World.cell?_of_block (w:=w) (a:=⟨lb,lo + k,none⟩) (HK.out.block lb (aC c0) hlb)).trans c0
   have cg:wr.cell? ⟨g,0,none⟩=some (.pointer (some ⟨b,0,none⟩)):=(World.cell?_of_block (w:=w) (a:=⟨g,0,none⟩) (HK.out.block g (aC HG.out) hgb)).trans HG.out
   have CG:=ac cg
   obtain⟨x,hxx⟩:∃x,x=xs.getD k 0:=⟨_,rfl⟩
   rw[<-hxx] at c
   have HXX:=ac hxx
   clear hxx hc cg
   go_wp2_with fail
   have hsz:(rowI t n (xs.take k)).size + 8<=1099511627776:=by
    have h1:=oD t n (xs.take k)
    rw[List.length_take] at h1
    omega
   refine (rT g b (rowI t n (xs.take k)) hsz x wr CG.out H1.out).mono ?_
   rintro e w2 ⟨rfl,hk2,hw2⟩
   have H2:aa (jY b (rowI t n (xs.take (k + 1))) w2):=by
    rw[oE t n xs k (by rw[<-HN.out];exact hlt),<-HXX.out]
    exact hw2
   have HK2:aa (am (·≠b) w w2):=HK.out.trans hk2
   clear hk2 hw2 c hsz
   go_wp2_with fail
   go_roundg (n - (k + 1))
   case measure=>omega
   case rel=>exact⟨k + 1,by omega,rfl,by omega,H2,HK2⟩
  ·have hki:¬(k:Int)<n:=by omega
   have hkn:k=n:=by omega
   have H2:aa (jY b (rowI t n xs) wr):=by
    have:=H1.out
    rw[hkn,HN.out,List.take_length] at this
    rw[HN.out]
    exact this
   clear hkn H1
   go_wp2_with fail
   go_end0
   exact⟨rfl,HK.out,H2.out⟩
theorem uj (b g:Nat) (hgb:g≠b) (t:ByteArray) (xs:List Int) (ht:t.size + 16 + 8 * xs.length<=1099511627776) (a:Option Addr) (cap:Nat) (w:World) (h:jY b t w)
  (hg:w.cell? ⟨g,0,none⟩=some (.pointer (some ⟨b,0,none⟩)))
  (hx:0<xs.length->∃lb lo,a=some ⟨lb,lo,none⟩/\lb≠b/\∀j,j<xs.length->w.cell? ⟨lb,lo + j,none⟩=some (.int .i64 (xs.getD j 0))):
  Calls prog 69 #[.pointer (some ⟨b,0,none⟩),.slice a xs.length cap,.func (.func 71) #[] #[.pointer (some ⟨g,0,none⟩)]] w (kt b (rowI t xs.length xs) w):=by
 obtain⟨n,hn⟩:∃n,n=xs.length:=⟨_,rfl⟩
 have HN:=ac hn
 rw[<-hn] at hx ht ⊢
 have H:=ac h
 have HX:=ac hx
 have HG:=ac hg
 clear h hx hn hg
 go_enter func69,ntmps69
 go_wp2_with fail
 refine (ga b t (n:Int) (by omega) w H.out _).mono ?_
 rintro e w1 ⟨rfl,hk1,hw1⟩
 have H1:aa (jY b (rowI t n (xs.take 0)) w1):=hw1
 have HK1:=ac hk1
 clear hk1 hw1
 go_wp2_with fail
 go_loopg [15] n (fun gk v15 wr=>∃k:Nat,k<=n/\v15=.int .i64 k/\n - k<=gk/\aa (jY b (rowI t n (xs.take k)) wr)/\aa (am (·≠b) w wr))
 case atStart=>exact⟨0,by omega,rfl,by omega,H1,HK1⟩
 case round=>
  clear H1 HK1
  obtain⟨k,hk,rfl,hgk,H1,HK⟩:=hrel
  by_cases hlt:k<n
  ·have hki:(k:Int)<n:=by omega
   obtain⟨lb,lo,rfl,hlb,hc⟩:=HX.out (by omega)
   have c:wr.cell? ⟨lb,lo + k,none⟩=some (.int .i64 (xs.getD k 0)):=by
    have c0:=hc k hlt
    exact (World.cell?_of_block (w:=w) (a:=⟨lb,lo + k,none⟩) (HK.out.block lb (aC c0) hlb)).trans c0
   have cg:wr.cell? ⟨g,0,none⟩=some (.pointer (some ⟨b,0,none⟩)):=(World.cell?_of_block (w:=w) (a:=⟨g,0,none⟩) (HK.out.block g (aC HG.out) hgb)).trans HG.out
   have CG:=ac cg
   obtain⟨x,hxx⟩:∃x,x=xs.getD k 0:=⟨_,rfl⟩
   rw[<-hxx] at c
   have HXX:=ac hxx
   clear hxx hc cg
   go_wp2_with fail
   have hsz:(rowI t n (xs.take k)).size + 8<=1099511627776:=by
    have h1:=oD t n (xs.take k)
    rw[List.length_take] at h1
    omega
   refine (rU g b (rowI t n (xs.take k)) hsz x wr CG.out H1.out).mono ?_
   rintro e w2 ⟨rfl,hk2,hw2⟩
   have H2:aa (jY b (rowI t n (xs.take (k + 1))) w2):=by
    rw[oE t n xs k (by rw[<-HN.out];exact hlt),<-HXX.out]
    exact hw2
   have HK2:aa (am (·≠b) w w2):=HK.out.trans hk2
   clear hk2 hw2 c hsz
   go_wp2_with fail
   go_roundg (n - (k + 1))
   case measure=>omega
   case rel=>exact⟨k + 1,by omega,rfl,by omega,H2,HK2⟩
  ·have hki:¬(k:Int)<n:=by omega
   have hkn:k=n:=by omega
   have H2:aa (jY b (rowI t n xs) wr):=by
    have:=H1.out
    rw[hkn,HN.out,List.take_length] at this
    rw[HN.out]
    exact this
   clear hkn H1
   go_wp2_with fail
   go_end0
   exact⟨rfl,HK.out,H2.out⟩
def nW (t:ByteArray) (x y:Int):ByteArray:=(gZ (bV t [x]) (y % 18446744073709551616) 4).1
theorem rV (g b:Nat) (t:ByteArray) (ht:t.size + 24<=1099511627776) (x y:Int) (w:World) (hgb:g≠b) (hg:w.cell? ⟨g,0,none⟩=some (.pointer (some ⟨b,0,none⟩))) (h:jY b t w):
  Calls prog 67 #[.agg #[.int .i64 x,.int .i64 y],.pointer (some ⟨g,0,none⟩)] w (kt b (nW t x y) w):=by
 have H:=ac h
 have HG:=ac hg
 have hbl:b<w.heap.size:=aC h.cell
 have hgl:g<w.heap.size:=aC hg
 have hw:IntKind.u64.wrap y=y % 18446744073709551616:=IntKind.wrap_u64 y
 clear h hg
 go_enter func67,ntmps67
 have cg:=HG.out
 go_wp2_with fail
 obtain⟨L,hL⟩:∃x,x=w.heap.size:=⟨_,rfl⟩
 obtain⟨wa,hwa⟩:∃z,z=w.alloc (.cells #[.int .i64 x,.int .i64 y] 63):=⟨_,rfl⟩
 have hsa:wa.heap.size=L + 1:=by rw[hwa,hL];simp
 have HNa:aa (Below w.heap.size w wa):=by rw[hwa];exact af _ _
 have HY:aa (wa.cell? ⟨L,1,none⟩=some (.int .i64 y)):=by rw[hwa,hL];exact aO _ _ _ 1
 have HLw:=ac hL
 rw[<-hwa,<-hL,<-hsa]
 clear hwa hL cg
 refine (ga b t x (by omega) wa (H.out.on HNa.out) _).mono ?_
 rintro e w1 ⟨rfl,hk1,hw1⟩
 have hLb:L≠b:=by have:=HLw.out;omega
 have hga:wa.cell? ⟨g,0,none⟩=some (.pointer (some ⟨b,0,none⟩)):=(HNa.out.cell (p:=⟨g,0,none⟩) hgl).trans HG.out
 have cg:w1.cell? ⟨g,0,none⟩=some (.pointer (some ⟨b,0,none⟩)):=(World.cell?_of_block (w:=wa) (a:=⟨g,0,none⟩) (hk1.block g (aC hga) hgb)).trans hga
 have cy:w1.cell? ⟨L,1,none⟩=some (.int .i64 y):=(World.cell?_of_block (w:=wa) (a:=⟨L,1,none⟩) (hk1.block L (aC HY.out) hLb)).trans HY.out
 have HK1:=ac hk1
 have HW1:=ac hw1
 clear hk1 hw1 hga
 go_wp2_with fail
 have hsz:(bV t [x]).size<=1099511627776:=by
  have:=dC t x
  omega
 refine (pn b (bV t [x]) hsz (y % 18446744073709551616) 4 (by omega) w1 HW1.out).mono ?_
 rintro e w2 ⟨rfl,hk2,hw2⟩
 clear cg cy
 go_wp2_with fail
 go_end0
 exact⟨rfl,(ak HNa.out _).trans (HK1.out.trans hk2),hw2⟩
def rowL (t:ByteArray) (n:Nat) (xs:List (Int × Int)):ByteArray:=xs.foldl (fun t x=>nW t x.1 x.2) (bV t [(n:Int)])
theorem uk (t:ByteArray) (x y:Int):(nW t x y).size<=t.size + 16:=by
 have h1:=oB (bV t [x]) (y % 18446744073709551616) 4
 have h2:=dC t x
 unfold nW
 omega
theorem nX (xs:List (Int × Int)):∀t:ByteArray,(xs.foldl (fun t x=>nW t x.1 x.2) t).size<=t.size + 16 * xs.length:=by
 induction xs with
 | nil=>intro t;exact Nat.le_refl _
 | cons x xs ih=>
  intro t
  have h1:=ih (nW t x.1 x.2)
  have h2:=uk t x.1 x.2
  rw[List.length_cons,List.foldl_cons]
  omega
theorem ul (t:ByteArray) (n:Nat) (xs:List (Int × Int)):(rowL t n xs).size<=t.size + 8 + 16 * xs.length:=by
 have h1:=nX xs (bV t [(n:Int)])
 have h2:=dC t (n:Int)
 unfold rowL
 omega
theorem um (t:ByteArray) (n:Nat) (xs:List (Int × Int)) (k:Nat) (hk:k<xs.length):rowL t n (xs.take (k + 1))=nW (rowL t n (xs.take k)) (xs.getD k (0,0)).1 (xs.getD k (0,0)).2:=by
 rw[List.take_succ_eq_append_getElem hk,rowL,List.foldl_append,List.getD_eq_getElem?_getD,List.getElem?_eq_getElem hk]
 rfl
theorem wu (b g:Nat) (hgb:g≠b) (t:ByteArray) (xs:List (Int × Int)) (ht:t.size + 40 + 24 * xs.length<=1099511627776) (a:Option Addr) (cap:Nat) (w:World) (h:jY b t w)
  (hg:w.cell? ⟨g,0,none⟩=some (.pointer (some ⟨b,0,none⟩)))
  (hx:0<xs.length->∃lb lo,a=some ⟨lb,lo,none⟩/\lb≠b/\∀j,j<xs.length->w.cell? ⟨lb,lo + j * 2,none⟩=some (.int .i64 (xs.getD j (0,0)).1)/\w.cell? ⟨lb,lo + j * 2 + 1,none⟩=some (.int .i64 (xs.getD j (0,0)).2)):
  Calls prog 66 #[.pointer (some ⟨b,0,none⟩),.slice a xs.length cap,.func (.func 67) #[] #[.pointer (some ⟨g,0,none⟩)]] w (kt b (rowL t xs.length xs) w):=by
 obtain⟨n,hn⟩:∃n,n=xs.length:=⟨_,rfl⟩
 have HN:=ac hn
 rw[<-hn] at hx ht ⊢
 have H:=ac h
 have HX:=ac hx
 have HG:=ac hg
 clear h hx hn hg
 go_enter func66,ntmps66
 go_wp2_with fail
 refine (ga b t (n:Int) (by omega) w H.out _).mono ?_
 rintro e w1 ⟨rfl,hk1,hw1⟩
 have H1:aa (jY b (rowL t n (xs.take 0)) w1):=hw1
 have HK1:=ac hk1
 clear hk1 hw1
 go_wp2_with fail
 go_loopg [15] n (fun gk v15 wr=>∃k:Nat,k<=n/\v15=.int .i64 k/\n - k<=gk/\aa (jY b (rowL t n (xs.take k)) wr)/\aa (am (·≠b) w wr))
 case atStart=>exact⟨0,by omega,rfl,by omega,H1,HK1⟩
 case round=>
  clear H1 HK1
  obtain⟨k,hk,rfl,hgk,H1,HK⟩:=hrel
  by_cases hlt:k<n
  ·have hki:(k:Int)<n:=by omega
   obtain⟨lb,lo,rfl,hlb,hc⟩:=HX.out (by omega)
   have c:wr.cell? ⟨lb,lo + k * 2,none⟩=some (.int .i64 (xs.getD k (0,0)).1):=by
    have c0:=(hc k hlt).1
    exact (World.cell?_of_block (w:=w) (a:=⟨lb,lo + k * 2,none⟩) (HK.out.block lb (aC c0) hlb)).trans c0
   have d:wr.cell? ⟨lb,lo + k * 2 + 1,none⟩=some (.int .i64 (xs.getD k (0,0)).2):=by
    have c0:=(hc k hlt).2
    exact (World.cell?_of_block (w:=w) (a:=⟨lb,lo + k * 2 + 1,none⟩) (HK.out.block lb (aC c0) hlb)).trans c0
   have cg:wr.cell? ⟨g,0,none⟩=some (.pointer (some ⟨b,0,none⟩)):=(World.cell?_of_block (w:=w) (a:=⟨g,0,none⟩) (HK.out.block g (aC HG.out) hgb)).trans HG.out
   have CG:=ac cg
   obtain⟨x,hxx⟩:∃x,x=xs.getD k (0,0):=⟨_,rfl⟩
   rw[<-hxx] at c d
   obtain⟨x,y⟩:=x
   have HXX:=ac hxx
   clear hxx hc cg
   go_wp2_with fail
   have hsz:(rowL t n (xs.take k)).size + 24<=1099511627776:=by
    have h1:=ul t n (xs.take k)
    rw[List.length_take] at h1
    omega
   have hN1:=af wr (.cells #[.int .i64 x,.int .i64 y] 63)
   refine (rV g b (rowL t n (xs.take k)) hsz x y _ hgb ((hN1.cell (p:=⟨g,0,none⟩) (aC CG.out)).trans CG.out) (H1.out.on hN1)).mono ?_
   rintro e w2 ⟨rfl,hk2,hw2⟩
   have H2:aa (jY b (rowL t n (xs.take (k + 1))) w2):=by
    rw[um t n xs k (by rw[<-HN.out];exact hlt),<-HXX.out]
    exact hw2
   have HK2:aa (am (·≠b) w w2):=HK.out.trans ((ak hN1 _).trans hk2)
   clear hk2 hw2 c d hsz hN1
   go_wp2_with fail
   go_roundg (n - (k + 1))
   case measure=>omega
   case rel=>exact⟨k + 1,by omega,rfl,by omega,H2,HK2⟩
  ·have hki:¬(k:Int)<n:=by omega
   have hkn:k=n:=by omega
   have H2:aa (jY b (rowL t n xs) wr):=by
    have:=H1.out
    rw[hkn,HN.out,List.take_length] at this
    rw[HN.out]
    exact this
   clear hkn H1
   go_wp2_with fail
   go_end0
   exact⟨rfl,HK.out,H2.out⟩
def aE (x lo hi:Int):Bool:=decide (lo<=x) &&decide (x<=hi)
theorem cC (x lo hi:Int) (w:World):Calls prog 100 #[.int .i64 x,.int .i64 lo,.int .i64 hi] w fun e w'=>e=.returned (.bool (aE x lo hi))/\w'=w:=by
 go_enter func100,ntmps100
 unfold aE
 by_cases h1:lo<=x
 ·by_cases h2:x<=hi
  ·have e1:decide (lo<=x)=true:=by simpa using h1
   have e2:decide (x<=hi)=true:=by simpa using h2
   go_wp2
   go_ret
   exact⟨by simp[e1,e2],rfl⟩
  ·have e1:decide (lo<=x)=true:=by simpa using h1
   have e2:decide (x<=hi)=false:=by simpa using h2
   go_wp2
   go_ret
   exact⟨rfl,rfl⟩
 ·have e1:decide (lo<=x)=false:=by simpa using h1
  go_wp2
  go_ret
  exact⟨rfl,rfl⟩
end Go.Proofs.YtfnekbfcndkjeaaGreatDoor
namespace Go.Proofs.YtfnekbfcndkjeaaGreatDoor
open Go.Proofs.Tryz Go.RowKit
def seg (f:Nat->Int) (p n:Nat):List Int:=(List.range n).map fun i=>f (p + i)
theorem jZ (f:Nat->Int) (p n:Nat):(seg f p n).length=n:=by simp[seg]
theorem po (f:Nat->Int) (p n i:Nat) (h:i<n):(seg f p n)[i]?=some (f (p + i)):=by
 rw[seg,List.getElem?_map,List.getElem?_range h]
 rfl
def Bs (l:List Int):Prop:=∀x∈l,0<=x/\x<=255
theorem Bs.nil:Bs []:=fun x h=>by simp at h
theorem Bs.cons {x:Int} {l:List Int} (h:0<=x/\x<=255) (hl:Bs l):Bs (x :: l):=fun y hy=>by
 rcases List.mem_cons.1 hy with rfl | hy
 ·exact h
 ·exact hl y hy
theorem Bs.append {a b:List Int} (ha:Bs a) (hb:Bs b):Bs (a++b):=fun x hx=>by
 rcases List.mem_append.1 hx with h | h
 ·exact ha x h
 ·exact hb x h
theorem Bs.left {a b:List Int} (h:Bs (a++b)):Bs a:=fun x hx=>h x (List.mem_append.2 (.inl hx))
theorem Bs.right {a b:List Int} (h:Bs (a++b)):Bs b:=fun x hx=>h x (List.mem_append.2 (.inr hx))
theorem Bs.seg (t:ByteArray) (p n:Nat):Bs (seg (bf t) p n):=fun x hx=>by
 obtain⟨i,_,rfl⟩:=List.mem_map.1 hx
 exact li t _
theorem mO (t:ByteArray) (i:Nat) (h:i<t.size):(cj t)[i]?=some (bf t i):=by
 have h2:i<t.data.toList.length:=by simpa using h
 rw[cj,List.getElem?_map,List.getElem?_eq_getElem h2,bf,List.getD_eq_getElem?_getD,List.getElem?_eq_getElem h2]
 rfl
theorem rW (t:ByteArray):cj t=seg (bf t) 0 t.size:=by
 apply List.ext_getElem?
 intro i
 by_cases h:i<t.size
 ·rw[mO t i h,po _ _ _ _ h,Nat.zero_add]
 ·rw[List.getElem?_eq_none (by rw[bp];omega),List.getElem?_eq_none (by rw[jZ];omega)]
theorem bX (a b:List Int):strOfNums (a++b)=strOfNums a++strOfNums b:=by
 apply ByteArray.ext
 rw[ByteArray.data_append]
 apply Array.toList_inj.1
 simp[strOfNums]
theorem lj:strOfNums []=ByteArray.empty:=rfl
theorem g6 (t:ByteArray):t++ByteArray.empty=t:=by
 apply ByteArray.ext
 rw[ByteArray.data_append]
 exact Array.append_empty
theorem dz (l:List Int):(strOfNums l).size=l.length:=by simp[strOfNums,ByteArray.size]
theorem ku (l:List Int) (h:Bs l):cj (strOfNums l)=l:=by
 unfold cj strOfNums
 simp only[List.map_map]
 conv=>rhs;rw[<-List.map_id l]
 apply List.map_congr_left
 intro x hx
 obtain⟨h0,h1⟩:=h x hx
 have e:(UInt8.ofNat x.toNat).toNat=x.toNat:=by
  rw[UInt8.toNat_ofNat']
  omega
 show ((UInt8.ofNat x.toNat).toNat:Int)=x
 rw[e]
 omega
theorem Bs.nums (t:ByteArray):Bs (cj t):=by rw[rW];exact Bs.seg t _ _
theorem gO (t:ByteArray) (i:Nat):bf t i=(cj t).getD i 0:=by
 rw[List.getD_eq_getElem?_getD]
 by_cases h:i<t.size
 ·rw[mO t i h];rfl
 ·rw[List.getElem?_eq_none (by rw[bp];omega),bf,List.getD_eq_getElem?_getD,List.getElem?_eq_none (by simpa using h)];rfl
theorem pp (l:List Int) (h:Bs l) (i:Nat):bf (strOfNums l) i=l.getD i 0:=by rw[gO,ku l h]
def be:Nat->Int->List Int
 | 0,_=>[]
 | n + 1,v=>be n (v / 256)++[v % 256]
theorem aR:∀(n:Nat) (v:Int),(be n v).length=n
 | 0,_=>rfl
 | n + 1,v=>by rw[be,List.length_append,aR n];rfl
theorem jL:∀(n:Nat) (v:Int),Bs (be n v)
 | 0,_=>Bs.nil
 | n + 1,v=>(jL n _).append (Bs.cons (by omega) Bs.nil)
theorem An (x:Int) (h:0<=x/\x<=255):be 1 x=[x]:=by
 show [x % 256]=[x]
 rw[Int.emod_eq_of_lt h.1 (by omega)]
theorem qk (v:Int) (n:Nat) (hn:n<=8):dB v n=be n v:=by
 have gen:∀(n:Nat) (v:Int),be n v=(List.range n).map fun i=>v / 256 ^ (n - 1 - i) % 256:=by
  intro n
  induction n with
  | zero=>intro v;rfl
  | succ n ih=>
   intro v
   rw[be,ih,List.range_succ,List.map_append]
   congr 1
   ·apply List.map_congr_left
    intro i hi
    have hi:=List.mem_range.1 hi
    show v / 256 / 256 ^ (n - 1 - i) % 256=v / 256 ^ (n + 1 - 1 - i) % 256
    rw[show n + 1 - 1 - i=(n - 1 - i) + 1 by omega,Int.pow_succ,Int.mul_comm,<-Int.ediv_ediv_of_nonneg (by decide)]
   ·show [v % 256]=[v / 256 ^ (n + 1 - 1 - n) % 256]
    rw[show n + 1 - 1 - n=0 by omega,Int.pow_zero,Int.ediv_one]
 rw[gen,dB]
 apply List.map_congr_left
 intro i hi
 have hi:=List.mem_range.1 hi
 show v / 256 ^ (7 - (8 - n + i)) % 256=_
 rw[show 7 - (8 - n + i)=n - 1 - i by omega]
theorem qm (v:Int):∀m,(∀ j,j<m->mg v j=0)->jX v m=true
 | 0,_=>rfl
 | m + 1,h=>by rw[jX,qm v m (fun j hj=>h j (by omega)),h m (by omega)];rfl
theorem uo {a b:Nat} (h:a<=b):(256:Int) ^ a<=256 ^ b:=by
 have:=Nat.pow_le_pow_right (show 0<256 by decide) h
 have h2:((256 ^ a:Nat):Int)<=((256 ^ b:Nat):Int):=Int.ofNat_le.2 this
 rw[Int.natCast_pow,Int.natCast_pow] at h2
 exact h2
theorem lm (t:ByteArray) (v:Int) (n:Nat) (h1:1<=n) (h8:n<=8) (h0:0<=v) (hv:v<256 ^ n):gZ t v n=(t++strOfNums (be n v),0):=by
 have hw:ja (n:Int)=true:=by simp[ja];omega
 have ht:jX v (8 - (n:Int).toNat)=true:=by
  apply qm
  intro j hj
  rw[Int.toNat_natCast] at hj
  have:=uo (show n<=7 - j by omega)
  rw[mg,Int.ediv_eq_zero_of_lt h0 (by omega)]
  rfl
 rw[gZ,if_pos hw,if_pos ht,Int.toNat_natCast,qk v n h8]
theorem fk (xs:List Int) (h:Bs xs):∀t:ByteArray,bV t xs=t++strOfNums xs:=by
 induction xs with
 | nil=>intro t;rw[lj,g6];rfl
 | cons x xs ih=>
  intro t
  have hx:=h x (by simp)
  show bV (gZ t (x % 18446744073709551616) 1).1 xs=_
  have:=lm t (x % 18446744073709551616) 1 (by omega) (by omega) (by omega) (by rw[Int.pow_one];omega)
  rw[show ((1:Nat):Int)=1 from rfl] at this
  rw[this,ih (fun y hy=>h y (by simp[hy])),ByteArray.append_assoc,<-bX]
  rw[show x % 18446744073709551616=x by omega,An x hx]
  rfl
structure qo (w:World) (b:Nat) (r:ByteArray) (q:Bool):Prop where
 rest:w.cell? ⟨b,0,none⟩=some (.string r)
 bad:w.cell? ⟨b,1,none⟩=some (.bool q)
 f0:w.frozen? ⟨b,0,none⟩=false
 f1:w.frozen? ⟨b,1,none⟩=false
theorem qo.setRest {w:World} {b:Nat} {r:ByteArray} {q:Bool} (h:qo w b r q) (r':ByteArray):qo (w.setCell ⟨b,0,none⟩ (.string r')) b r' q:=
 ⟨World.cell?_setCell_same _ _ _ h.rest,(World.cell?_setCell_other _ _ _ _ (by simp)).trans h.bad,by rw[World.frozen?_setCell];exact h.f0,by rw[World.frozen?_setCell];exact h.f1⟩
theorem qo.keeps {K:Nat->Prop} {w w':World} {b:Nat} {r:ByteArray} {q:Bool} (h:qo w b r q) (hk:am K w w') (hK:K b):qo w' b r q:=
 ⟨aJ h.rest hk hK,aJ h.bad hk hK,(World.frozen?_of_block (w:=w) (a:=⟨b,0,none⟩) (hk.block b (aC h.rest) hK)).trans h.f0,(World.frozen?_of_block (w:=w) (a:=⟨b,1,none⟩) (hk.block b (aC h.rest) hK)).trans h.f1⟩
def kv (w:World) (b:Nat) (t:ByteArray) (st:Option Nat):Prop:=
 match st with
 | some p=>p<=t.size/\qo w b (t.extract p t.size) false
 | none=>∃r:ByteArray,r.size<=9223372036854775807/\qo w b r true
theorem kv.keeps {K:Nat->Prop} {w w':World} {b:Nat} {t:ByteArray} {st:Option Nat} (h:kv w b t st) (hk:am K w w') (hK:K b):kv w' b t st:=by
 cases st with
 | some p=>exact⟨h.1,h.2.keeps hk hK⟩
 | none=>obtain⟨r,hr,h⟩:=h;exact⟨r,hr,h.keeps hk hK⟩
theorem kv.lt {w:World} {b:Nat} {t:ByteArray} {st:Option Nat} (h:kv w b t st):b<w.heap.size:=by
 cases st with
 | some p=>exact aC h.2.rest
 | none=>obtain⟨r,hr,h⟩:=h;exact aC h.rest
