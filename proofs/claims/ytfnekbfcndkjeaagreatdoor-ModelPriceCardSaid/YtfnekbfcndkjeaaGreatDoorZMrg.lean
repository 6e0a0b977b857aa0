/- The document's Take, walked. -/
import Derived.Test.YtfnekbfcndkjeaaGreatDoorZMdk1
import Derived.Test.YtfnekbfcndkjeaaGreatDoorZHshB
import Derived.Test.YtfnekbfcndkjeaaGreatDoorZRefOf
import Derived.Test.YtfnekbfcndkjeaaGreatDoorZRfM3
set_option maxHeartbeats 8000000
set_option maxRecDepth 100000
set_option linter.all false
namespace Go.Proofs.YtfnekbfcndkjeaaGreatDoor
open Go.Proofs.Tryz Go.RowKit Go.Maps
theorem tf {w:World} {base n g cap:Nat} {l:List Int} (h:w.ownsRow base 5 1 (.slice (some ⟨g,0,none⟩) n cap) l.length (bF l)):gz w g l:=by
 rcases h.2 with ⟨e,_⟩ | ⟨g',cap',cur,e,_,hh,_,_,_,htk⟩
 ·cases e
 ·have hg:g=g':=by injection e with e;injection e with e;injection e
  subst hg
  refine⟨fun j hj=>?_,fun j hj=>aL hh j⟩
  rw[aq hh]
  have e2:(bF l)[j]?=some (.int .u8 (l.getD j 0)):=by
   rw[bF,List.getElem?_map,List.getElem?_eq_getElem hj,List.getD_eq_getElem?_getD,List.getElem?_eq_getElem hj]
   rfl
  rw[<-htk,List.getElem?_take_of_lt (by omega)] at e2
  simpa using e2
theorem iO (w:World) (x:Int) (hx:0<=x/\x<=18446744073709551615):Calls prog 115 #[.int .u64 x] w fun e w'=>(∃ t:ByteArray,t.size<=8/\e=.returned (.string t))/\Below w.heap.size w w':=by
 go_enter func115,ntmps115
 go_wp2_with fail
 go_loopg [3,4] 9 (fun g v3 v4 wr=>∃(k:Nat) (l:List Int),k<=8/\v4=.int .i64 (7 - (k:Int))/\8 - k<g/\aa (l.length=k/\wr.ownsRow w.heap.size 5 1 v3 k (bF l)/\Below w.heap.size w wr))
 case atStart=>exact⟨0,[],by omega,rfl,by omega,rfl,World.ownsRow_nil _ _ _ _,Below.refl _ _⟩
 case round=>
  obtain⟨k,l,hk,rfl,hg,HR⟩:=hrel
  obtain⟨av,cv,rfl,_⟩:=az HR.out.2.1
  by_cases hk8:k<8
  ·have h0:(0:Int)<=7 - (k:Int):=by omega
   obtain⟨z,hz⟩:∃z:Int,z=7 - (k:Int):=⟨_,rfl⟩
   have hz7:IntKind.i64.wrap (z - 1)=z - 1:=IntWalk.i64_in _ (by omega)
   have hz8:IntKind.i64.wrap (8 * z)=8 * z:=IntWalk.i64_in _ (by omega)
   have hz9:IntKind.u64.wrap (8 * z)=8 * z:=IntWalk.u64_in _ (by omega)
   have hzn:¬8 * z<0:=by omega
   rw[<-hz] at h0 ⊢
   have HZ:=ac hz
   have hzb:z<=7:=by omega
   have HM:aa (9 - (k + 1)<gk/\k + 1<=8):=⟨by omega,hk8⟩
   clear hz hg
   have HR2:aa (wr.ownsRow w.heap.size 5 1 (.slice av k cv) k (bF l)):=HR.out.2.1
   go_wp2_with (first
    | (at_builtin;refine aZ rfl _ _ 22 5 rfl (.int .u8 0) 1 1 underlying22 Tryz.infoU8s rfl (by decide) w.heap.size _ k _ rfl (World.ownsRow.alloc HR2.out _) wr.heap.size [.int .u8 (x / 2 ^ (8 * z).toNat % 256)] rfl ?c2 rfl ?c3 ?c4 ?c5 ?c6 ?_)
    | fail)
   case c2=>first | rfl | (intro u hu;obtain rfl:=List.mem_singleton.1 hu;rfl)
   case c4=>unfold maxLen;omega
   case c5=>omega
   case c6=>have:=HR.out.2.2.size;simp;omega
   intro v' w1 hown hgrow
   have HR3:aa ((l++[x / 2 ^ (8 * z).toNat % 256]).length=k + 1/\w1.ownsRow w.heap.size 5 1 v' (k + 1) (bF (l++[x / 2 ^ (8 * z).toNat % 256]))/\Below w.heap.size w w1):=by
    refine⟨by rw[List.length_append,HR.out.1];rfl,by rw[bF,List.map_append];exact hown,?_⟩
    have k2:=(ak (af wr (.cells #[.int .u8 (x / 2 ^ (8 * z).toNat % 256)] 5)) (·<w.heap.size)).trans (aF hgrow (fun k=>k<w.heap.size) (fun j hj=>by have:=bM HR2.out j hj;omega))
    exact aB HR.out.2.2 k2 (fun j h=>h)
   clear hown hgrow
   go_wp2_with fail
   go_roundg (9 - (k + 1))
   case measure=>exact HM.out.1
   case rel=>exact⟨k + 1,_,HM.out.2,by have:=HZ.out;congr 1;omega,by omega,HR3.out⟩
  ·obtain rfl:k=8:=by omega
   obtain⟨_,_,e5,_,hx5⟩:=az HR.out.2.1
   obtain⟨g5,ea5,_⟩:=hx5 (by decide)
   obtain rfl:av=some ⟨g5,0,none⟩:=by injection e5 with e5;exact e5.trans ea5
   have kc:=m7 g5 l 8 cv HR.out.1 wr (tf (by have:=HR.out.2.1;rw[HR.out.1];exact this))
   have e8:(7:Int) - ((8:Nat):Int)=-1:=by decide
   have HS:aa ((strOfNums l).size<=8):=by have h1:=HR.out.1;rw[aa,strOfNums];simp[ByteArray.size,h1]
   rw[e8]
   clear e5 hx5 hg e8
   go_wp2_with fail
   go_ret
   exact⟨⟨_,HS.out,rfl⟩,HR.out.2.2⟩
def ij (r c b x:Int):Prop:=(0<=r/\r<=9223372036854775807)/\(0<=c/\c<=9223372036854775807)/\(0<=b/\b<=18446744073709551615)/\0<=x/\x<=18446744073709551615
theorem tg (w:World) (r c b x:Int) (h:ij r c b x):Calls prog 94 #[.agg #[.int .i64 r,.int .i64 c,.int .u64 b,.int .u64 x]] w fun e w'=>(∃ t:ByteArray,t.size<=1000/\e=.returned (.string t))/\Below w.heap.size w w':=by
 have HS:=ac h
 have kr:IntKind.u64.wrap r=r:=IntWalk.u64_in _ ⟨h.1.1,by have:=h.1.2;omega⟩
 have kc:IntKind.u64.wrap c=c:=IntWalk.u64_in _ ⟨h.2.1.1,by have:=h.2.1.2;omega⟩
 clear h
 go_enter func94,ntmps94
 go_upto_region 1 with fail
 obtain⟨L,hL⟩:=nm (w.heap.size)
 obtain⟨w0,hw0⟩:=nm (w.alloc (.cells #[.int .i64 r,.int .i64 c,.int .u64 b,.int .u64 x] 58))
 have HX:aa (w0.heap[L]?=some (.cells #[.int .i64 r,.int .i64 c,.int .u64 b,.int .u64 x] 58 (0,0))):=by rw[hw0,hL];exact ax _ _
 have HN:aa (Below w.heap.size w w0):=by rw[hw0];exact af _ _
 rw[<-hw0,<-hL]
 clear hw0 hL
 have c0:w0.cell? ⟨L,0,none⟩=some (.int .i64 r):=aq HX.out 0
 have c1:w0.cell? ⟨L,1,none⟩=some (.int .i64 c):=aq HX.out 1
 have c2:w0.cell? ⟨L,2,none⟩=some (.int .u64 b):=aq HX.out 2
 have c3:w0.cell? ⟨L,3,none⟩=some (.int .u64 x):=aq HX.out 3
 refine wp_region_held_drew (S:=fun W=>Below w0.heap.size w0 W) (by kernel_rfl) (aA _) (fun hHeld=>?_)
 refine ts 0 (.pointer (some ⟨L,0,none⟩)) hHeld ?_
 try simp only[Act.put,ps]
 refine tk 1 (.int .i64 r) hHeld ?_ ?_
 ·intro W hSw
  have c:=(hSw.cell (aC c0)).trans c0
  go_simp
 try simp only[Act.put,ps]
 refine ts 2 (.int .u64 r) hHeld ?_
 try simp only[Act.put,ps]
 refine ts 5 (.pointer (some ⟨L,1,none⟩)) hHeld ?_
 try simp only[Act.put,ps]
 refine tk 6 (.int .i64 c) hHeld ?_ ?_
 ·intro W hSw
  have c:=(hSw.cell (aC c1)).trans c1
  go_simp
 try simp only[Act.put,ps]
 refine ts 7 (.int .u64 c) hHeld ?_
 try simp only[Act.put,ps]
 refine ts 10 (.pointer (some ⟨L,2,none⟩)) hHeld ?_
 try simp only[Act.put,ps]
 refine tk 11 (.int .u64 b) hHeld ?_ ?_
 ·intro W hSw
  have c:=(hSw.cell (aC c2)).trans c2
  go_simp
 try simp only[Act.put,ps]
 refine ts 14 (.pointer (some ⟨L,3,none⟩)) hHeld ?_
 try simp only[Act.put,ps]
 refine tk 15 (.int .u64 x) hHeld ?_ ?_
 ·intro W hSw
  have c:=(hSw.cell (aC c3)).trans c3
  go_simp
 try simp only[Act.put,ps]
 obtain⟨W0,hW0⟩:=nm (w0.drew)
 have HB0:aa (Below w0.heap.size w0 W0):=by rw[hW0];exact aA _
 rw[<-hW0] at hHeld ⊢
 clear hW0
 refine rd 3 (fun K hK=>?_)
 go_simp
 refine (iO W0 r (by have:=HS.out;unfold ij at this;omega)).mono ?_
 rintro e W1 ⟨⟨t1,ht1,rfl⟩,hb⟩
 have HB1:aa (Below w0.heap.size w0 W1):=ar w0 _ _ HB0.out hb
 clear hb
 try go_simp
 refine hK.out _ W1 HB1.out (fun hHeld=>?_)
 clear hK K
 try simp only[Act.put,ps]
 obtain⟨T1,hT⟩:∃z,z=(⟨#[99,111,110,115,105,103,110]⟩:ByteArray)++t1:=⟨_,rfl⟩
 have HT1:aa (T1.size<=15):=by rw[aa,hT,ByteArray.size_append];have:(⟨#[99,111,110,115,105,103,110]⟩:ByteArray).size=7:=rfl;omega
 have hnb:¬9223372036854775807<(⟨#[99,111,110,115,105,103,110]⟩:ByteArray).size + t1.size:=by have:(⟨#[99,111,110,115,105,103,110]⟩:ByteArray).size=7:=rfl;omega
 have hle:7 + t1.size<=9223372036854775807:=by omega
 refine ts 4 (.string T1) hHeld ?_
 try simp only[Act.put,ps]
 clear hT hnb hle
 refine rd 8 (fun K hK=>?_)
 go_simp
 refine (iO W1 c (by have:=HS.out;unfold ij at this;omega)).mono ?_
 rintro e W2 ⟨⟨t2,ht2,rfl⟩,hb⟩
 have HB2:aa (Below w0.heap.size w0 W2):=ar w0 _ _ HB1.out hb
 clear hb
 try go_simp
 refine hK.out _ W2 HB2.out (fun hHeld=>?_)
 clear hK K
 try simp only[Act.put,ps]
 obtain⟨T2,hT⟩:=nm (T1++t2)
 have HT2:aa (T2.size<=23):=by rw[aa,hT,ByteArray.size_append];have:=HT1.out;omega
 have hnb:¬9223372036854775807<T1.size + t2.size:=by have:=HT1.out;omega
 have hle:T1.size + t2.size<=9223372036854775807:=by have:=HT1.out;omega
 refine ts 9 (.string T2) hHeld ?_
 try simp only[Act.put,ps]
 clear hT hnb hle
 refine rd 12 (fun K hK=>?_)
 go_simp
 refine (iO W2 b (by have:=HS.out;unfold ij at this;omega)).mono ?_
 rintro e W3 ⟨⟨t3,ht3,rfl⟩,hb⟩
 have HB3:aa (Below w0.heap.size w0 W3):=ar w0 _ _ HB2.out hb
 clear hb
 try go_simp
 refine hK.out _ W3 HB3.out (fun hHeld=>?_)
 clear hK K
 try simp only[Act.put,ps]
 obtain⟨T3,hT⟩:=nm (T2++t3)
 have HT3:aa (T3.size<=31):=by rw[aa,hT,ByteArray.size_append];have:=HT2.out;omega
 have hnb:¬9223372036854775807<T2.size + t3.size:=by have:=HT2.out;omega
 have hle:T2.size + t3.size<=9223372036854775807:=by have:=HT2.out;omega
 refine ts 13 (.string T3) hHeld ?_
 try simp only[Act.put,ps]
 clear hT hnb hle
 refine rd 16 (fun K hK=>?_)
 go_simp
 refine (iO W3 x (by have:=HS.out;unfold ij at this;omega)).mono ?_
 rintro e W4 ⟨⟨t4,ht4,rfl⟩,hb⟩
 have HB4:aa (Below w0.heap.size w0 W4):=ar w0 _ _ HB3.out hb
 clear hb
 try go_simp
 refine hK.out _ W4 HB4.out (fun hHeld=>?_)
 clear hK K
 try simp only[Act.put,ps]
 obtain⟨T4,hT⟩:=nm (T3++t4)
 have HT4:aa (T4.size<=1000):=by rw[aa,hT,ByteArray.size_append];have:=HT3.out;omega
 have hnb:¬9223372036854775807<T3.size + t4.size:=by have:=HT3.out;omega
 have hle:T3.size + t4.size<=9223372036854775807:=by have:=HT3.out;omega
 refine ts 17 (.string T4) hHeld ?_
 try simp only[Act.put,ps]
 clear hT hnb hle
 refine ts 18 (.string T4) hHeld ?_
 try simp only[Act.put,ps]
 refine wpAnyH_done (by kernel_rfl) ?_ _
 clear hHeld
 apply_assumption
 go_wp2_with fail
 go_ret
 exact⟨⟨_,HT4.out,rfl⟩,ar w _ _ HN.out HB4.out⟩
theorem l9 (w:World) (r c b x:Int) (h:ij r c b x):Calls prog 58 #[.agg #[.int .i64 r,.int .i64 c,.int .u64 b,.int .u64 x]] w fun e w'=>(∃ dl:List Int,dl.length=32/\Bs dl/\e=.returned (.agg (dl.map (Value.int .u8)).toArray))/\Below w.heap.size w w':=by
 have HS:=ac h
 have hi0:(prog.info? 58).map (·.size)=some (#[.int .i64 r,.int .i64 c,.int .u64 b,.int .u64 x]:Array Value).size:=by kernel_rfl
 have HI:=ac hi0
 clear h hi0
 go_enter func58,ntmps58
 go_upto_region 1 with fail
 obtain⟨L,hL⟩:=nm (w.heap.size)
 have hs1:(w.alloc (.cells #[.int .i64 r,.int .i64 c,.int .u64 b,.int .u64 x] 58)).heap.size=w.heap.size + 1:=by simp
 obtain⟨w0,hw0⟩:∃z,z=(w.alloc (.cells #[.int .i64 r,.int .i64 c,.int .u64 b,.int .u64 x] 58)).alloc (.cells (Array.replicate 32 (.int .u8 0)) 43):=⟨_,rfl⟩
 have HX:aa (w0.heap[L]?=some (.cells #[.int .i64 r,.int .i64 c,.int .u64 b,.int .u64 x] 58 (0,0))):=by rw[hw0,hL];exact au (ax _ _) (af _ _)
 have HQ:aa (w0.heap[L + 1]?=some (.cells (Array.replicate 32 (.int .u8 0)) 43 (0,0))):=by rw[hw0,hL,<-hs1];exact ax _ _
 have HN:aa (Below w.heap.size w w0):=by rw[hw0];exact ar w _ _ (af _ _) (af _ _)
 have HLW:=ac hL
 first
  | rw[<-hw0,<-hL]
  | (rw [show ((w.alloc (.cells #[.int .i64 r,.int .i64 c,.int .u64 b,.int .u64 x] 58)).alloc (.cells #[.int .u8 0,.int .u8 0,.int .u8 0,.int .u8 0,.int .u8 0,.int .u8 0,.int .u8 0,.int .u8 0,.int .u8 0,.int .u8 0,.int .u8 0,.int .u8 0,.int .u8 0,.int .u8 0,.int .u8 0,.int .u8 0,.int .u8 0,.int .u8 0,.int .u8 0,.int .u8 0,.int .u8 0,.int .u8 0,.int .u8 0,.int .u8 0,.int .u8 0,.int .u8 0,.int .u8 0,.int .u8 0,.int .u8 0,.int .u8 0,.int .u8 0,.int .u8 0] 43))=w0 from hw0.symm,<-hL])
 clear hw0 hL hs1
 go_wp2_with (guard_target =~ wpList _ _ _ _ _ _;refine wpList_load_row rfl _ _ rfl L rfl _ #[.int .i64 r,.int .i64 c,.int .u64 b,.int .u64 x] (0,0) _ HX.out underlying58 rfl HI.out ?_)
 refine (tg w0 r c b x HS.out).mono ?_
 rintro e w1 ⟨⟨t,ht,rfl⟩,hb1⟩
 have HN1:aa (Below w.heap.size w w1):=ar w _ _ HN.out hb1
 have HQ1:=ac (au HQ.out hb1)
 have HT:=ac ht
 clear hb1 ht HQ
 go_wp2_with fail
 refine (zG t (Nat.le_trans HT.out (by decide)) w1).mono ?_
 rintro e w2 ⟨rfl,hb2⟩
 have HN2:aa (Below w.heap.size w w2):=ar w _ _ HN1.out hb2
 have HQ2:=ac (au HQ1.out hb2)
 obtain⟨D,hD⟩:=nm (bL (jH i5 fY t))
 have HD:=ac hD
 have hsz:(prog.info? 43).map (·.size)=some D.size:=by rw[hD,cJ];kernel_rfl
 have HSZ:=ac hsz
 have HON:aa ((Array.replicate 32 (Value.int .u8 0)).size=D.size/\D.all (·.oneCell')=true):=⟨by rw[hD,cJ];simp,by rw[hD];exact gM _⟩
 rw[<-hD]
 clear hb2 hD HQ1 hsz
 go_wp2_with (first
  | (refine wpList_store_row rfl _ _ _ rfl (L + 1) D rfl rfl 43 _ HQ2.out HSZ.out HON.out.1 HON.out.2 ?_)
  | fail)
 obtain⟨w3,hw3⟩:=nm (w2.setRow (L + 1) D)
 have HQ3:aa (w3.heap[L + 1]?=some (.cells D 43 (0,0))):=by rw[hw3];exact setRow_heap w2 (L + 1) _ _ _ _ HQ2.out
 have HB3:aa (Below w.heap.size w w3):=aB HN2.out (by rw[hw3];exact aI (K:=(·≠L + 1)) w2 (L + 1) _ (fun h=>h rfl)) (fun k hk e=>by have:=HLW.out;omega)
 rw[<-hw3]
 clear hw3
 simp only[Act.put]
 refine bodyPost_ret_by (results_cell_row (by rfl) _ w3 (L + 1) _ _ _ _ rfl HQ3.out underlying43 rfl HSZ.out) rfl ?_
 refine⟨⟨seg (bf (y8 i5 fY t)) 0 32,jZ _ _ _,Bs.seg _ _ _,?_⟩,HB3.out⟩
 rw[<-pG,HD.out,Array.toArray_toList]
theorem eG {w:World} {g:Nat} {R:Array Value} {t:TypeId} (h:w.heap[g]?=some (.cells R t (0,0))):w.rangeAt g 0 R.toList:=fun j u hu=>by
 rw[Nat.zero_add,aq h]
 simpa using hu
theorem xZ (dl:List Int) (j:Nat) (hj:j<dl.length):(dl.map (Value.int .u8)).toArray[j]?=some (.int .u8 (dl.getD j 0)):=by
 rw[List.getElem?_toArray,List.getElem?_map,List.getElem?_eq_getElem hj,List.getD_eq_getElem?_getD,List.getElem?_eq_getElem hj]
 rfl
theorem th (w:World) (dl:List Int) (hl:dl.length=32) (r c b x:Int) (h:ij r c b x):Calls prog 92 #[.agg (dl.map (Value.int .u8)).toArray,.agg #[.int .i64 r,.int .i64 c,.int .u64 b,.int .u64 x]] w fun e w'=>(∃ y,e=.returned (.bool y))/\Below w.heap.size w w':=by
 have HS:=ac h
 have HL:=ac hl
 obtain⟨D,hD⟩:∃D:Array Value,D=(dl.map (Value.int .u8)).toArray:=⟨_,rfl⟩
 have HD:=ac hD
 have hi0:(prog.info? 58).map (·.size)=some (#[.int .i64 r,.int .i64 c,.int .u64 b,.int .u64 x]:Array Value).size:=by kernel_rfl
 have HI:=ac hi0
 have hds:D.size=32:=by rw[hD];simpa using hl
 have HDZ:aa ((prog.info? 43).map (·.size)=some D.toList.length):=by rw[aa,Array.length_toList,hds];kernel_rfl
 rw[<-hD]
 clear h hi0 hD hds hl
 go_enter func92,ntmps92
 go_upto_region 1 with fail
 obtain⟨L,hL⟩:=nm (w.heap.size)
 have hs1:(w.alloc (.cells D 43)).heap.size=w.heap.size + 1:=by simp
 obtain⟨w0,hw0⟩:∃z,z=(w.alloc (.cells D 43)).alloc (.cells #[.int .i64 r,.int .i64 c,.int .u64 b,.int .u64 x] 58):=⟨_,rfl⟩
 have HX:aa (w0.heap[L]?=some (.cells D 43 (0,0))):=by rw[hw0,hL];exact au (ax _ _) (af _ _)
 have HQ:aa (w0.heap[L + 1]?=some (.cells #[.int .i64 r,.int .i64 c,.int .u64 b,.int .u64 x] 58 (0,0))):=by rw[hw0,hL,<-hs1];exact ax _ _
 have HN:aa (Below w.heap.size w w0):=by rw[hw0];exact ar w _ _ (af _ _) (af _ _)
 rw[<-hw0,<-hL]
 clear hw0 hL hs1
 obtain⟨dc,hdc⟩:=nm (D.toList)
 have HR1:aa (∀ W,Below w0.heap.size w0 W->W.rangeAt L 0 dc):=fun W hW=>by rw[hdc];exact eG (au HX.out hW)
 have hi3:(prog.info? 43).map (·.size)=some dc.length:=by rw[hdc];exact HDZ.out
 have HDC:aa (dc.toArray=(dl.map (Value.int .u8)).toArray):=by rw[aa,hdc,Array.toArray_toList,HD.out]
 obtain⟨sc,hsc⟩:∃z,z=([.int .i64 r,.int .i64 c,.int .u64 b,.int .u64 x]:List Value):=⟨_,rfl⟩
 have HR2:aa (∀ W,Below w0.heap.size w0 W->W.rangeAt (L + 1) 0 sc):=fun W hW=>by rw[hsc];exact eG (au HQ.out hW)
 have hi4:(prog.info? 58).map (·.size)=some sc.length:=by rw[hsc];kernel_rfl
 have HSC:=ac hsc
 clear hdc hsc
 refine wp_region_held_drew (S:=fun W=>Below w0.heap.size w0 W) (by kernel_rfl) (aA _) (fun hHeld=>?_)
 refine tl 0 (.agg dc.toArray) rfl (yieldsIf_load_mid (by rfl) 43 (.tmp 2) rfl L 0 rfl dc _ (fun W hW=>HR1.out W hW) underlying43 rfl hi3) hHeld ?_
 try simp only[Act.put,ps]
 refine tl 1 (.agg sc.toArray) rfl (yieldsIf_load_mid (by rfl) 58 (.tmp 3) rfl (L + 1) 0 rfl sc _ (fun W hW=>HR2.out W hW) underlying58 rfl hi4) hHeld ?_
 try simp only[Act.put,ps]
 obtain⟨W0,hW0⟩:=nm (w0.drew)
 have HB0:aa (Below w0.heap.size w0 W0):=by rw[hW0];exact aA _
 rw[<-hW0] at hHeld ⊢
 clear hW0
 refine rd 2 (fun K hK=>?_)
 go_simp
 rw[HSC.out]
 refine (l9 W0 r c b x HS.out).mono ?_
 rintro e W1 ⟨⟨el,hel,_,rfl⟩,hb⟩
 have HB1:aa (Below w0.heap.size w0 W1):=ar w0 _ _ HB0.out hb
 rw[<-HSC.out]
 obtain⟨y,heq⟩:∃y:Bool,∀W,(binOp .eql 43 (.agg dc.toArray) (.agg (el.map (Value.int .u8)).toArray)).run prog W=.ok (.bool y) W:=⟨_,fun W=>by rw[HDC.out];exact tG _ _ (fun j=>dl.getD j 0) (fun j=>el.getD j 0) (fun j hj=>xZ dl j (by rw[HL.out];exact hj)) (fun j hj=>xZ el j (by rw[hel];exact hj)) W⟩
 obtain⟨E,hE⟩:∃E,E=(el.map (Value.int .u8)).toArray:=⟨_,rfl⟩
 rw[<-hE] at heq ⊢
 clear hE hel
 clear hb
 try go_simp
 refine hK.out _ W1 HB1.out (fun hHeld=>?_)
 clear hK K
 try simp only[Act.put,ps]
 refine ts 3 (.bool y) hHeld ?_
 try simp only[Act.put,ps]
 refine ts 4 (.bool y) hHeld ?_
 try simp only[Act.put,ps]
 refine wpAnyH_done (by kernel_rfl) ?_ _
 clear hHeld
 apply_assumption
 go_wp2_with fail
 go_ret
 exact⟨⟨_,rfl⟩,ar w _ _ HN.out HB1.out⟩
theorem iP {x a b:Int} (h1:a<=x) (h2:x<=b):aE x a b=true:=by simp[aE,h1,h2]
def AP (xs:List (Int × Int)):Prop:=∀x∈xs,(0<=x.1/\x.1<=63)/\0<=x.2/\x.2<=16777216
theorem Bk (ca cm rv sc:Int) (xs:List (Int × Int)) (ys:List Int) (hca:1<=ca/\ca<=8) (hcm:1<=cm/\cm<=64) (hrv:1<=rv/\rv<=64) (hsc:0<=sc/\sc<=1) (hx:AP xs) (hxn:xs.length<=16) (hy:∀y∈ys,0<=y/\y<=7) (hyn:ys.length<=64):
  cF {kind:=1,carriers:=ca,commit:=cm,reveal:=rv,scheme:=sc,lots:=xs,owners:=ys}=true/\RecD.ok {kind:=1,carriers:=ca,commit:=cm,reveal:=rv,scheme:=sc,lots:=xs,owners:=ys}:=by
 have h1:a9 (dx xs) xs.length=true:=by
  rw[eV]
  intro k hk
  have hm:xs.getD k (0,0)∈xs:=by rw[List.getD_eq_getElem?_getD,List.getElem?_eq_getElem hk];exact List.getElem_mem _
  have:=hx _ hm
  rw[dx,kD,iP this.1.1 this.1.2,iP this.2.1 this.2.2]
  rfl
 have h2:a9 (fT ys) ys.length=true:=by
  rw[eV]
  intro k hk
  have hm:ys.getD k 0∈ys:=by rw[List.getD_eq_getElem?_getD,List.getElem?_eq_getElem hk];exact List.getElem_mem _
  have:=hy _ hm
  rw[fT,iP this.1 this.2]
 constructor
 ·have e1:decide ((xs.length:Int)<=16)=true:=decide_eq_true (by omega)
  have e2:decide ((ys.length:Int)<=64)=true:=decide_eq_true (by omega)
  simp[cF,bT,lr,bP,dm,iP hca.1 hca.2,iP hcm.1 hcm.2,iP hrv.1 hrv.2,iP hsc.1 hsc.2,h1,h2]
  omega
 ·refine⟨rfl,dL,?_,?_,?_,?_,?_,?_,?_,?_,?_,?_,?_,?_⟩ <;> simp <;> omega
structure rJ where
 ca:Int
 cm:Int
 re:Int
 sc:Int
 n:Nat
structure rJ.ok (s:rJ):Prop where
 ca:1<=s.ca/\s.ca<=8
 cm:1<=s.cm/\s.cm<=5
 re:1<=s.re/\s.re<=5
 sc:0<=s.sc/\s.sc<=1
 n:s.n<=5
def rJ.rv (s:rJ) (lv ov:Value):RecV:={kind:=1,carriers:=s.ca,commit:=s.cm,reveal:=s.re,scheme:=s.sc,lots:=lv,owners:=ov}
def rJ.rd (s:rJ) (ls:List (Int × Int)) (xs:List Int):RecD:={kind:=1,carriers:=s.ca,commit:=s.cm,reveal:=s.re,scheme:=s.sc,lots:=ls,owners:=xs}
structure gK (w:World) (L:Nat) (D:Array Value) (s:rJ) (ov lv:Value) (xs:List Int) (ls:List (Int × Int)) (W:World):Prop where
 bel:Below w.heap.size w W
 L0:L=w.heap.size
 box:W.heap[L]?=some (.cells D 24 (0,0))
 res:W.heap[L + 1]?=some (.cells (ae {}) 49 (0,0))
 rec_:ah W (L + 2) (s.rv lv ov)
 ovr:W.ownsRow (L + 3) 3 1 ov xs.length (xs.map (Value.int .i64))
 lvr:W.ownsRow (L + 3) 63 2 lv ls.length (cM ls)
 ap:∀k,ov.ownBlock=some k->lv.ownBlock≠some k
 size:L + 3<=W.heap.size
theorem gK.new {w:World} {L:Nat} {D:Array Value} {s:rJ} {ov lv:Value} {xs:List Int} {ls:List (Int × Int)} {W W':World} (h:gK w L D s ov lv xs ls W) (hb:Below W.heap.size W W'):gK w L D s ov lv xs ls W':=
 ⟨ar w _ _ h.bel hb,h.L0,au h.box hb,au h.res hb,h.rec_.new hb,bG h.ovr hb,bG h.lvr hb,h.ap,Nat.le_trans h.size hb.size⟩
theorem gK.owner {w:World} {L:Nat} {D:Array Value} {s:rJ} {ov lv nv:Value} {xs:List Int} {ls:List (Int × Int)} {W W1 W2:World} {z:Int} (h:gK w L D s ov lv xs ls W) (hgr:W.grownBy W1 ov.ownBlock) (hloc:nv.ownBlock=ov.ownBlock\/nv.ownBlock=some W.heap.size)
  (hnv:W1.ownsRow (L + 3) 3 1 nv (xs.length + 1) (xs.map (Value.int .i64)++[.int .i64 z])) (hW:W2=W1.setCell ⟨L + 2,48,none⟩ nv):gK w L D s nv lv (xs++[z]) ls W2:=by
 have ho:∀k,ov.ownBlock=some k->L + 3<=k:=fun k hk=>(World.ownsRow.lt h.ovr k hk).1
 have k1:∀{K:Nat->Prop},(∀ k,K k->ov.ownBlock≠some k)->am K W W1:=fun {K} hK=>aF hgr K (fun k hk h=>hK k h hk)
 have k2:am (·≠L + 2) W1 W2:=by rw[hW];exact (am.refl _ _).setCell (p:=⟨L + 2,48,none⟩) (.inr (fun h=>h rfl)) _
 have nb:∀k,k<L + 3->ov.ownBlock≠some k:=fun k hk e=>by have:=ho k e;omega
 have hsz:=h.size
 have hL0:=h.L0
 have hn:∀k,nv.ownBlock=some k->L + 3<=k:=fun k hk=>(World.ownsRow.lt hnv k hk).1
 have rec1:ah W1 (L + 2) (s.rv lv ov):=h.rec_.keeps (K:=(·=L + 2)) (k1 (fun k hk=>by subst hk;exact nb _ (by omega))) rfl
 refine⟨?_,hL0,aw (aw h.box (k1 (K:=(·=L)) (fun k hk=>by subst hk;exact nb _ (by omega))) rfl) k2 (by omega),aw (aw h.res (k1 (K:=(·=L + 1)) (fun k hk=>by subst hk;exact nb _ (by omega))) rfl) k2 (by omega),?_,?_,?_,?_,?_⟩
 ·exact aB (aB h.bel (k1 (K:=(·<w.heap.size)) (fun k hk=>nb k (by omega))) (fun k hk=>hk)) k2 (fun k hk e=>by omega)
 ·have:=aH rec1 48 nv
  rw[hW]
  exact this
 ·rw[List.length_append,List.length_singleton,List.map_append]
  exact cE hnv k2 (fun k hk=>by have:=hn k hk;omega)
 ·refine cE (cE h.lvr (k1 (K:=fun k=>lv.ownBlock=some k) (fun k hk e=>h.ap k e hk)) (fun k hk=>hk)) k2 (fun k hk=>by have:=(World.ownsRow.lt h.lvr k hk).1;omega)
 ·intro k hk e
  rcases hloc with hl | hl
  ·exact h.ap k (hl ▸ hk) e
  ·have e1:k=W.heap.size:=by rw[hl] at hk;exact (Option.some.inj hk).symm
   have:=(World.ownsRow.lt h.lvr k e).2
   omega
 ·have:=hgr.size;have:=k2.size;omega
theorem gK.lot {w:World} {L:Nat} {D:Array Value} {s:rJ} {ov lv nv:Value} {xs:List Int} {ls:List (Int × Int)} {W W1 W2:World} {a b:Int} (h:gK w L D s ov lv xs ls W) (hgr:W.grownBy W1 lv.ownBlock) (hloc:nv.ownBlock=lv.ownBlock\/nv.ownBlock=some W.heap.size)
  (hnv:W1.ownsRow (L + 3) 63 2 nv (ls.length + 1) (cM ls++[.int .i64 a,.int .i64 b])) (hW:W2=W1.setCell ⟨L + 2,47,none⟩ nv):gK w L D s ov nv xs (ls++[(a,b)]) W2:=by
 have ho:∀k,lv.ownBlock=some k->L + 3<=k:=fun k hk=>(World.ownsRow.lt h.lvr k hk).1
 have k1:∀{K:Nat->Prop},(∀ k,K k->lv.ownBlock≠some k)->am K W W1:=fun {K} hK=>aF hgr K (fun k hk h=>hK k h hk)
 have k2:am (·≠L + 2) W1 W2:=by rw[hW];exact (am.refl _ _).setCell (p:=⟨L + 2,47,none⟩) (.inr (fun h=>h rfl)) _
 have nb:∀k,k<L + 3->lv.ownBlock≠some k:=fun k hk e=>by have:=ho k e;omega
 have hsz:=h.size
 have hL0:=h.L0
 have hn:∀k,nv.ownBlock=some k->L + 3<=k:=fun k hk=>(World.ownsRow.lt hnv k hk).1
 have rec1:ah W1 (L + 2) (s.rv lv ov):=h.rec_.keeps (K:=(·=L + 2)) (k1 (fun k hk=>by subst hk;exact nb _ (by omega))) rfl
 refine⟨?_,hL0,aw (aw h.box (k1 (K:=(·=L)) (fun k hk=>by subst hk;exact nb _ (by omega))) rfl) k2 (by omega),aw (aw h.res (k1 (K:=(·=L + 1)) (fun k hk=>by subst hk;exact nb _ (by omega))) rfl) k2 (by omega),?_,?_,?_,?_,?_⟩
 ·exact aB (aB h.bel (k1 (K:=(·<w.heap.size)) (fun k hk=>nb k (by omega))) (fun k hk=>hk)) k2 (fun k hk e=>by omega)
 ·have:=aH rec1 47 nv
  rw[hW]
  exact this
 ·refine cE (cE h.ovr (k1 (K:=fun k=>ov.ownBlock=some k) (fun k hk e=>h.ap k hk e)) (fun k hk=>hk)) k2 (fun k hk=>by have:=(World.ownsRow.lt h.ovr k hk).1;omega)
 ·rw[List.length_append,List.length_singleton,show cM (ls++[(a,b)])=cM ls++[.int .i64 a,.int .i64 b] by simp[cM]]
  exact cE hnv k2 (fun k hk=>by have:=hn k hk;omega)
 ·intro k hk e
  rcases hloc with hl | hl
  ·exact h.ap k hk (hl ▸ e)
  ·have e1:k=W.heap.size:=by rw[hl] at e;exact (Option.some.inj e).symm
   have:=(World.ownsRow.lt h.ovr k hk).2
   omega
 ·have:=hgr.size;have:=k2.size;omega
theorem gK.fin {w:World} {L:Nat} {D R:Array Value} {s:rJ} {ov lv:Value} {xs:List Int} {ls:List (Int × Int)} {W W2:World} (h:gK w L D s ov lv xs ls W) (hW:W2=W.setRow (L + 1) R):bD w.heap.size W2 (s.rv lv ov) (s.rd ls xs)/\Below w.heap.size w W2:=by
 have k:am (·≠L + 1) W W2:=by rw[hW];exact aI (K:=(·≠L + 1)) W (L + 1) _ (fun h=>h rfl)
 have hL0:=h.L0
 refine⟨⟨.slice none 0 0,lv,ov,?_,de.nil _ _,lQ rfl (cE h.lvr k (fun j hj=>by have:=(World.ownsRow.lt h.lvr j hj).1;omega)) (by omega),gP rfl (cE h.ovr k (fun j hj=>by have:=(World.ownsRow.lt h.ovr j hj).1;omega)) (by omega)⟩,?_⟩
 ·simp only[rJ.rv,rJ.rd,RecD.toV,dU]
 ·exact aB h.bel k (fun j hj e=>by omega)
def AQ (w:World) (e:Ending) (w':World):Prop:=
 Below w.heap.size w w'/\∃(s:rJ) (lv ov:Value) (ls:List (Int × Int)) (xs:List Int),s.ok/\e=.returned (.agg (ae (s.rv lv ov)))/\bD w.heap.size w' (s.rv lv ov) (s.rd ls xs)/\ls.length=s.n/\xs.length=s.n + 1/\(∀ y∈xs,0<=y/\y<s.ca)/\∀x∈ls,(1<=x.1/\x.1<=s.n)/\0<=x.2/\x.2<=1020
theorem x6 (W:World) (a:Int):(Instr.buildSlice 41 1 #[(0,.int .i64 a)]).run prog W=.ok (.slice (some ⟨W.heap.size,0,none⟩) 1 1) (W.alloc (.cells #[.int .i64 a] 3)):=by kernel_rfl
theorem zN (W:World) (a b:Int):(Instr.buildSlice 47 1 #[(0,.agg #[.int .i64 a,.int .i64 b])]).run prog W=.ok (.slice (some ⟨W.heap.size,0,none⟩) 1 1) (W.alloc (.cells #[.int .i64 a,.int .i64 b] 63)):=by kernel_rfl
theorem zO (W:World) (ca cm re sc:Int):(Instr.build 49 #[(0,.int .i64 1),(10,.int .i64 ca),(11,.int .i64 cm),(12,.int .i64 re),(13,.int .i64 sc)]).run prog W=.ok (.agg (ae {kind:=1,carriers:=ca,commit:=cm,reveal:=re,scheme:=sc})) W:=by kernel_rfl
theorem kj {P:Program} {c:Code} {Q:Exit->Act->World->Prop} {a:Act} {w w':World} (e:w'=w) (h:Code.wp P c Q a w'):Code.wp P c Q a w:=e ▸ h
theorem ti (w:World) (d:sV) (hd:d.ok) (b:Value) (h:i4 w b d.n):Calls prog 29 #[.agg (d.cells b)] w (AQ w):=by
 obtain⟨c1,hc1,hc1l⟩:=fW d.ca 8 hd.ca.1 (by decide)
 obtain⟨c2,hc2,hc2l⟩:=fW d.cm 5 hd.cm.1 (by decide)
 obtain⟨c3,hc3,hc3l⟩:=fW d.rv 5 hd.rv.1 (by decide)
 obtain⟨c4,hc4,hc4l⟩:=fW d.sc 2 hd.sc.1 (by decide)
 obtain⟨n,hn,hnl⟩:=fW d.lt 6 hd.lt.1 (by decide)
 have m1:d.ca.tmod 8=(c1:Int):=hc1
 have m2:d.cm.tmod 5=(c2:Int):=hc2
 have m3:d.rv.tmod 5=(c3:Int):=hc3
 have m4:d.sc.tmod 2=(c4:Int):=hc4
 have m5:d.lt.tmod 6=(n:Int):=hn
 obtain⟨s,hs⟩:∃s:rJ,s={ca:=1 + (c1:Int),cm:=1 + (c2:Int),re:=1 + (c3:Int),sc:=(c4:Int),n:=n}:=⟨_,rfl⟩
 have HSO:aa s.ok:=by rw[hs];exact⟨by simp;omega,by simp;omega,by simp;omega,by simp;omega,by simp;omega⟩
 have q1:IntKind.i64.wrap (c1:Int)=(c1:Int):=IntWalk.i64_in _ (by omega)
 have q2:IntKind.i64.wrap (c2:Int)=(c2:Int):=IntWalk.i64_in _ (by omega)
 have q3:IntKind.i64.wrap (c3:Int)=(c3:Int):=IntWalk.i64_in _ (by omega)
 have q4:IntKind.i64.wrap (c4:Int)=(c4:Int):=IntWalk.i64_in _ (by omega)
 have q5:IntKind.i64.wrap (n:Int)=(n:Int):=IntWalk.i64_in _ (by omega)
 have p1:IntKind.i64.wrap (1 + (c1:Int))=1 + (c1:Int):=IntWalk.i64_in _ (by omega)
 have p2:IntKind.i64.wrap (1 + (c2:Int))=1 + (c2:Int):=IntWalk.i64_in _ (by omega)
 have p3:IntKind.i64.wrap (1 + (c3:Int))=1 + (c3:Int):=IntWalk.i64_in _ (by omega)
 have HD:=ac hd
 have HB:=ac h
 obtain⟨x0,hx0⟩:=nm (d.ca)
 obtain⟨x1,hx1⟩:=nm (d.lt)
 obtain⟨x2,hx2⟩:=nm (d.cm)
 obtain⟨x3,hx3⟩:=nm (d.rv)
 obtain⟨x4,hx4⟩:=nm (d.sc)
 obtain⟨D,hDD⟩:∃D:Array Value,D=d.cells b:=⟨_,rfl⟩
 have HDD:=ac hDD
 have hD2:D=#[.int .u8 x0,.int .u8 x1,.int .u8 x2,.int .u8 x3,.int .u8 x4,b]:=by rw[hDD,sV.cells,hx0,hx1,hx2,hx3,hx4]
 have HD2:=ac hD2
 rw[<-hx0] at m1
 rw[<-hx1] at m5
 rw[<-hx2] at m2
 rw[<-hx3] at m3
 rw[<-hx4] at m4
 have HSS:=ac hs
 have HNL:aa (n<=5/\s.n=n):=⟨by omega,by rw[hs]⟩
 have HZD:aa ((prog.info? 24).map (·.size)=some D.toList.length):=by rw[aa,hD2];kernel_rfl
 rw[<-hDD]
 obtain⟨Z,hZ⟩:∃Z:Array Value,Z=ae {}:=⟨_,rfl⟩
 clear hd h hs hx0 hx1 hx2 hx3 hx4 hDD hc1 hc2 hc3 hc4 hn hD2
 go_enter func29,ntmps29
 go_upto_region 1 with fail
 obtain⟨L,hL⟩:=nm (w.heap.size)
 have hs1:(w.alloc (.cells D 24)).heap.size=w.heap.size + 1:=by simp
 obtain⟨w0,hw0⟩:∃z,z=(w.alloc (.cells D 24)).alloc (.cells (ae {}) 49):=⟨_,rfl⟩
 have hs0:w0.heap.size=L + 2:=by rw[hw0,hL];simp
 have HX:aa (w0.heap[L]?=some (.cells D 24 (0,0))):=by rw[hw0,hL];exact au (ax _ _) (af _ _)
 have HQ:aa (w0.heap[L + 1]?=some (.cells (ae {}) 49 (0,0))):=by rw[hw0,hL,<-hs1];exact ax _ _
 have HN:aa (Below w.heap.size w w0):=by rw[hw0];exact ar w _ _ (af _ _) (af _ _)
 refine kj hw0 ?_
 have HLW:=ac hL
 rw[<-hL]
 have HS0:=ac hs0
 clear hw0 hL hs1 hs0
 have e0:w0.cell? ⟨L,0,none⟩=some (.int .u8 x0):=by rw[aq HX.out,HD2.out];rfl
 have e1:w0.cell? ⟨L,1,none⟩=some (.int .u8 x1):=by rw[aq HX.out,HD2.out];rfl
 have e2:w0.cell? ⟨L,2,none⟩=some (.int .u8 x2):=by rw[aq HX.out,HD2.out];rfl
 have e3:w0.cell? ⟨L,3,none⟩=some (.int .u8 x3):=by rw[aq HX.out,HD2.out];rfl
 have e4:w0.cell? ⟨L,4,none⟩=some (.int .u8 x4):=by rw[aq HX.out,HD2.out];rfl
 obtain⟨RS,hRS⟩:∃R:Array Value,R=ae {kind:=1,carriers:=1 + (c1:Int),commit:=1 + (c2:Int),reveal:=1 + (c3:Int),scheme:=(c4:Int)}:=⟨_,rfl⟩
 have HBS:aa (∀ W:World,(Instr.build 49 #[(0,.int .i64 1),(10,.int .i64 (1 + (c1:Int))),(11,.int .i64 (1 + (c2:Int))),(12,.int .i64 (1 + (c3:Int))),(13,.int .i64 (c4:Int))]).run prog W=.ok (.agg RS) W):=by rw[hRS];intro W;exact zO W _ _ _ _
 have HZS:aa ((prog.info? 49).map (·.size)=some RS.size):=by rw[aa,hRS,aj];kernel_rfl
 have HES:aa (RS.size=49/\RS.all (·.oneCell')=true):=by rw[hRS];exact⟨aj _,aM _ rfl rfl rfl⟩
 have HRS:aa (RS=ae (s.rv (.slice none 0 0) (.slice none 0 0))):=by rw[aa,hRS,HSS.out];rfl
 clear hRS
 go_upto_region 2 with (first
  | (refine aQ rfl 49 _ rfl [(0,.int .i64 1),(10,.int .i64 (1 + (c1:Int))),(11,.int .i64 (1 + (c2:Int))),(12,.int .i64 (1 + (c3:Int))),(13,.int .i64 (c4:Int))] rfl _ (HBS.out _) ?_;try simp only[Act.put,ps])
  | (refine wpList_store_row rfl _ _ _ rfl w0.heap.size RS rfl rfl 49 _ (ax w0 _) HZS.out HES.out.1.symm HES.out.2 ?_;rw[World.setRow_alloc_new])
  | fail)
 rw[HS0.out]
 have hs0:=HS0.out
 obtain⟨w1,hw1⟩:=nm (w0.alloc (.cells RS 49))
 have hb1:Below w0.heap.size w0 w1:=by rw[hw1];exact af _ _
 have hr1:w1.heap[L + 2]?=some (.cells RS 49 (0,0)):=by rw[hw1,<-hs0];exact ax _ _
 have HA1:aa (gK w L D s (.slice none 0 0) (.slice none 0 0) [] [] w1):=by
  refine⟨ar w _ _ HN.out hb1,HLW.out,au HX.out hb1,au HQ.out hb1,?_,World.ownsRow_nil _ _ _ _,World.ownsRow_nil _ _ _ _,(fun k h=>by cases h),by rw[hw1];simp;omega⟩
  rw[HRS.out] at hr1
  exact hr1
 have e1:w1.cell? ⟨L,1,none⟩=some (.int .u8 x1):=(hb1.cell (aC e1)).trans e1
 rw[<-hw1]
 clear hw1 hb1 hr1 e0 e2 e3 e4 HX HQ HN HS0 hs0 HBS HZS HES HRS m1 m2 m3 m4 q1 q2 q3 q4 p1 p2 p3 hc1l hc2l hc3l hc4l
 go_wp2_with fail
 clear e1 m5 q5
 obtain⟨n1,hn1⟩:=nm (n + 1)
 have HN1:=ac hn1
 go_loopg [5] n1 (fun g v5 wr=>∃(k:Nat) (ov:Value) (xs:List Int),k<=n1/\v5=.int .i64 k/\n1 - k<=g/\aa (gK w L D s ov (.slice none 0 0) xs [] wr/\xs.length=k/\∀y∈xs,0<=y/\y<s.ca))
 case atStart=>exact⟨0,_,[],Nat.zero_le _,rfl,by omega,HA1.out,rfl,fun y h=>by cases h⟩
 case round=>
  clear HA1
  obtain⟨k,ov,xs,hk,rfl,hg,HI⟩:=hrel
  by_cases hlt:k<n1
  ·have hki:(k:Int)<=n:=by omega
   have HM:aa (n1 - (k + 1)<gk/\k + 1<=n1/\k<=5):=⟨by omega,hlt,by omega⟩
   have k3:IntKind.i64.wrap (3 * (k:Int))=3 * (k:Int):=IntWalk.i64_in _ (by omega)
   clear hg
   go_upto_region 6 with fail
   obtain⟨oa,oc,ho,_⟩:=az HI.out.1.ovr
   rw[HI.out.2.1] at ho
   have HOV:=ac ho
   obtain⟨dc,hdc⟩:∃c:List Value,D=c.toArray:=⟨D.toList,by simp⟩
   have HDC:=ac hdc
   have hi3:(prog.info? 24).map (·.size)=some dc.length:=by have:=HZD.out;rw[hdc] at this;exact this
   have HRG:aa (∀ W:World,W.heap[L]?=some (.cells D 24 (0,0))->W.rangeAt L 0 dc):=fun W hW=>by have:=eG hW;rw[hdc] at this;exact this
   have hca0:¬s.ca=0:=by have:=HSO.out.ca;omega
   have HBY:aa (∀ W,Below w.heap.size w W->∀i:Int,0<=i->i<=9223372036854775807->Calls prog 32 #[.agg dc.toArray,.int .i64 i] W fun e w'=>(∃ z:Int,0<=z/\z<=255/\e=.returned (.int .i64 z))/\Below W.heap.size W w'):=by
    intro W hW i h0 h1
    rw[<-HDC.out,HDD.out]
    exact iK W d HD.out b (HB.out.up hW) i (.inr h0) h1
   clear hdc ho
   obtain⟨W0,hW0⟩:=nm (wr.drew)
   have HT0:aa (gK w L D s ov (.slice none 0 0) xs [] W0):=by rw[hW0];exact HI.out.1.new (aA _)
   have HS0:aa (W0.heap[L]?=some (.cells D 24 (0,0))/\ah W0 (L + 2) (s.rv (.slice none 0 0) ov)):=⟨HT0.out.box,HT0.out.rec_⟩
   refine eU (t:=12) (S:=fun W=>W.heap[L]?=some (.cells D 24 (0,0))/\ah W (L + 2) (s.rv (.slice none 0 0) ov)) (by kernel_rfl) ?_
   rw[<-hW0]
   clear hW0
   refine lf 0 (.pointer (some ⟨L + 2,48,none⟩)) (.inr HS0.out) ?_
   try simp only[Act.put,ps]
   refine cX (i:=1) (oi:=_) (v:=ov) rfl (by kernel_rfl) (by kernel_rfl) (by kernel_rfl) (by decide) (by kernel_rfl) (by rfl) (fun _ _ _ h=>h) (Or.inl ⟨by rfl,?_⟩) HS0.out ?_
   ·intro W hSw
    have c:W.cell? ⟨L + 2,48,none⟩=some (ov):=hSw.2.cell 48
    go_simp
   try simp only[Act.put,ps]
   refine cX (i:=2) (oi:=_) (v:=.agg dc.toArray) rfl (by kernel_rfl) (by kernel_rfl) (by kernel_rfl) (by decide) (by kernel_rfl) (by rfl) (fun _ _ _ h=>h) (yieldsIf_load_mid (by rfl) 24 (.tmp 1) rfl L 0 rfl dc _ (fun W hW=>HRG.out W hW.1) underlying24 rfl hi3) HS0.out ?_
   try simp only[Act.put,ps]
   refine lf 3 (.int .i64 k) (.inr HS0.out) ?_
   try simp only[Act.put,ps]
   refine lf 4 (.int .i64 (3 * (k:Int))) (.inr HS0.out) ?_
   try simp only[Act.put,ps]
   refine lf 6 (.pointer (some ⟨L + 2,43,none⟩)) (.inr HS0.out) ?_
   try simp only[Act.put,ps]
   refine cX (i:=7) (oi:=_) (v:=.int .i64 s.ca) rfl (by kernel_rfl) (by kernel_rfl) (by kernel_rfl) (by decide) (by kernel_rfl) (by rfl) (fun _ _ _ h=>h) (Or.inl ⟨by rfl,?_⟩) HS0.out ?_
   ·intro W hSw
    have c:W.cell? ⟨L + 2,43,none⟩=some (.int .i64 s.ca):=hSw.2.cell 43
    go_simp
   try simp only[Act.put,ps]
   refine dH (j:=5) (o:=_) (by kernel_rfl) rfl fun K hK=>?_
   go_simp
   refine (HBY.out W0 HT0.out.bel (3 * (k:Int)) (by omega) (by have:=HM.out;omega)).mono ?_
   rintro e W1 ⟨⟨z,hz0,hz1,rfl⟩,hb⟩
   have HT1:=ac (HT0.out.new hb)
   obtain⟨cn,hcn⟩:∃c:Nat,s.ca=c:=Int.eq_ofNat_of_zero_le (by have:=HSO.out.ca;omega)
   obtain⟨q,hq,hql⟩:=fW z cn hz0 (by have:=HSO.out.ca;omega)
   rw[<-hcn] at hq
   have HQL:aa ((q:Int)<s.ca):=by rw[hcn];exact Int.ofNat_lt.2 hql
   have HS1:aa (W1.heap[L]?=some (.cells D 24 (0,0))/\ah W1 (L + 2) (s.rv (.slice none 0 0) ov)):=⟨HT1.out.box,HT1.out.rec_⟩
   clear hb hz0 hz1 hcn hql
   try go_simp
   refine hK.out _ W1 HS1.out ?_
   clear hK K
   try simp only[Act.put,ps]
   refine lf 8 (.int .i64 (q:Int)) (.inr HS1.out) ?_
   try simp only[Act.put,ps]
   refine dH (j:=9) (o:=_) (by kernel_rfl) rfl fun K hK=>?_
   refine aP (by rfl) 41 1 [(0,.tmp 44)] rfl [(0,.int .i64 (q:Int))] rfl _ (x6 _ _) ?_
   obtain⟨hd,hhd⟩:=nm (W1.heap.size)
   obtain⟨W2,hW2⟩:=nm (W1.alloc (.cells #[.int .i64 (q:Int)] 3))
   have HH2:aa (W2.heap[hd]?=some (.cells #[.int .i64 (q:Int)] 3 (0,0))):=by rw[hW2,hhd];exact ax _ _
   have HT2:aa (gK w L D s ov (.slice none 0 0) xs [] W2):=by rw[hW2];exact HT1.out.new (af _ _)
   rw[<-hW2,<-hhd]
   have HS2:aa (W2.heap[L]?=some (.cells D 24 (0,0))/\ah W2 (L + 2) (s.rv (.slice none 0 0) ov)):=⟨HT2.out.box,HT2.out.rec_⟩
   refine hK.out _ W2 HS2.out ?_
   clear hK K hW2 hhd
   try simp only[Act.put,ps]
   refine dH (j:=10) (o:=_) (by kernel_rfl) rfl fun K hK=>?_
   refine cO rfl _ _ 41 rfl 3 (.int .i64 0) 1 8 underlying41 Tryz.infoInt rfl (by decide) (L + 3) ov xs.length (xs.map (Value.int .i64)) rfl HT2.out.ovr hd 0 1 1 [.int .i64 (q:Int)] rfl rfl ?c2 ?c3 ?c4 ?c5 HT2.out.size ?_
   case c2=>intro j u hu;rw[Nat.zero_add,aq HH2.out];simpa using hu
   case c3=>intro u hu;obtain rfl:=List.mem_singleton.1 hu;rfl
   case c4=>have:=HM.out;have:=HI.out.2.1;unfold maxLen;omega
   case c5=>have:=HM.out;have:=HI.out.2.1;omega
   intro v3 W3 hown hgr hloc
   have HSV:aa (W3.heap[L]?=some (.cells D 24 (0,0))/\ah W3 (L + 2) (s.rv (.slice none 0 0) ov)):=⟨aw HT2.out.box (aF hgr (·=L) (fun j hj e=>by have:=(World.ownsRow.lt HT2.out.ovr j hj).1;omega)) rfl,HT2.out.rec_.keeps (aF hgr (·=L + 2) (fun j hj e=>by have:=(World.ownsRow.lt HT2.out.ovr j hj).1;omega)) rfl⟩
   obtain⟨va,vc,e3,_⟩:=az hown
   subst e3
   have HOWN:=ac hown
   have HGR:=ac hgr
   have HLOC:=ac hloc
   clear hown hgr hloc
   refine hK.out _ W3 HSV.out ?_
   clear hK K
   try simp only[Act.put,ps]
   refine lf 11 (.pointer (some ⟨L + 2,48,none⟩)) (.inr HSV.out) ?_
   try simp only[Act.put,ps]
   have c48:W3.cell? ⟨L + 2,48,none⟩=some ov:=HSV.out.2.cell 48
   have f48:=HSV.out.2.free 48
   refine gh (j:=12) (o:=_) (by kernel_rfl) rfl (by rfl) fun K hK=>?_
   go_simp
   obtain⟨W4,hW4⟩:∃z,z=W3.setCell ⟨L + 2,48,none⟩ (.slice va (xs.length + 1) vc):=⟨_,rfl⟩
   have HF:aa (gK w L D s (.slice va (xs.length + 1) vc) (.slice none 0 0) (xs++[(q:Int)]) [] W4/\(xs++[(q:Int)]).length=k + 1/\∀y∈xs++[(q:Int)],0<=y/\y<s.ca):=by
    refine⟨HT2.out.owner HGR.out HLOC.out (by have:=HOWN.out;simpa using this) hW4,by rw[List.length_append,HI.out.2.1];rfl,fun y hy=>?_⟩
    rcases List.mem_append.1 hy with hy | hy
    ·exact HI.out.2.2 y hy
    ·rw[List.mem_singleton.1 hy];exact⟨Int.natCast_nonneg q,HQL.out⟩
   rw[<-hW4]
   clear hW4 c48 f48
   refine hK.out _ W4 ?_
   clear hK K
   try simp only[Act.put,ps]
   refine fZ (by kernel_rfl) ?_ _
   apply_assumption
   go_wp2_with fail
   go_roundg (n1 - (k + 1))
   case measure=>exact HM.out.1
   case rel=>exact⟨k + 1,_,xs++[(q:Int)],HM.out.2.1,by go_num,Nat.le_refl _,HF.out⟩
  ·have hki:¬(k:Int)<=n:=by omega
   have hkn:k=n1:=by omega
   have HI2:aa (gK w L D s ov (.slice none 0 0) xs [] wr/\xs.length=n1/\∀y∈xs,0<=y/\y<s.ca):=by rw[<-hkn];exact HI.out
   clear HI hg
   go_wp2_with fail
   go_loopg [6] n (fun g v6 wx=>∃(k:Nat) (lv:Value) (ls:List (Int × Int)),k<=n/\v6=.int .i64 k/\n - k<=g/\aa (gK w L D s ov lv xs ls wx/\ls.length=k/\∀x∈ls,(1<=x.1/\x.1<=n)/\0<=x.2/\x.2<=1020))
   case atStart=>exact⟨0,_,[],Nat.zero_le _,rfl,by omega,HI2.out.1,rfl,fun x h=>by cases h⟩
   case round=>
    have HXL:=ac HI2.out.2
    clear HI2
    obtain⟨k,lv,ls,hk,rfl,hg,HI⟩:=hrel
    by_cases hlt:k<n
    ·have hki:(k:Int)<n:=by omega
     have HM:aa (n - (k + 1)<gk/\k + 1<=n/\k<=5):=⟨by omega,hlt,by omega⟩
     have k1:IntKind.i64.wrap ((n:Int) - (k:Int))=(n:Int) - (k:Int):=IntWalk.i64_in _ (by omega)
     have k3:IntKind.i64.wrap (5 * (k:Int))=5 * (k:Int):=IntWalk.i64_in _ (by omega)
     have k4:IntKind.i64.wrap (5 * (k:Int) + 1)=5 * (k:Int) + 1:=IntWalk.i64_in _ (by omega)
     clear hg
     go_upto_region 10 with fail
     obtain⟨dc,hdc⟩:∃c:List Value,D=c.toArray:=⟨D.toList,by simp⟩
     have HDC:=ac hdc
     have hi3:(prog.info? 24).map (·.size)=some dc.length:=by have:=HZD.out;rw[hdc] at this;exact this
     have HRG:aa (∀ W:World,W.heap[L]?=some (.cells D 24 (0,0))->W.rangeAt L 0 dc):=fun W hW=>by have:=eG hW;rw[hdc] at this;exact this
     have HBY:aa (∀ W,Below w.heap.size w W->∀i:Int,0<=i->i<=9223372036854775807->Calls prog 32 #[.agg dc.toArray,.int .i64 i] W fun e w'=>(∃ z:Int,0<=z/\z<=255/\e=.returned (.int .i64 z))/\Below W.heap.size W w'):=by
      intro W hW i h0 h1
      rw[<-HDC.out,HDD.out]
      exact iK W d HD.out b (HB.out.up hW) i (.inr h0) h1
     clear hdc
     obtain⟨W0,hW0⟩:=nm (wr.drew)
     have HT0:aa (gK w L D s ov lv xs ls W0):=by rw[hW0];exact HI.out.1.new (aA _)
     have HS0:aa (W0.heap[L]?=some (.cells D 24 (0,0))/\ah W0 (L + 2) (s.rv lv ov)):=⟨HT0.out.box,HT0.out.rec_⟩
     refine eU (t:=15) (S:=fun W=>W.heap[L]?=some (.cells D 24 (0,0))/\ah W (L + 2) (s.rv lv ov)) (by kernel_rfl) ?_
     rw[<-hW0]
     clear hW0
     refine lf 0 (.pointer (some ⟨L + 2,47,none⟩)) (.inr HS0.out) ?_
     try simp only[Act.put,ps]
     refine cX (i:=1) (oi:=_) (v:=lv) rfl (by kernel_rfl) (by kernel_rfl) (by kernel_rfl) (by decide) (by kernel_rfl) (by rfl) (fun _ _ _ h=>h) (Or.inl ⟨by rfl,?_⟩) HS0.out ?_
     ·intro W hSw
      have c:W.cell? ⟨L + 2,47,none⟩=some (lv):=hSw.2.cell 47
      go_simp
     try simp only[Act.put,ps]
     refine lf 2 (.int .i64 n) (.inr HS0.out) ?_
     try simp only[Act.put,ps]
     refine lf 3 (.int .i64 k) (.inr HS0.out) ?_
     try simp only[Act.put,ps]
     refine lf 4 (.int .i64 ((n:Int) - (k:Int))) (.inr HS0.out) ?_
     try simp only[Act.put,ps]
     refine cX (i:=5) (oi:=_) (v:=.agg dc.toArray) rfl (by kernel_rfl) (by kernel_rfl) (by kernel_rfl) (by decide) (by kernel_rfl) (by rfl) (fun _ _ _ h=>h) (yieldsIf_load_mid (by rfl) 24 (.tmp 1) rfl L 0 rfl dc _ (fun W hW=>HRG.out W hW.1) underlying24 rfl hi3) HS0.out ?_
     try simp only[Act.put,ps]
     refine lf 6 (.int .i64 k) (.inr HS0.out) ?_
     try simp only[Act.put,ps]
     refine lf 7 (.int .i64 (5 * (k:Int))) (.inr HS0.out) ?_
     try simp only[Act.put,ps]
     refine lf 8 (.int .i64 (5 * (k:Int) + 1)) (.inr HS0.out) ?_
     try simp only[Act.put,ps]
     refine dH (j:=9) (o:=_) (by kernel_rfl) rfl fun K hK=>?_
     go_simp
     refine (HBY.out W0 HT0.out.bel (5 * (k:Int) + 1) (by omega) (by have:=HM.out;omega)).mono ?_
     rintro e W1 ⟨⟨z,hz0,hz1,rfl⟩,hb⟩
     have HT1:=ac (HT0.out.new hb)
     have HZ4:aa (0<=4 * z/\4 * z<=1020):=by rw[aa];omega
     have k5:IntKind.i64.wrap (4 * z)=4 * z:=IntWalk.i64_in _ (by omega)
     have HS1:aa (W1.heap[L]?=some (.cells D 24 (0,0))/\ah W1 (L + 2) (s.rv lv ov)):=⟨HT1.out.box,HT1.out.rec_⟩
     clear hb hz0 hz1
     try go_simp
     refine hK.out _ W1 HS1.out ?_
     clear hK K
     try simp only[Act.put,ps]
     refine lf 10 (.int .i64 (4 * z)) (.inr HS1.out) ?_
     try simp only[Act.put,ps]
     refine lf 11 (.agg #[.int .i64 ((n:Int) - (k:Int)),.int .i64 (4 * z)]) (.inr HS1.out) ?_
     try simp only[Act.put,ps]
     refine dH (j:=12) (o:=_) (by kernel_rfl) rfl fun K hK=>?_
     refine aP (by rfl) 47 1 [(0,.tmp 64)] rfl [(0,.agg #[.int .i64 ((n:Int) - (k:Int)),.int .i64 (4 * z)])] rfl _ (zN _ _ _) ?_
     obtain⟨hd,hhd⟩:=nm (W1.heap.size)
     obtain⟨W2,hW2⟩:=nm (W1.alloc (.cells #[.int .i64 ((n:Int) - (k:Int)),.int .i64 (4 * z)] 63))
     have HH2:aa (W2.heap[hd]?=some (.cells #[.int .i64 ((n:Int) - (k:Int)),.int .i64 (4 * z)] 63 (0,0))):=by rw[hW2,hhd];exact ax _ _
     have HT2:aa (gK w L D s ov lv xs ls W2):=by rw[hW2];exact HT1.out.new (af _ _)
     rw[<-hW2,<-hhd]
     have HS2:aa (W2.heap[L]?=some (.cells D 24 (0,0))/\ah W2 (L + 2) (s.rv lv ov)):=⟨HT2.out.box,HT2.out.rec_⟩
     refine hK.out _ W2 HS2.out ?_
     clear hK K hW2 hhd
     try simp only[Act.put,ps]
     refine dH (j:=13) (o:=_) (by kernel_rfl) rfl fun K hK=>?_
     refine cO rfl _ _ 47 rfl 63 (.agg #[.int .i64 0,.int .i64 0]) 2 16 underlying47 Tryz.infoLt rfl (by decide) (L + 3) lv ls.length (cM ls) rfl HT2.out.lvr hd 0 1 1 [.int .i64 ((n:Int) - (k:Int)),.int .i64 (4 * z)] rfl rfl ?c2 ?c3 ?c4 ?c5 HT2.out.size ?_
     case c2=>intro j u hu;rw[Nat.zero_add,aq HH2.out];simpa using hu
     case c3=>intro u hu;simp at hu;rcases hu with rfl | rfl <;> rfl
     case c4=>have:=HM.out;have:=HI.out.2.1;unfold maxLen;omega
     case c5=>have:=HM.out;have:=HI.out.2.1;omega
     intro v3 W3 hown hgr hloc
     have HSV:aa (W3.heap[L]?=some (.cells D 24 (0,0))/\ah W3 (L + 2) (s.rv lv ov)):=⟨aw HT2.out.box (aF hgr (·=L) (fun j hj e=>by have:=(World.ownsRow.lt HT2.out.lvr j hj).1;omega)) rfl,HT2.out.rec_.keeps (aF hgr (·=L + 2) (fun j hj e=>by have:=(World.ownsRow.lt HT2.out.lvr j hj).1;omega)) rfl⟩
     obtain⟨va,vc,e3,_⟩:=az hown
     subst e3
     have HOWN:=ac hown
     have HGR:=ac hgr
     have HLOC:=ac hloc
     clear hown hgr hloc
     refine hK.out _ W3 HSV.out ?_
     clear hK K
     try simp only[Act.put,ps]
     refine lf 14 (.pointer (some ⟨L + 2,47,none⟩)) (.inr HSV.out) ?_
     try simp only[Act.put,ps]
     have c47:W3.cell? ⟨L + 2,47,none⟩=some lv:=HSV.out.2.cell 47
     have f47:=HSV.out.2.free 47
     refine gh (j:=15) (o:=_) (by kernel_rfl) rfl (by rfl) fun K hK=>?_
     go_simp
     obtain⟨W4,hW4⟩:∃z,z=W3.setCell ⟨L + 2,47,none⟩ (.slice va (ls.length + 1) vc):=⟨_,rfl⟩
     have HF:aa (gK w L D s ov (.slice va (ls.length + 1) vc) xs (ls++[((n:Int) - (k:Int),4 * z)]) W4/\(ls++[((n:Int) - (k:Int),4 * z)]).length=k + 1/\∀x∈ls++[((n:Int) - (k:Int),4 * z)],(1<=x.1/\x.1<=n)/\0<=x.2/\x.2<=1020):=by
      refine⟨HT2.out.lot HGR.out HLOC.out (by have:=HOWN.out;simpa using this) hW4,by rw[List.length_append,HI.out.2.1];rfl,fun y hy=>?_⟩
      rcases List.mem_append.1 hy with hy | hy
      ·exact HI.out.2.2 y hy
      ·rw[List.mem_singleton.1 hy];have h1:=HM.out;have h2:=HZ4.out;exact⟨⟨by simp;omega,by simp;omega⟩,h2⟩
     rw[<-hW4]
     clear hW4 c47 f47
     refine hK.out _ W4 ?_
     clear hK K
     try simp only[Act.put,ps]
     refine fZ (by kernel_rfl) ?_ _
     apply_assumption
     go_wp2_with fail
     go_roundg (n - (k + 1))
     case measure=>exact HM.out.1
     case rel=>exact⟨k + 1,_,ls++[((n:Int) - (k:Int),4 * z)],HM.out.2.1,by go_num,Nat.le_refl _,HF.out⟩
    ·have hki:¬(k:Int)<n:=by omega
     have hkn:k=n:=by omega
     have HI3:aa (gK w L D s ov lv xs ls wr/\ls.length=n/\∀x∈ls,(1<=x.1/\x.1<=n)/\0<=x.2/\x.2<=1020):=⟨HI.out.1,by rw[<-hkn];exact HI.out.2.1,HI.out.2.2⟩
     have HRC:aa (wr.heap[L + 2]?=some (.cells (ae (s.rv lv ov)) 49 (0,0))):=HI3.out.1.rec_
     have HON:aa ((ae (s.rv lv ov)).all (·.oneCell')=true):=by
      obtain⟨_,_,eo,_⟩:=az HI3.out.1.ovr
      obtain⟨_,_,el,_⟩:=az HI3.out.1.lvr
      rw[eo,el]
      exact aM _ rfl rfl rfl
     obtain⟨RR,hRR⟩:∃R:Array Value,R=ae (s.rv lv ov):=⟨_,rfl⟩
     have HRR:=ac hRR
     have hi49:(prog.info? 49).map (·.size)=some RR.size:=by rw[hRR,aj];kernel_rfl
     have HI49:=ac hi49
     have HRZ:aa ((ae ({}:RecV)).size=RR.size):=by rw[aa,hRR,aj,aj]
     rw[<-hRR] at HRC HON
     clear HI hg hi49 hRR
     go_wp2_with (first
      | (refine wpList_load_row (by rfl) _ _ rfl (L + 2) rfl _ RR (0,0) _ HRC.out underlying49 rfl HI49.out ?_;try simp only[Act.put,ps])
      | (refine wpList_store_row rfl _ _ _ rfl (L + 1) RR rfl rfl 49 _ HI3.out.1.res HI49.out HRZ.out HON.out ?_)
      | fail)
     obtain⟨w9,hw9⟩:=nm (wr.setRow (L + 1) RR)
     have HQ9:aa (w9.heap[L + 1]?=some (.cells RR 49 (0,0))):=by rw[hw9];exact setRow_heap wr (L + 1) _ _ _ _ HI3.out.1.res
     have HFN:=ac (HI3.out.1.fin hw9)
     rw[<-hw9]
     clear hw9
     try simp only[Act.put]
     refine bodyPost_ret_by (results_cell_row (by rfl) _ w9 (L + 1) _ _ _ _ rfl HQ9.out underlying49 rfl HI49.out) rfl ?_
     refine⟨HFN.out.2,s,lv,ov,ls,xs,HSO.out,by rw[HRR.out],HFN.out.1,by rw[HNL.out.2];exact HI3.out.2.1,by rw[HNL.out.2,<-HN1.out];exact HXL.out.1,HXL.out.2,fun x hx=>?_⟩
     rw[HNL.out.2]
     exact HI3.out.2.2 x hx
theorem kV {w:World} {v:Value} {ds:List RecD} (hds:ds.length<1000000000) (h:aX w v ds) {y:Int} (hy:y=dg ds ds.length) (q:Nat):Calls prog 30 #[v] (w.drewN q) fun e w'=>e=.returned (.int .i64 y)/\∃m,w'=w.drewN m:=
 (iJ (w.drewN q) v ds hds (h.on (ay w q))).mono fun _ _ ⟨he,hw⟩=>⟨by rw[hy];exact he,q,hw⟩
theorem gV {w:World} {v:Value} {ds:List RecD} (hds:ds.length<1000000000) (h:aX w v ds) (x:Int) {y:Int} (hy:y=eO ds x ds.length) (q:Nat):Calls prog 51 #[v,.int .i64 x] (w.drewN q) fun e w'=>e=.returned (.int .i64 y)/\∃m,w'=w.drewN m:=
 (oV (w.drewN q) v ds hds (h.on (ay w q)) x).mono fun _ _ ⟨he,hw⟩=>⟨by rw[hy];exact he,q,hw⟩
theorem ek {w:World} {v:Value} {ds:List RecD} (hds:ds.length<1000000000) (h:aX w v ds) (h0:0<ds.length) (x:Int) {y:Int} (hy:y=gD ds x) (q:Nat):Calls prog 52 #[v,.int .i64 x] (w.drewN q) fun e w'=>e=.returned (.int .i64 y)/\∃m,w'=w.drewN m:=
 (sQ (w.drewN q) v ds hds (h.on (ay w q)) h0 x).mono fun _ _ ⟨he,hw⟩=>⟨by rw[hy];exact he,q,hw⟩
theorem jx {w:World} {v:Value} {xs:List Int} (hx:xs.length<1000000000) (h:bA w v xs) (x:Int) {y:Bool} (hy:y=qT xs x) (q:Nat):Calls prog 56 #[v,.int .i64 x] (w.drewN q) fun e w'=>e=.returned (.bool y)/\∃m,w'=w.drewN m:=
 (nC (w.drewN q) v xs hx (h.up (ay w q)) x).mono fun _ _ ⟨he,hw⟩=>⟨by rw[hy];exact he,q,hw⟩
theorem Bv {w:World} {v:Value} {ds:List RecD} (hds:ds.length<1000000000) (h:aX w v ds) (fr:Nat) (hfr:fr<=ds.length) (kd ca:Int) {y:Int} (hy:y=sO ds kd ca fr (ds.length - fr)) (q:Nat):Calls prog 59 #[v,.int .i64 fr,.int .i64 kd,.int .i64 ca] (w.drewN q) fun e w'=>e=.returned (.int .i64 y)/\∃m,w'=w.drewN m:=
 (tS (w.drewN q) v ds hds (h.on (ay w q)) fr hfr kd ca).mono fun _ _ ⟨he,hw⟩=>⟨by rw[hy];exact he,q,hw⟩
theorem rn {ds:List RecD} {lot:Int} (h:gD ds lot=0):0<=lot/\lot<(ds.getD 0 {}).lots.length:=by
 unfold gD at h
 split at h
 ·cases h
 ·rename_i hn
  exact⟨Int.not_lt.1 fun h=>hn (.inl h),Int.not_le.1 fun h=>hn (.inr h)⟩
def AR (w:World) (ds:List RecD) (d:RecD) (e:Ending) (w':World):Prop:=∃b,e=.returned (.bool b)/\Below w.heap.size w w'/\(b=true->0<=d.lot/\d.lot<(ds.getD 0 {}).lots.length)
theorem vp (w:World) (v:Value) (ds:List RecD) (h:aX w v ds) (hd:DW ds) (rv:RecV) (d:RecD) (hr:bu w rv d) (hm:Bp d):
  Calls prog 91 #[v,.agg (ae rv)] w (AR w ds d):=by
 have HD:=ac hd
 have HM:=ac hm
 obtain⟨a,cap,hv,hcap,hj⟩:=h.cols
 obtain⟨lb,lo,ea,hlb,_⟩:=hj hd.ne
 subst ea
 obtain⟨n,hn⟩:=nm (ds.length)
 have hn1:(0:Int)<n:=by have:=hd.ne;omega
 have hn2:0<n:=by omega
 have hn9:n<1000000:=by have:=hd.small;omega
 have HN:=ac hn
 rw[<-hn] at hv
 subst hv
 clear hj hcap hlb hn
 obtain⟨L,hL⟩:=nm (w.heap.size)
 obtain⟨w0,hw0⟩:=nm (w.alloc (.cells (ae rv) 49))
 have HN0:aa (Below w.heap.size w w0):=by rw[hw0];exact af _ _
 have HR0:aa (ah w0 L rv):=by rw[hw0,hL];exact ah.box _ _
 have HRA:aa (aX w0 (.slice (some ⟨lb,lo,none⟩) n cap) ds):=h.on HN0.out
 obtain⟨bv,lv,ov,erv,hbr,_,_⟩:=hr.on HN0.out
 have HBR:=ac hbr
 have HERV:=ac erv
 have HDS:aa (ds.length<1000000000):=by have:=hd.small;rw[aa];omega
 obtain⟨rdQ,hrd⟩:=nm (d.round)
 obtain⟨lt,hlt⟩:=nm (d.lot)
 have HLT:=ac hlt
 have hl15:0<=lt/\lt<=15:=by rw[hlt];exact hm.lot
 have c1:w0.cell? ⟨L,1,none⟩=some (.int .i64 rdQ):=by rw[hrd];have:=HR0.out.cell 1;rw[erv] at this;exact this
 have c2:w0.cell? ⟨L,2,none⟩=some (.int .i64 lt):=by rw[hlt];have:=HR0.out.cell 2;rw[erv] at this;exact this
 have c5:w0.cell? ⟨L,5,none⟩=some bv:=by have:=HR0.out.cell 5;rw[erv] at this;exact this
 have C2:=ac c2
 have C5:=ac c5
 obtain⟨op,hop⟩:=nm (dg ds ds.length)
 obtain⟨kn,hkn⟩:∃x:Int,x=(eO ds 5 ds.length:Int):=⟨_,rfl⟩
 obtain⟨st,hst⟩:=nm (gD ds lt)
 have HOP:=ac hop
 have HKN:=ac hkn
 have HST:=ac hst
 clear h hr hm erv hrd hlt hbr hop hkn hst hd
 go_enter func91,ntmps91
 go_upto_region 1 with fail
 rw[<-hw0,<-hL]
 clear hw0 hL
 by_cases h1:0<=op
 ·have b1:decide (0<=op)=true:=decide_eq_true h1
  clear h1
  go_quiet ((first | (go_at_call 30;exact kV HDS.out HRA.out HOP.out _) | (go_at_call 51;exact gV HDS.out HRA.out _ HKN.out _) | (go_at_call 52;exact ek HDS.out HRA.out HD.out.ne _ HST.out _)))
  go_wp2_with fail
  go_ret
  exact⟨false,rfl,ar w _ _ HN0.out (ay _ _),fun h=>by cases h⟩
 have b1:decide (0<=op)=false:=decide_eq_false h1
 by_cases h2:rdQ=kn
 case neg=>
  have b2:(rdQ !=kn)=true:=by simpa using h2
  clear h1 h2
  go_quiet ((first | (go_at_call 30;exact kV HDS.out HRA.out HOP.out _) | (go_at_call 51;exact gV HDS.out HRA.out _ HKN.out _) | (go_at_call 52;exact ek HDS.out HRA.out HD.out.ne _ HST.out _)))
  go_wp2_with fail
  go_ret
  exact⟨false,rfl,ar w _ _ HN0.out (ay _ _),fun h=>by cases h⟩
 have b2:(rdQ !=kn)=false:=by simpa using h2
 by_cases h3:st=0
 case neg=>
  have b3:(st !=0)=true:=by simpa using h3
  clear h1 h2 h3
  go_quiet ((first | (go_at_call 30;exact kV HDS.out HRA.out HOP.out _) | (go_at_call 51;exact gV HDS.out HRA.out _ HKN.out _) | (go_at_call 52;exact ek HDS.out HRA.out HD.out.ne _ HST.out _)))
  go_wp2_with fail
  go_ret
  exact⟨false,rfl,ar w _ _ HN0.out (ay _ _),fun h=>by cases h⟩
 have b3:(st !=0)=false:=by simpa using h3
 have HWL:aa (0<=lt/\lt<(ds.getD 0 {}).lots.length):=rn (by rw[<-HST.out];exact h3)
 clear h1 h2 h3
 go_quiet ((first | (go_at_call 30;exact kV HDS.out HRA.out HOP.out _) | (go_at_call 51;exact gV HDS.out HRA.out _ HKN.out _) | (go_at_call 52;exact ek HDS.out HRA.out HD.out.ne _ HST.out _)))
 obtain⟨w1,hw1⟩:=nm (w0.drewN nq)
 have HN1:aa (Below w.heap.size w w1):=by rw[hw1];exact ar w _ _ HN0.out (ay _ _)
 have HB01:aa (Below w0.heap.size w0 w1):=by rw[hw1];exact ay _ _
 rw[<-hw1]
 clear hw1 b1 b2 b3 c1 c2 c5
 go_wp2_with fail
 refine (jv w1 _ ds (HRA.out.on HB01.out) HD.out).mono ?_
 rintro e w2 ⟨u,rfl,hbel,xs,hxs,hrow⟩
 obtain⟨on,hon⟩:∃x,x=(ds.getD 0 {}).owners.length:=⟨_,rfl⟩
 rw[<-hon] at hxs hrow
 have HON:=ac hon
 have hlk:=HWL.out
 obtain⟨lk,rfl⟩:∃c:Nat,lt=c:=Int.eq_ofNat_of_zero_le hlk.1
 have hreq0:=HD.out.reqs 0 (by omega)
 rw[<-hon] at hreq0
 obtain⟨gg,gc,cur,rfl,hgb,hgh,hgc,hgm,hgs,hgj⟩:=gU (by omega) hrow
 have HGJ:aa (∀ j,j<on->w2.cell? ⟨gg,j,none⟩=some (.int .i64 (xs.getD j 0))):=fun j hj=>hgj j _ (by rw[List.getElem?_map,List.getD_eq_getElem?_getD,List.getElem?_eq_getElem (by omega)];rfl)
 have HN2:aa (Below w.heap.size w w2):=ar w _ _ HN1.out hbel
 have HR2:aa (aX w2 (.slice (some ⟨lb,lo,none⟩) n cap) ds):=(HRA.out.on HB01.out).on hbel
 have HI2:=ac ((HR0.out.new HB01.out).new hbel)
 have HBR2:aa (bA w2 bv d.barred):=(HBR.out.up HB01.out).up hbel
 have HCOL:aa (∀ W,Below w2.heap.size w2 W->∀j,j<ds.length->yE W lb (lo + j * 49) (ds.getD j {})):=by
  obtain⟨a',cap',e',_,hj'⟩:=HR2.out.cols
  obtain⟨lb',lo',ea',_,hc'⟩:=hj' HD.out.ne
  intro W hW j hj
  obtain⟨e1,_,_⟩:=Value.slice.inj e'
  rw[ea'] at e1
  injection e1 with e1
  injection e1 with e1 e2
  subst e1;subst e2
  exact (hc' j hj).on hW
 clear hbel hxs hrow hon hlk hreq0 hgb hgh hgc hgm hgs hgj HRA HB01 HN1 HBR HOP HKN HST
 obtain⟨bl,hbl⟩:=nm (d.barred)
 have HBL:aa (bl.length<=8):=by rw[hbl];exact HM.out.nbar
 rw[<-hbl] at HBR2
 clear hbl
 go_wp2_with fail
 go_loopg [6] (lk + 1) (fun g v6 wr=>∃k:Nat,k<=lk + 1/\v6=.int .i64 k/\lk + 1 - k<=g/\aa (Below w2.heap.size w2 wr))
 case atStart=>exact⟨0,Nat.zero_le _,rfl,by omega,Below.refl _ _⟩
 case round=>
  obtain⟨k,hk,rfl,hg,HW⟩:=hrel
  have c2:wr.cell? ⟨L,2,none⟩=some (.int .i64 lk):=by have:=(HI2.out.new HW.out).cell 2;rw[HERV.out] at this;rw[HLT.out];exact this
  by_cases hle:k<lk + 1
  ·have hki:(k:Int)<=lk:=by omega
   have HM1:aa (lk + 1 - (k + 1)<gk/\k + 1<=lk + 1):=⟨by omega,hle⟩
   obtain⟨lv2,e47,⟨la,lc,rfl,hlc,hla⟩⟩:=(HCOL.out wr HW.out 0 HD.out.ne).lots
   rw[Nat.zero_mul,Nat.add_zero] at e47
   have hlw:=HWL.out
   obtain⟨ln,hln⟩:∃x,x=(ds.getD 0 {}).lots.length:=⟨_,rfl⟩
   rw[<-hln] at e47 hlc hla hlw
   obtain⟨xb,xo,rfl,hxb,hxj⟩:=hla (by omega)
   have hkl:k<ln:=by omega
   have hkl2:(k:Int)<ln:=by omega
   have hreq:=HD.out.reqs k (by rw[<-hln];exact hkl)
   rw[<-HON.out] at hreq
   have cq:=(hxj k hkl).1
   obtain⟨x,hx⟩:∃x,x=((ds.getD 0 {}).lots.getD k (0,0)).1:=⟨_,rfl⟩
   rw[<-hx] at cq hreq
   obtain⟨m,rfl⟩:∃m:Nat,x=m:=Int.eq_ofNat_of_zero_le hreq.1
   have hmo:m<on:=by omega
   have hmn:(m:Int)<on:=by omega
   have cz:wr.cell? ⟨gg,m,none⟩=some (.int .i64 (xs.getD m 0)):=by have:=HGJ.out m hmo;exact (HW.out.cell (aC this)).trans this
   generalize xs.getD m 0=z at cz
   have c5:wr.cell? ⟨L,5,none⟩=some bv:=by have:=(HI2.out.new HW.out).cell 5;rw[HERV.out] at this;exact this
   have HRW:aa (aX wr (.slice (some ⟨lb,lo,none⟩) n cap) ds):=HR2.out.on HW.out
   have HBW:aa (bA wr bv bl):=HBR2.out.up HW.out
   obtain⟨sk,hsk⟩:=nm (gD ds k)
   have HSK:=ac hsk
   obtain⟨hb,hhb⟩:=nm (qT bl z)
   have HHB:=ac hhb
   clear hg hlc hla hln hxb hxj hreq hx hlw hsk hhb hkl
   go_upto_region 8 with fail
   clear e47 cq cz hmn hkl2
   by_cases h0:sk=0
   case neg=>
    have b0:(sk==0)=false:=by simpa using h0
    clear h0
    go_quiet ((first | (go_at_call 52;exact ek HDS.out HRW.out HD.out.ne _ HSK.out _) | (go_at_call 56;exact jx (Nat.lt_of_le_of_lt HBL.out (by decide)) HBW.out _ HHB.out _)))
    go_wp2_with fail
    go_roundg (lk + 1 - (k + 1))
    case measure=>exact HM1.out.1
    case rel=>exact⟨k + 1,HM1.out.2,by go_num,Nat.le_refl _,ar w2 _ _ HW.out (ay _ _)⟩
   have b0:(sk==0)=true:=by simpa using h0
   clear h0
   cases hb with
   | true=>
    by_cases hcl:k<lk
    ·have hcl2:(k:Int)<lk:=by omega
     go_quiet ((first | (go_at_call 52;exact ek HDS.out HRW.out HD.out.ne _ HSK.out _) | (go_at_call 56;exact jx (Nat.lt_of_le_of_lt HBL.out (by decide)) HBW.out _ HHB.out _)))
     go_wp2_with fail
     go_roundg (lk + 1 - (k + 1))
     case measure=>exact HM1.out.1
     case rel=>exact⟨k + 1,HM1.out.2,by go_num,Nat.le_refl _,ar w2 _ _ HW.out (ay _ _)⟩
    ·have hcl2:¬(k:Int)<lk:=by omega
     go_quiet ((first | (go_at_call 52;exact ek HDS.out HRW.out HD.out.ne _ HSK.out _) | (go_at_call 56;exact jx (Nat.lt_of_le_of_lt HBL.out (by decide)) HBW.out _ HHB.out _)))
     go_wp2_with fail
     go_ret
     exact⟨false,rfl,ar w _ _ (ar w _ _ HN2.out HW.out) (ay _ _),fun h=>by cases h⟩
   | false=>
    by_cases hcl:k<lk
    ·have hcl2:(k:Int)<lk:=by omega
     go_quiet ((first | (go_at_call 52;exact ek HDS.out HRW.out HD.out.ne _ HSK.out _) | (go_at_call 56;exact jx (Nat.lt_of_le_of_lt HBL.out (by decide)) HBW.out _ HHB.out _)))
     go_wp2_with fail
     go_ret
     exact⟨false,rfl,ar w _ _ (ar w _ _ HN2.out HW.out) (ay _ _),fun h=>by cases h⟩
    ·have hcl2:¬(k:Int)<lk:=by omega
     go_quiet ((first | (go_at_call 52;exact ek HDS.out HRW.out HD.out.ne _ HSK.out _) | (go_at_call 56;exact jx (Nat.lt_of_le_of_lt HBL.out (by decide)) HBW.out _ HHB.out _)))
     go_wp2_with fail
     go_roundg (lk + 1 - (k + 1))
     case measure=>exact HM1.out.1
     case rel=>exact⟨k + 1,HM1.out.2,by go_num,Nat.le_refl _,ar w2 _ _ HW.out (ay _ _)⟩
  ·have hki:¬(k:Int)<=lk:=by omega
   obtain⟨w3,hw3⟩:=nm (wr)
   rw[<-hw3] at c2 HW ⊢
   have HN3:aa (Below w.heap.size w w3):=ar w _ _ HN2.out HW.out
   have HR3:aa (aX w3 (.slice (some ⟨lb,lo,none⟩) n cap) ds):=HR2.out.on HW.out
   have HBR3:aa (bA w3 bv bl):=HBR2.out.up HW.out
   have HI3:=ac (HI2.out.new HW.out)
   have HCOL3:aa (∀ W,Below w3.heap.size w3 W->∀j,j<ds.length->yE W lb (lo + j * 49) (ds.getD j {})):=fun W hW=>HCOL.out W (ar w2 _ _ HW.out hW)
   obtain⟨ba,bc,hbv,hbc,hbj⟩:=HBR3.out
   subst hbv
   have HBJ:=ac hbj
   obtain⟨bn,hbn⟩:=nm (bl.length)
   have HBN:=ac hbn
   rw[<-hbn] at hbc
   have hbn8:bn<=8:=by rw[hbn];exact HBL.out
   clear HR2 HBR2 HI2 HCOL HGJ HN2 HW hw3 hg hk hle hbj hbn
   go_wp2_with fail
   clear c2 hki
   go_loopg [8] bn (fun g v8 wx=>∃k:Nat,k<=bn/\v8=.int .i64 k/\bn - k<=g/\aa (Below w3.heap.size w3 wx))
   case atStart=>exact⟨0,Nat.zero_le _,rfl,by omega,Below.refl _ _⟩
   case round=>
    obtain⟨k,hk,rfl,hg,HW⟩:=hrel
    have c5:wr.cell? ⟨L,5,none⟩=some (.slice ba bn bc):=by have:=(HI3.out.new HW.out).cell 5;rw[HERV.out] at this;rw[HBN.out];exact this
    by_cases hlt:k<bn
    ·have hki:(k:Int)<bn:=by omega
     have HM1:aa (bn - (k + 1)<gk/\k + 1<=bn):=⟨by omega,hlt⟩
     obtain⟨bb,bo,rfl,hbb,hbj2⟩:=HBJ.out (by rw[<-HBN.out];omega)
     have cz:wr.cell? ⟨bb,bo + k,none⟩=some (.int .i64 (bl.getD k 0)):=(HW.out.cell (p:=⟨bb,bo + k,none⟩) hbb).trans (hbj2 k (by rw[<-HBN.out];exact hlt))
     have e43:=(HCOL3.out wr HW.out 0 HD.out.ne).carriers
     rw[Nat.zero_mul,Nat.add_zero] at e43
     generalize (ds.getD 0 {}).carriers=ca at e43
     generalize bl.getD k 0=z at cz
     clear hg hbj2 hbb
     go_upto_region 13 with fail
     by_cases h0:ca<=z
     ·have b0:decide (ca<=z)=true:=decide_eq_true h0
      clear h0
      go_quiet (fail)
      go_wp2_with fail
      go_ret
      exact⟨false,rfl,ar w _ _ (ar w _ _ HN3.out HW.out) (ay _ _),fun h=>by cases h⟩
     ·have b0:decide (ca<=z)=false:=decide_eq_false h0
      clear h0
      go_quiet (fail)
      go_wp2_with fail
      go_roundg (bn - (k + 1))
      case measure=>exact HM1.out.1
      case rel=>exact⟨k + 1,HM1.out.2,by go_num,Nat.le_refl _,ar w3 _ _ HW.out (ay _ _)⟩
    ·have hki:¬(k:Int)<bn:=by omega
     obtain⟨w4,hw4⟩:=nm (wr)
     rw[<-hw4] at c5 HW ⊢
     have HN4:aa (Below w.heap.size w w4):=ar w _ _ HN3.out HW.out
     have HB34:=ac HW.out
     clear hw4 hg hk hlt HW
     go_wp2_with fail
     clear c5 hki
     go_loopg [9] n (fun g v9 wx=>∃k:Nat,k<=n/\v9=.int .i64 k/\n - k<=g/\aa (Below w4.heap.size w4 wx))
     case atStart=>exact⟨0,Nat.zero_le _,rfl,by omega,Below.refl _ _⟩
     case round=>
      obtain⟨k,hk,rfl,hg,HW⟩:=hrel
      by_cases hlt:k<n
      ·have hki:(k:Int)<n:=by omega
       have HM1:aa (n - (k + 1)<gk/\k + 1<=n):=⟨by omega,hlt⟩
       have HKD:aa (k<ds.length):=by rw[<-HN.out];exact hlt
       obtain⟨w5,hw5⟩:=nm (wr)
       rw[<-hw5] at HW ⊢
       have HN5:aa (Below w.heap.size w w5):=ar w _ _ HN4.out HW.out
       have HB35:aa (Below w3.heap.size w3 w5):=ar w3 _ _ HB34.out HW.out
       have HB45:=ac HW.out
       obtain⟨z,hz⟩:∃z,z=(ds.getD k {}).kind:=⟨_,rfl⟩
       have HZ:=ac hz
       obtain⟨xl,hxl⟩:∃x,x=(ds.getD k {}).barred:=⟨_,rfl⟩
       have HXL:=ac hxl
       obtain⟨xn,hxn⟩:=nm (xl.length)
       have HXN:=ac hxn
       obtain⟨xv,e5,hxr⟩:=(HCOL3.out w5 HB35.out k HKD.out).barred
       obtain⟨xa,xc,rfl,hxc,hxj⟩:=hxr
       rw[<-hxl,<-hxn] at e5 hxc
       rw[<-hxl] at hxj
       have E5:=ac e5
       have HXJ:=ac hxj
       clear hw5 hg hk HW hz hxl hxn e5 hxj
       go_wp2_with fail
       go_loopg [10] (xn + 1) (fun g v10 wx=>∃j:Nat,j<=xn/\v10=.int .i64 j/\xn + 1 - j<=g/\aa (Below w5.heap.size w5 wx))
       case atStart=>exact⟨0,Nat.zero_le _,rfl,by omega,Below.refl _ _⟩
       case round=>
        obtain⟨j,hj,rfl,hg,HW⟩:=hrel
        have hcol:=HCOL3.out wr (ar w3 _ _ HB35.out HW.out) k HKD.out
        have c0:=hcol.kind
        rw[<-HZ.out] at c0
        have e5:wr.cell? ⟨lb,lo + k * 49 + 5,none⟩=some (.slice xa xn xc):=(HW.out.cell (aC E5.out)).trans E5.out
        clear hcol
        by_cases h2:z=2
        case neg=>
         have b2:(z==2)=false:=by simpa using h2
         clear h2
         go_wp2_with fail
         go_roundg (n - (k + 1))
         case measure=>exact HM1.out.1
         case rel=>exact⟨k + 1,HM1.out.2,by go_num,Nat.le_refl _,ar w4 _ _ HB45.out HW.out⟩
        subst h2
        by_cases hjx:j<xn
        case neg=>
         have hji:¬(j:Int)<xn:=by omega
         go_wp2_with fail
         go_roundg (n - (k + 1))
         case measure=>exact HM1.out.1
         case rel=>exact⟨k + 1,HM1.out.2,by go_num,Nat.le_refl _,ar w4 _ _ HB45.out HW.out⟩
        have hji:(j:Int)<xn:=by omega
        have hxn8:xn<=8:=by rw[HXN.out,HXL.out];exact (jA (HD.out.at_ HKD.out).1 HZ.out.symm).nbar
        have HM2:aa (xn + 1 - (j + 1)<gk/\j + 1<=xn):=⟨by omega,hjx⟩
        obtain⟨yb,yo,rfl,hyb,hyj⟩:=HXJ.out (by rw[<-HXN.out];omega)
        have cy:wr.cell? ⟨yb,yo + j,none⟩=some (.int .i64 (xl.getD j 0)):=(HW.out.cell (p:=⟨yb,yo + j,none⟩) hyb).trans (hyj j (by rw[<-HXN.out];exact hjx))
        have d5:wr.cell? ⟨L,5,none⟩=some (.slice ba bn bc):=by have:=((HI3.out.new HB35.out).new HW.out).cell 5;rw[HERV.out] at this;rw[HBN.out];exact this
        have HBW:aa (bA wr (.slice ba bn bc) bl):=by have:=(HBR3.out.up HB35.out).up HW.out;rw[<-HBN.out] at this;exact this
        obtain⟨y,hy⟩:=nm (xl.getD j 0)
        rw[<-hy] at cy
        obtain⟨hb,hhb⟩:=nm (qT bl y)
        have HHB:=ac hhb
        clear hg hyb hyj hy hhb
        go_upto_region 21 with fail
        clear c0
        cases hb with
        | true=>
         go_quiet ((go_at_call 56;exact jx (Nat.lt_of_le_of_lt HBL.out (by decide)) HBW.out _ HHB.out _))
         go_wp2_with fail
         go_roundg (xn + 1 - (j + 1))
         case measure=>exact HM2.out.1
         case rel=>exact⟨j + 1,HM2.out.2,by go_num,Nat.le_refl _,ar w5 _ _ HW.out (ay _ _)⟩
        | false=>
         go_quiet ((go_at_call 56;exact jx (Nat.lt_of_le_of_lt HBL.out (by decide)) HBW.out _ HHB.out _))
         go_wp2_with fail
         go_ret
         exact⟨false,rfl,ar w _ _ (ar w _ _ HN5.out HW.out) (ay _ _),fun h=>by cases h⟩
      ·have hki:¬(k:Int)<n:=by omega
       go_wp2_with fail
       go_ret
       exact⟨true,rfl,ar w _ _ HN4.out HW.out,fun _=>by rw[<-HLT.out];exact HWL.out⟩
def t7 (ds:List RecD):Int:=(ds.getD (ds.length - 1) {}).tick
theorem vq (w:World) (v:Value) (ds:List RecD) (hds:ds.length<1000000) (h:aX w v ds) (h0:0<ds.length):Calls prog 90 #[v] w fun e w'=>e=.returned (.int .i64 (t7 ds))/\w'=w:=by
 obtain⟨a,cap,rfl,hcap,hj⟩:=h.cols
 obtain⟨lb,lo,rfl,hlb,hcl⟩:=hj h0
 obtain⟨n,hn⟩:=nm (ds.length)
 have c4:=(hcl (ds.length - 1) (by omega)).tick
 obtain⟨t,ht⟩:=nm (t7 ds)
 rw[show (ds.getD (ds.length - 1) {}).tick=t from ht.symm,<-hn] at c4
 obtain⟨k,hk⟩:=nm (n - 1)
 have hkn:k + 1=n:=by omega
 have hki:IntKind.i64.wrap ((n:Int) - 1)=(k:Int):=by rw[show (n:Int) - 1=(k:Int) by omega];exact IntWalk.i64_in _ (by omega)
 have hkl:(k:Int)<n:=by omega
 have hn0:((n:Int)==0)=false:=by simp;omega
 rw[<-ht,<-hn]
 rw[<-hk] at c4
 clear hj hn hcap h hcl hlb ht h0 hk
 go_enter func90,ntmps90
 go_wp2_with fail
 go_ret
 exact⟨rfl,rfl⟩
theorem pY {w:World} {v:Value} {ds:List RecD} (hds:ds.length<1000000) (h:aX w v ds) (h0:0<ds.length) {y:Int} (hy:y=t7 ds) (q:Nat):Calls prog 90 #[v] (w.drewN q) fun e w'=>e=.returned (.int .i64 y)/\∃m,w'=w.drewN m:=
 (vq (w.drewN q) v ds hds (h.on (ay w q)) h0).mono fun _ _ ⟨he,hw⟩=>⟨by rw[hy];exact he,q,hw⟩
def o7 (ds:List RecD) (d:RecD):Prop:=d.kind≠1/\(d.kind=2->0<=d.lot/\d.lot<(ds.getD 0 {}).lots.length)/\(d.kind=5->∃i,i<ds.length/\(ds.getD i {}).kind=2/\(ds.getD i {}).round=d.round)
def vt (w:World) (ds:List RecD) (d:RecD) (e:Ending) (w':World):Prop:=∃b,e=.returned (.bool b)/\Below w.heap.size w w'/\(b=true->o7 ds d)
theorem eH {ds:List RecD} {d:RecD} {j:Nat} (hj:j<ds.length):(ds++[d]).getD j {}=ds.getD j {}:=by
 rw[List.getD_eq_getElem?_getD,List.getD_eq_getElem?_getD,List.getElem?_append_left hj]
theorem lL (ds:List RecD) (d:RecD):(ds++[d]).getD ds.length {}=d:=by
 rw[List.getD_eq_getElem?_getD,List.getElem?_append_right (Nat.le_refl _)]
 simp
theorem DW.snoc {ds:List RecD} {d:RecD} (h:DW ds) (hn:ds.length + 1<1000000) (hm:cF d=true) (hok:d.ok) (hc:o7 ds d):DW (ds++[d]):=by
 have h0:(ds++[d]).getD 0 {}=ds.getD 0 {}:=eH h.ne
 have hl:(ds++[d]).length=ds.length + 1:=by simp
 have cases_:∀j,j<(ds++[d]).length->j<ds.length\/j=ds.length:=fun j hj=>by rw[hl] at hj;omega
 refine⟨by rw[hl];omega,by rw[hl];exact hn,by rw[h0];exact h.scn,?_,?_,?_,?_⟩
 ·rw[h0];exact h.reqs
 ·intro j hj hk
  rw[h0]
  rcases cases_ j hj with hj | rfl
  ·rw[eH hj] at hk ⊢;exact h.opn j hj hk
  ·rw[lL] at hk ⊢;exact hc.2.1 hk
 ·intro j hj hk
  rcases cases_ j hj with hj | rfl
  ·rw[eH hj] at hk ⊢
   obtain⟨i,hi,h1,h2⟩:=h.cls j hj hk
   exact⟨i,by rw[hl];omega,by rw[eH hi];exact h1,by rw[eH hi];exact h2⟩
  ·rw[lL] at hk ⊢
   obtain⟨i,hi,h1,h2⟩:=hc.2.2 hk
   exact⟨i,by rw[hl];omega,by rw[eH hi];exact h1,by rw[eH hi];exact h2⟩
 ·intro x hx
  rcases List.mem_append.1 hx with hx | hx
  ·exact h.may x hx
  ·rw[List.mem_singleton.1 hx];exact⟨hm,hok⟩
theorem cY {ops:Array Oper} {o:Oper} {a:Act} {w:World} {K:Act->World->Prop} {Q:Exit->Act->World->Prop} {E':Prop} (hgd:o.guard=none) (ty:TypeId) (x y:Operand) (ho:o.op=.store ty x y)
  (g:Nat) (cells:Array Value) (hx:a.eval x=.pointer (some ⟨g,0,none⟩)) (hy:a.eval y=.agg cells)
  (t:TypeId) (old:Array Value) (hg:w.heap[g]?=some (.cells old t (0,0))) (hi:(prog.info? ty).map (·.size)=some cells.size)
  (hold:old.size=cells.size) (h1:cells.all (·.oneCell')=true)
  (h:K (a.put o.dst undef) (w.setRow g cells)):if Region.wanted o (yielded ops a.tmps)=true then Oper.wp prog o a w K Q else E':=by
 have hw:Region.wanted o (yielded ops a.tmps)=true:=by simp[Region.wanted,hgd]
 rw[if_pos hw]
 exact wp_store_row ty x y ho g cells hx hy t old hg hi hold h1 h
theorem aX.digs {w:World} {v:Value} {ds:List RecD} (h:aX w v ds) {lb lo n cap:Nat} (hv:v=.slice (some ⟨lb,lo,none⟩) n cap) {j:Nat} (hj:j<ds.length) (hl:(ds.getD j {}).dig.length=32):w.rangeAt lb (lo + j * 49 + 6) ((ds.getD j {}).dig.map (Value.int .u8)):=by
 obtain⟨a,c,rvs,e,hc,h1,h2⟩:=h
 rw[hv] at e
 obtain⟨e1,_,_⟩:=Value.slice.inj e
 obtain⟨lb',lo',ea,_,hr⟩:=h1 (by omega)
 rw[ea] at e1
 injection e1 with e1
 injection e1 with e1 e2
 subst e1;subst e2
 obtain⟨b,l,o,er,_⟩:=h2 j hj
 intro i u hu
 have hi:i<32:=by
  have:=(List.getElem?_eq_some_iff.1 hu).1
  rw[List.length_map,hl] at this
  exact this
 have hx:(ae (rvs j)).toList[6 + i]?=some u:=by
  rw[Array.getElem?_toList,kA _ i hi,er,<-hu,List.getElem?_map,List.getElem?_eq_getElem (by omega)]
  have e2:(ds.getD j {}).dig.getD i 0=(ds.getD j {}).dig[i]:=by rw[List.getD_eq_getElem?_getD,List.getElem?_eq_getElem (show i<(ds.getD j {}).dig.length by omega)];rfl
  show some (Value.int .u8 ((ds.getD j {}).dig.getD i 0))=_
  rw[e2]
  rfl
 have:=hr j hj (6 + i) u hx
 rw[<-Nat.add_assoc] at this
 exact this
def lM (w:World) (now:Nat) (e:Ending) (w':World):Prop:=Below w.heap.size w w'/\∃rv d,e=.returned (.agg (ae rv))/\bD w.heap.size w' rv d/\d.ok/\d.tick=now
theorem zP (W:World) (a b:Int) (ua:Option Addr) (un uc:Nat):(Instr.build 49 #[(0,.int .i64 2),(1,.int .i64 a),(4,.int .i64 b),(5,.slice ua un uc)]).run prog W=.ok (.agg (ae {kind:=2,round:=a,tick:=b,barred:=.slice ua un uc})) W:=by kernel_rfl
theorem nM {w w0 w1 wr w9 w10:World} {L nb uc kn k now:Nat} {ua:Option Addr} {xs:List Int} {RQ:Array Value} (hR:RQ=ae {kind:=2,round:=(kn:Int),lot:=(k:Int),tick:=(now:Int),barred:=.slice ua nb uc})
  (ho:w1.ownsRow w0.heap.size 3 1 (.slice ua nb uc) nb (xs.map (Value.int .i64))) (hnb:nb=xs.length) (hxs:xs.length<=8) (hb1:Below w1.heap.size w1 wr) (hb9:Below wr.heap.size wr w9) (hk:am (·≠L + 1) w9 w10) (hs0:w0.heap.size=L + 2) (hL:L=w.heap.size) (hbw:Below w.heap.size w wr)
  (hkl:k<=100) (hkn:kn<1000000) (hnow:now<=1000):lM w now (.returned (.agg RQ)) w10:=by
 refine⟨aB (ar w _ _ hbw hb9) hk (fun j hj e=>by omega),_,{kind:=2,round:=(kn:Int),lot:=(k:Int),tick:=(now:Int),barred:=xs},by rw[hR],⟨.slice ua nb uc,.slice none 0 0,.slice none 0 0,?_,?_,d7.nil _ _,de.nil _ _⟩,?_,rfl⟩
 ·simp only[RecD.toV,dU]
 ·subst hnb
  exact gP rfl (cE (bG (bG ho hb1) hb9) hk (fun j hj=>by have:=(World.ownsRow.lt ho j hj).1;omega)) (by omega)
 ·refine⟨rfl,dL,?_,?_,?_,?_,?_,?_,?_,?_,?_,?_,?_,?_⟩ <;> simp <;> omega
theorem om {ops:Array Oper} {S:World->Prop} {o:Oper} {a:Act} (hgd:Region.wanted o (yielded ops a.tmps)=true) (t:TypeId) (l:List (Nat × Operand)) (ho:o.op=.build t l.toArray) (ql:List (Nat × Value)) (hq:(l.map fun x=>(x.1,a.eval x.2))=ql) (v:Value)
  (hr:∀w,(Instr.build t ql.toArray).run prog w=.ok v w):YieldsIf prog ops S o v a:=Or.inl ⟨hgd,fun w _=>by
  subst hq
  have:=hr w
  unfold execOp
  simp only[ho]
  simp[this]⟩
theorem zQ (W:World) (a c t:Int):(Instr.build 49 #[(0,.int .i64 4),(1,.int .i64 a),(3,.int .i64 c),(4,.int .i64 t)]).run prog W=.ok (.agg (ae (aN {kind:=4,round:=a,carrier:=c,tick:=t}))) W:=by kernel_rfl
theorem zS (W:World) (a t:Int):(Instr.build 49 #[(0,.int .i64 5),(1,.int .i64 a),(4,.int .i64 t)]).run prog W=.ok (.agg (ae (aN {kind:=5,round:=a,tick:=t}))) W:=by kernel_rfl
theorem Bw {A L:Nat} {i1 i2 j:Nat} {v1 v2 v:Value} {W:World} (h1:A≠L) (h:W.cell? ⟨A,i1,none⟩=some v1/\W.cell? ⟨A,i2,none⟩=some v2):
  (W.setCell ⟨L,j,none⟩ v).cell? ⟨A,i1,none⟩=some v1/\(W.setCell ⟨L,j,none⟩ v).cell? ⟨A,i2,none⟩=some v2:=
 ⟨(oG h1).trans h.1,(oG h1).trans h.2⟩
theorem pZ (bs:List (Int × Int)) (r:Int) (hb:∀b∈bs,0<=b.2/\b.2<=18446744073709551615) (hr:0<=r/\r<=18446744073709551615):0<=(Vk.vickOf bs r).2.2/\(Vk.vickOf bs r).2.2<=18446744073709551615:=by
 have hm:=fun x=>(Vk.mem_rankOf bs x).1
 unfold Vk.vickOf Vk.ofR
 cases hl:Vk.rankOf bs with
 | nil=>exact (show 0<=(0:Int)/\(0:Int)<=18446744073709551615 from ⟨by decide,by decide⟩)
 | cons x l=>
  rw[hl] at hm
  simp only
  split
  ·exact (show 0<=(0:Int)/\(0:Int)<=18446744073709551615 from ⟨by decide,by decide⟩)
  ·cases l with
   | nil=>exact hr
   | cons y l=>
    have hy:=hm y (by simp)
    have:=hb _ (List.getElem_mem hy)
    rw[<-getElem!_pos bs y hy] at this
    simp only
    omega
theorem zT (dl:List Int) (h:dl.length=32):dl=(List.range 32).map (fun j=>dl.getD j 0):=by
 apply List.ext_getElem
 ·simp[h]
 ·intro i h1 h2
  simp[List.getD_eq_getElem?_getD,List.getElem?_eq_getElem h1]
theorem x8 (W:World) (a c t:Int) (f:Nat->Int):(Instr.build 49 #[(0,.int .i64 3),(1,.int .i64 a),(3,.int .i64 c),(6,.agg (((List.range 32).map f).map (Value.int .u8)).toArray),(4,.int .i64 t)]).run prog W=.ok (.agg (ae {kind:=3,round:=a,carrier:=c,tick:=t,dig:=f})) W:=by kernel_rfl
theorem gd {w w9 w10:World} {L now:Nat} {d:RecD} {RQ:Array Value} (hR:RQ=ae (aN d)) (h1:d.barred=[]) (h2:d.lots=[]) (h3:d.owners=[]) (hok:d.ok) (ht:d.tick=now) (hb:Below w.heap.size w w9) (hk:am (·≠L + 1) w9 w10) (hL:L=w.heap.size):lM w now (.returned (.agg RQ)) w10:=
 ⟨aB hb hk (fun j hj e=>by omega),aN d,d,by rw[hR],⟨.slice none 0 0,.slice none 0 0,.slice none 0 0,rfl,by rw[h1];exact de.nil _ _,by rw[h2];exact d7.nil _ _,by rw[h3];exact de.nil _ _⟩,hok,ht⟩
theorem rp (w:World) (dr:sV) (hdr:dr.ok) (b:Value) (hb:i4 w b dr.n) (v:Value) (ds:List RecD) (h:aX w v ds) (hd:DW ds) (hT:∀j,j<ds.length->(ds.getD j {}).tick<=1000) (now:Nat) (hnow:now<=1000) (x:Nat) (hx:x<=255):
  Calls prog 31 #[.agg (dr.cells b),v,.int .i64 now,.int .i64 x] w (lM w now):=by
 have HD:=ac hd
 have HT:=ac hT
 have HDR:=ac hdr
 have HB:=ac hb
 obtain⟨a,cap,hv,hcap,hj⟩:=h.cols
 obtain⟨lb,lo,ea,hlb,_⟩:=hj hd.ne
 subst ea
 obtain⟨n,hn⟩:=nm (ds.length)
 have hn1:(0:Int)<n:=by have:=hd.ne;omega
 have hn2:0<n:=by omega
 have hn9:n<1000000:=by have:=hd.small;omega
 have HN:=ac hn
 rw[<-hn] at hv
 subst hv
 obtain⟨D,hDD⟩:∃D:Array Value,D=dr.cells b:=⟨_,rfl⟩
 have HDD:=ac hDD
 have HDZ:aa ((prog.info? 24).map (·.size)=some D.size):=by rw[aa,hDD];kernel_rfl
 rw[<-hDD]
 clear hj hcap hlb hn hDD
 have HDS:aa (ds.length<1000000000):=by have:=hd.small;rw[aa];omega
 obtain⟨L,hL⟩:=nm (w.heap.size)
 have hs1:(w.alloc (.cells D 24)).heap.size=w.heap.size + 1:=by simp
 obtain⟨w0,hw0⟩:∃z,z=(w.alloc (.cells D 24)).alloc (.cells (ae {}) 49):=⟨_,rfl⟩
 have hs0:w0.heap.size=L + 2:=by rw[hw0,hL];simp
 have HX:aa (w0.heap[L]?=some (.cells D 24 (0,0))):=by rw[hw0,hL];exact au (ax _ _) (af _ _)
 have HQ:aa (w0.heap[L + 1]?=some (.cells (ae {}) 49 (0,0))):=by rw[hw0,hL,<-hs1];exact ax _ _
 have HN0:aa (Below w.heap.size w w0):=by rw[hw0];exact ar w _ _ (af _ _) (af _ _)
 have HRA:aa (aX w0 (.slice (some ⟨lb,lo,none⟩) n cap) ds):=h.on HN0.out
 have HCOL:aa (∀ W,Below w0.heap.size w0 W->∀j,j<ds.length->yE W lb (lo + j * 49) (ds.getD j {})):=by
  obtain⟨a',cap',e',_,hj'⟩:=HRA.out.cols
  obtain⟨lb',lo',ea',_,hc'⟩:=hj' hd.ne
  intro W hW j hj
  obtain⟨e1,_,_⟩:=Value.slice.inj e'
  rw[ea'] at e1
  injection e1 with e1
  injection e1 with e1 e2
  subst e1;subst e2
  exact (hc' j hj).on hW
 obtain⟨op,hop⟩:=nm (dg ds ds.length)
 have HOP:=ac hop
 have HLW:=ac hL
 have HS0:=ac hs0
 clear h hop hd hT hdr hb
 go_enter func31,ntmps31
 go_upto_region 1 with fail
 refine kj hw0 ?_
 rw[<-hL]
 clear hw0 hL hs1 hs0
 go_wp2_with fail
 refine (iJ w0 _ ds HDS.out HRA.out).mono ?_
 rintro e wx ⟨rfl,hwx⟩
 rw[hwx,<-HOP.out]
 clear hwx wx
 rcases HD.out.opened with ho | ⟨k,ho,hk,hk2,hl0,hl1⟩
 ·obtain rfl:op=-1:=HOP.out.trans ho
  clear ho
  go_wp2_with fail
  refine (oV w0 _ ds HDS.out HRA.out 5).mono ?_
  rintro e wx ⟨rfl,hwx⟩
  rw[hwx]
  clear hwx wx
  obtain⟨kn,hkn⟩:=nm (eO ds 5 ds.length)
  have hkn9:kn<1000000:=by rw[hkn];have:=lI ds 5 ds.length;have:=HN.out;omega
  rw[<-hkn]
  clear hkn
  have hq:(x:Int).tdiv 8=((x / 8:Nat):Int):=rfl
  have hqw:IntKind.i64.wrap ((x / 8:Nat):Int)=((x / 8:Nat):Int):=IntWalk.i64_in _ (by omega)
  go_wp2_with fail
  refine (qY w0 _ ds HRA.out HD.out ((x:Int) / 8) (by omega)).mono ?_
  rintro e w1 ⟨u,rfl,hb1,xs,hxs,hrow⟩
  obtain⟨nb,hnb⟩:=nm (xs.length)
  rw[<-hnb] at hrow hxs
  obtain⟨ua,uc,rfl,_⟩:=az hrow
  have HNB:=ac hnb
  have hb1':Below w0.heap.size w0 w1:=hb1
  have HB1:=ac hb1'
  have HN1:aa (Below w.heap.size w w1):=ar w _ _ HN0.out hb1
  have HBR1:aa (bA w1 (.slice ua nb uc) xs):=(show eZ (fun _=>True) w1 (.slice ua nb uc) xs from ⟨by rw[<-hnb];exact bY hrow (Nat.zero_le _),fun _ _=>trivial⟩).row
  have HOW1:aa (w1.ownsRow w0.heap.size 3 1 (.slice ua nb uc) nb (xs.map (Value.int .i64))):=hrow
  have HQ1:=ac (au HQ.out hb1)
  have HXS8:aa (xs.length<=8):=by rw[<-hnb];exact hxs
  clear hb1 hb1' hrow hxs hnb hq hqw HQ
  obtain⟨RO,hRO⟩:∃R:Array Value,R=ae {kind:=2,round:=(kn:Int),tick:=(now:Int),barred:=.slice ua nb uc}:=⟨_,rfl⟩
  have HBO:aa (∀ W:World,(Instr.build 49 #[(0,.int .i64 2),(1,.int .i64 kn),(4,.int .i64 now),(5,.slice ua nb uc)]).run prog W=.ok (.agg RO) W):=by rw[hRO];intro W;exact zP W _ _ _ _ _
  have HZO:aa ((prog.info? 49).map (·.size)=some RO.size):=by rw[aa,hRO,aj];kernel_rfl
  have HEO:aa (RO.size=49/\RO.all (·.oneCell')=true):=by rw[hRO];exact⟨aj _,aM _ rfl rfl rfl⟩
  have HRO:=ac hRO
  clear hRO
  go_upto_region 4 with (first
   | (refine aQ rfl 49 _ rfl [(0,.int .i64 2),(1,.int .i64 kn),(4,.int .i64 now),(5,.slice ua nb uc)] rfl _ (HBO.out _) ?_;try simp only[Act.put,ps])
   | (refine wpList_store_row rfl _ _ _ rfl w1.heap.size RO rfl rfl 49 _ (ax w1 _) HZO.out HEO.out.1.symm HEO.out.2 ?_;rw[World.setRow_alloc_new])
   | fail)
  obtain⟨Q,hQ⟩:=nm (w1.heap.size)
  obtain⟨w2,hw2⟩:=nm (w1.alloc (.cells RO 49))
  have hb2:Below w1.heap.size w1 w2:=by rw[hw2];exact af _ _
  have HR2:aa (ah w2 Q {kind:=2,round:=(kn:Int),tick:=(now:Int),barred:=.slice ua nb uc}):=by have:=ax w1 (.cells RO 49);rw[<-hw2,<-hQ,HRO.out] at this;exact this
  have HB2:aa (Below w0.heap.size w0 w2):=ar w0 _ _ HB1.out hb2
  have HN2:aa (Below w.heap.size w w2):=ar w _ _ HN1.out hb2
  have HQW:=ac hQ
  have HQ2:=ac (au HQ1.out hb2)
  have HQL:aa (L + 2<=Q):=by rw[hQ,<-HS0.out];exact HB1.out.size
  rw[<-hw2,<-hQ]
  have HB12:=ac hb2
  clear hw2 hQ hb2 HQ1 HN1 HB1
  go_wp2_with fail
  refine (jv w2 _ ds (HRA.out.on HB2.out) HD.out).mono ?_
  rintro e w3 ⟨u3,rfl,hb3,ys,hys,hrow⟩
  obtain⟨on,hon⟩:∃y,y=(ds.getD 0 {}).owners.length:=⟨_,rfl⟩
  rw[<-hon] at hys hrow
  have HON:=ac hon
  obtain⟨oa,oc,rfl,_,hoj⟩:=az hrow
  have HOJ:aa (∀ j,j<on->∃g,oa=some ⟨g,0,none⟩/\g≠Q/\w3.cell? ⟨g,j,none⟩=some (.int .i64 (ys.getD j 0))):=fun j hj=>by
   obtain⟨g,e,hg,_,hc⟩:=hoj (by omega)
   exact⟨g,e,by have:=HR2.out.lt;omega,hc j _ (by rw[List.getElem?_map,List.getD_eq_getElem?_getD,List.getElem?_eq_getElem (by omega)];rfl)⟩
  have HR3:=ac (HR2.out.new hb3)
  have HB3:aa (Below w0.heap.size w0 w3):=ar w0 _ _ HB2.out hb3
  have HN3:aa (Below w.heap.size w w3):=ar w _ _ HN2.out hb3
  have HB13:aa (Below w1.heap.size w1 w3):=ar w1 _ _ HB12.out hb3
  have HQ3:=ac (au HQ2.out hb3)
  clear hb3 hys hrow hon hoj HR2 HB2 HN2 HQ2 HB12
  obtain⟨ln,hln⟩:∃y,y=(ds.getD 0 {}).lots.length:=⟨_,rfl⟩
  have HLN:=ac hln
  have hln16:ln<=16:=by rw[hln];exact HD.out.scn.nlots
  have hlw:IntKind.i64.wrap ((ln:Int) - 1)=(ln:Int) - 1:=IntWalk.i64_in _ (by omega)
  clear hln
  go_wp2_with fail
  go_loopg [] (ln + 1) (fun g wr=>∃k:Nat,k<=ln/\ln - k<g/\aa (ah wr Q {kind:=2,round:=(kn:Int),lot:=(k:Int),tick:=(now:Int),barred:=.slice ua nb uc}/\am (·≠Q) w3 wr))
  case atStart=>exact⟨0,Nat.zero_le _,by omega,HR3.out,am.refl _ _⟩
  case round=>
   obtain⟨k,hk,hg,HK⟩:=hrel
   have HW0:aa (Below w0.heap.size w0 wr):=aB HB3.out HK.out.2 (fun j hj e=>by have:=HQL.out;have:=HS0.out;omega)
   have HW1:aa (Below w1.heap.size w1 wr):=aB HB13.out HK.out.2 (fun j hj e=>by have:=HQW.out;omega)
   have HNW:aa (Below w.heap.size w wr):=aB HN3.out HK.out.2 (fun j hj e=>by have:=HQL.out;have:=HLW.out;omega)
   have HQW2:aa (wr.heap[L + 1]?=some (.cells (ae {}) 49 (0,0))):=aw HQ3.out HK.out.2 (by have:=HQL.out;omega)
   have c2:wr.cell? ⟨Q,2,none⟩=some (.int .i64 k):=HK.out.1.cell 2
   have f2:=HK.out.1.free 2
   have c5:wr.cell? ⟨Q,5,none⟩=some (.slice ua nb uc):=HK.out.1.cell 5
   obtain⟨lv2,e47,⟨la,lc,rfl,hlc,hla⟩⟩:=(HCOL.out wr HW0.out 0 HD.out.ne).lots
   rw[Nat.zero_mul,Nat.add_zero,<-HLN.out] at e47
   rw[<-HLN.out] at hlc hla
   have HRW:aa (aX wr (.slice (some ⟨lb,lo,none⟩) n cap) ds):=HRA.out.on HW0.out
   have HBW:aa (bA wr (.slice ua nb uc) xs):=HBR1.out.up HW1.out
   have HM1:aa (ln - k<gk/\k<=ln):=⟨hg,hk⟩
   clear hg
   by_cases hlt:(k:Int)<(ln:Int) - 1
   case neg=>
    have b1:decide ((k:Int)<(ln:Int) - 1)=false:=decide_eq_false hlt
    clear hla hlc
    go_upto_region 5 with fail
    go_quiet (fail)
    clear b1 e47 c2 f2 c5
    obtain⟨w9,hw9⟩:=nm (wr.drewN nq)
    have hb9:Below wr.heap.size wr w9:=by rw[hw9];exact ay _ _
    rw[<-hw9]
    clear hw9
    obtain⟨RQ,hRQ⟩:∃R:Array Value,R=ae {kind:=2,round:=(kn:Int),lot:=(k:Int),tick:=(now:Int),barred:=.slice ua nb uc}:=⟨_,rfl⟩
    have HRQ:aa (w9.heap[Q]?=some (.cells RQ 49 (0,0))):=by rw[hRQ];exact HK.out.1.new hb9
    have HQ9:=ac (au HQW2.out hb9)
    have HZQ:aa ((prog.info? 49).map (·.size)=some RQ.size):=by rw[aa,hRQ,aj];kernel_rfl
    have HEQ:aa ((ae ({}:RecV)).size=RQ.size/\RQ.all (·.oneCell')=true):=by rw[hRQ];exact⟨by rw[aj,aj],aM _ rfl rfl rfl⟩
    have HRR:=ac hRQ
    have HB9:=ac hb9
    clear hRQ hb9
    go_wp2_with (first
     | (refine wpList_load_row (by rfl) _ _ rfl Q rfl _ RQ (0,0) _ HRQ.out underlying49 rfl HZQ.out ?_;try simp only[Act.put,ps])
     | (refine wpList_store_row rfl _ _ _ rfl (L + 1) RQ rfl rfl 49 _ HQ9.out HZQ.out HEQ.out.1 HEQ.out.2 ?_)
     | fail)
    obtain⟨w10,hw10⟩:=nm (w9.setRow (L + 1) RQ)
    have HQ10:aa (w10.heap[L + 1]?=some (.cells RQ 49 (0,0))):=by rw[hw10];exact setRow_heap w9 (L + 1) _ _ _ _ HQ9.out
    have hk10:am (·≠L + 1) w9 w10:=by rw[hw10];exact aI (K:=(·≠L + 1)) w9 (L + 1) _ (fun h=>h rfl)
    have HK10:=ac hk10
    rw[<-hw10]
    clear hw10 hk10
    try simp only[Act.put]
    refine bodyPost_ret_by (results_cell_row (by rfl) _ w10 (L + 1) _ _ _ _ rfl HQ10.out underlying49 rfl HZQ.out) rfl ?_
    exact nM HRR.out HOW1.out HNB.out HXS8.out HW1.out HB9.out HK10.out HS0.out HLW.out HNW.out (by have:=HM1.out;omega) hkn9 hnow
   obtain⟨xb,xo,rfl,hxb,hxj⟩:=hla (by omega)
   have hkl:k<ln:=by omega
   have hkl2:(k:Int)<ln:=by omega
   have hreq:=HD.out.reqs k (by rw[<-HLN.out];exact hkl)
   rw[<-HON.out] at hreq
   have cq:=(hxj k hkl).1
   obtain⟨xr,hxr⟩:∃y,y=((ds.getD 0 {}).lots.getD k (0,0)).1:=⟨_,rfl⟩
   rw[<-hxr] at cq hreq
   obtain⟨m,rfl⟩:∃m:Nat,xr=m:=Int.eq_ofNat_of_zero_le hreq.1
   have hmo:m<on:=by omega
   have hmn:(m:Int)<on:=by omega
   obtain⟨gg,rfl,hgq,hgc⟩:=HOJ.out m hmo
   have cz:wr.cell? ⟨gg,m,none⟩=some (.int .i64 (ys.getD m 0)):=aJ hgc HK.out.2 hgq
   generalize ys.getD m 0=z at cz
   obtain⟨sk,hsk⟩:=nm (gD ds k)
   have HSK:=ac hsk
   obtain⟨hb,hhb⟩:=nm (qT xs z)
   have HHB:=ac hhb
   have b1:decide ((k:Int)<(ln:Int) - 1)=true:=decide_eq_true hlt
   clear hlc hxb hxj hreq hxr hsk hhb hkl hgc hgq hmo
   have HM2:aa (k + 1<ln):=by rw[aa];omega
   go_upto_region 5 with fail
   by_cases h0:sk=0
   case neg=>
    have b0:(sk !=0)=true:=by simpa using h0
    clear h0
    go_quiet ((first | (go_at_call 52;exact ek HDS.out HRW.out HD.out.ne _ HSK.out _) | (go_at_call 56;exact jx (Nat.lt_of_le_of_lt HXS8.out (by decide)) HBW.out _ HHB.out _)))
    clear b1 e47 c2 f2 c5 cq cz b0
    have kk:IntKind.i64.wrap ((k:Int) + 1)=(k:Int) + 1:=IntWalk.i64_in _ (by omega)
    obtain⟨w9,hw9⟩:=nm (wr.drewN nq)
    have hb9:Below wr.heap.size wr w9:=by rw[hw9];exact ay _ _
    have HK9:aa (ah w9 Q {kind:=2,round:=(kn:Int),lot:=(k:Int),tick:=(now:Int),barred:=.slice ua nb uc}/\am (·≠Q) w3 w9):=⟨HK.out.1.new hb9,HK.out.2.trans (ak hb9 _)⟩
    rw[<-hw9]
    clear hw9 hb9
    have c2:w9.cell? ⟨Q,2,none⟩=some (.int .i64 k):=HK9.out.1.cell 2
    have f2:=HK9.out.1.free 2
    go_wp2_with fail
    obtain⟨w10,hw10⟩:∃y,y=w9.setCell ⟨Q,2,none⟩ (.int .i64 ((k:Int) + 1)):=⟨_,rfl⟩
    have HF:aa (ah w10 Q {kind:=2,round:=(kn:Int),lot:=((k + 1:Nat):Int),tick:=(now:Int),barred:=.slice ua nb uc}/\am (·≠Q) w3 w10):=by
     refine⟨?_,HK9.out.2.trans (by rw[hw10];exact (am.refl _ _).setCell (p:=⟨Q,2,none⟩) (.inr (fun h=>h rfl)) _)⟩
     have:=aH HK9.out.1 2 (.int .i64 ((k:Int) + 1))
     rw[hw10]
     exact this
    rw[<-hw10]
    clear hw10 c2 f2 kk
    go_roundg (ln + 1 - (k + 1))
    case measure=>have:=HM1.out;omega
    case rel=>exact⟨k + 1,by have:=HM2.out;omega,by have:=HM2.out;omega,HF.out⟩
   have b0:(sk !=0)=false:=by simpa using h0
   clear h0
   cases hb with
   | true=>
    go_quiet ((first | (go_at_call 52;exact ek HDS.out HRW.out HD.out.ne _ HSK.out _) | (go_at_call 56;exact jx (Nat.lt_of_le_of_lt HXS8.out (by decide)) HBW.out _ HHB.out _)))
    clear b1 e47 c2 f2 c5 cq cz b0
    have kk:IntKind.i64.wrap ((k:Int) + 1)=(k:Int) + 1:=IntWalk.i64_in _ (by omega)
    obtain⟨w9,hw9⟩:=nm (wr.drewN nq)
    have hb9:Below wr.heap.size wr w9:=by rw[hw9];exact ay _ _
    have HK9:aa (ah w9 Q {kind:=2,round:=(kn:Int),lot:=(k:Int),tick:=(now:Int),barred:=.slice ua nb uc}/\am (·≠Q) w3 w9):=⟨HK.out.1.new hb9,HK.out.2.trans (ak hb9 _)⟩
    rw[<-hw9]
    clear hw9 hb9
    have c2:w9.cell? ⟨Q,2,none⟩=some (.int .i64 k):=HK9.out.1.cell 2
    have f2:=HK9.out.1.free 2
    go_wp2_with fail
    obtain⟨w10,hw10⟩:∃y,y=w9.setCell ⟨Q,2,none⟩ (.int .i64 ((k:Int) + 1)):=⟨_,rfl⟩
    have HF:aa (ah w10 Q {kind:=2,round:=(kn:Int),lot:=((k + 1:Nat):Int),tick:=(now:Int),barred:=.slice ua nb uc}/\am (·≠Q) w3 w10):=by
     refine⟨?_,HK9.out.2.trans (by rw[hw10];exact (am.refl _ _).setCell (p:=⟨Q,2,none⟩) (.inr (fun h=>h rfl)) _)⟩
     have:=aH HK9.out.1 2 (.int .i64 ((k:Int) + 1))
     rw[hw10]
     exact this
    rw[<-hw10]
    clear hw10 c2 f2 kk
    go_roundg (ln + 1 - (k + 1))
    case measure=>have:=HM1.out;omega
    case rel=>exact⟨k + 1,by have:=HM2.out;omega,by have:=HM2.out;omega,HF.out⟩
   | false=>
    go_quiet ((first | (go_at_call 52;exact ek HDS.out HRW.out HD.out.ne _ HSK.out _) | (go_at_call 56;exact jx (Nat.lt_of_le_of_lt HXS8.out (by decide)) HBW.out _ HHB.out _)))
    clear b1 e47 c2 f2 c5 cq cz b0
    obtain⟨w9,hw9⟩:=nm (wr.drewN nq)
    have hb9:Below wr.heap.size wr w9:=by rw[hw9];exact ay _ _
    rw[<-hw9]
    clear hw9
    obtain⟨RQ,hRQ⟩:∃R:Array Value,R=ae {kind:=2,round:=(kn:Int),lot:=(k:Int),tick:=(now:Int),barred:=.slice ua nb uc}:=⟨_,rfl⟩
    have HRQ:aa (w9.heap[Q]?=some (.cells RQ 49 (0,0))):=by rw[hRQ];exact HK.out.1.new hb9
    have HQ9:=ac (au HQW2.out hb9)
    have HZQ:aa ((prog.info? 49).map (·.size)=some RQ.size):=by rw[aa,hRQ,aj];kernel_rfl
    have HEQ:aa ((ae ({}:RecV)).size=RQ.size/\RQ.all (·.oneCell')=true):=by rw[hRQ];exact⟨by rw[aj,aj],aM _ rfl rfl rfl⟩
    have HRR:=ac hRQ
    have HB9:=ac hb9
    clear hRQ hb9
    go_wp2_with (first
     | (refine wpList_load_row (by rfl) _ _ rfl Q rfl _ RQ (0,0) _ HRQ.out underlying49 rfl HZQ.out ?_;try simp only[Act.put,ps])
     | (refine wpList_store_row rfl _ _ _ rfl (L + 1) RQ rfl rfl 49 _ HQ9.out HZQ.out HEQ.out.1 HEQ.out.2 ?_)
     | fail)
    obtain⟨w10,hw10⟩:=nm (w9.setRow (L + 1) RQ)
    have HQ10:aa (w10.heap[L + 1]?=some (.cells RQ 49 (0,0))):=by rw[hw10];exact setRow_heap w9 (L + 1) _ _ _ _ HQ9.out
    have hk10:am (·≠L + 1) w9 w10:=by rw[hw10];exact aI (K:=(·≠L + 1)) w9 (L + 1) _ (fun h=>h rfl)
    have HK10:=ac hk10
    rw[<-hw10]
    clear hw10 hk10
    try simp only[Act.put]
    refine bodyPost_ret_by (results_cell_row (by rfl) _ w10 (L + 1) _ _ _ _ rfl HQ10.out underlying49 rfl HZQ.out) rfl ?_
    exact nM HRR.out HOW1.out HNB.out HXS8.out HW1.out HB9.out HK10.out HS0.out HLW.out HNW.out (by have:=HM1.out;omega) hkn9 hnow
 ·obtain rfl:op=(k:Int):=HOP.out.trans ho
  have HKK:aa (k<ds.length/\(ds.getD k {}).kind=2/\0<=(ds.getD k {}).lot/\(ds.getD k {}).lot<(ds.getD 0 {}).lots.length):=⟨hk,hk2,hl0,hl1⟩
  have hkn:(k:Int)<n:=by have:=HN.out;omega
  have hk0:decide ((k:Int)<0)=false:=decide_eq_false (by omega)
  have hkz:¬(k:Int)<0:=by omega
  obtain⟨rk,hrg,hrk⟩:∃rk,w0.rangeAt lb (lo + k * 49) (ae rk).toList/\bu w0 rk (ds.getD k {}):=by
   obtain⟨a',cap',rvs,e',_,h1,h2⟩:=HRA.out
   obtain⟨lb',lo',ea',_,hr⟩:=h1 HD.out.ne
   obtain⟨e1,_,_⟩:=Value.slice.inj e'
   rw[ea'] at e1
   injection e1 with e1
   injection e1 with e1 e2
   subst e1;subst e2
   exact⟨rvs k,hr k hk,h2 k hk⟩
  have HRG:=ac hrg
  have HONE:aa ((ae rk).all (·.oneCell')=true):=bu.one hrk
  obtain⟨RK,hRK⟩:∃R:Array Value,R=ae rk:=⟨_,rfl⟩
  have HRK:=ac hRK
  obtain⟨bk,lk,ok,erk,_,_,_⟩:=hrk
  have HERK:=ac erk
  have HZK:aa ((prog.info? 49).map (·.size)=some RK.toList.length):=by rw[aa,hRK,Array.length_toList,aj];kernel_rfl
  have HZK2:aa ((prog.info? 49).map (·.size)=some RK.size):=by rw[aa,hRK,aj];kernel_rfl
  have HEK:aa (RK.size=49/\RK.all (·.oneCell')=true):=by rw[hRK];exact⟨aj _,HONE.out⟩
  rw[<-hRK] at HRG
  have hcol0:=HCOL.out w0 (Below.refl _ _) 0 HD.out.ne
  have e43:=hcol0.carriers
  have e44:=hcol0.commit
  have e45:=hcol0.reveal
  rw[Nat.zero_mul,Nat.add_zero] at e43 e44 e45
  obtain⟨ca,hca⟩:∃y,y=(ds.getD 0 {}).carriers:=⟨_,rfl⟩
  obtain⟨cm,hcm⟩:∃y,y=(ds.getD 0 {}).commit:=⟨_,rfl⟩
  obtain⟨re,hre⟩:∃y,y=(ds.getD 0 {}).reveal:=⟨_,rfl⟩
  rw[<-hca] at e43
  rw[<-hcm] at e44
  rw[<-hre] at e45
  have hca1:1<=ca/\ca<=8:=by rw[hca];exact HD.out.scn.carriers
  have hcm1:1<=cm/\cm<=64:=by rw[hcm];exact HD.out.scn.commit
  have hre1:1<=re/\re<=64:=by rw[hre];exact HD.out.scn.reveal
  obtain⟨cn,rfl⟩:∃c:Nat,ca=c:=Int.eq_ofNat_of_zero_le (by omega)
  obtain⟨q,hq,hql⟩:=fW (((x / 8:Nat):Int)) cn (by omega) (by omega)
  have hq2:((x:Int) / 8).tmod cn=(q:Int):=hq
  have hcz:¬(cn:Int)=0:=by omega
  have hcn:¬cn=0:=by omega
  have kx:(x:Int).tdiv 8=(x:Int) / 8:=rfl
  obtain⟨tq,htq⟩:∃y,y=(ds.getD k {}).tick:=⟨_,rfl⟩
  have HTQ:=ac htq
  have htq0:0<=tq/\tq<=1000:=by rw[htq];exact⟨(dY (HD.out.at_ hk).1).1,HT.out k hk⟩
  have hsub:IntKind.i64.wrap ((now:Int) - tq)=(now:Int) - tq:=IntWalk.i64_in _ (by omega)
  have kdue:IntKind.i64.wrap (cm + re)=cm + re:=IntWalk.i64_in _ (by omega)
  have HQ8:aa (q<8):=by rw[aa];omega
  clear ho hk hk2 hl0 hl1 hrg hRK erk hcol0 hca hcm hre hq hql htq
  go_upto_region 9 with (first
   | (refine aG (by rfl) _ _ rfl lb (lo + k * 49) rfl _ _ HRG.out underlying49 rfl HZK.out RK (Array.toArray_toList) ?_;try simp only[Act.put,ps])
   | (refine wpList_store_row rfl _ _ _ rfl w0.heap.size RK rfl rfl 49 _ (ax w0 _) HZK2.out HEK.out.1.symm HEK.out.2 ?_;rw[World.setRow_alloc_new])
   | fail)
  rw[HS0.out]
  obtain⟨w1,hw1⟩:=nm (w0.alloc (.cells RK 49))
  have hb1:Below w0.heap.size w0 w1:=by rw[hw1];exact af _ _
  have HR1:aa (ah w1 (L + 2) rk):=by have:=ax w0 (.cells RK 49);rw[<-hw1,HS0.out,HRK.out] at this;exact this
  have HB1:=ac hb1
  have HN1:aa (Below w.heap.size w w1):=ar w _ _ HN0.out hb1
  have HX1:=ac (au HX.out hb1)
  have HQ1:=ac (au HQ.out hb1)
  have e43:w1.cell? ⟨lb,lo + 43,none⟩=some (.int .i64 cn):=(hb1.cell (aC e43)).trans e43
  have e44:w1.cell? ⟨lb,lo + 44,none⟩=some (.int .i64 cm):=(hb1.cell (aC e44)).trans e44
  have e45:w1.cell? ⟨lb,lo + 45,none⟩=some (.int .i64 re):=(hb1.cell (aC e45)).trans e45
  rw[<-hw1]
  clear hw1 hb1 HRG HX HQ HZK HZK2 HEK
  obtain⟨rq,hrq⟩:∃y,y=(ds.getD k {}).round:=⟨_,rfl⟩
  have HRQ0:aa (0<=rq/\rq<=15):=by rw[hrq];have:=dY (HD.out.at_ HKK.out.1).1;exact⟨this.2.1,this.2.2⟩
  have t1:w1.cell? ⟨L + 2,1,none⟩=some (.int .i64 rq):=by have:=HR1.out;rw[HERK.out] at this;rw[hrq];exact this.cell 1
  have t4:w1.cell? ⟨L + 2,4,none⟩=some (.int .i64 tq):=by have:=HR1.out;rw[HERK.out] at this;rw[HTQ.out];exact this.cell 4
  clear hrq
  go_upto_region 11 with fail
  obtain⟨go,hgo⟩:∃y,y=(now:Int) - tq:=⟨_,rfl⟩
  rw[<-hgo]
  clear hgo hsub t4 kx hq2
  have HN1':=HN1
  by_cases g1:go<cm
  ·as_aux_lemma=>
   have hi58:(prog.info? 24).map (·.size)=some D.size:=HDZ.out
   clear e45 kdue
   go_wp2_with (first
    | (refine wpList_load_row (by rfl) _ _ rfl L rfl _ D (0,0) _ HX1.out underlying24 rfl HDZ.out ?_)
    | fail)
   have HSL:aa (Calls prog 57 #[.agg D,.int .i64 rq,.int .i64 q,.int .i64 now] w1 fun e w'=>(∃ bd nc:Int,(0<=bd/\bd<=18446744073709551615)/\(0<=nc/\nc<=18446744073709551615)/\e=.returned (.agg #[.int .i64 rq,.int .i64 q,.int .u64 bd,.int .u64 nc]))/\Below w1.heap.size w1 w'):=by
    rw[HDD.out]
    exact lZ w1 dr HDR.out b (HB.out.up HN1.out) rq q now (by have:=HRQ0.out;omega) (by have:=HQ8.out;omega) (by omega)
   refine HSL.out.mono ?_
   rintro e w2 ⟨⟨bd,nc,hbd,hnc,rfl⟩,hb2⟩
   have HB2:=ac hb2
   have HQ2:=ac (au HQ1.out hb2)
   have HR2:=ac (HR1.out.new hb2)
   have HN2:aa (Below w.heap.size w w2):=ar w _ _ HN1.out hb2
   have hone:(#[.int .i64 rq,.int .i64 (q:Int),.int .u64 bd,.int .u64 nc]:Array Value).all (·.oneCell')=true:=by simp[Value.oneCell']
   have HONE4:=ac hone
   have HSO:aa (ij rq q bd nc):=⟨by have:=HRQ0.out;omega,by have:=HQ8.out;omega,hbd,hnc⟩
   clear hb2 hone hbd hnc
   go_upto_region 13 with (first
    | (refine wpList_store_row rfl _ _ _ rfl w2.heap.size #[.int .i64 rq,.int .i64 (q:Int),.int .u64 bd,.int .u64 nc] rfl rfl 58 _ (ax w2 _) (by kernel_rfl) rfl HONE4.out ?_;rw[World.setRow_alloc_new])
    | fail)
   obtain⟨Y,hY⟩:=nm (w2.heap.size)
   obtain⟨w3,hw3⟩:=nm (w2.alloc (.cells #[.int .i64 rq,.int .i64 (q:Int),.int .u64 bd,.int .u64 nc] 58))
   have hb3:Below w2.heap.size w2 w3:=by rw[hw3];exact af _ _
   have HY3:aa (w3.heap[Y]?=some (.cells #[.int .i64 rq,.int .i64 (q:Int),.int .u64 bd,.int .u64 nc] 58 (0,0))):=by rw[hw3,hY];exact ax _ _
   have HYL:aa (Y≠L + 1):=by rw[hY];exact Ne.symm (Nat.ne_of_lt (aK HQ2.out))
   have HQ3:=ac (au HQ2.out hb3)
   have HN3:aa (Below w.heap.size w w3):=ar w _ _ HN2.out hb3
   have HT3:aa (w3.cell? ⟨L + 2,1,none⟩=some (.int .i64 rq)):=by
    have c1:=(HB2.out.cell (aC t1)).trans t1
    exact (hb3.cell (aC c1)).trans c1
   rw[<-hw3,<-hY]
   clear hw3 hY hb3 HQ2 HN2 HR2 t1
   obtain⟨sc,hsc⟩:∃z,z=([.int .i64 rq,.int .i64 (q:Int),.int .u64 bd,.int .u64 nc]:List Value):=⟨_,rfl⟩
   have HSR:aa (∀ W:World,W.heap[Y]?=some (.cells #[.int .i64 rq,.int .i64 (q:Int),.int .u64 bd,.int .u64 nc] 58 (0,0))->W.rangeAt Y 0 sc):=fun W hW=>by rw[hsc];exact eG hW
   have hi4:(prog.info? 58).map (·.size)=some sc.length:=by rw[hsc];kernel_rfl
   have HSC:=ac hsc
   clear hsc
   obtain⟨W0,hW0⟩:=nm (w3.drew)
   have hbd:Below w3.heap.size w3 W0:=by rw[hW0];exact aA _
   have HS1:aa (W0.cell? ⟨L + 2,1,none⟩=some (.int .i64 rq)/\W0.heap[Y]?=some (.cells #[.int .i64 rq,.int .i64 (q:Int),.int .u64 bd,.int .u64 nc] 58 (0,0))):=⟨(hbd.cell (aC HT3.out)).trans HT3.out,au HY3.out hbd⟩
   have HBD:=ac hbd
   clear hbd
   refine wp_region_held_drew (S:=fun W=>W.cell? ⟨L + 2,1,none⟩=some (.int .i64 rq)/\W.heap[Y]?=some (.cells #[.int .i64 rq,.int .i64 (q:Int),.int .u64 bd,.int .u64 nc] 58 (0,0))) (by kernel_rfl) (by rw[<-hW0];exact HS1.out) (fun hHeld=>?_)
   rw[<-hW0] at hHeld ⊢
   clear hW0
   refine ts 0 (.pointer (some ⟨L + 2,1,none⟩)) hHeld ?_
   try simp only[Act.put,ps]
   refine tk 1 (.int .i64 rq) hHeld ?_ ?_
   ·intro W hSw
    have c:=hSw.1
    go_simp
   try simp only[Act.put,ps]
   refine ts 2 (.int .i64 q) hHeld ?_
   try simp only[Act.put,ps]
   refine tl 3 (.agg sc.toArray) rfl (yieldsIf_load_mid (by rfl) 58 (.tmp 15) rfl Y 0 rfl sc _ (fun W hW=>HSR.out W hW.2) underlying58 rfl hi4) hHeld ?_
   try simp only[Act.put,ps]
   refine ts 5 (.int .i64 now) hHeld ?_
   try simp only[Act.put,ps]
   refine rd 4 (fun K hK=>?_)
   go_simp
   rw[HSC.out]
   refine (l9 W0 rq q bd nc HSO.out).mono ?_
   rintro e W1 ⟨⟨dl,hdl,hbs,rfl⟩,hb⟩
   rw[<-HSC.out]
   have HS2:aa (W1.cell? ⟨L + 2,1,none⟩=some (.int .i64 rq)/\W1.heap[Y]?=some (.cells #[.int .i64 rq,.int .i64 (q:Int),.int .u64 bd,.int .u64 nc] 58 (0,0))):=⟨(hb.cell (aC HS1.out.1)).trans HS1.out.1,au HS1.out.2 hb⟩
   have HB31:aa (Below w3.heap.size w3 W1):=ar w3 _ _ HBD.out hb
   have HDLB:aa (dl.length=32/\Bs dl):=⟨hdl,hbs⟩
   obtain⟨RC,hRC⟩:∃R:Array Value,R=ae (aN {kind:=3,round:=rq,carrier:=(q:Int),tick:=(now:Int),dig:=dl}):=⟨_,rfl⟩
   obtain⟨DC,hDC⟩:∃R:Array Value,R=(dl.map (Value.int .u8)).toArray:=⟨_,rfl⟩
   have hbuild:∀W:World,(Instr.build 49 #[(0,.int .i64 3),(1,.int .i64 rq),(3,.int .i64 (q:Int)),(6,.agg DC),(4,.int .i64 (now:Int))]).run prog W=.ok (.agg RC) W:=by
    intro W
    have e:=x8 W rq q now (fun j=>dl.getD j 0)
    rw[<-zT dl hdl,<-hDC] at e
    rw[hRC]
    exact e
   have HZC:aa ((prog.info? 49).map (·.size)=some RC.size):=by rw[aa,hRC,aj];kernel_rfl
   have HEC:aa ((ae ({}:RecV)).size=RC.size/\RC.all (·.oneCell')=true):=by rw[hRC];exact⟨by rw[aj,aj],aM _ rfl rfl rfl⟩
   have HRC:=ac hRC
   rw[<-hDC]
   clear hb hdl hbs hRC hDC
   try go_simp
   refine hK.out _ W1 HS2.out (fun hHeld=>?_)
   clear hK K
   try simp only[Act.put,ps]
   refine tl 6 (.agg RC) rfl (om (by rfl) 49 _ rfl [(0,.int .i64 3),(1,.int .i64 rq),(3,.int .i64 (q:Int)),(6,.agg DC),(4,.int .i64 (now:Int))] rfl _ (hbuild)) hHeld ?_
   try simp only[Act.put,ps]
   refine rd 7 (fun K hK=>?_)
   refine cY rfl 49 _ _ rfl (L + 1) RC rfl rfl 49 _ (au HQ3.out HB31.out) HZC.out HEC.out.1 HEC.out.2 ?_
   obtain⟨W2,hW2⟩:=nm (W1.setRow (L + 1) RC)
   have hk2:am (·≠L + 1) W1 W2:=by rw[hW2];exact aI (K:=(·≠L + 1)) W1 (L + 1) _ (fun h=>h rfl)
   have HQ4:aa (W2.heap[L + 1]?=some (.cells RC 49 (0,0))):=by rw[hW2];exact setRow_heap W1 (L + 1) _ _ _ _ (au HQ3.out HB31.out)
   have HS3:aa (W2.cell? ⟨L + 2,1,none⟩=some (.int .i64 rq)/\W2.heap[Y]?=some (.cells #[.int .i64 rq,.int .i64 (q:Int),.int .u64 bd,.int .u64 nc] 58 (0,0))):=⟨aJ HS2.out.1 hk2 (Nat.succ_ne_self _),aw HS2.out.2 hk2 HYL.out⟩
   have HK2:=ac hk2
   rw[<-hW2]
   clear hW2 hk2
   refine hK.out _ W2 HS3.out (fun hHeld=>?_)
   clear hK K
   try simp only[Act.put,ps]
   refine wpAnyH_done (by kernel_rfl) ?_ _
   clear hHeld
   apply_assumption
   go_wp2_with fail
   try simp only[Act.put]
   refine bodyPost_ret_by (results_cell_row (by rfl) _ W2 (L + 1) _ _ _ _ rfl HQ4.out underlying49 rfl HZC.out) rfl ?_
   refine gd HRC.out rfl rfl rfl ?_ rfl (ar w _ _ HN3.out HB31.out) HK2.out HLW.out
   refine⟨HDLB.out.1,HDLB.out.2,?_,?_,?_,?_,?_,?_,?_,?_,?_,?_,?_,?_⟩ <;> simp <;> (have:=HQ8.out) <;> omega
  ·as_aux_lemma=>
   go_upto_region 14 with fail
   clear g1
   by_cases g2:go<cm + re
   ·as_aux_lemma=>
    go_quiet (fail)
    obtain⟨w9,hw9⟩:=nm (w1.drewN nq)
    have hb9:Below w1.heap.size w1 w9:=by rw[hw9];exact ay _ _
    have t1:w9.cell? ⟨L + 2,1,none⟩=some (.int .i64 rq):=(hb9.cell (aC t1)).trans t1
    have HX9:=ac (au HX1.out hb9)
    have HQ9:=ac (au HQ1.out hb9)
    have HN9:aa (Below w.heap.size w w9):=ar w _ _ HN1.out hb9
    have HB9:aa (Below w0.heap.size w0 w9):=ar w0 _ _ HB1.out hb9
    rw[<-hw9]
    clear hw9 hb9 e43 e44 e45 kdue g2 HX1 HQ1 HN1 HN1' HR1 HB1
    obtain⟨RV,hRV⟩:∃R:Array Value,R=ae (aN {kind:=4,round:=rq,carrier:=(q:Int),tick:=(now:Int)}):=⟨_,rfl⟩
    have HBV:aa (∀ W:World,(Instr.build 49 #[(0,.int .i64 4),(1,.int .i64 rq),(3,.int .i64 (q:Int)),(4,.int .i64 (now:Int))]).run prog W=.ok (.agg RV) W):=by rw[hRV];intro W;exact zQ W _ _ _
    have HZV:aa ((prog.info? 49).map (·.size)=some RV.size):=by rw[aa,hRV,aj];kernel_rfl
    have HEV:aa ((ae ({}:RecV)).size=RV.size/\RV.all (·.oneCell')=true):=by rw[hRV];exact⟨by rw[aj,aj],aM _ rfl rfl rfl⟩
    have HSZ:aa (49=RV.size):=by rw[hRV];exact (aj _).symm
    have HRV:=ac hRV
    clear hRV
    go_upto_region 16 with (first
     | (refine aQ rfl 49 _ rfl [(0,.int .i64 4),(1,.int .i64 rq),(3,.int .i64 (q:Int)),(4,.int .i64 (now:Int))] rfl _ (HBV.out _) ?_;try simp only[Act.put,ps])
     | (refine wpList_store_row rfl _ _ _ rfl w9.heap.size RV rfl rfl 49 _ (ax w9 _) HZV.out HSZ.out HEV.out.2 ?_;rw[World.setRow_alloc_new])
     | fail)
    obtain⟨V,hV⟩:=nm (w9.heap.size)
    obtain⟨w2,hw2⟩:=nm (w9.alloc (.cells RV 49))
    have hb2:Below w9.heap.size w9 w2:=by rw[hw2];exact af _ _
    have HV2:aa (w2.heap[V]?=some (.cells RV 49 (0,0))):=by rw[hw2,hV];exact ax _ _
    have HVL:aa (w.heap.size<=V/\L + 1≠V):=by rw[hV];exact⟨HN9.out.size,Nat.ne_of_lt (aK HQ9.out)⟩
    have t1:w2.cell? ⟨L + 2,1,none⟩=some (.int .i64 rq):=(hb2.cell (aC t1)).trans t1
    have HX2:=ac (au HX9.out hb2)
    have HQE:=ac (au HQ9.out hb2)
    have HN2:aa (Below w.heap.size w w2):=ar w _ _ HN9.out hb2
    have HB2:aa (Below w0.heap.size w0 w2):=ar w0 _ _ HB9.out hb2
    rw[<-hw2,<-hV]
    clear hw2 hV hb2 HX9 HQ9 HN9 HB9
    go_wp2_with fail
    refine (tS w2 _ ds HDS.out (HRA.out.on HB2.out) k (Nat.le_of_lt HKK.out.1) 3 q).mono ?_
    rintro e wx ⟨rfl,hwx⟩
    rw[hwx]
    clear hwx wx
    have hat:=sP ds 3 q (ds.length - k) k
    obtain⟨mk,hmk⟩:=nm (sO ds 3 q k (ds.length - k))
    rw[<-hmk] at hat ⊢
    clear hmk
    rcases hat with rfl | ⟨j,rfl,hkj,hjn⟩
    ·obtain⟨RX,hRX⟩:=nm (RV)
     rw[<-hRX] at HV2 HZV HEV HRV
     clear hRX
     have HRX:=HRV
     have HBDN:aa (0<=(0:Int)):=(Int.le_refl 0)
     go_wp2_with (first
      | (refine wpList_load_row (by rfl) _ _ rfl V rfl _ RX (0,0) _ HV2.out underlying49 rfl HZV.out ?_;try simp only[Act.put,ps])
      | (refine wpList_store_row rfl _ _ _ rfl (L + 1) RX rfl rfl 49 _ HQE.out HZV.out HEV.out.1 HEV.out.2 ?_)
      | fail)
     obtain⟨wE,hwE⟩:=nm (w2.setRow (L + 1) RX)
     have HQF:aa (wE.heap[L + 1]?=some (.cells RX 49 (0,0))):=by rw[hwE];exact setRow_heap w2 (L + 1) _ _ _ _ HQE.out
     have hkE:am (·≠L + 1) w2 wE:=by rw[hwE];exact aI (K:=(·≠L + 1)) w2 (L + 1) _ (fun h=>h rfl)
     have HKE:=ac hkE
     rw[<-hwE]
     clear hwE hkE
     try simp only[Act.put]
     refine bodyPost_ret_by (results_cell_row (by rfl) _ wE (L + 1) _ _ _ _ rfl HQF.out underlying49 rfl HZV.out) rfl ?_
     refine gd HRX.out rfl rfl rfl ?_ rfl HN2.out HKE.out HLW.out
     refine⟨rfl,dL,?_,?_,?_,?_,?_,?_,?_,?_,?_,?_,?_,?_⟩ <;> simp <;> (have:=HQ8.out) <;> (have:=HBDN.out) <;> omega
    ·have hjl:j<ds.length:=by omega
     have hj1:(j:Int)<n:=by have:=HN.out;omega
     have hj0:¬(j:Int)<0:=by omega
     have hj2:decide ((j:Int)>=0)=true:=decide_eq_true (by omega)
     have e4:=(HCOL.out w2 HB2.out j hjl).tick
     have HTJ:aa (0<=(ds.getD j {}).tick/\(ds.getD j {}).tick<=1000):=⟨(dY (HD.out.at_ hjl).1).1,HT.out j hjl⟩
     obtain⟨tj,htj⟩:∃y,y=(ds.getD j {}).tick:=⟨_,rfl⟩
     rw[<-htj] at e4 HTJ
     clear htj hkj hjn
     go_upto_region 18 with fail
     obtain⟨dc,hdc⟩:∃z:List Value,z=D.toList:=⟨_,rfl⟩
     have HDC:aa (dc.toArray=D):=by rw[hdc];exact Array.toArray_toList
     have HDRG:aa (∀ W:World,Below w2.heap.size w2 W->W.rangeAt L 0 dc):=fun W hW=>by rw[hdc];exact eG (au HX2.out hW)
     have hi24:(prog.info? 24).map (·.size)=some dc.length:=by rw[hdc,Array.length_toList];exact HDZ.out
     have HSL:aa (∀ W:World,Below w2.heap.size w2 W->Calls prog 57 #[.agg dc.toArray,.int .i64 rq,.int .i64 q,.int .i64 tj] W fun e w'=>(∃ bd nc:Int,(0<=bd/\bd<=18446744073709551615)/\(0<=nc/\nc<=18446744073709551615)/\e=.returned (.agg #[.int .i64 rq,.int .i64 q,.int .u64 bd,.int .u64 nc]))/\Below W.heap.size W w'):=by
      intro W hW
      rw[HDC.out,HDD.out]
      exact lZ W dr HDR.out b (HB.out.up (ar w _ _ HN2.out hW)) rq q tj (by have:=HRQ0.out;omega) (by have:=HQ8.out;omega) (by have:=HTJ.out;omega)
     clear hdc
     go_cut [18] (fun s18 wx=>∃(Z:Nat) (bd nc:Int),s18=.pointer (some ⟨Z,0,none⟩)/\aa (w2.heap.size<=Z/\Below w2.heap.size w2 wx/\wx.heap[Z]?=some (.cells #[.int .i64 rq,.int .i64 q,.int .u64 bd,.int .u64 nc] 58 (0,0))/\(0<=bd/\bd<=18446744073709551615)/\(0<=nc/\nc<=18446744073709551615)))
     case first=>
      as_aux_lemma=>
      refine wp_region_held_drew (S:=fun W=>Below w2.heap.size w2 W) (by kernel_rfl) (aA _) (fun hHeld=>?_)
      refine tl 0 (.agg dc.toArray) rfl (yieldsIf_load_mid (by rfl) 24 (.tmp 4) rfl L 0 rfl dc _ (fun W hW=>HDRG.out W hW) underlying24 rfl hi24) hHeld ?_
      try simp only[Act.put,ps]
      refine ts 1 (.pointer (some ⟨L + 2,1,none⟩)) hHeld ?_
      try simp only[Act.put,ps]
      refine tk 2 (.int .i64 rq) hHeld ?_ ?_
      ·intro W hSw
       have c:=(hSw.cell (aC t1)).trans t1
       go_simp
      try simp only[Act.put,ps]
      refine ts 3 (.int .i64 q) hHeld ?_
      try simp only[Act.put,ps]
      refine ts 4 (.slice (some ⟨lb,lo,none⟩) n cap) hHeld ?_
      try simp only[Act.put,ps]
      refine ts 5 (.int .i64 j) hHeld ?_
      try simp only[Act.put,ps]
      refine ts 6 (.pointer (some ⟨lb,lo + j * 49,none⟩)) hHeld ?_
      try simp only[Act.put,ps]
      refine ts 7 (.pointer (some ⟨lb,lo + j * 49 + 4,none⟩)) hHeld ?_
      try simp only[Act.put,ps]
      refine tk 8 (.int .i64 tj) hHeld ?_ ?_
      ·intro W hSw
       have c:=(hSw.cell (aC e4)).trans e4
       go_simp
      try simp only[Act.put,ps]
      obtain⟨W0,hW0⟩:=nm (w2.drew)
      have HW0:aa (Below w2.heap.size w2 W0):=by rw[hW0];exact aA _
      rw[<-hW0] at hHeld ⊢
      clear hW0
      refine wpAnyH_ready (rs:=[9,10]) (by kernel_rfl) (by simp) ?_
      refine AllReadyH.cons (o:=_) rfl (fun K hK=>?_) (AllReadyH.cons (o:=_) rfl (fun K hK=>?_) AllReadyH.nil)
      ·go_simp
       refine (HSL.out W0 HW0.out).mono ?_
       rintro e W1 ⟨⟨bd,nc,hbd,hnc,rfl⟩,hb⟩
       have HBD:aa ((0<=bd/\bd<=18446744073709551615)/\(0<=nc/\nc<=18446744073709551615)):=⟨hbd,hnc⟩
       have HW1:aa (Below w2.heap.size w2 W1):=ar w2 _ _ HW0.out hb
       clear hb hbd hnc
       try go_simp
       refine hK.out _ W1 HW1.out (fun hHeld=>?_)
       clear hK K
       try simp only[Act.put,ps]
       refine rd 10 (fun K hK=>?_)
       go_simp
       obtain⟨Z,hZ⟩:=nm (W1.heap.size)
       obtain⟨W2,hW⟩:=nm (W1.alloc (.cells #[.int .i64 0,.int .i64 0,.int .u64 0,.int .u64 0] 58))
       have hb:Below W1.heap.size W1 W2:=by rw[hW];exact af _ _
       have HZ0:aa (W2.heap[Z]?=some (.cells #[.int .i64 0,.int .i64 0,.int .u64 0,.int .u64 0] 58 (0,0))):=by rw[hW,hZ];exact ax _ _
       have HZL:aa (w2.heap.size<=Z):=by rw[hZ];exact HW1.out.size
       have HW2:aa (Below w2.heap.size w2 W2):=ar w2 _ _ HW1.out hb
       rw[<-hW,<-hZ]
       clear hW hZ hb
       refine hK.out _ W2 HW2.out (fun hHeld=>?_)
       clear hK K
       try simp only[Act.put,ps]
       refine rd 11 (fun K hK=>?_)
       refine cY rfl 58 _ _ rfl Z #[.int .i64 rq,.int .i64 (q:Int),.int .u64 bd,.int .u64 nc] rfl rfl 58 _ HZ0.out (by kernel_rfl) rfl (by simp[Value.oneCell']) ?_
       obtain⟨W3,hW⟩:=nm (W2.setRow Z #[.int .i64 rq,.int .i64 (q:Int),.int .u64 bd,.int .u64 nc])
       have HZE:aa (W3.heap[Z]?=some (.cells #[.int .i64 rq,.int .i64 (q:Int),.int .u64 bd,.int .u64 nc] 58 (0,0))):=by rw[hW];exact setRow_heap W2 Z _ _ _ _ HZ0.out
       have HW3:aa (Below w2.heap.size w2 W3):=aB HW2.out (by rw[hW];exact aI (K:=(·≠Z)) W2 Z _ (fun h=>h rfl)) (fun j hj e=>by have:=HZL.out;omega)
       rw[<-hW]
       clear hW
       refine hK.out _ W3 HW3.out (fun hHeld=>?_)
       clear hK K
       try simp only[Act.put,ps]
       refine wpAnyH_done (by kernel_rfl) ?_ _
       clear hHeld
       apply_assumption
       go_meet
       case rel=>exact⟨Z,bd,nc,rfl,HZL.out,HW3.out,HZE.out,HBD.out⟩
      ·go_simp
       obtain⟨Z,hZ⟩:=nm (W0.heap.size)
       obtain⟨W4,hW⟩:=nm (W0.alloc (.cells #[.int .i64 0,.int .i64 0,.int .u64 0,.int .u64 0] 58))
       have hb:Below W0.heap.size W0 W4:=by rw[hW];exact af _ _
       have HZ0:aa (W4.heap[Z]?=some (.cells #[.int .i64 0,.int .i64 0,.int .u64 0,.int .u64 0] 58 (0,0))):=by rw[hW,hZ];exact ax _ _
       have HZL:aa (w2.heap.size<=Z):=by rw[hZ];exact HW0.out.size
       have HW4:aa (Below w2.heap.size w2 W4):=ar w2 _ _ HW0.out hb
       rw[<-hW,<-hZ]
       clear hW hZ hb
       refine hK.out _ W4 HW4.out (fun hHeld=>?_)
       clear hK K
       try simp only[Act.put,ps]
       refine rd 9 (fun K hK=>?_)
       go_simp
       refine (HSL.out W4 HW4.out).mono ?_
       rintro e W5 ⟨⟨bd,nc,hbd,hnc,rfl⟩,hb⟩
       have HBD:aa ((0<=bd/\bd<=18446744073709551615)/\(0<=nc/\nc<=18446744073709551615)):=⟨hbd,hnc⟩
       have HW5:aa (Below w2.heap.size w2 W5):=ar w2 _ _ HW4.out hb
       have HZ0:=ac (au HZ0.out hb)
       clear hb hbd hnc
       try go_simp
       refine hK.out _ W5 HW5.out (fun hHeld=>?_)
       clear hK K
       try simp only[Act.put,ps]
       refine rd 11 (fun K hK=>?_)
       refine cY rfl 58 _ _ rfl Z #[.int .i64 rq,.int .i64 (q:Int),.int .u64 bd,.int .u64 nc] rfl rfl 58 _ HZ0.out (by kernel_rfl) rfl (by simp[Value.oneCell']) ?_
       obtain⟨W6,hW⟩:=nm (W5.setRow Z #[.int .i64 rq,.int .i64 (q:Int),.int .u64 bd,.int .u64 nc])
       have HZE:aa (W6.heap[Z]?=some (.cells #[.int .i64 rq,.int .i64 (q:Int),.int .u64 bd,.int .u64 nc] 58 (0,0))):=by rw[hW];exact setRow_heap W5 Z _ _ _ _ HZ0.out
       have HW6:aa (Below w2.heap.size w2 W6):=aB HW5.out (by rw[hW];exact aI (K:=(·≠Z)) W5 Z _ (fun h=>h rfl)) (fun j hj e=>by have:=HZL.out;omega)
       rw[<-hW]
       clear hW
       refine hK.out _ W6 HW6.out (fun hHeld=>?_)
       clear hK K
       try simp only[Act.put,ps]
       refine wpAnyH_done (by kernel_rfl) ?_ _
       clear hHeld
       apply_assumption
       go_meet
       case rel=>exact⟨Z,bd,nc,rfl,HZL.out,HW6.out,HZE.out,HBD.out⟩
     case rest=>
     obtain⟨Z,bd,nc,rfl,HC⟩:=hcut
     obtain⟨w3,hw3⟩:=nm (wc)
     rw[<-hw3] at HC ⊢
     clear hw3 wc e4 t1 hj0 hj1 hj2 hi24
     have HBDN:aa ((0<=bd/\bd<=18446744073709551615)/\(0<=nc/\nc<=18446744073709551615)):=HC.out.2.2.2
     have HV3:=ac (au HV2.out HC.out.2.1)
     have HQ3:=ac (au HQE.out HC.out.2.1)
     have HN3:aa (Below w.heap.size w w3):=ar w _ _ HN2.out HC.out.2.1
     have hZV:Z≠V:=by have:=aK HV2.out;have:=HC.out.1;omega
     have z2:w3.cell? ⟨Z,2,none⟩=some (.int .u64 bd):=aq HC.out.2.2.1 2
     have z3:w3.cell? ⟨Z,3,none⟩=some (.int .u64 nc):=aq HC.out.2.2.1 3
     have l38:w3.cell? ⟨V,38,none⟩=some (.int .u64 0):=by rw[aq HV3.out,HRV.out];rfl
     have l39:w3.cell? ⟨V,39,none⟩=some (.int .u64 0):=by rw[aq HV3.out,HRV.out];rfl
     have f38:=aL HV3.out 38
     have f39:=aL HV3.out 39
     go_upto_region 19 with fail
     go_region_held3 (fun W=>W.cell? ⟨Z,2,none⟩=some (.int .u64 bd)/\W.cell? ⟨Z,3,none⟩=some (.int .u64 nc)) (first | exact⟨z2,z3⟩ | exact Bw hZV (by assumption)) (fail)
     obtain⟨w4,hw4⟩:∃z,z=((w3.setCell ⟨V,38,none⟩ (.int .u64 bd)).setCell ⟨V,39,none⟩ (.int .u64 nc)).drew:=⟨_,rfl⟩
     have hk4:am (·≠V) w3 w4:=by rw[hw4];exact (((am.refl _ _).setCell (p:=⟨V,38,none⟩) (.inr (fun h=>h rfl)) _).setCell (p:=⟨V,39,none⟩) (.inr (fun h=>h rfl)) _).drew
     obtain⟨RX,hRX⟩:∃R:Array Value,R=ae (aN {kind:=4,round:=rq,carrier:=(q:Int),tick:=(now:Int),bid:=bd,nonce:=nc}):=⟨_,rfl⟩
     have HV4:aa (w4.heap[V]?=some (.cells RX 49 (0,0))):=by
      have e1:=aH (aH HV3.out 38 (.int .u64 bd)) 39 (.int .u64 nc)
      have e2:(RV.setIfInBounds 38 (.int .u64 bd)).setIfInBounds 39 (.int .u64 nc)=RX:=by rw[HRV.out,hRX];rfl
      rw[hw4,<-e2]
      exact e1
     have HQE:aa (w4.heap[L + 1]?=some (.cells (ae {}) 49 (0,0))):=aw HQ3.out hk4 HVL.out.2
     have HN4:aa (Below w.heap.size w w4):=aB HN3.out hk4 (fun j hj e=>by have:=HVL.out.1;omega)
     have HZV:aa ((prog.info? 49).map (·.size)=some RX.size):=by rw[aa,hRX,aj];kernel_rfl
     have HEV:aa ((ae ({}:RecV)).size=RX.size/\RX.all (·.oneCell')=true):=by rw[hRX];exact⟨by rw[aj,aj],aM _ rfl rfl rfl⟩
     have HRX:=ac hRX
     rw[<-hw4]
     clear hw4 hk4 hRX z2 z3 l38 l39 f38 f39 hZV
     go_wp2_with (first
      | (refine wpList_load_row (by rfl) _ _ rfl V rfl _ RX (0,0) _ HV4.out underlying49 rfl HZV.out ?_;try simp only[Act.put,ps])
      | (refine wpList_store_row rfl _ _ _ rfl (L + 1) RX rfl rfl 49 _ HQE.out HZV.out HEV.out.1 HEV.out.2 ?_)
      | fail)
     obtain⟨wE,hwE⟩:=nm (w4.setRow (L + 1) RX)
     have HQF:aa (wE.heap[L + 1]?=some (.cells RX 49 (0,0))):=by rw[hwE];exact setRow_heap w4 (L + 1) _ _ _ _ HQE.out
     have hkE:am (·≠L + 1) w4 wE:=by rw[hwE];exact aI (K:=(·≠L + 1)) w4 (L + 1) _ (fun h=>h rfl)
     have HKE:=ac hkE
     rw[<-hwE]
     clear hwE hkE
     try simp only[Act.put]
     refine bodyPost_ret_by (results_cell_row (by rfl) _ wE (L + 1) _ _ _ _ rfl HQF.out underlying49 rfl HZV.out) rfl ?_
     refine gd HRX.out rfl rfl rfl ?_ rfl HN4.out HKE.out HLW.out
     refine⟨rfl,dL,?_,?_,?_,?_,?_,?_,?_,?_,?_,?_,?_,?_⟩ <;> simp <;> (have:=HQ8.out) <;> (have:=HBDN.out) <;> omega
   ·as_aux_lemma=>
    go_quiet (fail)
    obtain⟨w9,hw9⟩:=nm (w1.drewN nq)
    have hb9:Below w1.heap.size w1 w9:=by rw[hw9];exact ay _ _
    have t2:w1.cell? ⟨L + 2,2,none⟩=some (.int .i64 (ds.getD k {}).lot):=by have:=HR1.out;rw[HERK.out] at this;exact this.cell 2
    have t1:w9.cell? ⟨L + 2,1,none⟩=some (.int .i64 rq):=(hb9.cell (aC t1)).trans t1
    have t2:w9.cell? ⟨L + 2,2,none⟩=some (.int .i64 (ds.getD k {}).lot):=(hb9.cell (aC t2)).trans t2
    have HQ9:=ac (au HQ1.out hb9)
    have HN9:aa (Below w.heap.size w w9):=ar w _ _ HN1.out hb9
    have HB9:aa (Below w0.heap.size w0 w9):=ar w0 _ _ HB1.out hb9
    rw[<-hw9]
    clear hw9 hb9 e43 e44 e45 kdue g2 HX1 HQ1 HN1 HN1' HR1 HB1
    obtain⟨RV,hRV⟩:∃R:Array Value,R=ae (aN {kind:=5,round:=rq,tick:=(now:Int)}):=⟨_,rfl⟩
    have HBV:aa (∀ W:World,(Instr.build 49 #[(0,.int .i64 5),(1,.int .i64 rq),(4,.int .i64 (now:Int))]).run prog W=.ok (.agg RV) W):=by rw[hRV];intro W;exact zS W _ _
    have HZV:aa ((prog.info? 49).map (·.size)=some RV.size):=by rw[aa,hRV,aj];kernel_rfl
    have HEV:aa ((ae ({}:RecV)).size=RV.size/\RV.all (·.oneCell')=true):=by rw[hRV];exact⟨by rw[aj,aj],aM _ rfl rfl rfl⟩
    have HSZ:aa (49=RV.size):=by rw[hRV];exact (aj _).symm
    have HRV:=ac hRV
    clear hRV
    go_upto_region 22 with (first
     | (refine aQ rfl 49 _ rfl [(0,.int .i64 5),(1,.int .i64 rq),(4,.int .i64 (now:Int))] rfl _ (HBV.out _) ?_;try simp only[Act.put,ps])
     | (refine wpList_store_row rfl _ _ _ rfl w9.heap.size RV rfl rfl 49 _ (ax w9 _) HZV.out HSZ.out HEV.out.2 ?_;rw[World.setRow_alloc_new])
     | fail)
    clear t1
    obtain⟨lv,e47,⟨la,lc,rfl,hlc,hla⟩⟩:=(HCOL.out w9 HB9.out 0 HD.out.ne).lots
    rw[Nat.zero_mul,Nat.add_zero] at e47
    obtain⟨lq,hlq⟩:∃y,y=(ds.getD k {}).lot:=⟨_,rfl⟩
    have hl0:=HKK.out.2.2.1
    have hl1:=HKK.out.2.2.2
    rw[<-hlq] at hl0 hl1 t2
    clear hlq
    obtain⟨ql,rfl⟩:∃q:Nat,lq=q:=Int.eq_ofNat_of_zero_le hl0
    obtain⟨ln,hln⟩:∃x,x=(ds.getD 0 {}).lots.length:=⟨_,rfl⟩
    rw[<-hln] at e47 hlc hla hl1
    have hqn:ql<ln:=by omega
    have hqi:(ql:Int)<ln:=by omega
    obtain⟨xb,xo,rfl,hxb,hxj⟩:=hla (by omega)
    obtain⟨dq1,dq2⟩:=hxj ql hqn
    obtain⟨rs,hrs⟩:∃x,x=((ds.getD 0 {}).lots.getD ql (0,0)).2:=⟨_,rfl⟩
    rw[<-hrs] at dq2
    have HRS:aa (0<=rs/\rs<=16777216):=by rw[hrs];exact (HD.out.scn.lots ql (by rw[<-hln];exact hqn)).2
    have krs:IntKind.u64.wrap rs=rs:=IntWalk.u64_in _ (by have:=HRS.out;omega)
    clear hl0 hl1 hlc hla hln hqn hxb hxj hrs dq1
    obtain⟨V,hV⟩:=nm (w9.heap.size)
    obtain⟨w2,hw2⟩:=nm (w9.alloc (.cells RV 49))
    have hb2:Below w9.heap.size w9 w2:=by rw[hw2];exact af _ _
    have HV2:aa (w2.heap[V]?=some (.cells RV 49 (0,0))):=by rw[hw2,hV];exact ax _ _
    have HVL:aa (w.heap.size<=V/\L + 1≠V):=by rw[hV];exact⟨HN9.out.size,Nat.ne_of_lt (aK HQ9.out)⟩
    have v47:lb<V:=by rw[hV];exact aC e47
    have v2:L + 2<V:=by rw[hV];exact aC t2
    have vd:xb<V:=by rw[hV];exact aC dq2
    have e47:=(hb2.cell (aC e47)).trans e47
    have t2:=(hb2.cell (aC t2)).trans t2
    have dq2:=(hb2.cell (aC dq2)).trans dq2
    have HQ2:=ac (au HQ9.out hb2)
    have HN2:aa (Below w.heap.size w w2):=ar w _ _ HN9.out hb2
    have HB2:aa (Below w0.heap.size w0 w2):=ar w0 _ _ HB9.out hb2
    have HVS:aa (V<=w2.heap.size):=Nat.le_of_lt (aK HV2.out)
    rw[<-hw2,<-hV]
    clear hw2 hV hb2 HQ9 HN9 HB9
    have HSB:aa (∀ W:World,Below w2.heap.size w2 W->am (·<V) w2 W):=fun W hW=>ak hW _
    refine wp_region_held_drew (S:=fun W=>am (·<V) w2 W) (by kernel_rfl) ((am.refl _ _).drew) (fun hHeld=>?_)
    refine ts 0 (.slice (some ⟨lb,lo,none⟩) n cap) hHeld ?_
    try simp only[Act.put,ps]
    refine ts 1 (.int .i64 k) hHeld ?_
    try simp only[Act.put,ps]
    refine ts 3 (.slice (some ⟨lb,lo,none⟩) n cap) hHeld ?_
    try simp only[Act.put,ps]
    refine ts 4 (.pointer (some ⟨lb,lo,none⟩)) hHeld ?_
    try simp only[Act.put,ps]
    refine ts 5 (.pointer (some ⟨lb,lo + 47,none⟩)) hHeld ?_
    try simp only[Act.put,ps]
    refine tk 6 (.slice (some ⟨xb,xo,none⟩) ln lc) hHeld ?_ ?_
    ·intro W hSw
     have c:=aJ e47 hSw v47
     go_simp
    try simp only[Act.put,ps]
    refine ts 7 (.pointer (some ⟨L + 2,2,none⟩)) hHeld ?_
    try simp only[Act.put,ps]
    refine tk 8 (.int .i64 ql) hHeld ?_ ?_
    ·intro W hSw
     have c:=aJ t2 hSw v2
     go_simp
    try simp only[Act.put,ps]
    refine ts 9 (.pointer (some ⟨xb,xo + ql * 2,none⟩)) hHeld ?_
    try simp only[Act.put,ps]
    refine ts 10 (.pointer (some ⟨xb,xo + ql * 2 + 1,none⟩)) hHeld ?_
    try simp only[Act.put,ps]
    refine tk 11 (.int .i64 rs) hHeld ?_ ?_
    ·intro W hSw
     have c:=aJ dq2 hSw vd
     go_simp
    try simp only[Act.put,ps]
    refine ts 12 (.int .u64 rs) hHeld ?_
    try simp only[Act.put,ps]
    obtain⟨W0,hW0⟩:=nm (w2.drew)
    have HW0:aa (Below w2.heap.size w2 W0):=by rw[hW0];exact aA _
    rw[<-hW0] at hHeld ⊢
    clear hW0
    refine rd 2 (fun K hK=>?_)
    go_simp
    refine (sX (fun y=>0<=y/\y<=18446744073709551615) W0 _ ds HD.out.small (HRA.out.on (ar w0 _ _ HB2.out HW0.out)) k (Nat.le_of_lt HKK.out.1) (fun j hj=>(HD.out.at_ hj).2.bid)).mono ?_
    rintro e W1 ⟨u,rfl,hb,bs,hbs,hrow,hps⟩
    have HBR:aa (W1.ownsRow W0.heap.size 60 2 u bs.length (b8 bs)):=hrow
    have HBN:aa (bs.length<=8796093022208):=by have:=HD.out.small;rw[aa];omega
    have HBP:=ac hps
    have HW1:aa (Below w2.heap.size w2 W1):=ar w2 _ _ HW0.out hb
    clear hb hbs hrow hps
    try go_simp
    refine hK.out _ W1 (HSB.out W1 HW1.out) (fun hHeld=>?_)
    clear hK K
    try simp only[Act.put,ps]
    refine rd 13 (fun K hK=>?_)
    go_simp
    refine (jF bs u rs W1 (js HBR.out) HBN.out).mono ?_
    rintro e W2 ⟨rfl,hb⟩
    have hpr:=pZ bs rs HBP.out (by have:=HRS.out;omega)
    obtain⟨oc,hoc⟩:=nm (Vk.vickOf bs rs)
    rw[<-hoc] at hpr ⊢
    obtain⟨o1,o2,o3⟩:=oc
    have HBDN:aa (0<=o3/\o3<=18446744073709551615):=hpr
    have HW2:aa (Below w2.heap.size w2 W2):=ar w2 _ _ HW1.out hb
    clear hb hoc hpr
    unfold iI
    try go_simp
    refine hK.out _ W2 (HSB.out W2 HW2.out) (fun hHeld=>?_)
    clear hK K
    try simp only[Act.put,ps]
    refine ts 14 (.pointer (some ⟨V,40,none⟩)) hHeld ?_
    try simp only[Act.put,ps]
    have HVW:=ac (au HV2.out HW2.out)
    have l40:W2.cell? ⟨V,40,none⟩=some (.int .i64 0):=by rw[aq HVW.out,HRV.out];rfl
    have f40:=aL HVW.out 40
    have l41:W2.cell? ⟨V,41,none⟩=some (.int .i64 0):=by rw[aq HVW.out,HRV.out];rfl
    have f41:=aL HVW.out 41
    have l42:W2.cell? ⟨V,42,none⟩=some (.int .u64 0):=by rw[aq HVW.out,HRV.out];rfl
    have f42:=aL HVW.out 42
    refine rd 15 (fun K hK=>?_)
    go_simp
    obtain⟨W3,hW3⟩:∃z,z=((W2.setCell ⟨V,40,none⟩ (.int .i64 o1)).setCell ⟨V,41,none⟩ (.int .i64 o2)).setCell ⟨V,42,none⟩ (.int .u64 o3):=⟨_,rfl⟩
    have hk3:am (·≠V) W2 W3:=by rw[hW3];exact (((am.refl _ _).setCell (p:=⟨V,40,none⟩) (.inr (fun h=>h rfl)) _).setCell (p:=⟨V,41,none⟩) (.inr (fun h=>h rfl)) _).setCell (p:=⟨V,42,none⟩) (.inr (fun h=>h rfl)) _
    obtain⟨RX,hRX⟩:∃R:Array Value,R=ae (aN {kind:=5,round:=rq,tick:=(now:Int),state:=o1,winner:=o2,price:=o3}):=⟨_,rfl⟩
    have HV3:aa (W3.heap[V]?=some (.cells RX 49 (0,0))):=by
     have e1:=aH (aH (aH HVW.out 40 (.int .i64 o1)) 41 (.int .i64 o2)) 42 (.int .u64 o3)
     have e2:((RV.setIfInBounds 40 (.int .i64 o1)).setIfInBounds 41 (.int .i64 o2)).setIfInBounds 42 (.int .u64 o3)=RX:=by rw[HRV.out,hRX];rfl
     rw[hW3,<-e2]
     exact e1
    have HQE:aa (W3.heap[L + 1]?=some (.cells (ae {}) 49 (0,0))):=aw (au HQ2.out HW2.out) hk3 HVL.out.2
    have HN3:aa (Below w.heap.size w W3):=aB (ar w _ _ HN2.out HW2.out) hk3 (fun j hj e=>by have:=HVL.out.1;omega)
    have HSK:aa (am (·<V) w2 W3):=(HSB.out W2 HW2.out).trans (by rw[hW3];exact (((am.refl (·<V) W2).setCell (p:=⟨V,40,none⟩) (.inr (fun h=>Nat.lt_irrefl _ h)) _).setCell (p:=⟨V,41,none⟩) (.inr (fun h=>Nat.lt_irrefl _ h)) _).setCell (p:=⟨V,42,none⟩) (.inr (fun h=>Nat.lt_irrefl _ h)) _)
    have HZV:aa ((prog.info? 49).map (·.size)=some RX.size):=by rw[aa,hRX,aj];kernel_rfl
    have HEV:aa ((ae ({}:RecV)).size=RX.size/\RX.all (·.oneCell')=true):=by rw[hRX];exact⟨by rw[aj,aj],aM _ rfl rfl rfl⟩
    have HRX:=ac hRX
    rw[<-hW3]
    clear hW3 hk3 hRX l40 l41 l42 f40 f41 f42
    refine hK.out _ W3 HSK.out (fun hHeld=>?_)
    clear hK K
    try simp only[Act.put,ps]
    refine wpAnyH_done (by kernel_rfl) ?_ _
    clear hHeld
    apply_assumption
    clear e47 t2 dq2 hqi krs v47 v2 vd
    have l40:W3.cell? ⟨V,40,none⟩=some (.int .i64 o1):=by rw[aq HV3.out,HRX.out];rfl
    have f40:=aL HV3.out 40
    have hx5:(x:Int).tmod 5=((x % 5:Nat):Int):=rfl
    by_cases h2:o1=2
    ·have b2:(o1==2)=true:=by simpa using h2
     clear h2
     by_cases h5:x % 5=0
     ·have b5:(((x % 5:Nat):Int)==0)=true:=by rw[h5];rfl
      have b6:((x:Int).tmod 5==0)=true:=b5
      clear h5
      go_upto_region 25 with fail
      obtain⟨w4,hw4⟩:∃z,z=W3.setCell ⟨V,40,none⟩ (.int .i64 4):=⟨_,rfl⟩
      have hk4:am (·≠V) W3 w4:=by rw[hw4];exact (am.refl _ _).setCell (p:=⟨V,40,none⟩) (.inr (fun h=>h rfl)) _
      obtain⟨RY,hRY⟩:∃R:Array Value,R=ae (aN {kind:=5,round:=rq,tick:=(now:Int),state:=4,winner:=o2,price:=o3}):=⟨_,rfl⟩
      have HV4:aa (w4.heap[V]?=some (.cells RY 49 (0,0))):=by
       have e1:=aH HV3.out 40 (.int .i64 4)
       have e2:RX.setIfInBounds 40 (.int .i64 4)=RY:=by rw[HRX.out,hRY];rfl
       rw[hw4,<-e2]
       exact e1
      have HQE:aa (w4.heap[L + 1]?=some (.cells (ae {}) 49 (0,0))):=aw HQE.out hk4 HVL.out.2
      have HN4:aa (Below w.heap.size w w4):=aB HN3.out hk4 (fun j hj e=>by have:=HVL.out.1;omega)
      have HZV:aa ((prog.info? 49).map (·.size)=some RY.size):=by rw[aa,hRY,aj];kernel_rfl
      have HEV:aa ((ae ({}:RecV)).size=RY.size/\RY.all (·.oneCell')=true):=by rw[hRY];exact⟨by rw[aj,aj],aM _ rfl rfl rfl⟩
      have HRX:=ac hRY
      rw[<-hw4]
      clear hw4 hk4 hRY l40 f40 b2 b5 b6
      go_wp2_with (first
       | (refine wpList_load_row (by rfl) _ _ rfl V rfl _ RY (0,0) _ HV4.out underlying49 rfl HZV.out ?_;try simp only[Act.put,ps])
       | (refine wpList_store_row rfl _ _ _ rfl (L + 1) RY rfl rfl 49 _ HQE.out HZV.out HEV.out.1 HEV.out.2 ?_)
       | fail)
      obtain⟨wE,hwE⟩:=nm (w4.setRow (L + 1) RY)
      have HQF:aa (wE.heap[L + 1]?=some (.cells RY 49 (0,0))):=by rw[hwE];exact setRow_heap w4 (L + 1) _ _ _ _ HQE.out
      have hkE:am (·≠L + 1) w4 wE:=by rw[hwE];exact aI (K:=(·≠L + 1)) w4 (L + 1) _ (fun h=>h rfl)
      have HKE:=ac hkE
      rw[<-hwE]
      clear hwE hkE
      try simp only[Act.put]
      refine bodyPost_ret_by (results_cell_row (by rfl) _ wE (L + 1) _ _ _ _ rfl HQF.out underlying49 rfl HZV.out) rfl ?_
      refine gd HRX.out rfl rfl rfl ?_ rfl HN4.out HKE.out HLW.out
      refine⟨rfl,dL,?_,?_,?_,?_,?_,?_,?_,?_,?_,?_,?_,?_⟩ <;> simp <;> (have:=HQ8.out) <;> (have:=HBDN.out) <;> omega
     ·have b5:(((x % 5:Nat):Int)==0)=false:=by simp;omega
      have b6:((x:Int).tmod 5==0)=false:=b5
      clear h5
      go_upto_region 25 with fail
      clear l40 f40 b2 b5 b6
      go_wp2_with (first
       | (refine wpList_load_row (by rfl) _ _ rfl V rfl _ RX (0,0) _ HV3.out underlying49 rfl HZV.out ?_;try simp only[Act.put,ps])
       | (refine wpList_store_row rfl _ _ _ rfl (L + 1) RX rfl rfl 49 _ HQE.out HZV.out HEV.out.1 HEV.out.2 ?_)
       | fail)
      obtain⟨wE,hwE⟩:=nm (W3.setRow (L + 1) RX)
      have HQF:aa (wE.heap[L + 1]?=some (.cells RX 49 (0,0))):=by rw[hwE];exact setRow_heap W3 (L + 1) _ _ _ _ HQE.out
      have hkE:am (·≠L + 1) W3 wE:=by rw[hwE];exact aI (K:=(·≠L + 1)) W3 (L + 1) _ (fun h=>h rfl)
      have HKE:=ac hkE
      rw[<-hwE]
      clear hwE hkE
      try simp only[Act.put]
      refine bodyPost_ret_by (results_cell_row (by rfl) _ wE (L + 1) _ _ _ _ rfl HQF.out underlying49 rfl HZV.out) rfl ?_
      refine gd HRX.out rfl rfl rfl ?_ rfl HN3.out HKE.out HLW.out
      refine⟨rfl,dL,?_,?_,?_,?_,?_,?_,?_,?_,?_,?_,?_,?_⟩ <;> simp <;> (have:=HQ8.out) <;> (have:=HBDN.out) <;> omega
    ·have b2:(o1==2)=false:=by simpa using h2
     clear h2
     go_upto_region 25 with fail
     clear l40 f40 b2
     go_wp2_with (first
      | (refine wpList_load_row (by rfl) _ _ rfl V rfl _ RX (0,0) _ HV3.out underlying49 rfl HZV.out ?_;try simp only[Act.put,ps])
      | (refine wpList_store_row rfl _ _ _ rfl (L + 1) RX rfl rfl 49 _ HQE.out HZV.out HEV.out.1 HEV.out.2 ?_)
      | fail)
     obtain⟨wE,hwE⟩:=nm (W3.setRow (L + 1) RX)
     have HQF:aa (wE.heap[L + 1]?=some (.cells RX 49 (0,0))):=by rw[hwE];exact setRow_heap W3 (L + 1) _ _ _ _ HQE.out
     have hkE:am (·≠L + 1) W3 wE:=by rw[hwE];exact aI (K:=(·≠L + 1)) W3 (L + 1) _ (fun h=>h rfl)
     have HKE:=ac hkE
     rw[<-hwE]
     clear hwE hkE
     try simp only[Act.put]
     refine bodyPost_ret_by (results_cell_row (by rfl) _ wE (L + 1) _ _ _ _ rfl HQF.out underlying49 rfl HZV.out) rfl ?_
     refine gd HRX.out rfl rfl rfl ?_ rfl HN3.out HKE.out HLW.out
     refine⟨rfl,dL,?_,?_,?_,?_,?_,?_,?_,?_,?_,?_,?_,?_⟩ <;> simp <;> (have:=HQ8.out) <;> (have:=HBDN.out) <;> omega
open Vk (vickOf)
theorem o8 {w:World} {L Y Z:Nat} {rv:RecV} {d:RecD} {a1 a2 a3 b1 b2 b3:Int} (he:∃b l ow,rv=d.toV b l ow) (hr:ah w L rv) (hy:w.heap[Y]?=some (.cells #[.int .i64 a1,.int .i64 a2,.int .u64 a3] 46 (0,0))) (hz:w.heap[Z]?=some (.cells #[.int .i64 b1,.int .i64 b2,.int .u64 b3] 46 (0,0))):
  ∃(s x p:Int) (y1 y2:Bool),(w.cell? ⟨L,40,none⟩=some (.int .i64 s)/\w.cell? ⟨L,41,none⟩=some (.int .i64 x)/\w.cell? ⟨L,42,none⟩=some (.int .u64 p))/\
   (w.cell? ⟨Y,0,none⟩=some (.int .i64 a1)/\w.cell? ⟨Y,1,none⟩=some (.int .i64 a2)/\w.cell? ⟨Y,2,none⟩=some (.int .u64 a3))/\
   (w.cell? ⟨Z,0,none⟩=some (.int .i64 b1)/\w.cell? ⟨Z,1,none⟩=some (.int .i64 b2)/\w.cell? ⟨Z,2,none⟩=some (.int .u64 b3))/\
   (∀ W,(binOp .eql 46 (.agg #[.int .i64 s,.int .i64 x,.int .u64 p]) (.agg #[.int .i64 a1,.int .i64 a2,.int .u64 a3])).run prog W=.ok (.bool y1) W)/\
   ∀W,(binOp .eql 46 (.agg #[.int .i64 s,.int .i64 x,.int .u64 p]) (.agg #[.int .i64 b1,.int .i64 b2,.int .u64 b3])).run prog W=.ok (.bool y2) W:=by
 obtain⟨b,l,ow,e⟩:=he
 rw[e] at hr
 exact⟨d.state,d.winner,d.price,_,_,⟨hr.cell 40,hr.cell 41,hr.cell 42⟩,⟨aq hy 0,aq hy 1,aq hy 2⟩,⟨aq hz 0,aq hz 1,aq hz 2⟩,fun W=>sS _ _ _ _ _ _ W,fun W=>sS _ _ _ _ _ _ W⟩
theorem tp (w:World) (v:Value) (ds:List RecD) (h:aX w v ds) (hd:DW ds) (rv:RecV) (d:RecD) (hr:bu w rv d) (hm:cF d=true) (hok:d.ok):
  Calls prog 54 #[v,.agg (ae rv)] w (vt w ds d):=by
 have HD:=ac hd
 have HM:=ac hm
 have HOK:=ac hok
 obtain⟨a,cap,hv,hcap,hj⟩:=h.cols
 obtain⟨lb,lo,ea,hlb,_⟩:=hj hd.ne
 subst ea
 obtain⟨n,hn⟩:=nm (ds.length)
 have hn1:(0:Int)<n:=by have:=hd.ne;omega
 have hn2:0<n:=by omega
 have hn9:n<1000000:=by have:=hd.small;omega
 have hn0:((n:Int)==0)=false:=by simp;omega
 have HN:=ac hn
 rw[<-hn] at hv
 subst hv
 clear hj hcap hlb hn
 obtain⟨L,hL⟩:=nm (w.heap.size)
 obtain⟨w0,hw0⟩:=nm (w.alloc (.cells (ae rv) 49))
 have HN0:aa (Below w.heap.size w w0):=by rw[hw0];exact af _ _
 have HR0:aa (ah w0 L rv):=by rw[hw0,hL];exact ah.box _ _
 have HRA:aa (aX w0 (.slice (some ⟨lb,lo,none⟩) n cap) ds):=h.on HN0.out
 have HRR:aa (bu w0 rv d):=hr.on HN0.out
 have HERV:aa (∃ b l ow,rv=d.toV b l ow):=by obtain⟨b,l,ow,e,_⟩:=hr;exact⟨b,l,ow,e⟩
 have HDS:aa (ds.length<1000000000):=by have:=hd.small;rw[aa];omega
 have HCOL:aa (∀ W,Below w0.heap.size w0 W->∀j,j<ds.length->yE W lb (lo + j * 49) (ds.getD j {})):=by
  obtain⟨a',cap',e',_,hj'⟩:=HRA.out.cols
  obtain⟨lb',lo',ea',_,hc'⟩:=hj' hd.ne
  intro W hW j hj
  obtain⟨e1,_,_⟩:=Value.slice.inj e'
  rw[ea'] at e1
  injection e1 with e1
  injection e1 with e1 e2
  subst e1;subst e2
  exact (hc' j hj).on hW
 obtain⟨kd,hkd⟩:=nm (d.kind)
 obtain⟨rdQ,hrd⟩:=nm (d.round)
 obtain⟨ca,hca⟩:=nm (d.carrier)
 obtain⟨tkQ,htk⟩:=nm (d.tick)
 have HKD:=ac hkd
 have HRD:=ac hrd
 have HCA:=ac hca
 have HFLD:aa (∀ W,ah W L rv->W.cell? ⟨L,0,none⟩=some (.int .i64 kd)/\W.cell? ⟨L,1,none⟩=some (.int .i64 rdQ)/\W.cell? ⟨L,3,none⟩=some (.int .i64 ca)/\W.cell? ⟨L,4,none⟩=some (.int .i64 tkQ)):=by
  intro W hW
  obtain⟨b,l,ow,e⟩:=HERV.out
  rw[e] at hW
  rw[hkd,hrd,hca,htk]
  exact⟨hW.cell 0,hW.cell 1,hW.cell 3,hW.cell 4⟩
 have htk0:0<=tkQ/\tkQ<=9223372036854775807:=by rw[htk];exact⟨(dY hm).1,hok.tick.2⟩
 obtain⟨c0,c1,c3,c4⟩:=HFLD.out w0 HR0.out
 obtain⟨k6,hk6⟩:∃x:Int,x=(eO ds 6 ds.length:Int):=⟨_,rfl⟩
 obtain⟨lt,hlt⟩:=nm (t7 ds)
 have HK6:=ac hk6
 have HLT:=ac hlt
 clear h hr hm hok hkd hrd hca htk hk6 hlt hd
 go_enter func54,ntmps54
 go_upto_region 3 with fail
 rw[<-hw0,<-hL]
 clear hw0 hL hn0
 by_cases h1:0<k6
 ·have b1:decide (0<k6)=true:=decide_eq_true h1
  clear h1
  go_quiet ((first | (go_at_call 51;exact gV HDS.out HRA.out _ HK6.out _) | (go_at_call 90;exact pY HD.out.small HRA.out HD.out.ne HLT.out _)))
  go_wp2_with fail
  go_ret
  exact⟨false,rfl,ar w _ _ HN0.out (ay _ _),fun h=>by cases h⟩
 have b1:decide (0<k6)=false:=decide_eq_false h1
 by_cases h2:tkQ<lt
 ·have b2:decide (tkQ<lt)=true:=decide_eq_true h2
  clear h1 h2
  go_quiet ((first | (go_at_call 51;exact gV HDS.out HRA.out _ HK6.out _) | (go_at_call 90;exact pY HD.out.small HRA.out HD.out.ne HLT.out _)))
  go_wp2_with fail
  go_ret
  exact⟨false,rfl,ar w _ _ HN0.out (ay _ _),fun h=>by cases h⟩
 have b2:decide (tkQ<lt)=false:=decide_eq_false h2
 by_cases h3:kd=1
 ·have b3:(kd==1)=true:=by simpa using h3
  clear h1 h2 h3
  go_quiet ((first | (go_at_call 51;exact gV HDS.out HRA.out _ HK6.out _) | (go_at_call 90;exact pY HD.out.small HRA.out HD.out.ne HLT.out _)))
  go_wp2_with fail
  go_ret
  exact⟨false,rfl,ar w _ _ HN0.out (ay _ _),fun h=>by cases h⟩
 have b3:(kd==1)=false:=by simpa using h3
 have HK1:aa (d.kind≠1):=by rw[<-HKD.out];exact h3
 clear h1 h2 h3
 go_quiet ((first | (go_at_call 51;exact gV HDS.out HRA.out _ HK6.out _) | (go_at_call 90;exact pY HD.out.small HRA.out HD.out.ne HLT.out _)))
 obtain⟨w1,hw1⟩:=nm (w0.drewN nq)
 have hb1:Below w0.heap.size w0 w1:=by rw[hw1];exact ay _ _
 have HB1:=ac hb1
 have HN1:aa (Below w.heap.size w w1):=ar w _ _ HN0.out hb1
 have HR1:=ac (HR0.out.new hb1)
 rw[<-hw1]
 clear hw1 hb1 b1 b2 b3 c0 c1 c3 c4
 obtain⟨c0,c1,c3,c4⟩:=HFLD.out w1 HR1.out
 by_cases h2:kd=2
 ·have b2:(kd==2)=true:=by simpa using h2
  have HK2:aa (d.kind=2):=by rw[<-HKD.out];exact h2
  clear h2
  have hi49:(prog.info? 49).map (·.size)=some (ae rv).size:=by rw[aj];kernel_rfl
  have HI49:=ac hi49
  clear hi49
  go_wp2_with (first
   | (refine wpList_load_row (by rfl) _ _ rfl L rfl _ (ae rv) (0,0) _ HR1.out underlying49 rfl HI49.out ?_)
   | fail)
  refine (vp w1 _ ds (HRA.out.on HB1.out) HD.out rv d (HRR.out.on HB1.out) (jA HM.out HK2.out)).mono ?_
  rintro e w2 ⟨b,rfl,hb2,hbb⟩
  have HN2:aa (Below w.heap.size w w2):=ar w _ _ HN1.out hb2
  have HBB:=ac hbb
  clear hb2 hbb
  go_wp2_with fail
  go_ret
  exact⟨b,rfl,HN2.out,fun h=>⟨HK1.out,fun _=>HBB.out h,fun h5=>by rw[HK2.out] at h5;cases h5⟩⟩
 have b2:(kd==2)=false:=by simpa using h2
 have HK2:aa (d.kind≠2):=by rw[<-HKD.out];exact h2
 clear h2
 go_wp2_with fail
 refine (iJ w1 _ ds HDS.out (HRA.out.on HB1.out)).mono ?_
 rintro e wx ⟨rfl,hwx⟩
 rw[hwx]
 clear hwx wx b2
 obtain⟨op,hop⟩:=nm (dg ds ds.length)
 have HOP:=ac hop
 rw[<-hop]
 clear hop
 have hcol0:=HCOL.out w1 HB1.out 0 HD.out.ne
 have e44:=hcol0.commit
 have e45:=hcol0.reveal
 rw[Nat.zero_mul,Nat.add_zero] at e44 e45
 obtain⟨cm,hcm⟩:∃x,x=(ds.getD 0 {}).commit:=⟨_,rfl⟩
 obtain⟨re,hre⟩:∃x,x=(ds.getD 0 {}).reveal:=⟨_,rfl⟩
 rw[<-hcm] at e44
 rw[<-hre] at e45
 have hcm1:1<=cm/\cm<=64:=by rw[hcm];exact HD.out.scn.commit
 have hre1:1<=re/\re<=64:=by rw[hre];exact HD.out.scn.reveal
 have kdue:IntKind.i64.wrap (cm + re)=cm + re:=IntWalk.i64_in _ (by omega)
 have HCM:=ac hcm
 clear hcol0 hcm hre
 go_upto_region 8 with fail
 go_quiet (fail)
 obtain⟨w2,hw2⟩:=nm (w1.drewN nq)
 have hb2:Below w1.heap.size w1 w2:=by rw[hw2];exact ay _ _
 have HB2:aa (Below w0.heap.size w0 w2):=ar w0 _ _ HB1.out hb2
 have HN2:aa (Below w.heap.size w w2):=ar w _ _ HN1.out hb2
 have HR2:=ac (HR1.out.new hb2)
 rw[<-hw2]
 obtain⟨du,hdu⟩:=nm (cm + re)
 rw[<-hdu]
 have hdu1:2<=du/\du<=128:=by omega
 clear hw2 hb2 c0 c1 c3 c4 e44 e45 kdue hcm1 hre1 hdu HR1 HN1 HB1
 obtain⟨c0,c1,c3,c4⟩:=HFLD.out w2 HR2.out
 by_cases h6:kd=6
 ·have b6:(kd==6)=true:=by simpa using h6
  have HCP:aa (o7 ds d):=⟨HK1.out,fun h2=>absurd h2 HK2.out,fun h5=>by rw[<-HKD.out,h6] at h5;cases h5⟩
  clear h6
  rcases HD.out.opened with ho | ⟨k,ho,hk,_,_,_⟩
  ·obtain rfl:op=-1:=HOP.out.trans ho
   clear ho
   go_upto_region 10 with fail
   go_quiet (fail)
   go_wp2_with fail
   go_ret
   exact⟨_,rfl,ar w _ _ HN2.out (ay _ _),fun _=>HCP.out⟩
  ·obtain rfl:op=(k:Int):=HOP.out.trans ho
   have e4:=(HCOL.out w2 HB2.out k hk).tick
   obtain⟨tq,htq⟩:∃x,x=(ds.getD k {}).tick:=⟨_,rfl⟩
   rw[<-htq] at e4
   have htq0:0<=tq/\tq<=9223372036854775807:=by rw[htq];exact⟨(dY (HD.out.at_ hk).1).1,(HD.out.at_ hk).2.tick.2⟩
   have hsub:IntKind.i64.wrap (tkQ - tq)=tkQ - tq:=IntWalk.i64_in _ (by omega)
   have hkn:(k:Int)<n:=by have:=HN.out;omega
   have hk0:decide ((k:Int)<0)=false:=decide_eq_false (by omega)
   clear ho hk htq htq0
   go_upto_region 10 with fail
   go_quiet (fail)
   go_wp2_with fail
   go_ret
   exact⟨_,rfl,ar w _ _ HN2.out (ay _ _),fun _=>HCP.out⟩
 have b6:(kd==6)=false:=by simpa using h6
 clear h6
 rcases HD.out.opened with ho | ⟨k,ho,hk,hk2,hl0,hl1⟩
 ·obtain rfl:op=-1:=HOP.out.trans ho
  clear ho
  go_upto_region 11 with fail
  go_quiet (fail)
  go_wp2_with fail
  go_ret
  exact⟨false,rfl,ar w _ _ HN2.out (ay _ _),fun h=>by cases h⟩
 obtain rfl:op=(k:Int):=HOP.out.trans ho
 have hcolk:=HCOL.out w2 HB2.out k hk
 have e1:=hcolk.round
 have e4:=hcolk.tick
 have e2:=hcolk.lot
 obtain⟨rq,hrq⟩:∃x,x=(ds.getD k {}).round:=⟨_,rfl⟩
 obtain⟨tq,htq⟩:∃x,x=(ds.getD k {}).tick:=⟨_,rfl⟩
 obtain⟨lq,hlq⟩:∃x,x=(ds.getD k {}).lot:=⟨_,rfl⟩
 rw[<-hrq] at e1
 rw[<-htq] at e4
 rw[<-hlq] at e2 hl0 hl1
 have htq0:0<=tq/\tq<=9223372036854775807:=by rw[htq];exact⟨(dY (HD.out.at_ hk).1).1,(HD.out.at_ hk).2.tick.2⟩
 have hsub:IntKind.i64.wrap (tkQ - tq)=tkQ - tq:=IntWalk.i64_in _ (by omega)
 have hkn:(k:Int)<n:=by have:=HN.out;omega
 have hk0:decide ((k:Int)<0)=false:=decide_eq_false (by omega)
 have hkz:¬(k:Int)<0:=by omega
 have HLQ:=ac hlq
 have HKK:aa (k<ds.length/\(ds.getD k {}).kind=2/\rq=(ds.getD k {}).round):=⟨hk,hk2,hrq⟩
 clear ho hcolk hk2 htq hlq hrq htq0
 by_cases h7:rdQ=rq
 case neg=>
  have b7:(rdQ !=rq)=true:=by simpa using h7
  clear h7
  go_upto_region 11 with fail
  go_quiet (fail)
  go_wp2_with fail
  go_ret
  exact⟨false,rfl,ar w _ _ HN2.out (ay _ _),fun h=>by cases h⟩
 have b7:(rdQ !=rq)=false:=by simpa using h7
 have HCP:aa (o7 ds d):=⟨HK1.out,fun h2=>absurd h2 HK2.out,fun _=>⟨k,HKK.out.1,HKK.out.2.1,by rw[<-HKK.out.2.2,<-h7];exact HRD.out⟩⟩
 clear h7
 go_upto_region 11 with fail
 go_quiet (fail)
 go_upto_region 13 with fail
 clear b6 b7 e1 c1
 obtain⟨w3,hw3⟩:=nm (w2.drewN nq)
 have hb3:Below w2.heap.size w2 w3:=by rw[hw3];exact ay _ _
 have HB3:aa (Below w0.heap.size w0 w3):=ar w0 _ _ HB2.out hb3
 have HN3:aa (Below w.heap.size w w3):=ar w _ _ HN2.out hb3
 have HR3:=ac (HR2.out.new hb3)
 have e4:w3.cell? ⟨lb,lo + k * 49 + 4,none⟩=some (.int .i64 tq):=(hb3.cell (aC e4)).trans e4
 have c4:w3.cell? ⟨L,4,none⟩=some (.int .i64 tkQ):=(hb3.cell (aC c4)).trans c4
 rw[<-hw3]
 clear hw3 hb3 c0 c3 e2 HR2 HN2 HB2
 go_quiet (fail)
 obtain⟨go,hgo⟩:=nm (tkQ - tq)
 rw[<-hgo]
 obtain⟨w4,hw4⟩:=nm (w3.drewN nq)
 have hb4:Below w3.heap.size w3 w4:=by rw[hw4];exact ay _ _
 have HB4:aa (Below w0.heap.size w0 w4):=ar w0 _ _ HB3.out hb4
 have HN4:aa (Below w.heap.size w w4):=ar w _ _ HN3.out hb4
 have HR4:=ac (HR3.out.new hb4)
 rw[<-hw4]
 clear hw4 hb4 c4 e4 hgo hsub HR3 HN3 HB3 hk0
 go_upto_region 14 with fail
 -- the lot that is open
 have e2:=(HCOL.out w4 HB4.out k HKK.out.1).lot
 rw[<-HLQ.out] at e2
 obtain⟨lv,e47,⟨la,lc,rfl,hlc,hla⟩⟩:=(HCOL.out w4 HB4.out 0 HD.out.ne).lots
 rw[Nat.zero_mul,Nat.add_zero] at e47
 obtain⟨ql,rfl⟩:∃q:Nat,lq=q:=Int.eq_ofNat_of_zero_le hl0
 obtain⟨ln,hln⟩:∃x,x=(ds.getD 0 {}).lots.length:=⟨_,rfl⟩
 rw[<-hln] at e47 hlc hla hl1
 have hqn:ql<ln:=by omega
 have hqi:(ql:Int)<ln:=by omega
 obtain⟨xb,xo,rfl,hxb,hxj⟩:=hla (by omega)
 have hreq:=HD.out.reqs ql (by rw[<-hln];exact hqn)
 obtain⟨dq1,dq2⟩:=hxj ql hqn
 obtain⟨xm,hxm⟩:∃x,x=((ds.getD 0 {}).lots.getD ql (0,0)).1:=⟨_,rfl⟩
 obtain⟨rs,hrs⟩:∃x,x=((ds.getD 0 {}).lots.getD ql (0,0)).2:=⟨_,rfl⟩
 rw[<-hxm] at dq1 hreq
 rw[<-hrs] at dq2
 have HRS:aa (0<=rs/\rs<=16777216):=by rw[hrs];exact (HD.out.scn.lots ql (by rw[<-hln];exact hqn)).2
 obtain⟨m,rfl⟩:∃m:Nat,xm=m:=Int.eq_ofNat_of_zero_le hreq.1
 have HMO:aa (m<(ds.getD 0 {}).owners.length):=by rw[aa];omega
 clear hk hl0 hl1 hlc hla hln hqn hxb hxj hreq hxm hrs
 refine wp_region_held_drew (S:=fun W=>Below w4.heap.size w4 W) (by kernel_rfl) (aA _) (fun hHeld=>?_)
 refine ts 0 (.slice (some ⟨lb,lo,none⟩) n cap) hHeld ?_
 try simp only[Act.put,ps]
 refine ts 1 (.pointer (some ⟨lb,lo,none⟩)) hHeld ?_
 try simp only[Act.put,ps]
 refine ts 2 (.pointer (some ⟨lb,lo + 47,none⟩)) hHeld ?_
 try simp only[Act.put,ps]
 refine tk 3 (.slice (some ⟨xb,xo,none⟩) ln lc) hHeld ?_ ?_
 ·intro W hSw
  have c:=(hSw.cell (aC e47)).trans e47
  go_simp
 try simp only[Act.put,ps]
 refine ts 4 (.slice (some ⟨lb,lo,none⟩) n cap) hHeld ?_
 try simp only[Act.put,ps]
 refine ts 5 (.int .i64 k) hHeld ?_
 try simp only[Act.put,ps]
 refine ts 6 (.pointer (some ⟨lb,lo + k * 49,none⟩)) hHeld ?_
 try simp only[Act.put,ps]
 refine ts 7 (.pointer (some ⟨lb,lo + k * 49 + 2,none⟩)) hHeld ?_
 try simp only[Act.put,ps]
 refine tk 8 (.int .i64 ql) hHeld ?_ ?_
 ·intro W hSw
  have c:=(hSw.cell (aC e2)).trans e2
  go_simp
 try simp only[Act.put,ps]
 refine ts 9 (.pointer (some ⟨xb,xo + ql * 2,none⟩)) hHeld ?_
 try simp only[Act.put,ps]
 refine tk 10 (.agg #[.int .i64 m,.int .i64 rs]) hHeld ?_ ?_
 ·intro W hSw
  have d1:=(hSw.cell (aC dq1)).trans dq1
  have d2:=(hSw.cell (aC dq2)).trans dq2
  go_simp
 try simp only[Act.put,ps]
 have HSL:aa (∀ o,Below w4.heap.size w4 (w4.drew.alloc o)):=fun o=>aD (aA w4) (af _ _)
 refine rd 11 (fun K hK=>?_)
 go_simp
 refine hK.out _ (w4.drew.alloc (.cells #[.int .i64 0,.int .i64 0] 63)) (HSL.out _) (fun hHeld=>?_)
 clear hK K
 try simp only[Act.put,ps]
 refine rd 12 (fun K hK=>?_)
 go_simp
 refine hK.out _ (w4.drew.alloc (.cells #[.int .i64 m,.int .i64 rs] 63)) (HSL.out _) (fun hHeld=>?_)
 clear hK K
 try simp only[Act.put,ps]
 refine wpAnyH_done (by kernel_rfl) ?_ _
 clear hHeld
 obtain⟨X,hX⟩:=nm (w4.heap.size)
 obtain⟨w5,hw5⟩:=nm (w4.drew.alloc (.cells #[.int .i64 m,.int .i64 rs] 63))
 have HX5:aa (w5.heap[X]?=some (.cells #[.int .i64 m,.int .i64 rs] 63 (0,0))):=by rw[hw5,hX];exact ax _ _
 have hb5:Below w4.heap.size w4 w5:=by rw[hw5];exact HSL.out _
 have HB5:aa (Below w0.heap.size w0 w5):=ar w0 _ _ HB4.out hb5
 have HN5:aa (Below w.heap.size w w5):=ar w _ _ HN4.out hb5
 have HR5:=ac (HR4.out.new hb5)
 rw[<-hw5,<-hX]
 clear hw5 hX hb5 HSL HR4 HN4 HB4
 apply_assumption
 clear e2 e47 dq1 dq2 hqi
 have HR5A:aa (aX w5 (.slice (some ⟨lb,lo,none⟩) n cap) ds):=HRA.out.on HB5.out
 obtain⟨c0,c1,c3,c4⟩:=HFLD.out w5 HR5.out
 go_upto_region 15 with fail
 go_quiet ((go_at_call 59;exact Bv HDS.out HR5A.out k (Nat.le_of_lt HKK.out.1) _ _ rfl _))
 obtain⟨mk,hmk⟩:=nm (sO ds 3 ca k (ds.length - k))
 obtain⟨bk,hbk⟩:=nm (sO ds 4 ca k (ds.length - k))
 rw[<-hmk,<-hbk]
 have HMK:=ac hmk
 clear hmk hbk
 obtain⟨w6,hw6⟩:=nm (w5.drewN nq)
 have hb6:Below w5.heap.size w5 w6:=by rw[hw6];exact ay _ _
 have HB6:aa (Below w0.heap.size w0 w6):=ar w0 _ _ HB5.out hb6
 have HN6:aa (Below w.heap.size w w6):=ar w _ _ HN5.out hb6
 have HR6:=ac (HR5.out.new hb6)
 have HX6:=ac (au HX5.out hb6)
 rw[<-hw6]
 clear hw6 hb6 c0 c1 c3 c4 HR5 HX5 HN5 HB5 HR5A
 have HR6A:aa (aX w6 (.slice (some ⟨lb,lo,none⟩) n cap) ds):=HRA.out.on HB6.out
 obtain⟨c0,c1,c3,c4⟩:=HFLD.out w6 HR6.out
 have hcol0:=HCOL.out w6 HB6.out 0 HD.out.ne
 have e43:=hcol0.carriers
 have e44:=hcol0.commit
 have e46:=hcol0.scheme
 rw[Nat.zero_mul,Nat.add_zero] at e43 e44 e46
 rw[<-HCM.out] at e44
 generalize (ds.getD 0 {}).carriers=cs at e43
 generalize (ds.getD 0 {}).scheme=sch at e46
 clear hcol0
 by_cases h3:kd=3
 ·as_aux_lemma=>
  --F
  have b3:(kd==3)=true:=by simpa using h3
  clear h3
  obtain⟨bv,e5,hbr⟩:=(HCOL.out w6 HB6.out k HKK.out.1).barred
  obtain⟨bq,hbq⟩:∃x,x=(ds.getD k {}).barred:=⟨_,rfl⟩
  rw[<-hbq] at hbr
  have HBQ:aa (bq.length<1000000000):=by rw[hbq];exact Nat.lt_of_le_of_lt (jA (HD.out.at_ HKK.out.1).1 HKK.out.2.1).nbar (by decide)
  have HBR:=ac hbr
  obtain⟨hb,hhb⟩:=nm (qT bq ca)
  have HHB:=ac hhb
  clear hbq hbr hhb
  go_upto_region 18 with fail
  clear b3
  by_cases g1:go<cm
  case neg=>
   have b1:decide (go<cm)=false:=decide_eq_false g1
   clear g1
   go_quiet (fail)
   go_wp2_with fail
   go_ret
   exact⟨_,rfl,ar w _ _ HN6.out (ay _ _),fun _=>HCP.out⟩
  have b1:decide (go<cm)=true:=decide_eq_true g1
  clear g1
  by_cases g2:ca<cs
  case neg=>
   have b2:decide (ca<cs)=false:=decide_eq_false g2
   clear g2
   go_quiet (fail)
   go_wp2_with fail
   go_ret
   exact⟨_,rfl,ar w _ _ HN6.out (ay _ _),fun _=>HCP.out⟩
  have b2:decide (ca<cs)=true:=decide_eq_true g2
  clear g2
  cases hb with
  | true=>
   go_quiet ((go_at_call 56;exact jx HBQ.out HBR.out ca HHB.out _))
   go_wp2_with fail
   go_ret
   exact⟨_,rfl,ar w _ _ HN6.out (ay _ _),fun _=>HCP.out⟩
  | false=>
   have x0:w6.cell? ⟨X,0,none⟩=some (.int .i64 m):=aq HX6.out 0
   refine wp_region_held_drew (S:=fun W=>Below w6.heap.size w6 W) (by kernel_rfl) (aA _) (fun hHeld=>?_)
   refine ts 0 (.int .i64 go) hHeld ?_
   try simp only[Act.put,ps]
   refine ts 1 (.slice (some ⟨lb,lo,none⟩) n cap) hHeld ?_
   try simp only[Act.put,ps]
   refine ts 2 (.pointer (some ⟨lb,lo,none⟩)) hHeld ?_
   try simp only[Act.put,ps]
   refine ts 3 (.pointer (some ⟨lb,lo + 44,none⟩)) hHeld ?_
   try simp only[Act.put,ps]
   refine tk 4 (.int .i64 cm) hHeld ?_ ?_
   ·intro W hSw
    have c:=(hSw.cell (aC e44)).trans e44
    go_simp
   try simp only[Act.put,ps]
   refine ts 5 (.bool true) hHeld ?_
   try simp only[Act.put,ps]
   refine ts 6 (.bool true) hHeld ?_
   try simp only[Act.put,ps]
   refine ts 7 (.pointer (some ⟨L,3,none⟩)) hHeld ?_
   try simp only[Act.put,ps]
   refine tk 8 (.int .i64 ca) hHeld ?_ ?_
   ·intro W hSw
    have c:=(hSw.cell (aC c3)).trans c3
    go_simp
   try simp only[Act.put,ps]
   refine ts 9 (.slice (some ⟨lb,lo,none⟩) n cap) hHeld ?_
   try simp only[Act.put,ps]
   refine ts 10 (.pointer (some ⟨lb,lo,none⟩)) hHeld ?_
   try simp only[Act.put,ps]
   refine ts 11 (.pointer (some ⟨lb,lo + 43,none⟩)) hHeld ?_
   try simp only[Act.put,ps]
   refine tk 12 (.int .i64 cs) hHeld ?_ ?_
   ·intro W hSw
    have c:=(hSw.cell (aC e43)).trans e43
    go_simp
   try simp only[Act.put,ps]
   refine ts 13 (.bool true) hHeld ?_
   try simp only[Act.put,ps]
   refine ts 14 (.bool true) hHeld ?_
   try simp only[Act.put,ps]
   refine ts 15 (.bool true) hHeld ?_
   try simp only[Act.put,ps]
   refine ts 16 (.slice (some ⟨lb,lo,none⟩) n cap) hHeld ?_
   try simp only[Act.put,ps]
   refine ts 17 (.int .i64 k) hHeld ?_
   try simp only[Act.put,ps]
   refine ts 18 (.pointer (some ⟨lb,lo + k * 49,none⟩)) hHeld ?_
   try simp only[Act.put,ps]
   refine ts 19 (.pointer (some ⟨lb,lo + k * 49 + 5,none⟩)) hHeld ?_
   try simp only[Act.put,ps]
   refine tk 20 (bv) hHeld ?_ ?_
   ·intro W hSw
    have c:=(hSw.cell (aC e5)).trans e5
    go_simp
   try simp only[Act.put,ps]
   refine ts 21 (.pointer (some ⟨L,3,none⟩)) hHeld ?_
   try simp only[Act.put,ps]
   refine tk 22 (.int .i64 ca) hHeld ?_ ?_
   ·intro W hSw
    have c:=(hSw.cell (aC c3)).trans c3
    go_simp
   try simp only[Act.put,ps]
   obtain⟨W0,hW0⟩:=nm (w6.drew)
   have HW0:aa (Below w6.heap.size w6 W0):=by rw[hW0];exact aA _
   rw[<-hW0] at hHeld ⊢
   clear hW0
   refine rd 23 (fun K hK=>?_)
   go_simp
   refine (nC W0 bv bq HBQ.out (HBR.out.up HW0.out) ca).mono ?_
   rintro e W1 ⟨rfl,hW1⟩
   rw[<-HHB.out,hW1]
   clear hW1
   try go_simp
   refine hK.out _ W0 HW0.out (fun hHeld=>?_)
   clear hK K
   try simp only[Act.put,ps]
   refine ts 24 (.bool true) hHeld ?_
   try simp only[Act.put,ps]
   refine ts 25 (.bool true) hHeld ?_
   try simp only[Act.put,ps]
   refine ts 26 (.bool true) hHeld ?_
   try simp only[Act.put,ps]
   refine ts 27 (.slice (some ⟨lb,lo,none⟩) n cap) hHeld ?_
   try simp only[Act.put,ps]
   refine ts 29 (.pointer (some ⟨X,0,none⟩)) hHeld ?_
   try simp only[Act.put,ps]
   refine tk 30 (.int .i64 m) hHeld ?_ ?_
   ·intro W hSw
    have c:=(hSw.cell (aC x0)).trans x0
    go_simp
   try simp only[Act.put,ps]
   refine ts 33 (.pointer (some ⟨L,3,none⟩)) hHeld ?_
   try simp only[Act.put,ps]
   refine tk 34 (.int .i64 ca) hHeld ?_ ?_
   ·intro W hSw
    have c:=(hSw.cell (aC c3)).trans c3
    go_simp
   try simp only[Act.put,ps]
   refine rd 28 (fun K hK=>?_)
   go_simp
   refine (jv W0 _ ds (HR6A.out.on HW0.out) HD.out).mono ?_
   rintro e W2 ⟨u,rfl,hbel,xs,hxs,hrow⟩
   obtain⟨on,hon⟩:∃x,x=(ds.getD 0 {}).owners.length:=⟨_,rfl⟩
   rw[<-hon] at hxs hrow
   have hmo:m<on:=by rw[hon];exact HMO.out
   have hmi:(m:Int)<on:=by omega
   obtain⟨gg,gc,cur,rfl,_,_,_,_,_,hgj⟩:=gU (by omega) hrow
   obtain⟨z,hz⟩:=nm (xs.getD m 0)
   have cz:W2.cell? ⟨gg,m,none⟩=some (.int .i64 z):=hgj m _ (by rw[List.getElem?_map,hz,List.getD_eq_getElem?_getD,List.getElem?_eq_getElem (by omega)];rfl)
   have HW2:aa (Below w6.heap.size w6 W2):=ar w6 _ _ HW0.out hbel
   clear hbel hxs hrow hon hmo hgj hz
   try go_simp
   refine hK.out _ W2 HW2.out (fun hHeld=>?_)
   clear hK K
   try simp only[Act.put,ps]
   refine ts 31 (.pointer (some ⟨gg,m,none⟩)) hHeld ?_
   try simp only[Act.put,ps]
   refine rd 32 (fun K hK=>?_)
   go_simp
   refine hK.out _ W2 HW2.out (fun hHeld=>?_)
   clear hK K
   try simp only[Act.put,ps]
   by_cases hzc:z=ca
   ·have bz:(z !=ca)=false:=by simp[hzc]
    clear hzc
    refine ts 35 (.bool false) hHeld ?_
    try simp only[Act.put,ps]
    refine ts 36 (.bool false) hHeld ?_
    try simp only[Act.put,ps]
    refine ts 37 (.bool false) hHeld ?_
    try simp only[Act.put,ps]
    refine tl 38 (undef) rfl (Or.inr ⟨by rfl,rfl⟩) hHeld ?_
    try simp only[Act.put,ps]
    refine tl 39 (undef) rfl (Or.inr ⟨by rfl,rfl⟩) hHeld ?_
    try simp only[Act.put,ps]
    refine ts 40 (.bool false) hHeld ?_
    try simp only[Act.put,ps]
    refine ts 41 (.bool false) hHeld ?_
    try simp only[Act.put,ps]
    refine wpAnyH_done (by kernel_rfl) ?_ _
    clear hHeld
    apply_assumption
    go_wp2_with fail
    go_ret
    exact⟨_,rfl,ar w _ _ HN6.out HW2.out,fun _=>HCP.out⟩
   ·have bz:(z !=ca)=true:=by simpa using hzc
    clear hzc
    refine ts 35 (.bool true) hHeld ?_
    try simp only[Act.put,ps]
    refine ts 36 (.bool true) hHeld ?_
    try simp only[Act.put,ps]
    refine ts 37 (.bool true) hHeld ?_
    try simp only[Act.put,ps]
    refine ts 38 (.int .i64 mk) hHeld ?_
    try simp only[Act.put,ps]
    refine ts 39 (.bool (decide (mk<0))) hHeld ?_
    try simp only[Act.put,ps]
    refine ts 40 (.bool (decide (mk<0))) hHeld ?_
    try simp only[Act.put,ps]
    refine ts 41 (.bool (decide (mk<0))) hHeld ?_
    try simp only[Act.put,ps]
    refine wpAnyH_done (by kernel_rfl) ?_ _
    clear hHeld
    apply_assumption
    go_wp2_with fail
    go_ret
    exact⟨_,rfl,ar w _ _ HN6.out HW2.out,fun _=>HCP.out⟩
  --E
 have b3:(kd==3)=false:=by simpa using h3
 have HK3:aa (d.kind≠3):=by rw[<-HKD.out];exact h3
 clear h3
 by_cases h4:kd=4
 ·as_aux_lemma=>
  --F
  have b4:(kd==4)=true:=by simpa using h4
  have HK4:aa (d.kind=4):=by rw[<-HKD.out];exact h4
  clear h4
  go_upto_region 20 with fail
  clear b3 b4
  by_cases g1:go<cm
  ·go_wp2_with fail
   go_ret
   exact⟨false,rfl,HN6.out,fun h=>by cases h⟩
  by_cases g2:du<=go
  ·go_wp2_with fail
   go_ret
   exact⟨false,rfl,HN6.out,fun h=>by cases h⟩
  by_cases g3:mk<0
  ·go_wp2_with fail
   go_ret
   exact⟨false,rfl,HN6.out,fun h=>by cases h⟩
  by_cases g4:0<=bk
  ·go_wp2_with fail
   go_ret
   exact⟨false,rfl,HN6.out,fun h=>by cases h⟩
  have hmj:∃j:Nat,mk=j/\j<ds.length:=by
   rcases sP ds 3 ca (ds.length - k) k with e | ⟨j,e,_,hj⟩
   ·rw[<-HMK.out] at e;omega
   ·exact⟨j,HMK.out.trans e,by have:=HKK.out.1;omega⟩
  obtain⟨j,rfl,hj⟩:=hmj
  have hjn:(j:Int)<n:=by have:=HN.out;omega
  have HJ:aa (j<ds.length):=hj
  go_upto_region 22 with fail
  clear g1 g2 g3 g4 hj
  by_cases g5:sch=0
  case neg=>
   have b5:(sch !=0)=true:=by simpa using g5
   clear g5
   go_quiet (fail)
   go_wp2_with fail
   go_ret
   exact⟨true,rfl,ar w _ _ HN6.out (ay _ _),fun _=>HCP.out⟩
  have b5:(sch !=0)=false:=by simp[g5]
  clear g5
  obtain⟨bd,hbd⟩:=nm (d.bid)
  obtain⟨nc,hnc⟩:=nm (d.nonce)
  have c38:w6.cell? ⟨L,38,none⟩=some (.int .u64 bd):=by obtain⟨b,l,ow,e⟩:=HERV.out;have:=HR6.out;rw[e] at this;rw[hbd];exact this.cell 38
  have c39:w6.cell? ⟨L,39,none⟩=some (.int .u64 nc):=by obtain⟨b,l,ow,e⟩:=HERV.out;have:=HR6.out;rw[e] at this;rw[hnc];exact this.cell 39
  have HSO:aa (ij rdQ ca bd nc):=by
   have h1:=dY HM.out
   have h2:=qw HM.out (.inr HK4.out)
   rw[aa,ij,HRD.out,HCA.out,hbd,hnc]
   exact⟨by omega,by omega,HOK.out.bid,HOK.out.nonce⟩
  have HDL:aa ((ds.getD j {}).dig.length=32):=(HD.out.at_ HJ.out).2.len
  obtain⟨dl,hdl⟩:∃x,x=(ds.getD j {}).dig:=⟨_,rfl⟩
  obtain⟨dc,hdc⟩:∃c:List Value,c=dl.map (Value.int .u8):=⟨_,rfl⟩
  have HDR:aa (∀ W,Below w6.heap.size w6 W->W.rangeAt lb (lo + j * 49 + 6) dc):=fun W hW=>by
   rw[hdc,hdl]
   exact (HR6A.out.on hW).digs rfl HJ.out HDL.out
  have HDC:=ac hdc
  have HDL2:aa (dl.length=32):=by rw[hdl];exact HDL.out
  have hi43:(prog.info? 43).map (·.size)=some dc.length:=by rw[hdc,List.length_map,HDL2.out];kernel_rfl
  clear hbd hnc hdl hdc
  refine wp_region_held_drew (S:=fun W=>Below w6.heap.size w6 W) (by kernel_rfl) (aA _) (fun hHeld=>?_)
  refine ts 0 (.slice (some ⟨lb,lo,none⟩) n cap) hHeld ?_
  try simp only[Act.put,ps]
  refine ts 1 (.pointer (some ⟨lb,lo,none⟩)) hHeld ?_
  try simp only[Act.put,ps]
  refine ts 2 (.pointer (some ⟨lb,lo + 46,none⟩)) hHeld ?_
  try simp only[Act.put,ps]
  refine tk 3 (.int .i64 sch) hHeld ?_ ?_
  ·intro W hSw
   have c:=(hSw.cell (aC e46)).trans e46
   go_simp
  try simp only[Act.put,ps]
  refine ts 4 (.bool false) hHeld ?_
  try simp only[Act.put,ps]
  refine ts 5 (.bool false) hHeld ?_
  try simp only[Act.put,ps]
  refine ts 6 (.slice (some ⟨lb,lo,none⟩) n cap) hHeld ?_
  try simp only[Act.put,ps]
  refine ts 7 (.int .i64 j) hHeld ?_
  try simp only[Act.put,ps]
  refine ts 8 (.pointer (some ⟨lb,lo + j * 49,none⟩)) hHeld ?_
  try simp only[Act.put,ps]
  refine ts 9 (.pointer (some ⟨lb,lo + j * 49 + 6,none⟩)) hHeld ?_
  try simp only[Act.put,ps]
  refine tl 10 (.agg dc.toArray) rfl (yieldsIf_load_mid (by rfl) 43 (.tmp 188) rfl lb (lo + j * 49 + 6) rfl dc _ (fun W hW=>HDR.out W hW) underlying43 rfl hi43) hHeld ?_
  try simp only[Act.put,ps]
  refine ts 11 (.pointer (some ⟨L,1,none⟩)) hHeld ?_
  try simp only[Act.put,ps]
  refine tk 12 (.int .i64 rdQ) hHeld ?_ ?_
  ·intro W hSw
   have c:=(hSw.cell (aC c1)).trans c1
   go_simp
  try simp only[Act.put,ps]
  refine ts 13 (.pointer (some ⟨L,3,none⟩)) hHeld ?_
  try simp only[Act.put,ps]
  refine tk 14 (.int .i64 ca) hHeld ?_ ?_
  ·intro W hSw
   have c:=(hSw.cell (aC c3)).trans c3
   go_simp
  try simp only[Act.put,ps]
  refine ts 15 (.pointer (some ⟨L,38,none⟩)) hHeld ?_
  try simp only[Act.put,ps]
  refine tk 16 (.int .u64 bd) hHeld ?_ ?_
  ·intro W hSw
   have c:=(hSw.cell (aC c38)).trans c38
   go_simp
  try simp only[Act.put,ps]
  refine ts 17 (.pointer (some ⟨L,39,none⟩)) hHeld ?_
  try simp only[Act.put,ps]
  refine tk 18 (.int .u64 nc) hHeld ?_ ?_
  ·intro W hSw
   have c:=(hSw.cell (aC c39)).trans c39
   go_simp
  try simp only[Act.put,ps]
  refine ts 19 (.agg #[.int .i64 rdQ,.int .i64 ca,.int .u64 bd,.int .u64 nc]) hHeld ?_
  try simp only[Act.put,ps]
  obtain⟨W0,hW0⟩:=nm (w6.drew)
  have HW0:aa (Below w6.heap.size w6 W0):=by rw[hW0];exact aA _
  rw[<-hW0] at hHeld ⊢
  clear hW0
  have HCL:aa (Calls prog 92 #[.agg dc.toArray,.agg #[.int .i64 rdQ,.int .i64 ca,.int .u64 bd,.int .u64 nc]] W0 fun e w'=>(∃ y,e=.returned (.bool y))/\Below W0.heap.size W0 w'):=by rw[HDC.out];exact th W0 dl HDL2.out rdQ ca bd nc HSO.out
  refine rd 20 (fun K hK=>?_)
  go_simp
  refine HCL.out.mono ?_
  rintro e W1 ⟨⟨y,rfl⟩,hb⟩
  have HW1:aa (Below w6.heap.size w6 W1):=ar w6 _ _ HW0.out hb
  clear hb
  try go_simp
  refine hK.out _ W1 HW1.out (fun hHeld=>?_)
  clear hK K
  try simp only[Act.put,ps]
  refine ts 21 (.bool y) hHeld ?_
  try simp only[Act.put,ps]
  refine ts 22 (.bool y) hHeld ?_
  try simp only[Act.put,ps]
  refine wpAnyH_done (by kernel_rfl) ?_ _
  clear hHeld
  apply_assumption
  go_wp2_with fail
  go_ret
  exact⟨y,rfl,ar w _ _ HN6.out HW1.out,fun _=>HCP.out⟩
  --E
 have b4:(kd==4)=false:=by simpa using h4
 clear h4
 go_upto_region 23 with fail
 clear b3 b4
 have x1:w6.cell? ⟨X,1,none⟩=some (.int .i64 rs):=aq HX6.out 1
 have krs:IntKind.u64.wrap rs=rs:=IntWalk.u64_in _ (by have:=HRS.out;omega)
 go_cut [11] (fun s11 wx=>∃(Y:Nat) (o:Int × Int × Int),s11=.pointer (some ⟨Y,0,none⟩)/\aa (w6.heap.size<=Y/\Below w6.heap.size w6 wx/\wx.heap[Y]?=some (.cells #[.int .i64 o.1,.int .i64 o.2.1,.int .u64 o.2.2] 46 (0,0))))
 case first=>
  as_aux_lemma=>
  refine wp_region_held_drew (S:=fun W=>Below w6.heap.size w6 W) (by kernel_rfl) (aA _) (fun hHeld=>?_)
  refine ts 0 (.slice (some ⟨lb,lo,none⟩) n cap) hHeld ?_
  try simp only[Act.put,ps]
  refine ts 1 (.int .i64 k) hHeld ?_
  try simp only[Act.put,ps]
  refine ts 3 (.pointer (some ⟨X,1,none⟩)) hHeld ?_
  try simp only[Act.put,ps]
  refine tk 4 (.int .i64 rs) hHeld ?_ ?_
  ·intro W hSw
   have c:=(hSw.cell (aC x1)).trans x1
   go_simp
  try simp only[Act.put,ps]
  refine ts 5 (.int .u64 rs) hHeld ?_
  try simp only[Act.put,ps]
  obtain⟨W0,hW0⟩:=nm (w6.drew)
  have HW0:aa (Below w6.heap.size w6 W0):=by rw[hW0];exact aA _
  rw[<-hW0] at hHeld ⊢
  clear hW0
  refine wpAnyH_ready (rs:=[2,7]) (by kernel_rfl) (by simp) ?_
  refine AllReadyH.cons (o:=_) rfl (fun K hK=>?_) (AllReadyH.cons (o:=_) rfl (fun K hK=>?_) AllReadyH.nil)
  ·go_simp
   refine (oX W0 _ ds HD.out.small (HR6A.out.on HW0.out) k (Nat.le_of_lt HKK.out.1)).mono ?_
   rintro e W1 ⟨u,rfl,hb,bs,hbs,hrow⟩
   have HBD:aa (W1.ownsRow W0.heap.size 60 2 u bs.length (b8 bs)):=hrow
   have HBN:aa (bs.length<=8796093022208):=by have:=HD.out.small;rw[aa];omega
   have HW1:aa (Below w6.heap.size w6 W1):=ar w6 _ _ HW0.out hb
   clear hb hbs hrow
   try go_simp
   refine hK.out _ W1 HW1.out (fun hHeld=>?_)
   clear hK K
   try simp only[Act.put,ps]
   refine wpAnyH_ready (rs:=[6,7]) (by kernel_rfl) (by simp) ?_
   refine AllReadyH.cons (o:=_) rfl (fun K hK=>?_) (AllReadyH.cons (o:=_) rfl (fun K hK=>?_) AllReadyH.nil)
   ·go_simp
    refine (jF bs u rs W1 (js HBD.out) HBN.out).mono ?_
    rintro e W2 ⟨rfl,hb⟩
    obtain⟨oc,hoc⟩:=nm (vickOf bs rs)
    rw[<-hoc]
    obtain⟨o1,o2,o3⟩:=oc
    have HW2:aa (Below w6.heap.size w6 W2):=ar w6 _ _ HW1.out hb
    clear hb hoc
    unfold iI
    try go_simp
    refine hK.out _ W2 HW2.out (fun hHeld=>?_)
    clear hK K
    try simp only[Act.put,ps]
    refine rd 7 (fun K hK=>?_)
    go_simp
    obtain⟨Y,hY⟩:=nm (W2.heap.size)
    obtain⟨W3,hW⟩:=nm (W2.alloc (.cells #[.int .i64 0,.int .i64 0,.int .u64 0] 46))
    have hb:Below W2.heap.size W2 W3:=by rw[hW];exact af _ _
    have HY0:aa (W3.heap[Y]?=some (.cells #[.int .i64 0,.int .i64 0,.int .u64 0] 46 (0,0))):=by rw[hW,hY];exact ax _ _
    have HYL:aa (w6.heap.size<=Y):=by rw[hY];exact HW2.out.size
    have HW3:aa (Below w6.heap.size w6 W3):=ar w6 _ _ HW2.out hb
    rw[<-hW,<-hY]
    clear hW hY hb
    refine hK.out _ W3 HW3.out (fun hHeld=>?_)
    clear hK K
    try simp only[Act.put,ps]
    refine rd 8 (fun K hK=>?_)
    refine cY rfl 46 _ _ rfl Y #[.int .i64 o1,.int .i64 o2,.int .u64 o3] rfl rfl 46 _ HY0.out (by kernel_rfl) rfl (by simp[Value.oneCell']) ?_
    obtain⟨W4,hW⟩:=nm (W3.setRow Y #[.int .i64 o1,.int .i64 o2,.int .u64 o3])
    have HYE:aa (W4.heap[Y]?=some (.cells #[.int .i64 o1,.int .i64 o2,.int .u64 o3] 46 (0,0))):=by rw[hW];exact setRow_heap W3 Y _ _ _ _ HY0.out
    have HW4:aa (Below w6.heap.size w6 W4):=aB HW3.out (by rw[hW];exact aI (K:=(·≠Y)) W3 Y _ (fun h=>h rfl)) (fun j hj e=>by have:=HYL.out;omega)
    rw[<-hW]
    clear hW
    refine hK.out _ W4 HW4.out (fun hHeld=>?_)
    clear hK K
    try simp only[Act.put,ps]
    refine wpAnyH_done (by kernel_rfl) ?_ _
    clear hHeld
    apply_assumption
    go_meet
    case rel=>exact⟨Y,(o1,o2,o3),rfl,HYL.out,HW4.out,HYE.out⟩
   ·go_simp
    obtain⟨Y,hY⟩:=nm (W1.heap.size)
    obtain⟨W5,hW⟩:=nm (W1.alloc (.cells #[.int .i64 0,.int .i64 0,.int .u64 0] 46))
    have hb:Below W1.heap.size W1 W5:=by rw[hW];exact af _ _
    have HY0:aa (W5.heap[Y]?=some (.cells #[.int .i64 0,.int .i64 0,.int .u64 0] 46 (0,0))):=by rw[hW,hY];exact ax _ _
    have HYL:aa (w6.heap.size<=Y):=by rw[hY];exact HW1.out.size
    have HW5:aa (Below w6.heap.size w6 W5):=ar w6 _ _ HW1.out hb
    have HBD:=ac (bG HBD.out hb)
    rw[<-hW,<-hY]
    clear hW hY hb
    refine hK.out _ W5 HW5.out (fun hHeld=>?_)
    clear hK K
    try simp only[Act.put,ps]
    refine rd 6 (fun K hK=>?_)
    go_simp
    refine (jF bs u rs W5 (js HBD.out) HBN.out).mono ?_
    rintro e W6 ⟨rfl,hb⟩
    obtain⟨oc,hoc⟩:=nm (vickOf bs rs)
    rw[<-hoc]
    obtain⟨o1,o2,o3⟩:=oc
    have HW6:aa (Below w6.heap.size w6 W6):=ar w6 _ _ HW5.out hb
    have HY0:=ac (au HY0.out hb)
    clear hb hoc
    unfold iI
    try go_simp
    refine hK.out _ W6 HW6.out (fun hHeld=>?_)
    clear hK K
    try simp only[Act.put,ps]
    refine rd 8 (fun K hK=>?_)
    refine cY rfl 46 _ _ rfl Y #[.int .i64 o1,.int .i64 o2,.int .u64 o3] rfl rfl 46 _ HY0.out (by kernel_rfl) rfl (by simp[Value.oneCell']) ?_
    obtain⟨W7,hW⟩:=nm (W6.setRow Y #[.int .i64 o1,.int .i64 o2,.int .u64 o3])
    have HYE:aa (W7.heap[Y]?=some (.cells #[.int .i64 o1,.int .i64 o2,.int .u64 o3] 46 (0,0))):=by rw[hW];exact setRow_heap W6 Y _ _ _ _ HY0.out
    have HW7:aa (Below w6.heap.size w6 W7):=aB HW6.out (by rw[hW];exact aI (K:=(·≠Y)) W6 Y _ (fun h=>h rfl)) (fun j hj e=>by have:=HYL.out;omega)
    rw[<-hW]
    clear hW
    refine hK.out _ W7 HW7.out (fun hHeld=>?_)
    clear hK K
    try simp only[Act.put,ps]
    refine wpAnyH_done (by kernel_rfl) ?_ _
    clear hHeld
    apply_assumption
    go_meet
    case rel=>exact⟨Y,(o1,o2,o3),rfl,HYL.out,HW7.out,HYE.out⟩
  ·go_simp
   obtain⟨Y,hY⟩:=nm (W0.heap.size)
   obtain⟨W8,hW⟩:=nm (W0.alloc (.cells #[.int .i64 0,.int .i64 0,.int .u64 0] 46))
   have hb:Below W0.heap.size W0 W8:=by rw[hW];exact af _ _
   have HY0:aa (W8.heap[Y]?=some (.cells #[.int .i64 0,.int .i64 0,.int .u64 0] 46 (0,0))):=by rw[hW,hY];exact ax _ _
   have HYL:aa (w6.heap.size<=Y):=by rw[hY];exact HW0.out.size
   have HW8:aa (Below w6.heap.size w6 W8):=ar w6 _ _ HW0.out hb
   rw[<-hW,<-hY]
   clear hW hY hb
   refine hK.out _ W8 HW8.out (fun hHeld=>?_)
   clear hK K
   try simp only[Act.put,ps]
   refine rd 2 (fun K hK=>?_)
   go_simp
   refine (oX W8 _ ds HD.out.small (HR6A.out.on HW8.out) k (Nat.le_of_lt HKK.out.1)).mono ?_
   rintro e W9 ⟨u,rfl,hb,bs,hbs,hrow⟩
   have HBD:aa (W9.ownsRow W8.heap.size 60 2 u bs.length (b8 bs)):=hrow
   have HBN:aa (bs.length<=8796093022208):=by have:=HD.out.small;rw[aa];omega
   have HW9:aa (Below w6.heap.size w6 W9):=ar w6 _ _ HW8.out hb
   have HY0:=ac (au HY0.out hb)
   clear hb hbs hrow
   try go_simp
   refine hK.out _ W9 HW9.out (fun hHeld=>?_)
   clear hK K
   try simp only[Act.put,ps]
   refine rd 6 (fun K hK=>?_)
   go_simp
   refine (jF bs u rs W9 (js HBD.out) HBN.out).mono ?_
   rintro e W10 ⟨rfl,hb⟩
   obtain⟨oc,hoc⟩:=nm (vickOf bs rs)
   rw[<-hoc]
   obtain⟨o1,o2,o3⟩:=oc
   have HW10:aa (Below w6.heap.size w6 W10):=ar w6 _ _ HW9.out hb
   have HY0:=ac (au HY0.out hb)
   clear hb hoc
   unfold iI
   try go_simp
   refine hK.out _ W10 HW10.out (fun hHeld=>?_)
   clear hK K
   try simp only[Act.put,ps]
   refine rd 8 (fun K hK=>?_)
   refine cY rfl 46 _ _ rfl Y #[.int .i64 o1,.int .i64 o2,.int .u64 o3] rfl rfl 46 _ HY0.out (by kernel_rfl) rfl (by simp[Value.oneCell']) ?_
   obtain⟨W11,hW⟩:=nm (W10.setRow Y #[.int .i64 o1,.int .i64 o2,.int .u64 o3])
   have HYE:aa (W11.heap[Y]?=some (.cells #[.int .i64 o1,.int .i64 o2,.int .u64 o3] 46 (0,0))):=by rw[hW];exact setRow_heap W10 Y _ _ _ _ HY0.out
   have HW11:aa (Below w6.heap.size w6 W11):=aB HW10.out (by rw[hW];exact aI (K:=(·≠Y)) W10 Y _ (fun h=>h rfl)) (fun j hj e=>by have:=HYL.out;omega)
   rw[<-hW]
   clear hW
   refine hK.out _ W11 HW11.out (fun hHeld=>?_)
   clear hK K
   try simp only[Act.put,ps]
   refine wpAnyH_done (by kernel_rfl) ?_ _
   clear hHeld
   apply_assumption
   go_meet
   case rel=>exact⟨Y,(o1,o2,o3),rfl,HYL.out,HW11.out,HYE.out⟩
 case rest=>
 obtain⟨Y,⟨o1,o2,o3⟩,rfl,HY⟩:=hcut
 obtain⟨w7,hw7⟩:=nm (wc)
 rw[<-hw7] at HY ⊢
 clear hw7 wc x1 krs
 have HY7:aa (w7.heap[Y]?=some (.cells #[.int .i64 o1,.int .i64 o2,.int .u64 o3] 46 (0,0))):=HY.out.2.2
 have HN7:aa (Below w.heap.size w w7):=ar w _ _ HN6.out HY.out.2.1
 have HR7:=ac (HR6.out.new HY.out.2.1)
 have HO1:aa ((prog.info? 46).map (·.size)=some (#[.int .i64 o1,.int .i64 o2,.int .u64 o3]:Array Value).size):=by rw[aa];kernel_rfl
 clear HY
 go_upto_region 25 with (first
  | (refine wpList_load_row (by rfl) _ _ rfl Y rfl _ #[.int .i64 o1,.int .i64 o2,.int .u64 o3] (0,0) _ HY7.out underlying46 rfl HO1.out ?_)
  | (refine wpList_store_row rfl _ _ _ rfl w7.heap.size #[.int .i64 o1,.int .i64 o2,.int .u64 o3] rfl rfl 46 _ (ax w7 _) HO1.out rfl rfl ?_;rw[World.setRow_alloc_new])
  | fail)
 obtain⟨Z,hZ⟩:=nm (w7.heap.size)
 obtain⟨w8,hw8⟩:=nm (w7.alloc (.cells #[.int .i64 o1,.int .i64 o2,.int .u64 o3] 46))
 have hb8:Below w7.heap.size w7 w8:=by rw[hw8];exact af _ _
 have HZ8:aa (w8.heap[Z]?=some (.cells #[.int .i64 o1,.int .i64 o2,.int .u64 o3] 46 (0,0))):=by rw[hw8,hZ];exact ax _ _
 have HY8:=ac (au HY7.out hb8)
 have HN8:aa (Below w.heap.size w w8):=ar w _ _ HN7.out hb8
 have HR8:=ac (HR7.out.new hb8)
 have HZL:aa (Z≠Y/\Z≠L/\w.heap.size<=Z):=by rw[hZ];exact⟨Ne.symm (Nat.ne_of_lt (aK HY7.out)),Ne.symm (Nat.ne_of_lt HR7.out.lt),HN7.out.size⟩
 rw[<-hw8,<-hZ]
 clear hw8 hZ hb8 HY7 HN7 HR7
 have y0:w8.cell? ⟨Y,0,none⟩=some (.int .i64 o1):=aq HY8.out 0
 have z0:w8.cell? ⟨Z,0,none⟩=some (.int .i64 o1):=aq HZ8.out 0
 have f0:=aL HZ8.out 0
 by_cases h2:o1=2
 ·have b2:(o1==2)=true:=by simpa using h2
  clear h2
  go_upto_region 27 with fail
  obtain⟨w9,hw9⟩:∃z,z=w8.setCell ⟨Z,0,none⟩ (.int .i64 4):=⟨_,rfl⟩
  have hk9:am (·≠Z) w8 w9:=by rw[hw9];exact (am.refl _ _).setCell (p:=⟨Z,0,none⟩) (.inr (fun h=>h rfl)) _
  have HZ9:aa (w9.heap[Z]?=some (.cells #[.int .i64 4,.int .i64 o2,.int .u64 o3] 46 (0,0))):=by rw[hw9];exact aH HZ8.out 0 _
  have HY9:=ac (aw HY8.out hk9 HZL.out.1.symm)
  have HR9:=ac (HR8.out.keeps hk9 HZL.out.2.1.symm)
  have HN9:aa (Below w.heap.size w w9):=aB HN8.out hk9 (fun j hj e=>by have:=HZL.out.2.2;omega)
  rw[<-hw9]
  clear hw9 hk9 b2 y0 z0 f0 HZ8 HY8 HR8 HN8
  have HCMP:=ac (o8 HERV.out HR9.out HY9.out HZ9.out)
  obtain⟨s,x,p,y1,y2,⟨d40,d41,d42⟩,⟨a0,a1,a2⟩,⟨q0,q1,q2⟩,heq1,heq2⟩:=HCMP.out
  by_cases g1:go=du
  case neg=>
   have e1:(go==du)=false:=by simpa using g1
   clear g1
   go_wp2_with fail
   go_ret
   exact⟨_,rfl,HN9.out,fun _=>HCP.out⟩
  have e1:(go==du)=true:=by simpa using g1
  clear g1
  cases y1 with
  | true=>
   go_wp2_with fail
   go_ret
   exact⟨_,rfl,HN9.out,fun _=>HCP.out⟩
  | false=>
   go_wp2_with fail
   go_ret
   exact⟨_,rfl,HN9.out,fun _=>HCP.out⟩
 ·have b2:(o1==2)=false:=by simpa using h2
  clear h2
  go_upto_region 27 with fail
  obtain⟨w9,hw9⟩:=nm (w8)
  have HZ9:aa (w9.heap[Z]?=some (.cells #[.int .i64 o1,.int .i64 o2,.int .u64 o3] 46 (0,0))):=by rw[hw9];exact HZ8.out
  have HY9:aa (w9.heap[Y]?=some (.cells #[.int .i64 o1,.int .i64 o2,.int .u64 o3] 46 (0,0))):=by rw[hw9];exact HY8.out
  have HR9:aa (ah w9 L rv):=by rw[hw9];exact HR8.out
  have HN9:aa (Below w.heap.size w w9):=by rw[hw9];exact HN8.out
  rw[<-hw9]
  clear hw9 b2 y0 z0 f0 HZ8 HY8 HR8 HN8
  have HCMP:=ac (o8 HERV.out HR9.out HY9.out HZ9.out)
  obtain⟨s,x,p,y1,y2,⟨d40,d41,d42⟩,⟨a0,a1,a2⟩,⟨q0,q1,q2⟩,heq1,heq2⟩:=HCMP.out
  clear heq1
  by_cases g1:go=du
  case neg=>
   have e1:(go==du)=false:=by simpa using g1
   clear g1
   go_wp2_with fail
   go_ret
   exact⟨_,rfl,HN9.out,fun _=>HCP.out⟩
  have e1:(go==du)=true:=by simpa using g1
  clear g1
  cases y2 with
  | true=>
   go_wp2_with fail
   go_ret
   exact⟨_,rfl,HN9.out,fun _=>HCP.out⟩
  | false=>
   go_wp2_with fail
   go_ret
   exact⟨_,rfl,HN9.out,fun _=>HCP.out⟩
open Go.RowKit
theorem vu (rv:RecV) (d:RecD) (hk:¬(1<=d.kind/\d.kind<=6)) (w:World) (h:bu w rv d):
  Calls prog 53 #[.agg (ae rv)] w fun e w'=>e=.returned (.bool false)/\Below w.heap.size w w':=by
 obtain⟨L,hL⟩:=nm (w.heap.size)
 obtain⟨w0,hw0⟩:=nm (w.alloc (.cells (ae rv) 49))
 have HN0:aa (Below w.heap.size w w0):=by rw[hw0];exact af _ _
 have HR0:aa (ah w0 L rv):=by rw[hw0,hL];exact ah.box _ _
 obtain⟨k,hkk⟩:=nm (d.kind)
 rw[<-hkk] at hk
 have HRK:aa (rv.kind=k):=by obtain⟨b,l,o,e,_⟩:=h;rw[aa,hkk,e];rfl
 have c0:w0.cell? ⟨L,0,none⟩=some (.int .i64 k):=by rw[<-HRK.out];exact HR0.out.kind
 clear h hkk
 by_cases h1:k<1
 ·have e1:decide (k<1)=true:=decide_eq_true h1
  clear hk
  go_enter func53,ntmps53
  go_upto_region 1 with fail
  rw[<-hw0,<-hL]
  clear hw0 hL
  go_quiet (fail)
  have HB:aa (Below w.heap.size w (w0.drewN nq)):=ar w _ _ HN0.out (ay _ _)
  clear c0
  generalize w0.drewN nq=w1 at HB ⊢
  go_wp2_with fail
  go_ret
  exact⟨rfl,HB.out⟩
 ·have e1:decide (k<1)=false:=decide_eq_false h1
  have h6:6<k:=by omega
  have e6:decide (6<k)=true:=decide_eq_true h6
  clear hk
  go_enter func53,ntmps53
  go_upto_region 1 with fail
  rw[<-hw0,<-hL]
  clear hw0 hL
  go_quiet (fail)
  have HB:aa (Below w.heap.size w (w0.drewN nq)):=ar w _ _ HN0.out (ay _ _)
  clear c0
  generalize w0.drewN nq=w1 at HB ⊢
  go_wp2_with fail
  go_ret
  exact⟨rfl,HB.out⟩
theorem tr (rv:RecV) (d:RecD) (ho:d.ok) (w:World) (h:bu w rv d):
  Calls prog 53 #[.agg (ae rv)] w fun e w'=>e=.returned (.bool (cF d))/\Below w.heap.size w w':=by
 by_cases hk:1<=d.kind/\d.kind<=6
 ·rw[<-xW d hk]
  exact xY rv d hk ho.len ho.rows w h
 ·have e:cF d=false:=by
   cases hm:cF d with
   | false=>rfl
   | true=>exact absurd (dW hm) hk
  rw[e]
  exact vu rv d hk w h
def vv (w:World) (ds:List RecD) (d:RecD) (e:Ending) (w':World):Prop:=∃c:Int,e=.returned (.int .i64 c)/\Below w.heap.size w w'/\(c=0->cF d=true/\o7 ds d)
theorem o9 (w:World) (v:Value) (ds:List RecD) (h:aX w v ds) (hd:DW ds) (rv:RecV) (d:RecD) (hr:bu w rv d) (hok:d.ok):
  Calls prog 26 #[v,.agg (ae rv)] w (vv w ds d):=by
 have HD:=ac hd
 have HOK:=ac hok
 obtain⟨L,hL⟩:=nm (w.heap.size)
 obtain⟨w0,hw0⟩:=nm (w.alloc (.cells (ae rv) 49))
 have HN0:aa (Below w.heap.size w w0):=by rw[hw0];exact af _ _
 have HR0:aa (ah w0 L rv):=by rw[hw0,hL];exact ah.box _ _
 have HRA:aa (aX w0 v ds):=h.on HN0.out
 have HRR:aa (bu w0 rv d):=hr.on HN0.out
 have hi49:(prog.info? 49).map (·.size)=some (ae rv).size:=by rw[aj];kernel_rfl
 have HI49:=ac hi49
 clear h hr hok hd hi49
 go_enter func26,ntmps26
 go_upto_region 1 with fail
 rw[<-hw0,<-hL]
 clear hw0 hL
 go_wp2_with (first
  | (refine wpList_load_row (by rfl) _ _ rfl L rfl _ (ae rv) (0,0) _ HR0.out underlying49 rfl HI49.out ?_)
  | fail)
 refine (tr rv d HOK.out w0 HRR.out).mono ?_
 rintro e w1 ⟨rfl,hb1⟩
 have HB1:=ac hb1
 have HN1:aa (Below w.heap.size w w1):=ar w _ _ HN0.out hb1
 have HR1:=ac (HR0.out.new hb1)
 clear hb1
 cases hm:cF d with
 | false=>
  clear hm
  go_wp2_with fail
  go_ret
  exact⟨15,rfl,HN1.out,fun h=>by cases h⟩
 | true=>
  have HM:=ac hm
  clear hm
  go_wp2_with (first
   | (refine wpList_load_row (by rfl) _ _ rfl L rfl _ (ae rv) (0,0) _ HR1.out underlying49 rfl HI49.out ?_)
   | fail)
  refine (tp w1 v ds (HRA.out.on HB1.out) HD.out rv d (HRR.out.on HB1.out) HM.out HOK.out).mono ?_
  rintro e w2 ⟨b,rfl,hb2,hbb⟩
  have HN2:aa (Below w.heap.size w w2):=ar w _ _ HN1.out hb2
  have HBB:=ac hbb
  clear hb2 hbb
  cases b with
  | false=>
   go_wp2_with fail
   go_ret
   exact⟨22,rfl,HN2.out,fun h=>by cases h⟩
  | true=>
   go_wp2_with fail
   go_ret
   exact⟨0,rfl,HN2.out,fun _=>⟨HM.out,HBB.out (by first | rfl | trivial)⟩⟩
