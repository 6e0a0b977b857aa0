/- seal's scheme of sums: Sum, Commit, Opens, walked; what opens a mark by sums, plain. Printed by wip/gen/msl3.py. -/
import Derived.Test.YtfnekbfcndkjeaaGreatDoorZMslf
import Derived.Lib.SlBytesConst
set_option maxHeartbeats 4000000
set_option maxRecDepth 100000
set_option linter.all false
namespace Go.Proofs.YtfnekbfcndkjeaaGreatDoor
open Go.Proofs.Tryz Go.RowKit
def eQ:List Int:=[99,111,110,115,105,103,110]
def fi (r c b x:Int):List Int:=(((eQ++cH r)++cH c)++cH b)++cH x
def pg (r c b x:Int):Array Value:=#[.int .i64 r,.int .i64 c,.int .u64 b,.int .u64 x]
theorem vG {w:World} {base n g cap:Nat} {l:List Int} (h:w.ownsRow base 5 1 (.slice (some ⟨g,0,none⟩) n cap) l.length (bF l)):gz w g l:=by
 rcases h.2 with ⟨e,_⟩ | ⟨g',cap',cur,e,_,hh,_,_,_,htk⟩
 ·cases e
 ·have hg:g=g':=by injection e with e;injection e with e;injection e
  subst hg
  refine⟨fun j hj=>?_,fun j hj=>aL hh j⟩
  rw[aq hh]
  have e2:(bF l)[j]?=some (.int .u8 (l.getD j 0)):=by
   rw[bF,List.getElem?_map,List.getElem?_eq_getElem hj,List.getD_eq_getElem?_getD,List.getElem?_eq_getElem hj]
   rfl
  rw[<-htk,List.getElem?_take_of_lt (by omega)] at e2
  simpa using e2
theorem vH {P:Program} {ops:Array Oper} {o:Oper} {a:Act} {K:Act->World->Prop} {Q:Exit->Act->World->Prop} {E':Prop} {w w1:World} (hgd:Region.wanted o (yielded ops a.tmps)=true) (v:Value) (hr:(execOp a.eval o).run P w=.ok (.value v) w1) (h:K (a.put o.dst v) w1):
  if Region.wanted o (yielded ops a.tmps)=true then Oper.wp P o a w K Q else E':=by
 rw[if_pos hgd]
 unfold Oper.wp
 rw[hr]
 exact h
theorem vI (ρ:Operand->Value) (o:Oper) (s t:TypeId) (x:Operand) (ho:o.op=.convert s t x) (w w1:World) (v:Value) (hc:(convert s t (ρ x)).run prog w=.ok v w1):(execOp ρ o).run prog w=.ok (.value v) w1:=by
 unfold execOp
 simp only[ho]
 simp[hc]
theorem tv {w:World} {g:Nat} {C:Array Value} {t:TypeId} {fr:Nat × Nat} (h:w.heap[g]?=some (.cells C t fr)) (j:Nat):w.cell? ⟨g,j,none⟩=C[j]? :=by
 unfold World.cell?
 rw[h]
 simp
theorem tw (r c b x:Int) (hr:0<=r/\r<=1000000000) (hc:0<=c/\c<=1000000) (hb:0<=b/\b<=18446744073709551615) (hx:0<=x/\x<=18446744073709551615) (w:World):
  Calls prog 156 #[.agg (pg r c b x)] w fun e w'=>e=.returned (.string (strOfNums (fi r c b x)))/\Below w.heap.size w w':=by
 unfold pg
 obtain⟨L,hL⟩:=nm (w.heap.size)
 obtain⟨w0,hw0⟩:=nm (w.alloc (.cells #[.int .i64 r,.int .i64 c,.int .u64 b,.int .u64 x] 58))
 have HN0:aa (Below w.heap.size w w0):=by rw[hw0];exact af _ _
 have HL0:aa (w0.heap[L]?=some (.cells #[.int .i64 r,.int .i64 c,.int .u64 b,.int .u64 x] 58 (0,0))):=by rw[hw0,hL];exact ax _ _
 have HLS:aa (w0.heap.size=L + 1):=by rw[aa,hw0,hL];simp
 have HLW:aa (L=w.heap.size):=hL
 go_enter func156,ntmps156
 go_upto_region 1 with fail
 rw[<-hw0,<-hL]
 clear hw0 hL
 refine wp_region_held_drew (S:=fun W=>W.heap[L]?=some (.cells #[.int .i64 r,.int .i64 c,.int .u64 b,.int .u64 x] 58 (0,0))) (by kernel_rfl) (HL0.out) (fun hHeld=>?_)
 refine ts 2 (.pointer (some ⟨L,0,none⟩)) hHeld ?_
 try simp only[Act.put,ps]
 refine tk 3 (.int .i64 r) hHeld ?_ ?_
 ·intro W hSw
  have c0:=aq hSw 0
  go_simp
 try simp only[Act.put,ps]
 refine ts 5 (.pointer (some ⟨L,1,none⟩)) hHeld ?_
 try simp only[Act.put,ps]
 refine tk 6 (.int .i64 c) hHeld ?_ ?_
 ·intro W hSw
  have c0:=aq hSw 1
  go_simp
 try simp only[Act.put,ps]
 refine rd 0 (fun K hK=>?_)
 go_simp
 obtain⟨C,hC⟩:∃C:Array Value,C=(bF eQ).toArray:=⟨_,rfl⟩
 have hCs:C.size=7:=by rw[hC];rfl
 have kcv:=Go.Lib.run_convert_bytes_const (P:=prog) w0.drew 22 5 C 7 7 underlying22 underlying5
 have HCC:=ac hC
 have HLa:aa ((w0.drew.alloc (.cells C 5)).heap[L]?=some (.cells #[.int .i64 r,.int .i64 c,.int .u64 b,.int .u64 x] 58 (0,0))):=au HL0.out (aD (aA w0) (af _ _))
 refine hK.out _ (w0.drew.alloc (.cells (bF eQ).toArray 5)) (by rw[<-hC];exact HLa.out) (fun hHeld=>?_)
 clear hK K
 rw[<-hC] at hHeld ⊢
 try simp only[Act.put,ps]
 refine rd 1 (fun K hK=>?_)
 refine vH (by rfl) _ (vI _ _ 22 22 (.tmp 4) rfl _ _ _ kcv) ?_
 obtain⟨w1,hw1⟩:=nm (w0.drew.alloc (.cells C 5 (C.size,C.size + 1)))
 have HB1:aa (Below w0.heap.size w0 w1):=by rw[hw1];exact aD (aA w0) (af _ _)
 obtain⟨g1,hg1⟩:=nm (w0.drew.heap.size)
 have HO1:aa (∀ j u,(bF eQ)[j]?=some u->w1.cell? ⟨g1,j,none⟩=some u):=fun j u hu=>by
  have hh:w1.heap[g1]?=some (.cells C 5 (C.size,C.size + 1)):=by rw[hw1,hg1];exact ax w0.drew _
  rw[tv hh,HCC.out,<-hu]
  simp
 have HL1:aa (w1.heap[L]?=some (.cells #[.int .i64 r,.int .i64 c,.int .u64 b,.int .u64 x] 58 (0,0))):=au HL0.out HB1.out
 have HS1:aa (L + 1<=w1.heap.size):=by have:=HB1.out.size;have:=HLS.out;rw[aa];omega
 rw[<-hw1,<-hg1]
 clear hw1 hg1 hC hCs kcv HLa
 refine hK.out _ w1 HL1.out (fun hHeld=>?_)
 clear hK K
 try simp only[Act.put,ps]
 refine rd 4 (fun K hK=>?_)
 go_simp
 refine (AS (L + 1) g1 7 eQ rfl (by decide) r hr _ HS1.out HO1.out).mono ?_
 rintro e w2 ⟨v2,rfl,hv2,hk2⟩
 obtain⟨l2,hl2⟩:=nm (eQ++cH r)
 rw[<-hl2] at hv2
 have hb2:l2.length<=1000:=by rw[hl2,List.length_append];have:(cH r).length=8:=(by simp[cH]);have h2:eQ.length<=100:=(by decide);omega
 have hc2:l2.length<=15:=by have h3:eQ.length=7:=rfl;rw[hl2,List.length_append,show (cH r).length=8 by simp[cH]];omega
 have HLE2:=ac hl2
 obtain⟨a2,c2',rfl,_⟩:=az hv2
 have HO2:=ac hv2
 have HL2:aa (w2.heap[L]?=some (.cells #[.int .i64 r,.int .i64 c,.int .u64 b,.int .u64 x] 58 (0,0))):=aw HL1.out hk2 (Nat.lt_succ_self L)
 have HS2:aa (L + 1<=w2.heap.size):=Nat.le_trans HS1.out hk2.size
 have HK2:=ac hk2
 clear hv2 hk2 hl2
 refine hK.out _ _ HL2.out (fun hHeld=>?_)
 clear hK K
 try simp only[Act.put,ps]
 refine rd 7 (fun K hK=>?_)
 go_simp
 refine (AD (L + 1) l2 hb2 c hc _ _ HS2.out HO2.out).mono ?_
 rintro e w3 ⟨v3,rfl,hv3,hk3⟩
 obtain⟨l3,hl3⟩:=nm (l2++cH c)
 rw[<-hl3] at hv3
 have hb3:l3.length<=1000:=by rw[hl3,List.length_append];have:(cH c).length=8:=(by simp[cH]);have h2:l2.length<=100:=(by omega);omega
 have hc3:l3.length<=23:=by have h3:l2.length<=15:=hc2;rw[hl3,List.length_append,show (cH c).length=8 by simp[cH]];omega
 have HLE3:=ac hl3
 obtain⟨a3,c3',rfl,_⟩:=az hv3
 have HO3:=ac hv3
 have HL3:aa (w3.heap[L]?=some (.cells #[.int .i64 r,.int .i64 c,.int .u64 b,.int .u64 x] 58 (0,0))):=aw HL2.out hk3 (Nat.lt_succ_self L)
 have HS3:aa (L + 1<=w3.heap.size):=Nat.le_trans HS2.out hk3.size
 have HK3:=ac hk3
 clear hv3 hk3 hl3
 refine hK.out _ _ HL3.out (fun hHeld=>?_)
 clear hK K
 try simp only[Act.put,ps]
 refine ts 8 (.slice a3 l3.length c3') hHeld ?_
 try simp only[Act.put,ps]
 refine wpAnyH_done (by kernel_rfl) ?_ _
 clear hHeld
 go_upto_region 2 with fail
 refine wp_region_held_drew (S:=fun W=>W.heap[L]?=some (.cells #[.int .i64 r,.int .i64 c,.int .u64 b,.int .u64 x] 58 (0,0))) (by kernel_rfl) (HL3.out) (fun hHeld=>?_)
 refine ts 0 (.slice a3 l3.length c3') hHeld ?_
 try simp only[Act.put,ps]
 refine ts 1 (.pointer (some ⟨L,2,none⟩)) hHeld ?_
 try simp only[Act.put,ps]
 refine tk 2 (.int .u64 b) hHeld ?_ ?_
 ·intro W hSw
  have c0:=aq hSw 2
  go_simp
 try simp only[Act.put,ps]
 refine ts 4 (.pointer (some ⟨L,3,none⟩)) hHeld ?_
 try simp only[Act.put,ps]
 refine tk 5 (.int .u64 x) hHeld ?_ ?_
 ·intro W hSw
  have c0:=aq hSw 3
  go_simp
 try simp only[Act.put,ps]
 refine rd 3 (fun K hK=>?_)
 go_simp
 refine (xx (L + 1) l3 hb3 b hb _ _ (show L + 1<=w3.drew.heap.size from HS3.out) HO3.out.drew).mono ?_
 rintro e w4 ⟨v4,rfl,hv4,hk4⟩
 obtain⟨l4,hl4⟩:=nm (l3++cH b)
 rw[<-hl4] at hv4
 have hb4:l4.length<=1000:=by rw[hl4,List.length_append];have:(cH b).length=8:=(by simp[cH]);have h2:l3.length<=100:=(by omega);omega
 have hc4:l4.length<=31:=by have h3:l3.length<=23:=hc3;rw[hl4,List.length_append,show (cH b).length=8 by simp[cH]];omega
 have HLE4:=ac hl4
 obtain⟨a4,c4',rfl,_⟩:=az hv4
 have HO4:=ac hv4
 have HL4:aa (w4.heap[L]?=some (.cells #[.int .i64 r,.int .i64 c,.int .u64 b,.int .u64 x] 58 (0,0))):=aw (show w3.drew.heap[L]?=_ from HL3.out) hk4 (Nat.lt_succ_self L)
 have HS4:aa (L + 1<=w4.heap.size):=Nat.le_trans (show L + 1<=w3.drew.heap.size from HS3.out) hk4.size
 have HK4:=ac hk4
 clear hv4 hk4 hl4
 refine hK.out _ _ HL4.out (fun hHeld=>?_)
 clear hK K
 try simp only[Act.put,ps]
 refine rd 6 (fun K hK=>?_)
 go_simp
 refine (xx (L + 1) l4 hb4 x hx _ _ HS4.out HO4.out).mono ?_
 rintro e w5 ⟨v5,rfl,hv5,hk5⟩
 obtain⟨l5,hl5⟩:=nm (l4++cH x)
 rw[<-hl5] at hv5
 have hb5:l5.length<=1000:=by rw[hl5,List.length_append];have:(cH x).length=8:=(by simp[cH]);have h2:l4.length<=100:=(by omega);omega
 have hc5:l5.length<=39:=by have h3:l4.length<=31:=hc4;rw[hl5,List.length_append,show (cH x).length=8 by simp[cH]];omega
 have HLE5:=ac hl5
 obtain⟨a5,c5',rfl,_⟩:=az hv5
 have HO5:=ac hv5
 have HL5:aa (w5.heap[L]?=some (.cells #[.int .i64 r,.int .i64 c,.int .u64 b,.int .u64 x] 58 (0,0))):=aw HL4.out hk5 (Nat.lt_succ_self L)
 have HS5:aa (L + 1<=w5.heap.size):=Nat.le_trans HS4.out hk5.size
 have HK5:=ac hk5
 clear hv5 hk5 hl5
 refine hK.out _ _ HL5.out (fun hHeld=>?_)
 clear hK K
 try simp only[Act.put,ps]
 obtain⟨_,_,e5,_,hx5⟩:=az HO5.out
 have h40:0<l5.length:=by rw[HLE5.out,List.length_append];simp[cH]
 obtain⟨g5,ea5,_⟩:=hx5 h40
 obtain rfl:a5=some ⟨g5,0,none⟩:=by injection e5 with e5;exact e5.trans ea5
 have kc:=m7 g5 l5 l5.length c5' rfl w5 (vG HO5.out)
 clear e5 hx5 h40
 refine rd 7 (fun K hK=>?_)
 go_simp
 refine hK.out _ _ HL5.out (fun hHeld=>?_)
 clear hK K
 try simp only[Act.put,ps]
 refine ts 8 (.string (strOfNums l5)) hHeld ?_
 try simp only[Act.put,ps]
 refine wpAnyH_done (by kernel_rfl) ?_ _
 clear hHeld kc
 go_wp2_with fail
 go_ret
 refine⟨by rw[fi,<-HLE2.out,<-HLE3.out,<-HLE4.out,<-HLE5.out];rfl,HN0.out.trans ?_⟩
 have k:am (fun k=>k<L + 1) w0 w5:=(ak HB1.out _).trans ((HK2.out.trans HK3.out).trans ((am.refl _ w3).drew.trans (HK4.out.trans HK5.out)))
 exact (k.mono (K':=fun k=>k<w.heap.size) (fun k _ h=>by have:=HLW.out;omega)).below HN0.out.size
def jy (z:S8):List Int:=(List.range 32).map (fQ z)
theorem rA (z:S8):bL z=((jy z).map (Value.int .u8)).toArray:=by
 apply Array.ext
 ·simp[bL,jy]
 ·intro i h1 h2
  simp[bL,jy]
theorem ph (z:S8):(jy z).length=32:=by simp[jy]
def fK (F:S8) (kf:Nat->Int) (mark:List Int) (d:RecD):Bool:=decide (∀ j∈List.range 32,(jy (jH kf F (strOfNums (fi d.round d.carrier d.bid d.nonce)))).getD j 0=mark.getD j 0)
theorem rB (r c b x:Int):(fi r c b x).length=39:=by simp[fi,cH,eQ]
theorem gI {w:World} {g:Nat} {R:Array Value} {t:TypeId} (h:w.heap[g]?=some (.cells R t (0,0))):w.rangeAt g 0 R.toList:=fun j u hu=>by
 rw[Nat.zero_add,aq h]
 simpa using hu
theorem rC (dl:List Int) (j:Nat) (hj:j<dl.length):(dl.map (Value.int .u8)).toArray[j]?=some (.int .u8 (dl.getD j 0)):=by
 rw[List.getElem?_toArray,List.getElem?_map,List.getElem?_eq_getElem hj,List.getD_eq_getElem?_getD,List.getElem?_eq_getElem hj]
 rfl
theorem ge {P:Program} {c:Code} {Q:Exit->Act->World->Prop} {a:Act} {w w':World} (e:w'=w) (h:Code.wp P c Q a w'):Code.wp P c Q a w:=e ▸ h
structure tx (r c b x:Int):Prop where
 r:0<=r/\r<=1000000000
 c:0<=c/\c<=1000000
 b:0<=b/\b<=18446744073709551615
 x:0<=x/\x<=18446744073709551615
theorem rD (r c b x:Int) (h:tx r c b x) (F:S8) (kf:Nat->Int) (kk:Array Value) (w:World) (ht:cV F kf kk w):
  Calls prog 153 #[.agg #[],.agg #[.int .i64 r,.int .i64 c,.int .u64 b,.int .u64 x]] w fun e w'=>e=.returned (.agg ((jy (jH kf F (strOfNums (fi r c b x)))).map (Value.int .u8)).toArray)/\Below w.heap.size w w':=by
 obtain⟨L,hL⟩:=nm (w.heap.size)
 obtain⟨w0,hw0⟩:∃z,z=((w.alloc (.cells #[] 95)).alloc (.cells #[.int .i64 r,.int .i64 c,.int .u64 b,.int .u64 x] 58)).alloc (.cells nh 43):=⟨_,rfl⟩
 have hs1:(w.alloc (.cells #[] 95)).heap.size=L + 1:=by rw[hL];simp
 have hs2:((w.alloc (.cells #[] 95)).alloc (.cells #[.int .i64 r,.int .i64 c,.int .u64 b,.int .u64 x] 58)).heap.size=L + 2:=by rw[hL];simp
 have HQ0:aa (w0.heap[L + 1]?=some (.cells #[.int .i64 r,.int .i64 c,.int .u64 b,.int .u64 x] 58 (0,0))):=by rw[hw0,<-hs1];exact au (ax _ _) (af _ _)
 have HZ0:aa (w0.heap[L + 2]?=some (.cells nh 43 (0,0))):=by rw[hw0,<-hs2];exact ax _ _
 have HN0:aa (Below w.heap.size w w0):=by rw[hw0];exact ar w _ _ (ar w _ _ (af _ _) (af _ _)) (af _ _)
 have HT0:aa (cV F kf kk w0):=ht.on HN0.out
 have HH:=ac h
 have HLW:aa (w.heap.size<=L + 2):=by rw[aa,<-hL];omega
 have HI4:aa ((prog.info? 58).map (·.size)=some (#[.int .i64 r,.int .i64 c,.int .u64 b,.int .u64 x]:Array Value).size):=by rw[aa];kernel_rfl
 clear h ht hs1 hs2
 go_enter func153,ntmps153
 go_upto_region 1 with fail
 refine ge (hw0.trans (by rw[nh];rfl)) ?_
 rw[<-hL]
 clear hw0 hL
 go_wp2_with (first
  | (refine wpList_load_row rfl _ _ rfl (L + 1) rfl _ #[.int .i64 r,.int .i64 c,.int .u64 b,.int .u64 x] (0,0) _ HQ0.out underlying58 rfl HI4.out ?_)
  | fail)
 refine (tw r c b x HH.out.r HH.out.c HH.out.b HH.out.x w0).mono ?_
 rintro e w1 ⟨rfl,hb1⟩
 have HN1:=ac (ar w _ _ HN0.out hb1)
 have HT1:=ac (HT0.out.on hb1)
 have HZ1:=ac (au HZ0.out hb1)
 clear hb1
 obtain⟨t,ht⟩:=nm (strOfNums (fi r c b x))
 have HTS:aa (t.size<=9223372036854775807):=by rw[aa,ht,strOfNums_size,rB];decide
 rw[<-ht]
 have HTE:=ac ht
 clear ht
 go_wp2_with fail
 refine (yP t HTS.out F kf kk w1 HT1.out).mono ?_
 rintro e w2 ⟨rfl,hb2⟩
 rw[rA]
 obtain⟨l,hl⟩:=nm (jy (jH kf F t))
 have hll:l.length=32:=by rw[hl,ph]
 rw[<-hl]
 obtain⟨G,hG⟩:∃G:Array Value,G=(l.map (Value.int .u8)).toArray:=⟨_,rfl⟩
 have HGS:aa (G.size=32):=by rw[aa,hG];simpa using hll
 have HG1:aa (G.all (·.oneCell')=true):=by
  rw[aa,hG,Array.all_eq_true_iff_forall_mem]
  intro u hu
  obtain⟨z,_,rfl⟩:=List.mem_map.1 (by simpa using hu)
  rfl
 have HGI:aa ((prog.info? 43).map (·.size)=some G.size):=by rw[aa,HGS.out];kernel_rfl
 have HN2:=ac (ar w _ _ HN1.out hb2)
 have HZ2:=ac (au HZ1.out hb2)
 have HLE:=ac hl
 have HGE:=ac hG
 rw[<-hG]
 clear hb2 hl hll hG
 go_wp2_with (first
  | (refine wpList_store_row rfl _ _ _ rfl (L + 2) G rfl rfl 43 _ HZ2.out HGI.out (by rw[HGS.out];rfl) HG1.out ?_)
  | fail)
 refine bodyPost_ret (results_cell_row rfl _ _ (L + 2) 43 G (0,0) _ rfl (setRow_heap w2 (L + 2) _ _ _ _ HZ2.out) underlying43 rfl HGI.out) rfl ⟨by rw[HGE.out,HLE.out,HTE.out],?_⟩
 exact bZ HN2.out (aI w2 (L + 2) _ (fun h=>h rfl)) HLW.out
theorem tz (ml:List Int) (hml:ml.length=32) (r c b x:Int) (h:tx r c b x) (F:S8) (kf:Nat->Int) (kk:Array Value) (w:World) (ht:cV F kf kk w):
  Calls prog 154 #[.agg #[],.agg (ml.map (Value.int .u8)).toArray,.agg #[.int .i64 r,.int .i64 c,.int .u64 b,.int .u64 x]] w fun e w'=>
   e=.returned (.bool (decide (∀ j∈List.range 32,(jy (jH kf F (strOfNums (fi r c b x)))).getD j 0=ml.getD j 0)))/\Below w.heap.size w w':=by
 have HS:=ac h
 have HML:=ac hml
 have HTT:=ac ht
 obtain⟨D,hD⟩:∃D:Array Value,D=(ml.map (Value.int .u8)).toArray:=⟨_,rfl⟩
 have HD:=ac hD
 have hds:D.size=32:=by rw[hD];simpa using hml
 have HDZ:aa ((prog.info? 43).map (·.size)=some D.toList.length):=by rw[aa,Array.length_toList,hds];kernel_rfl
 rw[<-hD]
 clear h hD hds hml ht
 go_enter func154,ntmps154
 go_upto_region 1 with fail
 obtain⟨L,hL⟩:=nm (w.heap.size)
 obtain⟨w0,hw0⟩:∃z,z=((w.alloc (.cells #[] 95)).alloc (.cells D 43)).alloc (.cells #[.int .i64 r,.int .i64 c,.int .u64 b,.int .u64 x] 58):=⟨_,rfl⟩
 have hs1:(w.alloc (.cells #[] 95)).heap.size=L + 1:=by rw[hL];simp
 have hs2:((w.alloc (.cells #[] 95)).alloc (.cells D 43)).heap.size=L + 2:=by rw[hL];simp
 have HE:aa (w0.heap[L]?=some (.cells #[] 95 (0,0))):=by rw[hw0,hL];exact au (au (ax _ _) (af _ _)) (af _ _)
 have HX:aa (w0.heap[L + 1]?=some (.cells D 43 (0,0))):=by rw[hw0,<-hs1];exact au (ax _ _) (af _ _)
 have HQ:aa (w0.heap[L + 2]?=some (.cells #[.int .i64 r,.int .i64 c,.int .u64 b,.int .u64 x] 58 (0,0))):=by rw[hw0,<-hs2];exact ax _ _
 have HN:aa (Below w.heap.size w w0):=by rw[hw0];exact ar w _ _ (ar w _ _ (af _ _) (af _ _)) (af _ _)
 refine ge hw0 ?_
 rw[<-hL]
 clear hw0 hL hs1 hs2
 obtain⟨ec,hec⟩:∃z,z=([]:List Value):=⟨_,rfl⟩
 have HR0:aa (∀ W,Below w0.heap.size w0 W->W.rangeAt L 0 ec):=fun W hW=>by rw[hec];exact gI (au HE.out hW)
 have hi2:(prog.info? 95).map (·.size)=some ec.length:=by rw[hec];kernel_rfl
 have HEC:aa (ec.toArray=#[]):=by rw[aa,hec]
 obtain⟨dc,hdc⟩:=nm (D.toList)
 have HR1:aa (∀ W,Below w0.heap.size w0 W->W.rangeAt (L + 1) 0 dc):=fun W hW=>by rw[hdc];exact gI (au HX.out hW)
 have hi3:(prog.info? 43).map (·.size)=some dc.length:=by rw[hdc];exact HDZ.out
 have HDC:aa (dc.toArray=(ml.map (Value.int .u8)).toArray):=by rw[aa,hdc,Array.toArray_toList,HD.out]
 obtain⟨sc,hsc⟩:∃z,z=([.int .i64 r,.int .i64 c,.int .u64 b,.int .u64 x]:List Value):=⟨_,rfl⟩
 have HR2:aa (∀ W,Below w0.heap.size w0 W->W.rangeAt (L + 2) 0 sc):=fun W hW=>by rw[hsc];exact gI (au HQ.out hW)
 have hi4:(prog.info? 58).map (·.size)=some sc.length:=by rw[hsc];kernel_rfl
 have HSC:=ac hsc
 clear hdc hsc hec
 refine wp_region_held_drew (S:=fun W=>Below w0.heap.size w0 W) (by kernel_rfl) (aA _) (fun hHeld=>?_)
 refine tl 0 (.agg ec.toArray) rfl (yieldsIf_load_mid (by rfl) 95 (.tmp 3) rfl L 0 rfl ec _ (fun W hW=>HR0.out W hW) underlying95 rfl hi2) hHeld ?_
 try simp only[Act.put,ps]
 refine tl 1 (.agg sc.toArray) rfl (yieldsIf_load_mid (by rfl) 58 (.tmp 5) rfl (L + 2) 0 rfl sc _ (fun W hW=>HR2.out W hW) underlying58 rfl hi4) hHeld ?_
 try simp only[Act.put,ps]
 refine tl 3 (.agg dc.toArray) rfl (yieldsIf_load_mid (by rfl) 43 (.tmp 4) rfl (L + 1) 0 rfl dc _ (fun W hW=>HR1.out W hW) underlying43 rfl hi3) hHeld ?_
 try simp only[Act.put,ps]
 obtain⟨W0,hW0⟩:=nm (w0.drew)
 have HB0:aa (Below w0.heap.size w0 W0):=by rw[hW0];exact aA _
 rw[<-hW0] at hHeld ⊢
 clear hW0
 refine rd 2 (fun K hK=>?_)
 go_simp
 rw[HSC.out,HEC.out]
 refine (rD r c b x HS.out F kf kk W0 (HTT.out.on (ar w _ _ HN.out HB0.out))).mono ?_
 rintro e W1 ⟨rfl,hb⟩
 have HB1:aa (Below w0.heap.size w0 W1):=ar w0 _ _ HB0.out hb
 rw[<-HSC.out]
 obtain⟨el,hel⟩:=nm (jy (jH kf F (strOfNums (fi r c b x))))
 have hell:el.length=32:=by rw[hel,ph]
 rw[<-hel]
 obtain⟨y,hy⟩:∃y:Bool,y=decide (∀ j∈List.range 32,el.getD j 0=ml.getD j 0):=⟨_,rfl⟩
 have heq:∀W,(binOp .eql 43 (.agg (el.map (Value.int .u8)).toArray) (.agg dc.toArray)).run prog W=.ok (.bool y) W:=fun W=>by rw[HDC.out,hy];exact tG _ _ (fun j=>el.getD j 0) (fun j=>ml.getD j 0) (fun j hj=>rC el j (by rw[hell];exact hj)) (fun j hj=>rC ml j (by rw[HML.out];exact hj)) W
 obtain⟨E,hE⟩:∃E,E=(el.map (Value.int .u8)).toArray:=⟨_,rfl⟩
 rw[<-hE] at heq ⊢
 have HY:=ac hy
 have HEL:=ac hel
 clear hE hel hell hy
 clear hb
 try go_simp
 refine hK.out _ W1 HB1.out (fun hHeld=>?_)
 clear hK K
 try simp only[Act.put,ps]
 refine ts 4 (.bool y) hHeld ?_
 try simp only[Act.put,ps]
 refine ts 5 (.bool y) hHeld ?_
 try simp only[Act.put,ps]
 refine wpAnyH_done (by kernel_rfl) ?_ _
 clear hHeld
 apply_assumption
 go_wp2_with fail
 go_ret
 exact⟨by rw[<-HEL.out,<-HY.out];rfl,ar w _ _ HN.out HB1.out⟩
