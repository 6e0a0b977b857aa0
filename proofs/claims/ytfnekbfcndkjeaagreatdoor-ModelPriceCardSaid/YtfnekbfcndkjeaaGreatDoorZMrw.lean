/- The document's turned records, walked. Printed by wip/gen/mrw.py. -/
import Derived.Test.YtfnekbfcndkjeaaGreatDoorZMrw0
import Derived.Test.YtfnekbfcndkjeaaGreatDoorZTls0
set_option maxHeartbeats 8000000
set_option maxRecDepth 100000
set_option linter.all false
namespace Go.Proofs.YtfnekbfcndkjeaaGreatDoor
open Go.Proofs.Tryz Go.RowKit Go.Maps
def t8 (B:Nat) (w:World) (e:Ending) (w':World):Prop:=∃v ds,e=.returned v/\pd B w' v ds/\(∀ d∈ds,d.ok)/\ds.length<=60/\Below w.heap.size w w'
theorem dJ {ds:List RecD} {j:Nat} (hj:j<ds.length):ds.getD j {}∈ds:=by
 rw[List.getD_eq_getElem?_getD,List.getElem?_eq_getElem hj]
 exact List.getElem_mem _
theorem vJ {R:List RecV} {r:RecV} (h:r∈R):∃j,j<R.length/\R.getD j {}=r:=by
 obtain⟨j,hj,e⟩:=List.getElem_of_mem h
 exact⟨j,hj,by rw[List.getD_eq_getElem?_getD,List.getElem?_eq_getElem hj];exact e⟩
theorem rE (w:World) (x0 x1 x2:Int) (hx0:0<=x0/\x0<=255) (hx1:0<=x1/\x1<=255) (hx2:-32768<=x2/\x2<=32767) (B:Nat) (v:Value) (ds:List RecD) (h:dQ B w v ds) (hmy:∀d∈ds,cF d=true/\d.ok) (hl:ds.length<=52) (h00:0<ds.length) (hBW:B<=w.heap.size):
  Calls prog 11 #[.agg #[.int .u8 x0,.int .u8 x1,.int .i16 x2],v] w (t8 B w):=by
 obtain⟨R,hR1,hR2,hR3⟩:=h
 obtain⟨m,hm⟩:=nm (ds.length)
 rw[<-hm] at hR1 hR2 hl h00
 obtain⟨lb,lc,lcur,rfl,_,hlh,hlc,_⟩:=gU h00 hR2
 have hown:=nO hR2
 have HLR:aa (∀ j,j<m->w.rangeAt lb (j * 49) (ae (R.getD j {})).toList):=hown.2
 have HLB:aa (lb<w.heap.size):=aK hlh
 have HRM:aa (R.length=m):=hR1
 have HMD:aa (m=ds.length):=hm
 have HRA:aa (∀ j,j<m->bD B w (R.getD j {}) (ds.getD j {})):=fun j hj=>hR3 j (by rw[<-hm];exact hj)
 have HBW:=ac hBW
 have HONE:aa (∀ r∈R,(ae r).all (·.oneCell')=true):=fun r hr=>by
  obtain⟨j,hj,e⟩:=vJ hr
  rw[<-e]
  exact (hR3 j (by rw[<-hm];omega)).one
 have HMY:=ac hmy
 obtain⟨a,rfl⟩:∃a:Nat,x0=a:=Int.eq_ofNat_of_zero_le hx0.1
 obtain⟨b,rfl⟩:∃b:Nat,x1=b:=Int.eq_ofNat_of_zero_le hx1.1
 have wa:IntKind.i64.wrap (a:Int)=a:=IntWalk.i64_in _ (by omega)
 obtain⟨k,hk⟩:=nm (a % m)
 have hk1:(a:Int).tmod (m:Int)=(k:Int):=by rw[hk];rfl
 have hk2:(a:Int) % (m:Int)=(k:Int):=by rw[hk];rfl
 have hkm:k<m:=by rw[hk];exact Nat.mod_lt _ h00
 obtain⟨q,hq⟩:=nm (b % 20)
 have hq1:(b:Int).tmod 20=(q:Int):=by rw[hq];rfl
 have hq2:(b:Int) % 20=(q:Int):=by rw[hq];rfl
 have hq20:q<20:=by rw[hq];exact Nat.mod_lt _ (by decide)
 have hm0:((m:Int)==0)=false:=by simp;omega
 have hm00:¬(m:Int)=0:=by omega
 have hx1b:b<=255:=by omega
 clear hR1 hR2 hR3 hown hlh hm hk hq hx0 hx1 hBW
 obtain⟨L,hL⟩:=nm (w.heap.size)
 obtain⟨w0,hw0⟩:=nm (w.alloc (.cells #[.int .u8 (a:Int),.int .u8 (b:Int),.int .i16 x2] 27))
 have HS0:aa (w0.heap.size=L + 1):=by rw[aa,hw0,hL];simp
 have HLW:aa (L=w.heap.size):=hL
 have HN0:aa (Below w.heap.size w w0):=by rw[hw0];exact af _ _
 have HX0:aa (w0.heap[L]?=some (.cells #[.int .u8 (a:Int),.int .u8 (b:Int),.int .i16 x2] 27 (0,0))):=by rw[hw0,hL];exact ax _ _
 go_enter func11,ntmps11
 go_upto_region 1 with fail
 refine ge hw0 ?_
 rw[<-hL]
 clear hw0 hL
 go_upto_region 2 with (first
  | (refine iq rfl 29 0 [] rfl [] rfl _ (kY _) ?_)
  | (at_builtin;refine ms rfl _ _ rfl w0.heap.size _ 0 [] rfl (yh w0 _ (Nat.le_refl _)) (some ⟨lb,0,none⟩) m lc R rfl HRM.out HONE.out ?c1 ?c2 ?c3 ?_)
  | fail)
 case c1=>
  intro _
  refine⟨lb,0,rfl,fun j hj=>?_⟩
  rw[Nat.zero_add]
  exact ex (HLR.out j (by rw[<-HRM.out];exact hj)) HLB.out (ar w _ _ HN0.out (af _ _))
 case c2=>omega
 case c3=>simp
 intro v1 w1 hown hgr
 have HOWN0:aa (w1.ownsRow w0.heap.size 49 49 v1 m (cA R)):=by rw[aa];simpa using hown
 have hk1w:Below w0.heap.size w0 w1:=by
  have k:=(ak (af w0 (.cells #[] 49)) (·<w0.heap.size)).trans (aF hgr (·<w0.heap.size) (fun k hk=>Nat.not_lt.2 (Nat.le_of_eq (Option.some.inj (show some w0.heap.size=some k from hk)))))
  exact k.below (Nat.le_refl _)
 obtain⟨g,cap,cur,rfl,hgB,hgh,hgc,hgm,hgs,_⟩:=gU h00 HOWN0.out
 have HOWN:=HOWN0
 have HG:aa (w1.heap[g]?=some (.cells cur 49 (0,0))/\w0.heap.size<=g):=⟨hgh,hgB⟩
 have HN1:aa (Below w.heap.size w w1):=ar w _ _ HN0.out hk1w
 have HX1:aa (w1.heap[L]?=some (.cells #[.int .u8 (a:Int),.int .u8 (b:Int),.int .i16 x2] 27 (0,0))):=au HX0.out hk1w
 clear hown hgr hk1w hgh hgB hgs hgm HOWN0
 have c0:w1.cell? ⟨L,0,none⟩=some (.int .u8 (a:Int)):=aq HX1.out 0
 have c1:w1.cell? ⟨L,1,none⟩=some (.int .u8 (b:Int)):=aq HX1.out 1
 go_upto_region 7 with fail
 clear c0 wa hk1 hk2 hm0 hm00
 have hkc:k + 1<=cap:=by omega
 have wk:IntKind.i64.wrap ((k:Int) + 1)=(k:Int) + 1:=IntWalk.i64_in _ (by omega)
 have HFIN:aa (∀ W v' (R':List RecV) (ds':List RecD) n,W.ownsRow w0.heap.size 49 49 v' n (cA R')->R'.length=ds'.length->n=ds'.length->(∀ j,j<ds'.length->∃i,i<m/\R'.getD j {}=R.getD i {}/\ds'.getD j {}=ds.getD i {})->ds'.length<=60->Below w.heap.size w W->t8 B w (.returned v') W):=by
  intro W v' R' ds' n ho h1 h2 h3 h4 hb
  refine⟨v',ds',rfl,pf h1 h2 (Nat.le_trans HBW.out HN0.out.size) ho (fun j hj=>?_),fun d hd=>?_,h4,hb⟩
  ·obtain⟨i,hi,e1,e2⟩:=h3 j hj
   rw[e1,e2]
   exact (HRA.out i hi).on hb
  ·obtain⟨j,hj,e⟩:=List.getElem_of_mem hd
   obtain⟨i,hi,_,e2⟩:=h3 j hj
   rw[List.getD_eq_getElem?_getD,List.getElem?_eq_getElem hj] at e2
   have e3:ds'[j]=ds.getD i {}:=e2
   rw[<-e,e3]
   exact (HMY.out _ (dJ (by rw[<-HMD.out];exact hi))).2
 by_cases h16:q=16
 ·subst h16
  go_upto_region 8 with fail
  have HSZ1:aa (w0.heap.size<=w1.drew.heap.size):=by have:=aK HG.out.1;have:=HG.out.2;show w0.heap.size<=w1.heap.size;omega
  have fA:¬(cap:Int)<(k:Int):=by omega
  have fB:¬(m:Int)<(k:Int) + 1:=by omega
  have fF:¬cap<k:=by omega
  have fG:¬m<k + 1:=by omega
  have fD:¬(k:Int) + 1<0:=by omega
  have fE:¬(k:Int)<0:=by omega
  have fC:¬(k:Int) + 1<(k:Int):=by omega
  by_cases hcap:cap=k + 1
  ·have hcc:(k + 1==cap)=true:=by simpa using hcap.symm
   have hcd:(cap==k + 1)=true:=by simpa using hcap
   refine wp_region_held_drew (S:=fun W=>True) (by kernel_rfl) (trivial) (fun hHeld=>?_)
   refine ts 0 (.slice (some ⟨g,0,none⟩) m cap) hHeld ?_
   try simp only[Act.put,ps]
   refine ts 1 (.int .i64 (k:Int)) hHeld ?_
   try simp only[Act.put,ps]
   refine ts 2 (.slice (some ⟨g,0,none⟩) k cap) hHeld ?_
   try simp only[Act.put,ps]
   refine ts 3 (.slice (some ⟨g,0,none⟩) m cap) hHeld ?_
   try simp only[Act.put,ps]
   refine ts 4 (.int .i64 (k:Int)) hHeld ?_
   try simp only[Act.put,ps]
   refine ts 5 (.int .i64 ((k:Int) + 1)) hHeld ?_
   try simp only[Act.put,ps]
   refine ts 6 (.slice (some ⟨g,0,none⟩) (m - (k + 1)) (cap - (k + 1))) hHeld ?_
   try simp only[Act.put,ps]
   refine rd 7 (fun K hK=>?_)
   refine aU rfl _ _ rfl w0.heap.size _ k (R.take k) rfl ((nP HOWN.out (by omega)).drew) _ (m - (k + 1)) _ (R.drop (k + 1)) rfl ?_ ?_ ?_ ?_ HSZ1.out ?_
   ·rw[List.length_drop,HRM.out]
   ·exact fun r hr=>HONE.out r (List.mem_of_mem_drop hr)
   ·intro h0;exact absurd h0 (by omega)
   ·omega
   intro v2 w2 hown2 hgr2
   have HB2:aa (Below w.heap.size w w2):=by
    have k9:=(ak (aA w1) (·<w0.heap.size)).trans (aF hgr2 (·<w0.heap.size) (fun k hk=>by obtain rfl:=Option.some.inj (show some g=some k from hk);exact Nat.not_lt.2 HG.out.2))
    exact aB HN1.out k9 (fun j hj=>by have:=HS0.out;have:=HLW.out;omega)
   have HOW2:=ac hown2
   clear hown2 hgr2
   refine hK.out _ w2 trivial (fun hHeld=>?_)
   clear hK K
   try simp only[Act.put,ps]
   refine ts 8 (v2) hHeld ?_
   try simp only[Act.put,ps]
   refine wpAnyH_done (by kernel_rfl) ?_ _
   clear hHeld
   go_wp2_with fail
   go_ret
   refine HFIN.out _ _ (R.take k++R.drop (k + 1)) (ds.take k++ds.drop (k + 1)) _ HOW2.out ?_ ?_ ?_ ?_ HB2.out
   ·rw[List.length_append,List.length_append,List.length_take,List.length_take,List.length_drop,List.length_drop,HRM.out,<-HMD.out]
   ·rw[List.length_append,List.length_take,List.length_drop,<-HMD.out];omega
   ·intro j hj
    have hj2:j<m - 1:=by rw[List.length_append,List.length_take,List.length_drop,<-HMD.out] at hj;omega
    exact⟨if j<k then j else j + 1,by split <;> omega,kZ _ _ _ _ (by rw[HRM.out];omega),kZ _ _ _ _ (by rw[<-HMD.out];omega)⟩
   ·rw[List.length_append,List.length_take,List.length_drop,<-HMD.out];omega
  ·have hcc:(k + 1==cap)=false:=by simpa using Ne.symm hcap
   have hcd:(cap==k + 1)=false:=by simpa using hcap
   refine wp_region_held_drew (S:=fun W=>True) (by kernel_rfl) (trivial) (fun hHeld=>?_)
   refine ts 0 (.slice (some ⟨g,0,none⟩) m cap) hHeld ?_
   try simp only[Act.put,ps]
   refine ts 1 (.int .i64 (k:Int)) hHeld ?_
   try simp only[Act.put,ps]
   refine ts 2 (.slice (some ⟨g,0,none⟩) k cap) hHeld ?_
   try simp only[Act.put,ps]
   refine ts 3 (.slice (some ⟨g,0,none⟩) m cap) hHeld ?_
   try simp only[Act.put,ps]
   refine ts 4 (.int .i64 (k:Int)) hHeld ?_
   try simp only[Act.put,ps]
   refine ts 5 (.int .i64 ((k:Int) + 1)) hHeld ?_
   try simp only[Act.put,ps]
   refine ts 6 (.slice (some ⟨g,(k + 1) * 49,none⟩) (m - (k + 1)) (cap - (k + 1))) hHeld ?_
   try simp only[Act.put,ps]
   refine rd 7 (fun K hK=>?_)
   refine aU rfl _ _ rfl w0.heap.size _ k (R.take k) rfl ((nP HOWN.out (by omega)).drew) _ (m - (k + 1)) _ (R.drop (k + 1)) rfl ?_ ?_ ?_ ?_ HSZ1.out ?_
   ·rw[List.length_drop,HRM.out]
   ·exact fun r hr=>HONE.out r (List.mem_of_mem_drop hr)
   ·intro h0
    refine⟨g,(k + 1) * 49,rfl,fun j hj=>?_⟩
    rw[List.length_drop,HRM.out] at hj
    have:=(nO HOWN.out).2 (k + 1 + j) (by omega)
    rw[Nat.add_mul (k + 1) j] at this
    have e:(R.drop (k + 1)).getD j {}=R.getD (k + 1 + j) {}:=by rw[List.getD_eq_getElem?_getD,List.getElem?_drop,<-List.getD_eq_getElem?_getD]
    rw[e]
    exact ex this (aK HG.out.1) (aA w1)
   ·omega
   intro v2 w2 hown2 hgr2
   have HB2:aa (Below w.heap.size w w2):=by
    have k9:=(ak (aA w1) (·<w0.heap.size)).trans (aF hgr2 (·<w0.heap.size) (fun k hk=>by obtain rfl:=Option.some.inj (show some g=some k from hk);exact Nat.not_lt.2 HG.out.2))
    exact aB HN1.out k9 (fun j hj=>by have:=HS0.out;have:=HLW.out;omega)
   have HOW2:=ac hown2
   clear hown2 hgr2
   refine hK.out _ w2 trivial (fun hHeld=>?_)
   clear hK K
   try simp only[Act.put,ps]
   refine ts 8 (v2) hHeld ?_
   try simp only[Act.put,ps]
   refine wpAnyH_done (by kernel_rfl) ?_ _
   clear hHeld
   go_wp2_with fail
   go_ret
   refine HFIN.out _ _ (R.take k++R.drop (k + 1)) (ds.take k++ds.drop (k + 1)) _ HOW2.out ?_ ?_ ?_ ?_ HB2.out
   ·rw[List.length_append,List.length_append,List.length_take,List.length_take,List.length_drop,List.length_drop,HRM.out,<-HMD.out]
   ·rw[List.length_append,List.length_take,List.length_drop,<-HMD.out];omega
   ·intro j hj
    have hj2:j<m - 1:=by rw[List.length_append,List.length_take,List.length_drop,<-HMD.out] at hj;omega
    exact⟨if j<k then j else j + 1,by split <;> omega,kZ _ _ _ _ (by rw[HRM.out];omega),kZ _ _ _ _ (by rw[<-HMD.out];omega)⟩
   ·rw[List.length_append,List.length_take,List.length_drop,<-HMD.out];omega
 by_cases h17:q=17
 ·subst h17
  go_upto_region 10 with fail
  have hlm:=aK HG.out.1
  obtain⟨rk,hrk⟩:∃l:List Value,l=(ae (R.getD k {})).toList:=⟨_,rfl⟩
  have HLW1:aa (∀ W,Below w1.heap.size w1 W->∀j,j<m->W.rangeAt lb (j * 49) (ae (R.getD j {})).toList):=fun W hW j hj=>ex (HLR.out j hj) HLB.out (ar w _ _ HN1.out hW)
  have HRK:aa (∀ W,Below w1.heap.size w1 W->W.rangeAt lb (k * 49) rk):=fun W hW=>by rw[hrk];exact HLW1.out W hW k hkm
  have hi49:(prog.info? 49).map (·.size)=some rk.length:=by rw[hrk,Array.length_toList,aj];kernel_rfl
  have HR49:aa (rk.toArray.size=49):=by rw[aa,hrk];simp[aj]
  have HK1:aa ((ae (R.getD k {})).all (·.oneCell')=true):=HONE.out _ (by rw[List.getD_eq_getElem?_getD,List.getElem?_eq_getElem (by rw[HRM.out];exact hkm)];exact List.getElem_mem _)
  have HKR:aa (∀ (W:World) {gb:Nat},W.heap[gb]?=some (.cells rk.toArray 49 (0,0))->∀j,j<([R.getD k {}]:List RecV).length->W.rangeAt gb (0 + j * 49) (ae (([R.getD k {}]:List RecV).getD j {})).toList):=fun W {gb} hW j hj=>by
   obtain rfl:j=0:=by simp at hj;omega
   have:=gI hW
   rw[hrk] at this
   simpa using this
  have HF17:aa (∀ W v,W.ownsRow w1.heap.size 49 49 v (0 + (k + 1) + 1 + (m - (k + 1))) (cA (R.take (k + 1)++[R.getD k {}]++R.drop (k + 1)))->Below w1.heap.size w1 W->t8 B w (.returned v) W):=fun W v ho hb=>by
   refine HFIN.out W v (R.take (k + 1)++[R.getD k {}]++R.drop (k + 1)) (ds.take (k + 1)++[ds.getD k {}]++ds.drop (k + 1)) _ (bY ho (Nat.le_trans HG.out.2 (Nat.le_of_lt (aK HG.out.1)))) ?_ ?_ ?_ ?_ (ar w _ _ HN1.out hb)
   ·rw[List.length_append,List.length_append,List.length_append,List.length_append,List.length_take,List.length_take,List.length_drop,List.length_drop,HRM.out,<-HMD.out];rfl
   ·rw[List.length_append,List.length_append,List.length_take,List.length_drop,<-HMD.out,List.length_singleton];omega
   ·intro j hj
    have hj2:j<m + 1:=by rw[List.length_append,List.length_append,List.length_take,List.length_drop,<-HMD.out,List.length_singleton] at hj;omega
    exact⟨if j<=k then j else j - 1,by split <;> omega,ry _ _ _ _ (by rw[HRM.out];omega),ry _ _ _ _ (by rw[<-HMD.out];omega)⟩
   ·rw[List.length_append,List.length_append,List.length_take,List.length_drop,<-HMD.out,List.length_singleton];omega
  clear hrk
  have fA:¬(lc:Int)<(k:Int) + 1:=by omega
  have fB:¬(m:Int)<(k:Int) + 1:=by omega
  have fF:¬lc<k + 1:=by omega
  have fG:¬m<k + 1:=by omega
  have fD:¬(k:Int) + 1<0:=by omega
  have fE:¬(k:Int)<0:=by omega
  have fC:(k:Int)<m:=by omega
  by_cases hcap:lc=k + 1
  ·have hcc:(k + 1==lc)=true:=by simpa using hcap.symm
   have hcd:(lc==k + 1)=true:=by simpa using hcap
   refine wp_region_held_drew (S:=fun W=>Below w1.heap.size w1 W) (by kernel_rfl) (aA _) (fun hHeld=>?_)
   refine ts 1 (.slice (some ⟨lb,0,none⟩) m lc) hHeld ?_
   try simp only[Act.put,ps]
   refine ts 2 (.int .i64 (k:Int)) hHeld ?_
   try simp only[Act.put,ps]
   refine ts 3 (.int .i64 ((k:Int) + 1)) hHeld ?_
   try simp only[Act.put,ps]
   refine ts 4 (.slice (some ⟨lb,0,none⟩) (k + 1) lc) hHeld ?_
   try simp only[Act.put,ps]
   refine ts 6 (.slice (some ⟨lb,0,none⟩) m lc) hHeld ?_
   try simp only[Act.put,ps]
   refine ts 7 (.int .i64 (k:Int)) hHeld ?_
   try simp only[Act.put,ps]
   refine ts 8 (.pointer (some ⟨lb,k * 49,none⟩)) hHeld ?_
   try simp only[Act.put,ps]
   refine tl 9 (.agg rk.toArray) rfl (yieldsIf_load_mid (by rfl) 49 (.tmp 57) rfl lb (k * 49) rfl rk _ (fun W hW=>HRK.out W hW) underlying49 rfl hi49) hHeld ?_
   try simp only[Act.put,ps]
   refine ts 12 (.slice (some ⟨lb,0,none⟩) m lc) hHeld ?_
   try simp only[Act.put,ps]
   refine ts 13 (.int .i64 (k:Int)) hHeld ?_
   try simp only[Act.put,ps]
   refine ts 14 (.int .i64 ((k:Int) + 1)) hHeld ?_
   try simp only[Act.put,ps]
   refine ts 15 (.slice (some ⟨lb,0,none⟩) (m - (k + 1)) (lc - (k + 1))) hHeld ?_
   try simp only[Act.put,ps]
   obtain⟨W0,hW0⟩:=nm (w1.drew)
   have HB0:aa (Below w1.heap.size w1 W0):=by rw[hW0];exact aA _
   rw[<-hW0] at hHeld ⊢
   clear hW0
   refine wpAnyH_ready (rs:=[0,10]) (by kernel_rfl) (by simp) ?_
   refine AllReadyH.cons (o:=_) rfl (fun K hK=>?_) (AllReadyH.cons (o:=_) rfl (fun K hK=>?_) AllReadyH.nil)
   ·skip
    refine aP (by rfl) 29 0 [] rfl [] rfl _ (kY _) ?_
    obtain⟨W1,hW⟩:=nm (W0.alloc (.cells #[] 49))
    obtain⟨g0,hg0⟩:=nm (W0.heap.size)
    have hb:Below W0.heap.size W0 W1:=by rw[hW];exact af _ _
    have HB1:aa (Below w1.heap.size w1 W1):=ar w1 _ _ HB0.out hb
    have HO1:aa (W1.ownsRow w1.heap.size 49 49 (.slice (some ⟨g0,0,none⟩) 0 0) 0 (cA [])):=by rw[hW,hg0];exact yh W0 _ HB0.out.size
    rw[<-hW,<-hg0]
    clear hW hg0 hb
    refine hK.out _ W1 HB1.out (fun hHeld=>?_)
    clear hK K
    try simp only[Act.put,ps]
    refine wpAnyH_ready (rs:=[5,10]) (by kernel_rfl) (by simp) ?_
    refine AllReadyH.cons (o:=_) rfl (fun K hK=>?_) (AllReadyH.cons (o:=_) rfl (fun K hK=>?_) AllReadyH.nil)
    ·skip
     refine aU rfl _ _ rfl w1.heap.size _ 0 [] rfl HO1.out (some ⟨lb,0,none⟩) (k + 1) _ (R.take (k + 1)) rfl ?_ ?_ ?_ ?_ HB1.out.size ?_
     ·rw[List.length_take,HRM.out];omega
     ·exact fun r hr=>HONE.out r (List.mem_of_mem_take hr)
     ·exact fun _=>⟨lb,0,rfl,fun j hj=>by rw[List.length_take,HRM.out] at hj;rw[Nat.zero_add,gX _ _ _ _ (by omega)];exact HLW1.out W1 HB1.out j (by omega)⟩
     ·omega
     intro v5 W2 hown5 hgr5
     have HB2:aa (Below w1.heap.size w1 W2):=bU HB1.out HO1.out hgr5
     have HO2:aa (W2.ownsRow w1.heap.size 49 49 v5 (0 + (k + 1)) (cA ([]++R.take (k + 1)))):=hown5
     clear hown5 hgr5
     refine hK.out _ W2 HB2.out (fun hHeld=>?_)
     clear hK K
     try simp only[Act.put,ps]
     refine rd 10 (fun K hK=>?_)
     refine aP (by rfl) 29 1 [(0,.tmp 58)] rfl [(0,.agg rk.toArray)] rfl _ (d6 rk.toArray HR49.out W2) ?_
     obtain⟨W3,hW⟩:=nm (W2.alloc (.cells rk.toArray 49))
     obtain⟨gb,hgb⟩:=nm (W2.heap.size)
     have hb:Below W2.heap.size W2 W3:=by rw[hW];exact af _ _
     have HB3:aa (Below w1.heap.size w1 W3):=ar w1 _ _ HB2.out hb
     have HO3:aa (W3.ownsRow w1.heap.size 49 49 v5 (0 + (k + 1)) (cA ([]++R.take (k + 1)))):=bG HO2.out hb
     have HGB3:aa (W3.heap[gb]?=some (.cells rk.toArray 49 (0,0))):=by rw[aa,hW,hgb];exact ax _ _
     rw[<-hW,<-hgb]
     clear hW hgb hb
     refine hK.out _ W3 HB3.out (fun hHeld=>?_)
     clear hK K
     try simp only[Act.put,ps]
     refine rd 11 (fun K hK=>?_)
     refine aU rfl _ _ rfl w1.heap.size _ (0 + (k + 1)) ([]++R.take (k + 1)) rfl HO3.out (some ⟨gb,0,none⟩) 1 _ [R.getD k {}] rfl rfl ?_ ?_ ?_ HB3.out.size ?_
     ·intro r hr;rw[List.mem_singleton.1 hr];exact HK1.out
     ·exact fun _=>⟨gb,0,rfl,HKR.out W3 HGB3.out⟩
     ·omega
     intro v11 W4 hown11 hgr11
     have HB4:aa (Below w1.heap.size w1 W4):=bU HB3.out HO3.out hgr11
     have HO4:aa (W4.ownsRow w1.heap.size 49 49 v11 (0 + (k + 1) + 1) (cA (([]++R.take (k + 1))++[R.getD k {}]))):=hown11
     clear hown11 hgr11
     refine hK.out _ W4 HB4.out (fun hHeld=>?_)
     clear hK K
     try simp only[Act.put,ps]
     refine rd 16 (fun K hK=>?_)
     refine aU rfl _ _ rfl w1.heap.size _ (0 + (k + 1) + 1) (([]++R.take (k + 1))++[R.getD k {}]) rfl HO4.out _ (m - (k + 1)) _ (R.drop (k + 1)) rfl ?_ ?_ ?_ ?_ HB4.out.size ?_
     ·rw[List.length_drop,HRM.out]
     ·exact fun r hr=>HONE.out r (List.mem_of_mem_drop hr)
     ·intro h0;exact absurd h0 (by omega)
     ·omega
     intro v16 W5 hown16 hgr16
     have HB5:aa (Below w1.heap.size w1 W5):=bU HB4.out HO4.out hgr16
     have HOF:aa (W5.ownsRow w1.heap.size 49 49 v16 (0 + (k + 1) + 1 + (m - (k + 1))) (cA (R.take (k + 1)++[R.getD k {}]++R.drop (k + 1)))):=hown16
     clear hown16 hgr16
     refine hK.out _ W5 HB5.out (fun hHeld=>?_)
     clear hK K
     try simp only[Act.put,ps]
     refine ts 17 (v16) hHeld ?_
     try simp only[Act.put,ps]
     refine wpAnyH_done (by kernel_rfl) ?_ _
     clear hHeld
     go_wp2_with fail
     go_ret
     exact HF17.out _ _ HOF.out HB5.out
    ·skip
     refine aP (by rfl) 29 1 [(0,.tmp 58)] rfl [(0,.agg rk.toArray)] rfl _ (d6 rk.toArray HR49.out W1) ?_
     obtain⟨W2,hW⟩:=nm (W1.alloc (.cells rk.toArray 49))
     obtain⟨gb,hgb⟩:=nm (W1.heap.size)
     have hb:Below W1.heap.size W1 W2:=by rw[hW];exact af _ _
     have HB2:aa (Below w1.heap.size w1 W2):=ar w1 _ _ HB1.out hb
     have HO2:aa (W2.ownsRow w1.heap.size 49 49 (.slice (some ⟨g0,0,none⟩) 0 0) 0 (cA [])):=bG HO1.out hb
     have HGB2:aa (W2.heap[gb]?=some (.cells rk.toArray 49 (0,0))/\gb≠g0):=⟨by rw[hW,hgb];exact ax _ _,fun e=>by have:=(World.ownsRow.lt HO1.out g0 rfl).2;omega⟩
     rw[<-hW,<-hgb]
     clear hW hgb hb
     refine hK.out _ W2 HB2.out (fun hHeld=>?_)
     clear hK K
     try simp only[Act.put,ps]
     refine rd 5 (fun K hK=>?_)
     refine aU rfl _ _ rfl w1.heap.size _ 0 [] rfl HO2.out (some ⟨lb,0,none⟩) (k + 1) _ (R.take (k + 1)) rfl ?_ ?_ ?_ ?_ HB2.out.size ?_
     ·rw[List.length_take,HRM.out];omega
     ·exact fun r hr=>HONE.out r (List.mem_of_mem_take hr)
     ·exact fun _=>⟨lb,0,rfl,fun j hj=>by rw[List.length_take,HRM.out] at hj;rw[Nat.zero_add,gX _ _ _ _ (by omega)];exact HLW1.out W2 HB2.out j (by omega)⟩
     ·omega
     intro v5 W3 hown5 hgr5
     have HB3:aa (Below w1.heap.size w1 W3):=bU HB2.out HO2.out hgr5
     have HO3:aa (W3.ownsRow w1.heap.size 49 49 v5 (0 + (k + 1)) (cA ([]++R.take (k + 1)))):=hown5
     have HGB3:aa (W3.heap[gb]?=some (.cells rk.toArray 49 (0,0))):=aw HGB2.out.1 (aF hgr5 (·=gb) (fun j hj e=>HGB2.out.2 (e.symm.trans (Option.some.inj hj).symm))) rfl
     clear hown5 hgr5
     refine hK.out _ W3 HB3.out (fun hHeld=>?_)
     clear hK K
     try simp only[Act.put,ps]
     refine rd 11 (fun K hK=>?_)
     refine aU rfl _ _ rfl w1.heap.size _ (0 + (k + 1)) ([]++R.take (k + 1)) rfl HO3.out (some ⟨gb,0,none⟩) 1 _ [R.getD k {}] rfl rfl ?_ ?_ ?_ HB3.out.size ?_
     ·intro r hr;rw[List.mem_singleton.1 hr];exact HK1.out
     ·exact fun _=>⟨gb,0,rfl,HKR.out W3 HGB3.out⟩
     ·omega
     intro v11 W4 hown11 hgr11
     have HB4:aa (Below w1.heap.size w1 W4):=bU HB3.out HO3.out hgr11
     have HO4:aa (W4.ownsRow w1.heap.size 49 49 v11 (0 + (k + 1) + 1) (cA (([]++R.take (k + 1))++[R.getD k {}]))):=hown11
     clear hown11 hgr11
     refine hK.out _ W4 HB4.out (fun hHeld=>?_)
     clear hK K
     try simp only[Act.put,ps]
     refine rd 16 (fun K hK=>?_)
     refine aU rfl _ _ rfl w1.heap.size _ (0 + (k + 1) + 1) (([]++R.take (k + 1))++[R.getD k {}]) rfl HO4.out _ (m - (k + 1)) _ (R.drop (k + 1)) rfl ?_ ?_ ?_ ?_ HB4.out.size ?_
     ·rw[List.length_drop,HRM.out]
     ·exact fun r hr=>HONE.out r (List.mem_of_mem_drop hr)
     ·intro h0;exact absurd h0 (by omega)
     ·omega
     intro v16 W5 hown16 hgr16
     have HB5:aa (Below w1.heap.size w1 W5):=bU HB4.out HO4.out hgr16
     have HOF:aa (W5.ownsRow w1.heap.size 49 49 v16 (0 + (k + 1) + 1 + (m - (k + 1))) (cA (R.take (k + 1)++[R.getD k {}]++R.drop (k + 1)))):=hown16
     clear hown16 hgr16
     refine hK.out _ W5 HB5.out (fun hHeld=>?_)
     clear hK K
     try simp only[Act.put,ps]
     refine ts 17 (v16) hHeld ?_
     try simp only[Act.put,ps]
     refine wpAnyH_done (by kernel_rfl) ?_ _
     clear hHeld
     go_wp2_with fail
     go_ret
     exact HF17.out _ _ HOF.out HB5.out
   ·skip
    refine aP (by rfl) 29 1 [(0,.tmp 58)] rfl [(0,.agg rk.toArray)] rfl _ (d6 rk.toArray HR49.out W0) ?_
    obtain⟨W1,hW⟩:=nm (W0.alloc (.cells rk.toArray 49))
    obtain⟨gb,hgb⟩:=nm (W0.heap.size)
    have hb:Below W0.heap.size W0 W1:=by rw[hW];exact af _ _
    have HB1:aa (Below w1.heap.size w1 W1):=ar w1 _ _ HB0.out hb
    have HGB1:aa (W1.heap[gb]?=some (.cells rk.toArray 49 (0,0))):=by rw[aa,hW,hgb];exact ax _ _
    rw[<-hW,<-hgb]
    clear hW hgb hb
    refine hK.out _ W1 HB1.out (fun hHeld=>?_)
    clear hK K
    try simp only[Act.put,ps]
    refine rd 0 (fun K hK=>?_)
    refine aP (by rfl) 29 0 [] rfl [] rfl _ (kY _) ?_
    obtain⟨W2,hW⟩:=nm (W1.alloc (.cells #[] 49))
    obtain⟨g0,hg0⟩:=nm (W1.heap.size)
    have hb:Below W1.heap.size W1 W2:=by rw[hW];exact af _ _
    have HB2:aa (Below w1.heap.size w1 W2):=ar w1 _ _ HB1.out hb
    have HO2:aa (W2.ownsRow w1.heap.size 49 49 (.slice (some ⟨g0,0,none⟩) 0 0) 0 (cA [])):=by rw[hW,hg0];exact yh W1 _ HB1.out.size
    have HGB2:aa (W2.heap[gb]?=some (.cells rk.toArray 49 (0,0))/\gb≠g0):=⟨au HGB1.out hb,fun e=>by have:=aK HGB1.out;omega⟩
    rw[<-hW,<-hg0]
    clear hW hg0 hb
    refine hK.out _ W2 HB2.out (fun hHeld=>?_)
    clear hK K
    try simp only[Act.put,ps]
    refine rd 5 (fun K hK=>?_)
    refine aU rfl _ _ rfl w1.heap.size _ 0 [] rfl HO2.out (some ⟨lb,0,none⟩) (k + 1) _ (R.take (k + 1)) rfl ?_ ?_ ?_ ?_ HB2.out.size ?_
    ·rw[List.length_take,HRM.out];omega
    ·exact fun r hr=>HONE.out r (List.mem_of_mem_take hr)
    ·exact fun _=>⟨lb,0,rfl,fun j hj=>by rw[List.length_take,HRM.out] at hj;rw[Nat.zero_add,gX _ _ _ _ (by omega)];exact HLW1.out W2 HB2.out j (by omega)⟩
    ·omega
    intro v5 W3 hown5 hgr5
    have HB3:aa (Below w1.heap.size w1 W3):=bU HB2.out HO2.out hgr5
    have HO3:aa (W3.ownsRow w1.heap.size 49 49 v5 (0 + (k + 1)) (cA ([]++R.take (k + 1)))):=hown5
    have HGB3:aa (W3.heap[gb]?=some (.cells rk.toArray 49 (0,0))):=aw HGB2.out.1 (aF hgr5 (·=gb) (fun j hj e=>HGB2.out.2 (e.symm.trans (Option.some.inj hj).symm))) rfl
    clear hown5 hgr5
    refine hK.out _ W3 HB3.out (fun hHeld=>?_)
    clear hK K
    try simp only[Act.put,ps]
    refine rd 11 (fun K hK=>?_)
    refine aU rfl _ _ rfl w1.heap.size _ (0 + (k + 1)) ([]++R.take (k + 1)) rfl HO3.out (some ⟨gb,0,none⟩) 1 _ [R.getD k {}] rfl rfl ?_ ?_ ?_ HB3.out.size ?_
    ·intro r hr;rw[List.mem_singleton.1 hr];exact HK1.out
    ·exact fun _=>⟨gb,0,rfl,HKR.out W3 HGB3.out⟩
    ·omega
    intro v11 W4 hown11 hgr11
    have HB4:aa (Below w1.heap.size w1 W4):=bU HB3.out HO3.out hgr11
    have HO4:aa (W4.ownsRow w1.heap.size 49 49 v11 (0 + (k + 1) + 1) (cA (([]++R.take (k + 1))++[R.getD k {}]))):=hown11
    clear hown11 hgr11
    refine hK.out _ W4 HB4.out (fun hHeld=>?_)
    clear hK K
    try simp only[Act.put,ps]
    refine rd 16 (fun K hK=>?_)
    refine aU rfl _ _ rfl w1.heap.size _ (0 + (k + 1) + 1) (([]++R.take (k + 1))++[R.getD k {}]) rfl HO4.out _ (m - (k + 1)) _ (R.drop (k + 1)) rfl ?_ ?_ ?_ ?_ HB4.out.size ?_
    ·rw[List.length_drop,HRM.out]
    ·exact fun r hr=>HONE.out r (List.mem_of_mem_drop hr)
    ·intro h0;exact absurd h0 (by omega)
    ·omega
    intro v16 W5 hown16 hgr16
    have HB5:aa (Below w1.heap.size w1 W5):=bU HB4.out HO4.out hgr16
    have HOF:aa (W5.ownsRow w1.heap.size 49 49 v16 (0 + (k + 1) + 1 + (m - (k + 1))) (cA (R.take (k + 1)++[R.getD k {}]++R.drop (k + 1)))):=hown16
    clear hown16 hgr16
    refine hK.out _ W5 HB5.out (fun hHeld=>?_)
    clear hK K
    try simp only[Act.put,ps]
    refine ts 17 (v16) hHeld ?_
    try simp only[Act.put,ps]
    refine wpAnyH_done (by kernel_rfl) ?_ _
    clear hHeld
    go_wp2_with fail
    go_ret
    exact HF17.out _ _ HOF.out HB5.out
  ·have hcc:(k + 1==lc)=false:=by simpa using Ne.symm hcap
   have hcd:(lc==k + 1)=false:=by simpa using hcap
   refine wp_region_held_drew (S:=fun W=>Below w1.heap.size w1 W) (by kernel_rfl) (aA _) (fun hHeld=>?_)
   refine ts 1 (.slice (some ⟨lb,0,none⟩) m lc) hHeld ?_
   try simp only[Act.put,ps]
   refine ts 2 (.int .i64 (k:Int)) hHeld ?_
   try simp only[Act.put,ps]
   refine ts 3 (.int .i64 ((k:Int) + 1)) hHeld ?_
   try simp only[Act.put,ps]
   refine ts 4 (.slice (some ⟨lb,0,none⟩) (k + 1) lc) hHeld ?_
   try simp only[Act.put,ps]
   refine ts 6 (.slice (some ⟨lb,0,none⟩) m lc) hHeld ?_
   try simp only[Act.put,ps]
   refine ts 7 (.int .i64 (k:Int)) hHeld ?_
   try simp only[Act.put,ps]
   refine ts 8 (.pointer (some ⟨lb,k * 49,none⟩)) hHeld ?_
   try simp only[Act.put,ps]
   refine tl 9 (.agg rk.toArray) rfl (yieldsIf_load_mid (by rfl) 49 (.tmp 57) rfl lb (k * 49) rfl rk _ (fun W hW=>HRK.out W hW) underlying49 rfl hi49) hHeld ?_
   try simp only[Act.put,ps]
   refine ts 12 (.slice (some ⟨lb,0,none⟩) m lc) hHeld ?_
   try simp only[Act.put,ps]
   refine ts 13 (.int .i64 (k:Int)) hHeld ?_
   try simp only[Act.put,ps]
   refine ts 14 (.int .i64 ((k:Int) + 1)) hHeld ?_
   try simp only[Act.put,ps]
   refine ts 15 (.slice (some ⟨lb,(k + 1) * 49,none⟩) (m - (k + 1)) (lc - (k + 1))) hHeld ?_
   try simp only[Act.put,ps]
   obtain⟨W0,hW0⟩:=nm (w1.drew)
   have HB0:aa (Below w1.heap.size w1 W0):=by rw[hW0];exact aA _
   rw[<-hW0] at hHeld ⊢
   clear hW0
   refine wpAnyH_ready (rs:=[0,10]) (by kernel_rfl) (by simp) ?_
   refine AllReadyH.cons (o:=_) rfl (fun K hK=>?_) (AllReadyH.cons (o:=_) rfl (fun K hK=>?_) AllReadyH.nil)
   ·skip
    refine aP (by rfl) 29 0 [] rfl [] rfl _ (kY _) ?_
    obtain⟨W1,hW⟩:=nm (W0.alloc (.cells #[] 49))
    obtain⟨g0,hg0⟩:=nm (W0.heap.size)
    have hb:Below W0.heap.size W0 W1:=by rw[hW];exact af _ _
    have HB1:aa (Below w1.heap.size w1 W1):=ar w1 _ _ HB0.out hb
    have HO1:aa (W1.ownsRow w1.heap.size 49 49 (.slice (some ⟨g0,0,none⟩) 0 0) 0 (cA [])):=by rw[hW,hg0];exact yh W0 _ HB0.out.size
    rw[<-hW,<-hg0]
    clear hW hg0 hb
    refine hK.out _ W1 HB1.out (fun hHeld=>?_)
    clear hK K
    try simp only[Act.put,ps]
    refine wpAnyH_ready (rs:=[5,10]) (by kernel_rfl) (by simp) ?_
    refine AllReadyH.cons (o:=_) rfl (fun K hK=>?_) (AllReadyH.cons (o:=_) rfl (fun K hK=>?_) AllReadyH.nil)
    ·skip
     refine aU rfl _ _ rfl w1.heap.size _ 0 [] rfl HO1.out (some ⟨lb,0,none⟩) (k + 1) _ (R.take (k + 1)) rfl ?_ ?_ ?_ ?_ HB1.out.size ?_
     ·rw[List.length_take,HRM.out];omega
     ·exact fun r hr=>HONE.out r (List.mem_of_mem_take hr)
     ·exact fun _=>⟨lb,0,rfl,fun j hj=>by rw[List.length_take,HRM.out] at hj;rw[Nat.zero_add,gX _ _ _ _ (by omega)];exact HLW1.out W1 HB1.out j (by omega)⟩
     ·omega
     intro v5 W2 hown5 hgr5
     have HB2:aa (Below w1.heap.size w1 W2):=bU HB1.out HO1.out hgr5
     have HO2:aa (W2.ownsRow w1.heap.size 49 49 v5 (0 + (k + 1)) (cA ([]++R.take (k + 1)))):=hown5
     clear hown5 hgr5
     refine hK.out _ W2 HB2.out (fun hHeld=>?_)
     clear hK K
     try simp only[Act.put,ps]
     refine rd 10 (fun K hK=>?_)
     refine aP (by rfl) 29 1 [(0,.tmp 58)] rfl [(0,.agg rk.toArray)] rfl _ (d6 rk.toArray HR49.out W2) ?_
     obtain⟨W3,hW⟩:=nm (W2.alloc (.cells rk.toArray 49))
     obtain⟨gb,hgb⟩:=nm (W2.heap.size)
     have hb:Below W2.heap.size W2 W3:=by rw[hW];exact af _ _
     have HB3:aa (Below w1.heap.size w1 W3):=ar w1 _ _ HB2.out hb
     have HO3:aa (W3.ownsRow w1.heap.size 49 49 v5 (0 + (k + 1)) (cA ([]++R.take (k + 1)))):=bG HO2.out hb
     have HGB3:aa (W3.heap[gb]?=some (.cells rk.toArray 49 (0,0))):=by rw[aa,hW,hgb];exact ax _ _
     rw[<-hW,<-hgb]
     clear hW hgb hb
     refine hK.out _ W3 HB3.out (fun hHeld=>?_)
     clear hK K
     try simp only[Act.put,ps]
     refine rd 11 (fun K hK=>?_)
     refine aU rfl _ _ rfl w1.heap.size _ (0 + (k + 1)) ([]++R.take (k + 1)) rfl HO3.out (some ⟨gb,0,none⟩) 1 _ [R.getD k {}] rfl rfl ?_ ?_ ?_ HB3.out.size ?_
     ·intro r hr;rw[List.mem_singleton.1 hr];exact HK1.out
     ·exact fun _=>⟨gb,0,rfl,HKR.out W3 HGB3.out⟩
     ·omega
     intro v11 W4 hown11 hgr11
     have HB4:aa (Below w1.heap.size w1 W4):=bU HB3.out HO3.out hgr11
     have HO4:aa (W4.ownsRow w1.heap.size 49 49 v11 (0 + (k + 1) + 1) (cA (([]++R.take (k + 1))++[R.getD k {}]))):=hown11
     clear hown11 hgr11
     refine hK.out _ W4 HB4.out (fun hHeld=>?_)
     clear hK K
     try simp only[Act.put,ps]
     refine rd 16 (fun K hK=>?_)
     refine aU rfl _ _ rfl w1.heap.size _ (0 + (k + 1) + 1) (([]++R.take (k + 1))++[R.getD k {}]) rfl HO4.out _ (m - (k + 1)) _ (R.drop (k + 1)) rfl ?_ ?_ ?_ ?_ HB4.out.size ?_
     ·rw[List.length_drop,HRM.out]
     ·exact fun r hr=>HONE.out r (List.mem_of_mem_drop hr)
     ·intro h0
      refine⟨lb,(k + 1) * 49,rfl,fun j hj=>?_⟩
      rw[List.length_drop,HRM.out] at hj
      have:=HLW1.out W4 HB4.out (k + 1 + j) (by omega)
      rw[Nat.add_mul (k + 1) j] at this
      have e:(R.drop (k + 1)).getD j {}=R.getD (k + 1 + j) {}:=by rw[List.getD_eq_getElem?_getD,List.getElem?_drop,<-List.getD_eq_getElem?_getD]
      rw[e]
      exact this
     ·omega
     intro v16 W5 hown16 hgr16
     have HB5:aa (Below w1.heap.size w1 W5):=bU HB4.out HO4.out hgr16
     have HOF:aa (W5.ownsRow w1.heap.size 49 49 v16 (0 + (k + 1) + 1 + (m - (k + 1))) (cA (R.take (k + 1)++[R.getD k {}]++R.drop (k + 1)))):=hown16
     clear hown16 hgr16
     refine hK.out _ W5 HB5.out (fun hHeld=>?_)
     clear hK K
     try simp only[Act.put,ps]
     refine ts 17 (v16) hHeld ?_
     try simp only[Act.put,ps]
     refine wpAnyH_done (by kernel_rfl) ?_ _
     clear hHeld
     go_wp2_with fail
     go_ret
     exact HF17.out _ _ HOF.out HB5.out
    ·skip
     refine aP (by rfl) 29 1 [(0,.tmp 58)] rfl [(0,.agg rk.toArray)] rfl _ (d6 rk.toArray HR49.out W1) ?_
     obtain⟨W2,hW⟩:=nm (W1.alloc (.cells rk.toArray 49))
     obtain⟨gb,hgb⟩:=nm (W1.heap.size)
     have hb:Below W1.heap.size W1 W2:=by rw[hW];exact af _ _
     have HB2:aa (Below w1.heap.size w1 W2):=ar w1 _ _ HB1.out hb
     have HO2:aa (W2.ownsRow w1.heap.size 49 49 (.slice (some ⟨g0,0,none⟩) 0 0) 0 (cA [])):=bG HO1.out hb
     have HGB2:aa (W2.heap[gb]?=some (.cells rk.toArray 49 (0,0))/\gb≠g0):=⟨by rw[hW,hgb];exact ax _ _,fun e=>by have:=(World.ownsRow.lt HO1.out g0 rfl).2;omega⟩
     rw[<-hW,<-hgb]
     clear hW hgb hb
     refine hK.out _ W2 HB2.out (fun hHeld=>?_)
     clear hK K
     try simp only[Act.put,ps]
     refine rd 5 (fun K hK=>?_)
     refine aU rfl _ _ rfl w1.heap.size _ 0 [] rfl HO2.out (some ⟨lb,0,none⟩) (k + 1) _ (R.take (k + 1)) rfl ?_ ?_ ?_ ?_ HB2.out.size ?_
     ·rw[List.length_take,HRM.out];omega
     ·exact fun r hr=>HONE.out r (List.mem_of_mem_take hr)
     ·exact fun _=>⟨lb,0,rfl,fun j hj=>by rw[List.length_take,HRM.out] at hj;rw[Nat.zero_add,gX _ _ _ _ (by omega)];exact HLW1.out W2 HB2.out j (by omega)⟩
     ·omega
     intro v5 W3 hown5 hgr5
     have HB3:aa (Below w1.heap.size w1 W3):=bU HB2.out HO2.out hgr5
     have HO3:aa (W3.ownsRow w1.heap.size 49 49 v5 (0 + (k + 1)) (cA ([]++R.take (k + 1)))):=hown5
     have HGB3:aa (W3.heap[gb]?=some (.cells rk.toArray 49 (0,0))):=aw HGB2.out.1 (aF hgr5 (·=gb) (fun j hj e=>HGB2.out.2 (e.symm.trans (Option.some.inj hj).symm))) rfl
     clear hown5 hgr5
     refine hK.out _ W3 HB3.out (fun hHeld=>?_)
     clear hK K
     try simp only[Act.put,ps]
     refine rd 11 (fun K hK=>?_)
     refine aU rfl _ _ rfl w1.heap.size _ (0 + (k + 1)) ([]++R.take (k + 1)) rfl HO3.out (some ⟨gb,0,none⟩) 1 _ [R.getD k {}] rfl rfl ?_ ?_ ?_ HB3.out.size ?_
     ·intro r hr;rw[List.mem_singleton.1 hr];exact HK1.out
     ·exact fun _=>⟨gb,0,rfl,HKR.out W3 HGB3.out⟩
     ·omega
     intro v11 W4 hown11 hgr11
     have HB4:aa (Below w1.heap.size w1 W4):=bU HB3.out HO3.out hgr11
     have HO4:aa (W4.ownsRow w1.heap.size 49 49 v11 (0 + (k + 1) + 1) (cA (([]++R.take (k + 1))++[R.getD k {}]))):=hown11
     clear hown11 hgr11
     refine hK.out _ W4 HB4.out (fun hHeld=>?_)
     clear hK K
     try simp only[Act.put,ps]
     refine rd 16 (fun K hK=>?_)
     refine aU rfl _ _ rfl w1.heap.size _ (0 + (k + 1) + 1) (([]++R.take (k + 1))++[R.getD k {}]) rfl HO4.out _ (m - (k + 1)) _ (R.drop (k + 1)) rfl ?_ ?_ ?_ ?_ HB4.out.size ?_
     ·rw[List.length_drop,HRM.out]
     ·exact fun r hr=>HONE.out r (List.mem_of_mem_drop hr)
     ·intro h0
      refine⟨lb,(k + 1) * 49,rfl,fun j hj=>?_⟩
      rw[List.length_drop,HRM.out] at hj
      have:=HLW1.out W4 HB4.out (k + 1 + j) (by omega)
      rw[Nat.add_mul (k + 1) j] at this
      have e:(R.drop (k + 1)).getD j {}=R.getD (k + 1 + j) {}:=by rw[List.getD_eq_getElem?_getD,List.getElem?_drop,<-List.getD_eq_getElem?_getD]
      rw[e]
      exact this
     ·omega
     intro v16 W5 hown16 hgr16
     have HB5:aa (Below w1.heap.size w1 W5):=bU HB4.out HO4.out hgr16
     have HOF:aa (W5.ownsRow w1.heap.size 49 49 v16 (0 + (k + 1) + 1 + (m - (k + 1))) (cA (R.take (k + 1)++[R.getD k {}]++R.drop (k + 1)))):=hown16
     clear hown16 hgr16
     refine hK.out _ W5 HB5.out (fun hHeld=>?_)
     clear hK K
     try simp only[Act.put,ps]
     refine ts 17 (v16) hHeld ?_
     try simp only[Act.put,ps]
     refine wpAnyH_done (by kernel_rfl) ?_ _
     clear hHeld
     go_wp2_with fail
     go_ret
     exact HF17.out _ _ HOF.out HB5.out
   ·skip
    refine aP (by rfl) 29 1 [(0,.tmp 58)] rfl [(0,.agg rk.toArray)] rfl _ (d6 rk.toArray HR49.out W0) ?_
    obtain⟨W1,hW⟩:=nm (W0.alloc (.cells rk.toArray 49))
    obtain⟨gb,hgb⟩:=nm (W0.heap.size)
    have hb:Below W0.heap.size W0 W1:=by rw[hW];exact af _ _
    have HB1:aa (Below w1.heap.size w1 W1):=ar w1 _ _ HB0.out hb
    have HGB1:aa (W1.heap[gb]?=some (.cells rk.toArray 49 (0,0))):=by rw[aa,hW,hgb];exact ax _ _
    rw[<-hW,<-hgb]
    clear hW hgb hb
    refine hK.out _ W1 HB1.out (fun hHeld=>?_)
    clear hK K
    try simp only[Act.put,ps]
    refine rd 0 (fun K hK=>?_)
    refine aP (by rfl) 29 0 [] rfl [] rfl _ (kY _) ?_
    obtain⟨W2,hW⟩:=nm (W1.alloc (.cells #[] 49))
    obtain⟨g0,hg0⟩:=nm (W1.heap.size)
    have hb:Below W1.heap.size W1 W2:=by rw[hW];exact af _ _
    have HB2:aa (Below w1.heap.size w1 W2):=ar w1 _ _ HB1.out hb
    have HO2:aa (W2.ownsRow w1.heap.size 49 49 (.slice (some ⟨g0,0,none⟩) 0 0) 0 (cA [])):=by rw[hW,hg0];exact yh W1 _ HB1.out.size
    have HGB2:aa (W2.heap[gb]?=some (.cells rk.toArray 49 (0,0))/\gb≠g0):=⟨au HGB1.out hb,fun e=>by have:=aK HGB1.out;omega⟩
    rw[<-hW,<-hg0]
    clear hW hg0 hb
    refine hK.out _ W2 HB2.out (fun hHeld=>?_)
    clear hK K
    try simp only[Act.put,ps]
    refine rd 5 (fun K hK=>?_)
    refine aU rfl _ _ rfl w1.heap.size _ 0 [] rfl HO2.out (some ⟨lb,0,none⟩) (k + 1) _ (R.take (k + 1)) rfl ?_ ?_ ?_ ?_ HB2.out.size ?_
    ·rw[List.length_take,HRM.out];omega
    ·exact fun r hr=>HONE.out r (List.mem_of_mem_take hr)
    ·exact fun _=>⟨lb,0,rfl,fun j hj=>by rw[List.length_take,HRM.out] at hj;rw[Nat.zero_add,gX _ _ _ _ (by omega)];exact HLW1.out W2 HB2.out j (by omega)⟩
    ·omega
    intro v5 W3 hown5 hgr5
    have HB3:aa (Below w1.heap.size w1 W3):=bU HB2.out HO2.out hgr5
    have HO3:aa (W3.ownsRow w1.heap.size 49 49 v5 (0 + (k + 1)) (cA ([]++R.take (k + 1)))):=hown5
    have HGB3:aa (W3.heap[gb]?=some (.cells rk.toArray 49 (0,0))):=aw HGB2.out.1 (aF hgr5 (·=gb) (fun j hj e=>HGB2.out.2 (e.symm.trans (Option.some.inj hj).symm))) rfl
    clear hown5 hgr5
    refine hK.out _ W3 HB3.out (fun hHeld=>?_)
    clear hK K
    try simp only[Act.put,ps]
    refine rd 11 (fun K hK=>?_)
    refine aU rfl _ _ rfl w1.heap.size _ (0 + (k + 1)) ([]++R.take (k + 1)) rfl HO3.out (some ⟨gb,0,none⟩) 1 _ [R.getD k {}] rfl rfl ?_ ?_ ?_ HB3.out.size ?_
    ·intro r hr;rw[List.mem_singleton.1 hr];exact HK1.out
    ·exact fun _=>⟨gb,0,rfl,HKR.out W3 HGB3.out⟩
    ·omega
    intro v11 W4 hown11 hgr11
    have HB4:aa (Below w1.heap.size w1 W4):=bU HB3.out HO3.out hgr11
    have HO4:aa (W4.ownsRow w1.heap.size 49 49 v11 (0 + (k + 1) + 1) (cA (([]++R.take (k + 1))++[R.getD k {}]))):=hown11
    clear hown11 hgr11
    refine hK.out _ W4 HB4.out (fun hHeld=>?_)
    clear hK K
    try simp only[Act.put,ps]
    refine rd 16 (fun K hK=>?_)
    refine aU rfl _ _ rfl w1.heap.size _ (0 + (k + 1) + 1) (([]++R.take (k + 1))++[R.getD k {}]) rfl HO4.out _ (m - (k + 1)) _ (R.drop (k + 1)) rfl ?_ ?_ ?_ ?_ HB4.out.size ?_
    ·rw[List.length_drop,HRM.out]
    ·exact fun r hr=>HONE.out r (List.mem_of_mem_drop hr)
    ·intro h0
     refine⟨lb,(k + 1) * 49,rfl,fun j hj=>?_⟩
     rw[List.length_drop,HRM.out] at hj
     have:=HLW1.out W4 HB4.out (k + 1 + j) (by omega)
     rw[Nat.add_mul (k + 1) j] at this
     have e:(R.drop (k + 1)).getD j {}=R.getD (k + 1 + j) {}:=by rw[List.getD_eq_getElem?_getD,List.getElem?_drop,<-List.getD_eq_getElem?_getD]
     rw[e]
     exact this
    ·omega
    intro v16 W5 hown16 hgr16
    have HB5:aa (Below w1.heap.size w1 W5):=bU HB4.out HO4.out hgr16
    have HOF:aa (W5.ownsRow w1.heap.size 49 49 v16 (0 + (k + 1) + 1 + (m - (k + 1))) (cA (R.take (k + 1)++[R.getD k {}]++R.drop (k + 1)))):=hown16
    clear hown16 hgr16
    refine hK.out _ W5 HB5.out (fun hHeld=>?_)
    clear hK K
    try simp only[Act.put,ps]
    refine ts 17 (v16) hHeld ?_
    try simp only[Act.put,ps]
    refine wpAnyH_done (by kernel_rfl) ?_ _
    clear hHeld
    go_wp2_with fail
    go_ret
    exact HF17.out _ _ HOF.out HB5.out
 by_cases h18:q=18
 ·subst h18
  have fD:¬(k:Int) + 1<0:=by omega
  have HS0_:=HS0
  by_cases hlt:k + 1<m
  ·have fA:(k:Int) + 1<m:=by omega
   have fB:(k:Int)<m:=by omega
   go_upto_region 13 with fail
   obtain⟨ra,hra⟩:∃l:List Value,l=(ae (R.getD k {})).toList:=⟨_,rfl⟩
   obtain⟨rb,hrb⟩:∃l:List Value,l=(ae (R.getD (k + 1) {})).toList:=⟨_,rfl⟩
   have hia:(prog.info? 49).map (·.size)=some ra.length:=by rw[hra,gH];kernel_rfl
   have hib:(prog.info? 49).map (·.size)=some rb.length:=by rw[hrb,gH];kernel_rfl
   have HA49:aa (ra.toArray.size=49):=by rw[aa,hra];simp[aj]
   have HB49:aa (rb.toArray.size=49):=by rw[aa,hrb];simp[aj]
   have HIA:aa ((prog.info? 49).map (·.size)=some ra.toArray.size):=by rw[aa,HA49.out];kernel_rfl
   have HIB:aa ((prog.info? 49).map (·.size)=some rb.toArray.size):=by rw[aa,HB49.out];kernel_rfl
   have hone:∀j,j<m->(ae (R.getD j {})).toList.toArray.all (·.oneCell')=true:=fun j hj=>by
    rw[Array.toArray_toList]
    exact HONE.out _ (by rw[List.getD_eq_getElem?_getD,List.getElem?_eq_getElem (by rw[HRM.out];exact hj)];exact List.getElem_mem _)
   have HA1:aa (ra.toArray.all (·.oneCell')=true):=by rw[hra];exact hone k hkm
   have HB1:aa (rb.toArray.all (·.oneCell')=true):=by rw[hrb];exact hone (k + 1) hlt
   have HRA2:aa (ra.toArray.toList=(ae (R.getD k {})).toList):=by rw[aa,<-hra]
   have HRB:aa (rb.toArray.toList=(ae (R.getD (k + 1) {})).toList):=by rw[aa,<-hrb]
   obtain⟨W0,hW0⟩:=nm (w1.drew)
   have HOR0:aa (km W0 g m (fun j=>R.getD j {})):=by rw[hW0];exact km.of_own HOWN.out.drew
   have HN10:aa (Below w.heap.size w W0):=by rw[hW0];exact HN1.out.drew
   have HZ0:aa (W0.heap.size=w1.heap.size):=by rw[hW0];rfl
   have HS0:aa (W0.rangeAt g (k * 49) ra/\W0.rangeAt g ((k + 1) * 49) rb):=⟨by rw[hra];exact HOR0.out.row k hkm,by rw[hrb];exact HOR0.out.row (k + 1) hlt⟩
   clear hra hrb hone
   refine eU (t:=15) (S:=fun W=>W.rangeAt g (k * 49) ra/\W.rangeAt g ((k + 1) * 49) rb) (by kernel_rfl) ?_
   rw[<-hW0]
   clear hW0
   refine lf 0 (.slice (some ⟨g,0,none⟩) m cap) (.inr HS0.out) ?_
   try simp only[Act.put,ps]
   refine lf 1 (.int .i64 (k:Int)) (.inr HS0.out) ?_
   try simp only[Act.put,ps]
   refine lf 2 (.slice (some ⟨g,0,none⟩) m cap) (.inr HS0.out) ?_
   try simp only[Act.put,ps]
   refine lf 3 (.int .i64 (k:Int)) (.inr HS0.out) ?_
   try simp only[Act.put,ps]
   refine lf 4 (.int .i64 ((k:Int) + 1)) (.inr HS0.out) ?_
   try simp only[Act.put,ps]
   refine lf 5 (.slice (some ⟨g,0,none⟩) m cap) (.inr HS0.out) ?_
   try simp only[Act.put,ps]
   refine lf 6 (.int .i64 (k:Int)) (.inr HS0.out) ?_
   try simp only[Act.put,ps]
   refine lf 7 (.int .i64 ((k:Int) + 1)) (.inr HS0.out) ?_
   try simp only[Act.put,ps]
   refine lf 8 (.pointer (some ⟨g,(k + 1) * 49,none⟩)) (.inr HS0.out) ?_
   try simp only[Act.put,ps]
   refine cX (i:=9) (oi:=_) (v:=.agg rb.toArray) rfl (by kernel_rfl) (by kernel_rfl) (by kernel_rfl) (by decide) (by kernel_rfl) (by rfl) (fun _ _ _ h=>h) (yieldsIf_load_mid (by rfl) 49 (.tmp 81) rfl g ((k + 1) * 49) rfl rb _ (fun W hW=>hW.2) underlying49 rfl hib) HS0.out ?_
   try simp only[Act.put,ps]
   refine lf 10 (.slice (some ⟨g,0,none⟩) m cap) (.inr HS0.out) ?_
   try simp only[Act.put,ps]
   refine lf 11 (.int .i64 (k:Int)) (.inr HS0.out) ?_
   try simp only[Act.put,ps]
   refine lf 12 (.pointer (some ⟨g,k * 49,none⟩)) (.inr HS0.out) ?_
   try simp only[Act.put,ps]
   refine cX (i:=13) (oi:=_) (v:=.agg ra.toArray) rfl (by kernel_rfl) (by kernel_rfl) (by kernel_rfl) (by decide) (by kernel_rfl) (by rfl) (fun _ _ _ h=>h) (yieldsIf_load_mid (by rfl) 49 (.tmp 85) rfl g (k * 49) rfl ra _ (fun W hW=>hW.1) underlying49 rfl hia) HS0.out ?_
   try simp only[Act.put,ps]
   refine lf 14 (.pointer (some ⟨g,k * 49,none⟩)) (.inr HS0.out) ?_
   try simp only[Act.put,ps]
   refine gh (j:=15) (o:=_) (by kernel_rfl) rfl (by rfl) fun K hK=>?_
   refine fP (by rfl) 49 _ _ rfl g (k * 49) rb.toArray rfl rfl (by rw[HB49.out];exact HOR0.out.there hkm) HIB.out HB1.out ?_
   obtain⟨W1,hW1⟩:=nm (W0.setCells g (k * 49) rb.toArray.toList)
   have HOR1:aa (km W1 g m (fun j=>if j=k then R.getD (k + 1) {} else R.getD j {})):=by rw[hW1,HRB.out];exact HOR0.out.put hkm _
   have HK1:aa (am (·≠g) W0 W1):=by rw[hW1];exact gR g W0 _ _
   rw[<-hW1]
   clear hW1
   refine hK.out _ W1 ?_
   clear hK K
   try simp only[Act.put,ps]
   refine lf 16 (.pointer (some ⟨g,(k + 1) * 49,none⟩)) (.inl (by kernel_rfl)) ?_
   try simp only[Act.put,ps]
   refine gh (j:=17) (o:=_) (by kernel_rfl) rfl (by rfl) fun K hK=>?_
   refine fP (by rfl) 49 _ _ rfl g ((k + 1) * 49) ra.toArray rfl rfl (by rw[HA49.out];exact HOR1.out.there hlt) HIA.out HA1.out ?_
   obtain⟨W2,hW2⟩:=nm (W1.setCells g ((k + 1) * 49) ra.toArray.toList)
   have HOR2:aa (km W2 g m (fun j=>if j=k + 1 then R.getD k {} else if j=k then R.getD (k + 1) {} else R.getD j {})):=by rw[hW2,HRA2.out];exact HOR1.out.put hlt _
   have HK2:aa (am (·≠g) W0 W2):=HK1.out.trans (by rw[hW2];exact gR g W1 _ _)
   rw[<-hW2]
   clear hW2
   refine hK.out _ W2 ?_
   clear hK K
   try simp only[Act.put,ps]
   refine fZ (by kernel_rfl) ?_ _
   go_wp2_with fail
   go_ret
   have HB2:Below w.heap.size w W2:=aB HN10.out HK2.out (fun j hj e=>by have:=HG.out.2;have:=HS0_.out;have:=HLW.out;omega)
   refine⟨_,(ds.set k (ds.getD (k + 1) {})).set (k + 1) (ds.getD k {}),rfl,rz (fun j=>if j=k + 1 then R.getD k {} else if j=k then R.getD (k + 1) {} else R.getD j {}) (by rw[List.length_set,List.length_set];exact HMD.out.symm) hgc (by have:=aK HG.out.1;have:=HK2.out.size;have:=HZ0.out;omega) (Nat.le_trans HBW.out (Nat.le_trans HN0.out.size HG.out.2)) (fun j hj=>HOR2.out.row j hj) (fun W3 hk3 j hj=>?_),fun d hd=>?_,by rw[List.length_set,List.length_set,<-HMD.out];omega,HB2⟩
   ·rw[nQ _ _ _ _ _ (by rw[List.length_set,<-HMD.out];exact hj),nQ _ _ _ _ _ (by rw[<-HMD.out];exact hj)]
    by_cases e1:j=k + 1
    ·simp only[if_pos e1];exact (((HRA.out k hkm).on HB2).keepsT hk3 (fun k hb=>⟨hb.1,hb.lt⟩)).at_
    ·simp only[if_neg e1]
     by_cases e2:j=k
     ·simp only[if_pos e2];exact (((HRA.out (k + 1) hlt).on HB2).keepsT hk3 (fun k hb=>⟨hb.1,hb.lt⟩)).at_
     ·simp only[if_neg e2];exact (((HRA.out j hj).on HB2).keepsT hk3 (fun k hb=>⟨hb.1,hb.lt⟩)).at_
   ·rcases List.mem_or_eq_of_mem_set hd with hd | rfl
    ·rcases List.mem_or_eq_of_mem_set hd with hd | rfl
     ·exact (HMY.out _ hd).2
     ·exact (HMY.out _ (dJ (by rw[<-HMD.out];exact hlt))).2
    ·exact (HMY.out _ (dJ (by rw[<-HMD.out];exact hkm))).2
  ·have fA:¬(k:Int) + 1<m:=by omega
   go_wp2_with fail
   go_ret
   exact HFIN.out _ _ R ds m HOWN.out (by rw[HRM.out,HMD.out]) HMD.out (fun j hj=>⟨j,by rw[HMD.out];exact hj,rfl,rfl⟩) (by rw[<-HMD.out];omega) HN1.out
 by_cases h19:q=19
 ·subst h19
  go_wp2_with fail
  go_ret
  refine HFIN.out _ _ (R.take (k + 1)) (ds.take (k + 1)) (k + 1) (nP HOWN.out (by omega)) ?_ ?_ ?_ ?_ HN1.out
  ·rw[List.length_take,List.length_take,HRM.out,HMD.out]
  ·rw[List.length_take,<-HMD.out];omega
  ·intro j hj
   rw[List.length_take,<-HMD.out] at hj
   exact⟨j,by omega,gX _ _ _ _ (by omega),gX _ _ _ _ (by omega)⟩
  ·rw[List.length_take,<-HMD.out];omega
 have b16:((q:Int)==16)=false:=by simp;omega
 have b17:((q:Int)==17)=false:=by simp;omega
 have b18:((q:Int)==18)=false:=by simp;omega
 have b19:((q:Int)==19)=false:=by simp;omega
 have HS0_:=HS0
 have fB:(k:Int)<m:=by omega
 go_upto_region 6 with fail
 obtain⟨ra,hra⟩:∃l:List Value,l=(ae (R.getD k {})).toList:=⟨_,rfl⟩
 have hia:(prog.info? 49).map (·.size)=some ra.length:=by rw[hra,gH];kernel_rfl
 have HRAE:aa (ra.toArray=ae (R.getD k {})):=by rw[aa,hra,Array.toArray_toList]
 obtain⟨W0,hW0⟩:=nm (w1.drew)
 have HOW0:aa (W0.ownsRow w0.heap.size 49 49 (.slice (some ⟨g,0,none⟩) m cap) m (cA R)):=by rw[hW0];exact HOWN.out.drew
 have HGW:aa (W0.heap[g]?=some (.cells cur 49 (0,0))):=by rw[hW0];exact HG.out.1
 have HN10:aa (Below w.heap.size w W0):=by rw[hW0];exact HN1.out.drew
 have HS0:aa (W0.rangeAt g (k * 49) ra/\W0.heap[L]?=some (.cells #[.int .u8 (a:Int),.int .u8 (b:Int),.int .i16 x2] 27 (0,0))):=⟨by rw[hra];exact (km.of_own HOW0.out).row k hkm,by rw[hW0];exact HX1.out⟩
 have HMK:aa (cF (ds.getD k {})=true/\(ds.getD k {}).ok):=HMY.out _ (dJ (by rw[<-HMD.out];exact hkm))
 have HROW:aa ((ds.getD k {}).barred.length + (ds.getD k {}).lots.length + (ds.getD k {}).owners.length<=1000):=yi HMK.out.1 HMK.out.2
 have wx:IntKind.i64.wrap x2=x2:=IntWalk.i64_in _ (by omega)
 clear hra
 refine eU (t:=14) (S:=fun W=>W.rangeAt g (k * 49) ra/\W.heap[L]?=some (.cells #[.int .u8 (a:Int),.int .u8 (b:Int),.int .i16 x2] 27 (0,0))) (by kernel_rfl) ?_
 rw[<-hW0]
 clear hW0
 refine lf 0 (.slice (some ⟨g,0,none⟩) m cap) (.inr HS0.out) ?_
 try simp only[Act.put,ps]
 refine lf 1 (.int .i64 (k:Int)) (.inr HS0.out) ?_
 try simp only[Act.put,ps]
 refine lf 2 (.slice (some ⟨g,0,none⟩) m cap) (.inr HS0.out) ?_
 try simp only[Act.put,ps]
 refine lf 3 (.int .i64 (k:Int)) (.inr HS0.out) ?_
 try simp only[Act.put,ps]
 refine lf 4 (.pointer (some ⟨g,k * 49,none⟩)) (.inr HS0.out) ?_
 try simp only[Act.put,ps]
 refine cX (i:=5) (oi:=_) (v:=.agg ra.toArray) rfl (by kernel_rfl) (by kernel_rfl) (by kernel_rfl) (by decide) (by kernel_rfl) (by rfl) (fun _ _ _ h=>h) (yieldsIf_load_mid (by rfl) 49 (.tmp 27) rfl g (k * 49) rfl ra _ (fun W hW=>hW.1) underlying49 rfl hia) HS0.out ?_
 try simp only[Act.put,ps]
 refine lf 6 (.pointer (some ⟨L,1,none⟩)) (.inr HS0.out) ?_
 try simp only[Act.put,ps]
 refine cX (i:=7) (oi:=_) (v:=.int .u8 (b:Int)) rfl (by kernel_rfl) (by kernel_rfl) (by kernel_rfl) (by decide) (by kernel_rfl) (by rfl) (fun _ _ _ h=>h) (Or.inl ⟨by rfl,?_⟩) HS0.out ?_
 ·intro W hSw
  have c:=aq hSw.2 1
  go_simp
 try simp only[Act.put,ps]
 refine lf 8 (.int .u8 (q:Int)) (.inr HS0.out) ?_
 try simp only[Act.put,ps]
 refine lf 9 (.pointer (some ⟨L,2,none⟩)) (.inr HS0.out) ?_
 try simp only[Act.put,ps]
 refine cX (i:=10) (oi:=_) (v:=.int .i16 x2) rfl (by kernel_rfl) (by kernel_rfl) (by kernel_rfl) (by decide) (by kernel_rfl) (by rfl) (fun _ _ _ h=>h) (Or.inl ⟨by rfl,?_⟩) HS0.out ?_
 ·intro W hSw
  have c:=aq hSw.2 2
  go_simp
 try simp only[Act.put,ps]
 refine lf 11 (.int .i64 x2) (.inr HS0.out) ?_
 try simp only[Act.put,ps]
 refine dH (j:=12) (o:=_) (by kernel_rfl) rfl fun K hK=>?_
 go_simp
 rw[HRAE.out]
 refine (tu (fun k=>B<=k/\k<w.heap.size) W0.heap.size (R.getD k {}) (ds.getD k {}) HMK.out.2 (q:Int) x2 (by omega) (by omega) W0 (vz (HRA.out k hkm) HN10.out) (Nat.le_refl _) HROW.out).mono ?_
 rintro e W1 ⟨rv',d',rfl,hrm,hok',hb⟩
 have HRMM:=ac hrm
 have HOK':=ac hok'
 have HS1:aa (W1.rangeAt g (k * 49) ra/\W1.heap[L]?=some (.cells #[.int .u8 (a:Int),.int .u8 (b:Int),.int .i16 x2] 27 (0,0))):=⟨ex HS0.out.1 (aK HGW.out) hb,au HS0.out.2 hb⟩
 have HOR1:aa (km W1 g m (fun j=>R.getD j {})):=km.of_own (bG HOW0.out hb)
 have HN11:aa (Below w.heap.size w W1):=ar w _ _ HN10.out hb
 have HB01:=ac hb
 obtain⟨rx,hrx⟩:∃r:Array Value,r=ae rv':=⟨_,rfl⟩
 have HX49:aa (rx.size=49):=by rw[aa,hrx];exact aj _
 have HXI:aa ((prog.info? 49).map (·.size)=some rx.size):=by rw[aa,HX49.out];kernel_rfl
 have HX1:aa (rx.all (·.oneCell')=true):=by rw[hrx];exact hrm.one
 have HXE:aa (rx=ae rv'):=hrx
 rw[<-hrx,<-HRAE.out]
 clear hrm hok' hb hrx
 try go_simp
 refine hK.out _ W1 HS1.out ?_
 clear hK K
 try simp only[Act.put,ps]
 refine lf 13 (.pointer (some ⟨g,k * 49,none⟩)) (.inr HS1.out) ?_
 try simp only[Act.put,ps]
 refine gh (j:=14) (o:=_) (by kernel_rfl) rfl (by rfl) fun K hK=>?_
 refine fP (by rfl) 49 _ _ rfl g (k * 49) rx rfl rfl (by rw[HX49.out];exact HOR1.out.there hkm) HXI.out HX1.out ?_
 obtain⟨W2,hW2⟩:=nm (W1.setCells g (k * 49) rx.toList)
 have HOR2:aa (km W2 g m (fun j=>if j=k then rv' else R.getD j {})):=by rw[hW2,HXE.out];exact HOR1.out.put hkm _
 have HK2:aa (am (·≠g) W1 W2):=by rw[hW2];exact gR g W1 _ _
 rw[<-hW2]
 clear hW2
 refine hK.out _ W2 ?_
 clear hK K
 try simp only[Act.put,ps]
 refine fZ (by kernel_rfl) ?_ _
 go_wp2_with fail
 go_ret
 have HB2:Below w.heap.size w W2:=aB HN11.out HK2.out (fun j hj e=>by have:=HG.out.2;have:=HS0_.out;have:=HLW.out;omega)
 refine⟨_,ds.set k d',rfl,rz (fun j=>if j=k then rv' else R.getD j {}) (by rw[List.length_set];exact HMD.out.symm) hgc (Nat.lt_of_lt_of_le (aK HGW.out) (Nat.le_trans HB01.out.size HK2.out.size)) (Nat.le_trans HBW.out (Nat.le_trans HN0.out.size HG.out.2)) (fun j hj=>HOR2.out.row j hj) (fun W3 hk3 j hj=>?_),fun d hd=>?_,by rw[List.length_set,<-HMD.out];omega,HB2⟩
 ·rw[nQ _ _ _ _ _ (by rw[<-HMD.out];exact hj)]
  by_cases e1:j=k
  ·simp only[if_pos e1]
   refine ((HRMM.out.keeps HK2.out (fun i _ hi e=>?_)).keeps hk3 (fun i hil hi=>?_)).at_
   ·have h1:=HG.out.2
    have h2:=HS0_.out
    have h3:=HLW.out
    have h4:=aK HGW.out
    rcases hi with hi | hi
    ·have:=hi.2
     omega
    ·have:=hi.1
     omega
   ·rcases hi with hi | hi
    ·exact⟨hi.1,hil⟩
    ·exact⟨Nat.le_trans (Nat.le_trans HBW.out HN10.out.size) hi.1,hil⟩
  ·simp only[if_neg e1];exact (((HRA.out j hj).on HB2).keepsT hk3 (fun k hb=>⟨hb.1,hb.lt⟩)).at_
 ·rcases List.mem_or_eq_of_mem_set hd with hd | rfl
  ·exact (HMY.out _ hd).2
  ·exact HOK'.out
