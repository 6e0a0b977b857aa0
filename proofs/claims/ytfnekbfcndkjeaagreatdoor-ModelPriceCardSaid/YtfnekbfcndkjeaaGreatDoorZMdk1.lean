/- consignlaw31's works, walked. -/
import Derived.Test.YtfnekbfcndkjeaaGreatDoorZMdp2
import Derived.Test.YtfnekbfcndkjeaaGreatDoorZMsl3
set_option maxHeartbeats 4000000
set_option maxRecDepth 100000
set_option linter.all false
namespace Go.Proofs.YtfnekbfcndkjeaaGreatDoor
open Go.Proofs.Tryz Go.RowKit
theorem zX (W:World) (r c b x:Int):(Instr.build 58 #[(0,.int .i64 r),(1,.int .i64 c),(2,.int .u64 b),(3,.int .u64 x)]).run prog W=.ok (.agg #[.int .i64 r,.int .i64 c,.int .u64 b,.int .u64 x]) W:=by kernel_rfl
theorem oq {ops:Array Oper} {S:World->Prop} {o:Oper} {a:Act} (hgd:Region.wanted o (yielded ops a.tmps)=true) (t:TypeId) (l:List (Nat × Operand)) (ho:o.op=.build t l.toArray) (ql:List (Nat × Value)) (hq:(l.map fun x=>(x.1,a.eval x.2))=ql) (v:Value)
  (hr:∀w,(Instr.build t ql.toArray).run prog w=.ok v w):YieldsIf prog ops S o v a:=Or.inl ⟨hgd,fun w _=>by
  subst hq
  have:=hr w
  unfold execOp
  simp only[ho]
  simp[this]⟩
theorem yw (w:World):Calls prog 15 #[] w fun e w'=>e=.returned (.iface 95 (.agg #[]))/\w'=w:=by
 go_enter func15,ntmps15
 go_wp2_with fail
 go_ret
 exact⟨rfl,rfl⟩
theorem CQ (opf:List Int->RecD->Bool) {S:Nat->Prop} {n:Nat} {w:World} {p:Nat} {v:bS} {st:MSt} (h:bB S n w p v st) (hS:∀k,S k->k<w.heap.size) (hn:n<1000000000) (hwf:st.Wf) (op:Opn) (hop:st.opn=some op) (rv:RecV) (d:RecD) (hrv:∃b l ow,rv=d.toV b l ow) (hd:uK d) (hsc:st.scene.scheme≠0\/(st.scene.scheme=0/\st.Nx/\∃(F:S8) (kf:Nat->Int) (kk:Array Value),opf=fK F kf/\cV F kf kk w)):
  Calls prog 43 #[.pointer (some ⟨p,0,none⟩),.agg (ae rv)] w (dF S n w p st (if b9 opf st op d then some (fm st op d) else none)):=by
 obtain⟨R,hR⟩:∃R,R=(if b9 opf st op d then some (fm st op d) else none):=⟨_,rfl⟩
 rw[<-hR]
 have HR:=ac hR
 clear hR
 obtain⟨L,hL⟩:=nm (w.heap.size)
 obtain⟨w0,hw0⟩:=nm (w.alloc (.cells (ae rv) 49))
 have HN0:aa (Below w.heap.size w w0):=by rw[hw0];exact af _ _
 have HR0:ah w0 L rv:=by rw[hw0,hL];exact ah.box _ _
 have HLw:aa (w.heap.size<=L):=Nat.le_of_eq hL.symm
 have hrr:rv.round=d.round:=by obtain⟨b,l,ow,e⟩:=hrv;rw[e];rfl
 have hrt:rv.tick=d.tick:=by obtain⟨b,l,ow,e⟩:=hrv;rw[e];rfl
 have hrc:rv.carrier=d.carrier:=by obtain⟨b,l,ow,e⟩:=hrv;rw[e];rfl
 have hrb:rv.bid=d.bid:=by obtain⟨b,l,ow,e⟩:=hrv;rw[e];rfl
 have HRBD:=ac hrb
 have hrd:∀k,rv.dig k=d.dig.getD k 0:=by obtain⟨b,l,ow,e⟩:=hrv;rw[e];exact fun k=>rfl
 have HRD:=ac hrd
 have HH:=ac h
 have HSS:=ac hS
 have HWF:=ac hwf
 have HD:=ac hd
 have HO:=ac hop
 have HSCH:=ac hsc
 have HRND:aa (st.Nx->0<=op.round/\op.round<=1000000000):=fun hnx=>by have e:=hnx op hop;have:=h.nout;omega
 have HRRD:aa (rv.round=d.round):=by obtain⟨b,l,ow,e⟩:=hrv;rw[e];rfl
 have HRNN:aa (rv.nonce=d.nonce):=by obtain⟨b,l,ow,e⟩:=hrv;rw[e];rfl
 obtain⟨r,mb,bb,hov,hsr,hsm,hsb,hmb,hrnd,hmm,hbm,hlen⟩:fR S n w v.opn (some op):=by rw[<-hop];exact h.opn
 have HOV:=ac hov
 have HSM:=ac hsm
 have HSB:=ac hsb
 have HLEN:=ac hlen
 have HMB:=ac hmb
 have HRB:aa (∃ cs,w.heap[r]?=some (.cells cs 133 (0,0))/\cs[50]?=some (.map (some bb))):=by obtain⟨cs,k0,_,_,_,_,k50⟩:=hrnd;exact⟨cs,k0,k50⟩
 have HRB0:aa (∃ cs,w.heap[r]?=some (.cells cs 133 (0,0))/\cs[49]?=some (.map (some mb))):=by obtain⟨cs,k0,_,_,_,k49,_⟩:=hrnd;exact⟨cs,k0,k49⟩
 have HMBL:aa (∃ es ck,w.heap[bb]?=some (.map es ck)):=hbm.block
 have HC0:aa (ey n w0 p L r mb bb v op rv):=⟨h.here.new HN0.out,hrnd.keeps (ak HN0.out (fun _=>True)) trivial,hmm.new HN0.out,hbm.new HN0.out,HR0⟩
 have HG0:=ac (jB (h.new HN0.out) hwf op hop rv (by rw[hrt];exact hd.tick))
 have hi0:(prog.info? 49).map (·.size)=some (ae rv).size:=by rw[aj];kernel_rfl
 obtain⟨c,hc⟩:=nm (d.carrier)
 have HC:=ac hc
 have HRC:aa (rv.carrier=c):=by rw[hc];exact hrc
 have hc7:0<=c/\c<=7:=by rw[hc];exact hd.carrier
 have hlot:=(hwf.opn op hop).1
 have hlens:=hwf.lens
 have hnl:=hwf.nlots
 clear h hS hwf hop hrnd hmm hbm hlen hov hsr hsm hsb hmb hd hrv hrd hrc hc hrb hsc
 obtain⟨g,hg⟩:=nm (d.tick - op.tick)
 have HGE:=ac hg
 rw[hrr,hrt,<-hg] at HG0
 obtain⟨lt,hlt⟩:∃q:Nat,op.lot=q:=Int.eq_ofNat_of_zero_le hlot.1
 have HLT:=ac hlt
 have hlt2:lt<st.scene.lots.length:=by omega
 have HLT2:=ac hlt2
 clear hg hlt hlot HR0 hlt2
 go_enter func43,ntmps43
 go_upto_region 1 with fail
 rw[<-hw0,<-hL]
 clear hw0 hL
 go_wp2_with (guard_target =~ wpList _ _ _ _ _ _;refine wpList_load_row rfl _ _ rfl L rfl _ (ae rv) (0,0) _ HC0.out.rc underlying49 rfl hi0 ?_)
 refine HG0.out.mono ?_
 rintro e w1 ⟨rfl,hb1⟩
 have HN1:=ac (HN0.out.trans (hb1.mono HN0.out.size))
 have HC1:=ac (HC0.out.new hb1)
 clear hb1 hi0 HC0 HG0
 by_cases hxy:d.round=op.round
 case neg=>
  have HNP:aa (¬ b9 opf st op d):=fun h=>hxy h.1
  rw[if_neg hxy]
  clear hxy hrr hrt
  go_wp2_with fail
  go_ret
  rw[HR.out,if_neg HNP.out]
  exact aW HH.out HSS.out HN1.out
 case pos=>
 have HXY:=ac hxy
 rw[if_pos hxy]
 clear hxy hrr hrt
 obtain⟨cm,hcm⟩:=nm (st.scene.commit)
 have c44:w1.cell? ⟨p,44,none⟩=some (.int .i64 cm):=by have:=HC1.out.md.rcommit;rw[HH.out.commit,<-hcm] at this;exact this
 have HCM:=ac hcm
 have HDUE:=ac (mw (HH.out.new HN1.out) HWF.out)
 obtain⟨du,hdu⟩:=nm (st.due)
 rw[<-hdu] at HDUE
 have HDU:=ac hdu
 clear hcm hdu
 by_cases h1:g<cm
 ·have HNP:aa (¬ b9 opf st op d):=fun h=>by have:=h.2.1;rw[<-HGE.out,<-HCM.out] at this;omega
  go_wp2_with fail
  go_ret
  rw[HR.out,if_neg HNP.out]
  exact aW HH.out HSS.out HN1.out
 have H1:=ac h1
 have hb1:decide (g<cm)=false:=by simpa using h1
 go_wp2_with fail
 refine HDUE.out.mono ?_
 rintro e w2 ⟨rfl,q2,hw2⟩
 have HN2:aa (Below w.heap.size w w2):=by rw[hw2];exact bH HN1.out q2
 have HC2:aa (ey n w2 p L r mb bb v op rv):=by rw[hw2];exact HC1.out.new (ay _ _)
 clear hw2 c44 HC1 h1 hb1
 by_cases h2:du<=g
 ·have HNP:aa (¬ b9 opf st op d):=fun h=>by have:=h.2.2.1;rw[<-HGE.out,<-HDU.out] at this;omega
  go_wp2_with fail
  go_ret
  rw[HR.out,if_neg HNP.out]
  exact aW HH.out HSS.out HN2.out
 have H2:=ac h2
 obtain⟨ya,hya,hys,hy1,hyl⟩:=nj op.marks HLEN.out c
 obtain⟨has,hhas⟩:∃b,b=(op.marks c).isSome:=⟨_,rfl⟩
 have hci:qx c:=⟨by omega,by omega⟩
 have HLK:aa (∀ W,ey n W p L r mb bb v op rv->(Instr.lookup 130 (.map (some mb)) (.int .i64 c) true).run prog W=.ok (.tuple #[.agg ya,.bool has]) W):=fun W hW=>by
  rw[<-hya,hhas,<-jm op.marks sm c]
  exact fp W 130 43 underlying130 (zeroDig W) mb n _ hW.marks c hci
 obtain⟨yb,hyb,_⟩:=qD op.bids c
 obtain⟨twice,htw⟩:∃b,b=(op.bids c).isSome:=⟨_,rfl⟩
 have HLB:aa (∀ W,ey n W p L r mb bb v op rv->(Instr.lookup 131 (.map (some bb)) (.int .i64 c) true).run prog W=.ok (.tuple #[.int .u64 yb,.bool twice]) W):=fun W hW=>by
  rw[<-hyb,htw,<-jm op.bids (Value.int .u64) c]
  exact fp W 131 44 underlying131 (tK W) bb n _ hW.bids c hci
 have HYS:=ac hys
 have HY1:=ac hy1
 have HHAS:=ac hhas
 have HTW:=ac htw
 have HYL:=ac hyl
 clear hya hys hy1 hyl hhas hyb htw
 go_upto_region 4 with fail
 clear h2
 refine wp_region_held_drew (S:=fun W=>ey n W p L r mb bb v op rv) (by kernel_rfl) (HC2.out.new (aA _)) (fun hHeld=>?_)
 refine ts 0 (.pointer (some ⟨p,0,none⟩)) hHeld ?_
 try simp only[Act.put,ps]
 refine ts 1 (.pointer (some ⟨p,0,none⟩)) hHeld ?_
 try simp only[Act.put,ps]
 refine ts 2 (.pointer (some ⟨p,52,none⟩)) hHeld ?_
 try simp only[Act.put,ps]
 refine tk 3 (.pointer (some ⟨r,0,none⟩)) hHeld ?_ ?_
 ·intro W hSw
  have c:=hSw.md.opn
  rw[HOV.out] at c
  go_simp
 try simp only[Act.put,ps]
 refine ts 4 (.pointer (some ⟨r,0,none⟩)) hHeld ?_
 try simp only[Act.put,ps]
 refine ts 5 (.pointer (some ⟨r,49,none⟩)) hHeld ?_
 try simp only[Act.put,ps]
 refine tk 6 (.map (some mb)) hHeld ?_ ?_
 ·intro W hSw
  have c:=hSw.rnd.marks
  go_simp
 try simp only[Act.put,ps]
 refine ts 7 (.pointer (some ⟨L,3,none⟩)) hHeld ?_
 try simp only[Act.put,ps]
 refine tk 8 (.int .i64 c) hHeld ?_ ?_
 ·intro W hSw
  have e:=hSw.rc.carrier
  rw[HRC.out] at e
  go_simp
 try simp only[Act.put,ps]
 refine tk 9 (.tuple #[.agg ya,.bool has]) hHeld ?_ ?_
 ·intro W hSw
  have hl:=HLK.out W hSw
  go_simp
 try simp only[Act.put,ps]
 refine ts 10 (.tuple #[.agg ya,.bool has]) hHeld ?_
 try simp only[Act.put,ps]
 refine ts 11 (.agg ya) hHeld ?_
 try simp only[Act.put,ps]
 refine ts 12 (.bool has) hHeld ?_
 try simp only[Act.put,ps]
 refine rd 13 (fun K hK=>?_)
 go_simp
 refine hK.out _ (w2.drew.alloc (.cells nh 43)) (HC2.out.new (aD (aA w2) (af _ _))) (fun hHeld=>?_)
 clear hK K
 try simp only[Act.put,ps]
 refine rd 14 (fun K hK=>?_)
 refine fd rfl 43 _ _ rfl (.pointer (some ⟨w2.heap.size,0,none⟩)) (.agg ya) rfl rfl (lD w2.drew ya HYS.out HY1.out) ?_
 obtain⟨w3,hw3⟩:=nm (w2.drew.alloc (.cells ya 43))
 obtain⟨D,hDD⟩:=nm (w2.heap.size)
 have HB3:aa (Below w2.heap.size w2 w3):=by rw[hw3];exact aD (aA w2) (af _ _)
 have HD3:aa (w3.heap[D]?=some (.cells ya 43 (0,0))):=by rw[hw3,hDD];exact ax _ _
 rw[<-hw3,<-hDD]
 clear hw3 hDD
 refine hK.out _ _ (HC2.out.new HB3.out) (fun hHeld=>?_)
 clear hK K
 try simp only[Act.put,ps]
 refine ts 15 (.bool has) hHeld ?_
 try simp only[Act.put,ps]
 refine wpAnyH_done (by kernel_rfl) ?_ _
 have HC3:=ac (HC2.out.new HB3.out)
 have HN3:=ac (HN2.out.trans (HB3.out.mono HN2.out.size))
 clear HC2 hHeld
 go_upto_region 5 with fail
 refine wp_region_held_drew (S:=fun W=>ey n W p L r mb bb v op rv) (by kernel_rfl) (HC3.out.new (aA _)) (fun hHeld=>?_)
 refine ts 0 (.pointer (some ⟨p,0,none⟩)) hHeld ?_
 try simp only[Act.put,ps]
 refine ts 1 (.pointer (some ⟨p,0,none⟩)) hHeld ?_
 try simp only[Act.put,ps]
 refine ts 2 (.pointer (some ⟨p,52,none⟩)) hHeld ?_
 try simp only[Act.put,ps]
 refine tk 3 (.pointer (some ⟨r,0,none⟩)) hHeld ?_ ?_
 ·intro W hSw
  have c:=hSw.md.opn
  rw[HOV.out] at c
  go_simp
 try simp only[Act.put,ps]
 refine ts 4 (.pointer (some ⟨r,0,none⟩)) hHeld ?_
 try simp only[Act.put,ps]
 refine ts 5 (.pointer (some ⟨r,50,none⟩)) hHeld ?_
 try simp only[Act.put,ps]
 refine tk 6 (.map (some bb)) hHeld ?_ ?_
 ·intro W hSw
  have c:=hSw.rnd.bids
  go_simp
 try simp only[Act.put,ps]
 refine ts 7 (.pointer (some ⟨L,3,none⟩)) hHeld ?_
 try simp only[Act.put,ps]
 refine tk 8 (.int .i64 c) hHeld ?_ ?_
 ·intro W hSw
  have e:=hSw.rc.carrier
  rw[HRC.out] at e
  go_simp
 try simp only[Act.put,ps]
 refine tk 9 (.tuple #[.int .u64 yb,.bool twice]) hHeld ?_ ?_
 ·intro W hSw
  have hl:=HLB.out W hSw
  go_simp
 try simp only[Act.put,ps]
 refine ts 10 (.tuple #[.int .u64 yb,.bool twice]) hHeld ?_
 try simp only[Act.put,ps]
 refine ts 11 (.int .u64 yb) hHeld ?_
 try simp only[Act.put,ps]
 refine ts 12 (.bool twice) hHeld ?_
 try simp only[Act.put,ps]
 refine ts 13 (.int .u64 yb) hHeld ?_
 try simp only[Act.put,ps]
 refine ts 14 (.bool twice) hHeld ?_
 try simp only[Act.put,ps]
 refine wpAnyH_done (by kernel_rfl) ?_ _
 clear hHeld
 have HN4:aa (Below w.heap.size w w3.drew):=HN3.out.drew
 obtain⟨w4,hw4⟩:=nm (w3.drew)
 have HD4:aa (w4.heap[D]?=some (.cells ya 43 (0,0))):=by rw[hw4];exact HD3.out
 have HC4:aa (ey n w4 p L r mb bb v op rv):=by rw[hw4];exact HC3.out.new (aA _)
 have HN4:aa (Below w.heap.size w w4):=by rw[hw4];exact HN3.out.drew
 rw[<-hw4]
 clear hw4 HC3 HN3
 by_cases hok:has=true/\twice=false
 case neg=>
  have HNP:aa (¬ b9 opf st op d):=fun h=>hok ⟨by rw[HHAS.out,HC.out];exact h.2.2.2.1,by
   have:=h.2.2.2.2.1
   rw[HTW.out,HC.out]
   cases hm:op.bids d.carrier with
   | none=>rfl
   | some l=>rw[hm] at this;cases this⟩
  cases has with
  | false=>
   go_wp2_with fail
   go_ret
   rw[HR.out,if_neg HNP.out]
   exact aW HH.out HSS.out HN4.out
  | true=>
  cases twice with
  | true=>
   go_wp2_with fail
   go_ret
   rw[HR.out,if_neg HNP.out]
   exact aW HH.out HSS.out HN4.out
  | false=>exact absurd ⟨rfl,rfl⟩ hok
 case pos=>
 obtain⟨hh1,hh2⟩:=hok
 have hnb:(op.bids d.carrier).isNone=true:=by
  have:=HTW.out
  rw[hh2,HC.out] at this
  cases hm:op.bids d.carrier with
  | none=>rfl
  | some l=>rw[hm] at this;cases this
 have HNB:=ac hnb
 have HHT:aa (has=true):=hh1
 clear hnb
 subst hh1 hh2
 go_upto_region 8 with fail
 go_cut [85] (fun s85 wx=>∃b:Bool,s85=.bool b/\aa ((b=true->¬b9 opf st op d)/\(b=false->b9 opf st op d))/\aa (ey n wx p L r mb bb v op rv)/\aa (Below w.heap.size w wx))
 case first=>
  rcases HSCH.out with hs0 | ⟨hs0,hnx,F,kf,kk,hopf,hsha⟩
  ·have HRP:aa (b9 opf st op d):=⟨HXY.out,by rw[<-HGE.out,<-HCM.out];have:=H1.out;omega,by rw[<-HGE.out,<-HDU.out];have:=H2.out;omega,by rw[<-HC.out,<-HHAS.out],HNB.out,fun h=>absurd h hs0⟩
   obtain⟨sc,hsce⟩:=nm (st.scene.scheme)
   have c46:w4.cell? ⟨p,46,none⟩=some (.int .i64 sc):=by have:=HC4.out.md.rscheme;rw[HH.out.scheme,<-hsce] at this;exact this
   have hsb:(sc==0)=false:=by rw[hsce];simpa using hs0
   clear hsce hs0
   go_quiet (fail)
   have HC5:aa (ey n (w4.drewN nq) p L r mb bb v op rv):=HC4.out.new (ay _ _)
   have HN5:aa (Below w.heap.size w (w4.drewN nq)):=bH HN4.out _
   go_wp2_with fail
   go_meet
   case rel=>exact⟨false,rfl,⟨(fun h=>nomatch h),fun _=>HRP.out⟩,HC5.out,HN5.out⟩
  ·skip
   obtain⟨ml,hml⟩:∃l,op.marks c=some l:=by
    have:=HHAS.out
    cases hm:op.marks c with
    | none=>rw[hm] at this;cases this
    | some l=>exact⟨l,rfl⟩
   have HMLC:aa (ya=(ml.map (Value.int .u8)).toArray):=HYL.out ml hml
   have HMLN:aa (ml.length=32):=(HLEN.out c ml hml).1
   have HMLE:aa (op.marks d.carrier=some ml):=by rw[aa,<-HC.out];exact hml
   clear hml
   have HSI:aa (tx d.round c d.bid d.nonce):=⟨by rw[HXY.out];exact HRND.out hnx,by omega,HD.out.bid,HD.out.nonce⟩
   have HSC0:aa (v.scn.scheme=0):=by rw[aa,HH.out.scheme];exact hs0
   obtain⟨y,hy⟩:∃y:Bool,y=opf ml d:=⟨_,rfl⟩
   have HYE:=ac hy
   obtain⟨rq,hrq⟩:=nm (d.round)
   obtain⟨bq,hbq⟩:=nm (d.bid)
   obtain⟨nn,hnn⟩:=nm (d.nonce)
   have HYF:aa (y=decide (∀ j∈List.range 32,(jy (jH kf F (strOfNums (fi rq c bq nn)))).getD j 0=ml.getD j 0)):=by rw[aa,hy,hrq,hbq,hnn,HC.out,hopf];rfl
   rw[<-hrq] at HSI HRRD
   rw[<-hbq,<-hnn] at HSI
   have HRB8:aa (rv.bid=bq):=by rw[aa,hbq];exact HRBD.out
   have HRN8:aa (rv.nonce=nn):=by rw[aa,hnn];exact HRNN.out
   clear hy hrq hbq hnn
   obtain⟨dcl,hdcl⟩:=nm (ya.toList)
   have HR1:aa (∀ W:World,W.heap[D]?=some (.cells ya 43 (0,0))->W.rangeAt D 0 dcl):=fun W hW=>by rw[hdcl];exact gI hW
   have hi3:(prog.info? 43).map (·.size)=some dcl.length:=by rw[hdcl,Array.length_toList,HYS.out];kernel_rfl
   have HDCL:aa (dcl.toArray=(ml.map (Value.int .u8)).toArray):=by rw[aa,hdcl,Array.toArray_toList,HMLC.out]
   clear hdcl
   have HSHA:=ac hsha
   have HS0:=ac hs0
   clear hsha hs0 hnx
   refine wp_region_held_drew (S:=fun W=>ey n W p L r mb bb v op rv/\W.heap[D]?=some (.cells ya 43 (0,0))) (by kernel_rfl) ((⟨HC4.out.new (aA _),HD4.out⟩:ey n w4.drew p L r mb bb v op rv/\w4.drew.heap[D]?=some (.cells ya 43 (0,0)))) (fun hHeld=>?_)
   refine ts 0 (.pointer (some ⟨p,0,none⟩)) hHeld ?_
   try simp only[Act.put,ps]
   refine ts 1 (.pointer (some ⟨p,0,none⟩)) hHeld ?_
   try simp only[Act.put,ps]
   refine ts 2 (.pointer (some ⟨p,0,none⟩)) hHeld ?_
   try simp only[Act.put,ps]
   refine ts 3 (.pointer (some ⟨p,46,none⟩)) hHeld ?_
   try simp only[Act.put,ps]
   refine tk 4 (.int .i64 0) hHeld ?_ ?_
   ·intro W hSw
    have c:=hSw.1.md.rscheme
    rw[HSC0.out] at c
    go_simp
   try simp only[Act.put,ps]
   refine ts 5 (.bool true) hHeld ?_
   try simp only[Act.put,ps]
   refine ts 6 (.bool true) hHeld ?_
   try simp only[Act.put,ps]
   refine tl 8 (.agg dcl.toArray) rfl (yieldsIf_load_mid (by rfl) 43 (.tmp 7) rfl D 0 rfl dcl _ (fun W hW=>HR1.out W hW.2) underlying43 rfl hi3) hHeld ?_
   try simp only[Act.put,ps]
   refine ts 9 (.pointer (some ⟨L,1,none⟩)) hHeld ?_
   try simp only[Act.put,ps]
   refine tk 10 (.int .i64 rq) hHeld ?_ ?_
   ·intro W hSw
    have e:=hSw.1.rc.round
    rw[HRRD.out] at e
    go_simp
   try simp only[Act.put,ps]
   refine ts 11 (.pointer (some ⟨L,3,none⟩)) hHeld ?_
   try simp only[Act.put,ps]
   refine tk 12 (.int .i64 c) hHeld ?_ ?_
   ·intro W hSw
    have e:=hSw.1.rc.carrier
    rw[HRC.out] at e
    go_simp
   try simp only[Act.put,ps]
   refine ts 13 (.pointer (some ⟨L,38,none⟩)) hHeld ?_
   try simp only[Act.put,ps]
   refine tk 14 (.int .u64 bq) hHeld ?_ ?_
   ·intro W hSw
    have e:=hSw.1.rc.bid
    rw[HRB8.out] at e
    go_simp
   try simp only[Act.put,ps]
   refine ts 15 (.pointer (some ⟨L,39,none⟩)) hHeld ?_
   try simp only[Act.put,ps]
   refine tk 16 (.int .u64 nn) hHeld ?_ ?_
   ·intro W hSw
    have e:=hSw.1.rc.nonce
    rw[HRN8.out] at e
    go_simp
   try simp only[Act.put,ps]
   refine tl 17 (.agg #[.int .i64 rq,.int .i64 c,.int .u64 bq,.int .u64 nn]) rfl (oq (by rfl) 58 _ rfl [(0,.int .i64 rq),(1,.int .i64 c),(2,.int .u64 bq),(3,.int .u64 nn)] rfl _ (fun W=>zX W rq c bq nn)) hHeld ?_
   try simp only[Act.put,ps]
   obtain⟨W0,hW0⟩:=nm (w4.drew)
   have HC40:aa (ey n W0 p L r mb bb v op rv):=by rw[hW0];exact HC4.out.new (aA _)
   have HD40:aa (W0.heap[D]?=some (.cells ya 43 (0,0))):=by rw[hW0];exact HD4.out
   have HN40:aa (Below w.heap.size w W0):=by rw[hW0];exact HN4.out.drew
   rw[<-hW0] at hHeld ⊢
   clear hW0
   refine rd 7 (fun K hK=>?_)
   go_simp
   refine (yw W0).mono ?_
   rintro e wx ⟨rfl,hwx⟩
   rw[hwx]
   clear hwx wx
   refine hK.out _ W0 ⟨HC40.out,HD40.out⟩ (fun hHeld=>?_)
   clear hK K
   try simp only[Act.put,ps]
   refine rd 18 (fun K hK=>?_)
   go_simp
   rw[HDCL.out]
   refine (tz ml HMLN.out rq c bq nn HSI.out F kf kk W0 (HSHA.out.on HN40.out)).mono ?_
   rintro e w5 ⟨rfl,hb5⟩
   have HC5:aa (ey n w5 p L r mb bb v op rv):=HC40.out.new hb5
   have HN5:aa (Below w.heap.size w w5):=HN40.out.trans (hb5.mono HN40.out.size)
   have HD5:aa (w5.heap[D]?=some (.cells ya 43 (0,0))):=au HD40.out hb5
   rw[<-HYF.out,<-HDCL.out]
   clear hb5
   refine hK.out _ w5 ⟨HC5.out,HD5.out⟩ (fun hHeld=>?_)
   clear hK K
   try simp only[Act.put,ps]
   refine ts 19 (.bool (!y)) hHeld ?_
   try simp only[Act.put,ps]
   refine ts 20 (.bool (!y)) hHeld ?_
   try simp only[Act.put,ps]
   refine wpAnyH_done (by kernel_rfl) ?_ _
   clear hHeld HC4 HN4 HC40 HN40
   have HRY:aa (((!y)=true->¬b9 opf st op d)/\((!y)=false->b9 opf st op d)):=by
    cases y with
    | false=>
     refine⟨fun _ h=>?_,(fun h=>nomatch h)⟩
     have h6:=h.2.2.2.2.2 HS0.out
     rw[HMLE.out] at h6
     exact absurd (HYE.out.trans h6) (by decide)
    | true=>exact⟨(fun h=>nomatch h),fun _=>⟨HXY.out,by rw[<-HGE.out,<-HCM.out];have:=H1.out;omega,by rw[<-HGE.out,<-HDU.out];have:=H2.out;omega,by rw[HMLE.out];rfl,HNB.out,fun _=>by rw[HMLE.out];exact HYE.out.symm⟩⟩
   go_wp2_with fail
   go_meet
   case rel=>exact⟨!y,rfl,HRY.out,HC5.out,HN5.out⟩
 case rest=>
 obtain⟨b,rfl,HBE,HC5,HN5⟩:=hcut
 obtain⟨w5,hw5⟩:=nm (wc)
 rw[<-hw5] at HC5 HN5 ⊢
 clear hw5 wc HC4 HN4
 cases b with
 | true=>
  have HNP:aa (¬ b9 opf st op d):=HBE.out.1 rfl
  go_wp2_with fail
  go_ret
  rw[HR.out,if_neg HNP.out]
  exact aW HH.out HSS.out HN5.out
 | false=>
 have HRP:aa (b9 opf st op d):=HBE.out.2 rfl
 go_upto_region 10 with fail
 refine wp_region_held_drew (S:=fun W=>aV W p v/\df W r op mb bb/\ah W L rv) (by kernel_rfl) ((⟨(HC5.out.new (aA _)).md,(HC5.out.new (aA _)).rnd,(HC5.out.new (aA _)).rc⟩:aV w5.drew p v/\df w5.drew r op mb bb/\ah w5.drew L rv)) (fun hHeld=>?_)
 refine ts 0 (.pointer (some ⟨p,0,none⟩)) hHeld ?_
 try simp only[Act.put,ps]
 refine ts 1 (.pointer (some ⟨p,0,none⟩)) hHeld ?_
 try simp only[Act.put,ps]
 refine ts 2 (.pointer (some ⟨p,52,none⟩)) hHeld ?_
 try simp only[Act.put,ps]
 refine tk 3 (.pointer (some ⟨r,0,none⟩)) hHeld ?_ ?_
 ·intro W hSw
  have c:=hSw.1.opn
  rw[HOV.out] at c
  go_simp
 try simp only[Act.put,ps]
 refine ts 4 (.pointer (some ⟨r,0,none⟩)) hHeld ?_
 try simp only[Act.put,ps]
 refine ts 5 (.pointer (some ⟨r,50,none⟩)) hHeld ?_
 try simp only[Act.put,ps]
 refine tk 6 (.map (some bb)) hHeld ?_ ?_
 ·intro W hSw
  have c:=hSw.2.1.bids
  go_simp
 try simp only[Act.put,ps]
 refine ts 7 (.pointer (some ⟨L,3,none⟩)) hHeld ?_
 try simp only[Act.put,ps]
 refine tk 8 (.int .i64 c) hHeld ?_ ?_
 ·intro W hSw
  have e:=hSw.2.2.carrier
  rw[HRC.out] at e
  go_simp
 try simp only[Act.put,ps]
 refine ts 9 (.pointer (some ⟨L,38,none⟩)) hHeld ?_
 try simp only[Act.put,ps]
 refine tk 10 (.int .u64 d.bid) hHeld ?_ ?_
 ·intro W hSw
  have e:=hSw.2.2.bid
  rw[HRBD.out] at e
  go_simp
 try simp only[Act.put,ps]
 refine rd 11 (fun K hK=>?_)
 refine ic rfl _ _ _ 131 44 rfl underlying131 bb n (gv op.bids) rfl (HC5.out.new (aA _)).bids (by unfold maxLen;omega) c (.int .u64 d.bid) rfl rfl hci ?_
 intro w6 hm6 hg6
 have HK6:aa (am (·≠bb) w5 w6):=((am.refl _ w5).drew).trans (aF hg6 (·≠bb) (fun j hj=>by obtain rfl:=Option.some.inj hj;simp))
 have HM6:aa (db w6 bb (n + 1) (gv (jI op.bids c d.bid))):=by rw[<-tL];exact hm6
 clear hm6 hg6
 have hpm:p≠bb:=fun e=>by
  obtain⟨es,ck,hb⟩:=HC5.out.bids.block
  have:=HC5.out.md
  rw[aV,e,hb] at this
  cases this
 have hrm:r≠bb:=fun e=>by
  obtain⟨es,ck,hb⟩:=HC5.out.bids.block
  obtain⟨cs,h1,_⟩:=HC5.out.rnd
  rw[e,hb] at h1
  cases h1
 have hLm:L≠bb:=fun e=>by have:=HSS.out bb HSB.out;have:=HLw.out;omega
 refine hK.out _ _ ⟨HC5.out.md.keeps HK6.out hpm,HC5.out.rnd.keeps HK6.out hrm,HC5.out.rc.keeps HK6.out hLm⟩ (fun hHeld=>?_)
 clear hK K
 try simp only[Act.put,ps]
 refine wpAnyH_done (by kernel_rfl) ?_ _
 clear hHeld
 go_wp2_with fail
 go_ret
 rw[HR.out,if_pos HRP.out]
 have HK0:aa (am (·≠bb) w w6):=(ak HN5.out _).trans HK6.out
 exact⟨rfl,S,⟨v,tM HH.out HO.out HOV.out HK0.out (by rw[<-HC.out];exact HM6.out) HRB.out HMBL.out⟩,HK0.out.mono (fun k _ hk e=>hk (by rw[e];exact HSB.out)),fun k hk=>.inl hk,fun k hk=>Nat.lt_of_lt_of_le (HSS.out k hk) HK0.out.size⟩
theorem pP (opf:List Int->RecD->Bool) {S:Nat->Prop} {n:Nat} {w:World} {p:Nat} {st:MSt} {rv:RecV} {d:RecD} (h:fV st):oT opf S n w p st rv d:=by
 intro w3 v hb hv hS hn hwf hrv hd
 cases ho:st.opn with
 | none=>exact kM hv hS ho rv
 | some op=>
  have hs:st.scene.scheme≠0:=by
   rcases h with h | h
   ·have:=(hwf.fresh h).2.2.1
    rw[ho] at this;cases this
   ·exact h
  exact CQ opf hv hS hn hwf op ho rv d hrv hd (.inl hs)
theorem vK {S:Nat->Prop} {n:Nat} {w:World} {p:Nat} {st:MSt} {rv:RecV} {d:RecD} {F:S8} {kf:Nat->Int} {kk:Array Value} (ht:cV F kf kk w) (hnx:st.Nx):oT (fK F kf) S n w p st rv d:=by
 intro w3 v hb hv hS hn hwf hrv hd
 cases ho:st.opn with
 | none=>exact kM hv hS ho rv
 | some op=>
  refine CQ (fK F kf) hv hS hn hwf op ho rv d hrv hd ?_
  by_cases hs:st.scene.scheme=0
  ·exact .inr ⟨hs,hnx,F,kf,kk,rfl,ht.on hb⟩
  ·exact .inl hs
open Go.RowKit Go.Maps
def scnC:RecD:={kind:=1,carriers:=3,commit:=2,reveal:=1,scheme:=1,lots:=[(1,50)],owners:=[0,2]}
def jJ:RecD:={kind:=2,tick:=4}
def fy:RecD:={kind:=3,tick:=4}
def kQ:RecD:={kind:=3,carrier:=1,tick:=5}
def pQ:RecD:={kind:=4,carrier:=1,bid:=9,tick:=6}
def iw (o:OutT):RecD:={kind:=5,tick:=7,state:=o.1,winner:=o.2.1,price:=o.2.2}
def iY (o:OutT):List RecD:=[scnC,jJ,fy,kQ,pQ,iw o]
def lH (A B:Nat):RecV:=scnC.toV (.slice none 0 0) (.slice (some ⟨A,0,none⟩) 1 1) (.slice (some ⟨B,0,none⟩) 2 2)
def aN (d:RecD):RecV:=d.toV (.slice none 0 0) (.slice none 0 0) (.slice none 0 0)
def lW (A B:Nat) (o:OutT):List RecV:=[lH A B,aN jJ,aN fy,aN kQ,aN pQ,aN (iw o)]
theorem sJ (w:World) (A B:Nat):(Instr.build 49 #[(0,.int .i64 1),(10,.int .i64 3),(11,.int .i64 2),(12,.int .i64 1),(13,.int .i64 1),(14,.slice (some ⟨A,0,none⟩) 1 1),(15,.slice (some ⟨B,0,none⟩) 2 2)]).run prog w=.ok (.agg (ae (lH A B))) w:=by kernel_rfl
theorem sK (w:World):(Instr.build 49 #[(0,.int .i64 2),(4,.int .i64 4)]).run prog w=.ok (.agg (ae (aN jJ))) w:=by kernel_rfl
theorem sL (w:World):(Instr.build 49 #[(0,.int .i64 3),(4,.int .i64 4)]).run prog w=.ok (.agg (ae (aN fy))) w:=by kernel_rfl
theorem qR (w:World):(Instr.build 49 #[(0,.int .i64 3),(3,.int .i64 1),(4,.int .i64 5)]).run prog w=.ok (.agg (ae (aN kQ))) w:=by kernel_rfl
theorem sM (w:World):(Instr.build 49 #[(0,.int .i64 4),(3,.int .i64 1),(7,.int .u64 9),(4,.int .i64 6)]).run prog w=.ok (.agg (ae (aN pQ))) w:=by kernel_rfl
theorem sN (w:World) (a b c:Int):(Instr.build 49 #[(0,.int .i64 5),(9,.agg #[.int .i64 a,.int .i64 b,.int .u64 c]),(4,.int .i64 7)]).run prog w=.ok (.agg (ae (aN (iw (a,b,c))))) w:=by kernel_rfl
theorem qS (r0 r1 r2 r3 r4 r5:RecV) (w:World):(Instr.buildSlice 29 6 #[(0,.agg (ae r0)),(1,.agg (ae r1)),(2,.agg (ae r2)),(3,.agg (ae r3)),(4,.agg (ae r4)),(5,.agg (ae r5))]).run prog w=.ok (.slice (some ⟨w.heap.size,0,none⟩) 6 6) (w.alloc (.cells ([r0,r1,r2,r3,r4,r5].flatMap fun r=>(ae r).toList).toArray 49)):=by
 have hf:=lA [r0,r1,r2,r3,r4,r5] [] ((Array.range (6 * 49)).map ((ae {})[· % (ae {}).size]!)).toList 0 rfl (lB _ _)
 rw[List.nil_append,List.nil_append,Array.toArray_toList] at hf
 exact ng 6 (by decide) (by decide) [(0,.agg (ae r0)),(1,.agg (ae r1)),(2,.agg (ae r2)),(3,.agg (ae r3)),(4,.agg (ae r4)),(5,.agg (ae r5))] _ hf w
structure dM (B0:Nat) (w:World) (g A B:Nat) (o:OutT):Prop where
 row:w.heap[g]?=some (.cells ((lW A B o).flatMap fun r=>(ae r).toList).toArray 49 (0,0))
 lots:w.heap[A]?=some (.cells #[.int .i64 1,.int .i64 50] 63 (0,0))
 owners:w.heap[B]?=some (.cells #[.int .i64 0,.int .i64 2] 3 (0,0))
 g0:B0<=g
 A0:B0<=A
 B0':B0<=B
theorem dM.new {B0:Nat} {w w':World} {g A B:Nat} {o:OutT} (h:dM B0 w g A B o) (hb:Below w.heap.size w w'):dM B0 w' g A B o:=
 ⟨au h.row hb,au h.lots hb,au h.owners hb,h.g0,h.A0,h.B0'⟩
theorem dM.recV {B0:Nat} {w:World} {g A B:Nat} {o:OutT} (h:dM B0 w g A B o):bu w (lH A B) scnC:=by
 refine⟨_,_,_,rfl,bA.nil _,⟨_,1,rfl,Nat.le_refl _,fun _=>⟨A,0,rfl,aK h.lots,fun j hj=>?_⟩⟩,⟨_,2,rfl,Nat.le_refl _,fun _=>⟨B,0,rfl,aK h.owners,fun j hj=>?_⟩⟩⟩
 ·obtain rfl:j=0:=by have:j<1:=hj;omega
  exact⟨aq h.lots 0,aq h.lots 1⟩
 ·rw[Nat.zero_add,aq h.owners]
  match j,hj with
  | 0,_ | 1,_=>rfl
  | _ + 2,h=>exact absurd h (by simp[scnC])
theorem ny (w:World) {d:RecD} (h1:d.barred=[]) (h2:d.lots=[]) (h3:d.owners=[]):bu w (aN d) d:=
 ⟨_,_,_,rfl,by rw[h1];exact bA.nil _,by rw[h2];exact cZ.nil _,by rw[h3];exact bA.nil _⟩
theorem nz {w:World} {g:Nat} {rvs:List RecV} {ds:List RecD} (hl:rvs.length=ds.length) (hg:w.heap[g]?=some (.cells (rvs.flatMap fun r=>(ae r).toList).toArray 49 (0,0))) (hat:∀j,j<ds.length->bu w (rvs.getD j {}) (ds.getD j {})):
  aX w (.slice (some ⟨g,0,none⟩) ds.length ds.length) ds:=by
 refine⟨_,ds.length,fun j=>rvs.getD j {},rfl,Nat.le_refl _,fun _=>⟨g,0,rfl,aK hg,fun j hj i v hv=>?_⟩,hat⟩
 have hi:i<49:=by
  have:=(List.getElem?_eq_some_iff.1 hv).1
  rw[Array.length_toList,aj] at this
  exact this
 have:=lz rvs j i hi
 rw[if_pos (by omega),hv] at this
 rw[Nat.zero_add,aq hg]
 simpa using this
theorem dM.recs {B0:Nat} {w:World} {g A B:Nat} {o:OutT} (h:dM B0 w g A B o):aX w (.slice (some ⟨g,0,none⟩) 6 6) (iY o):=
 nz (rvs:=lW A B o) (ds:=iY o) rfl h.row fun j hj=>by
  match j,hj with
  | 0,_=>exact h.recV
  | 1,_ | 2,_ | 3,_ | 4,_ | 5,_=>exact ny w rfl rfl rfl
  | _ + 6,h=>exact absurd h (by simp[iY])
theorem lX (a b c:Int) (w:World):Calls prog 27 #[.agg #[.int .i64 a,.int .i64 b,.int .u64 c]] w fun e w'=>∃g A B,e=.returned (.slice (some ⟨g,0,none⟩) 6 6)/\Below w.heap.size w w'/\dM w.heap.size w' g A B (a,b,c):=by
 go_enter func27,ntmps27
 go_upto_region 1 with fail
 obtain⟨w0,hw0⟩:=nm (w.alloc (.cells #[.int .i64 a,.int .i64 b,.int .u64 c] 46))
 have HX:aa (w0.heap[w.heap.size]?=some (.cells #[.int .i64 a,.int .i64 b,.int .u64 c] 46 (0,0))):=by rw[hw0];exact ax _ _
 have HN0:aa (Below w.heap.size w w0):=by rw[hw0];exact af _ _
 obtain⟨X,hX⟩:=nm (w.heap.size)
 rw[<-hX] at HX
 rw[<-hw0,<-hX]
 have HXW:=ac hX
 clear hw0 hX
 have c0:w0.cell? ⟨X,0,none⟩=some (.int .i64 a):=aq HX.out 0
 have c1:w0.cell? ⟨X,1,none⟩=some (.int .i64 b):=aq HX.out 1
 have c2:w0.cell? ⟨X,2,none⟩=some (.int .u64 c):=aq HX.out 2
 have b0:=fun W=>sJ W w0.heap.size (w0.heap.size + 1)
 have b1:=sK
 have b2:=sL
 have b3:=qR
 have b4:=sM
 have b5:=fun W=>sN W a b c
 have hs:=qS (lH w0.heap.size (w0.heap.size + 1)) (aN jJ) (aN fy) (aN kQ) (aN pQ) (aN (iw (a,b,c)))
 obtain⟨C,hC⟩:∃C,C=([lH w0.heap.size (w0.heap.size + 1),aN jJ,aN fy,aN kQ,aN pQ,aN (iw (a,b,c))].flatMap fun r=>(ae r).toList).toArray:=⟨_,rfl⟩
 rw[<-hC] at hs
 generalize ae (lH w0.heap.size (w0.heap.size + 1))=R0 at b0 hs
 generalize ae (aN jJ)=R1 at b1 hs
 generalize ae (aN fy)=R2 at b2 hs
 generalize ae (aN kQ)=R3 at b3 hs
 generalize ae (aN pQ)=R4 at b4 hs
 generalize ae (aN (iw (a,b,c)))=R5 at b5 hs
 have HC:=ac hC
 have B0:=ac b0
 have B1:=ac b1
 have B2:=ac b2
 have B3:=ac b3
 have B4:=ac b4
 have B5:=ac b5
 have HS:=ac hs
 clear b0 b1 b2 b3 b4 b5 hs hC
 go_wp2_with (first
  | (refine aQ rfl 49 _ rfl [(0,.int .i64 1),(10,.int .i64 3),(11,.int .i64 2),(12,.int .i64 1),(13,.int .i64 1),(14,.slice (some ⟨w0.heap.size,0,none⟩) 1 1),(15,.slice (some ⟨w0.heap.size + 1,0,none⟩) 2 2)] rfl _ (B0.out _) ?_;try simp only[Act.put,ps])
  | (refine aQ rfl 49 _ rfl [(0,.int .i64 2),(4,.int .i64 4)] rfl _ (B1.out _) ?_;try simp only[Act.put,ps])
  | (refine aQ rfl 49 _ rfl [(0,.int .i64 3),(4,.int .i64 4)] rfl _ (B2.out _) ?_;try simp only[Act.put,ps])
  | (refine aQ rfl 49 _ rfl [(0,.int .i64 3),(3,.int .i64 1),(4,.int .i64 5)] rfl _ (B3.out _) ?_;try simp only[Act.put,ps])
  | (refine aQ rfl 49 _ rfl [(0,.int .i64 4),(3,.int .i64 1),(7,.int .u64 9),(4,.int .i64 6)] rfl _ (B4.out _) ?_;try simp only[Act.put,ps])
  | (refine aQ rfl 49 _ rfl [(0,.int .i64 5),(9,.agg #[.int .i64 a,.int .i64 b,.int .u64 c]),(4,.int .i64 7)] rfl _ (B5.out _) ?_;try simp only[Act.put,ps])
  | (refine wpList_load_row rfl _ _ rfl X rfl _ #[.int .i64 a,.int .i64 b,.int .u64 c] (0,0) _ (au (au HX.out (af _ _)) (af _ _)) underlying46 rfl (by kernel_rfl) ?_;try simp only[Act.put,ps])
  | (refine iq rfl 29 6 _ rfl [(0,.agg R0),(1,.agg R1),(2,.agg R2),(3,.agg R3),(4,.agg R4),(5,.agg R5)] rfl _ (HS.out _) ?_)
  | fail)
 go_ret
 obtain⟨wa,hwa⟩:=nm (w0.alloc (.cells #[.int .i64 1,.int .i64 50] 63))
 obtain⟨wb,hwb⟩:=nm (wa.alloc (.cells #[.int .i64 0,.int .i64 2] 3))
 have sa:wa.heap.size=w0.heap.size + 1:=by rw[hwa];simp
 have ba:Below w0.heap.size w0 wa:=by rw[hwa];exact af _ _
 have bb:Below wa.heap.size wa wb:=by rw[hwb];exact af _ _
 have hA:wb.heap[w0.heap.size]?=some (.cells #[.int .i64 1,.int .i64 50] 63 (0,0)):=au (by rw[hwa];exact ax _ _) bb
 have hB:wb.heap[w0.heap.size + 1]?=some (.cells #[.int .i64 0,.int .i64 2] 3 (0,0)):=by rw[<-sa,hwb];exact ax _ _
 have h0:=HN0.out.size
 rw[<-hwa,<-hwb]
 have bn:=af wb (.cells C 49)
 have hCC:C=((lW w0.heap.size (w0.heap.size + 1) (a,b,c)).flatMap fun r=>(ae r).toList).toArray:=HC.out
 have sb:wb.heap.size=w0.heap.size + 1 + 1:=by rw[hwb];simp[sa]
 have hrow:=ax wb (.cells C 49)
 rw[sb,hCC] at hrow
 rw[<-hCC] at hrow
 refine⟨w0.heap.size + 1 + 1,w0.heap.size,w0.heap.size + 1,rfl,ar w _ _ (ar w _ _ (ar w _ _ HN0.out ba) bb) bn,⟨hCC ▸ hrow,au hA bn,au hB bn,?_,?_,?_⟩⟩
 ·omega
 ·omega
 ·omega
structure jt (P:MSt->Prop) (opf:List Int->RecD->Bool) (w:World) (v:Value) (ds:List RecD):Prop where
 init:P {}
 small:ds.length<1000000000
 at_:aX w v ds
 ok:∀d∈ds,d.ok
 step:∀st d,P st->d∈ds->P (cd opf st d).2
 rev:∀W S n p st rv d,Below w.heap.size w W->P st->d∈ds->oT opf S n W p st rv d
theorem jt.handle {opf:List Int->RecD->Bool} {w:World} {v:Value} {ds:List RecD} (hs:ds.length<1000000000) (h:aX w v ds) (hok:∀d∈ds,d.ok) (hk:∀d∈ds,d.kind=1->d.scheme≠0):jt fV opf w v ds:=
 ⟨.inl rfl,hs,h,hok,fun st d hst hd=>qN hst (hk d hd),fun W S n p st rv d hb hst hd=>pP opf hst⟩
theorem j7 {P:MSt->Prop} (opf:List Int->RecD->Bool) (w:World) (v:Value) (ds:List RecD) (h:jt P opf w v ds) (ht:ew w) (c:Int) (i:Nat) (hf:eS opf {} ds 0=some (c,i)):
  Calls prog 38 #[v,.int .i64 c,.int .i64 i] w fun e w'=>e=.returned (.bool true)/\Below w.heap.size w w':=by
 have HT:=ac ht
 have HF:=ac hf
 have heq:=fun W=>zi c 0 i c 0 i W
 have hbb:(c==c &&((0:Int)==0 &&(i:Int)==i))=true:=by simp
 simp only[hbb] at heq
 have HPL:=ac (qQ opf P h.init w v ds h.small h.at_ h.ok h.step h.rev)
 clear ht hf h hbb
 go_enter func38,ntmps38
 go_wp2_with fail
 refine HPL.out.mono ?_
 rintro e w1 ⟨hb,hr⟩
 rw[HF.out] at hr
 rcases hr with ⟨h0,_⟩ | ⟨c',i',f,h0,rfl,hf,hc⟩
 ·cases h0
 injection h0 with h0
 injection h0 with h1 h2
 subst h1
 subst h2
 have HB:=ac hb
 have HC:=ac hc
 clear hb hc hf
 go_wp2_with fail
 refine (ss f c 0 i w1 (HT.out.on HB.out) (aq HC.out 0) (aq HC.out 1) (aq HC.out 2)).mono ?_
 rintro e w2 ⟨rfl,hb2⟩
 have HB2:=ac (HB.out.trans (hb2.mono HB.out.size))
 clear hb2
 go_wp2_with fail
 go_ret
 exact⟨rfl,HB2.out⟩
structure yE (w:World) (lb x:Nat) (d:RecD):Prop where
 kind:w.cell? ⟨lb,x,none⟩=some (.int .i64 d.kind)
 round:w.cell? ⟨lb,x + 1,none⟩=some (.int .i64 d.round)
 lot:w.cell? ⟨lb,x + 2,none⟩=some (.int .i64 d.lot)
 carrier:w.cell? ⟨lb,x + 3,none⟩=some (.int .i64 d.carrier)
 tick:w.cell? ⟨lb,x + 4,none⟩=some (.int .i64 d.tick)
 barred:∃v,w.cell? ⟨lb,x + 5,none⟩=some v/\bA w v d.barred
 bid:w.cell? ⟨lb,x + 38,none⟩=some (.int .u64 d.bid)
 nonce:w.cell? ⟨lb,x + 39,none⟩=some (.int .u64 d.nonce)
 state:w.cell? ⟨lb,x + 40,none⟩=some (.int .i64 d.state)
 winner:w.cell? ⟨lb,x + 41,none⟩=some (.int .i64 d.winner)
 price:w.cell? ⟨lb,x + 42,none⟩=some (.int .u64 d.price)
 carriers:w.cell? ⟨lb,x + 43,none⟩=some (.int .i64 d.carriers)
 commit:w.cell? ⟨lb,x + 44,none⟩=some (.int .i64 d.commit)
 reveal:w.cell? ⟨lb,x + 45,none⟩=some (.int .i64 d.reveal)
 scheme:w.cell? ⟨lb,x + 46,none⟩=some (.int .i64 d.scheme)
 lots:∃v,w.cell? ⟨lb,x + 47,none⟩=some v/\cZ w v d.lots
 owners:∃v,w.cell? ⟨lb,x + 48,none⟩=some v/\bA w v d.owners
theorem bA.up {w w':World} {v:Value} {xs:List Int} (h:bA w v xs) (hb:Below w.heap.size w w'):bA w' v xs:=by
 obtain⟨a,c,e,hc,hx⟩:=h
 refine⟨a,c,e,hc,fun h0=>?_⟩
 obtain⟨lb,lo,ea,hl,hj⟩:=hx h0
 exact⟨lb,lo,ea,Nat.lt_of_lt_of_le hl hb.size,fun j h=>(hb.cell (p:=⟨lb,lo + j,none⟩) hl).trans (hj j h)⟩
theorem cZ.up {w w':World} {v:Value} {xs:List (Int × Int)} (h:cZ w v xs) (hb:Below w.heap.size w w'):cZ w' v xs:=by
 obtain⟨a,c,e,hc,hx⟩:=h
 refine⟨a,c,e,hc,fun h0=>?_⟩
 obtain⟨lb,lo,ea,hl,hj⟩:=hx h0
 exact⟨lb,lo,ea,Nat.lt_of_lt_of_le hl hb.size,fun j h=>⟨(hb.cell (p:=⟨lb,lo + j * 2,none⟩) hl).trans (hj j h).1,(hb.cell (p:=⟨lb,lo + j * 2 + 1,none⟩) hl).trans (hj j h).2⟩⟩
theorem yE.on {w w':World} {lb x:Nat} {d:RecD} (h:yE w lb x d) (hb:Below w.heap.size w w'):yE w' lb x d:=by
 have c:∀{k:Nat} {v:Value},w.cell? ⟨lb,k,none⟩=some v->w'.cell? ⟨lb,k,none⟩=some v:=fun e=>(hb.cell (aC e)).trans e
 obtain⟨v1,e1,r1⟩:=h.barred
 obtain⟨v2,e2,r2⟩:=h.lots
 obtain⟨v3,e3,r3⟩:=h.owners
 exact⟨c h.kind,c h.round,c h.lot,c h.carrier,c h.tick,⟨v1,c e1,r1.up hb⟩,c h.bid,c h.nonce,c h.state,c h.winner,c h.price,c h.carriers,c h.commit,c h.reveal,c h.scheme,⟨v2,c e2,r2.up hb⟩,⟨v3,c e3,r3.up hb⟩⟩
theorem AH {w:World} {lb x:Nat} {rv:RecV} {d:RecD} (h:w.rangeAt lb x (ae rv).toList) (hr:bu w rv d):yE w lb x d:=by
 obtain⟨b,l,o,rfl,h1,h2,h3⟩:=hr
 exact⟨h 0 _ rfl,h 1 _ rfl,h 2 _ rfl,h 3 _ rfl,h 4 _ rfl,⟨b,h 5 _ rfl,h1⟩,h 38 _ rfl,h 39 _ rfl,h 40 _ rfl,h 41 _ rfl,h 42 _ rfl,h 43 _ rfl,h 44 _ rfl,h 45 _ rfl,h 46 _ rfl,⟨l,h 47 _ rfl,h2⟩,⟨o,h 48 _ rfl,h3⟩⟩
theorem aX.cols {w:World} {v:Value} {ds:List RecD} (h:aX w v ds):∃a cap,v=.slice a ds.length cap/\ds.length<=cap/\(0<ds.length->∃lb lo,a=some ⟨lb,lo,none⟩/\lb<w.heap.size/\∀j,j<ds.length->yE w lb (lo + j * 49) (ds.getD j {})):=by
 obtain⟨a,cap,rvs,e,hc,h1,h2⟩:=h
 refine⟨a,cap,e,hc,fun h0=>?_⟩
 obtain⟨lb,lo,ea,hl,hj⟩:=h1 h0
 exact⟨lb,lo,ea,hl,fun j h=>AH (hj j h) (h2 j h)⟩
def eO (ds:List RecD) (x:Int):Nat->Nat
 | 0=>0
 | k + 1=>if (ds.getD k {}).kind=x then eO ds x k + 1 else eO ds x k
theorem lI (ds:List RecD) (x:Int):∀k,eO ds x k<=k
 | 0=>Nat.le_refl _
 | k + 1=>by unfold eO;have:=lI ds x k;split <;> omega
def dg (ds:List RecD):Nat->Int
 | 0=>-1
 | k + 1=>if (ds.getD k {}).kind=5\/(ds.getD k {}).kind=6 then -1 else if (ds.getD k {}).kind=2 then k else dg ds k
theorem nA (ds:List RecD):∀k,dg ds k=-1\/∃j:Nat,dg ds k=j/\j<k/\(ds.getD j {}).kind=2
 | 0=>.inl rfl
 | k + 1=>by
  unfold dg
  split
  ·exact .inl rfl
  ·split
   ·rename_i h;exact .inr ⟨k,rfl,Nat.lt_succ_self k,h⟩
   ·rcases nA ds k with h | ⟨j,h,hj,h2⟩
    ·exact .inl h
    ·exact .inr ⟨j,h,Nat.lt_succ_of_lt hj,h2⟩
def sO (ds:List RecD) (kd ca:Int):Nat->Nat->Int
 | _,0=>-1
 | k,m + 1=>if (ds.getD k {}).kind=kd/\(ds.getD k {}).carrier=ca then k else sO ds kd ca (k + 1) m
theorem sP (ds:List RecD) (kd ca:Int):∀m k,sO ds kd ca k m=-1\/∃j:Nat,sO ds kd ca k m=j/\k<=j/\j<k + m
 | 0,_=>.inl rfl
 | m + 1,k=>by
  unfold sO
  split
  ·exact .inr ⟨k,rfl,Nat.le_refl _,by omega⟩
  ·rcases sP ds kd ca m (k + 1) with h | ⟨j,h,h1,h2⟩
   ·exact .inl h
   ·exact .inr ⟨j,h,by omega,by omega⟩
def nB (ds:List RecD) (rdQ:Int):Nat->Nat->Int
 | _,0=>-1
 | k,m + 1=>if (ds.getD k {}).kind=2/\(ds.getD k {}).round=rdQ then (ds.getD k {}).lot else nB ds rdQ (k + 1) m
theorem tR (ds:List RecD) (rdQ:Int):∀m k,(nB ds rdQ k m=-1/\∀j,k<=j->j<k + m->(ds.getD j {}).kind=2->(ds.getD j {}).round≠rdQ)\/∃j,j<k + m/\(ds.getD j {}).kind=2/\(ds.getD j {}).round=rdQ/\nB ds rdQ k m=(ds.getD j {}).lot
 | 0,k=>.inl ⟨rfl,fun j h1 h2=>by omega⟩
 | m + 1,k=>by
  unfold nB
  split
  ·rename_i h;exact .inr ⟨k,by omega,h.1,h.2,rfl⟩
  ·rename_i h
   rcases tR ds rdQ m (k + 1) with ⟨h1,h2⟩ | ⟨j,h1,h2⟩
   ·refine .inl ⟨h1,fun j hj hj2 hk hr=>?_⟩
    by_cases e:j=k
    ·subst e;exact h ⟨hk,hr⟩
    ·exact h2 j (by omega) (by omega) hk hr
   ·exact .inr ⟨j,by omega,h2⟩
def pR (ds:List RecD) (rdQ:Int):Int:=nB ds rdQ 0 ds.length
def xJ (ds:List RecD) (lot s:Int) (d:RecD):Int:=
 if d.kind=2 then (if d.lot=lot then 1 else if lot<d.lot/\s=0 then 5 else s)
 else if d.kind=5 then (if pR ds d.round=lot then d.state else s)
 else if d.kind=6 then (if s=0\/s=1 then 5 else s) else s
def lJ (ds:List RecD) (lot:Int):Nat->Int
 | 0=>0
 | k + 1=>xJ ds lot (lJ ds lot k) (ds.getD k {})
def gD (ds:List RecD) (lot:Int):Int:=if lot<0\/((ds.getD 0 {}).lots.length:Int)<=lot then -1 else lJ ds lot ds.length
def qT (xs:List Int) (x:Int):Bool:=decide (x∈xs)
theorem nC (w:World) (v:Value) (xs:List Int) (hx:xs.length<1000000000) (h:bA w v xs) (x:Int):Calls prog 56 #[v,.int .i64 x] w fun e w'=>e=.returned (.bool (qT xs x))/\w'=w:=by
 obtain⟨a,cap,rfl,hcap,hj⟩:=h
 have HJ:=ac hj
 obtain⟨n,hn⟩:=nm (xs.length)
 rw[<-hn] at hx
 have HN:=ac hn
 rw[<-hn]
 clear hj hn hcap
 go_enter func56,ntmps56
 go_wp2_with fail
 go_loopg [5] n (fun g v5 wr=>∃k:Nat,k<=n/\v5=.int .i64 k/\n - k<=g/\wr=w/\aa (∀ j,j<k->xs.getD j 0≠x))
 case atStart=>exact⟨0,Nat.zero_le _,rfl,by omega,rfl,fun j h=>absurd h (Nat.not_lt_zero j)⟩
 case round=>
  obtain⟨k,hk,rfl,hg,rfl,HP⟩:=hrel
  by_cases hlt:k<n
  ·have hki:(k:Int)<n:=by omega
   obtain⟨lb,lo,rfl,hlb,hc⟩:=HJ.out (by rw[<-HN.out];omega)
   have c:=hc k (by rw[<-HN.out];exact hlt)
   have HM:aa (n - (k + 1)<gk/\k + 1<=n):=⟨by omega,hlt⟩
   obtain⟨z,hzz⟩:=nm (xs.getD k 0)
   rw[<-hzz] at c
   have HZ:=ac hzz
   have HK:aa (k<xs.length):=by rw[<-HN.out];exact hlt
   clear hzz
   clear hc hg
   by_cases hz:z=x
   ·have hzb:(z==x)=true:=by simpa using hz
    have HE:aa (qT xs x=true):=decide_eq_true ((da xs x).2 ⟨k,HK.out,by rw[<-HZ.out];exact hz⟩)
    clear hz
    go_wp2_with fail
    go_ret
    rw[HE.out]
    exact⟨rfl,rfl⟩
   ·have hzb:(z==x)=false:=by simpa using hz
    have HE:aa (z≠x):=hz
    clear hz
    go_wp2_with fail
    go_roundg (n - (k + 1))
    case measure=>exact HM.out.1
    case rel=>exact⟨k + 1,HM.out.2,by go_num,Nat.le_refl _,rfl,fun j hj=>(Nat.lt_succ_iff_lt_or_eq.1 hj).elim (HP.out j) (fun h=>by subst h;rw[<-HZ.out];exact HE.out)⟩
  ·have hki:¬(k:Int)<n:=by omega
   have HE:aa (qT xs x=false):=decide_eq_false (fun h=>by
    obtain⟨j,hj,he⟩:=(da xs x).1 h
    exact HP.out j (by rw[<-HN.out] at hj;omega) he)
   go_wp2_with fail
   go_ret
   rw[HE.out]
   exact⟨rfl,rfl⟩
theorem oV (w:World) (v:Value) (ds:List RecD) (hds:ds.length<1000000000) (h:aX w v ds) (x:Int):Calls prog 51 #[v,.int .i64 x] w fun e w'=>e=.returned (.int .i64 (eO ds x ds.length))/\w'=w:=by
 obtain⟨a,cap,rfl,hcap,hj⟩:=h.cols
 have HJ:=ac hj
 obtain⟨n,hn⟩:=nm (ds.length)
 rw[<-hn] at hds
 have HN:=ac hn
 rw[<-hn]
 clear hj hn hcap h
 go_enter func51,ntmps51
 go_wp2_with fail
 go_loopg [5,6] n (fun g v5 v6 wr=>∃k c:Nat,k<=n/\aa (c=eO ds x k)/\v5=.int .i64 c/\v6=.int .i64 k/\n - k<=g/\wr=w)
 case atStart=>exact⟨0,0,Nat.zero_le _,rfl,rfl,rfl,by omega,rfl⟩
 case round=>
  obtain⟨k,c,hk,hc,rfl,rfl,hg,rfl⟩:=hrel
  by_cases hlt:k<n
  ·have hki:(k:Int)<n:=by omega
   obtain⟨lb,lo,rfl,hlb,hcl⟩:=HJ.out (by rw[<-HN.out];omega)
   have c0:=(hcl k (by rw[<-HN.out];exact hlt)).kind
   have HM:aa (n - (k + 1)<gk/\k + 1<=n):=⟨by omega,hlt⟩
   have hcb:(c:Int)<1000000000:=by have:=lI ds x k;rw[<-hc.out] at this;omega
   obtain⟨z,hz⟩:∃z,z=(ds.getD k {}).kind:=⟨_,rfl⟩
   rw[<-hz] at c0
   have HZ:=ac hz
   clear hcl hg hz
   by_cases hz:z=x
   ·have hzb:(z==x)=true:=by simpa using hz
    have HE:aa (c + 1=eO ds x (k + 1)):=by rw[aa,eO,if_pos (by rw[<-HZ.out];exact hz),hc.out]
    clear hz
    go_wp2_with fail
    go_roundg (n - (k + 1))
    case measure=>exact HM.out.1
    case rel=>exact⟨k + 1,c + 1,HM.out.2,HE.out,by go_num,by go_num,Nat.le_refl _,rfl⟩
   ·have hzb:(z==x)=false:=by simpa using hz
    have HE:aa (c=eO ds x (k + 1)):=by rw[aa,eO,if_neg (by rw[<-HZ.out];exact hz),hc.out]
    clear hz
    go_wp2_with fail
    go_roundg (n - (k + 1))
    case measure=>exact HM.out.1
    case rel=>exact⟨k + 1,c,HM.out.2,HE.out,rfl,by go_num,Nat.le_refl _,rfl⟩
  ·have hki:¬(k:Int)<n:=by omega
   obtain rfl:k=n:=by omega
   go_wp2_with fail
   go_ret
   rw[hc.out]
   exact⟨rfl,rfl⟩
theorem iJ (w:World) (v:Value) (ds:List RecD) (hds:ds.length<1000000000) (h:aX w v ds):Calls prog 30 #[v] w fun e w'=>e=.returned (.int .i64 (dg ds ds.length))/\w'=w:=by
 obtain⟨a,cap,rfl,hcap,hj⟩:=h.cols
 have HJ:=ac hj
 obtain⟨n,hn⟩:=nm (ds.length)
 rw[<-hn] at hds
 have HN:=ac hn
 rw[<-hn]
 clear hj hn hcap h
 go_enter func30,ntmps30
 go_wp2_with fail
 go_loopg [3,4] n (fun g v3 v4 wr=>∃(k:Nat) (x:Int),k<=n/\aa (x=dg ds k)/\v3=.int .i64 x/\v4=.int .i64 k/\n - k<=g/\wr=w)
 case atStart=>exact⟨0,-1,Nat.zero_le _,rfl,rfl,rfl,by omega,rfl⟩
 case round=>
  obtain⟨k,x,hk,hx,rfl,rfl,hg,rfl⟩:=hrel
  by_cases hlt:k<n
  ·have hki:(k:Int)<n:=by omega
   obtain⟨lb,lo,rfl,hlb,hcl⟩:=HJ.out (by rw[<-HN.out];omega)
   have c0:=(hcl k (by rw[<-HN.out];exact hlt)).kind
   have HM:aa (n - (k + 1)<gk/\k + 1<=n):=⟨by omega,hlt⟩
   obtain⟨z,hz⟩:∃z,z=(ds.getD k {}).kind:=⟨_,rfl⟩
   rw[<-hz] at c0
   have HZ:=ac hz
   have HU:aa (dg ds (k + 1)=if z=5\/z=6 then -1 else if z=2 then (k:Int) else x):=by rw[aa,dg,<-hz,hx.out]
   clear hcl hg hz
   by_cases h2:z=2
   ·subst h2
    go_wp2_with fail
    go_roundg (n - (k + 1))
    case measure=>exact HM.out.1
    case rel=>exact⟨k + 1,k,HM.out.2,by rw[HU.out];rfl,rfl,by go_num,Nat.le_refl _,rfl⟩
   have b2:(z==2)=false:=by simpa using h2
   by_cases h5:z=5
   ·subst h5
    clear h2
    go_wp2_with fail
    go_roundg (n - (k + 1))
    case measure=>exact HM.out.1
    case rel=>exact⟨k + 1,-1,HM.out.2,by rw[HU.out];rfl,rfl,by go_num,Nat.le_refl _,rfl⟩
   have b5:(z==5)=false:=by simpa using h5
   by_cases h6:z=6
   ·subst h6
    clear h2 h5
    go_wp2_with fail
    go_roundg (n - (k + 1))
    case measure=>exact HM.out.1
    case rel=>exact⟨k + 1,-1,HM.out.2,by rw[HU.out];rfl,rfl,by go_num,Nat.le_refl _,rfl⟩
   have b6:(z==6)=false:=by simpa using h6
   have HE:aa (x=dg ds (k + 1)):=by rw[aa,HU.out,if_neg (fun h=>h.elim h5 h6),if_neg h2]
   clear h2 h5 h6
   go_wp2_with fail
   go_roundg (n - (k + 1))
   case measure=>exact HM.out.1
   case rel=>exact⟨k + 1,x,HM.out.2,HE.out,rfl,by go_num,Nat.le_refl _,rfl⟩
  ·have hki:¬(k:Int)<n:=by omega
   obtain rfl:k=n:=by omega
   go_wp2_with fail
   go_ret
   rw[hx.out]
   exact⟨rfl,rfl⟩
theorem tS (w:World) (v:Value) (ds:List RecD) (hds:ds.length<1000000000) (h:aX w v ds) (fr:Nat) (hfr:fr<=ds.length) (kd ca:Int):Calls prog 59 #[v,.int .i64 fr,.int .i64 kd,.int .i64 ca] w fun e w'=>e=.returned (.int .i64 (sO ds kd ca fr (ds.length - fr)))/\w'=w:=by
 obtain⟨a,cap,rfl,hcap,hj⟩:=h.cols
 have HJ:=ac hj
 obtain⟨n,hn⟩:=nm (ds.length)
 rw[<-hn] at hds hfr
 have HN:=ac hn
 rw[<-hn]
 obtain⟨T,hT⟩:=nm (sO ds kd ca fr (n - fr))
 rw[<-hT]
 have HT:=ac hT
 clear hj hn hcap h hT
 go_enter func59,ntmps59
 go_wp2_with fail
 go_loopg [9] n (fun g v9 wr=>∃k:Nat,k<=n/\v9=.int .i64 k/\n - k<=g/\wr=w/\aa (T=sO ds kd ca k (n - k)))
 case atStart=>exact⟨fr,hfr,rfl,by omega,rfl,HT.out⟩
 case round=>
  obtain⟨k,hk,rfl,hg,rfl,HP⟩:=hrel
  by_cases hlt:k<n
  ·have hki:(k:Int)<n:=by omega
   obtain⟨lb,lo,rfl,hlb,hcl⟩:=HJ.out (by rw[<-HN.out];omega)
   have c0:=(hcl k (by rw[<-HN.out];exact hlt)).kind
   have c3:=(hcl k (by rw[<-HN.out];exact hlt)).carrier
   have HM:aa (n - (k + 1)<gk/\k + 1<=n):=⟨by omega,hlt⟩
   have HK:aa (k<n):=hlt
   obtain⟨z,hz⟩:∃z,z=(ds.getD k {}).kind:=⟨_,rfl⟩
   obtain⟨y,hy⟩:∃z,z=(ds.getD k {}).carrier:=⟨_,rfl⟩
   rw[<-hz] at c0
   rw[<-hy] at c3
   have HU:aa (T=if z=kd/\y=ca then (k:Int) else sO ds kd ca (k + 1) (n - (k + 1))):=by rw[aa,HP.out,show n - k=(n - (k + 1)) + 1 by omega,sO,<-hz,<-hy]
   clear hz hy
   clear hcl hg
   by_cases h1:z=kd
   ·have b1:(z==kd)=true:=by simpa using h1
    by_cases h2:y=ca
    ·have b2:(y==ca)=true:=by simpa using h2
     have HE:aa (T=(k:Int)):=by rw[aa,HU.out,if_pos ⟨h1,h2⟩]
     clear h1 h2
     go_wp2_with fail
     go_ret
     rw[HE.out]
     exact⟨rfl,rfl⟩
    ·have b2:(y==ca)=false:=by simpa using h2
     have HE:aa (T=sO ds kd ca (k + 1) (n - (k + 1))):=by rw[aa,HU.out,if_neg (fun h=>h2 h.2)]
     clear h1 h2
     go_wp2_with fail
     go_roundg (n - (k + 1))
     case measure=>exact HM.out.1
     case rel=>exact⟨k + 1,HM.out.2,by go_num,Nat.le_refl _,rfl,HE.out⟩
   ·have b1:(z==kd)=false:=by simpa using h1
    have HE:aa (T=sO ds kd ca (k + 1) (n - (k + 1))):=by rw[aa,HU.out,if_neg (fun h=>h1 h.1)]
    clear h1
    go_wp2_with fail
    go_roundg (n - (k + 1))
    case measure=>exact HM.out.1
    case rel=>exact⟨k + 1,HM.out.2,by go_num,Nat.le_refl _,rfl,HE.out⟩
  ·have hki:¬(k:Int)<n:=by omega
   have HE:aa (T=-1):=by rw[aa,HP.out,show n - k=0 by omega];rfl
   go_wp2_with fail
   go_ret
   rw[HE.out]
   exact⟨rfl,rfl⟩
theorem oW (w:World) (v:Value) (ds:List RecD) (hds:ds.length<1000000000) (h:aX w v ds) (rdQ:Int):Calls prog 63 #[v,.int .i64 rdQ] w fun e w'=>e=.returned (.int .i64 (pR ds rdQ))/\w'=w:=by
 obtain⟨a,cap,rfl,hcap,hj⟩:=h.cols
 have HJ:=ac hj
 obtain⟨n,hn⟩:=nm (ds.length)
 rw[<-hn] at hds
 have HN:=ac hn
 obtain⟨T,hT⟩:=nm (pR ds rdQ)
 rw[<-hT,<-hn]
 have HT:aa (T=nB ds rdQ 0 (n - 0)):=by rw[aa,hT,hn];rfl
 clear hj hn hcap h hT
 go_enter func63,ntmps63
 go_wp2_with fail
 go_loopg [5] n (fun g v5 wr=>∃k:Nat,k<=n/\v5=.int .i64 k/\n - k<=g/\wr=w/\aa (T=nB ds rdQ k (n - k)))
 case atStart=>exact⟨0,Nat.zero_le _,rfl,by omega,rfl,HT.out⟩
 case round=>
  obtain⟨k,hk,rfl,hg,rfl,HP⟩:=hrel
  by_cases hlt:k<n
  ·have hki:(k:Int)<n:=by omega
   obtain⟨lb,lo,rfl,hlb,hcl⟩:=HJ.out (by rw[<-HN.out];omega)
   have c0:=(hcl k (by rw[<-HN.out];exact hlt)).kind
   have c1:=(hcl k (by rw[<-HN.out];exact hlt)).round
   have c2:=(hcl k (by rw[<-HN.out];exact hlt)).lot
   have HM:aa (n - (k + 1)<gk/\k + 1<=n):=⟨by omega,hlt⟩
   have HK:aa (k<ds.length):=by rw[<-HN.out];exact hlt
   obtain⟨z,hz⟩:∃z,z=(ds.getD k {}).kind:=⟨_,rfl⟩
   obtain⟨y,hy⟩:∃z,z=(ds.getD k {}).round:=⟨_,rfl⟩
   obtain⟨q,hq⟩:∃z,z=(ds.getD k {}).lot:=⟨_,rfl⟩
   rw[<-hz] at c0
   rw[<-hy] at c1
   rw[<-hq] at c2
   have HU:aa (T=if z=2/\y=rdQ then q else nB ds rdQ (k + 1) (n - (k + 1))):=by rw[aa,HP.out,show n - k=(n - (k + 1)) + 1 by omega,nB,<-hz,<-hy,<-hq]
   clear hcl hg hz hy hq
   by_cases h1:z=2
   ·subst h1
    by_cases h2:y=rdQ
    ·have b2:(y==rdQ)=true:=by simpa using h2
     have HE:aa (T=q):=by rw[aa,HU.out,if_pos ⟨rfl,h2⟩]
     clear h2
     go_wp2_with fail
     go_ret
     rw[HE.out]
     exact⟨rfl,rfl⟩
    ·have b2:(y==rdQ)=false:=by simpa using h2
     have HE:aa (T=nB ds rdQ (k + 1) (n - (k + 1))):=by rw[aa,HU.out,if_neg (fun h=>h2 h.2)]
     clear h2
     go_wp2_with fail
     go_roundg (n - (k + 1))
     case measure=>exact HM.out.1
     case rel=>exact⟨k + 1,HM.out.2,by go_num,Nat.le_refl _,rfl,HE.out⟩
   ·have b1:(z==2)=false:=by simpa using h1
    have HE:aa (T=nB ds rdQ (k + 1) (n - (k + 1))):=by rw[aa,HU.out,if_neg (fun h=>h1 h.1)]
    clear h1
    go_wp2_with fail
    go_roundg (n - (k + 1))
    case measure=>exact HM.out.1
    case rel=>exact⟨k + 1,HM.out.2,by go_num,Nat.le_refl _,rfl,HE.out⟩
  ·have hki:¬(k:Int)<n:=by omega
   have HE:aa (T=-1):=by rw[aa,HP.out,show n - k=0 by omega];rfl
   go_wp2_with fail
   go_ret
   rw[HE.out]
   exact⟨rfl,rfl⟩
theorem sQ (w:World) (v:Value) (ds:List RecD) (hds:ds.length<1000000000) (h:aX w v ds) (h0:0<ds.length) (lot:Int):Calls prog 52 #[v,.int .i64 lot] w fun e w'=>e=.returned (.int .i64 (gD ds lot))/\w'=w:=by
 have HRA:=ac h
 obtain⟨a,cap,rfl,hcap,hj⟩:=h.cols
 have HJ:=ac hj
 obtain⟨lb,lo,rfl,hlb,hcl⟩:=hj h0
 have HCL:=ac hcl
 obtain⟨lv,e47,⟨la,lc,rfl,hlc,_⟩⟩:=(hcl 0 h0).lots
 rw[Nat.zero_mul,Nat.add_zero] at e47
 obtain⟨ln,hln⟩:∃x,x=(ds.getD 0 {}).lots.length:=⟨_,rfl⟩
 rw[<-hln] at e47 hlc
 have HLN:=ac hln
 obtain⟨n,hn⟩:=nm (ds.length)
 rw[<-hn] at h0 HRA hds
 have HN:=ac hn
 obtain⟨T,hT⟩:=nm (gD ds lot)
 have HT:=ac hT
 rw[<-hn,<-hT]
 have hn0:((n:Int)==0)=false:=by simp;omega
 clear hj hn hcap h hcl hln hT
 by_cases hl0:lot<0
 ·have HE:aa (T=-1):=by rw[aa,HT.out,gD,if_pos (.inl hl0)]
  have b0:decide (lot<0)=true:=by simpa using hl0
  clear hl0
  go_enter func52,ntmps52
  go_wp2_with fail
  go_ret
  rw[HE.out]
  exact⟨rfl,rfl⟩
 have b0:decide (lot<0)=false:=by simpa using hl0
 by_cases hl1:(ln:Int)<=lot
 ·have HE:aa (T=-1):=by rw[aa,HT.out,gD,if_pos (.inr (by rw[<-HLN.out];exact hl1))]
  have b1:decide ((ln:Int)<=lot)=true:=by simpa using hl1
  clear hl0 hl1
  go_enter func52,ntmps52
  go_wp2_with fail
  go_ret
  rw[HE.out]
  exact⟨rfl,rfl⟩
 have b1:decide ((ln:Int)<=lot)=false:=by simpa using hl1
 have HE:aa (T=lJ ds lot n):=by rw[aa,HT.out,gD,if_neg (fun h=>h.elim hl0 (fun h=>hl1 (by rw[HLN.out];exact h))),<-HN.out]
 clear hl0 hl1
 go_enter func52,ntmps52
 go_wp2_with fail
 clear e47 b0 b1 hn0
 go_loopg [5,6] n (fun g v5 v6 wr=>∃(k:Nat) (s:Int),k<=n/\aa (s=lJ ds lot k)/\v5=.int .i64 s/\v6=.int .i64 k/\n - k<=g/\wr=w)
 case atStart=>exact⟨0,0,Nat.zero_le _,rfl,rfl,rfl,by omega,rfl⟩
 case round=>
  obtain⟨k,s,hk,hs,rfl,rfl,hg,rfl⟩:=hrel
  by_cases hlt:k<n
  ·have hki:(k:Int)<n:=by omega
   have hkd:k<ds.length:=by rw[<-HN.out];exact hlt
   have c0:=(HCL.out k hkd).kind
   have c1:=(HCL.out k hkd).round
   have c2:=(HCL.out k hkd).lot
   have c40:=(HCL.out k hkd).state
   have HM:aa (n - (k + 1)<gk/\k + 1<=n):=⟨by omega,hlt⟩
   obtain⟨z,hz⟩:∃z,z=(ds.getD k {}).kind:=⟨_,rfl⟩
   obtain⟨rdQ,hrd⟩:∃z,z=(ds.getD k {}).round:=⟨_,rfl⟩
   obtain⟨q,hq⟩:∃z,z=(ds.getD k {}).lot:=⟨_,rfl⟩
   obtain⟨t,ht⟩:∃z,z=(ds.getD k {}).state:=⟨_,rfl⟩
   rw[<-hz] at c0
   rw[<-hrd] at c1
   rw[<-hq] at c2
   rw[<-ht] at c40
   have HU:aa (lJ ds lot (k + 1)=if z=2 then (if q=lot then 1 else if lot<q/\s=0 then 5 else s) else if z=5 then (if pR ds rdQ=lot then t else s) else if z=6 then (if s=0\/s=1 then 5 else s) else s):=by
    rw[aa,lJ,xJ,<-hz,<-hrd,<-hq,<-ht,<-hs.out]
   clear hg hz hrd hq ht hkd
   by_cases h2:z=2
   ·subst h2
    rw[if_pos rfl] at HU
    by_cases hql:q=lot
    ·have bq:(q==lot)=true:=by simpa using hql
     rw[if_pos hql] at HU
     clear hql
     go_wp2_with fail
     go_roundg (n - (k + 1))
     case measure=>exact HM.out.1
     case rel=>exact⟨k + 1,1,HM.out.2,HU.out.symm,rfl,by go_num,Nat.le_refl _,rfl⟩
    have bq:(q==lot)=false:=by simpa using hql
    rw[if_neg hql] at HU
    by_cases hg2:lot<q
    ·have bg:decide (lot<q)=true:=by simpa using hg2
     by_cases hs0:s=0
     ·subst hs0
      rw[if_pos ⟨hg2,rfl⟩] at HU
      clear hql hg2
      go_wp2_with fail
      go_roundg (n - (k + 1))
      case measure=>exact HM.out.1
      case rel=>exact⟨k + 1,5,HM.out.2,HU.out.symm,rfl,by go_num,Nat.le_refl _,rfl⟩
     ·have bs:(s==0)=false:=by simpa using hs0
      rw[if_neg (fun h=>hs0 h.2)] at HU
      clear hql hg2 hs0
      go_wp2_with fail
      go_roundg (n - (k + 1))
      case measure=>exact HM.out.1
      case rel=>exact⟨k + 1,s,HM.out.2,HU.out.symm,rfl,by go_num,Nat.le_refl _,rfl⟩
    ·have bg:decide (lot<q)=false:=by simpa using hg2
     rw[if_neg (fun h=>hg2 h.1)] at HU
     clear hql hg2
     go_wp2_with fail
     go_roundg (n - (k + 1))
     case measure=>exact HM.out.1
     case rel=>exact⟨k + 1,s,HM.out.2,HU.out.symm,rfl,by go_num,Nat.le_refl _,rfl⟩
   have b2:(z==2)=false:=by simpa using h2
   rw[if_neg h2] at HU
   by_cases h5:z=5
   ·subst h5
    rw[if_pos rfl] at HU
    clear h2
    go_wp2_with fail
    refine (oW _ (.slice (some ⟨lb,lo,none⟩) n cap) ds (by rw[<-HN.out];exact hds) (by have:=HRA.out;exact this) rdQ).mono ?_
    rintro e wr ⟨rfl,rfl⟩
    obtain⟨y,hy⟩:=nm (pR ds rdQ)
    rw[<-hy] at HU ⊢
    clear hy
    by_cases hyl:y=lot
    ·have by':(y==lot)=true:=by simpa using hyl
     rw[if_pos hyl] at HU
     clear hyl
     go_wp2_with fail
     go_roundg (n - (k + 1))
     case measure=>exact HM.out.1
     case rel=>exact⟨k + 1,t,HM.out.2,HU.out.symm,rfl,by go_num,Nat.le_refl _,rfl⟩
    ·have by':(y==lot)=false:=by simpa using hyl
     rw[if_neg hyl] at HU
     clear hyl
     go_wp2_with fail
     go_roundg (n - (k + 1))
     case measure=>exact HM.out.1
     case rel=>exact⟨k + 1,s,HM.out.2,HU.out.symm,rfl,by go_num,Nat.le_refl _,rfl⟩
   have b5:(z==5)=false:=by simpa using h5
   rw[if_neg h5] at HU
   by_cases h6:z=6
   ·subst h6
    rw[if_pos rfl] at HU
    clear h2 h5
    by_cases hs0:s=0
    ·subst hs0
     rw[if_pos (.inl rfl)] at HU
     go_wp2_with fail
     go_roundg (n - (k + 1))
     case measure=>exact HM.out.1
     case rel=>exact⟨k + 1,5,HM.out.2,HU.out.symm,rfl,by go_num,Nat.le_refl _,rfl⟩
    have bs0:(s==0)=false:=by simpa using hs0
    by_cases hs1:s=1
    ·subst hs1
     rw[if_pos (.inr rfl)] at HU
     clear hs0
     go_wp2_with fail
     go_roundg (n - (k + 1))
     case measure=>exact HM.out.1
     case rel=>exact⟨k + 1,5,HM.out.2,HU.out.symm,rfl,by go_num,Nat.le_refl _,rfl⟩
    have bs1:(s==1)=false:=by simpa using hs1
    rw[if_neg (fun h=>h.elim hs0 hs1)] at HU
    clear hs0 hs1
    go_wp2_with fail
    go_roundg (n - (k + 1))
    case measure=>exact HM.out.1
    case rel=>exact⟨k + 1,s,HM.out.2,HU.out.symm,rfl,by go_num,Nat.le_refl _,rfl⟩
   have b6:(z==6)=false:=by simpa using h6
   rw[if_neg h6] at HU
   clear h2 h5 h6
   go_wp2_with fail
   go_roundg (n - (k + 1))
   case measure=>exact HM.out.1
   case rel=>exact⟨k + 1,s,HM.out.2,HU.out.symm,rfl,by go_num,Nat.le_refl _,rfl⟩
  ·have hki:¬(k:Int)<n:=by omega
   obtain rfl:k=n:=by omega
   go_wp2_with fail
   go_ret
   rw[HE.out,hs.out]
   exact⟨rfl,rfl⟩
def j8:List Int->RecD->Bool:=fun _ _=>false
def lateD:List RecD:=[scnC,jJ,{fy with tick:=5},{fy with carrier:=1}]
def oe:RecD:={kind:=6}
theorem uU:eS j8 {} (iY (2,1,50)) 0=none:=by kernel_rfl
theorem qU:(eC j8 {} (iY (2,1,50))).owners=[0,1]:=by kernel_rfl
theorem uV:(eC j8 {} (iY (2,1,50))).outs=[(2,1,50)]:=by kernel_rfl
theorem uW:eS j8 {} lateD 0=some (22,3):=by kernel_rfl
theorem uX:eS j8 {} (iY (2,1,9)) 0=some (22,5):=by kernel_rfl
theorem xK:eS j8 {} [oe] 0=some (22,0):=by kernel_rfl
theorem uY (A B:Nat):([lH A B,aN jJ,aN {fy with tick:=5},aN {fy with carrier:=1}].flatMap fun r=>(ae r).toList)=(([lH A B,aN jJ,aN fy,aN fy].flatMap fun r=>(ae r).toList).set 102 (.int .i64 5)).set 150 (.int .i64 1):=by kernel_rfl
theorem sS (a b c x y z:Int) (w:World):(binOp .eql 46 (.agg #[.int .i64 a,.int .i64 b,.int .u64 c]) (.agg #[.int .i64 x,.int .i64 y,.int .u64 z])).run prog w=.ok (.bool (a==x &&(b==y &&c==z))) w:=by
 have u3:=underlying3
 have a3:=Tryz.isAgg3
 have z3:=Tryz.sizeOf3
 have u40:=underlying44
 have a40:=Tryz.isAgg44
 have z40:=Tryz.sizeOf44
 rw[run_eql_struct,show (10000:Nat)=9999 + 1 from rfl,run_equalIn_agg w 9999 46 _ _ (by kernel_rfl) (by kernel_rfl)]
 simp only[Program.fieldsOf,underlying46]
 go_simp
 by_cases h1:a=x <;> by_cases h2:b=y <;> by_cases h3:c=z <;> simp[h1,h2,h3]
theorem cO {ops:Array Oper} {o:Oper} {a:Act} {K:Act->World->Prop} {Q:Exit->Act->World->Prop} {E':Prop} {w:World} (hgd:o.guard=none) (s x:Operand) (t:TypeId)
  (ho:o.op=.call {callee:=.builtin .append,args:=#[s,x],argTypes:=#[t,t]}) (e:TypeId) (z:Value) (size bytes:Nat) (ht:prog.underlying t=some (.slice e)) (hE:(prog.info? e).map (fun i=>(i.zero,i.size,i.bytes))=some (some z,size,bytes)) (hzs:z.cells.size=size) (hsz:0<size)
  (base:Nat) (v:Value) (n:Nat) (xs:List Value) (hs:a.eval s=v) (hown:w.ownsRow base e size v n xs) (g lo m c:Nat) (y:List Value) (hx:a.eval x=.slice (some ⟨g,lo,none⟩) m c) (hy1:y.length=m * size) (hy:∀j u,y[j]?=some u->w.cell? ⟨g,lo + j,none⟩=some u) (hone:∀u∈y,u.oneCell'=true)
  (hlen:n + m<=maxLen) (hby:(n + m) * bytes<=140737488355328) (hbase:base<=w.heap.size)
  (h:∀v' w',w'.ownsRow base e size v' (n + m) (xs++y)->w.grownBy w' v.ownBlock->(v'.ownBlock=v.ownBlock\/v'.ownBlock=some w.heap.size)->K (a.put o.dst v') w'):
  if Region.wanted o (yielded ops a.tmps)=true then Oper.wp prog o a w K Q else E':=by
 have hw:Region.wanted o (yielded ops a.tmps)=true:=by simp[Region.wanted,hgd]
 rw[if_pos hw]
 obtain⟨i,hi,hz,h1,h2⟩:=info_parts hE
 obtain⟨v',w',hr,r1,r2,_,r4⟩:=run_append_own_at (P:=prog) w base t o.type e i z size bytes ht hi hz h1 h2 hzs hsz v n xs hown ⟨g,lo,none⟩ m c y hy1 (fun j u hu=>by
  rw[show (⟨g,lo,none⟩:Addr).add j=⟨g,lo + j,none⟩ by simp only[Addr.add];split <;> simp_all]
  exact hy j u hu) hone hlen hby hbase
 unfold Oper.wp execOp
 simp only[ho,resolve,invoke,builtin,Sem.run_bind,Sem.run_pure,Result.andThen_ok,List.map_toArray,List.map_cons,List.map_nil,hs,hx,hr]
 exact h v' w' r1 r2 r4
theorem lY (w:World):(Instr.buildSlice 29 0 #[]).run prog w=.ok (.slice (some ⟨w.heap.size,0,none⟩) 0 0) (w.alloc (.cells #[] 49)):=by kernel_rfl
theorem qV (r0 r1:RecV) (w:World):(Instr.buildSlice 29 2 #[(0,.agg (ae r0)),(1,.agg (ae r1))]).run prog w=.ok (.slice (some ⟨w.heap.size,0,none⟩) 2 2) (w.alloc (.cells ([r0,r1].flatMap fun r=>(ae r).toList).toArray 49)):=by
 have hf:=lA [r0,r1] [] ((Array.range (2 * 49)).map ((ae {})[· % (ae {}).size]!)).toList 0 rfl (lB _ _)
 rw[List.nil_append,List.nil_append,Array.toArray_toList] at hf
 exact ng 2 (by decide) (by decide) [(0,.agg (ae r0)),(1,.agg (ae r1))] _ hf w
theorem qW (r0:RecV) (w:World):(Instr.buildSlice 29 1 #[(0,.agg (ae r0))]).run prog w=.ok (.slice (some ⟨w.heap.size,0,none⟩) 1 1) (w.alloc (.cells ([r0].flatMap fun r=>(ae r).toList).toArray 49)):=by
 have hf:=lA [r0] [] ((Array.range (1 * 49)).map ((ae {})[· % (ae {}).size]!)).toList 0 rfl (lB _ _)
 rw[List.nil_append,List.nil_append,Array.toArray_toList] at hf
 exact ng 1 (by decide) (by decide) [(0,.agg (ae r0))] _ hf w
theorem aP {P:Program} {ops:Array Oper} {o:Oper} {a:Act} {K:Act->World->Prop} {Q:Exit->Act->World->Prop} {E':Prop} {w w1:World} (hgd:Region.wanted o (yielded ops a.tmps)=true) (t:TypeId) (n:Nat) (l:List (Nat × Operand)) (ho:o.op=.buildSlice t n l.toArray)
  (ql:List (Nat × Value)) (hq:(l.map fun x=>(x.1,a.eval x.2))=ql) (v:Value) (hr:(Instr.buildSlice t n ql.toArray).run P w=.ok v w1) (h:K (a.put o.dst v) w1):
  if Region.wanted o (yielded ops a.tmps)=true then Oper.wp P o a w K Q else E':=by
 rw[if_pos hgd]
 subst hq
 unfold Oper.wp execOp
 simp only[ho]
 simp[hr]
 exact h
def qX (A B:Nat):List Value:=[lH A B,aN jJ,aN fy,aN fy].flatMap fun r=>(ae r).toList
structure xL (w0:World) (W:World) (g A B:Nat) (v:Value):Prop where
 chap:dM w0.heap.size W g A B (2,1,50)
 row:W.ownsRow w0.heap.size 49 49 v 4 (qX A B)
 bel:Below w0.heap.size w0 W
 ne:∀k,v.ownBlock=some k->k≠g
def mp (A B:Nat):List Value:=[lH A B,aN jJ].flatMap fun r=>(ae r).toList
def comR:List Value:=[aN fy,aN fy].flatMap fun r=>(ae r).toList
theorem nD (A B:Nat):(mp A B).length=2 * 49:=by kernel_rfl
theorem nE (A B:Nat):∀u∈mp A B,u.oneCell'=true:=by
 have:(mp A B).all (·.oneCell')=true:=by kernel_rfl
 exact List.all_eq_true.1 this
theorem nF:∀u∈comR,u.oneCell'=true:=by
 have:comR.all (·.oneCell')=true:=by kernel_rfl
 exact List.all_eq_true.1 this
theorem nG (A B:Nat) {j:Nat} {u:Value} (hu:(mp A B)[j]?=some u):(((lW A B (2,1,50)).flatMap fun r=>(ae r).toList).toArray)[j]?=some u:=by
 have e:((lW A B (2,1,50)).flatMap fun r=>(ae r).toList)=mp A B++([aN fy,aN kQ,aN pQ,aN (iw (2,1,50))].flatMap fun r=>(ae r).toList):=by
  rw[mp,<-List.flatMap_append];rfl
 rw[e,List.getElem?_toArray,List.getElem?_append_left (List.getElem?_eq_some_iff.1 hu).1]
 exact hu
theorem dM.keeps {K:Nat->Prop} {B0:Nat} {w w':World} {g A B:Nat} {o:OutT} (h:dM B0 w g A B o) (hk:am K w w') (h1:K g) (h2:K A) (h3:K B):dM B0 w' g A B o:=
 ⟨aw h.row hk h1,aw h.lots hk h2,aw h.owners hk h3,h.g0,h.A0,h.B0'⟩
theorem nH {w w1 W:World} {g A B:Nat} {v4:Value} (hb:Below w.heap.size w w1) (hc:dM w.heap.size w1 g A B (2,1,50)) (hg:g<w1.heap.size/\A<w1.heap.size/\B<w1.heap.size) (hk:am (·<w1.heap.size) w1 W)
  (hv:W.ownsRow w1.heap.size 49 49 v4 (0 + 2 + 2) ([]++mp A B++comR)):xL w W g A B v4:=by
 refine⟨hc.keeps hk hg.1 hg.2.1 hg.2.2,?_,?_,fun k hk2 e=>?_⟩
 ·have e:qX A B=[]++mp A B++comR:=by rw[List.nil_append,qX,mp,comR,<-List.flatMap_append];rfl
  rw[e];exact bY hv hb.size
 ·exact⟨hk.os.trans hb.os,hk.tape.trans hb.tape,hk.output.trans hb.output,Nat.le_trans hb.size hk.size,fun j hj=>(hk.block j (Nat.lt_of_lt_of_le hj hb.size) (Nat.lt_of_lt_of_le hj hb.size)).trans (hb.block j hj)⟩
 ·have:=(World.ownsRow.lt hv k hk2).1;omega
theorem gU {base:Nat} {E:TypeId} {size n:Nat} {w:World} {v:Value} {xs:List Value} (hn:0<n) (h:w.ownsRow base E size v n xs):∃g cap cur,v=.slice (some ⟨g,0,none⟩) n cap/\base<=g/\w.heap[g]?=some (.cells cur E (0,0))/\n<=cap/\cap<=maxLen/\cur.size=cap * size/\∀j u,xs[j]?=some u->w.cell? ⟨g,j,none⟩=some u:=by
 obtain⟨a,c,e,_,hx⟩:=az h
 obtain⟨g',ea,_,_,hj⟩:=hx hn
 rcases h.2 with ⟨_,h0⟩ | ⟨g,cap,cur,e2,hb,hg,h1,h2,h3,_⟩
 ·omega
 ·rw[e2] at e
  injection e with e3 e4 e5
  rw[ea] at e3
  obtain rfl:g=g':=by injection e3 with e3;injection e3
  exact⟨g,cap,cur,e2,hb,hg,h1,h2,h3,hj⟩
theorem aB {K:Nat->Prop} {w w2 w3:World} (h:Below w.heap.size w w2) (hk:am K w2 w3) (hK:∀k,k<w.heap.size->K k):Below w.heap.size w w3:=
 ⟨hk.os.trans h.os,hk.tape.trans h.tape,hk.output.trans h.output,Nat.le_trans h.size hk.size,fun j hj=>(hk.block j (Nat.lt_of_lt_of_le hj h.size) (hK j hj)).trans (h.block j hj)⟩
theorem xM {w:World} {g cap:Nat} {cur:Array Value} {rvs:List RecV} {ds:List RecD} (hl:rvs.length=ds.length) (hg:w.heap[g]?=some (.cells cur 49 (0,0))) (hc:ds.length<=cap)
  (hrow:∀(k:Nat) (u:Value),(rvs.flatMap fun r=>(ae r).toList)[k]?=some u->cur[k]?=some u) (hat:∀j,j<ds.length->bu w (rvs.getD j {}) (ds.getD j {})):aX w (.slice (some ⟨g,0,none⟩) ds.length cap) ds:=by
 refine⟨_,cap,fun j=>rvs.getD j {},rfl,hc,fun _=>⟨g,0,rfl,aK hg,fun j hj i v hv=>?_⟩,hat⟩
 have hi:i<49:=by
  have:=(List.getElem?_eq_some_iff.1 hv).1
  rw[Array.length_toList,aj] at this
  exact this
 have:=lz rvs j i hi
 rw[if_pos (by omega),hv] at this
 rw[Nat.zero_add,aq hg]
 exact hrow _ _ this
theorem uZ {B0:Nat} {w:World} {g A B Lb cap:Nat} {cur:Array Value} {o:OutT} (hc:dM B0 w g A B o) (hg:w.heap[Lb]?=some (.cells ((cur.setIfInBounds 102 (.int .i64 5)).setIfInBounds 150 (.int .i64 1)) 49 (0,0))) (hcap:4<=cap)
  (hrow:∀(k:Nat) (u:Value),(qX A B)[k]?=some u->cur[k]?=some u):aX w (.slice (some ⟨Lb,0,none⟩) 4 cap) lateD:=
 xM (rvs:=[lH A B,aN jJ,aN {fy with tick:=5},aN {fy with carrier:=1}]) (ds:=lateD) rfl hg hcap (fun k u hu=>by
  rw[uY A B] at hu
  have hs:∀k,k<196->k<cur.size:=fun k hk=>by
   have hl:(qX A B).length=196:=by kernel_rfl
   have:=hrow k _ (List.getElem?_eq_getElem (by rw[hl];exact hk))
   exact (Array.getElem?_eq_some_iff.1 this).1
  by_cases e1:k=150
  ·subst e1
   have h1:((([lH A B,aN jJ,aN fy,aN fy].flatMap fun r=>(ae r).toList).set 102 (.int .i64 5)).set 150 (.int .i64 1))[150]?=some (.int .i64 1):=by kernel_rfl
   rw[Array.getElem?_setIfInBounds_self_of_lt (by rw[Array.size_setIfInBounds];exact hs 150 (by decide))]
   exact h1.symm.trans hu
  ·rw[Array.getElem?_setIfInBounds_ne (Ne.symm e1)]
   rw[List.getElem?_set_ne (Ne.symm e1)] at hu
   by_cases e2:k=102
   ·subst e2
    have h1:(([lH A B,aN jJ,aN fy,aN fy].flatMap fun r=>(ae r).toList).set 102 (.int .i64 5))[102]?=some (.int .i64 5):=by kernel_rfl
    rw[Array.getElem?_setIfInBounds_self_of_lt (hs 102 (by decide))]
    exact h1.symm.trans hu
   ·rw[Array.getElem?_setIfInBounds_ne (Ne.symm e2)]
    rw[List.getElem?_set_ne (Ne.symm e2)] at hu
    exact hrow k u hu) fun j hj=>by
  match j,hj with
  | 0,_=>exact hc.recV
  | 1,_ | 2,_ | 3,_=>exact ny w rfl rfl rfl
  | _ + 4,h=>exact absurd h (by simp[lateD])
theorem tT:scnC.ok:=⟨List.length_replicate,dL,by decide,by decide,by decide,by decide,by decide,by decide,by decide,by decide,by decide,by decide,by decide,by decide⟩
theorem tU:jJ.ok:=⟨List.length_replicate,dL,by decide,by decide,by decide,by decide,by decide,by decide,by decide,by decide,by decide,by decide,by decide,by decide⟩
theorem zq:fy.ok:=⟨List.length_replicate,dL,by decide,by decide,by decide,by decide,by decide,by decide,by decide,by decide,by decide,by decide,by decide,by decide⟩
theorem xN:kQ.ok:=⟨List.length_replicate,dL,by decide,by decide,by decide,by decide,by decide,by decide,by decide,by decide,by decide,by decide,by decide,by decide⟩
theorem zr:pQ.ok:=⟨List.length_replicate,dL,by decide,by decide,by decide,by decide,by decide,by decide,by decide,by decide,by decide,by decide,by decide,by decide⟩
theorem zs:oe.ok:=⟨List.length_replicate,dL,by decide,by decide,by decide,by decide,by decide,by decide,by decide,by decide,by decide,by decide,by decide,by decide⟩
theorem zt (o:OutT) (h:0<=o.2.2/\o.2.2<=18446744073709551615):(iw o).ok:=⟨List.length_replicate,dL,by simp[iw],by simp[iw],by simp[iw],h,by simp[iw],by simp[iw],by simp[iw],by simp[iw],by simp[iw],by simp[iw],by simp[iw],by simp[iw]⟩
theorem zu (o:OutT) (h:0<=o.2.2/\o.2.2<=18446744073709551615):∀d∈iY o,d.ok:=by
 intro d hd
 simp only[iY,List.mem_cons,List.mem_nil_iff,or_false] at hd
 rcases hd with rfl | rfl | rfl | rfl | rfl | rfl
 ·exact tT
 ·exact tU
 ·exact zq
 ·exact xN
 ·exact zr
 ·exact zt o h
theorem tV (opf:List Int->RecD->Bool) {P:MSt->Prop} {w:World} {v:Value} {ds:List RecD} (h:jt P opf w v ds):Calls prog 19 #[v] w (qO opf ds w):=qQ opf P h.init w v ds h.small h.at_ h.ok h.step h.rev
theorem tW {B0:Nat} {w:World} {g A B:Nat} {o:OutT} (h:dM B0 w g A B o) (ho:0<=o.2.2/\o.2.2<=18446744073709551615):jt fV j8 w (.slice (some ⟨g,0,none⟩) 6 6) (iY o):=
 .handle (by simp[iY]) h.recs (zu o ho) (fun d hd hk=>by
  simp only[iY,List.mem_cons,List.mem_nil_iff,or_false] at hd
  rcases hd with rfl | rfl | rfl | rfl | rfl | rfl
  ·decide
  all_goals exact absurd hk (by simp[jJ,fy,kQ,pQ,iw]))
theorem zv {w:World} {Lb cap:Nat} (h:aX w (.slice (some ⟨Lb,0,none⟩) 4 cap) lateD):jt fV j8 w (.slice (some ⟨Lb,0,none⟩) 4 cap) lateD:=
 .handle (by decide) h (fun d hd=>by
  simp only[lateD,List.mem_cons,List.mem_nil_iff,or_false] at hd
  rcases hd with rfl | rfl | rfl | rfl
  ·exact tT
  ·exact tU
  ·exact⟨List.length_replicate,dL,by decide,by decide,by decide,by decide,by decide,by decide,by decide,by decide,by decide,by decide,by decide,by decide⟩
  ·exact⟨List.length_replicate,dL,by decide,by decide,by decide,by decide,by decide,by decide,by decide,by decide,by decide,by decide,by decide,by decide⟩) (fun d hd hk=>by
  simp only[lateD,List.mem_cons,List.mem_nil_iff,or_false] at hd
  rcases hd with rfl | rfl | rfl | rfl
  ·decide
  all_goals exact absurd hk (by decide))
theorem AI {w:World} {g:Nat} (h:aX w (.slice (some ⟨g,0,none⟩) 1 1) [oe]):jt fV j8 w (.slice (some ⟨g,0,none⟩) 1 1) [oe]:=
 .handle (by decide) h (fun d hd=>by
  obtain rfl:=List.mem_singleton.1 hd
  exact zs) (fun d hd hk=>by
  obtain rfl:=List.mem_singleton.1 hd
  exact absurd hk (by decide))
theorem sT (w:World):(Instr.build 49 #[(0,.int .i64 6)]).run prog w=.ok (.agg (ae (aN oe))) w:=by kernel_rfl
theorem AJ (w:World):jt fV j8 w (.slice none 0 0) []:=
 .handle (by decide) ⟨none,0,fun _=>{},rfl,Nat.le_refl _,fun h=>absurd h (by decide),fun j h=>absurd h (by simp)⟩ (fun d hd=>by cases hd) (fun d hd=>by cases hd)
structure DW (ds:List RecD):Prop where
 ne:0<ds.length
 small:ds.length<1000000
 scn:Bo (ds.getD 0 {})
 reqs:∀k,k<(ds.getD 0 {}).lots.length->0<=((ds.getD 0 {}).lots.getD k (0,0)).1/\((ds.getD 0 {}).lots.getD k (0,0)).1<(ds.getD 0 {}).owners.length
 opn:∀j,j<ds.length->(ds.getD j {}).kind=2->0<=(ds.getD j {}).lot/\(ds.getD j {}).lot<(ds.getD 0 {}).lots.length
 cls:∀j,j<ds.length->(ds.getD j {}).kind=5->∃i,i<ds.length/\(ds.getD i {}).kind=2/\(ds.getD i {}).round=(ds.getD j {}).round
 may:∀d∈ds,cF d=true/\d.ok
theorem DW.at_ {ds:List RecD} (h:DW ds) {j:Nat} (hj:j<ds.length):cF (ds.getD j {})=true/\(ds.getD j {}).ok:=by
 refine h.may _ ?_
 rw[List.getD_eq_getElem?_getD,List.getElem?_eq_getElem hj]
 exact List.getElem_mem _
theorem DW.lot {ds:List RecD} (h:DW ds) {j:Nat} (hj:j<ds.length) (hk:(ds.getD j {}).kind=5):0<=pR ds (ds.getD j {}).round/\pR ds (ds.getD j {}).round<(ds.getD 0 {}).lots.length:=by
 rcases tR ds (ds.getD j {}).round ds.length 0 with ⟨_,h2⟩ | ⟨i,h1,h2,_,h3⟩
 ·obtain⟨i,hi,hik,hir⟩:=h.cls j hj hk
  exact absurd hir (h2 i (Nat.zero_le _) (by omega) hik)
 ·rw[pR,h3]
  exact h.opn i (by omega) h2
theorem DW.opened {ds:List RecD} (h:DW ds):dg ds ds.length=-1\/∃k:Nat,dg ds ds.length=k/\k<ds.length/\(ds.getD k {}).kind=2/\0<=(ds.getD k {}).lot/\(ds.getD k {}).lot<(ds.getD 0 {}).lots.length:=by
 rcases nA ds ds.length with e | ⟨k,e,hk,h2⟩
 ·exact .inl e
 ·exact .inr ⟨k,e,hk,h2,h.opn k hk h2⟩
def ju (w:World) (n:Nat) (v:Value) (w':World):Prop:=Below w.heap.size w w'/\∃xs:List Int,xs.length=n/\w'.ownsRow w.heap.size 3 1 v n (xs.map (Value.int .i64))
theorem ju.drew {w w':World} {n:Nat} {v:Value} (h:ju w n v w'):ju w n v w'.drew:=⟨h.1.drew,h.2⟩
theorem jv (w:World) (v:Value) (ds:List RecD) (h:aX w v ds) (hd:DW ds):Calls prog 36 #[v] w fun e w'=>∃u,e=.returned u/\ju w (ds.getD 0 {}).owners.length u w':=by
 have HRA:=ac h
 have HD:=ac hd
 obtain⟨a,cap,rfl,hcap,hj⟩:=h.cols
 obtain⟨lb,lo,rfl,hlb,hcl⟩:=hj hd.ne
 have HLB:=ac hlb
 have HCL:=ac hcl
 have hds:ds.length<1000000:=hd.small
 obtain⟨lv,e47,⟨la,lc,rfl,hlc,hla⟩⟩:=(hcl 0 hd.ne).lots
 obtain⟨ov,e48,⟨oa,oc,rfl,hoc,hoa⟩⟩:=(hcl 0 hd.ne).owners
 rw[Nat.zero_mul,Nat.add_zero] at e47 e48
 obtain⟨ln,hln⟩:∃x,x=(ds.getD 0 {}).lots.length:=⟨_,rfl⟩
 obtain⟨on,hon⟩:∃x,x=(ds.getD 0 {}).owners.length:=⟨_,rfl⟩
 have hon64:on<=64:=by rw[hon];exact hd.scn.nown
 rw[<-hln] at e47 hlc hla
 rw[<-hon] at e48 hoc hoa ⊢
 have HLN:=ac hln
 have HON:=ac hon
 have HLA:=ac hla
 have HOA:=ac hoa
 obtain⟨n,hn⟩:=nm (ds.length)
 have hn0:((n:Int)==0)=false:=by have:=hd.ne;simp;omega
 have hn1:(0:Int)<n:=by have:=hd.ne;omega
 have hn2:0<n:=by omega
 have HN:=ac hn
 rw[<-hn] at hds HRA
 rw[<-hn]
 have E47:aa (w.cell? ⟨lb,lo + 47,none⟩=some (.slice la ln lc)):=e47
 have ky:((ds.getD 0 {}).owners.map (Value.int .i64)).length=on * 1:=by rw[List.length_map,<-hon,Nat.mul_one]
 obtain⟨ys,hys⟩:∃ys,ys=(ds.getD 0 {}).owners.map (Value.int .i64):=⟨_,rfl⟩
 have HYS:=ac hys
 rw[<-hys] at ky
 have hown:(w.alloc (.cells #[] 3)).ownsRow w.heap.size 3 1 (.slice (some ⟨w.heap.size,0,none⟩) 0 0) 0 []:=⟨rfl,.inr ⟨w.heap.size,0,#[],rfl,Nat.le_refl _,ax _ _,Nat.le_refl _,by decide,rfl,rfl⟩⟩
 have HOWN:=ac hown
 have e48a:(w.alloc (.cells #[] 3)).cell? ⟨lb,lo + 48,none⟩=some (.slice oa on oc):=((af w _).cell (aC e48)).trans e48
 clear hj hn hcap h hcl hln hon hla hoa hd e47 hys hown hlb
 go_enter func36,ntmps36
 go_wp2_with (first
  | (at_builtin;refine cD rfl _ _ 41 3 rfl (.int .i64 0) 1 8 underlying41 Tryz.infoInt rfl (by decide) w.heap.size _ 0 [] rfl HOWN.out oa on oc ys rfl ky ?c1 ?c2 ?c3 ?c4 ?c5 ?_)
  | fail)
 case c1=>intro u hu;rw[HYS.out] at hu;obtain⟨z,_,rfl⟩:=List.mem_map.1 hu;rfl
 case c2=>
  intro h0
  obtain⟨ob,oo,e,hob,hj⟩:=HOA.out h0
  refine⟨ob,oo,e,fun j u hu=>?_⟩
  have hjl:j<on:=by
   have:=(List.getElem?_eq_some_iff.1 hu).1
   rw[ky] at this;omega
  have c:=hj j hjl
  refine ((af w _).cell (p:=⟨ob,oo + j,none⟩) hob).trans (c.trans ?_)
  rw[<-hu,HYS.out,List.getElem?_map,List.getD_eq_getElem?_getD,List.getElem?_eq_getElem (by rw[<-HON.out];exact hjl)]
  rfl
 case c3=>unfold maxLen;omega
 case c4=>omega
 case c5=>simp
 intro v3 w1 hown hgr
 have HI1:aa (ju w on v3 w1):=by
  refine⟨?_,(ds.getD 0 {}).owners,by rw[HON.out],?_⟩
  ·have k:=(ak (af w (.cells #[] 3)) (·<w.heap.size)).trans (aF hgr (·<w.heap.size) (fun k hk=>Nat.not_lt.2 (Nat.le_of_eq (Option.some.inj (show some w.heap.size=some k from hk)))))
   exact k.below (Nat.le_refl _)
  ·rw[<-HYS.out];simpa using hown
 clear hown hgr e48 e48a ky hn0 HOWN HOA HYS
 obtain⟨av,cv,rfl⟩:∃av cv,v3=.slice av on cv:=by
  obtain⟨_,xs,_,hrow⟩:=HI1.out
  obtain⟨a,c,e,_⟩:=az hrow
  exact⟨a,c,e⟩
 go_wp2_with fail
 go_loopg [4] n (fun g v4 wr=>∃(k:Nat),k<=n/\v4=.int .i64 k/\n - k<=g/\aa (ju w on (.slice av on cv) wr))
 case atStart=>exact⟨0,Nat.zero_le _,rfl,by omega,HI1.out⟩
 case round=>
  clear HI1
  obtain⟨k,hk,rfl,hg,HI⟩:=hrel
  by_cases hlt:k<n
  ·have hki:(k:Int)<n:=by omega
   have hkd:k<ds.length:=by rw[<-HN.out];exact hlt
   have HCK:aa (yE wr lb (lo + k * 49) (ds.getD k {})):=(HCL.out k hkd).on HI.out.1
   have c0:=HCK.out.kind
   have c40:=HCK.out.state
   have HM:aa (n - (k + 1)<gk/\k + 1<=n):=⟨by omega,hlt⟩
   obtain⟨z,hz⟩:∃z,z=(ds.getD k {}).kind:=⟨_,rfl⟩
   obtain⟨t,ht⟩:∃z,z=(ds.getD k {}).state:=⟨_,rfl⟩
   rw[<-hz] at c0
   rw[<-ht] at c40
   have HZ:=ac hz
   have HKD:=ac hkd
   clear hg hz ht hkd
   by_cases h5:z=5
   case neg=>
    have b5:(z==5)=false:=by simpa using h5
    clear h5
    go_wp2_with fail
    go_roundg (n - (k + 1))
    case measure=>exact HM.out.1
    case rel=>exact⟨k + 1,HM.out.2,by go_num,Nat.le_refl _,HI.out⟩
   subst h5
   by_cases h2:t=2
   case neg=>
    have b2:(t==2)=false:=by simpa using h2
    clear h2
    go_wp2_with fail
    go_roundg (n - (k + 1))
    case measure=>exact HM.out.1
    case rel=>exact⟨k + 1,HM.out.2,by go_num,Nat.le_refl _,HI.out⟩
   subst h2
   go_upto_region 8 with fail
   clear c0 c40
   have c1:=HCK.out.round
   have c41:=HCK.out.winner
   obtain⟨rdQ,hrd⟩:∃z,z=(ds.getD k {}).round:=⟨_,rfl⟩
   obtain⟨wn,hwn⟩:∃z,z=(ds.getD k {}).winner:=⟨_,rfl⟩
   obtain⟨y,hy⟩:∃y,y=pR ds (ds.getD k {}).round:=⟨_,rfl⟩
   have hyr:=HD.out.lot HKD.out HZ.out.symm
   rw[<-hy,<-HLN.out] at hyr
   rw[<-hrd] at c1 hy
   rw[<-hwn] at c41
   have HY:=ac hy
   obtain⟨q,rfl⟩:∃q:Nat,y=q:=Int.eq_ofNat_of_zero_le hyr.1
   have hql:q<ln:=by omega
   obtain⟨xb,xo,rfl,hxb,hxj⟩:=HLA.out (by omega)
   have hreq:=HD.out.reqs q (by rw[<-HLN.out];exact hql)
   rw[<-HON.out] at hreq
   have cq:wr.cell? ⟨xb,xo + q * 2,none⟩=some (.int .i64 ((ds.getD 0 {}).lots.getD q (0,0)).1):=(HI.out.1.cell (p:=⟨xb,xo + q * 2,none⟩) hxb).trans (hxj q hql).1
   obtain⟨x,hx⟩:∃x,x=((ds.getD 0 {}).lots.getD q (0,0)).1:=⟨_,rfl⟩
   rw[<-hx] at cq hreq
   obtain⟨m,rfl⟩:∃m:Nat,x=m:=Int.eq_ofNat_of_zero_le hreq.1
   have hmo:m<on:=by omega
   have d47:wr.cell? ⟨lb,lo + 47,none⟩=some (.slice (some ⟨xb,xo,none⟩) ln lc):=(HI.out.1.cell (p:=⟨lb,lo + 47,none⟩) HLB.out).trans E47.out
   obtain⟨hbel,xs,hxs,hrow⟩:=HI.out
   obtain⟨gg,gc,cur,hgv,hgb,hgh,hgc,hgm,hgs,hgj⟩:=gU (by omega) hrow
   obtain⟨rfl,_,rfl⟩:=Value.slice.inj hgv
   obtain⟨ou,hou⟩:∃u,wr.cell? ⟨gg,m,none⟩=some u:=by
    rw[aq hgh]
    exact⟨_,Array.getElem?_eq_getElem (by rw[hgs];omega)⟩
   have fou:=aL hgh m
   have HST:aa (∀ W u,W=wr.setCell ⟨gg,m,none⟩ (.int .i64 u)->ju w on (.slice (some ⟨gg,0,none⟩) on cv) W):=by
    intro W u hW
    refine⟨?_,xs.set m u,by simp[hxs],?_⟩
    ·rw[hW]
     exact aB hbel ((am.refl (·≠gg) wr).setCell (p:=⟨gg,m,none⟩) (.inr (fun h=>h rfl)) _) (fun k hk e=>by omega)
    ·have:=qy hrow rfl m (.int .i64 u)
     rw[hW,List.map_set]
     exact this
   have hlq:(q:Int)<ln:=by omega
   have hmn:(m:Int)<on:=by omega
   have HRW:aa (aX wr (.slice (some ⟨lb,lo,none⟩) n cap) ds):=HRA.out.on hbel
   have HSZ:aa (ds.length<1000000000):=by have:=HN.out;rw[aa];omega
   clear hrd hwn hy hyr hql hxb hxj hreq hx hmo hbel hxs hrow hgb hgh hgc hgm hgs hgj
   go_still_tail 22,(by kernel_rfl)
   still_call ((oW wr.drew (.slice (some ⟨lb,lo,none⟩) n cap) ds HSZ.out (HRW.out.on (aA _)) rdQ).mono fun e w' ⟨he,hw⟩=>⟨(show e=.returned (.int .i64 (q:Int)) by rw[HY.out];exact he),hw⟩)
   repeat still_step
   refine wpStill_nil ?_
   change wpList _ _ _ _ _ wr.drew
   go_wp2_with fail
   go_roundg (n - (k + 1))
   case measure=>exact HM.out.1
   case rel=>exact⟨k + 1,HM.out.2,by go_num,Nat.le_refl _,ju.drew (HST.out _ _ rfl)⟩
  ·have hki:¬(k:Int)<n:=by omega
   go_wp2_with fail
   go_ret
   exact⟨_,rfl,HI.out⟩
def sU (w:World) (n:Nat) (v:Value) (w':World):Prop:=Below w.heap.size w w'/\∃bs:List (Int × Int),bs.length<=n/\w'.ownsRow w.heap.size 60 2 v bs.length (b8 bs)
theorem tX (W:World) (a b:Int):(Instr.buildSlice 51 1 #[(0,.agg #[.int .i64 a,.int .u64 b])]).run prog W=.ok (.slice (some ⟨W.heap.size,0,none⟩) 1 1) (W.alloc (.cells #[.int .i64 a,.int .u64 b] 60)):=by kernel_rfl
def pS (P:Int->Prop) (w:World) (n:Nat) (v:Value) (w':World):Prop:=Below w.heap.size w w'/\∃bs:List (Int × Int),bs.length<=n/\w'.ownsRow w.heap.size 60 2 v bs.length (b8 bs)/\∀x∈bs,P x.2
theorem sX (P:Int->Prop) (w:World) (v:Value) (ds:List RecD) (hds:ds.length<1000000) (h:aX w v ds) (fr:Nat) (hfr:fr<=ds.length) (hP:∀j,j<ds.length->P (ds.getD j {}).bid):Calls prog 61 #[v,.int .i64 fr] w fun e w'=>∃u,e=.returned u/\pS P w ds.length u w':=by
 obtain⟨a,cap,rfl,hcap,hj⟩:=h.cols
 have HJ:=ac hj
 have HP:=ac hP
 clear hP
 obtain⟨n,hn⟩:=nm (ds.length)
 rw[<-hn] at hds hfr
 have HN:=ac hn
 rw[<-hn]
 clear hj hn hcap h
 go_enter func61,ntmps61
 go_wp2_with fail
 go_loopg [5,6] n (fun g v5 v6 wr=>∃k:Nat,k<=n/\v6=.int .i64 k/\n - k<=g/\aa (pS P w k v5 wr))
 case atStart=>exact⟨fr,hfr,rfl,by omega,Below.refl _ _,[],Nat.zero_le _,World.ownsRow_nil _ _ _ _,fun _ h=>nomatch h⟩
 case round=>
  obtain⟨k,hk,rfl,hg,HB⟩:=hrel
  obtain⟨bs,hbs,hrow,hps⟩:=HB.out.2
  have HPS:=ac hps
  obtain⟨av,cv,rfl,_⟩:=az hrow
  have HROW:=ac hrow
  have HBS:=ac hbs
  have HBEL:=ac HB.out.1
  obtain⟨nb,hnb⟩:=nm (bs.length)
  rw[<-hnb]
  have HNB:=ac hnb
  clear hrow hbs HB hnb hps
  by_cases hlt:k<n
  ·have hki:(k:Int)<n:=by omega
   obtain⟨lb,lo,rfl,hlb,hcl⟩:=HJ.out (by rw[<-HN.out];omega)
   have hcol:=(hcl k (by rw[<-HN.out];exact hlt)).on HBEL.out
   have c0:=hcol.kind
   have c3:=hcol.carrier
   have c38:=hcol.bid
   have HM:aa (n - (k + 1)<gk/\k + 1<=n):=⟨by omega,hlt⟩
   have HBN:aa (nb<=k/\k<1000000):=⟨by rw[HNB.out];exact HBS.out,by omega⟩
   generalize (ds.getD k {}).kind=z at c0
   generalize (ds.getD k {}).carrier=ca at c3
   have hpb:=HP.out k (by rw[<-HN.out];exact hlt)
   generalize (ds.getD k {}).bid=bd at c38 hpb
   have HPB:=ac hpb
   clear hpb
   clear hcl hg hcol
   by_cases h1:z=4
   ·subst h1
    go_upto_region 6 with fail
    clear c0
    refine wp_region_held_drew (S:=fun W=>am (·<w.heap.size) wr W) (by kernel_rfl) ((am.refl _ _).drew) (fun hHeld=>?_)
    refine ts 0 (.slice av nb cv) hHeld ?_
    try simp only[Act.put,ps]
    refine ts 1 (.slice (some ⟨lb,lo,none⟩) n cap) hHeld ?_
    try simp only[Act.put,ps]
    refine ts 2 (.int .i64 k) hHeld ?_
    try simp only[Act.put,ps]
    refine ts 3 (.pointer (some ⟨lb,lo + k * 49,none⟩)) hHeld ?_
    try simp only[Act.put,ps]
    refine ts 4 (.pointer (some ⟨lb,lo + k * 49 + 3,none⟩)) hHeld ?_
    try simp only[Act.put,ps]
    refine tk 5 (.int .i64 ca) hHeld ?_ ?_
    ·intro W hSw
     have c:=aJ c3 hSw hlb
     go_simp
    try simp only[Act.put,ps]
    refine ts 6 (.slice (some ⟨lb,lo,none⟩) n cap) hHeld ?_
    try simp only[Act.put,ps]
    refine ts 7 (.int .i64 k) hHeld ?_
    try simp only[Act.put,ps]
    refine ts 8 (.pointer (some ⟨lb,lo + k * 49,none⟩)) hHeld ?_
    try simp only[Act.put,ps]
    refine ts 9 (.pointer (some ⟨lb,lo + k * 49 + 38,none⟩)) hHeld ?_
    try simp only[Act.put,ps]
    refine tk 10 (.int .u64 bd) hHeld ?_ ?_
    ·intro W hSw
     have c:=aJ c38 hSw hlb
     go_simp
    try simp only[Act.put,ps]
    refine ts 11 (.agg #[.int .i64 ca,.int .u64 bd]) hHeld ?_
    try simp only[Act.put,ps]
    obtain⟨w1,hw1⟩:=nm (wr.drew)
    have hb1:Below wr.heap.size wr w1:=by rw[hw1];exact aA _
    rw[<-hw1] at hHeld ⊢
    clear hw1
    refine rd 12 (fun K hK=>?_)
    refine aP (by rfl) 51 1 [(0,.tmp 31)] rfl [(0,.agg #[.int .i64 ca,.int .u64 bd])] rfl _ (tX _ _ _) ?_
    obtain⟨hd,hhd⟩:=nm (w1.heap.size)
    obtain⟨w2,hw2⟩:=nm (w1.alloc (.cells #[.int .i64 ca,.int .u64 bd] 60))
    have HH2:aa (w2.heap[hd]?=some (.cells #[.int .i64 ca,.int .u64 bd] 60 (0,0))):=by rw[hw2,hhd];exact ax _ _
    have hb2:Below w1.heap.size w1 w2:=by rw[hw2];exact af _ _
    have HB2:aa (Below wr.heap.size wr w2):=ar wr _ _ hb1 hb2
    rw[<-hw2,<-hhd]
    refine hK.out _ w2 (ak HB2.out _) (fun hHeld=>?_)
    clear hK K hw2 hhd hb1 hb2
    try simp only[Act.put,ps]
    have HR2:aa (w2.ownsRow w.heap.size 60 2 (.slice av nb cv) nb (b8 bs)):=by have:=bG HROW.out HB2.out;rw[<-HNB.out] at this;exact this
    refine rd 13 (fun K hK=>?_)
    refine fM rfl _ _ 51 60 rfl (.agg #[.int .i64 0,.int .u64 0]) 2 16 underlying51 Tryz.infoBd rfl (by decide) w.heap.size (.slice av nb cv) nb (b8 bs) rfl HR2.out hd [.int .i64 ca,.int .u64 bd] rfl ?c1 rfl ?c2 ?c3 ?c4 ?c5 ?_
    case c1=>intro u hu;simp at hu;rcases hu with rfl | rfl <;> rfl
    case c2=>intro j u hu;rw[aq HH2.out];simpa using hu
    case c3=>have:=HBN.out;unfold maxLen;omega
    case c4=>have:=HBN.out;omega
    case c5=>exact Nat.le_trans HBEL.out.size HB2.out.size
    intro v3 w3 hown hgr
    have HK3:aa (am (·<w.heap.size) w2 w3):=aF hgr (·<w.heap.size) (fun j hj=>Nat.not_lt.2 (World.ownsRow.lt HR2.out j hj).1)
    have HF:aa (pS P w (k + 1) v3 w3):=by
     refine⟨aB (ar w _ _ HBEL.out HB2.out) HK3.out (fun j h=>h),bs++[(ca,bd)],by simp;exact HBS.out,?_,fun x hx=>(List.mem_append.1 hx).elim (HPS.out x) (fun h=>by rw[List.mem_singleton.1 h];exact HPB.out)⟩
     rw[List.length_append,List.length_singleton,<-HNB.out,show b8 (bs++[(ca,bd)])=b8 bs++[.int .i64 ca,.int .u64 bd] by simp[b8]]
     exact hown
    have HSV:aa (am (·<w.heap.size) wr w3):=(ak HB2.out _).trans HK3.out
    clear hown hgr
    refine hK.out _ w3 (by exact HSV.out) (fun hHeld=>?_)
    clear hK K
    try simp only[Act.put,ps]
    refine ts 14 (v3) hHeld ?_
    try simp only[Act.put,ps]
    refine wpAnyH_done (by kernel_rfl) ?_ _
    clear hHeld
    apply_assumption
    go_wp2_with fail
    go_roundg (n - (k + 1))
    case measure=>exact HM.out.1
    case rel=>exact⟨k + 1,HM.out.2,by go_num,Nat.le_refl _,HF.out⟩
   ·have b1:(z==4)=false:=by simpa using h1
    clear h1
    go_wp2_with fail
    go_roundg (n - (k + 1))
    case measure=>exact HM.out.1
    case rel=>exact⟨k + 1,HM.out.2,by go_num,Nat.le_refl _,HBEL.out,bs,Nat.le_succ_of_le HBS.out,by have:=HROW.out;rw[<-HNB.out] at this ⊢;exact this,HPS.out⟩
  ·have hki:¬(k:Int)<n:=by omega
   have HK:aa (k=n):=by rw[aa];omega
   go_wp2_with fail
   go_ret
   exact⟨_,rfl,HBEL.out,bs,by rw[<-HK.out];exact HBS.out,by have:=HROW.out;rw[<-HNB.out] at this ⊢;exact this,HPS.out⟩
theorem oX (w:World) (v:Value) (ds:List RecD) (hds:ds.length<1000000) (h:aX w v ds) (fr:Nat) (hfr:fr<=ds.length):Calls prog 61 #[v,.int .i64 fr] w fun e w'=>∃u,e=.returned u/\sU w ds.length u w':=
 (sX (fun _=>True) w v ds hds h fr hfr (fun _ _=>trivial)).mono (fun _ _ ⟨u,he,hb,bs,h1,h2,_⟩=>⟨u,he,hb,bs,h1,h2⟩)
def i4 (w:World) (v:Value) (n:Nat):Prop:=
 ∃a cap,v=.slice a n cap/\n<=cap/\(0<n->∃lb lo,a=some ⟨lb,lo,none⟩/\lb<w.heap.size/\∀j,j<n->∃z:Int,w.cell? ⟨lb,lo + j,none⟩=some (.int .u8 z)/\0<=z/\z<=255)
theorem i4.up {w w':World} {v:Value} {n:Nat} (h:i4 w v n) (hb:Below w.heap.size w w'):i4 w' v n:=by
 obtain⟨a,c,e,hc,hx⟩:=h
 refine⟨a,c,e,hc,fun h0=>?_⟩
 obtain⟨lb,lo,ea,hl,hj⟩:=hx h0
 refine⟨lb,lo,ea,Nat.lt_of_lt_of_le hl hb.size,fun j h=>?_⟩
 obtain⟨z,hz,hr⟩:=hj j h
 exact⟨z,(hb.cell (p:=⟨lb,lo + j,none⟩) hl).trans hz,hr⟩
structure sV where
 ca:Int
 lt:Int
 cm:Int
 rv:Int
 sc:Int
 n:Nat
def sV.cells (d:sV) (b:Value):Array Value:=#[.int .u8 d.ca,.int .u8 d.lt,.int .u8 d.cm,.int .u8 d.rv,.int .u8 d.sc,b]
structure sV.ok (d:sV):Prop where
 ca:0<=d.ca/\d.ca<=255
 lt:0<=d.lt/\d.lt<=255
 cm:0<=d.cm/\d.cm<=255
 rv:0<=d.rv/\d.rv<=255
 sc:0<=d.sc/\d.sc<=255
 n:d.n<=4000000000000000000
theorem fW (i:Int) (n:Nat) (hi:0<=i) (hn:0<n):∃q:Nat,i.tmod n=q/\q<n:=by
 refine⟨(i.tmod n).toNat,?_,?_⟩
 ·have:=Int.tmod_nonneg n hi;omega
 ·have h1:=Int.tmod_nonneg n hi
  have h2:=Int.tmod_lt_of_pos i (show (0:Int)<n by omega)
  omega
theorem iK (w:World) (d:sV) (hd:d.ok) (b:Value) (h:i4 w b d.n) (i:Int) (hi:d.n=0\/0<=i) (hi2:i<=9223372036854775807):Calls prog 32 #[.agg (d.cells b),.int .i64 i] w fun e w'=>(∃ z:Int,0<=z/\z<=255/\e=.returned (.int .i64 z))/\Below w.heap.size w w':=by
 obtain⟨a,cap,rfl,hcap,hj⟩:=h
 obtain⟨n,hn⟩:=nm (d.n)
 have hn4:n<=4000000000000000000:=by rw[hn];exact hd.n
 rw[<-hn] at hcap hj hi
 unfold sV.cells
 rw[<-hn]
 generalize d.ca=x0
 generalize d.lt=x1
 generalize d.cm=x2
 generalize d.rv=x3
 generalize d.sc=x4
 clear hd hn d
 by_cases h0:n=0
 ·subst h0
  clear hj
  go_enter func32,ntmps32
  go_wp2_with fail
  go_ret
  exact⟨⟨0,by decide,by decide,rfl⟩,af _ _⟩
 ·have hnb:((n:Int)==0)=false:=by simpa using h0
  have hnz:¬(n:Int)=0:=by omega
  have hi0:0<=i:=by rcases hi with h | h;(· exact absurd h h0);(· exact h)
  obtain⟨q,hq,hqn⟩:=fW i n hi0 (by omega)
  obtain⟨lb,lo,rfl,hlb,hjj⟩:=hj (by omega)
  obtain⟨z,hz,hz0,hz1⟩:=hjj q hqn
  have hqw:IntKind.i64.wrap (i.tmod n)=q:=by rw[hq];exact IntWalk.i64_in _ (by omega)
  have hql:(q:Int)<n:=by omega
  have hzw:IntKind.i64.wrap z=z:=IntWalk.i64_in _ (by omega)
  have HZ:aa (0<=z/\z<=255):=⟨hz0,hz1⟩
  clear hj hjj hi
  go_enter func32,ntmps32
  go_upto_region 3 with fail
  obtain⟨w1,hw1⟩:∃z,z=w.alloc (.cells #[.int .u8 x0,.int .u8 x1,.int .u8 x2,.int .u8 x3,.int .u8 x4,.slice (some ⟨lb,lo,none⟩) n cap] 24):=⟨_,rfl⟩
  obtain⟨L,hL⟩:=nm (w.heap.size)
  have HX:aa (w1.heap[L]?=some (.cells #[.int .u8 x0,.int .u8 x1,.int .u8 x2,.int .u8 x3,.int .u8 x4,.slice (some ⟨lb,lo,none⟩) n cap] 24 (0,0))):=by rw[hw1,hL];exact ax _ _
  have hb1:Below w.heap.size w w1:=by rw[hw1];exact af _ _
  have HB1:=ac hb1
  have c5:w1.cell? ⟨L,5,none⟩=some (.slice (some ⟨lb,lo,none⟩) n cap):=aq HX.out 5
  have cz:w1.cell? ⟨lb,lo + q,none⟩=some (.int .u8 z):=(hb1.cell (p:=⟨lb,lo + q,none⟩) hlb).trans hz
  rw[<-hw1,<-hL]
  clear hw1 hL hb1 hz
  go_still_tail 10,(by kernel_rfl)
  change wpList _ _ _ _ _ w1.drew
  go_wp2_with fail
  go_ret
  exact⟨⟨z,HZ.out.1,HZ.out.2,rfl⟩,HB1.out.drew⟩
theorem lZ (w:World) (d:sV) (hd:d.ok) (b:Value) (h:i4 w b d.n) (rdQ ca tkQ:Int) (hrd:0<=rdQ/\rdQ<=1000) (hca:0<=ca/\ca<=1000) (htk:0<=tkQ/\tkQ<=1000000):
  Calls prog 57 #[.agg (d.cells b),.int .i64 rdQ,.int .i64 ca,.int .i64 tkQ] w fun e w'=>(∃ bd nc:Int,(0<=bd/\bd<=18446744073709551615)/\(0<=nc/\nc<=18446744073709551615)/\e=.returned (.agg #[.int .i64 rdQ,.int .i64 ca,.int .u64 bd,.int .u64 nc]))/\Below w.heap.size w w':=by
 obtain⟨R,hR⟩:∃R:Array Value,R=d.cells b:=⟨_,rfl⟩
 have HR:=ac hR
 have HD:=ac hd
 have HB:=ac h
 have HZ:aa ((prog.info? 24).map (·.size)=some R.size):=by rw[aa,hR];kernel_rfl
 rw[<-hR]
 have e1:IntKind.i64.wrap (37 * tkQ)=37 * tkQ:=IntWalk.i64_in _ (by omega)
 have e2:IntKind.i64.wrap (7 * rdQ)=7 * rdQ:=IntWalk.i64_in _ (by omega)
 have e3:IntKind.i64.wrap (7 * rdQ + ca)=7 * rdQ + ca:=IntWalk.i64_in _ (by omega)
 have HT:aa (0<=tkQ/\tkQ<=1000000):=htk
 have HI:aa (0<=7 * rdQ + ca/\7 * rdQ + ca<=9223372036854775807):=by rw[aa];omega
 clear hR hd h
 go_enter func57,ntmps57
 go_upto_region 1 with fail
 obtain⟨L,hL⟩:=nm (w.heap.size)
 obtain⟨w1,hw1⟩:∃z,z=(w.alloc (.cells R 24)).alloc (.cells #[.int .i64 0,.int .i64 0,.int .u64 0,.int .u64 0] 58):=⟨_,rfl⟩
 have hx0:(w.alloc (.cells R 24)).heap.size=w.heap.size + 1:=by simp
 have HX:aa (w1.heap[L]?=some (.cells R 24 (0,0))):=by rw[hw1,hL];exact au (ax _ _) (af _ _)
 have HQ:aa (w1.heap[L + 1]?=some (.cells #[.int .i64 0,.int .i64 0,.int .u64 0,.int .u64 0] 58 (0,0))):=by rw[hw1,hL,<-hx0];exact ax _ _
 have HB1:aa (Below w.heap.size w w1):=by rw[hw1];exact ar w _ _ (af _ _) (af _ _)
 have HLW:=ac hL
 rw[<-hw1,<-hL]
 clear hw1 hL hx0
 go_wp2_with (guard_target =~ wpList _ _ _ _ _ _;refine wpList_load_row rfl _ _ rfl L rfl _ R (0,0) _ HX.out underlying24 rfl HZ.out ?_)
 rw[HR.out]
 refine (iK w1 d HD.out b (HB.out.up HB1.out) (7 * rdQ + ca) (.inr HI.out.1) HI.out.2).mono ?_
 rw[<-HR.out]
 rintro e w2 ⟨⟨z,hz0,hz1,rfl⟩,hb2⟩
 have HB2:aa (Below w.heap.size w w2):=ar w _ _ HB1.out hb2
 have HQ2:=ac (au HQ.out hb2)
 clear hb2 HX HQ
 have ht:=HT.out
 obtain⟨x,hx⟩:=nm (37 * tkQ + z)
 have hx0:0<=x/\x<=1000000000:=by omega
 have e4:IntKind.i64.wrap (37 * tkQ + z)=x:=by rw[hx];exact IntWalk.i64_in _ (by omega)
 obtain⟨y,hy,hyl⟩:=fW x 997 hx0.1 (by decide)
 have hyy:x.tmod 997=(y:Int):=hy
 have e5:IntKind.u64.wrap (y:Int)=(y:Int):=IntWalk.u64_in _ (by omega)
 have e6:IntKind.u64.wrap x=x:=IntWalk.u64_in _ (by omega)
 have HF:aa ((0<=(y:Int)/\(y:Int)<=18446744073709551615)/\(0<=x/\x<=18446744073709551615)):=⟨by omega,by omega⟩
 have hi0:(prog.info? 58).map (·.size)=some (#[.int .i64 rdQ,.int .i64 ca,.int .u64 (y:Int),.int .u64 x]:Array Value).size:=by kernel_rfl
 clear ht hy hyl hx
 have hone:(#[.int .i64 rdQ,.int .i64 ca,.int .u64 (y:Int),.int .u64 x]:Array Value).all (·.oneCell')=true:=by simp[Value.oneCell']
 go_wp2_with (first
  | (refine wpList_store_row rfl _ _ _ rfl (L + 1) #[.int .i64 rdQ,.int .i64 ca,.int .u64 (y:Int),.int .u64 x] rfl rfl 58 _ HQ2.out hi0 rfl hone ?_)
  | fail)
 obtain⟨w3,hw3⟩:=nm (w2.setRow (L + 1) #[.int .i64 rdQ,.int .i64 ca,.int .u64 (y:Int),.int .u64 x])
 have HQ3:aa (w3.heap[L + 1]?=some (.cells #[.int .i64 rdQ,.int .i64 ca,.int .u64 (y:Int),.int .u64 x] 58 (0,0))):=by rw[hw3];exact setRow_heap w2 (L + 1) _ _ _ _ HQ2.out
 have HB3:aa (Below w.heap.size w w3):=aB HB2.out (by rw[hw3];exact aI (K:=(·≠L + 1)) w2 (L + 1) _ (fun h=>h rfl)) (fun k hk e=>by have:=HLW.out;omega)
 rw[<-hw3]
 clear hw3
 simp only[Act.put]
 refine bodyPost_ret_by (results_cell_row (by rfl) _ w3 (L + 1) _ _ _ _ rfl HQ3.out underlying58 rfl hi0) rfl ?_
 exact⟨⟨_,_,HF.out.1,HF.out.2,rfl⟩,HB3.out⟩
def sW (w:World) (n:Nat) (v:Value) (w':World):Prop:=Below w.heap.size w w'/\∃xs:List Int,xs.length<=n/\w'.ownsRow w.heap.size 3 1 v xs.length (xs.map (Value.int .i64))
theorem qY (w:World) (v:Value) (ds:List RecD) (h:aX w v ds) (hd:DW ds) (x:Int) (hx:0<=x/\x<=1000):Calls prog 55 #[v,.int .i64 x] w fun e w'=>∃u,e=.returned u/\sW w 8 u w':=by
 obtain⟨a,cap,rfl,hcap,hj⟩:=h.cols
 obtain⟨lb,lo,rfl,hlb,hcl⟩:=hj hd.ne
 have HCL:=ac hcl
 have HD:=ac hd
 have e43:=(hcl 0 hd.ne).carriers
 rw[Nat.zero_mul,Nat.add_zero] at e43
 have hca:=hd.scn.carriers
 obtain⟨cz,hcz⟩:∃z,z=(ds.getD 0 {}).carriers:=⟨_,rfl⟩
 rw[<-hcz] at e43 hca
 obtain⟨nc,rfl⟩:∃c:Nat,cz=c:=Int.eq_ofNat_of_zero_le (by omega)
 have E43:=ac e43
 obtain⟨n,hn⟩:=nm (ds.length)
 have hn1:(0:Int)<n:=by have:=hd.ne;omega
 have hn2:0<n:=by omega
 have hds:n<1000000:=by rw[hn];exact hd.small
 have HN:=ac hn
 rw[<-hn]
 clear hj hn hcap h hcl hcz hd e43 hlb
 go_enter func55,ntmps55
 go_wp2_with fail
 go_loopg [5,6] nc (fun g v5 v6 wr=>∃c:Nat,c<=nc/\v6=.int .i64 c/\nc - c<=g/\aa (sW w c v5 wr))
 case atStart=>exact⟨0,Nat.zero_le _,rfl,by omega,Below.refl _ _,[],Nat.zero_le _,World.ownsRow_nil _ _ _ _⟩
 case round=>
  obtain⟨c,hc,rfl,hg,HB⟩:=hrel
  obtain⟨xs,hxs,hrow⟩:=HB.out.2
  obtain⟨av,cv,rfl,_⟩:=az hrow
  have HROW:=ac hrow
  have HXS:=ac hxs
  have HBEL:=ac HB.out.1
  obtain⟨nb,hnb⟩:=nm (xs.length)
  rw[<-hnb]
  have HNB:=ac hnb
  have d43:wr.cell? ⟨lb,lo + 43,none⟩=some (.int .i64 nc):=(HBEL.out.cell (aC E43.out)).trans E43.out
  clear hrow hxs HB hnb
  by_cases hlt:c<nc
  ·have hki:(c:Int)<nc:=by omega
   have HM:aa (nc - (c + 1)<gk/\c + 1<=nc):=⟨by omega,hlt⟩
   have hc8:IntKind.i64.wrap ((c:Int) + 8)=(c:Int) + 8:=IntWalk.i64_in _ (by omega)
   clear hg
   go_wp2_with fail
   clear d43 hc8 hki
   go_loopg [7,8] n (fun g v7 v8 wx=>∃(k:Nat) (b:Bool),k<=n/\v7=.bool b/\v8=.int .i64 k/\n - k<=g/\wx=wr)
   case atStart=>exact⟨0,_,Nat.zero_le _,rfl,rfl,by omega,rfl⟩
   case round=>
    obtain⟨k,b,hk,rfl,rfl,hg,hwx⟩:=hrel
    subst hwx
    by_cases hkn:k<n
    ·have hkj:(k:Int)<n:=by omega
     have HM2:aa (n - (k + 1)<gk/\k + 1<=n):=⟨by omega,hkn⟩
     cases b with
     | true=>
      clear hg
      go_wp2_with fail
      go_roundg (n - (k + 1))
      case measure=>exact HM2.out.1
      case rel=>exact⟨k + 1,true,HM2.out.2,rfl,by go_num,Nat.le_refl _,rfl⟩
     | false=>
      have hcol:=(HCL.out k (by rw[<-HN.out];exact hkn)).on HBEL.out
      have c0:=hcol.kind
      obtain⟨bv,c5,hbr⟩:=hcol.barred
      obtain⟨ba,bc,rfl,hbc,hbj⟩:=hbr
      have HMAY:=ac (HD.out.at_ (show k<ds.length by rw[<-HN.out];exact hkn)).1
      have HBJ:aa (bA wr (.slice ba (ds.getD k {}).barred.length bc) (ds.getD k {}).barred):=⟨ba,bc,rfl,hbc,hbj⟩
      obtain⟨bl,hbl⟩:∃x,x=(ds.getD k {}).barred:=⟨_,rfl⟩
      have HBL:=ac hbl
      rw[<-hbl] at HBJ c5
      obtain⟨z,hz⟩:∃z,z=(ds.getD k {}).kind:=⟨_,rfl⟩
      rw[<-hz] at c0
      have HZ:=ac hz
      clear hcol hbc hbj hg hbl hz
      by_cases h2:z=2
      ·subst h2
       go_wp2_with fail
       refine (nC wr (.slice ba bl.length bc) bl ?hl HBJ.out c).mono ?_
       case hl=>rw[HBL.out];exact Nat.lt_of_le_of_lt (jA HMAY.out HZ.out.symm).nbar (by decide)
       rintro e wx ⟨rfl,hwx⟩
       rw[hwx]
       clear hwx
       go_wp2_with fail
       go_roundg (n - (k + 1))
       case measure=>exact HM2.out.1
       case rel=>exact⟨k + 1,_,HM2.out.2,rfl,by go_num,Nat.le_refl _,rfl⟩
      ·have b2:(z==2)=false:=by simpa using h2
       clear h2
       go_wp2_with fail
       go_roundg (n - (k + 1))
       case measure=>exact HM2.out.1
       case rel=>exact⟨k + 1,false,HM2.out.2,rfl,by go_num,Nat.le_refl _,rfl⟩
    ·have hkj:¬(k:Int)<n:=by omega
     cases b with
     | false=>
      go_wp2_with fail
      go_roundg (nc - (c + 1))
      case measure=>exact HM.out.1
      case rel=>exact⟨c + 1,HM.out.2,by go_num,Nat.le_refl _,HBEL.out,xs,Nat.le_succ_of_le HXS.out,by have:=HROW.out;rw[<-HNB.out] at this ⊢;exact this⟩
     | true=>
      have hnb8:nb<=8:=by have:=HXS.out;rw[<-HNB.out] at this;omega
      have HR2:aa (wr.ownsRow w.heap.size 3 1 (.slice av nb cv) nb (xs.map (Value.int .i64))):=by have:=HROW.out;rw[<-HNB.out] at this;exact this
      go_wp2_with (first
       | (at_builtin;refine aZ rfl _ _ 41 3 rfl (.int .i64 0) 1 8 underlying41 Tryz.infoInt rfl (by decide) w.heap.size _ nb _ rfl (World.ownsRow.alloc HR2.out _) wr.heap.size [.int .i64 c] rfl ?c2 rfl ?c3 ?c4 ?c5 ?c6 ?_)
       | fail)
      case c2=>first | rfl | (intro u hu;obtain rfl:=List.mem_singleton.1 hu;rfl)
      case c4=>unfold maxLen;omega
      case c5=>omega
      case c6=>have:=HBEL.out.size;simp;omega
      intro v' w1 hown hgrow
      have HR3:aa (sW w (c + 1) v' w1):=by
       refine⟨?_,xs++[(c:Int)],by have:=HXS.out;simp;omega,?_⟩
       ·have k2:=((ak (af wr (.cells #[.int .i64 c] 3)) (·<w.heap.size)).trans (aF hgrow (fun k=>k<w.heap.size) (fun j hj=>by have:=bM HR2.out j hj;omega)))
        exact aB HBEL.out k2 (fun j h=>h)
       ·rw[List.length_append,List.length_singleton,List.map_append,<-HNB.out]
        exact hown
      clear hown hgrow
      go_wp2_with fail
      go_roundg (nc - (c + 1))
      case measure=>exact HM.out.1
      case rel=>exact⟨c + 1,HM.out.2,by go_num,Nat.le_refl _,HR3.out⟩
  ·have hki:¬(c:Int)<nc:=by omega
   have HC:aa (c<=8):=by rw[aa];omega
   go_wp2_with fail
   go_ret
   exact⟨_,rfl,HBEL.out,xs,Nat.le_trans HXS.out HC.out,by have:=HROW.out;rw[<-HNB.out] at this ⊢;exact this⟩
theorem nI (w:World) (ht:ew w):Calls prog 13 #[] w fun e w'=>e=.returned (.bool true)/\Below w.heap.size w w':=by
 have HT:=ac ht
 clear ht
 go_enter func13,ntmps13
 go_wp2_with fail
 refine (lX 2 1 50 w).mono ?_
 rintro e w1 ⟨g,A,B,rfl,hb1,hc1⟩
 have HB1:=ac hb1
 have HC1:=ac hc1
 clear hb1 hc1
 go_upto_region 2 with fail
 go_cut [2] (fun s2 wx=>aa (xL w wx g A B s2))
 case first=>
  obtain⟨cp,hcp⟩:∃c:List Value,c=(ae (aN fy)).toList:=⟨_,rfl⟩
  have hi3:(prog.info? 49).map (·.size)=some cp.length:=by rw[hcp];kernel_rfl
  have HCPR:aa (∀ W,dM w.heap.size W g A B (2,1,50)->W.rangeAt g (0 + 98) cp):=by
   rw[hcp]
   intro W hW j u hu
   have hj:j<49:=by
    have:=(List.getElem?_eq_some_iff.1 hu).1
    rw[Array.length_toList,aj] at this
    exact this
   have:=lz (lW A B (2,1,50)) 2 j hj
   rw[if_pos (show 2<(lW A B (2,1,50)).length from by simp[lW])] at this
   rw[aq hW.row]
   simpa using this.trans hu
  obtain⟨C2,hC2⟩:∃C:Array Value,C=comR.toArray:=⟨_,rfl⟩
  have HC2:=ac hC2
  have HS2:aa (∀ W:World,(Instr.buildSlice 29 2 #[(0,.agg cp.toArray),(1,.agg cp.toArray)]).run prog W=.ok (.slice (some ⟨W.heap.size,0,none⟩) 2 2) (W.alloc (.cells C2 49))):=by
   rw[hC2,hcp,Array.toArray_toList]
   exact qV _ _
  have HG:aa (g<w1.heap.size/\A<w1.heap.size/\B<w1.heap.size):=⟨aK HC1.out.row,aK HC1.out.lots,aK HC1.out.owners⟩
  clear hcp hC2
  refine wp_region_held_drew (S:=fun W=>dM w.heap.size W g A B (2,1,50)) (by kernel_rfl) (HC1.out.new (aA _)) (fun hHeld=>?_)
  refine ts 1 (.slice (some ⟨g,0,none⟩) 6 6) hHeld ?_
  try simp only[Act.put,ps]
  refine ts 2 (.slice (some ⟨g,0,none⟩) 2 6) hHeld ?_
  try simp only[Act.put,ps]
  refine ts 4 (.slice (some ⟨g,0,none⟩) 6 6) hHeld ?_
  try simp only[Act.put,ps]
  refine ts 5 (.pointer (some ⟨g,0 + 98,none⟩)) hHeld ?_
  try simp only[Act.put,ps]
  refine tl 6 (.agg cp.toArray) rfl (yieldsIf_load_mid (by rfl) 49 (.tmp 16) rfl g (0 + 98) rfl cp _ (fun W hW=>HCPR.out W hW) underlying49 rfl hi3) hHeld ?_
  try simp only[Act.put,ps]
  refine ts 7 (.slice (some ⟨g,0,none⟩) 6 6) hHeld ?_
  try simp only[Act.put,ps]
  refine ts 8 (.pointer (some ⟨g,0 + 98,none⟩)) hHeld ?_
  try simp only[Act.put,ps]
  refine tl 9 (.agg cp.toArray) rfl (yieldsIf_load_mid (by rfl) 49 (.tmp 19) rfl g (0 + 98) rfl cp _ (fun W hW=>HCPR.out W hW) underlying49 rfl hi3) hHeld ?_
  try simp only[Act.put,ps]
  obtain⟨W0,hW0⟩:=nm (w1.drew)
  have HK0:aa (am (·<w1.heap.size) w1 W0):=by rw[hW0];exact (am.refl _ _).drew
  rw[<-hW0] at hHeld ⊢
  clear hW0
  refine wpAnyH_ready (rs:=[0,10]) (by kernel_rfl) (by simp) ?_
  refine AllReadyH.cons (o:=_) rfl (fun K hK=>?_) (AllReadyH.cons (o:=_) rfl (fun K hK=>?_) AllReadyH.nil)
  ·refine aP (by rfl) 29 0 [] rfl [] rfl _ (lY _) ?_
   obtain⟨h0,hh0⟩:=nm (W0.heap.size)
   obtain⟨Wa,hW⟩:=nm (W0.alloc (.cells #[] 49))
   have bj:Below W0.heap.size W0 Wa:=by rw[hW];exact af _ _
   have HKa:=ac (HK0.out.new bj)
   have HEa:aa (Wa.ownsRow w1.heap.size 49 49 (.slice (some ⟨h0,0,none⟩) 0 0) 0 []):=⟨rfl,.inr ⟨h0,0,#[],rfl,by rw[hh0];exact HK0.out.size,by rw[hW,hh0];exact ax _ _,Nat.le_refl _,by decide,rfl,rfl⟩⟩
   rw[<-hW,<-hh0]
   refine hK.out _ Wa (HC1.out.keeps HKa.out HG.out.1 HG.out.2.1 HG.out.2.2) (fun hHeld=>?_)
   clear hK K hW bj hh0
   try simp only[Act.put,ps]
   refine wpAnyH_ready (rs:=[3,10]) (by kernel_rfl) (by simp) ?_
   refine AllReadyH.cons (o:=_) rfl (fun K hK=>?_) (AllReadyH.cons (o:=_) rfl (fun K hK=>?_) AllReadyH.nil)
   ·refine cO rfl _ _ 29 rfl 49 (.agg (ae {})) 49 216 underlying29 Tryz.infoRec rfl (by decide) w1.heap.size (.slice (some ⟨h0,0,none⟩) 0 0) 0 [] rfl HEa.out g 0 2 6 (mp A B) rfl (nD A B) ?_ (nE A B) (by decide) (by decide) HKa.out.size ?_
    ·intro j u hu;rw[Nat.zero_add,aq (HC1.out.keeps HKa.out HG.out.1 HG.out.2.1 HG.out.2.2).row];exact nG A B hu
    intro v2 Wb hown hgr hloc
    have HVb:=ac hown
    have HKb:aa (am (·<w1.heap.size) w1 Wb):=HKa.out.trans (aF hgr (·<w1.heap.size) (fun k hk=>Nat.not_lt.2 (World.ownsRow.lt HEa.out k hk).1))
    clear hown hgr hloc
    refine hK.out _ Wb (HC1.out.keeps HKb.out HG.out.1 HG.out.2.1 HG.out.2.2) (fun hHeld=>?_)
    clear hK K
    try simp only[Act.put,ps]
    refine rd 10 (fun K hK=>?_)
    refine aP (by rfl) 29 2 [(0,.tmp 17),(1,.tmp 20)] rfl [(0,.agg cp.toArray),(1,.agg cp.toArray)] rfl _ (HS2.out _) ?_
    obtain⟨hd,hhd⟩:=nm (Wb.heap.size)
    obtain⟨Wc,hW⟩:=nm (Wb.alloc (.cells C2 49))
    have bj:Below Wb.heap.size Wb Wc:=by rw[hW];exact af _ _
    have HKc:=ac (HKb.out.new bj)
    have HDc:aa (Wc.heap[hd]?=some (.cells C2 49 (0,0))):=by rw[hW,hhd];exact ax _ _
    have HVc:=ac (bG HVb.out bj)
    rw[<-hW,<-hhd]
    refine hK.out _ Wc (HC1.out.keeps HKc.out HG.out.1 HG.out.2.1 HG.out.2.2) (fun hHeld=>?_)
    clear hK K hW bj hhd
    try simp only[Act.put,ps]
    refine rd 11 (fun K hK=>?_)
    refine cO rfl _ _ 29 rfl 49 (.agg (ae {})) 49 216 underlying29 Tryz.infoRec rfl (by decide) w1.heap.size v2 2 _ rfl HVc.out hd 0 2 2 comR rfl rfl ?_ nF (by decide) (by decide) HKc.out.size ?_
    ·intro j u hu;rw[Nat.zero_add,aq HDc.out,HC2.out];simpa using hu
    intro v4 Wd hown hgr hloc
    have HVd:=ac hown
    have HKd:aa (am (·<w1.heap.size) w1 Wd):=HKc.out.trans (aF hgr (·<w1.heap.size) (fun k hk=>Nat.not_lt.2 (World.ownsRow.lt HVc.out k hk).1))
    clear hown hgr hloc
    refine hK.out _ Wd (HC1.out.keeps HKd.out HG.out.1 HG.out.2.1 HG.out.2.2) (fun hHeld=>?_)
    clear hK K
    try simp only[Act.put,ps]
    refine ts 12 (v4) hHeld ?_
    try simp only[Act.put,ps]
    refine wpAnyH_done (by kernel_rfl) ?_ _
    clear hHeld
    apply_assumption
    go_meet
    case rel=>exact nH HB1.out HC1.out HG.out HKd.out HVd.out
   ·refine aP (by rfl) 29 2 [(0,.tmp 17),(1,.tmp 20)] rfl [(0,.agg cp.toArray),(1,.agg cp.toArray)] rfl _ (HS2.out _) ?_
    obtain⟨hd,hhd⟩:=nm (Wa.heap.size)
    obtain⟨Wb,hW⟩:=nm (Wa.alloc (.cells C2 49))
    have bj:Below Wa.heap.size Wa Wb:=by rw[hW];exact af _ _
    have HKb:=ac (HKa.out.new bj)
    have HDb:aa (Wb.heap[hd]?=some (.cells C2 49 (0,0))):=by rw[hW,hhd];exact ax _ _
    have HEb:=ac (bG HEa.out bj)
    have HNE:aa (hd≠h0):=by rw[hhd];exact Ne.symm (Nat.ne_of_lt (World.ownsRow.lt HEa.out h0 rfl).2)
    rw[<-hW,<-hhd]
    refine hK.out _ Wb (HC1.out.keeps HKb.out HG.out.1 HG.out.2.1 HG.out.2.2) (fun hHeld=>?_)
    clear hK K hW bj hhd
    try simp only[Act.put,ps]
    refine rd 3 (fun K hK=>?_)
    refine cO rfl _ _ 29 rfl 49 (.agg (ae {})) 49 216 underlying29 Tryz.infoRec rfl (by decide) w1.heap.size (.slice (some ⟨h0,0,none⟩) 0 0) 0 [] rfl HEb.out g 0 2 6 (mp A B) rfl (nD A B) ?_ (nE A B) (by decide) (by decide) HKb.out.size ?_
    ·intro j u hu;rw[Nat.zero_add,aq (HC1.out.keeps HKb.out HG.out.1 HG.out.2.1 HG.out.2.2).row];exact nG A B hu
    intro v2 Wc hown hgr hloc
    have HVc:=ac hown
    have HKc:aa (am (·<w1.heap.size) w1 Wc):=HKb.out.trans (aF hgr (·<w1.heap.size) (fun k hk=>Nat.not_lt.2 (World.ownsRow.lt HEb.out k hk).1))
    have HDc:aa (Wc.heap[hd]?=some (.cells C2 49 (0,0))):=aw HDb.out (aF hgr (·≠h0) (fun k hk hn=>hn (Option.some.inj (show some h0=some k from hk)).symm)) HNE.out
    clear hown hgr hloc
    refine hK.out _ Wc (HC1.out.keeps HKc.out HG.out.1 HG.out.2.1 HG.out.2.2) (fun hHeld=>?_)
    clear hK K
    try simp only[Act.put,ps]
    refine rd 11 (fun K hK=>?_)
    refine cO rfl _ _ 29 rfl 49 (.agg (ae {})) 49 216 underlying29 Tryz.infoRec rfl (by decide) w1.heap.size v2 2 _ rfl HVc.out hd 0 2 2 comR rfl rfl ?_ nF (by decide) (by decide) HKc.out.size ?_
    ·intro j u hu;rw[Nat.zero_add,aq HDc.out,HC2.out];simpa using hu
    intro v4 Wd hown hgr hloc
    have HVd:=ac hown
    have HKd:aa (am (·<w1.heap.size) w1 Wd):=HKc.out.trans (aF hgr (·<w1.heap.size) (fun k hk=>Nat.not_lt.2 (World.ownsRow.lt HVc.out k hk).1))
    clear hown hgr hloc
    refine hK.out _ Wd (HC1.out.keeps HKd.out HG.out.1 HG.out.2.1 HG.out.2.2) (fun hHeld=>?_)
    clear hK K
    try simp only[Act.put,ps]
    refine ts 12 (v4) hHeld ?_
    try simp only[Act.put,ps]
    refine wpAnyH_done (by kernel_rfl) ?_ _
    clear hHeld
    apply_assumption
    go_meet
    case rel=>exact nH HB1.out HC1.out HG.out HKd.out HVd.out
  ·refine aP (by rfl) 29 2 [(0,.tmp 17),(1,.tmp 20)] rfl [(0,.agg cp.toArray),(1,.agg cp.toArray)] rfl _ (HS2.out _) ?_
   obtain⟨hd,hhd⟩:=nm (W0.heap.size)
   obtain⟨Wa,hW⟩:=nm (W0.alloc (.cells C2 49))
   have bj:Below W0.heap.size W0 Wa:=by rw[hW];exact af _ _
   have HKa:=ac (HK0.out.new bj)
   have HDa:aa (Wa.heap[hd]?=some (.cells C2 49 (0,0))):=by rw[hW,hhd];exact ax _ _
   rw[<-hW,<-hhd]
   refine hK.out _ Wa (HC1.out.keeps HKa.out HG.out.1 HG.out.2.1 HG.out.2.2) (fun hHeld=>?_)
   clear hK K hW bj hhd
   try simp only[Act.put,ps]
   refine rd 0 (fun K hK=>?_)
   refine aP (by rfl) 29 0 [] rfl [] rfl _ (lY _) ?_
   obtain⟨h0,hh0⟩:=nm (Wa.heap.size)
   obtain⟨Wb,hW⟩:=nm (Wa.alloc (.cells #[] 49))
   have bj:Below Wa.heap.size Wa Wb:=by rw[hW];exact af _ _
   have HKb:=ac (HKa.out.new bj)
   have HEb:aa (Wb.ownsRow w1.heap.size 49 49 (.slice (some ⟨h0,0,none⟩) 0 0) 0 []):=⟨rfl,.inr ⟨h0,0,#[],rfl,by rw[hh0];exact HKa.out.size,by rw[hW,hh0];exact ax _ _,Nat.le_refl _,by decide,rfl,rfl⟩⟩
   have HDb:=ac (au HDa.out bj)
   have HNE:aa (hd≠h0):=by rw[hh0];exact Nat.ne_of_lt (aK HDa.out)
   rw[<-hW,<-hh0]
   refine hK.out _ Wb (HC1.out.keeps HKb.out HG.out.1 HG.out.2.1 HG.out.2.2) (fun hHeld=>?_)
   clear hK K hW bj hh0
   try simp only[Act.put,ps]
   refine rd 3 (fun K hK=>?_)
   refine cO rfl _ _ 29 rfl 49 (.agg (ae {})) 49 216 underlying29 Tryz.infoRec rfl (by decide) w1.heap.size (.slice (some ⟨h0,0,none⟩) 0 0) 0 [] rfl HEb.out g 0 2 6 (mp A B) rfl (nD A B) ?_ (nE A B) (by decide) (by decide) HKb.out.size ?_
   ·intro j u hu;rw[Nat.zero_add,aq (HC1.out.keeps HKb.out HG.out.1 HG.out.2.1 HG.out.2.2).row];exact nG A B hu
   intro v2 Wc hown hgr hloc
   have HVc:=ac hown
   have HKc:aa (am (·<w1.heap.size) w1 Wc):=HKb.out.trans (aF hgr (·<w1.heap.size) (fun k hk=>Nat.not_lt.2 (World.ownsRow.lt HEb.out k hk).1))
   have HDc:aa (Wc.heap[hd]?=some (.cells C2 49 (0,0))):=aw HDb.out (aF hgr (·≠h0) (fun k hk hn=>hn (Option.some.inj (show some h0=some k from hk)).symm)) HNE.out
   clear hown hgr hloc
   refine hK.out _ Wc (HC1.out.keeps HKc.out HG.out.1 HG.out.2.1 HG.out.2.2) (fun hHeld=>?_)
   clear hK K
   try simp only[Act.put,ps]
   refine rd 11 (fun K hK=>?_)
   refine cO rfl _ _ 29 rfl 49 (.agg (ae {})) 49 216 underlying29 Tryz.infoRec rfl (by decide) w1.heap.size v2 2 _ rfl HVc.out hd 0 2 2 comR rfl rfl ?_ nF (by decide) (by decide) HKc.out.size ?_
   ·intro j u hu;rw[Nat.zero_add,aq HDc.out,HC2.out];simpa using hu
   intro v4 Wd hown hgr hloc
   have HVd:=ac hown
   have HKd:aa (am (·<w1.heap.size) w1 Wd):=HKc.out.trans (aF hgr (·<w1.heap.size) (fun k hk=>Nat.not_lt.2 (World.ownsRow.lt HVc.out k hk).1))
   clear hown hgr hloc
   refine hK.out _ Wd (HC1.out.keeps HKd.out HG.out.1 HG.out.2.1 HG.out.2.2) (fun hHeld=>?_)
   clear hK K
   try simp only[Act.put,ps]
   refine ts 12 (v4) hHeld ?_
   try simp only[Act.put,ps]
   refine wpAnyH_done (by kernel_rfl) ?_ _
   clear hHeld
   apply_assumption
   go_meet
   case rel=>exact nH HB1.out HC1.out HG.out HKd.out HVd.out
 case rest=>
 obtain⟨w2,hw2⟩:=nm (wc)
 have hla:=hcut.out
 rw[<-hw2] at hla ⊢
 clear hw2 wc hcut HC1 HB1
 obtain⟨hch,hrow,hbel,hne⟩:=hla
 obtain⟨Lb,cap,cur,rfl,hLB,hLh,hL4,hLcm,hLs,hcells⟩:=gU (n:=4) (by decide) hrow
 have HCH:=ac hch
 have HBEL:=ac hbel
 have HLH:=ac hLh
 have HCELLS:=ac hcells
 have HLB:aa (w.heap.size<=Lb):=hLB
 have HNE:aa (Lb≠g):=hne Lb rfl
 have HLAB:aa (Lb≠A/\Lb≠B):=⟨fun e=>by rw[e,hch.lots] at hLh;injection hLh with h;injection h with _ h _;revert h;decide,fun e=>by rw[e,hch.owners] at hLh;injection hLh with h;injection h with _ h _;revert h;decide⟩
 have c102:w2.cell? ⟨Lb,102,none⟩=some (.int .i64 4):=hcells 102 _ (by kernel_rfl)
 have f102:=aL hLh 102
 have c150:w2.cell? ⟨Lb,150,none⟩=some (.int .i64 0):=hcells 150 _ (by kernel_rfl)
 have f150:=aL hLh 150
 clear hch hrow hbel hne hLh hcells hLB hLs hLcm
 go_upto_region 5 with fail
 obtain⟨w3,hw3⟩:∃z,z=(w2.setCell ⟨Lb,102,none⟩ (.int .i64 5)).setCell ⟨Lb,150,none⟩ (.int .i64 1):=⟨_,rfl⟩
 have HK3:aa (am (·≠Lb) w2 w3):=by rw[hw3];exact ((am.refl _ _).setCell (p:=⟨Lb,102,none⟩) (.inr (fun h=>h rfl)) _).setCell (p:=⟨Lb,150,none⟩) (.inr (fun h=>h rfl)) _
 have HL3:aa (w3.heap[Lb]?=some (.cells ((cur.setIfInBounds 102 (.int .i64 5)).setIfInBounds 150 (.int .i64 1)) 49 (0,0))):=by rw[hw3];exact aH (aH HLH.out 102 _) 150 _
 rw[<-hw3]
 clear hw3 c102 f102 c150 f150
 have HC3:aa (dM w.heap.size w3 g A B (2,1,50)):=HCH.out.keeps HK3.out HNE.out.symm HLAB.out.1.symm HLAB.out.2.symm
 have HB3:aa (Below w.heap.size w w3):=aB HBEL.out HK3.out (fun k hk e=>by have:=HLB.out;omega)
 have HR3:aa (aX w3 (.slice (some ⟨Lb,0,none⟩) 4 cap) lateD):=uZ HC3.out HL3.out hL4 fun k u hu=>by
  have:=HCELLS.out k u hu
  rwa [aq HLH.out] at this
 go_wp2_with fail
 refine (tV j8 (tW HC3.out (by decide))).mono ?_
 rintro e w4 ⟨hb4,hr⟩
 rw[uU,qU,uV] at hr
 rcases hr with ⟨_,u,v,rfl,hu,hv⟩ | ⟨_,_,_,h0,_⟩
 case inr=>cases h0
 obtain⟨O,oc,ocur,rfl,hOb,_,_,_,_,hO⟩:=gU (n:=2) (by decide) hu
 obtain⟨U,uc,ucur,rfl,hUb,hUh,_,_,_,hU⟩:=gU (n:=1) (by decide) hv
 have HB4:aa (Below w.heap.size w w4):=ar w _ _ HB3.out hb4
 have HC4:=ac (HC3.out.new hb4)
 have HR4:=ac (HR3.out.on hb4)
 have O0:aa (w4.cell? ⟨O,0,none⟩=some (.int .i64 0)):=hO 0 _ rfl
 have O1:aa (w4.cell? ⟨O,1,none⟩=some (.int .i64 1)):=hO 1 _ rfl
 have U0:aa (∀ j u,[Value.int .i64 2,.int .i64 1,.int .u64 50][j]?=some u->w4.cell? ⟨U,j,none⟩=some u):=fun j u hj=>hU j u hj
 clear hb4 hu hv hO hU hUh hUb hOb HC3 HR3 HB3
 go_wp2_with fail
 refine (tV j8 (AJ w4)).mono ?_
 rintro e w5 ⟨hb5,hr⟩
 rcases hr with ⟨_,u,v,rfl,hu,hv⟩ | ⟨_,_,_,h0,_⟩
 case inr=>cases h0
 obtain⟨a6,c6,e6,_⟩:=az hu
 obtain⟨a7,c7,e7,_⟩:=az hv
 obtain rfl:u=.slice a6 0 c6:=e6
 obtain rfl:v=.slice a7 0 c7:=e7
 have HB5:aa (Below w.heap.size w w5):=ar w _ _ HB4.out hb5
 have HC5:=ac (HC4.out.new hb5)
 have HR5:=ac (HR4.out.on hb5)
 have o0:w5.cell? ⟨O,0,none⟩=some (.int .i64 0):=(hb5.cell (aC O0.out)).trans O0.out
 have o1:w5.cell? ⟨O,1,none⟩=some (.int .i64 1):=(hb5.cell (aC O1.out)).trans O1.out
 obtain⟨cu,hcu⟩:∃c:List Value,c=[.int .i64 2,.int .i64 1,.int .u64 50]:=⟨_,rfl⟩
 have hi4:(prog.info? 46).map (·.size)=some cu.length:=by rw[hcu];kernel_rfl
 have HUR:aa (∀ W,Below w5.heap.size w5 W->W.rangeAt U 0 cu):=by
  rw[hcu]
  intro W hW j u hu
  rw[Nat.zero_add]
  have h1:=(hb5.cell (aC (U0.out j u hu))).trans (U0.out j u hu)
  exact (hW.cell (aC h1)).trans h1
 have HCR:aa (∀ W,Below w5.heap.size w5 W->W.rangeAt g (0 + 245 + 40) cu):=by
  rw[hcu]
  intro W hW j u hu
  have hj:j<3:=(List.getElem?_eq_some_iff.1 hu).1
  rw[aq (HC5.out.new hW).row]
  match j,hj with
  | 0,_ | 1,_ | 2,_=>exact Eq.trans (by kernel_rfl) hu
  | _ + 3,h=>omega
 have HCU:=ac hcu
 have heq:∀W,(binOp .eql 46 (.agg cu.toArray) (.agg cu.toArray)).run prog W=.ok (.bool true) W:=fun W=>by rw[hcu];exact sS 2 1 50 2 1 50 W
 clear hb5 hu hv HC4 HR4 HB4 O0 O1 U0 hcu
 go_upto_region 7 with fail
 refine wp_region_held_drew (S:=fun W=>Below w5.heap.size w5 W) (by kernel_rfl) (aA w5) (fun hHeld=>?_)
 refine ts 0 (.slice (some ⟨Lb,0,none⟩) 4 cap) hHeld ?_
 try simp only[Act.put,ps]
 refine rd 1 (fun K hK=>?_)
 go_simp
 refine (j7 j8 _ _ _ (zv (HR5.out.on (aA w5))) (HT.out.on (ar w _ _ HB5.out (aA w5))) 22 3 uW).mono ?_
 rintro e x1 ⟨rfl,hx1⟩
 have HX1:aa (Below w5.heap.size w5 x1):=ar w5 _ _ (aA w5) hx1
 clear hx1
 try go_simp
 refine hK.out _ x1 HX1.out (fun hHeld=>?_)
 clear hK K
 try simp only[Act.put,ps]
 refine ts 2 (.bool true) hHeld ?_
 try simp only[Act.put,ps]
 refine ts 3 (.nilIface) hHeld ?_
 try simp only[Act.put,ps]
 refine ts 4 (.bool true) hHeld ?_
 try simp only[Act.put,ps]
 refine ts 5 (.bool true) hHeld ?_
 try simp only[Act.put,ps]
 refine ts 6 (.bool true) hHeld ?_
 try simp only[Act.put,ps]
 refine ts 7 (.slice (some ⟨O,0,none⟩) 2 oc) hHeld ?_
 try simp only[Act.put,ps]
 refine ts 8 (.int .i64 2) hHeld ?_
 try simp only[Act.put,ps]
 refine ts 9 (.bool true) hHeld ?_
 try simp only[Act.put,ps]
 refine ts 10 (.bool true) hHeld ?_
 try simp only[Act.put,ps]
 refine ts 11 (.bool true) hHeld ?_
 try simp only[Act.put,ps]
 refine ts 12 (.slice (some ⟨O,0,none⟩) 2 oc) hHeld ?_
 try simp only[Act.put,ps]
 refine ts 13 (.pointer (some ⟨O,0,none⟩)) hHeld ?_
 try simp only[Act.put,ps]
 refine tk 14 (.int .i64 0) hHeld ?_ ?_
 ·intro W hSw
  have c:=(hSw.cell (aC o0)).trans o0
  go_simp
 try simp only[Act.put,ps]
 refine ts 15 (.bool true) hHeld ?_
 try simp only[Act.put,ps]
 refine ts 16 (.bool true) hHeld ?_
 try simp only[Act.put,ps]
 refine ts 17 (.bool true) hHeld ?_
 try simp only[Act.put,ps]
 refine ts 18 (.slice (some ⟨O,0,none⟩) 2 oc) hHeld ?_
 try simp only[Act.put,ps]
 refine ts 19 (.pointer (some ⟨O,1,none⟩)) hHeld ?_
 try simp only[Act.put,ps]
 refine tk 20 (.int .i64 1) hHeld ?_ ?_
 ·intro W hSw
  have c:=(hSw.cell (aC o1)).trans o1
  go_simp
 try simp only[Act.put,ps]
 refine ts 21 (.bool true) hHeld ?_
 try simp only[Act.put,ps]
 refine ts 22 (.bool true) hHeld ?_
 try simp only[Act.put,ps]
 refine ts 23 (.bool true) hHeld ?_
 try simp only[Act.put,ps]
 refine ts 24 (.slice (some ⟨U,0,none⟩) 1 uc) hHeld ?_
 try simp only[Act.put,ps]
 refine ts 25 (.int .i64 1) hHeld ?_
 try simp only[Act.put,ps]
 refine ts 26 (.bool true) hHeld ?_
 try simp only[Act.put,ps]
 refine ts 27 (.bool true) hHeld ?_
 try simp only[Act.put,ps]
 refine ts 28 (.bool true) hHeld ?_
 try simp only[Act.put,ps]
 refine ts 29 (.slice (some ⟨U,0,none⟩) 1 uc) hHeld ?_
 try simp only[Act.put,ps]
 refine ts 30 (.pointer (some ⟨U,0,none⟩)) hHeld ?_
 try simp only[Act.put,ps]
 refine tl 31 (.agg cu.toArray) rfl (yieldsIf_load_mid (by rfl) 46 (.tmp 70) rfl U 0 rfl cu _ (fun W hW=>HUR.out W hW) underlying46 rfl hi4) hHeld ?_
 try simp only[Act.put,ps]
 refine ts 32 (.slice (some ⟨g,0,none⟩) 6 6) hHeld ?_
 try simp only[Act.put,ps]
 refine ts 33 (.pointer (some ⟨g,0 + 245,none⟩)) hHeld ?_
 try simp only[Act.put,ps]
 refine ts 34 (.pointer (some ⟨g,0 + 245 + 40,none⟩)) hHeld ?_
 try simp only[Act.put,ps]
 refine tl 35 (.agg cu.toArray) rfl (yieldsIf_load_mid (by rfl) 46 (.tmp 74) rfl g (0 + 245 + 40) rfl cu _ (fun W hW=>HCR.out W hW) underlying46 rfl hi4) hHeld ?_
 try simp only[Act.put,ps]
 refine ts 36 (.bool true) hHeld ?_
 try simp only[Act.put,ps]
 refine ts 37 (.bool true) hHeld ?_
 try simp only[Act.put,ps]
 refine ts 38 (.bool true) hHeld ?_
 try simp only[Act.put,ps]
 refine ts 39 (.agg #[.int .i64 2,.int .i64 1,.int .u64 9]) hHeld ?_
 try simp only[Act.put,ps]
 refine rd 40 (fun K hK=>?_)
 go_simp
 refine (lX 2 1 9 x1).mono ?_
 rintro e x2 ⟨g9,A9,B9,rfl,hx2,hc9⟩
 have HX2:aa (Below w5.heap.size w5 x2):=ar w5 _ _ HX1.out hx2
 have HC9:=ac hc9
 clear hx2 hc9
 try go_simp
 refine hK.out _ x2 HX2.out (fun hHeld=>?_)
 clear hK K
 try simp only[Act.put,ps]
 refine rd 41 (fun K hK=>?_)
 go_simp
 refine (j7 j8 _ _ _ (tW HC9.out (by decide)) (HT.out.on (ar w _ _ HB5.out HX2.out)) 22 5 uX).mono ?_
 rintro e x3 ⟨rfl,hx3⟩
 have HX3:aa (Below w5.heap.size w5 x3):=ar w5 _ _ HX2.out hx3
 clear hx3
 try go_simp
 refine hK.out _ x3 HX3.out (fun hHeld=>?_)
 clear hK K
 try simp only[Act.put,ps]
 refine ts 42 (.bool true) hHeld ?_
 try simp only[Act.put,ps]
 refine ts 43 (.bool true) hHeld ?_
 try simp only[Act.put,ps]
 refine ts 44 (.nilIface) hHeld ?_
 try simp only[Act.put,ps]
 refine ts 45 (.bool true) hHeld ?_
 try simp only[Act.put,ps]
 refine ts 46 (.bool true) hHeld ?_
 try simp only[Act.put,ps]
 refine ts 47 (.bool true) hHeld ?_
 try simp only[Act.put,ps]
 refine ts 48 (.slice a6 0 c6) hHeld ?_
 try simp only[Act.put,ps]
 refine ts 49 (.int .i64 0) hHeld ?_
 try simp only[Act.put,ps]
 refine ts 50 (.bool true) hHeld ?_
 try simp only[Act.put,ps]
 refine ts 51 (.bool true) hHeld ?_
 try simp only[Act.put,ps]
 refine ts 52 (.bool true) hHeld ?_
 try simp only[Act.put,ps]
 refine ts 53 (.slice a7 0 c7) hHeld ?_
 try simp only[Act.put,ps]
 refine ts 54 (.int .i64 0) hHeld ?_
 try simp only[Act.put,ps]
 refine ts 55 (.bool true) hHeld ?_
 try simp only[Act.put,ps]
 refine ts 56 (.bool true) hHeld ?_
 try simp only[Act.put,ps]
 refine ts 57 (.bool true) hHeld ?_
 try simp only[Act.put,ps]
 have hbe:=sT
 generalize hre:ae (aN oe)=RE at hbe
 refine tk 58 (.agg RE) hHeld ?_ ?_
 ·intro W hSw
  go_simp
  rw[<-hre]
  kernel_rfl
 try simp only[Act.put,ps]
 refine rd 59 (fun K hK=>?_)
 refine aP (by rfl) 29 1 [(0,.tmp 98)] rfl [(0,.agg RE)] rfl _ (by rw[<-hre];exact qW _ _) ?_
 obtain⟨x4,hx4⟩:=nm (x3.alloc (.cells ([aN oe].flatMap fun r=>(ae r).toList).toArray 49))
 have b4:Below x3.heap.size x3 x4:=by rw[hx4];exact af _ _
 have HX4:aa (Below w5.heap.size w5 x4):=ar w5 _ _ HX3.out b4
 have HE4:aa (aX x4 (.slice (some ⟨x3.heap.size,0,none⟩) 1 1) [oe]):=nz (rvs:=[aN oe]) (ds:=[oe]) rfl (by rw[hx4];exact ax _ _) (fun j hj=>by
  obtain rfl:j=0:=by simpa using hj
  exact ny x4 rfl rfl rfl)
 rw[<-hx4]
 refine hK.out _ x4 HX4.out (fun hHeld=>?_)
 clear hK K hx4 b4
 try simp only[Act.put,ps]
 refine rd 60 (fun K hK=>?_)
 go_simp
 refine (j7 j8 _ _ _ (AI HE4.out) (HT.out.on (ar w _ _ HB5.out HX4.out)) 22 0 xK).mono ?_
 rintro e x5 ⟨rfl,hx5⟩
 have HX5:aa (Below w5.heap.size w5 x5):=ar w5 _ _ HX4.out hx5
 clear hx5
 try go_simp
 refine hK.out _ x5 HX5.out (fun hHeld=>?_)
 clear hK K
 try simp only[Act.put,ps]
 refine ts 61 (.bool true) hHeld ?_
 try simp only[Act.put,ps]
 refine ts 62 (.bool true) hHeld ?_
 try simp only[Act.put,ps]
 refine wpAnyH_done (by kernel_rfl) ?_ _
 clear hHeld
 apply_assumption
 go_wp2_with fail
 go_ret
 exact⟨rfl,ar w _ _ HB5.out HX5.out⟩
