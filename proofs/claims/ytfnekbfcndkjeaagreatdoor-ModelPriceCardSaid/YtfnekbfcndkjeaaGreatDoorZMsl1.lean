/- seal.eight, walked. -/
import Derived.Test.YtfnekbfcndkjeaaGreatDoorZMdb2
import Derived.Test.YtfnekbfcndkjeaaGreatDoorZDrf2
set_option maxHeartbeats 4000000
set_option maxRecDepth 100000
set_option linter.all false
namespace Go.Proofs.YtfnekbfcndkjeaaGreatDoor
open Go.Proofs.Tryz Go.RowKit Go.Maps
theorem pH {w:World} {b n:Nat} {f:Int->Option Value} (hf:db w b n f) (t e:TypeId) (ht:prog.underlying t=some (.map 3 e)) (hn:n<maxLen) (c:Int) (v:Value) (hc:qx c):
  ∃w',(Instr.mapUpdate t (.map (some b)) (.int .i64 c) v).run prog w=.ok () w'/\db w' b (n + 1) (jI f c v)/\w.grownBy w' (some b):=by
 obtain⟨D,hown,hr⟩:=hf
 obtain⟨w',hrun,hown',hgrow⟩:=hown.update Tryz.keyed ht hn (mW hc) (show oN v=some (.held v,[]) from rfl)
 refine⟨w',hrun,⟨_,hown',fun c' hc'=>?_⟩,hgrow⟩
 have hI:=hown.isMap
 by_cases h:c'=c
 ·subst h
  have hk:WideAt.IsKeyLit (.int .i64 c'):=trivial
  exact⟨by rw[has_put_same hI hk];simp[jI],fun u hu z=>by rw[atKey_put_same hI hk];simp[jI] at hu;rw[hu]⟩
 ·have hne:(Lit.int .i64 c':Lit)≠.int .i64 c:=fun e=>h (by injection e)
  obtain⟨h1,h2⟩:=hr c' hc'
  refine⟨by rw[has_put_other hne,h1];simp[jI,h],fun u hu z=>?_⟩
  rw[atKey_put_other hne]
  exact h2 u (by simpa [jI,h] using hu) z
theorem ic {ops:Array Oper} {o:Oper} {a:Act} {K:Act->World->Prop} {Q:Exit->Act->World->Prop} {E':Prop} {w:World} (hgd:o.guard=none) (m x y:Operand) (t e:TypeId) (ho:o.op=.mapUpdate t m x y) (ht:prog.underlying t=some (.map 3 e))
  (b n:Nat) (f:Int->Option Value) (hm:a.eval m=.map (some b)) (hf:db w b n f) (hn:n<maxLen) (c:Int) (v:Value) (hx:a.eval x=.int .i64 c) (hv:a.eval y=v) (hc:qx c)
  (h:∀w',db w' b (n + 1) (jI f c v)->w.grownBy w' (some b)->K (a.put o.dst undef) w'):if Region.wanted o (yielded ops a.tmps)=true then Oper.wp prog o a w K Q else E':=by
 have hw:Region.wanted o (yielded ops a.tmps)=true:=by simp[Region.wanted,hgd]
 rw[if_pos hw]
 obtain⟨w',hr,h1,h2⟩:=pH hf t e ht hn c v hc
 unfold Oper.wp execOp
 simp only[ho,hm,hx,hv,Sem.run_bind,hr,Result.andThen_ok,Sem.run_pure]
 exact h w' h1 h2
def nh:Array Value:=Array.replicate 32 (.int .u8 0)
theorem zeroDig (w:World):(zeroValue 43).run prog w=.ok (.agg nh) w:=by kernel_rfl
theorem tK (w:World):(zeroValue 44).run prog w=.ok (.int .u64 0) w:=by kernel_rfl
theorem nj (f:Int->Option (List Int)) (hf:∀c l,f c=some l->l.length=32/\Bs l) (c:Int):∃ya:Array Value,(mX f c).getD (.agg nh)=.agg ya/\ya.size=32/\ya.all (·.oneCell')=true/\∀l,f c=some l->ya=(l.map (Value.int .u8)).toArray:=by
 cases h:f c with
 | none=>exact⟨nh,by simp[mX,h],rfl,by kernel_rfl,fun l hl=>by cases hl⟩
 | some l=>
  refine⟨(l.map (Value.int .u8)).toArray,by simp[mX,h,sm],by simpa using (hf c l h).1,?_,fun l' hl=>by obtain rfl:=Option.some.inj hl;rfl⟩
  rw[Array.all_eq_true_iff_forall_mem]
  intro x hx
  obtain⟨z,_,rfl⟩:=List.mem_map.1 (by simpa using hx)
  rfl
theorem jm {α:Type} (f:Int->Option α) (g:α->Value) (c:Int):((f c).map g).isSome=(f c).isSome:=by cases f c <;> rfl
theorem zl (f:Int->Option (List Int)) (c:Int) (l:List Int):jI (mX f) c (sm l)=mX (jI f c l):=by
 funext k
 unfold jI mX
 by_cases h:k=c <;> simp[h]
theorem tL (f:Int->Option Int) (c b:Int):jI (gv f) c (.int .u64 b)=gv (jI f c b):=by
 funext k
 unfold jI gv
 by_cases h:k=c <;> simp[h]
theorem lD (w:World) (ya:Array Value) (hs:ya.size=32) (h1:ya.all (·.oneCell')=true):(Instr.storeAt 43 (.pointer (some ⟨w.heap.size,0,none⟩)) (.agg ya)).run prog (w.alloc (.cells nh 43))=.ok () (w.alloc (.cells ya 43)):=
 ly w 43 nh ya (by rw[hs];kernel_rfl) (by rw[hs];rfl) h1
open Go.RowKit
structure uK (d:RecD):Prop where
 tick:0<=d.tick/\d.tick<=9223372036854775807
 carrier:0<=d.carrier/\d.carrier<=7
 len:d.dig.length=32
 dig:Bs d.dig
 bid:0<=d.bid/\d.bid<=18446744073709551615
 nonce:0<=d.nonce/\d.nonce<=18446744073709551615
theorem pI {S:Nat->Prop} {n:Nat} {w:World} {p:Nat} {v:bS} {st:MSt} (h:bB S n w p v st) (hS:∀k,S k->k<w.heap.size) (hno:st.opn=none) (rv:RecV):
  Calls prog 42 #[.pointer (some ⟨p,0,none⟩),.agg (ae rv)] w (dF S n w p st none):=by
 obtain⟨L,hL⟩:=nm (w.heap.size)
 obtain⟨w0,hw0⟩:=nm (w.alloc (.cells (ae rv) 49))
 have HN0:aa (Below w.heap.size w w0):=by rw[hw0];exact af _ _
 have HR0:aa (ah w0 L rv):=by rw[hw0,hL];exact ah.box _ _
 have HH:=ac h
 have HSS:=ac hS
 have HNO:=ac hno
 have hi0:(prog.info? 49).map (·.size)=some (ae rv).size:=by rw[aj];kernel_rfl
 clear h hS hno
 go_enter func42,ntmps42
 go_upto_region 1 with fail
 rw[<-hw0,<-hL]
 clear hw0 hL
 go_wp2_with (guard_target =~ wpList _ _ _ _ _ _;refine wpList_load_row rfl _ _ rfl L rfl _ (ae rv) (0,0) _ HR0.out underlying49 rfl hi0 ?_)
 refine (lx (HH.out.new HN0.out) HNO.out rv).mono ?_
 rintro e w1 ⟨rfl,hb1⟩
 have HN1:=ac (HN0.out.trans (hb1.mono HN0.out.size))
 clear hb1 hi0
 go_upto_region 2 with fail
 go_quiet (fail)
 go_wp2_with fail
 go_ret
 exact aW HH.out HSS.out (bH HN1.out _)
def my (st:MSt) (o:Opn) (d:RecD):Prop:=d.tick - o.tick<st.scene.commit/\d.carrier<st.scene.carriers/\d.carrier∉st.barred/\d.carrier≠st.owner o.lot.toNat
instance (st:MSt) (o:Opn) (d:RecD):Decidable (my st o d):=by unfold my;infer_instance
structure ey (n:Nat) (W:World) (p L r mb bb:Nat) (v:bS) (op:Opn) (rv:RecV):Prop where
 md:aV W p v
 rnd:df W r op mb bb
 marks:db W mb n (mX op.marks)
 bids:db W bb n (gv op.bids)
 rc:ah W L rv
theorem ey.new {n:Nat} {w W:World} {p L r mb bb:Nat} {v:bS} {op:Opn} {rv:RecV} (h:ey n w p L r mb bb v op rv) (hb:Below w.heap.size w W):ey n W p L r mb bb v op rv:=
 ⟨h.md.new hb,h.rnd.keeps (ak hb (fun _=>True)) trivial,h.marks.new hb,h.bids.new hb,h.rc.new hb⟩
theorem xw {S:Nat->Prop} {n:Nat} {w wz:World} {p r mb:Nat} {v:bS} {st:MSt} {op:Opn} {d:RecD} (h:bB S n w p v st) (ho:st.opn=some op) (hov:v.opn=.pointer (some ⟨r,0,none⟩)) (hsm:S mb) (hK:am (·≠mb) w wz)
  (hM:db wz mb (n + 1) (mX (jI op.marks d.carrier d.dig))) (hd:uK d) (hmb:∃cs,w.heap[r]?=some (.cells cs 133 (0,0))/\cs[49]?=some (.map (some mb))) (hmap:∃es ck,w.heap[mb]?=some (.map es ck)):bB S (n + 1) wz p v (jd st op d):=by
 obtain⟨es,ck,hmh⟩:=hmap
 have hne:∀{k:Nat} {cs:Array Value} {T:TypeId} {fr:Nat × Nat},w.heap[k]?=some (.cells cs T fr)->k≠mb:=fun hk e=>by rw[e,hmh] at hk;cases hk
 have hopn:=h.opn
 rw[ho] at hopn
 obtain⟨r',mb',bb',e,h1,h2,h3,h4,h5,h6,h7,h8⟩:=hopn
 obtain rfl:r'=r:=by rw[hov] at e;injection e with e;injection e with e;injection e with e;exact e.symm
 obtain⟨cs,hc,hc49⟩:=hmb
 obtain rfl:mb'=mb:=by
  have:=h5.marks
  rw[aq hc,hc49] at this
  injection this with this;injection this with this;injection this with this;exact this.symm
 refine⟨h.here.keeps hK (hne h.here),h.own,h.scn,?_,?_,?_,?_,?_,h.ap1,h.ap2,h.ap3,?_,h.tick,h.ended,Nat.le_trans h.nout (Nat.le_succ n),h.sok⟩
 ·exact h.lots.keep hK (fun k hk=>by obtain⟨cur,hh⟩:=h.lots.block k hk;exact hne hh)
 ·exact h.owners.keep hK (fun k hk=>by obtain⟨cur,hh⟩:=h.owners.block k hk;exact hne hh)
 ·exact h.states.keep hK (fun k hk=>by obtain⟨cur,hh⟩:=h.states.block k hk;exact hne hh)
 ·exact h.outs.keep hK (fun k hk=>by obtain⟨cur,hh⟩:=h.outs.block k hk;exact hne hh)
 ·exact h.barred.keep hK (fun k hk=>by obtain⟨cur,hh⟩:=h.barred.block k hk;exact hne hh)
 refine⟨r',mb',bb',e,h1,h2,h3,h4,(h5.same (o':={op with marks:=jI op.marks d.carrier d.dig}) rfl rfl rfl).keeps hK (hne hc),hM,(h7.keeps hK (Ne.symm h4)).mono (Nat.le_succ n),fun c l hl=>?_⟩
 have hl':(if c=d.carrier then some d.dig else op.marks c)=some l:=hl
 split at hl'
 ·obtain rfl:=Option.some.inj hl';exact⟨hd.len,hd.dig⟩
 ·exact h8 c l hl'
theorem pJ {S:Nat->Prop} {n:Nat} {w:World} {p:Nat} {v:bS} {st:MSt} (h:bB S n w p v st) (hS:∀k,S k->k<w.heap.size) (hn:n<1000000000) (hwf:st.Wf) (op:Opn) (hop:st.opn=some op) (rv:RecV) (d:RecD) (hrv:∃b l ow,rv=d.toV b l ow) (hd:uK d):
  Calls prog 42 #[.pointer (some ⟨p,0,none⟩),.agg (ae rv)] w (dF S n w p st (if ef st op d then some (jd st op d) else none)):=by
 obtain⟨R,hR⟩:∃R,R=(if ef st op d then some (jd st op d) else none):=⟨_,rfl⟩
 rw[<-hR]
 have HR:=ac hR
 clear hR
 obtain⟨L,hL⟩:=nm (w.heap.size)
 obtain⟨w0,hw0⟩:=nm (w.alloc (.cells (ae rv) 49))
 have HN0:aa (Below w.heap.size w w0):=by rw[hw0];exact af _ _
 have HR0:ah w0 L rv:=by rw[hw0,hL];exact ah.box _ _
 have HLw:aa (w.heap.size<=L):=Nat.le_of_eq hL.symm
 have hrr:rv.round=d.round:=by obtain⟨b,l,ow,e⟩:=hrv;rw[e];rfl
 have hrt:rv.tick=d.tick:=by obtain⟨b,l,ow,e⟩:=hrv;rw[e];rfl
 have hrc:rv.carrier=d.carrier:=by obtain⟨b,l,ow,e⟩:=hrv;rw[e];rfl
 have hrd:∀k,rv.dig k=d.dig.getD k 0:=by obtain⟨b,l,ow,e⟩:=hrv;rw[e];exact fun k=>rfl
 have HRD:=ac hrd
 have HH:=ac h
 have HSS:=ac hS
 have HWF:=ac hwf
 have HD:=ac hd
 have HO:=ac hop
 obtain⟨r,mb,bb,hov,hsr,hsm,hsb,hmb,hrnd,hmm,hbm,hlen⟩:fR S n w v.opn (some op):=by rw[<-hop];exact h.opn
 have HOV:=ac hov
 have HSM:=ac hsm
 have HLEN:=ac hlen
 have HMB:=ac hmb
 have HRB:aa (∃ cs,w.heap[r]?=some (.cells cs 133 (0,0))/\cs[49]?=some (.map (some mb))):=by obtain⟨cs,k0,_,_,_,k49,_⟩:=hrnd;exact⟨cs,k0,k49⟩
 have HMBL:aa (∃ es ck,w.heap[mb]?=some (.map es ck)):=hmm.block
 have HC0:aa (ey n w0 p L r mb bb v op rv):=⟨h.here.new HN0.out,hrnd.keeps (ak HN0.out (fun _=>True)) trivial,hmm.new HN0.out,hbm.new HN0.out,HR0⟩
 have HG0:=ac (jB (h.new HN0.out) hwf op hop rv (by rw[hrt];exact hd.tick))
 have hi0:(prog.info? 49).map (·.size)=some (ae rv).size:=by rw[aj];kernel_rfl
 obtain⟨c,hc⟩:=nm (d.carrier)
 have HC:=ac hc
 have HRC:aa (rv.carrier=c):=by rw[hc];exact hrc
 have hc7:0<=c/\c<=7:=by rw[hc];exact hd.carrier
 have hlot:=(hwf.opn op hop).1
 have hlens:=hwf.lens
 have hnl:=hwf.nlots
 clear h hS hwf hop hrnd hmm hbm hlen hov hsr hsm hsb hmb hd hrv hrd hrc hc
 obtain⟨g,hg⟩:=nm (d.tick - op.tick)
 have HGE:=ac hg
 rw[hrr,hrt,<-hg] at HG0
 obtain⟨lt,hlt⟩:∃q:Nat,op.lot=q:=Int.eq_ofNat_of_zero_le hlot.1
 have HLT:=ac hlt
 have hlt2:lt<st.scene.lots.length:=by omega
 have HLT2:=ac hlt2
 clear hg hlt hlot HR0 hlt2
 go_enter func42,ntmps42
 go_upto_region 1 with fail
 rw[<-hw0,<-hL]
 clear hw0 hL
 go_wp2_with (guard_target =~ wpList _ _ _ _ _ _;refine wpList_load_row rfl _ _ rfl L rfl _ (ae rv) (0,0) _ HC0.out.rc underlying49 rfl hi0 ?_)
 refine HG0.out.mono ?_
 rintro e w1 ⟨rfl,hb1⟩
 have HN1:=ac (HN0.out.trans (hb1.mono HN0.out.size))
 have HC1:=ac (HC0.out.new hb1)
 clear hb1 hi0 HC0 HG0
 by_cases hxy:d.round=op.round
 case neg=>
  have HNP:aa (¬ ef st op d):=fun h=>hxy h.1
  rw[if_neg hxy]
  clear hxy hrr hrt
  go_upto_region 2 with fail
  go_quiet (fail)
  go_wp2_with fail
  go_ret
  rw[HR.out,if_neg HNP.out]
  exact aW HH.out HSS.out (bH HN1.out _)
 case pos=>
 have HXY:=ac hxy
 rw[if_pos hxy]
 clear hxy hrr hrt
 have HH1:=ac (HH.out.new HN1.out)
 obtain⟨cm,hcm⟩:=nm (st.scene.commit)
 obtain⟨ca,hca⟩:=nm (st.scene.carriers)
 have c44:w1.cell? ⟨p,44,none⟩=some (.int .i64 cm):=by have:=HC1.out.md.rcommit;rw[HH.out.commit,<-hcm] at this;exact this
 have c43:w1.cell? ⟨p,43,none⟩=some (.int .i64 ca):=by have:=HC1.out.md.rcarriers;rw[HH.out.carriers,<-hca] at this;exact this
 have e3:w1.cell? ⟨L,3,none⟩=some (.int .i64 c):=by rw[<-HRC.out];exact HC1.out.rc.carrier
 have c53:=HC1.out.md.barred
 have c52:w1.cell? ⟨p,52,none⟩=some (.pointer (some ⟨r,0,none⟩)):=by rw[<-HOV.out];exact HC1.out.md.opn
 have r2:w1.cell? ⟨r,2,none⟩=some (.int .i64 lt):=by rw[<-HLT.out];exact HC1.out.rnd.lot
 have HBR:aa (bA w1 v.barred st.barred):=HH1.out.barred.row
 have hnb:st.barred.length<=8:=HWF.out.nbar
 have HCM:=ac hcm
 have HCA:=ac hca
 obtain⟨G,hG⟩:∃G:Bool,G=decide (my st op d):=⟨_,rfl⟩
 have HG:=ac hG
 obtain⟨BV,hBV⟩:=nm (v.barred)
 rw[<-hBV] at c53 HBR
 clear hG hcm hca hBV
 go_upto_region 2 with fail
 go_cut [59] (fun s wx=>s=.bool (!G)/\∃q,wx=w1.drewN q)
 case first=>
  --F
  by_cases h1:cm<=g
  ·have HE:aa (G=false):=by rw[aa,HG.out];exact decide_eq_false (fun h=>by have:=h.1;rw[<-HGE.out,<-HCM.out] at this;omega)
   have hb1:decide (cm<=g)=true:=by simpa using h1
   clear h1
   go_quiet (fail)
   go_wp2_with fail
   go_meet
   case rel=>exact⟨by rw[HE.out];rfl,_,rfl⟩
  have H1:=ac h1
  have hb1:decide (cm<=g)=false:=by simpa using h1
  clear h1
  by_cases h2:ca<=c
  ·have HE:aa (G=false):=by rw[aa,HG.out];exact decide_eq_false (fun h=>by have:=h.2.1;rw[<-HC.out,<-HCA.out] at this;omega)
   have hb2:decide (ca<=c)=true:=by simpa using h2
   clear h2
   go_quiet (fail)
   go_wp2_with fail
   go_meet
   case rel=>exact⟨by rw[HE.out];rfl,_,rfl⟩
  have H2:=ac h2
  have hb2:decide (ca<=c)=false:=by simpa using h2
  clear h2
  obtain⟨B,hB⟩:=nm (decide (c∈st.barred))
  have HB:=ac hB
  obtain⟨ow,how⟩:=nm (st.owner lt)
  have HOW:=ac how
  clear hB how
  cases B with
  | true=>
   have HE:aa (G=false):=by rw[aa,HG.out];exact decide_eq_false (fun h=>h.2.2.1 (by rw[<-HC.out];exact of_decide_eq_true HB.out.symm))
   go_quiet ((go_at_call 73;exact gw HBR.out (by omega) c true HB.out _))
   go_wp2_with fail
   go_meet
   case rel=>exact⟨by rw[HE.out];rfl,_,rfl⟩
  | false=>
   have HE:aa ((c==ow)=!G):=by
    rw[aa,HG.out,<-decide_not,show (c==ow)=decide (c=ow) from rfl]
    refine decide_eq_decide.2 ⟨fun h hh=>hh.2.2.2 (by rw[HLT.out,Int.toNat_natCast,<-HC.out,<-HOW.out];exact h),fun h=>?_⟩
    by_cases he:c=ow
    ·exact he
    ·exact absurd ⟨by rw[<-HGE.out,<-HCM.out];have:=H1.out;omega,by rw[<-HC.out,<-HCA.out];have:=H2.out;omega,by rw[<-HC.out];exact of_decide_eq_false HB.out.symm,by rw[HLT.out,Int.toNat_natCast,<-HC.out,<-HOW.out];exact he⟩ h
   go_quiet (first
    | (go_at_call 74;exact lR HH1.out HWF.out lt HLT2.out ow HOW.out _)
    | (go_at_call 73;exact gw HBR.out (by omega) c false HB.out _))
   go_wp2_with fail
   go_meet
   case rel=>exact⟨by rw[<-HE.out],_,rfl⟩
  --E
 case rest=>
  obtain⟨rfl,qq,rfl⟩:=hcut
  obtain⟨wc,hwc⟩:=nm (w1.drewN qq)
  have HNc:aa (Below w.heap.size w wc):=by rw[hwc];exact bH HN1.out qq
  have HC1':aa (ey n wc p L r mb bb v op rv):=by rw[hwc];exact HC1.out.new (ay _ _)
  rw[<-hwc]
  clear hwc HC1 HN1 HBR c44 c43 e3 c53 c52 r2
  have HC1:=HC1'
  clear HC1'
  cases hgg:G with
  | false=>
   have HNP:aa (¬ ef st op d):=fun h=>by
    have h1:=HG.out
    rw[hgg] at h1
    exact (of_decide_eq_false h1.symm) ⟨h.2.1,h.2.2.1,h.2.2.2.1,h.2.2.2.2.1⟩
   clear hgg
   go_wp2_with fail
   go_ret
   rw[HR.out,if_neg HNP.out]
   exact aW HH.out HSS.out HNc.out
  | true=>
  have hgg2:my st op d:=of_decide_eq_true (by rw[<-HG.out];exact hgg)
  have HGG:=ac hgg2
  clear hgg hgg2
  obtain⟨ya,hya,hys,hy1,hyl⟩:=nj op.marks HLEN.out c
  obtain⟨has,hhas⟩:∃b,b=(op.marks c).isSome:=⟨_,rfl⟩
  have hci:qx c:=⟨by omega,by omega⟩
  have HLK:aa (∀ W,ey n W p L r mb bb v op rv->(Instr.lookup 130 (.map (some mb)) (.int .i64 c) true).run prog W=.ok (.tuple #[.agg ya,.bool has]) W):=fun W hW=>by
   rw[<-hya,hhas,<-jm op.marks sm c]
   exact fp W 130 43 underlying130 (zeroDig W) mb n _ hW.marks c hci
  have HYS:=ac hys
  have HY1:=ac hy1
  have HHAS:=ac hhas
  clear hya hys hy1 hyl hhas
  go_upto_region 4 with fail
  refine wp_region_held_drew (S:=fun W=>ey n W p L r mb bb v op rv) (by kernel_rfl) (HC1.out.new (aA _)) (fun hHeld=>?_)
  refine ts 0 (.pointer (some ⟨p,0,none⟩)) hHeld ?_
  try simp only[Act.put,ps]
  refine ts 1 (.pointer (some ⟨p,0,none⟩)) hHeld ?_
  try simp only[Act.put,ps]
  refine ts 2 (.pointer (some ⟨p,52,none⟩)) hHeld ?_
  try simp only[Act.put,ps]
  refine tk 3 (.pointer (some ⟨r,0,none⟩)) hHeld ?_ ?_
  ·intro W hSw
   have c:=hSw.md.opn
   rw[HOV.out] at c
   go_simp
  try simp only[Act.put,ps]
  refine ts 4 (.pointer (some ⟨r,0,none⟩)) hHeld ?_
  try simp only[Act.put,ps]
  refine ts 5 (.pointer (some ⟨r,49,none⟩)) hHeld ?_
  try simp only[Act.put,ps]
  refine tk 6 (.map (some mb)) hHeld ?_ ?_
  ·intro W hSw
   have c:=hSw.rnd.marks
   go_simp
  try simp only[Act.put,ps]
  refine ts 7 (.pointer (some ⟨L,3,none⟩)) hHeld ?_
  try simp only[Act.put,ps]
  refine tk 8 (.int .i64 c) hHeld ?_ ?_
  ·intro W hSw
   have e:=hSw.rc.carrier
   rw[HRC.out] at e
   go_simp
  try simp only[Act.put,ps]
  refine tk 9 (.tuple #[.agg ya,.bool has]) hHeld ?_ ?_
  ·intro W hSw
   have hl:=HLK.out W hSw
   go_simp
  try simp only[Act.put,ps]
  refine ts 10 (.tuple #[.agg ya,.bool has]) hHeld ?_
  try simp only[Act.put,ps]
  refine ts 11 (.agg ya) hHeld ?_
  try simp only[Act.put,ps]
  refine ts 12 (.bool has) hHeld ?_
  try simp only[Act.put,ps]
  refine rd 13 (fun K hK=>?_)
  go_simp
  refine hK.out _ (wc.drew.alloc (.cells nh 43)) (HC1.out.new (aD (aA wc) (af _ _))) (fun hHeld=>?_)
  clear hK K
  try simp only[Act.put,ps]
  refine rd 14 (fun K hK=>?_)
  refine fd rfl 43 _ _ rfl (.pointer (some ⟨wc.heap.size,0,none⟩)) (.agg ya) rfl rfl (lD wc.drew ya HYS.out HY1.out) ?_
  obtain⟨w3,hw3⟩:=nm (wc.drew.alloc (.cells ya 43))
  obtain⟨D,hDD⟩:=nm (wc.heap.size)
  have HW3:=ac hw3
  have HB3:aa (Below wc.heap.size wc w3):=by rw[hw3];exact aD (aA wc) (af _ _)
  have HD3:aa (w3.heap[D]?=some (.cells ya 43 (0,0))):=by rw[hw3,hDD];exact ax _ _
  rw[<-hw3,<-hDD]
  have HDD:aa (w.heap.size<=D):=by rw[hDD];exact HNc.out.size
  clear hw3 hDD
  refine hK.out _ _ (HC1.out.new HB3.out) (fun hHeld=>?_)
  clear hK K
  try simp only[Act.put,ps]
  refine ts 15 (.bool has) hHeld ?_
  try simp only[Act.put,ps]
  refine wpAnyH_done (by kernel_rfl) ?_ _
  have HC3:=ac (HC1.out.new HB3.out)
  have HN3:=ac (HNc.out.trans (HB3.out.mono HNc.out.size))
  clear HC1 hHeld
  cases has with
  | true=>
   have HNP:aa (¬ ef st op d):=fun h=>by
    have h1:=h.2.2.2.2.2
    have h2:=HHAS.out
    rw[HC.out] at h2
    cases hm:op.marks d.carrier with
    | none=>rw[hm] at h2;cases h2
    | some l=>rw[hm] at h1;cases h1
   go_wp2_with fail
   go_ret
   rw[HR.out,if_neg HNP.out]
   exact aW HH.out HSS.out HN3.out
  | false=>
  have HCP:aa (ef st op d):=⟨HXY.out,HGG.out.1,HGG.out.2.1,HGG.out.2.2.1,HGG.out.2.2.2,by
   have h2:=HHAS.out
   rw[HC.out] at h2
   cases hm:op.marks d.carrier with
   | none=>rfl
   | some l=>rw[hm] at h2;cases h2⟩
  obtain⟨cp,hcp⟩:∃x:List Value,x=(List.range 32).map fun j=>Value.int .u8 (rv.dig j):=⟨_,rfl⟩
  have HCPL:aa (cp.toArray=(d.dig.map (Value.int .u8)).toArray):=by
   rw[hcp]
   congr 1
   apply List.ext_getElem?
   intro i
   by_cases hi:i<32
   ·rw[List.getElem?_map,List.getElem?_range hi,List.getElem?_map,List.getElem?_eq_getElem (by rw[HD.out.len];exact hi)]
    show some (Value.int .u8 (rv.dig i))=_
    rw[HRD.out i,List.getD_eq_getElem?_getD,List.getElem?_eq_getElem (by rw[HD.out.len];exact hi)]
    rfl
   ·rw[List.getElem?_eq_none (by simp;omega),List.getElem?_eq_none (by rw[List.length_map,HD.out.len];omega)]
  have hi1:(prog.info? 43).map (·.size)=some cp.length:=by rw[hcp,List.length_map,List.length_range];kernel_rfl
  have HCR:aa (∀ W,ah W L rv->W.rangeAt L 6 cp):=by rw[hcp];exact fun W hW=>hW.digRange
  clear hcp
  go_upto_region 7 with fail
  refine wp_region_held_drew (S:=fun W=>aV W p v/\df W r op mb bb/\ah W L rv) (by kernel_rfl) ((⟨(HC3.out.new (aA _)).md,(HC3.out.new (aA _)).rnd,(HC3.out.new (aA _)).rc⟩:aV w3.drew p v/\df w3.drew r op mb bb/\ah w3.drew L rv)) (fun hHeld=>?_)
  refine ts 0 (.pointer (some ⟨p,0,none⟩)) hHeld ?_
  try simp only[Act.put,ps]
  refine ts 1 (.pointer (some ⟨p,0,none⟩)) hHeld ?_
  try simp only[Act.put,ps]
  refine ts 2 (.pointer (some ⟨p,52,none⟩)) hHeld ?_
  try simp only[Act.put,ps]
  refine tk 3 (.pointer (some ⟨r,0,none⟩)) hHeld ?_ ?_
  ·intro W hSw
   have c:=hSw.1.opn
   rw[HOV.out] at c
   go_simp
  try simp only[Act.put,ps]
  refine ts 4 (.pointer (some ⟨r,0,none⟩)) hHeld ?_
  try simp only[Act.put,ps]
  refine ts 5 (.pointer (some ⟨r,49,none⟩)) hHeld ?_
  try simp only[Act.put,ps]
  refine tk 6 (.map (some mb)) hHeld ?_ ?_
  ·intro W hSw
   have c:=hSw.2.1.marks
   go_simp
  try simp only[Act.put,ps]
  refine ts 7 (.pointer (some ⟨L,3,none⟩)) hHeld ?_
  try simp only[Act.put,ps]
  refine tk 8 (.int .i64 c) hHeld ?_ ?_
  ·intro W hSw
   have e:=hSw.2.2.carrier
   rw[HRC.out] at e
   go_simp
  try simp only[Act.put,ps]
  refine ts 9 (.pointer (some ⟨L,6,none⟩)) hHeld ?_
  try simp only[Act.put,ps]
  refine tl 10 (.agg cp.toArray) rfl (yieldsIf_load_mid (by rfl) 43 (.tmp 83) rfl L 6 rfl cp _ (fun W hW=>HCR.out W hW.2.2) underlying43 rfl hi1) hHeld ?_
  try simp only[Act.put,ps]
  rw[HCPL.out]
  refine rd 11 (fun K hK=>?_)
  refine ic rfl _ _ _ 130 43 rfl underlying130 mb n (mX op.marks) rfl (HC3.out.new (aA _)).marks (by unfold maxLen;omega) c (sm d.dig) rfl rfl hci ?_
  intro w5 hm5 hg5
  have HK5:aa (am (·≠mb) w3 w5):=((am.refl _ w3).drew).trans (aF hg5 (·≠mb) (fun j hj=>by obtain rfl:=Option.some.inj hj;simp))
  have HM5:aa (db w5 mb (n + 1) (mX (jI op.marks c d.dig))):=by rw[<-zl];exact hm5
  clear hm5 hg5
  have hpm:p≠mb:=fun e=>by
   obtain⟨es,ck,hb⟩:=HC3.out.marks.block
   have:=HC3.out.md
   rw[aV,e,hb] at this
   cases this
  have hrm:r≠mb:=fun e=>by
   obtain⟨es,ck,hb⟩:=HC3.out.marks.block
   obtain⟨cs,h1,_⟩:=HC3.out.rnd
   rw[e,hb] at h1
   cases h1
  have hLm:L≠mb:=fun e=>by have:=HSS.out mb HSM.out;have:=HLw.out;omega
  refine hK.out _ _ ⟨HC3.out.md.keeps HK5.out hpm,HC3.out.rnd.keeps HK5.out hrm,HC3.out.rc.keeps HK5.out hLm⟩ (fun hHeld=>?_)
  clear hK K
  try simp only[Act.put,ps]
  refine wpAnyH_done (by kernel_rfl) ?_ _
  clear hHeld
  go_wp2_with fail
  go_ret
  rw[HR.out,if_pos HCP.out]
  have HK0:aa (am (·≠mb) w w5):=(ak HN3.out _).trans HK5.out
  refine⟨rfl,S,⟨v,xw HH.out HO.out HOV.out HSM.out HK0.out (by rw[<-HC.out];exact HM5.out) HD.out HRB.out HMBL.out⟩,HK0.out.mono (fun k _ hk e=>hk (by rw[e];exact HSM.out)),fun k hk=>.inl hk,fun k hk=>Nat.lt_of_lt_of_le (HSS.out k hk) HK0.out.size⟩
theorem kM {S:Nat->Prop} {n:Nat} {w:World} {p:Nat} {v:bS} {st:MSt} (h:bB S n w p v st) (hS:∀k,S k->k<w.heap.size) (hno:st.opn=none) (rv:RecV):
  Calls prog 43 #[.pointer (some ⟨p,0,none⟩),.agg (ae rv)] w (dF S n w p st none):=by
 obtain⟨L,hL⟩:=nm (w.heap.size)
 obtain⟨w0,hw0⟩:=nm (w.alloc (.cells (ae rv) 49))
 have HN0:aa (Below w.heap.size w w0):=by rw[hw0];exact af _ _
 have HR0:aa (ah w0 L rv):=by rw[hw0,hL];exact ah.box _ _
 have HH:=ac h
 have HSS:=ac hS
 have HNO:=ac hno
 have hi0:(prog.info? 49).map (·.size)=some (ae rv).size:=by rw[aj];kernel_rfl
 clear h hS hno
 go_enter func43,ntmps43
 go_upto_region 1 with fail
 rw[<-hw0,<-hL]
 clear hw0 hL
 go_wp2_with (guard_target =~ wpList _ _ _ _ _ _;refine wpList_load_row rfl _ _ rfl L rfl _ (ae rv) (0,0) _ HR0.out underlying49 rfl hi0 ?_)
 refine (lx (HH.out.new HN0.out) HNO.out rv).mono ?_
 rintro e w1 ⟨rfl,hb1⟩
 have HN1:=ac (HN0.out.trans (hb1.mono HN0.out.size))
 clear hb1 hi0
 go_wp2_with fail
 go_ret
 exact aW HH.out HSS.out HN1.out
theorem tM {S:Nat->Prop} {n:Nat} {w wz:World} {p r bb:Nat} {v:bS} {st:MSt} {op:Opn} {d:RecD} (h:bB S n w p v st) (ho:st.opn=some op) (hov:v.opn=.pointer (some ⟨r,0,none⟩)) (hK:am (·≠bb) w wz)
  (hM:db wz bb (n + 1) (gv (jI op.bids d.carrier d.bid))) (hmb:∃cs,w.heap[r]?=some (.cells cs 133 (0,0))/\cs[50]?=some (.map (some bb))) (hmap:∃es ck,w.heap[bb]?=some (.map es ck)):bB S (n + 1) wz p v (fm st op d):=by
 obtain⟨es,ck,hmh⟩:=hmap
 have hne:∀{k:Nat} {cs:Array Value} {T:TypeId} {fr:Nat × Nat},w.heap[k]?=some (.cells cs T fr)->k≠bb:=fun hk e=>by rw[e,hmh] at hk;cases hk
 have hopn:=h.opn
 rw[ho] at hopn
 obtain⟨r',mb',bb',e,h1,h2,h3,h4,h5,h6,h7,h8⟩:=hopn
 obtain rfl:r'=r:=by rw[hov] at e;injection e with e;injection e with e;injection e with e;exact e.symm
 obtain⟨cs,hc,hc50⟩:=hmb
 obtain rfl:bb'=bb:=by
  have:=h5.bids
  rw[aq hc,hc50] at this
  injection this with this;injection this with this;injection this with this;exact this.symm
 refine⟨h.here.keeps hK (hne h.here),h.own,h.scn,?_,?_,?_,?_,?_,h.ap1,h.ap2,h.ap3,?_,h.tick,h.ended,Nat.le_trans h.nout (Nat.le_succ n),h.sok⟩
 ·exact h.lots.keep hK (fun k hk=>by obtain⟨cur,hh⟩:=h.lots.block k hk;exact hne hh)
 ·exact h.owners.keep hK (fun k hk=>by obtain⟨cur,hh⟩:=h.owners.block k hk;exact hne hh)
 ·exact h.states.keep hK (fun k hk=>by obtain⟨cur,hh⟩:=h.states.block k hk;exact hne hh)
 ·exact h.outs.keep hK (fun k hk=>by obtain⟨cur,hh⟩:=h.outs.block k hk;exact hne hh)
 ·exact h.barred.keep hK (fun k hk=>by obtain⟨cur,hh⟩:=h.barred.block k hk;exact hne hh)
 exact⟨r',mb',bb',e,h1,h2,h3,h4,(h5.same (o':={op with bids:=jI op.bids d.carrier d.bid}) rfl rfl rfl).keeps hK (hne hc),(h6.keeps hK h4).mono (Nat.le_succ n),hM,h8⟩
theorem qD (f:Int->Option Int) (c:Int):∃y:Int,(gv f c).getD (.int .u64 0)=.int .u64 y/\∀b,f c=some b->y=b:=by
 cases h:f c with
 | none=>exact⟨0,by simp[gv,h],fun b hb=>by cases hb⟩
 | some b=>exact⟨b,by simp[gv,h],fun b' hb=>by injection hb⟩
def bF (l:List Int):List Value:=l.map (Value.int .u8)
theorem Tryz.infoU8s:(prog.info? 5).map (fun i=>(i.zero,i.size,i.bytes))=some (some (.int .u8 0),1,1):=by kernel_rfl
def nk (x:Int) (k:Nat):Int:=x / 2 ^ (56 - 8 * (k:Int)).toNat % 256
def cH (x:Int):List Int:=(List.range 8).map (nk x)
def lE (base:Nat) (l:List Int) (x:Int) (w:World) (e:Ending) (w':World):Prop:=
 ∃v',e=.returned v'/\w'.ownsRow base 5 1 v' (l++cH x).length (bF (l++cH x))/\am (fun k=>k<base) w w'
theorem sx (l:List Int):(bF l).length=l.length:=by simp[bF]
theorem xx (base:Nat) (l:List Int) (hl:l.length<=1000) (x:Int) (hx:0<=x/\x<=18446744073709551615) (v:Value) (w:World) (hb:base<=w.heap.size) (hv:w.ownsRow base 5 1 v l.length (bF l)):
  Calls prog 161 #[v,.int .u64 x] w (lE base l x w):=by
 have HV:=ac hv
 have HBW:=ac hb
 clear hv hb
 go_enter func161,ntmps161
 go_wp2_with fail
 go_loopg [0,5] 9 (fun g v0 v5 wr=>∃(k:Nat),k<=8/\v5=.int .i64 (56 - 8 * (k:Int))/\8 - k<g/\aa (wr.ownsRow base 5 1 v0 (l.length + k) (bF (l++(List.range k).map (nk x)))/\am (fun k=>k<base) w wr))
 case atStart=>exact⟨0,by omega,rfl,by omega,by simpa using HV.out,am.refl _ _⟩
 case round=>
  obtain⟨k,hk,rfl,hg,HR⟩:=hrel
  obtain⟨av,cv,rfl,_⟩:=az HR.out.1
  by_cases hk8:k<8
  ·have h0:(0:Int)<=56 - 8 * (k:Int):=by omega
   obtain⟨z,hz⟩:∃z:Int,z=56 - 8 * (k:Int):=⟨_,rfl⟩
   have hz7:IntKind.i64.wrap (z - 8)=z - 8:=IntWalk.i64_in _ (by omega)
   rw[<-hz] at h0 ⊢
   have HZ:=ac hz
   have hzb:z<=56:=by omega
   clear hz
   go_wp2_with (first
    | (at_builtin;refine aZ rfl _ _ 22 5 rfl (.int .u8 0) 1 1 underlying22 Tryz.infoU8s rfl (by decide) base _ (l.length + k) _ rfl (World.ownsRow.alloc HR.out.1 _) wr.heap.size [.int .u8 (x / 2 ^ z.toNat % 256)] ?c1 ?c2 rfl ?c3 ?c4 ?c5 ?c6 ?_)
    | fail)
   case c1=>rfl
   case c2=>intro u hu;obtain rfl:=List.mem_singleton.1 hu;rfl
   case c3=>intro j y hy;rw[aO];simpa using hy
   case c4=>unfold maxLen;omega
   case c5=>omega
   case c6=>have:=HR.out.2.size;have:=HBW.out;simp;omega
   intro v' w1 hown hgrow
   have HR1:aa (w1.ownsRow base 5 1 v' (l.length + (k + 1)) (bF (l++(List.range (k + 1)).map (nk x)))/\am (fun k=>k<base) w w1):=by
    refine⟨?_,?_⟩
    ·have e:bF (l++(List.range (k + 1)).map (nk x))=bF (l++(List.range k).map (nk x))++[.int .u8 (x / 2 ^ z.toNat % 256)]:=by
      rw[List.range_succ,List.map_append,<-List.append_assoc,bF,List.map_append]
      show _++[Value.int .u8 (nk x k)]=_
      rw[nk,<-HZ.out]
      rfl
     rw[e]
     exact hown
    ·exact (HR.out.2.alloc _).trans (aF hgrow (fun k=>k<base) (fun j hj=>by have:=bM HR.out.1 j hj;omega))
   clear hown hgrow
   go_wp2_with fail
   go_roundg (9 - (k + 1))
   case measure=>omega
   case rel=>exact⟨k + 1,hk8,by have:=HZ.out;congr 1;omega,by omega,HR1.out⟩
  ·obtain rfl:k=8:=by omega
   have e8:(56 - 8 * ((8:Nat):Int))=-8:=by decide
   rw[e8]
   go_wp2_with fail
   go_ret
   exact⟨_,rfl,by rw[List.length_append];exact HR.out.1,HR.out.2⟩
theorem AD (base:Nat) (l:List Int) (hl:l.length<=1000) (x:Int) (hx:0<=x/\x<=1000000) (v:Value) (w:World) (hb:base<=w.heap.size) (hv:w.ownsRow base 5 1 v l.length (bF l)):
  Calls prog 160 #[v,.int .i64 x] w (lE base l x w):=by
 have HV:=ac hv
 have HBW:=ac hb
 clear hv hb
 go_enter func160,ntmps160
 go_wp2_with fail
 go_loopg [0,5] 9 (fun g v0 v5 wr=>∃(k:Nat),k<=8/\v5=.int .i64 (56 - 8 * (k:Int))/\8 - k<g/\aa (wr.ownsRow base 5 1 v0 (l.length + k) (bF (l++(List.range k).map (nk x)))/\am (fun k=>k<base) w wr))
 case atStart=>exact⟨0,by omega,rfl,by omega,by simpa using HV.out,am.refl _ _⟩
 case round=>
  obtain⟨k,hk,rfl,hg,HR⟩:=hrel
  obtain⟨av,cv,rfl,_⟩:=az HR.out.1
  by_cases hk8:k<8
  ·have h0:(0:Int)<=56 - 8 * (k:Int):=by omega
   obtain⟨z,hz⟩:∃z:Int,z=56 - 8 * (k:Int):=⟨_,rfl⟩
   have hz7:IntKind.i64.wrap (z - 8)=z - 8:=IntWalk.i64_in _ (by omega)
   rw[<-hz] at h0 ⊢
   have HZ:=ac hz
   have hzb:z<=56:=by omega
   clear hz
   go_wp2_with (first
    | (at_builtin;refine aZ rfl _ _ 22 5 rfl (.int .u8 0) 1 1 underlying22 Tryz.infoU8s rfl (by decide) base _ (l.length + k) _ rfl (World.ownsRow.alloc HR.out.1 _) wr.heap.size [.int .u8 (x / 2 ^ z.toNat % 256)] ?c1 ?c2 rfl ?c3 ?c4 ?c5 ?c6 ?_)
    | fail)
   case c1=>rfl
   case c2=>intro u hu;obtain rfl:=List.mem_singleton.1 hu;rfl
   case c3=>intro j y hy;rw[aO];simpa using hy
   case c4=>unfold maxLen;omega
   case c5=>omega
   case c6=>have:=HR.out.2.size;have:=HBW.out;simp;omega
   intro v' w1 hown hgrow
   have HR1:aa (w1.ownsRow base 5 1 v' (l.length + (k + 1)) (bF (l++(List.range (k + 1)).map (nk x)))/\am (fun k=>k<base) w w1):=by
    refine⟨?_,?_⟩
    ·have e:bF (l++(List.range (k + 1)).map (nk x))=bF (l++(List.range k).map (nk x))++[.int .u8 (x / 2 ^ z.toNat % 256)]:=by
      rw[List.range_succ,List.map_append,<-List.append_assoc,bF,List.map_append]
      show _++[Value.int .u8 (nk x k)]=_
      rw[nk,<-HZ.out]
      rfl
     rw[e]
     exact hown
    ·exact (HR.out.2.alloc _).trans (aF hgrow (fun k=>k<base) (fun j hj=>by have:=bM HR.out.1 j hj;omega))
   clear hown hgrow
   go_wp2_with fail
   go_roundg (9 - (k + 1))
   case measure=>omega
   case rel=>exact⟨k + 1,hk8,by have:=HZ.out;congr 1;omega,by omega,HR1.out⟩
  ·obtain rfl:k=8:=by omega
   have e8:(56 - 8 * ((8:Nat):Int))=-8:=by decide
   rw[e8]
   go_wp2_with fail
   go_ret
   exact⟨_,rfl,by rw[List.length_append];exact HR.out.1,HR.out.2⟩
