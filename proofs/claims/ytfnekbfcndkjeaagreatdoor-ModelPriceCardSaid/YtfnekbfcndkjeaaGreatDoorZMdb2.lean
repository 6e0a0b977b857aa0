/- opens, walked. -/
import Derived.Test.YtfnekbfcndkjeaaGreatDoorZMdw3
set_option maxHeartbeats 4000000
set_option maxRecDepth 100000
set_option linter.all false
namespace Go.Proofs.YtfnekbfcndkjeaaGreatDoor
open Go.Proofs.Tryz Go.RowKit
def dF (S:Nat->Prop) (n:Nat) (w:World) (p:Nat) (st:MSt) (r:Option MSt) (e:Ending) (w':World):Prop:=
 e=.returned (.bool r.isSome)/\∃S':Nat->Prop,(∃ v',bB S' (n + 1) w' p v' (r.getD st))/\am (fun k=>¬S k) w w'/\(∀ k,S' k->S k\/w.heap.size<=k)/\∀k,S' k->k<w'.heap.size
def jk (S:Nat->Prop) (w:World) (rv:RecV) (d:RecD):Prop:=∀W,am (fun k=>¬S k) w W->bu W rv d
theorem aW {S:Nat->Prop} {n:Nat} {w w':World} {p:Nat} {v:bS} {st:MSt} (h:bB S n w p v st) (hS:∀k,S k->k<w.heap.size) (hb:Below w.heap.size w w'):dF S n w p st none (.returned (.bool false)) w':=
 ⟨rfl,S,⟨v,(h.new hb).wide (fun _ h=>h) (Nat.le_succ n)⟩,ak hb _,fun _ h=>.inl h,fun k hk=>Nat.lt_of_lt_of_le (hS k hk) hb.size⟩
def kH (xs:List (Int × Int)):Nat->Int->Option Value
 | 0=>fun _=>none
 | k + 1=>jI (kH xs k) (xs.getD k (0,0)).1 (.int .i64 1)
theorem mZ (xs:List (Int × Int)) (c:Int) (v:Value):∀k,kH xs k c=some v->v=.int .i64 1/\∃j,j<k/\(xs.getD j (0,0)).1=c
 | 0,h=>by cases h
 | k + 1,h=>by
  unfold kH jI at h
  split at h
  ·rename_i e
   exact⟨(Option.some.inj h).symm,k,Nat.lt_succ_self k,e.symm⟩
  ·obtain⟨h1,j,h2,h3⟩:=mZ xs c v k h
   exact⟨h1,j,by omega,h3⟩
theorem m0 (xs:List (Int × Int)) (c:Int):∀k,kH xs k c=none->∀j,j<k->(xs.getD j (0,0)).1≠c
 | 0,_,j,hj=>by omega
 | k + 1,h,j,hj=>by
  unfold kH jI at h
  split at h
  ·cases h
  ·rename_i e
   by_cases hjk:j=k
   ·subst hjk;exact fun h=>e h.symm
   ·exact m0 xs c k h j (by omega)
theorem qz (w:World):(zeroValue 3).run prog w=.ok (.int .i64 0) w:=by kernel_rfl
def xt (d:RecD) (k:Nat):Prop:=∀i,i<k->(∀ j,j<i->(d.lots.getD j (0,0)).1≠(d.lots.getD i (0,0)).1)/\(d.lots.getD i (0,0)).1<d.owners.length
theorem fd {ops:Array Oper} {o:Oper} {a:Act} {K:Act->World->Prop} {Q:Exit->Act->World->Prop} {E':Prop} {w w1:World} (hgd:o.guard=none) (ty:TypeId) (x y:Operand) (ho:o.op=.store ty x y)
  (q u:Value) (hx:a.eval x=q) (hy:a.eval y=u) (hr:(Instr.storeAt ty q u).run prog w=.ok () w1) (h:K (a.put o.dst undef) w1):
  if Region.wanted o (yielded ops a.tmps)=true then Oper.wp prog o a w K Q else E':=by
 have hw:Region.wanted o (yielded ops a.tmps)=true:=by simp[Region.wanted,hgd]
 rw[if_pos hw]
 unfold Oper.wp execOp
 simp only[ho,hx,hy,Sem.run_bind,hr,Result.andThen_ok,Sem.run_pure]
 exact h
def Ay (cs:Array Value):Nat->List Value->Array Value
 | _,[]=>cs
 | j,x :: xs=>Ay (cs.setIfInBounds j x) (j + 1) xs
theorem m6 {L:Nat} {t:TypeId} {fr:Nat × Nat}:∀(xs:List Value) (j:Nat) (w:World) (cs:Array Value),w.heap[L]?=some (.cells cs t fr)->(w.setCells L j xs).heap[L]?=some (.cells (Ay cs j xs) t fr)
 | [],_,_,_,h=>h
 | x :: xs,j,w,cs,h=>m6 xs (j + 1) _ _ (aH h j x)
theorem gR (L:Nat) (w:World):∀(xs:List Value) (j:Nat),am (·≠L) w (w.setCells L j xs):=by
 have:∀(vs:List Value) (o:Nat) (u:World),am (·≠L) w u->am (·≠L) w (u.setCells L o vs):=by
  intro vs
  induction vs with
  | nil=>intro o u hu;exact hu
  | cons v vs ih=>intro o u hu;exact ih _ _ (hu.setCell (p:=⟨L,o,none⟩) (.inr (fun e=>e rfl)) v)
 exact fun xs j=>this xs j w (am.refl _ _)
theorem qA {W:World} {L:Nat} {r:RecV} (h:ah W L r):W.rangeAt L 0 (ae r).toList:=by
 intro j v hv
 rw[Nat.zero_add,h.cell j]
 simpa using hv
theorem sr (v:bS) (r:RecV):Ay (eI v) 0 (ae r).toList=eI {v with scn:=r}:=by kernel_rfl
theorem aV.setRec {w:World} {p:Nat} {v:bS} (h:aV w p v) (r:RecV):aV (w.setCells p 0 (ae r).toList) p {v with scn:=r}:=by
 have:=m6 (ae r).toList 0 w _ h
 rw[sr] at this
 exact this
theorem aV.storeRec {w:World} {p:Nat} {v:bS} (h:aV w p v) (r:RecV) (h1:(ae r).all (·.oneCell')=true):(Instr.storeAt 49 (.pointer (some ⟨p,0,none⟩)) (.agg (ae r))).run prog w=.ok () (w.setCells p 0 (ae r).toList):=
 run_storeAt_mid w p 0 49 (ae r) (fun j hj=>⟨by
  rw[Nat.zero_add]
  have:w.cell? ⟨p,j,none⟩=(eI v)[j]? :=aq h j
  rw[this,Array.getElem?_eq_getElem (by rw[n5];rw[aj] at hj;omega)]
  rfl,h.free _⟩) (by rw[aj];kernel_rfl) h1
theorem kI {w:World} {a b:Nat} {cs ds:Array Value} {T U:TypeId} {fr gr:Nat × Nat} (h1:w.heap[a]?=some (.cells cs T fr)) (h2:w.heap[b]?=some (.cells ds U gr)) (h:T≠U):a≠b:=by
 rintro rfl
 rw[h1] at h2
 injection h2 with h2
 injection h2 with _ h2 _
 exact h h2
theorem A3 (n:Nat):(madeCells (Value.int .i64 0).cells (n * 1)).toList=(List.replicate n (0:Int)).map (Value.int .i64):=by
 rw[Nat.mul_one,List.map_replicate]
 unfold madeCells
 apply List.ext_getElem
 ·simp
 ·intro i h1 h2
  simp[Value.cells]
  rw[Nat.mod_one]
  rfl
theorem kJ {S:Nat->Prop} {w W:World} {v:Value} {n base:Nat} {xs:List Int} (hn:n=xs.length) (h:W.ownsRow base 3 1 v n (xs.map (Value.int .i64))) (hb:w.heap.size<=base):eZ (fun k=>S k\/(w.heap.size<=k/\k<W.heap.size)) W v xs:=by
 subst hn
 exact⟨bY h (Nat.zero_le _),fun k hk=>by have:=World.ownsRow.lt h k hk;exact .inr ⟨by omega,this.2⟩⟩
theorem y7 {S:Nat->Prop} {w W:World} {v:Value} {n base:Nat} {xs:List (Int × Int)} (hn:n=xs.length) (h:W.ownsRow base 63 2 v n (cM xs)) (hb:w.heap.size<=base):rI (fun k=>S k\/(w.heap.size<=k/\k<W.heap.size)) W v xs:=by
 subst hn
 exact⟨bY h (Nat.zero_le _),fun k hk=>by have:=World.ownsRow.lt h k hk;exact .inr ⟨by omega,this.2⟩⟩
theorem aV.ne {w:World} {p k:Nat} {v:bS} {ds:Array Value} {U:TypeId} {gr:Nat × Nat} (h:aV w p v) (h2:w.heap[k]?=some (.cells ds U gr)) (hne:93≠U):k≠p:=fun e=>kI h h2 hne e.symm
theorem uE {S:Nat->Prop} {n:Nat} {w wr w3 w5 w6 w7 w8:World} {p no nl:Nat} {v:bS} {st:MSt} {rv:RecV} {d:RecD} {b l o ov lv:Value} (h:bB S n w p v st) (hS:∀k,S k->k<w.heap.size) (hf:st.opn=none) (hw:st.Wf) (hrv:rv=d.toV b l o)
  (hno:no=d.owners.length) (hnl:nl=d.lots.length) (hk:-9223372036854775808<=d.kind/\d.kind<=9223372036854775807)
  (hwr:w.heap.size<=wr.heap.size) (hb3:Below w.heap.size w w3) (hov:w3.ownsRow wr.heap.size 3 1 ov no (d.owners.map (Value.int .i64))) (k5:am (·≠p) w3 w5)
  (b56:Below w5.heap.size w5 w6) (hlv:w6.ownsRow w5.heap.size 63 2 lv nl (cM d.lots)) (k7:am (·≠p) w6 w7)
  (h8:w8.ownsRow 0 3 1 (.slice (some ⟨w7.heap.size,0,none⟩) nl nl) nl (madeCells (Value.int .i64 0).cells (nl * 1)).toList) (g8:w7.grownBy w8 none)
  (m8:aV w8 p {v with scn:={rv with lots:=lv,owners:=.slice none 0 0},owners:=ov}):
  dF S n w p st (some (iC st d)) (.returned (.bool true)) (w8.setCell ⟨p,50,none⟩ (.slice (some ⟨w7.heap.size,0,none⟩) nl nl)):=by
 obtain⟨w9,hw9⟩:∃z,z=w8.setCell ⟨p,50,none⟩ (.slice (some ⟨w7.heap.size,0,none⟩) nl nl):=⟨_,rfl⟩
 rw[<-hw9]
 have hpS:=hS p h.own
 have k9:am (·≠p) w8 w9:=by rw[hw9];exact (am.refl _ _).setCell (p:=⟨p,50,none⟩) (.inr (fun h=>h rfl)) _
 have k79:am (·≠p) w7 w9:=(aF g8 (·≠p) (fun j hj=>by cases hj)).trans k9
 have k69:am (·≠p) w6 w9:=k7.trans k79
 have k39:am (·≠p) w3 w9:=(k5.trans (ak b56 _)).trans k69
 have k09:am (·≠p) w w9:=(ak hb3 _).trans k39
 have m9:aV w9 p {v with scn:={rv with lots:=lv,owners:=.slice none 0 0},owners:=ov,states:=.slice (some ⟨w7.heap.size,0,none⟩) nl nl}:=by rw[hw9];exact m8.setStates _
 have s3:=hb3.size
 have s5:=k5.size
 have s6:=b56.size
 have s7:=k7.size
 have s8:=g8.size
 have s9:=k9.size
 have hOV:w9.ownsRow wr.heap.size 3 1 ov no (d.owners.map (Value.int .i64)):=dG hov k39 (fun k hk=>by omega)
 have hLV:w9.ownsRow w5.heap.size 63 2 lv nl (cM d.lots):=dG hlv k69 (fun k hk=>by omega)
 have hSV:w9.ownsRow w7.heap.size 3 1 (.slice (some ⟨w7.heap.size,0,none⟩) nl nl) nl ((List.replicate nl (0:Int)).map (Value.int .i64)):=by
  rw[<-A3]
  have h9:w8.ownsRow w7.heap.size 3 1 (.slice (some ⟨w7.heap.size,0,none⟩) nl nl) nl (madeCells (Value.int .i64 0).cells (nl * 1)).toList:=by
   obtain⟨e1,e2⟩:=h8
   refine⟨e1,e2.imp_right ?_⟩
   rintro⟨g,cap,cur,e,_,r⟩
   exact⟨g,cap,cur,e,by injection e with e _ _;injection e with e;injection e with e;omega,r⟩
  exact dG h9 k9 (fun k hk=>by omega)
 refine⟨rfl,fun k=>S k\/(w.heap.size<=k/\k<w9.heap.size),⟨_,⟨m9,.inl h.own,⟨b,.slice none 0 0,by subst hrv;rfl⟩,y7 hnl hLV (by omega),kJ hno hOV hwr,(kJ (n:=nl) (base:=w7.heap.size) (xs:=List.replicate d.lots.length (0:Int)) (by simp[hnl]) (by rw[<-hnl];exact hSV) (by omega)),?_,?_,?_,?_,?_,?_,?_,?_,?_,hk⟩⟩,k09.mono (fun k _ hk e=>hk (by rw[e];exact h.own)),fun k hk=>hk.imp id (fun h=>h.1),fun k hk=>by rcases hk with hk | hk;exact Nat.lt_of_lt_of_le (hS k hk) k09.size;exact hk.2⟩
 ·exact (h.outs.keep k09 (fun k hk=>by obtain⟨cur,hc⟩:=h.outs.block k hk;exact h.here.ne hc (by decide))).wide (fun k hk=>.inl hk)
 ·exact (h.barred.keep k09 (fun k hk=>by obtain⟨cur,hc⟩:=h.barred.block k hk;exact h.here.ne hc (by decide))).wide (fun k hk=>.inl hk)
 ·intro k hk he
  have h1:=World.ownsRow.lt hov k hk
  have:w7.heap.size=k:=by injection he
  omega
 ·intro k hk he
  have h1:=World.ownsRow.lt hov k hk
  have h2:=hS k (h.barred.2 k he)
  omega
 ·intro k hk he
  have:w7.heap.size=k:=by injection hk
  have h2:=hS k (h.barred.2 k he)
  omega
 ·show fR _ _ _ v.opn st.opn
  have:=h.opn
  rw[hf] at this ⊢
  exact this
 ·exact h.tick
 ·exact h.ended
 ·exact Nat.le_trans h.nout (Nat.le_succ n)
theorem uF {S:Nat->Prop} {n:Nat} {w:World} {p:Nat} {v:bS} {st:MSt} (h:bB S n w p v st) (hS:∀k,S k->k<w.heap.size) (hn:n<1000000000) (hf:st.opn=none) (hwf:st.Wf) (rv:RecV) (d:RecD) (hdk:-9223372036854775808<=d.kind/\d.kind<=9223372036854775807) (hsc:Bo d) (hr:jk S w rv d):
  Calls prog 40 #[.pointer (some ⟨p,0,none⟩),.agg (ae rv)] w (dF S n w p st (if hJ d then some (iC st d) else none)):=by
 obtain⟨R,hR⟩:∃R,R=(if hJ d then some (iC st d) else none):=⟨_,rfl⟩
 rw[<-hR]
 have HR:=ac hR
 clear hR
 have hrw:=hr w (am.refl _ _)
 obtain⟨b,l,o,rfl,hb,hl,hw⟩:=hrw
 obtain⟨L,hL⟩:=nm (w.heap.size)
 obtain⟨w0,hw0⟩:=nm (w.alloc (.cells (ae (d.toV b l o)) 49))
 obtain⟨w1,hw1⟩:=nm (w0.alloc (.map #[] 0))
 obtain⟨M,hM⟩:=nm (w0.heap.size)
 have HN0:aa (Below w.heap.size w w0):=by rw[hw0];exact af _ _
 have HR0:aa (ah w0 L (d.toV b l o)):=by rw[hw0,hL];exact ah.box _ _
 have HN1:aa (Below w.heap.size w w1):=by rw[hw1];exact HN0.out.alloc HN0.out.size _
 have HR1:aa (ah w1 L (d.toV b l o)):=by rw[hw1];exact HR0.out.new (af _ _)
 have HM1:aa (db w1 M 0 (kH d.lots 0)):=by rw[hw1,hM];exact db.made w0
 have HLw:aa (w.heap.size<=L):=Nat.le_of_eq hL.symm
 have HMw:aa (w.heap.size<=M/\L<M):=by
  have h1:=HN0.out.size
  have h2:=HR0.out.lt
  exact⟨by rw[hM];exact h1,by rw[hM];exact h2⟩
 have HRB:aa (bA w b d.barred):=hb
 have HRL:aa (cZ w l d.lots):=hl
 have HRW:aa (bA w o d.owners):=hw
 have HH:=ac h
 have HSS:=ac hS
 have HF:=ac hf
 have HSC:=ac hsc
 have HRO:=ac hr
 have HWF:=ac hwf
 have HDK:=ac hdk
 obtain⟨al,cl,rfl,hcl,hxl⟩:=hl
 obtain⟨ao,co,rfl,hco,hxo⟩:=hw
 have HXL:=ac hxl
 have HXO:=ac hxo
 have hnl:=hsc.nlots
 have hno:=hsc.nown
 have hmm:=@run_makeMap prog
 clear h hS hf hsc hr hb hxl hxo hcl hco hwf hdk
 obtain⟨nl,hnl2⟩:=nm (d.lots.length)
 obtain⟨no,hno2⟩:=nm (d.owners.length)
 have HNL:=ac hnl2
 have HNO:=ac hno2
 rw[<-hnl2] at hnl
 rw[<-hno2] at hno
 have c47:w1.cell? ⟨L,47,none⟩=some (.slice al nl cl):=by rw[hnl2];exact HR1.out.lots
 clear hnl2 hno2
 go_enter func40,ntmps40
 go_upto_region 1 with fail
 rw[<-hw0,<-hL]
 have HW1:=ac hw1
 have HMM:=ac hM
 clear hw0 hw1 hL hM
 go_upto_region 2 with fail
 rw[<-HW1.out,<-HMM.out]
 clear hmm HW1 HMM
 go_wp2_with fail
 clear c47
 go_loopg [14] nl (fun g v14 wr=>∃k:Nat,k<=nl/\v14=.int .i64 k/\nl - k<=g/\aa (db wr M k (kH d.lots k))/\aa (Below w.heap.size w wr/\ah wr L (d.toV b (.slice al d.lots.length cl) (.slice ao d.owners.length co)))/\aa (xt d k))
 case atStart=>exact⟨0,by omega,rfl,by omega,HM1,⟨HN1.out,HR1.out⟩,fun i hi=>absurd hi (by omega)⟩
 case round=>
  clear HN1 HR1 HM1 HN0 HR0
  obtain⟨k,hk,rfl,hg,HM,HBR,HFK⟩:=hrel
  by_cases hkn:k<nl
  ·have hki:(k:Int)<nl:=by omega
   obtain⟨lb,lo,rfl,hlb,hj⟩:=HXL.out (by rw[<-HNL.out];omega)
   obtain⟨q,hq⟩:∃q,q=(d.lots.getD k (0,0)).1:=⟨_,rfl⟩
   obtain⟨rs,hrs⟩:∃q,q=(d.lots.getD k (0,0)).2:=⟨_,rfl⟩
   have hjk:=hj k (by rw[<-HNL.out];exact hkn)
   have c1:wr.cell? ⟨lb,lo + k * 2,none⟩=some (.int .i64 q):=by rw[hq];exact (HBR.out.1.cell hlb).trans hjk.1
   have c2:wr.cell? ⟨lb,lo + k * 2 + 1,none⟩=some (.int .i64 rs):=by rw[hrs];exact (HBR.out.1.cell hlb).trans hjk.2
   have HQ:=ac hq
   have HRS:=ac hrs
   have HQI:aa (qx q):=by
    have:=(HSC.out.lots k (by rw[<-HNL.out];exact hkn)).1
    rw[aa,hq];unfold qx;omega
   clear hj hjk hq hrs hlb
   go_upto_region 5 with fail
   obtain⟨X,hX⟩:=nm (wr.heap.size)
   obtain⟨wx,hwx⟩:=nm (wr.alloc (.cells #[.int .i64 q,.int .i64 rs] 63))
   rw[<-hwx,<-hX]
   have HBX:aa (Below wr.heap.size wr wx):=by rw[hwx];exact af _ _
   have hcx:wx.heap[X]?=some (.cells #[.int .i64 q,.int .i64 rs] 63 (0,0)):=by rw[hwx,hX];exact ax _ _
   have HCX:=ac hcx
   have cx:wx.cell? ⟨X,0,none⟩=some (.int .i64 q):=aq hcx 0
   have HMX:=ac (HM.out.new HBX.out)
   have HXM:aa (M<X/\L<X):=by rw[hX];exact⟨HM.out.lt,HBR.out.2.lt⟩
   clear hwx hX hcx c1 c2
   cases hfq:kH d.lots k q with
   | some y=>
    obtain⟨rfl,j,hjk,hjq⟩:=mZ _ _ _ _ hfq
    have HNB:aa (¬ hJ d):=fun hb=>(hb.1 k (by rw[<-HNL.out];exact hkn)).1 j hjk (by rw[<-HQ.out];exact hjq)
    have HFQ:=ac hfq
    clear hfq hjk hjq
    go_upto_region 6 with (first
     | (at_lookup;refine fq _ rfl _ _ 127 3 rfl underlying127 (qz _) M _ _ rfl HMX.out q rfl HQI.out (.int .i64 1) (by rw[HFQ.out];rfl) ?_)
     | (at_mapUpdate;refine iW _ rfl _ _ _ 127 3 rfl underlying127 M k _ rfl HMX.out (by unfold maxLen;omega) q (.int .i64 2) rfl rfl HQI.out ?_;intro w2 hm2 hg2)
     | fail)
    have HM2:=ac hm2
    have HB2:aa (Below w.heap.size w w2):=(HBR.out.1.trans (HBX.out.mono HBR.out.1.size)).grown hg2 (Nat.le_trans HBR.out.1.size HBX.out.size) (fun j hj=>by obtain rfl:=Option.some.inj hj;exact HMw.out.1)
    have HK2:=ac (aF hg2 (·≠M) (fun j hj=>by obtain rfl:=Option.some.inj hj;simp))
    have cx2:w2.cell? ⟨X,0,none⟩=some (.int .i64 q):=aq (aw HCX.out HK2.out (by have:=HXM.out;omega)) 0
    have HR2:aa (ah w2 L (d.toV b (.slice (some ⟨lb,lo,none⟩) d.lots.length cl) (.slice ao d.owners.length co))):=(HBR.out.2.new HBX.out).keeps HK2.out (by have:=HMw.out;omega)
    clear hm2 hg2 cx
    go_wp2_with (first
     | (at_lookup;refine fq _ rfl _ _ 127 3 rfl underlying127 (qz _) M _ _ rfl HM2.out q rfl HQI.out (.int .i64 2) (by simp[jI]) ?_)
     | fail)
    go_ret
    rw[HR.out,if_neg HNB.out]
    exact aW HH.out HSS.out HB2.out
   | none=>
    have HFQ:=ac hfq
    clear hfq
    go_upto_region 6 with (first
     | (at_lookup;refine fq _ rfl _ _ 127 3 rfl underlying127 (qz _) M _ _ rfl HMX.out q rfl HQI.out (.int .i64 0) (by rw[HFQ.out];rfl) ?_)
     | (at_mapUpdate;refine iW _ rfl _ _ _ 127 3 rfl underlying127 M k _ rfl HMX.out (by unfold maxLen;omega) q (.int .i64 1) rfl rfl HQI.out ?_;intro w2 hm2 hg2)
     | fail)
    have HM2:=ac hm2
    have HB2:aa (Below w.heap.size w w2):=(HBR.out.1.trans (HBX.out.mono HBR.out.1.size)).grown hg2 (Nat.le_trans HBR.out.1.size HBX.out.size) (fun j hj=>by obtain rfl:=Option.some.inj hj;exact HMw.out.1)
    have HK2:=ac (aF hg2 (·≠M) (fun j hj=>by obtain rfl:=Option.some.inj hj;simp))
    have cx2:w2.cell? ⟨X,0,none⟩=some (.int .i64 q):=aq (aw HCX.out HK2.out (by have:=HXM.out;omega)) 0
    have HR2:aa (ah w2 L (d.toV b (.slice (some ⟨lb,lo,none⟩) d.lots.length cl) (.slice ao d.owners.length co))):=(HBR.out.2.new HBX.out).keeps HK2.out (by have:=HMw.out;omega)
    clear hm2 hg2 cx
    have c48:w2.cell? ⟨L,48,none⟩=some (.slice ao no co):=by rw[HNO.out];exact HR2.out.owners
    by_cases hqo:q<no
    ·go_wp2_with (first
      | (at_lookup;refine fq _ rfl _ _ 127 3 rfl underlying127 (qz _) M _ _ rfl HM2.out q rfl HQI.out (.int .i64 1) (by simp[jI]) ?_)
      | fail)
     go_roundg (nl - (k + 1))
     case measure=>omega
     case rel=>exact⟨k + 1,hkn,by go_num,Nat.le_refl _,by show db w2 M (k + 1) (jI (kH d.lots k) _ _);rw[<-HQ.out];exact HM2.out,⟨HB2.out,HR2.out⟩,fun i hi=>by
      by_cases e:i=k
      ·subst e
       refine⟨fun j hj=>?_,by rw[<-HQ.out,<-HNO.out];exact hqo⟩
       rw[<-HQ.out]
       exact m0 _ _ _ HFQ.out j hj
      ·exact HFK.out i (by omega)⟩
    ·have HNB:aa (¬ hJ d):=fun hb=>hqo (by have:=(hb.1 k (by rw[<-HNL.out];exact hkn)).2;rw[<-HQ.out,<-HNO.out] at this;exact this)
     go_wp2_with (first
      | (at_lookup;refine fq _ rfl _ _ 127 3 rfl underlying127 (qz _) M _ _ rfl HM2.out q rfl HQI.out (.int .i64 1) (by simp[jI]) ?_)
      | fail)
     go_ret
     rw[HR.out,if_neg HNB.out]
     exact aW HH.out HSS.out HB2.out
  ·have hki:¬(k:Int)<nl:=by omega
   obtain rfl:nl=k:=by omega
   have HF1:aa (xt d d.lots.length):=by rw[<-HNL.out];exact HFK.out
   have HBw:=ac HBR.out.1
   obtain⟨rv,hrv⟩:=nm (d.toV b (.slice al d.lots.length cl) (.slice ao d.owners.length co))
   have HRw:aa (ah wr L rv):=by rw[hrv];exact HBR.out.2
   have HRV:=ac hrv
   have HOWN:aa (∀ W,ah W L rv->W.cell? ⟨L,48,none⟩=some (.slice ao no co)):=by rw[hrv,HNO.out];exact fun W hW=>hW.owners
   have HLOT:aa (∀ W,ah W L rv->W.cell? ⟨L,47,none⟩=some (.slice al nl cl)):=by rw[hrv,HNL.out];exact fun W hW=>hW.lots
   have c48:wr.cell? ⟨L,48,none⟩=some (.slice ao no co):=HOWN.out wr HRw.out
   have c43:wr.cell? ⟨L,43,none⟩=some (.int .i64 d.carriers):=by have:=HRw.out.carriers;rw[hrv] at this;exact this
   have HLP:aa (L≠p):=by have:=HSS.out p HH.out.own;have:=HLw.out;rw[aa];omega
   rw[<-hrv]
   clear hrv HFK HBR HM hg hki
   go_wp2_with fail
   clear c48
   go_loop [40] (fun i=>∃k2:Nat,k2<=no/\i=.int .i64 k2/\aa (∀ i,i<k2->d.owners.getD i 0<d.carriers)) (fun i=>no - (intOf i).toNat)
   case atStart=>exact⟨0,Nat.zero_le _,rfl,fun i hi=>absurd hi (by omega)⟩
   case round=>
    obtain⟨k2,hk2,rfl,hc2⟩:=hrel
    have HC2:=ac hc2
    clear hc2
    by_cases hk2n:k2<no
    ·have hki:(k2:Int)<no:=by omega
     obtain⟨lb,lo,rfl,hlb,hj⟩:=HXO.out (by rw[<-HNO.out];omega)
     have hjk:=hj k2 (by rw[<-HNO.out];exact hk2n)
     obtain⟨x,hx⟩:=nm (d.owners.getD k2 0)
     have c1:wr.cell? ⟨lb,lo + k2,none⟩=some (.int .i64 x):=by rw[hx];exact (HBw.out.cell hlb).trans hjk
     have HX:=ac hx
     clear hj hjk hlb hx
     by_cases hxc:x<d.carriers
     ·go_wp2_with fail
      go_round
      case rel=>exact⟨k2 + 1,hk2n,by go_num,fun i hi=>by
       by_cases e:i=k2
       ·rw[e,<-HX.out];exact hxc
       ·exact HC2.out.out i (by omega)⟩
      case measure=>simp[intOf];omega
     ·have HNB:aa (¬ hJ d):=fun hb=>hxc (by rw[HX.out];exact hb.2 k2 (by rw[<-HNO.out];exact hk2n))
      go_wp2_with fail
      go_ret
      rw[HR.out,if_neg HNB.out]
      exact aW HH.out HSS.out HBw.out
    ·have hki:¬(k2:Int)<no:=by omega
     obtain rfl:no=k2:=by omega
     have HBP:aa (hJ d):=⟨HF1.out,by rw[<-HNO.out];exact HC2.out.out⟩
     clear HC2 c43
     obtain⟨cp,hcp⟩:∃c,c=(ae rv).toList:=⟨_,rfl⟩
     have hi1:(prog.info? 49).map (·.size)=some cp.length:=by rw[hcp,Array.length_toList,aj];kernel_rfl
     have HCR:aa (∀ W,ah W L rv->W.rangeAt L 0 cp):=by rw[hcp];exact fun W hW=>qA hW
     have HCP:aa (cp=(ae rv).toList):=hcp
     have HONE:aa ((ae rv).all (·.oneCell')=true):=by
      rw[HRV.out]
      obtain⟨ab,cb,rfl,_⟩:=HRB.out
      exact aM _ rfl rfl rfl
     have HSRC:aa (∀ W,Below w.heap.size w W->y6 W (.slice ao no co) no 1 (d.owners.map (Value.int .i64))):=fun W hW=>by
      have:=(bA.on HRW.out hW).src
      rw[<-HNO.out] at this
      exact this
     have HSTR:aa (∀ W,aV W p v->(Instr.storeAt 49 (.pointer (some ⟨p,0,none⟩)) (.agg cp.toArray)).run prog W=.ok () (W.setCells p 0 cp)):=fun W hW=>by
      rw[HCP.out,Array.toArray_toList]
      exact hW.storeRec rv HONE.out
     have HSET:aa (∀ W,aV W p v->aV (W.setCells p 0 cp) p {v with scn:=rv}):=fun W hW=>by
      rw[HCP.out]
      exact hW.setRec rv
     clear hcp
     go_upto_region 15 with fail
     refine wp_region_held_drew (S:=fun W=>ah W L rv) (by kernel_rfl) (HRw.out.drew) (fun hHeld=>?_)
     refine ts 0 (.pointer (some ⟨p,0,none⟩)) hHeld ?_
     try simp only[Act.put,ps]
     refine ts 1 (.pointer (some ⟨p,0,none⟩)) hHeld ?_
     try simp only[Act.put,ps]
     refine tl 2 (.agg cp.toArray) rfl (yieldsIf_load_mid (by rfl) 49 (.tmp 3) rfl L 0 rfl cp _ (fun W hW=>HCR.out W hW) underlying49 rfl hi1) hHeld ?_
     try simp only[Act.put,ps]
     refine ts 3 (.pointer (some ⟨L,48,none⟩)) hHeld ?_
     try simp only[Act.put,ps]
     refine tk 4 (.slice ao no co) hHeld ?_ ?_
     ·intro W hSw
      have c:W.cell? ⟨L,48,none⟩=some (.slice ao no co):=HOWN.out W hSw
      go_simp
     try simp only[Act.put,ps]
     refine rd 5 (fun K hK=>?_)
     go_simp
     refine (j4 _ _ no (d.owners.map (Value.int .i64)) (by omega) (HSRC.out _ (HBw.out.drew))).mono ?_
     rintro e w3 ⟨ov,rfl,hov,hb3⟩
     obtain⟨oa,oc,rfl,_⟩:=az hov
     have HB3:aa (Below w.heap.size w w3):=HBw.out.drew.trans (hb3.mono HBw.out.drew.size)
     have HD3:aa (Below wr.heap.size wr w3):=(aA wr).trans (hb3.mono (by simp))
     have HR3:=ac (HRw.out.new HD3.out)
     have HOV:aa (w3.ownsRow wr.heap.size 3 1 (.slice oa no oc) no (d.owners.map (Value.int .i64))):=hov
     have HMD3:=ac (HH.out.here.new HB3.out)
     clear hov hb3
     refine hK.out _ _ HR3.out (fun hHeld=>?_)
     clear hK K
     try simp only[Act.put,ps]
     refine ts 6 (.pointer (some ⟨p,0,none⟩)) hHeld ?_
     try simp only[Act.put,ps]
     refine ts 7 (.pointer (some ⟨p,0,none⟩)) hHeld ?_
     try simp only[Act.put,ps]
     refine rd 8 (fun K hK=>?_)
     refine fd rfl 49 _ _ rfl (.pointer (some ⟨p,0,none⟩)) (.agg cp.toArray) rfl rfl (HSTR.out w3 HMD3.out) ?_
     obtain⟨w4,hw4⟩:=nm (w3.setCells p 0 cp)
     rw[<-hw4]
     have HMD4:aa (aV w4 p {v with scn:=rv}):=by rw[hw4];exact HSET.out w3 HMD3.out
     have HK4:aa (am (·≠p) w3 w4):=by rw[hw4];exact gR _ _ _ _
     have HR4:aa (ah w4 L rv):=HR3.out.keeps HK4.out HLP.out
     clear hw4
     refine hK.out _ _ HR4.out (fun hHeld=>?_)
     clear hK K
     try simp only[Act.put,ps]
     refine ts 9 (.pointer (some ⟨p,0,none⟩)) hHeld ?_
     try simp only[Act.put,ps]
     refine ts 10 (.pointer (some ⟨p,49,none⟩)) hHeld ?_
     try simp only[Act.put,ps]
     have c49:=HMD4.out.owners
     have f49:=HMD4.out.free 49
     refine rd 11 (fun K hK=>?_)
     go_simp
     obtain⟨w5,hw5⟩:∃z,z=w4.setCell ⟨p,49,none⟩ (.slice oa no oc):=⟨_,rfl⟩
     rw[<-hw5]
     have HMD5:aa (aV w5 p {v with scn:=rv,owners:=.slice oa no oc}):=by rw[hw5];exact HMD4.out.setOwners (.slice oa no oc)
     have HK5:aa (am (·≠p) w3 w5):=by rw[hw5];exact HK4.out.setCell (p:=⟨p,49,none⟩) (.inr (fun h=>h rfl)) (.slice oa no oc)
     have HR5:aa (ah w5 L rv):=HR3.out.keeps HK5.out HLP.out
     clear hw5 c49 f49
     refine hK.out _ _ HR5.out (fun hHeld=>?_)
     clear hK K
     try simp only[Act.put,ps]
     refine wpAnyH_done (by kernel_rfl) ?_ _
     have HK5S:aa (am (fun k=>¬S k) w w5):=(ak HB3.out _).trans (HK5.out.mono (fun k _ hk e=>hk (by rw[e];exact HH.out.own)))
     have d47:=HLOT.out w5 HR5.out
     have hLp:L≠p:=HLP.out
     have HSRL:aa (y6 w5 (.slice al nl cl) nl 2 (cM d.lots)):=by
      have hra:=HRO.out w5 HK5S.out
      rw[<-HRV.out] at hra
      obtain⟨b',l',o',e,_,hl',_⟩:=hra
      have el:l'=.slice al d.lots.length cl:=by have h1:=congrArg RecV.lots HRV.out;have h2:=congrArg RecV.lots e;exact h2.symm.trans h1
      rw[el] at hl'
      have:=hl'.src
      rw[<-HNL.out] at this
      exact this
     have HMDW:=HMD5
     clear HMD3 HMD4 HK4 HR3 HR4 hHeld hi1 HMDW
     go_wp2_with fail
     refine (sn w5 _ nl (cM d.lots) (by omega) HSRL.out).mono ?_
     rintro e w6 ⟨lv,rfl,hlv,hb6⟩
     obtain⟨la,lc,rfl,_⟩:=az hlv
     have HLV:=ac hlv
     have HMD6:=ac (HMD5.out.new hb6)
     have HR6:=ac (HR5.out.new hb6)
     have HB56:=ac hb6
     have d47:=HLOT.out w6 HR6.out
     have e47:=HMD6.out.rlots
     have e48:=HMD6.out.rowners
     have f47:=HMD6.out.free 47
     have f48:=HMD6.out.free 48
     clear hlv hb6
     go_upto_region 17 with fail
     obtain⟨w7,hw7⟩:∃z,z=(w6.setCell ⟨p,47,none⟩ (.slice la nl lc)).setCell ⟨p,48,none⟩ (.slice none 0 0):=⟨_,rfl⟩
     rw[<-hw7]
     have HMD7:aa (aV w7 p {v with scn:={rv with lots:=.slice la nl lc,owners:=.slice none 0 0},owners:=.slice oa no oc}):=by rw[hw7];exact (HMD6.out.setRlots _).setRowners _
     have HK7:aa (am (·≠p) w6 w7):=by rw[hw7];exact ((am.refl _ _).setCell (p:=⟨p,47,none⟩) (.inr (fun h=>h rfl)) _).setCell (p:=⟨p,48,none⟩) (.inr (fun h=>h rfl)) _
     clear hw7 d47 e47 e48 f47 f48
     have d47:=HLOT.out w7 (HR6.out.keeps HK7.out HLP.out)
     obtain⟨i0,hi,hz0,hz1,hz2⟩:=info_parts Tryz.infoInt
     have HZ2:=ac hz2
     clear hz2
     go_wp2_with (first
      | (refine wpList_make_full _ rfl _ _ 41 rfl 0 3 i0 (.int .i64 0) 1 underlying41 hi hz0 hz1 .i64 .i64 nl nl nl rfl rfl rfl rfl (by rw[HZ2.out];omega) (by unfold maxLen;omega) (Nat.zero_le _) ?_;intro w8 hown8 hg8;have HMD8:=ac (HMD7.out.keeps (aF hg8 (fun _=>True) (fun j hj=>by cases hj)) trivial);have e50:=HMD8.out.states;have f50:=HMD8.out.free 50;have HOWN8:=ac hown8;have HG8:=ac hg8;clear hown8 hg8)
      | fail)
     go_ret
     rw[HR.out,if_pos HBP.out]
     exact uE HH.out HSS.out HF.out HWF.out HRV.out HNO.out HNL.out HDK.out HBw.out.size HB3.out HOV.out HK5.out HB56.out HLV.out HK7.out HOWN8.out HG8.out HMD8.out
def mx (st:MSt) (d:RecD):Prop:=st.opn.isNone=true/\d.round=st.outs.length/\d.lot<st.states.length/\st.states.getD d.lot.toNat 0=0/\st.owner d.lot.toNat∉d.barred
instance (st:MSt) (d:RecD):Decidable (mx st d):=by unfold mx;infer_instance
theorem eD {f:FuncId} {args:Array Value} {w:World} {n:Nat} {v:Value} (h:∀W,(∃ q,W=w.drewN q)->Calls prog f args W fun e w'=>e=.returned v/\∃m,w'=W.drewN m):
  Calls prog f args (w.drewN n) fun e w'=>e=.returned v/\∃m,w'=w.drewN m:=
 (h _ ⟨n,rfl⟩).mono fun e w' ⟨h1,m,h2⟩=>⟨h1,n + m,by rw[h2,World.drewN_drewN]⟩
section
variable {S : Nat -> Prop} {n : Nat} {w : World} {p : Nat} {v : bS} {st : MSt}
theorem eZ.form {xs:List Int} {u:Value} (h:eZ S w u xs):∃a cap,u=.slice a xs.length cap/\(0<xs.length->∃g,a=some ⟨g,0,none⟩/\u.ownBlock=some g/\g<w.heap.size/\∀j,j<xs.length->w.cell? ⟨g,j,none⟩=some (.int .i64 (xs.getD j 0))):=by
 obtain⟨a,cap,e,hc,hx⟩:=az h.1
 refine⟨a,cap,e,fun h0=>?_⟩
 obtain⟨g,ea,_,hg,hj⟩:=hx h0
 refine⟨g,ea,by rw[e,ea];rfl,hg,fun j hjl=>hj j _ ?_⟩
 rw[List.getElem?_map,List.getElem?_eq_getElem hjl,List.getD_eq_getElem?_getD,List.getElem?_eq_getElem hjl]
 rfl
theorem qd.form {xs:List OutT} {u:Value} (h:qd S w u xs):∃a cap,u=.slice a xs.length cap:=by
 obtain⟨a,cap,e,_,_⟩:=az h.1
 exact⟨a,cap,e⟩
end
theorem qB {a b:World} {m:Nat} (h:a=b.drewN m) (q:Nat):∃m',a.drewN q=b.drewN m':=⟨m + q,by rw[h,World.drewN_drewN]⟩
theorem bH {B:Nat} {a w:World} (h:Below B a w) (q:Nat):Below B a (w.drewN q):=⟨h.os,h.tape,h.output,h.size,h.block⟩
theorem lR {S:Nat->Prop} {n:Nat} {w:World} {p:Nat} {v:bS} {st:MSt} (h:bB S n w p v st) (hw:st.Wf) (k:Nat) (hk:k<st.scene.lots.length) (x:Int) (hx:x=st.owner k) (q:Nat):
  Calls prog 74 #[.pointer (some ⟨p,0,none⟩),.int .i64 k] (w.drewN q) fun e w'=>e=.returned (.int .i64 x)/\∃m,w'=w.drewN m:=by
 subst hx
 exact eD fun W ⟨q',e⟩=>by subst e;exact oQ (h.new (ay _ _)) hw k hk
theorem gw {w:World} {u:Value} {xs:List Int} (h:bA w u xs) (hn:xs.length<=1000000) (x:Int) (B:Bool) (hB:B=decide (x∈xs)) (q:Nat):
  Calls prog 73 #[u,.int .i64 x] (w.drewN q) fun e w'=>e=.returned (.bool B)/\∃m,w'=w.drewN m:=by
 subst hB
 exact eD fun W ⟨q',e⟩=>by
  subst e
  exact (iE xs (by omega) x u _ (bA.on h (ay _ _))).mono fun e w' ⟨h1,h2⟩=>⟨h1,0,h2⟩
theorem eZ.cur {S:Nat->Prop} {w:World} {u:Value} {xs:List Int} (h:eZ S w u xs) (h0:0<xs.length):∃g cap cur,u=.slice (some ⟨g,0,none⟩) xs.length cap/\S g/\xs.length<=cap/\cap<=maxLen/\w.heap[g]?=some (.cells cur 3 (0,0))/\cur.size=cap/\∀j,j<xs.length->cur[j]?=some (.int .i64 (xs.getD j 0)):=by
 obtain⟨⟨h1,h2⟩,h3⟩:=h
 rcases h2 with ⟨rfl,e⟩ | ⟨g,cap,cur,rfl,_,hh,hnc,hcm,hcs,htk⟩
 ·omega
 ·refine⟨g,cap,cur,rfl,h3 g rfl,hnc,hcm,hh,by simpa using hcs,fun j hj=>?_⟩
  have e:(xs.map (Value.int .i64))[j]?=some (.int .i64 (xs.getD j 0)):=by
   rw[List.getElem?_map,List.getElem?_eq_getElem hj,List.getD_eq_getElem?_getD,List.getElem?_eq_getElem hj]
   rfl
  rw[<-htk,List.getElem?_take_of_lt (by omega)] at e
  simpa using e
theorem gx {S:Nat->Prop} {w:World} {g cap n:Nat} {cur:Array Value} {xs:List Int} (hS:S g) (hn:n=xs.length) (hc:xs.length<=cap) (hm:cap<=maxLen) (hh:w.heap[g]?=some (.cells cur 3 (0,0))) (hs:cur.size=cap) (hj:∀j,j<xs.length->cur[j]?=some (.int .i64 (xs.getD j 0))):
  eZ S w (.slice (some ⟨g,0,none⟩) n cap) xs:=by
 subst hn
 refine⟨⟨by simp,.inr ⟨g,cap,cur,rfl,Nat.zero_le _,hh,hc,hm,by simpa using hs,?_⟩⟩,fun k hk=>by have:g=k:=(by injection hk);exact this ▸ hS⟩
 apply List.ext_getElem?
 intro i
 rw[Nat.mul_one]
 by_cases hi:i<xs.length
 ·rw[List.getElem?_take_of_lt hi]
  have:=hj i hi
  rw[List.getElem?_map,List.getElem?_eq_getElem hi]
  rw[List.getD_eq_getElem?_getD,List.getElem?_eq_getElem hi] at this
  simpa using this
 ·rw[List.getElem?_eq_none (by simp;omega),List.getElem?_eq_none (by simp;omega)]
theorem jl {P:Program} {ops:Array Oper} {rest:List Oper} {op:Oper} {a:Act} {w:World} {Q:Exit->Act->World->Prop} (hgd:op.guard=none) (t:TypeId) (ho:op.op=.makeMap t none) (b:Nat) (hb:w.heap.size=b) (w':World) (hw:w.alloc (.map #[] 0)=w')
  (h:wpList P ops Q rest (a.put op.dst (.map (some b))) w'):wpList P ops Q (op :: rest) a w:=
 wpList_plain hgd fun _ hK=>by
  subst hb hw
  unfold Oper.wp execOp
  simp only[ho,Option.map_none,Sem.run_bind,run_makeMap,Result.andThen_ok,Sem.run_pure]
  exact hK _ _ h
def ip (r:RecV) (a b:Nat):Array Value:=ae r++#[.map (some a),.map (some b)]
theorem uG (r:RecV) (a b:Nat) (w:World):(Instr.build 133 #[(0,.agg (ae r)),(1,.map (some a)),(2,.map (some b))]).run prog w=.ok (.agg (ip r a b)) w:=by kernel_rfl
theorem uH {S:Nat->Prop} {n:Nat} {w wd w1 w2 w5 wa wb:World} {p L g q cap nd ns mb bdm:Nat} {v:bS} {st:MSt} {rv2:RecV} {d:RecD} {nv:Value} {cur4:Array Value} (h:bB S n w p v st) (hS:∀k,S k->k<w.heap.size)
  (hq:d.lot=q) (hqn:q<ns) (hns:ns=st.states.length) (hnd:nd=d.barred.length) (hr1:rv2.round=d.round) (hr2:rv2.lot=d.lot) (hr4:rv2.tick=d.tick)
  (hNd:Below w.heap.size w wd) (hL:w.heap.size<=L) (hLd:L<wd.heap.size) (hB1:Below wd.heap.size wd w1) (hnv:w1.ownsRow wd.heap.size 3 1 nv nd (d.barred.map (Value.int .i64)))
  (hK2:am (fun k=>k≠p/\k≠L) w1 w2) (hK5:am (·≠g) w2 w5) (hSg:S g) (hgp:g≠p) (hve:v.states=.slice (some ⟨g,0,none⟩) ns cap) (hcn:ns<=cap) (hcm:cap<=maxLen) (hcs:cur4.size=cap)
  (hcj:∀j,j<st.states.length->cur4[j]?=some (.int .i64 ((ci q st.states).getD j 0))) (hg5:w5.heap[g]?=some (.cells (cur4.setIfInBounds q (.int .i64 1)) 3 (0,0)))
  (hmb:w5.heap.size=mb) (hwa:w5.alloc (.map #[] 0)=wa) (hbm:wa.heap.size=bdm) (hwb:wa.alloc (.map #[] 0)=wb) (hm:aV wb p {v with barred:=nv}):
  dF S n w p st (some (j2 st d)) (.returned (.bool true)) ((wb.alloc (.cells (ip rv2 mb bdm) 133)).setCell ⟨p,52,none⟩ (.pointer (some ⟨wb.heap.size,0,none⟩))):=by
 obtain⟨wR,hwR⟩:=nm (wb.alloc (.cells (ip rv2 mb bdm) 133))
 rw[<-hwR]
 obtain⟨wz,hwz⟩:∃z,z=wR.setCell ⟨p,52,none⟩ (.pointer (some ⟨wb.heap.size,0,none⟩)):=⟨_,rfl⟩
 rw[<-hwz]
 have hpS:=hS p h.own
 have hgS:=hS g hSg
 have ha:Below w5.heap.size w5 wa:=by rw[<-hwa];exact af _ _
 have hb:Below wa.heap.size wa wb:=by rw[<-hwb];exact af _ _
 have hR:Below wb.heap.size wb wR:=by rw[hwR];exact af _ _
 have hz:am (·≠p) wR wz:=by rw[hwz];exact (am.refl _ _).setCell (p:=⟨p,52,none⟩) (.inr (fun h=>h rfl)) _
 have sd:=hNd.size
 have s1:=hB1.size
 have s2:=hK2.size
 have s5:=hK5.size
 have sa:wa.heap.size=w5.heap.size + 1:=by rw[<-hwa];simp
 have sb:wb.heap.size=wa.heap.size + 1:=by rw[<-hwb];simp
 have sR:wR.heap.size=wb.heap.size + 1:=by rw[hwR];simp
 have sz:=hz.size
 have k5z:am (·≠p) w5 wz:=(((ak ha (·≠p)).trans (ak hb _)).trans (ak hR _)).trans hz
 have k1z:am (fun k=>k≠p/\k≠L/\k≠g) w1 wz:=((hK2.mono (fun k _ hk=>⟨hk.1,hk.2.1⟩)).trans (hK5.mono (fun k _ hk=>hk.2.2))).trans (k5z.mono (fun k _ hk=>hk.1))
 have k0z:am (fun k=>k≠p/\k≠g) w wz:=(((ak hNd (fun k=>k≠p/\k≠L/\k≠g)).trans (ak hB1 _)).trans k1z).mono (fun k hk hh=>⟨hh.1,by omega,hh.2⟩)
 have mz:aV wz p {v with barred:=nv,opn:=.pointer (some ⟨wb.heap.size,0,none⟩)}:=by rw[hwz];exact (hm.new hR).setOpn _
 have hNV:wz.ownsRow wd.heap.size 3 1 nv nd (d.barred.map (Value.int .i64)):=dG hnv k1z (fun k hk=>by omega)
 have hgz:wz.heap[g]?=some (.cells (cur4.setIfInBounds q (.int .i64 1)) 3 (0,0)):=aw hg5 k5z hgp
 have hmade:db wa mb 0 (fun _=>none):=by rw[<-hwa,<-hmb];exact db.made w5
 have hmade2:db wb bdm 0 (fun _=>none):=by rw[<-hwb,<-hbm];exact db.made wa
 have hM1:db wz mb (n + 1) (fun _=>none):=(((hmade.new hb).new hR).keeps hz (by omega)).mono (Nat.zero_le _)
 have hM2:db wz bdm (n + 1) (fun _=>none):=((hmade2.new hR).keeps hz (by omega)).mono (Nat.zero_le _)
 have hrz:wz.heap[wb.heap.size]?=some (.cells (ip rv2 mb bdm) 133 (0,0)):=aw (by rw[hwR];exact ax _ _) hz (by omega)
 have hnl:((ci q st.states).set q 1).length=st.states.length:=by rw[List.length_set,dq]
 have hg':∀k,v.states.ownBlock=some k->g=k:=fun k hk=>by rw[hve] at hk;injection hk
 refine⟨rfl,fun k=>S k\/(w.heap.size<=k/\k<wz.heap.size),⟨_,⟨mz,.inl h.own,h.scn,?_,?_,?_,?_,?_,?_,?_,?_,?_,h.tick,h.ended,Nat.le_trans h.nout (Nat.le_succ n),h.sok⟩⟩,k0z.mono (fun k _ hk=>⟨fun e=>hk (by rw[e];exact h.own),fun e=>hk (by rw[e];exact hSg)⟩),fun k hk=>hk.imp id (fun h=>h.1),fun k hk=>by rcases hk with hk | hk;exact Nat.lt_of_lt_of_le (hS k hk) k0z.size;exact hk.2⟩
 ·exact (h.lots.keep k0z (fun k hk=>by obtain⟨cur,hc⟩:=h.lots.block k hk;exact⟨h.here.ne hc (by decide),fun e=>by
   obtain⟨cur2,hc2⟩:=h.states.block g (by rw[hve];rfl)
   rw[e,hc2] at hc;injection hc with hc;injection hc with _ hc _;revert hc;decide⟩)).wide (fun k hk=>.inl hk)
 ·exact (h.owners.keep k0z (fun k hk=>by obtain⟨cur,hc⟩:=h.owners.block k hk;exact⟨h.here.ne hc (by decide),fun e=>h.ap1 k hk (by rw[hve,e];rfl)⟩)).wide (fun k hk=>.inl hk)
 ·show eZ _ wz v.states ((ci d.lot.toNat st.states).set d.lot.toNat 1)
  rw[hq,Int.toNat_natCast,hve]
  refine gx (.inl hSg) (by rw[hnl,hns]) (by rw[hnl,<-hns];exact hcn) hcm hgz (by simpa using hcs) (fun j hj=>?_)
  rw[hnl] at hj
  by_cases e:j=q
  ·subst e
   rw[Array.getElem?_setIfInBounds_self_of_lt (by omega),List.getD_eq_getElem?_getD,List.getElem?_set_self (by rw[dq];exact hj)]
   rfl
  ·rw[Array.getElem?_setIfInBounds_ne (Ne.symm e),hcj j hj,List.getD_eq_getElem?_getD,List.getD_eq_getElem?_getD,List.getElem?_set_ne (Ne.symm e)]
 ·exact (h.outs.keep k0z (fun k hk=>by obtain⟨cur,hc⟩:=h.outs.block k hk;exact⟨h.here.ne hc (by decide),fun e=>by
   obtain⟨cur2,hc2⟩:=h.states.block g (by rw[hve];rfl)
   rw[e,hc2] at hc;injection hc with hc;injection hc with _ hc _;revert hc;decide⟩)).wide (fun k hk=>.inl hk)
 ·exact kJ (n:=nd) (base:=wd.heap.size) hnd hNV sd
 ·exact h.ap1
 ·intro k hk he
  have h1:=World.ownsRow.lt hnv k he
  have h2:=hS k (h.owners.2 k hk)
  omega
 ·intro k hk he
  have h1:=World.ownsRow.lt hnv k he
  have h2:=hg' k hk
  omega
 ·refine⟨wb.heap.size,mb,bdm,rfl,.inr ⟨by omega,by omega⟩,.inr ⟨by omega,by omega⟩,.inr ⟨by omega,by omega⟩,by omega,⟨_,hrz,?_,?_,?_,rfl,rfl⟩,hM1,hM2,fun c l hl=>by cases hl⟩
  ·show some (Value.int .i64 rv2.round)=_;rw[hr1]
  ·show some (Value.int .i64 rv2.lot)=_;rw[hr2]
  ·show some (Value.int .i64 rv2.tick)=_;rw[hr4]
theorem uI {S:Nat->Prop} {n:Nat} {w:World} {p:Nat} {v:bS} {st:MSt} (h:bB S n w p v st) (hS:∀k,S k->k<w.heap.size) (hn:n<1000000000) (hwf:st.Wf) (rv:RecV) (d:RecD) (hop:Bp d) (htk:0<=d.tick/\d.tick<=9223372036854775807) (hr:jk S w rv d):
  Calls prog 41 #[.pointer (some ⟨p,0,none⟩),.agg (ae rv)] w (dF S n w p st (if gm st d then some (j2 st d) else none)):=by
 obtain⟨R,hR⟩:∃R,R=(if gm st d then some (j2 st d) else none):=⟨_,rfl⟩
 rw[<-hR]
 have HR:=ac hR
 clear hR
 obtain⟨bb,l,o,rfl,hb,hl,hw⟩:=hr w (am.refl _ _)
 obtain⟨L,hL⟩:=nm (w.heap.size)
 obtain⟨w0,hw0⟩:=nm (w.alloc (.cells (ae (d.toV bb l o)) 49))
 have HN0:aa (Below w.heap.size w w0):=by rw[hw0];exact af _ _
 have HR0:aa (ah w0 L (d.toV bb l o)):=by rw[hw0,hL];exact ah.box _ _
 have HLw:aa (w.heap.size<=L):=Nat.le_of_eq hL.symm
 have HH:=ac h
 have HH0:=ac (h.new HN0.out)
 have HSS:=ac hS
 have HWF:=ac hwf
 have HOP:=ac hop
 have HRO:=ac hr
 have HRB:aa (bA w0 bb d.barred):=hb.on HN0.out
 have hlens:=hwf.lens
 have hnl:=hwf.nlots
 have hlot:=hop.lot
 have hnb:=hop.nbar
 clear h hS hwf hop hr hb hl hw
 obtain⟨G,hG⟩:∃G:Bool,G=decide (mx st d):=⟨_,rfl⟩
 have HG:=ac hG
 clear hG
 obtain⟨oa,oc,hov⟩:=HH0.out.outs.form
 obtain⟨sa,sc,hsv,hsx⟩:=HH0.out.states.form
 have HSV:=ac hsv
 obtain⟨no,hno⟩:=nm (st.outs.length)
 obtain⟨ns,hns⟩:=nm (st.states.length)
 have c51:=HH0.out.here.outs
 have c50:=HH0.out.here.states
 rw[hov,<-hno] at c51
 rw[hsv,<-hns] at c50
 have e1:=HR0.out.round
 have e2:=HR0.out.lot
 have e5:=HR0.out.barred
 obtain⟨q,hq⟩:∃q:Nat,d.lot=q:=Int.eq_ofNat_of_zero_le hlot.1
 have HQ:=ac hq
 have e1':w0.cell? ⟨L,1,none⟩=some (.int .i64 d.round):=e1
 have e2':w0.cell? ⟨L,2,none⟩=some (.int .i64 q):=by rw[<-hq];exact e2
 have e5':w0.cell? ⟨L,5,none⟩=some bb:=e5
 obtain⟨rdQ,hrd⟩:=nm (d.round)
 have HRD:=ac hrd
 rw[<-hrd] at e1'
 have HNO:=ac hno
 have HNS:=ac hns
 have HSX:=ac hsx
 clear e1 e2 e5 hov hsv hq hrd hno hns hsx hlot
 go_enter func41,ntmps41
 go_upto_region 1 with fail
 rw[<-hw0,<-hL]
 clear hw0 hL
 go_cut [54] (fun s54 wx=>s54=.bool (!G)/\∃q,wx=w0.drewN q)
 case first=>
  --F
  cases ho:st.opn with
  | some op=>
   have HE:aa (G=false):=by rw[aa,HG.out];exact decide_eq_false (fun h=>by have:=h.1;rw[ho] at this;cases this)
   obtain⟨r,mb,bd,hv,_⟩:∃r mb bd,v.opn=.pointer (some ⟨r,0,none⟩)/\mb=mb/\bd=bd:=by
    have:=HH0.out.opn
    rw[ho] at this
    obtain⟨r,mb,bd,hv,_⟩:=this
    exact⟨r,mb,bd,hv,rfl,rfl⟩
   have c52:=HH0.out.here.opn
   rw[hv] at c52
   clear hv ho
   go_quiet (fail)
   go_wp2_with fail
   go_meet
   case rel=>exact⟨by rw[HE.out];rfl,_,rfl⟩
  | none=>
   have HON:=ac ho
   have hv:v.opn=.pointer none:=by
    have:=HH0.out.opn
    rw[ho] at this
    exact this
   have c52:=HH0.out.here.opn
   rw[hv] at c52
   clear hv ho
   by_cases h1:rdQ=no
   case neg=>
    have HE:aa (G=false):=by rw[aa,HG.out];exact decide_eq_false (fun h=>h1 (by rw[HRD.out,HNO.out];exact h.2.1))
    have hb1:(rdQ !=(no:Int))=true:=by simpa using h1
    clear h1
    go_quiet (fail)
    go_wp2_with fail
    go_meet
    case rel=>exact⟨by rw[HE.out];rfl,_,rfl⟩
   case pos=>
   have H1:=ac h1
   have hb1:(rdQ !=(no:Int))=false:=by simpa using h1
   clear h1
   by_cases h2:q<ns
   case neg=>
    have HE:aa (G=false):=by rw[aa,HG.out];exact decide_eq_false (fun h=>h2 (by have:=h.2.2.1;rw[HQ.out] at this;have:=HNS.out;omega))
    have hb2:decide (ns<=q)=true:=by simp;omega
    clear h2
    go_quiet (fail)
    go_wp2_with fail
    go_meet
    case rel=>exact⟨by rw[HE.out];rfl,_,rfl⟩
   case pos=>
   have H2:=ac h2
   have hb2:decide (ns<=q)=false:=by simp;omega
   obtain⟨sg,rfl,_,hsg,hj⟩:=HSX.out (by rw[<-HNS.out];omega)
   obtain⟨s,hs⟩:=nm (st.states.getD q 0)
   have cs:w0.cell? ⟨sg,q,none⟩=some (.int .i64 s):=by rw[hs];exact hj q (by rw[<-HNS.out];exact h2)
   have hqi:(q:Int)<ns:=by omega
   have HSE:=ac hs
   clear hj hs hsg h2
   by_cases h3:s=0
   case neg=>
    have HE:aa (G=false):=by rw[aa,HG.out];exact decide_eq_false (fun h=>h3 (by have:=h.2.2.2.1;rw[HQ.out] at this;rw[HSE.out];exact this))
    have hb3:(s !=0)=true:=by simpa using h3
    clear h3
    go_quiet (fail)
    go_wp2_with fail
    go_meet
    case rel=>exact⟨by rw[HE.out];rfl,_,rfl⟩
   case pos=>
   have H3:=ac h3
   have hb3:(s !=0)=false:=by simpa using h3
   obtain⟨ow,how⟩:=nm (st.owner q)
   have HOWE:=ac how
   obtain⟨B,hB⟩:=nm (decide (ow∈d.barred))
   have HBE:=ac hB
   have HOW:aa (∀ q',Calls prog 74 #[.pointer (some ⟨p,0,none⟩),.int .i64 q] (w0.drewN q') fun e w'=>e=.returned (.int .i64 ow)/\∃m,w'=(w0.drewN q').drewN m):=fun q'=>by
    rw[how]
    exact oQ (HH0.out.new (ay _ _)) HWF.out q (by rw[<-HWF.out.lens,<-HNS.out];exact H2.out)
   have HCO:aa (∀ q',Calls prog 73 #[bb,.int .i64 ow] (w0.drewN q') fun e w'=>e=.returned (.bool B)/\∃m,w'=(w0.drewN q').drewN m):=fun q'=>by
    rw[hB]
    exact (iE d.barred (by omega) ow bb _ (bA.on HRB.out (ay _ _))).mono fun e w' ⟨h1,h2⟩=>⟨h1,0,h2⟩
   have HE:aa (G=!B):=by
    rw[aa,HG.out,HBE.out,<-decide_not]
    refine decide_eq_decide.2 ⟨fun h=>?_,fun h=>?_⟩
    ·have:=h.2.2.2.2
     rw[HQ.out] at this
     rw[HOWE.out];exact this
    ·refine⟨by rw[HON.out];rfl,by rw[<-HRD.out,<-HNO.out];exact H1.out,by rw[HQ.out,<-HNS.out];have:=H2.out;omega,by rw[HQ.out];exact HSE.out.symm.trans H3.out,?_⟩
     rw[HQ.out]
     rw[HOWE.out] at h;exact h
   clear h3 how hB
   go_quiet (first
    | (go_at_call 74;exact eD (fun W hW=>by obtain⟨q',rfl⟩:=hW;exact HOW.out q'))
    | (go_at_call 73;exact eD (fun W hW=>by obtain⟨q',rfl⟩:=hW;exact HCO.out q')))
   go_wp2_with fail
   go_meet
   case rel=>exact⟨by rw[HE.out,Bool.not_not],_,rfl⟩
  --E
 case rest=>
  obtain⟨rfl,qq,rfl⟩:=hcut
  obtain⟨wc,hwc⟩:=nm (w0.drewN qq)
  have HNc:aa (Below w.heap.size w wc):=by rw[hwc];exact HN0.out.trans ((ay w0 qq).mono HN0.out.size)
  have HRc:aa (ah wc L (d.toV bb l o)):=by rw[hwc];exact HR0.out.drewN qq
  have HHc:aa (bB S n wc p v st):=HH.out.new HNc.out
  have HBc:aa (bA wc bb d.barred):=by rw[hwc];exact bA.on HRB.out (ay _ _)
  rw[<-hwc]
  clear hwc c50 c51 e1' e2' e5' HN0 HR0 HH0 HRB HSX HSV
  cases hgg:G with
  | false=>
   have HNO':aa (¬ gm st d):=fun h=>by
    have h1:=HG.out
    rw[hgg] at h1
    exact (of_decide_eq_false h1.symm) ⟨h.1,h.2.1,h.2.2.1,h.2.2.2.1,h.2.2.2.2.1⟩
   clear hgg
   go_wp2_with fail
   go_ret
   rw[HR.out,if_neg HNO'.out]
   exact aW HH.out HSS.out HNc.out
  | true=>
   have hgg2:mx st d:=of_decide_eq_true (by rw[<-HG.out];exact hgg)
   have HGG:=ac hgg2
   clear hgg hgg2
   have hqn:q<ns:=by
    have:=HGG.out.2.2.1
    rw[HQ.out] at this
    rw[HNS.out];omega
   obtain⟨sa,sc,hsv,hsx⟩:=HHc.out.states.form
   obtain⟨sg,rfl,hsb,hsg,hj⟩:=hsx (by rw[<-HNS.out];omega)
   have HSV:aa (v.states=.slice (some ⟨sg,0,none⟩) ns sc):=by rw[aa,hsv,<-HNS.out]
   have HSC:aa (ns<=sc):=by
    obtain⟨_,_,e,hc,_⟩:=az HHc.out.states.1
    rw[hsv] at e
    injection e with _ _ e
    rw[HNS.out,e];exact hc
   have hsc:=HSC.out
   have HJ:aa (∀ j,j<ns->wc.cell? ⟨sg,j,none⟩=some (.int .i64 (st.states.getD j 0))):=by rw[aa,HNS.out];exact hj
   have HSG:=ac hsg
   have c50:=HHc.out.here.states
   rw[HSV.out] at c50
   have e2:wc.cell? ⟨L,2,none⟩=some (.int .i64 q):=by have:=HRc.out.lot;rw[<-HQ.out];exact this
   have hqi:(q:Int)<=sc:=by omega
   have hqi2:(q:Int)<=ns:=by omega
   clear hsv hsx hsb hsg hj
   go_upto_region 3 with fail
   go_quiet (fail)
   go_wp2_with fail
   clear c50 e2
   have hq15:q<=15:=by have:=HOP.out.lot;rw[HQ.out] at this;omega
   go_loopw [63] (fun i wr=>∃k:Nat,k<=q/\i=.int .i64 k/\aa (∃ m,wr=wc.drewN m)/\aa (∀ j,j<k->st.states.getD j 0=0->st.owner j∈d.barred)) (fun i _=>q - (intOf i).toNat)
   case atStart=>exact⟨0,Nat.zero_le _,rfl,⟨nq,rfl⟩,fun j hj=>absurd hj (by omega)⟩
   case round=>
    obtain⟨k,hk,rfl,HM,HA⟩:=hrel
    obtain⟨m,rfl⟩:=HM.out
    obtain⟨wk,hwk⟩:=nm (wc.drewN m)
    have HWK:=ac hwk
    have HNk:aa (Below w.heap.size w wk):=by rw[hwk];exact bH HNc.out m
    have HRk:aa (ah wk L (d.toV bb l o)):=by rw[hwk];exact HRc.out.drewN m
    have HHk:aa (bB S n wk p v st):=HH.out.new HNk.out
    have HBk:aa (bA wk bb d.barred):=by rw[hwk];exact bA.on HBc.out (ay _ _)
    rw[<-hwk]
    by_cases hkq:k<q
    ·have hki:(k:Int)<q:=by omega
     obtain⟨s,hs⟩:=nm (st.states.getD k 0)
     have cs:wk.cell? ⟨sg,k,none⟩=some (.int .i64 s):=by rw[hs,hwk];exact HJ.out k (by omega)
     have e5:wk.cell? ⟨L,5,none⟩=some bb:=HRk.out.barred
     have HSE:=ac hs
     clear hs hwk
     by_cases h0:s=0
     ·obtain⟨ow,how⟩:=nm (st.owner k)
      obtain⟨B,hB⟩:=nm (decide (ow∈d.barred))
      have hb0:(s==0)=true:=by simpa using h0
      have HBE:=ac hB
      have HOWE:=ac how
      have HS0:=ac h0
      have hkl:k<st.scene.lots.length:=by rw[<-HWF.out.lens,<-HNS.out];omega
      have HKL:=ac hkl
      clear hB how h0 hkl
      go_upto_region 6 with fail
      go_quiet (first
       | (go_at_call 74;exact lR HHk.out HWF.out k HKL.out ow HOWE.out _)
       | (go_at_call 73;exact gw HBk.out (by omega) ow B HBE.out _))
      cases B with
      | true=>
       go_wp2_with fail
       go_roundw
       case rel=>exact⟨k + 1,hkq,by go_num,qB HWK.out _,fun j hj hj0=>by
        by_cases e:j=k
        ·rw[e,<-HOWE.out];exact of_decide_eq_true HBE.out.symm
        ·exact HA.out j (by omega) hj0⟩
       case measure=>simp[intOf];omega
      | false=>
       have HNO':aa (¬ gm st d):=fun h=>by
        have h1:=h.2.2.2.2.2.1 k (by rw[HQ.out];omega) (by rw[<-HSE.out];exact HS0.out)
        rw[<-HOWE.out] at h1
        exact (of_decide_eq_false HBE.out.symm) h1
       go_wp2_with fail
       go_ret
       rw[HR.out,if_neg HNO'.out]
       exact aW HH.out HSS.out (bH HNk.out _)
     ·have HS0:=ac h0
      have hb0:(s==0)=false:=by simpa using h0
      clear h0
      go_upto_region 6 with fail
      go_quiet (fail)
      go_wp2_with fail
      go_roundw
      case rel=>exact⟨k + 1,hkq,by go_num,qB HWK.out _,fun j hj hj0=>by
       by_cases e:j=k
       ·rw[e,<-HSE.out] at hj0;exact absurd hj0 HS0.out
       ·exact HA.out j (by omega) hj0⟩
      case measure=>simp[intOf];omega
    ·have hki:¬(k:Int)<q:=by omega
     obtain rfl:q=k:=by omega
     have HALL:aa (∀ j,j<q->st.states.getD j 0=0->st.owner j∈d.barred):=HA.out
     clear hwk HA hki hk
     obtain⟨ba,bc,hbv,hbx⟩:=HHk.out.barred.form
     obtain⟨nb,hnbe⟩:=nm (st.barred.length)
     have c53:=HHk.out.here.barred
     rw[hbv,<-hnbe] at c53
     have HNB:=ac hnbe
     have HBX:=ac hbx
     have hnb8:nb<=8:=by rw[hnbe];exact HWF.out.nbar
     clear hbv hbx hnbe
     go_wp2_with fail
     clear c53
     go_loopg [85] nb (fun g i wr=>∃k:Nat,k<=nb/\i=.int .i64 k/\nb - k<=g/\wk=wr/\aa (∀ j,j<k->st.barred.getD j 0∈d.barred))
     case atStart=>exact⟨0,Nat.zero_le _,rfl,by omega,rfl,fun j hj=>absurd hj (by omega)⟩
     case round=>
      obtain⟨k,hk,rfl,hg,hwr,ha⟩:=hrel
      subst hwr
      have HA:=ac ha
      clear ha
      by_cases hkn:k<nb
      ·have hki:(k:Int)<nb:=by omega
       obtain⟨bg,rfl,_,_,hj⟩:=HBX.out (by rw[<-HNB.out];omega)
       obtain⟨c,hc⟩:=nm (st.barred.getD k 0)
       have cc:wk.cell? ⟨bg,k,none⟩=some (.int .i64 c):=by rw[hc];exact hj k (by rw[<-HNB.out];exact hkn)
       have e5:wk.cell? ⟨L,5,none⟩=some bb:=HRk.out.barred
       obtain⟨B,hB⟩:=nm (decide (c∈d.barred))
       have HC:=ac hc
       have HBE:=ac hB
       have HCT:=ac (iE d.barred (by omega) c bb wk HBk.out)
       rw[<-hB] at HCT
       clear hc hB hj
       go_wp2_with fail
       refine HCT.out.mono ?_
       rintro e w' ⟨rfl,hw'⟩
       rw[hw']
       clear hw' w'
       cases B with
       | true=>
        go_wp2_with fail
        go_roundg (nb - (k + 1))
        case measure=>omega
        case rel=>exact⟨k + 1,hkn,by go_num,Nat.le_refl _,rfl,fun j hj=>by
         by_cases e:j=k
         ·rw[e,<-HC.out];exact of_decide_eq_true HBE.out.symm
         ·exact HA.out.out j (by omega)⟩
       | false=>
        have HNO':aa (¬ gm st d):=fun h=>(of_decide_eq_false HBE.out.symm) (h.2.2.2.2.2.2.1 c (by rw[HC.out];exact (da _ _).2 ⟨k,by rw[<-HNB.out];exact hkn,rfl⟩))
        go_wp2_with fail
        go_ret
        rw[HR.out,if_neg HNO'.out]
        exact aW HH.out HSS.out HNk.out
      ·have hki:¬(k:Int)<nb:=by omega
       obtain rfl:nb=k:=by omega
       have HBARS:aa (∀ c∈st.barred,c∈d.barred):=fun c hc=>by
        obtain⟨j,hj,rfl⟩:=(da _ _).1 hc
        exact HA.out.out j (by rw[HNB.out];exact hj)
       clear HA HBX hki hk hg
       obtain⟨bl,cl,hbe,_,hbx⟩:=HBk.out
       obtain⟨nd,hnd⟩:=nm (d.barred.length)
       have e5:wk.cell? ⟨L,5,none⟩=some (.slice bl nd cl):=by rw[hnd,<-hbe];exact HRk.out.barred
       have HND:=ac hnd
       have HBX:=ac hbx
       have HBE:=ac hbe
       have hnd8:nd<=8:=by rw[hnd];exact hnb
       clear hnd hbx hbe
       obtain⟨G2,hG2⟩:∃G:Bool,G=decide (0<d.barred.length->d.barred.getD (d.barred.length - 1) 0<st.scene.carriers):=⟨_,rfl⟩
       have HG2:=ac hG2
       clear hG2
       go_upto_region 16 with fail
       go_cut [113] (fun s wx=>s=.bool (!G2)/\∃q,wx=wk.drewN q)
       case first=>
        --F
        by_cases h0:nd=0
        ·have HE:aa (G2=true):=by rw[aa,HG2.out];exact decide_eq_true (fun h=>by rw[<-HND.out] at h;omega)
         have hb0:decide (0<nd)=false:=by simp;omega
         have hb0':decide (0<(nd:Int))=false:=by simp;omega
         clear h0
         go_quiet (fail)
         go_wp2_with fail
         go_meet
         case rel=>exact⟨by rw[HE.out];rfl,_,rfl⟩
        ·have hb0:decide (0<nd)=true:=by simp;omega
         have hb0':decide (0<(nd:Int))=true:=by simp;omega
         obtain⟨k1,hk1⟩:∃k1:Nat,nd=k1 + 1:=⟨nd - 1,by omega⟩
         obtain⟨lb,lo,rfl,hlb,hj⟩:=HBX.out (by rw[<-HND.out];omega)
         obtain⟨x,hx⟩:=nm (d.barred.getD k1 0)
         have cx:wk.cell? ⟨lb,lo + k1,none⟩=some (.int .i64 x):=by rw[hx];exact hj k1 (by rw[<-HND.out];omega)
         obtain⟨ca,hca⟩:=nm (st.scene.carriers)
         have c43:wk.cell? ⟨p,43,none⟩=some (.int .i64 ca):=by have:=HHk.out.here.rcarriers;rw[HHk.out.carriers,<-hca] at this;exact this
         have HE:aa (G2=decide (x<ca)):=by
          rw[aa,HG2.out,<-HND.out,hk1,Nat.add_sub_cancel,<-hx,<-hca]
          exact decide_eq_decide.2 ⟨fun h=>h (Nat.succ_pos _),fun h _=>h⟩
         have hw1:IntKind.i64.wrap ((nd:Int) - 1)=(k1:Int):=by rw[hk1];exact (IntWalk.i64_in _ (by omega)).trans (by omega)
         have hi1:(k1:Int)<nd:=by omega
         have hk1':k1<nd:=by omega
         clear hj hlb hx hca h0 hk1
         by_cases hxc:x<ca
         ·have HE2:aa (G2=true):=by rw[aa,HE.out];exact decide_eq_true hxc
          have hb1:decide (ca<=x)=false:=by simp;omega
          clear hxc
          go_quiet (fail)
          go_wp2_with fail
          go_meet
          case rel=>exact⟨by rw[HE2.out];rfl,_,rfl⟩
         ·have HE2:aa (G2=false):=by rw[aa,HE.out];exact decide_eq_false hxc
          have hb1:decide (ca<=x)=true:=by simp;omega
          clear hxc
          go_quiet (fail)
          go_wp2_with fail
          go_meet
          case rel=>exact⟨by rw[HE2.out];rfl,_,rfl⟩
        --E
       case rest=>
        obtain⟨rfl,q2,rfl⟩:=hcut
        obtain⟨wd,hwd⟩:=nm (wk.drewN q2)
        have HNd:aa (Below w.heap.size w wd):=by rw[hwd];exact bH HNk.out q2
        have HRd:aa (ah wd L (d.toV bb l o)):=by rw[hwd];exact HRk.out.drewN q2
        have HHd:aa (bB S n wd p v st):=HH.out.new HNd.out
        have HBd:aa (bA wd bb d.barred):=by rw[hwd];exact bA.on HBk.out (ay _ _)
        rw[<-hwd]
        clear hwd e5 HNk HRk HHk HBk HJ HBX
        cases hgg:G2 with
        | false=>
         have HNO':aa (¬ gm st d):=fun h=>by
          have h1:=HG2.out
          rw[hgg] at h1
          exact (of_decide_eq_false h1.symm) h.2.2.2.2.2.2.2
         clear hgg
         go_wp2_with fail
         go_ret
         rw[HR.out,if_neg HNO'.out]
         exact aW HH.out HSS.out HNd.out
        | true=>
         have hgg2:0<d.barred.length->d.barred.getD (d.barred.length - 1) 0<st.scene.carriers:=of_decide_eq_true (by rw[<-HG2.out];exact hgg)
         have HOK:aa (gm st d):=⟨HGG.out.1,HGG.out.2.1,HGG.out.2.2.1,HGG.out.2.2.2.1,HGG.out.2.2.2.2,fun i hi=>HALL.out i (by rw[HQ.out] at hi;omega),HBARS.out,hgg2⟩
         have e5:wd.cell? ⟨L,5,none⟩=some (.slice bl nd cl):=by rw[HND.out,<-HBE.out];exact HRd.out.barred
         have HSRC:aa (y6 wd (.slice bl nd cl) nd 1 (d.barred.map (Value.int .i64))):=by
          have:=HBd.out.src
          rw[HBE.out,<-HND.out] at this
          exact this
         have hLp:L≠p:=by have:=HSS.out p HH.out.own;have:=HLw.out;omega
         have hpL:p≠L:=hLp.symm
         clear hgg hgg2
         go_wp2_with fail
         refine (j4 wd _ nd _ (by omega) HSRC.out).mono ?_
         rintro e w1 ⟨nv,rfl,hnv,hb1⟩
         obtain⟨na,nc,rfl,_⟩:=az hnv
         have HNV:=ac hnv
         have HB1:=ac hb1
         have HMD1:=ac (HHd.out.here.new hb1)
         have HR1:=ac (HRd.out.new hb1)
         have c53:=HMD1.out.barred
         have f53:=HMD1.out.free 53
         have c5:=HR1.out.barred
         have f5:=HR1.out.free 5
         clear hnv hb1 e5
         go_upto_region 19 with fail
         obtain⟨w2,hw2⟩:∃z,z=(w1.setCell ⟨p,53,none⟩ (.slice na nd nc)).setCell ⟨L,5,none⟩ (.slice none 0 0):=⟨_,rfl⟩
         rw[<-hw2]
         have HMD2:aa (aV w2 p {v with barred:=.slice na nd nc}):=by rw[hw2];exact (HMD1.out.setBarred _).other hpL _
         have HR2:aa (ah w2 L {d.toV bb l o with barred:=.slice none 0 0}):=by rw[hw2];exact (HR1.out.other hLp _).setBarred _
         have HK2:aa (am (fun k=>k≠p/\k≠L) w1 w2):=by rw[hw2];exact ((am.refl _ _).setCell (p:=⟨p,53,none⟩) (.inr (fun h=>h.1 rfl)) _).setCell (p:=⟨L,5,none⟩) (.inr (fun h=>h.2 rfl)) _
         clear hw2 c53 f53 c5 f5
         have HST2:aa (eZ S w2 v.states st.states):=(HHd.out.states.keep (ak HB1.out (fun k=>k≠p/\k≠L)) (fun k hk=>by
          obtain⟨cur,hc⟩:=HHd.out.states.block k hk
          exact⟨HHd.out.here.ne hc (by decide),by have:=HSS.out k (HHd.out.states.2 k hk);have:=HLw.out;omega⟩)).keep HK2.out (fun k hk=>by
          obtain⟨cur,hc⟩:=HHd.out.states.block k hk
          exact⟨HHd.out.here.ne hc (by decide),by have:=HSS.out k (HHd.out.states.2 k hk);have:=HLw.out;omega⟩)
         obtain⟨g,cap,cur,hve,hSg,hnc,hcm,hgh,hcs,hcj⟩:=HST2.out.cur (by rw[<-HNS.out];omega)
         have c50:w2.cell? ⟨p,50,none⟩=some (.slice (some ⟨g,0,none⟩) ns cap):=by rw[HNS.out,<-hve];exact HMD2.out.states
         have e2:w2.cell? ⟨L,2,none⟩=some (.int .i64 q):=by rw[<-HQ.out];exact HR2.out.lot
         have hgp:g≠p:=HMD2.out.ne hgh (by decide)
         have hgL:g≠L:=by have:=HSS.out g hSg;have:=HLw.out;omega
         have hpg:p≠g:=hgp.symm
         have hLg:L≠g:=hgL.symm
         have hqc:(q:Int)<=cap:=by rw[HNS.out] at hqn;omega
         have hqn2:(q:Int)<ns:=by omega
         have HVE:=ac hve
         have HSGG:=ac hSg
         have HNC:=ac hnc
         have HCM:=ac hcm
         have HGH:=ac hgh
         have HCS:=ac hcs
         have HCJ:=ac hcj
         clear hve hSg hnc hcm hgh hcs hcj
         go_still_tail 7,(by kernel_rfl)
         change wpList _ _ _ _ _ w2.drew
         obtain⟨w3,hw3⟩:=nm (w2.drew)
         rw[<-hw3]
         have HB3:aa (Below w2.heap.size w2 w3):=by rw[hw3];exact aA _
         have HGH3:aa (w3.heap[g]?=some (.cells cur 3 (0,0))):=by rw[hw3];exact HGH.out
         clear hw3 c50 e2
         go_wp2_with fail
         refine (oR g _ q st.states (by rw[<-HNS.out];omega) (by rw[<-HNS.out];have:=HWF.out.nlots;have:=HWF.out.lens;rw[<-HNS.out] at this;omega) w3 cur HGH3.out HCJ.out).mono ?_
         rintro e w4 ⟨rfl,hk4,cur4,hg4,hs4,hc4⟩
         have HK4:aa (am (·≠g) w2 w4):=(ak HB3.out _).trans hk4
         have HMD4:=ac (HMD2.out.keeps HK4.out hpg)
         have HR4:=ac (HR2.out.keeps HK4.out hLg)
         have HG4:=ac hg4
         have HS4:aa (cur4.size=cap):=hs4.trans HCS.out
         have HC4:=ac hc4
         have c50:w4.cell? ⟨p,50,none⟩=some (.slice (some ⟨g,0,none⟩) ns cap):=by rw[HNS.out,<-HVE.out];exact HMD4.out.states
         have e2:w4.cell? ⟨L,2,none⟩=some (.int .i64 q):=by rw[<-HQ.out];exact HR4.out.lot
         have cg:w4.cell? ⟨g,q,none⟩=some (.int .i64 ((ci q st.states).getD q 0)):=(aq hg4 q).trans (hc4 q (by rw[<-HNS.out];exact hqn))
         have fg:=aL hg4 q
         clear hk4 hg4 hs4 hc4
         go_upto_region 20 with fail
         go_region
         go_upto_region 21 with fail
         obtain⟨w5,hw5⟩:∃z,z=(w4.setCell ⟨g,q,none⟩ (.int .i64 1)).drew:=⟨_,rfl⟩
         rw[<-hw5]
         obtain⟨rv2,hrv2⟩:∃r:RecV,r={d.toV bb l o with barred:=.slice none 0 0}:=⟨_,rfl⟩
         have HK5:aa (am (·≠g) w2 w5):=by rw[hw5];exact (HK4.out.setCell (p:=⟨g,q,none⟩) (.inr (fun h=>h rfl)) _).drew
         have HMD5:=ac (HMD2.out.keeps HK5.out hpg)
         have HR5:aa (ah w5 L rv2):=by rw[hrv2];exact HR2.out.keeps HK5.out hLg
         have HG5:aa (w5.heap[g]?=some (.cells (cur4.setIfInBounds q (.int .i64 1)) 3 (0,0))):=by rw[hw5];exact aH HG4.out q _
         have HRV2:=ac hrv2
         have hi0:(prog.info? 49).map (·.size)=some (ae rv2).size:=by rw[aj];kernel_rfl
         have hmm:=@run_makeMap prog
         have c52:=HMD5.out.opn
         have f52:=HMD5.out.free 52
         clear hw5 hrv2 c50 e2 cg fg
         clear hmm
         obtain⟨mb,hmb⟩:∃x,w5.heap.size=x:=⟨_,rfl⟩
         obtain⟨wa,hwa⟩:∃z,w5.alloc (.map #[] 0)=z:=⟨_,rfl⟩
         obtain⟨bdm,hbdm⟩:∃x,wa.heap.size=x:=⟨_,rfl⟩
         obtain⟨wb,hwb⟩:∃z,wa.alloc (.map #[] 0)=z:=⟨_,rfl⟩
         have HMB:=ac hmb
         have HWA:=ac hwa
         have HBM:=ac hbdm
         have HWB:=ac hwb
         have HBab:aa (Below w5.heap.size w5 wb):=by rw[<-hwb,<-hwa];exact ((Below.refl _ w5).alloc (Nat.le_refl _) _).alloc (by simp) _
         have HMDb:=ac (HMD5.out.new HBab.out)
         have HMDR:=ac (HMDb.out.new (af wb (.cells (ip rv2 mb bdm) 133)))
         clear hmb hwa hbdm hwb c52 f52
         have c52:=HMDR.out.opn
         have f52:=HMDR.out.free 52
         go_wp2_with (guard_target =~ wpList _ _ _ _ _ _;first
          | (refine wpList_load_row rfl _ _ rfl L rfl _ (ae rv2) (0,0) _ HR5.out underlying49 rfl hi0 ?_)
          | (refine jl rfl _ rfl mb HMB.out wa HWA.out ?_)
          | (refine jl rfl _ rfl bdm HBM.out wb HWB.out ?_)
          | (refine aQ rfl 133 _ rfl [(0,.agg (ae rv2)),(1,.map (some mb)),(2,.map (some bdm))] rfl (.agg (ip rv2 mb bdm)) (uG rv2 mb bdm _) ?_))
         go_ret
         rw[HR.out,if_pos HOK.out]
         exact uH HH.out HSS.out HQ.out hqn HNS.out HND.out (by rw[HRV2.out];rfl) (by rw[HRV2.out];rfl) (by rw[HRV2.out];rfl) HNd.out HLw.out HRd.out.lt HB1.out HNV.out HK2.out HK5.out HSGG.out hgp (by rw[HNS.out];exact HVE.out) (by rw[HNS.out];exact HNC.out) HCM.out HS4.out HC4.out HG5.out HMB.out HWA.out HBM.out HWB.out HMDb.out
