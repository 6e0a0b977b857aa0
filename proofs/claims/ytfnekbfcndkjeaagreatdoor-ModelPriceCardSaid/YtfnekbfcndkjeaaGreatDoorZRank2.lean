/- vick.Rank, walked. -/
import Derived.Test.YtfnekbfcndkjeaaGreatDoorZSortWalk3
import Derived.Deep.DeepCutAuto
set_option maxHeartbeats 16000000
set_option maxRecDepth 100000
set_option linter.all false
namespace Go.Proofs.YtfnekbfcndkjeaaGreatDoor
open Go.Proofs.Tryz Go.RowKit Go.Sort
open Go.Proofs.YtfnekbfcndkjeaaGreatDoor.Srt
variable {α : Type} [Inhabited α]
theorem tN {enc:α->Value} {w0 w2:World} {blk off:Nat} {d0 dk:Array α} (S:SW enc w0 blk off dk w2) (R:Row1 enc w0 blk off d0) (hs:dk.size=d0.size) (p q:Nat) (hp:p<dk.size) (hq:q<dk.size):
  w2.cell? ⟨blk,off + p,none⟩=some (enc dk[p]!)/\w2.cell? ⟨blk,off + q,none⟩=some (enc dk[q]!)/\w2.frozen? ⟨blk,off + p,none⟩=false/\w2.frozen? ⟨blk,off + q,none⟩=false/\∃u,(w2.setCell ⟨blk,off + p,none⟩ (enc dk[q]!)).cell? ⟨blk,off + q,none⟩=some u:=
 ⟨S.c1 R hs p hp,S.c1 R hs q hq,S.f1 R hs p hp,S.f1 R hs q hq,S.c2 R hs p q hp hq _⟩
theorem pM {enc:α->Value} {T:α->α->Prop} {ix:α->Nat} {cf:α->α->Int} {g:Nat} {cb:Array Value} (blk off cap a m b:Nat) (d0 d:Array α) (w0 w:World) (C:jQ enc T ix cf g cb blk off d0.size w0) (R:Row1 enc w0 blk off d0) (hs:d0.size=d.size) (S:SW enc w0 blk off d w)
  (ham:a + 1=m) (hmb:m<b) (hb:b<=d.size) (hsz:d.size<=140737488355328) (hH:dZ T ix d a m b):
  Calls prog 125 #[.slice (some ⟨blk,off,none⟩) d.size cap,.int .i64 a,.int .i64 m,.int .i64 b,.func (.func g) #[] cb] w fun e w'=>
   e=.returned (.tuple #[])/\Aside (∃ d',ct T d d' a b/\SW enc w0 blk off d' w'):=by
 have mixed:=pL
 have hcl0:=R.hO.cells
 simp only[Value.cells] at hcl0
 have hst:=R.hO.store prog
 have eg:=C.eg
 have S0:Aside (SW enc w0 blk off d w):=S
 have HT:Aside _:=C.ord.trans
 have HC:Aside _:=C
 have HH:Aside _:=hH
 have HAM:Aside (a + 1=m):=ham
 have am1:a + 1<=m:=by omega
 have am2:m<=a + 1:=by omega
 have amb:((m:Int) - (a:Int)==1)=true:=by rw[beq_iff_eq];omega
 clear C S hH ham
 go_enter func125,ntmps125
 go_wp2
 go_loopg [10,11] (b - m) (fun g1 vi vj wr=>∃(i j:Nat),vi=.int .i64 i/\vj=.int .i64 j/\m<=i/\i<=j/\j<=b/\j - i<=g1/\Aside (∀ k,m<=k->k<i->T d[k]! d[a]!)/\Aside (∀ k,j<=k->k<b->T d[a]! d[k]!)/\Aside (SW enc w0 blk off d wr))
 case atStart=>exact⟨m,b,rfl,rfl,by omega,by omega,by omega,by omega,fun k h1 h2=>by omega,fun k h1 h2=>by omega,S0⟩
 case round=>
  clear S0
  obtain⟨i,j,rfl,rfl,hi,hij,hj,hg,HL,HU,S1⟩:=hrel
  by_cases hlt:i<j
  ·have hltz:(i:Int)<(j:Int):=by omega
   go_wp2_with fail
   obtain⟨h,hh⟩:∃h:Nat,h=(i + j) / 2:=⟨_,rfl⟩
   have hhz:((i:Int) + (j:Int)) / 2=(h:Int):=by omega
   have h1:i<=h:=by omega
   have h2:h<j:=by omega
   rw[hhz]
   clear hh hhz
   obtain⟨x,hx⟩:∃x,x=d[h]! :=⟨_,rfl⟩
   obtain⟨y,hy⟩:∃x,x=d[a]! :=⟨_,rfl⟩
   have HXY:Aside (ix y<ix x):=by rw[Aside,hx,hy];exact HH.out.cross a h (Nat.le_refl _) (by omega) (by omega) (by omega)
   have HX1:Aside (x=d[h]!):=hx
   have HY1:Aside (y=d[a]!):=hy
   have la:=S1.out.cl R hs.symm h (by omega)
   have lb:=S1.out.cl R hs.symm a (by omega)
   rw[<-hx] at la
   rw[<-hy] at lb
   have hc:=S1.out.cmp HC.out.hc hs.symm x y
   have pa:(h:Int)<(d.size:Int):=by omega
   have pb:(a:Int)<(d.size:Int):=by omega
   clear hx hy
   by_cases hv:cf x y<0
   ·have hd:decide (cf x y<0)=true:=decide_eq_true hv
    have HV:Aside (cf x y<0):=hv
    clear hv
    go_quiet_grown (first | (go_at_fn g;refine Calls.grown_of (hc _ _)))
    have S2:Aside (SW enc w0 blk off d (grow (wr.drewN nq) osq)):=S1.out.grown nq osq
    clear la lb hc S1
    generalize grow (wr.drewN nq) osq=w2 at S2 ⊢
    clear nq osq
    go_wp2
    go_roundg (j - (h + 1))
    case measure=>omega
    case rel=>
     have t:T d[h]! d[a]! :=by rw[<-HX1.out,<-HY1.out];exact (HC.out.yes y x HXY.out).1 HV.out
     exact⟨h + 1,j,by go_num,rfl,by omega,by omega,hj,by omega,fun k k1 k2=>by
      by_cases c:k=h
      ·rw[c];exact t
      ·exact HT.out _ _ _ (HH.out.s2 k h k1 (by omega) (by omega)) t,HU,S2⟩
   ·have hd:decide (cf x y<0)=false:=decide_eq_false hv
    have HV:Aside (¬ cf x y<0):=hv
    clear hv
    go_quiet_grown (first | (go_at_fn g;refine Calls.grown_of (hc _ _)))
    have S2:Aside (SW enc w0 blk off d (grow (wr.drewN nq) osq)):=S1.out.grown nq osq
    clear la lb hc S1
    generalize grow (wr.drewN nq) osq=w2 at S2 ⊢
    clear nq osq
    go_wp2
    go_roundg (h - i)
    case measure=>omega
    case rel=>
     have t:T d[a]! d[h]! :=by rw[<-HX1.out,<-HY1.out];exact HC.out.no y x HXY.out (by have:=HV.out;omega)
     exact⟨i,h,rfl,by go_num,hi,by omega,by omega,by omega,HL,fun k k1 k2=>by
      by_cases c:k=h
      ·rw[c];exact t
      ·exact HT.out _ _ _ t (HH.out.s2 h k (by omega) (by omega) (by omega)),S2⟩
  ·have hltz:¬(i:Int)<(j:Int):=by omega
   obtain rfl:i=j:=by omega
   go_wp2
   go_loopg [13] (i - a) (fun g1 vk wr=>∃(k:Nat) (dk:Array α),vk=.int .i64 k/\a<=k/\k + 1<=i/\i - k<=g1/\Aside (gJ d dk a (a + 1) (k + 1))/\Aside (SW enc w0 blk off dk wr))
   case atStart=>exact⟨a,d,rfl,by omega,by omega,by omega,gJ.self_left _ _ _,S1⟩
   case round=>
    clear S1
    obtain⟨k,dk,rfl,hk1,hk2,hg2,HR,S1⟩:=hrel
    have hsk:Aside (dk.size=d.size):=HR.out.1
    by_cases hk3:k + 1<i
    ·have hkz:(k:Int)<(i:Int) - 1:=by omega
     obtain⟨x,hx⟩:∃x,x=dk[k]! :=⟨_,rfl⟩
     obtain⟨y,hy⟩:∃x,x=dk[k + 1]! :=⟨_,rfl⟩
     obtain⟨jN,hjN⟩:∃q,q=k + 1:=⟨_,rfl⟩
     obtain⟨ca,cb',fa,fb,u,cc⟩:=tN S1.out R (hsk.out.trans hs.symm) k (k + 1) (by rw[hsk.out];omega) (by rw[hsk.out];omega)
     have S4:Aside (SW enc w0 blk off (swp dk k (k + 1)) ((wr.setCell ⟨blk,off + k,none⟩ (enc y)).setCell ⟨blk,off + jN,none⟩ (enc x)).drew):=by rw[hjN,hx,hy];exact S1.out.swapped R k (k + 1) (by rw[hsk.out];omega) (by rw[hsk.out];omega)
     have eb:((k:Int) + 1).toNat=jN:=by omega
     have pb:(0:Int)<=(k:Int) + 1:=by omega
     have bb:(k:Int) + 1<(d.size:Int):=by omega
     have ba:(k:Int)<(d.size:Int):=by omega
     have rb:IntKind.i64.wrap ((k:Int) + 1)=(k:Int) + 1:=by rw[IntKind.wrap_i64];omega
     rw[<-hx] at ca
     rw[<-hy,<-hjN] at cb'
     rw[<-hjN] at fb
     rw[<-hy,<-hjN] at cc
     clear hx hy hjN S1
     go_wp2_with fail
     go_region
     clear ca cb' cc fa fb
     generalize ((wr.setCell ⟨blk,off + k,none⟩ (enc y)).setCell ⟨blk,off + jN,none⟩ (enc x)).drew=w3 at S4 ⊢
     clear eb rb
     go_wp2
     go_roundg (i - (k + 1))
     case measure=>omega
     case rel=>exact⟨k + 1,_,by go_num,by omega,by omega,by omega,HR.out.up hk1 (by omega),S4⟩
    ·have hkz:¬(k:Int)<(i:Int) - 1:=by omega
     go_wp2
     refine bodyPost_ret (results_none rfl _ _ _) rfl ⟨rfl,dk,?_,S1.out⟩
     have hh:=HH.out
     rw[<-HAM.out] at hh
     have hr:=HR.out
     rw[show k + 1=i by omega] at hr
     exact sA HT.out hh (by omega) (by omega) hr (fun q q1 q2=>HL.out q (by omega) q2) HU.out
open Go.Proofs.YtfnekbfcndkjeaaGreatDoor.Srt
variable {α : Type} [Inhabited α]
theorem n9 {enc:α->Value} {T:α->α->Prop} {ix:α->Nat} {cf:α->α->Int} {g:Nat} {cb:Array Value} (blk off cap a m b:Nat) (d0 d:Array α) (w0 w:World) (C:jQ enc T ix cf g cb blk off d0.size w0) (R:Row1 enc w0 blk off d0) (hs:d0.size=d.size) (S:SW enc w0 blk off d w)
  (ham:a + 1<m) (hmb:m + 1=b) (hb:b<=d.size) (hsz:d.size<=140737488355328) (hH:dZ T ix d a m b):
  Calls prog 125 #[.slice (some ⟨blk,off,none⟩) d.size cap,.int .i64 a,.int .i64 m,.int .i64 b,.func (.func g) #[] cb] w fun e w'=>
   e=.returned (.tuple #[])/\Aside (∃ d',ct T d d' a b/\SW enc w0 blk off d' w'):=by
 have mixed:=pL
 have hcl0:=R.hO.cells
 simp only[Value.cells] at hcl0
 have hst:=R.hO.store prog
 have eg:=C.eg
 have S0:Aside (SW enc w0 blk off d w):=S
 have HT:Aside _:=C.ord.trans
 have HC:Aside _:=C
 have HH:Aside _:=hH
 have HAM:Aside (m + 1=b):=hmb
 have am1:m + 1<=b:=by omega
 have am2:b<=m + 1:=by omega
 have ama:((m:Int) - (a:Int)==1)=false:=by rw[beq_eq_false_iff_ne];omega
 have amb:((b:Int) - (m:Int)==1)=true:=by rw[beq_iff_eq];omega
 clear C S hH hmb
 go_enter func125,ntmps125
 go_wp2
 go_loopg [14,15] (m - a) (fun g1 vi vj wr=>∃(i j:Nat),vi=.int .i64 i/\vj=.int .i64 j/\a<=i/\i<=j/\j<=m/\j - i<=g1/\Aside (∀ k,a<=k->k<i->T d[k]! d[m]!)/\Aside (∀ k,j<=k->k<m->T d[m]! d[k]!)/\Aside (SW enc w0 blk off d wr))
 case atStart=>exact⟨a,m,rfl,rfl,by omega,by omega,by omega,by omega,fun k h1 h2=>by omega,fun k h1 h2=>by omega,S0⟩
 case round=>
  clear S0
  obtain⟨i,j,rfl,rfl,hi,hij,hj,hg,HL,HU,S1⟩:=hrel
  by_cases hlt:i<j
  ·have hltz:(i:Int)<(j:Int):=by omega
   go_wp2_with fail
   obtain⟨h,hh⟩:∃h:Nat,h=(i + j) / 2:=⟨_,rfl⟩
   have hhz:((i:Int) + (j:Int)) / 2=(h:Int):=by omega
   have h1:i<=h:=by omega
   have h2:h<j:=by omega
   rw[hhz]
   clear hh hhz
   obtain⟨x,hx⟩:∃x,x=d[m]! :=⟨_,rfl⟩
   obtain⟨y,hy⟩:∃x,x=d[h]! :=⟨_,rfl⟩
   have HXY:Aside (ix y<ix x):=by rw[Aside,hx,hy];exact HH.out.cross h m (by omega) (by omega) (by omega) (by omega)
   have HX1:Aside (x=d[m]!):=hx
   have HY1:Aside (y=d[h]!):=hy
   have la:=S1.out.cl R hs.symm m (by omega)
   have lb:=S1.out.cl R hs.symm h (by omega)
   rw[<-hx] at la
   rw[<-hy] at lb
   have hc:=S1.out.cmp HC.out.hc hs.symm x y
   have pa:(h:Int)<(d.size:Int):=by omega
   have pb:(m:Int)<(d.size:Int):=by omega
   clear hx hy
   by_cases hv:cf x y<0
   ·have hd:decide (cf x y<0)=true:=decide_eq_true hv
    have HV:Aside (cf x y<0):=hv
    clear hv
    go_quiet_grown (first | (go_at_fn g;refine Calls.grown_of (hc _ _)))
    have S2:Aside (SW enc w0 blk off d (grow (wr.drewN nq) osq)):=S1.out.grown nq osq
    clear la lb hc S1
    generalize grow (wr.drewN nq) osq=w2 at S2 ⊢
    clear nq osq
    go_wp2
    go_roundg (h - i)
    case measure=>omega
    case rel=>
     have t:T d[m]! d[h]! :=by rw[<-HX1.out,<-HY1.out];exact (HC.out.yes y x HXY.out).1 HV.out
     exact⟨i,h,rfl,by go_num,hi,by omega,by omega,by omega,HL,fun k k1 k2=>by
      by_cases c:k=h
      ·rw[c];exact t
      ·exact HT.out _ _ _ t (HH.out.s1 h k (by omega) (by omega) (by omega)),S2⟩
   ·have hd:decide (cf x y<0)=false:=decide_eq_false hv
    have HV:Aside (¬ cf x y<0):=hv
    clear hv
    go_quiet_grown (first | (go_at_fn g;refine Calls.grown_of (hc _ _)))
    have S2:Aside (SW enc w0 blk off d (grow (wr.drewN nq) osq)):=S1.out.grown nq osq
    clear la lb hc S1
    generalize grow (wr.drewN nq) osq=w2 at S2 ⊢
    clear nq osq
    go_wp2
    go_roundg (j - (h + 1))
    case measure=>omega
    case rel=>
     have t:T d[h]! d[m]! :=by rw[<-HX1.out,<-HY1.out];exact HC.out.no y x HXY.out (by have:=HV.out;omega)
     exact⟨h + 1,j,by go_num,rfl,by omega,by omega,hj,by omega,fun k k1 k2=>by
      by_cases c:k=h
      ·rw[c];exact t
      ·exact HT.out _ _ _ (HH.out.s1 k h k1 (by omega) (by omega)) t,HU,S2⟩
  ·have hltz:¬(i:Int)<(j:Int):=by omega
   obtain rfl:i=j:=by omega
   go_wp2
   go_loopg [17] (m - i) (fun g1 vk wr=>∃(k:Nat) (dk:Array α),vk=.int .i64 k/\i<=k/\k<=m/\k - i<=g1/\Aside (gJ d dk k m (m + 1))/\Aside (SW enc w0 blk off dk wr))
   case atStart=>exact⟨m,d,rfl,by omega,by omega,by omega,gJ.self_right _ _ _,S1⟩
   case round=>
    clear S1
    obtain⟨k,dk,rfl,hk1,hk2,hg2,HR,S1⟩:=hrel
    have hsk:Aside (dk.size=d.size):=HR.out.1
    by_cases hk3:i<k
    ·have hkz:(i:Int)<(k:Int):=by omega
     obtain⟨x,hx⟩:∃x,x=dk[k]! :=⟨_,rfl⟩
     obtain⟨y,hy⟩:∃x,x=dk[k - 1]! :=⟨_,rfl⟩
     obtain⟨jN,hjN⟩:∃q,q=k - 1:=⟨_,rfl⟩
     obtain⟨ca,cb',fa,fb,u,cc⟩:=tN S1.out R (hsk.out.trans hs.symm) k (k - 1) (by rw[hsk.out];omega) (by rw[hsk.out];omega)
     have S4:Aside (SW enc w0 blk off (swp dk k (k - 1)) ((wr.setCell ⟨blk,off + k,none⟩ (enc y)).setCell ⟨blk,off + jN,none⟩ (enc x)).drew):=by rw[hjN,hx,hy];exact S1.out.swapped R k (k - 1) (by rw[hsk.out];omega) (by rw[hsk.out];omega)
     have eb:((k:Int) - 1).toNat=jN:=by omega
     have pb:(0:Int)<=(k:Int) - 1:=by omega
     have pb':(1:Int)<=(k:Int):=by omega
     have bb:(k:Int) - 1<(d.size:Int):=by omega
     have ba:(k:Int)<(d.size:Int):=by omega
     have rb:IntKind.i64.wrap ((k:Int) - 1)=(k:Int) - 1:=by rw[IntKind.wrap_i64];omega
     rw[<-hx] at ca
     rw[<-hy,<-hjN] at cb'
     rw[<-hjN] at fb
     rw[<-hy,<-hjN] at cc
     clear hx hy hjN S1
     go_wp2_with fail
     go_region
     clear ca cb' cc fa fb
     generalize ((wr.setCell ⟨blk,off + k,none⟩ (enc y)).setCell ⟨blk,off + jN,none⟩ (enc x)).drew=w3 at S4 ⊢
     clear eb rb
     go_wp2
     go_roundg (k - 1 - i)
     case measure=>omega
     case rel=>
      refine⟨k - 1,_,by first | go_num | (congr 1;omega),by omega,by omega,by omega,?_,S4⟩
      have:=HR.out
      obtain⟨kp,rfl⟩:∃kp,k=kp + 1:=⟨k - 1,by omega⟩
      exact gJ.down this (by omega) (by omega)
    ·have hkz:¬(i:Int)<(k:Int):=by omega
     go_wp2
     refine bodyPost_ret (results_none rfl _ _ _) rfl ⟨rfl,dk,?_,S1.out⟩
     have hh:=HH.out
     rw[<-HAM.out] at hh ⊢
     have hr:=HR.out
     rw[show k=i by omega] at hr
     exact qE HT.out hh hi hj hr HL.out HU.out
open Go.Proofs.YtfnekbfcndkjeaaGreatDoor.Srt
variable {α : Type} [Inhabited α]
def Ac (enc:α->Value) (T:α->α->Prop) (ix:α->Nat) (g:Nat) (cb:Array Value) (blk off cap size:Nat) (w0:World) (N:Nat):Prop:=
 ∀(a m b:Nat) (d:Array α) (w:World),b - a<=N->d.size=size->SW enc w0 blk off d w->a<m->m<b->b<=size->dZ T ix d a m b->
  Calls prog 125 #[.slice (some ⟨blk,off,none⟩) size cap,.int .i64 a,.int .i64 m,.int .i64 b,.func (.func g) #[] cb] w fun e w'=>
   e=.returned (.tuple #[])/\Aside (∃ d',ct T d d' a b/\SW enc w0 blk off d' w')
theorem od {enc:α->Value} {T:α->α->Prop} {ix:α->Nat} {cf:α->α->Int} {g:Nat} {cb:Array Value} (blk off cap size N:Nat) (d0:Array α) (w0:World) (C:jQ enc T ix cf g cb blk off d0.size w0) (R:Row1 enc w0 blk off d0) (hs:d0.size=size) (hsz:size<=140737488355328)
  (IH:Ac enc T ix g cb blk off cap size w0 N) (a m b:Nat) (d:Array α) (w:World) (hN:b - a<=N + 1) (hds:d.size=size) (S:SW enc w0 blk off d w) (ham:a + 1<m) (hmb:m + 1<b) (hb:b<=size) (hH:dZ T ix d a m b):
  Calls prog 125 #[.slice (some ⟨blk,off,none⟩) size cap,.int .i64 a,.int .i64 m,.int .i64 b,.func (.func g) #[] cb] w fun e w'=>
   e=.returned (.tuple #[])/\Aside (∃ d',ct T d d' a b/\SW enc w0 blk off d' w'):=by
 have mixed:=pL
 have hcl0:=R.hO.cells
 simp only[Value.cells] at hcl0
 have hst:=R.hO.store prog
 have eg:=C.eg
 have S0:Aside (SW enc w0 blk off d w):=S
 have HT:Aside _:=C.ord.trans
 have HC:Aside _:=C
 have HH:Aside _:=hH
 have HI:Aside _:=IH
 have HD:Aside (d.size=size):=hds
 have HS:Aside (d0.size=size):=hs
 have ama:((m:Int) - (a:Int)==1)=false:=by rw[beq_eq_false_iff_ne];omega
 have amb:((b:Int) - (m:Int)==1)=false:=by rw[beq_eq_false_iff_ne];omega
 clear C S hH IH hds hs
 obtain⟨mid,hmid⟩:∃q:Nat,q=(a + b) / 2:=⟨_,rfl⟩
 have HMz:Aside (((a:Int) + (b:Int)) / 2=(mid:Int)):=by show _=_;omega
 have md1:2 * mid<=a + b:=by omega
 have md2:a + b<=2 * mid + 1:=by omega
 clear hmid
 go_enter func125,ntmps125
 go_upto_if 140 with fail
 rw[HMz.out]
 clear HMz
 go_cut [20,21] (fun s20 s21 wx=>∃s0 r0:Nat,s20=.int .i64 s0/\s21=.int .i64 r0/\a<=s0/\s0<=r0/\r0<=m/\m + r0<=mid + m/\mid + m<=b + s0/\Aside (s0=a\/mid + m=b + s0)/\Aside (r0=m\/r0=mid)/\Aside (SW enc w0 blk off d wx))
 case first=>
  as_aux_lemma=>
  by_cases hc:mid<m
  ·have hcz:(mid:Int)<(m:Int):=by omega
   go_wp2
   go_meet
   case rel=>exact⟨mid + m - b,mid,by first | go_num | (congr 1;omega),rfl,by omega,by omega,by omega,by omega,by omega,Or.inr (by omega),Or.inr rfl,S0⟩
  ·have hcz:¬(mid:Int)<(m:Int):=by omega
   go_wp2
   go_meet
   case rel=>exact⟨a,m,rfl,rfl,by omega,by omega,by omega,by omega,by omega,Or.inl rfl,Or.inl rfl,S0⟩
 case rest=>
  as_aux_lemma=>
  clear S0
  obtain⟨s0,r0,rfl,rfl,h1,h2,h3,h4,h5,E1,E2,S0⟩:=hcut
  go_wp2
  go_loopg [20,21] (r0 - s0) (fun g1 vs vr wr=>∃s r:Nat,vs=.int .i64 s/\vr=.int .i64 r/\s0<=s/\s<=r/\r<=r0/\r - s<=g1/\Aside (s0<s->T d[s - 1]! d[mid + m - s]!)/\Aside (r<r0->T d[mid + m - 1 - r]! d[r]!)/\Aside (SW enc w0 blk off d wr))
  case atStart=>exact⟨s0,r0,rfl,rfl,Nat.le_refl _,h2,Nat.le_refl _,Nat.le_refl _,fun h=>absurd h (Nat.lt_irrefl _),fun h=>absurd h (Nat.lt_irrefl _),S0⟩
  case round=>
   clear S0
   obtain⟨s,r,rfl,rfl,g1,g2,g3,g4,LO,UP,S1⟩:=hrel
   by_cases hlt:s<r
   ·have hltz:(s:Int)<(r:Int):=by omega
    go_wp2_with fail
    obtain⟨c,hh⟩:∃h:Nat,h=(s + r) / 2:=⟨_,rfl⟩
    have hhz:((s:Int) + (r:Int)) / 2=(c:Int):=by omega
    have c1:s<=c:=by omega
    have c2:c<r:=by omega
    rw[hhz]
    clear hh hhz
    obtain⟨q,hq⟩:∃q:Nat,q=mid + m - 1 - c:=⟨_,rfl⟩
    have q1:m<=q:=by omega
    have q2:q<b:=by omega
    have HQ:Aside (q=mid + m - 1 - c):=hq
    have eq:((mid:Int) + (m:Int) - 1 - (c:Int)).toNat=q:=by omega
    have pq:(0:Int)<=(mid:Int) + (m:Int) - 1 - (c:Int):=by omega
    have pq2:(c:Int)<=(mid:Int) + (m:Int) - 1:=by omega
    have bq:(mid:Int) + (m:Int) - 1 - (c:Int)<(size:Int):=by omega
    have wq:IntKind.i64.wrap ((mid:Int) + (m:Int) - 1 - (c:Int))=(mid:Int) + (m:Int) - 1 - (c:Int):=by rw[IntKind.wrap_i64];omega
    obtain⟨x,hx⟩:∃x,x=d[q]! :=⟨_,rfl⟩
    obtain⟨y,hy⟩:∃x,x=d[c]! :=⟨_,rfl⟩
    have HXY:Aside (ix y<ix x):=by rw[Aside,hx,hy];exact HH.out.cross c q (by omega) (by omega) (by omega) (by omega)
    have HX1:Aside (x=d[q]!):=hx
    have HY1:Aside (y=d[c]!):=hy
    have la:=S1.out.cl R (HD.out.trans HS.out.symm) q (by rw[HD.out];omega)
    have lb:=S1.out.cl R (HD.out.trans HS.out.symm) c (by rw[HD.out];omega)
    rw[<-hx] at la
    rw[<-hy] at lb
    have hc:=S1.out.cmp HC.out.hc (HD.out.trans HS.out.symm) x y
    have pb:(c:Int)<(size:Int):=by omega
    clear hx hy hq
    by_cases hv:cf x y<0
    ·as_aux_lemma=>
     have hd:decide (cf x y<0)=true:=decide_eq_true hv
     have HV:Aside (cf x y<0):=hv
     clear hv
     go_quiet_grown (first | (go_at_fn g;refine Calls.grown_of (hc _ _)))
     have S2:Aside (SW enc w0 blk off d (grow (wr.drewN nq) osq)):=S1.out.grown nq osq
     clear la lb hc S1
     generalize grow (wr.drewN nq) osq=w2 at S2 ⊢
     clear nq osq eq wq
     go_wp2
     go_roundg (c - s)
     case measure=>omega
     case rel=>
      have t:T d[q]! d[c]! :=by rw[<-HX1.out,<-HY1.out];exact (HC.out.yes y x HXY.out).1 HV.out
      rw[HQ.out] at t
      exact⟨s,c,rfl,rfl,g1,c1,by omega,Nat.le_refl _,LO,fun _=>t,S2⟩
    ·as_aux_lemma=>
     have hd:decide (cf x y<0)=false:=decide_eq_false hv
     have HV:Aside (¬ cf x y<0):=hv
     clear hv
     go_quiet_grown (first | (go_at_fn g;refine Calls.grown_of (hc _ _)))
     have S2:Aside (SW enc w0 blk off d (grow (wr.drewN nq) osq)):=S1.out.grown nq osq
     clear la lb hc S1
     generalize grow (wr.drewN nq) osq=w2 at S2 ⊢
     clear nq osq eq wq
     go_wp2
     go_roundg (r - (c + 1))
     case measure=>omega
     case rel=>
      have t:T d[c]! d[q]! :=by rw[<-HX1.out,<-HY1.out];exact HC.out.no y x HXY.out (by have:=HV.out;omega)
      rw[HQ.out] at t
      exact⟨c + 1,r,by go_num,rfl,by omega,by omega,g3,Nat.le_refl _,fun _=>by rw[show c + 1 - 1=c by omega,show mid + m - (c + 1)=mid + m - 1 - c by omega];exact t,UP,S2⟩
   ·as_aux_lemma=>
    have hltz:¬(s:Int)<(r:Int):=by omega
    obtain rfl:s=r:=by omega
    obtain⟨e,he⟩:∃e:Nat,e=mid + m - s:=⟨_,rfl⟩
    have HEz:Aside ((mid:Int) + (m:Int) - (s:Int)=(e:Int)):=by show _=_;omega
    have e1:m<=e:=by omega
    have e2:e<=b:=by omega
    have HE:Aside (s + (e - m)=mid):=by show _=_;omega
    have HA:Aside (a<s->e<b->T d[s - 1]! d[e]!):=fun k1 k2=>by
     by_cases c:s0<s
     ·rw[he];exact LO.out c
     ·rcases E1.out with k | k <;> omega
    have HB:Aside (s<m->m<e->T d[e - 1]! d[s]!):=fun k1 k2=>by
     by_cases c:s<r0
     ·rw[show e - 1=mid + m - 1 - s by omega];exact UP.out c
     ·rcases E2.out with k | k <;> omega
    clear E1 E2 LO UP he
    go_upto_region 39 with fail
    rw[HEz.out]
    clear HEz
    go_cut [185] (fun v wx=>∃bb:Bool,v=.bool bb/\Aside (bb=true↔(s<m/\m<e))/\Aside (SW enc w0 blk off d wx))
    case first=>
     as_aux_lemma=>
     by_cases hc:s<m
     ·have hcz:(s:Int)<(m:Int):=by omega
      by_cases hc2:m<e
      ·have hcz2:(m:Int)<(e:Int):=by omega
       go_wp2
       go_meet
       case rel=>exact⟨true,rfl,⟨fun _=>⟨hc,hc2⟩,fun _=>rfl⟩,S1⟩
      ·have hcz2:¬(m:Int)<(e:Int):=by omega
       go_wp2
       go_meet
       case rel=>exact⟨false,rfl,⟨fun h=>by simp at h,fun h=>absurd h.2 hc2⟩,S1⟩
     ·have hcz:¬(s:Int)<(m:Int):=by omega
      go_wp2
      go_meet
      case rel=>exact⟨false,rfl,⟨fun h=>by simp at h,fun h=>absurd h.1 hc⟩,S1⟩
    case rest=>
    as_aux_lemma=>
    clear S1
    obtain⟨bb,rfl,HB1,S1⟩:=hcut
    go_upto_if 185 with fail
    go_cut [] (fun wx=>Aside (∃ d1,gJ d d1 s m e/\SW enc w0 blk off d1 wx))
    case first=>
     as_aux_lemma=>
     cases bb with
     | true=>
      obtain⟨hc,hc2⟩:=HB1.out.1 rfl
      go_wp2_with fail
      have hrot:=xz enc (.func (.func g) #[] cb) blk off cap s m e d0 d w0 wc R (HS.out.trans HD.out.symm) S1.out hc hc2 (by rw[HD.out];omega) (by rw[HD.out];omega)
      rw[HD.out] at hrot
      refine hrot.mono ?_
      rintro e' w' ⟨rfl,hq⟩
      go_wp2
      go_meet
      case rel=>exact hq
     | false=>
      go_wp2
      go_meet
      case rel=>
       have hn:¬(s<m/\m<e):=fun h=>by have:=HB1.out.2 h;simp at this
       by_cases hc:s=m
       ·subst hc;exact⟨d,gJ.self_right _ _ _,S1.out⟩
       ·obtain rfl:e=m:=by omega
        exact⟨d,gJ.self_left _ _ _,S1.out⟩
    case rest=>
    as_aux_lemma=>
    clear S1 HB1
    obtain⟨d1,hr1,S2⟩:=hcut.out
    have HR1:Aside _:=hr1
    have S2':Aside _:=S2
    have Q:Aside (np T ix d1 a s mid e b):=xy HT.out HH.out (by omega) (by omega) e1 e2 HE.out hr1 HA.out HB.out
    have HD1:Aside (d1.size=size):=hr1.1.trans HD.out
    clear hcut hr1 S2 HA HB
    go_upto_region 41 with fail
    go_cut [199] (fun v wx=>∃bb:Bool,v=.bool bb/\Aside (bb=true↔(a<s/\s<mid))/\Aside (SW enc w0 blk off d1 wx))
    case first=>
     as_aux_lemma=>
     by_cases hc:a<s
     ·have hcz:(a:Int)<(s:Int):=by omega
      by_cases hc2:s<mid
      ·have hcz2:(s:Int)<(mid:Int):=by omega
       go_wp2
       go_meet
       case rel=>exact⟨true,rfl,⟨fun _=>⟨hc,hc2⟩,fun _=>rfl⟩,S2'⟩
      ·have hcz2:¬(s:Int)<(mid:Int):=by omega
       go_wp2
       go_meet
       case rel=>exact⟨false,rfl,⟨fun h=>by simp at h,fun h=>absurd h.2 hc2⟩,S2'⟩
     ·have hcz:¬(a:Int)<(s:Int):=by omega
      go_wp2
      go_meet
      case rel=>exact⟨false,rfl,⟨fun h=>by simp at h,fun h=>absurd h.1 hc⟩,S2'⟩
    case rest=>
    as_aux_lemma=>
    clear S2'
    obtain⟨bb2,rfl,HB1,S2'⟩:=hcut
    go_upto_if 199 with fail
    go_cut [] (fun wx=>Aside (∃ d2,ct T d1 d2 a mid/\SW enc w0 blk off d2 wx))
    case first=>
     as_aux_lemma=>
     cases bb2 with
     | true=>
      obtain⟨hc,hc2⟩:=HB1.out.1 rfl
      go_wp2_with fail
      refine (HI.out a s mid d1 _ (by omega) HD1.out S2'.out hc hc2 (by omega) Q.out.lo).mono ?_
      rintro e' w' ⟨rfl,hq⟩
      go_wp2
      go_meet
      case rel=>exact hq
     | false=>
      go_wp2
      go_meet
      case rel=>
       have hn:¬(a<s/\s<mid):=fun h=>by have:=HB1.out.2 h;simp at this
       by_cases hc:a<s
       ·exact⟨d1,ct.refl (Q.out.lo.right_none (by omega)),S2'.out⟩
       ·exact⟨d1,ct.refl (Q.out.lo.left_none (by omega) (by omega)),S2'.out⟩
    case rest=>
    as_aux_lemma=>
    clear S2' HB1
    obtain⟨d2,hm2,S2⟩:=hcut.out
    have HM2:Aside _:=hm2
    have S2':Aside _:=S2
    have HD2:Aside (d2.size=size):=hm2.size.trans HD1.out
    have HH2:Aside (dZ T ix d2 mid e b):=by
     have q:=Q.out.hi
     have me:mid<=e:=by have:=HE.out;omega
     have k:∀p,mid<=p->d2[p]! =d1[p]! :=fun p hp=>hm2.out p (Or.inr hp)
     exact⟨fun p p' k1 k2 k3=>by rw[k p k1,k p' (by omega)];exact q.s1 p p' k1 k2 k3,fun p p' k1 k2 k3=>by rw[k p (by omega),k p' (by omega)];exact q.s2 p p' k1 k2 k3,fun p p' k1 k2 k3 k4=>by rw[k p k1,k p' (by omega)];exact q.cross p p' k1 k2 k3 k4⟩
    clear hcut hm2 S2
    by_cases hc:mid<e
    ·have hcz:(mid:Int)<(e:Int):=by omega
     by_cases hc2:e<b
     ·have hcz2:(e:Int)<(b:Int):=by omega
      go_wp2_with fail
      refine (HI.out mid e b d2 _ (by omega) HD2.out S2'.out hc hc2 hb HH2.out).mono ?_
      rintro e' w' ⟨rfl,hq⟩
      go_wp2
      go_end0
      refine⟨rfl,?_⟩
      obtain⟨d3,hm3,S3⟩:=hq.out
      exact⟨d3,lF (by omega) (by omega) e1 e2 HE.out HR1.out Q.out HM2.out hm3,S3⟩
     ·have hcz2:¬(e:Int)<(b:Int):=by omega
      go_wp2
      go_end0
      exact⟨rfl,d2,lF (by omega) (by omega) e1 e2 HE.out HR1.out Q.out HM2.out (ct.refl (HH2.out.right_none (by omega))),S2'.out⟩
    ·have hcz:¬(mid:Int)<(e:Int):=by omega
     go_wp2
     go_end0
     exact⟨rfl,d2,lF (by omega) (by omega) e1 e2 HE.out HR1.out Q.out HM2.out (ct.refl (HH2.out.left_none (by omega) (by have:=HE.out;omega))),S2'.out⟩
theorem sB {enc:α->Value} {T:α->α->Prop} {ix:α->Nat} {cf:α->α->Int} {g:Nat} {cb:Array Value} (blk off cap size:Nat) (d0:Array α) (w0:World) (C:jQ enc T ix cf g cb blk off d0.size w0) (R:Row1 enc w0 blk off d0) (hs:d0.size=size) (hsz:size<=140737488355328) (N:Nat):
  Ac enc T ix g cb blk off cap size w0 N:=by
 induction N with
 | zero=>intro a m b d w hN _ _ h1 h2 _ _;omega
 | succ N ih=>
  intro a m b d w hN hds S h1 h2 hb hH
  by_cases c1:a + 1=m
  ·have:=pM blk off cap a m b d0 d w0 w C R (hs.trans hds.symm) S c1 h2 (by rw[hds];exact hb) (by rw[hds];exact hsz) hH
   rw[hds] at this
   exact this
  ·by_cases c2:m + 1=b
   ·have:=n9 blk off cap a m b d0 d w0 w C R (hs.trans hds.symm) S (by omega) c2 (by rw[hds];exact hb) (by rw[hds];exact hsz) hH
    rw[hds] at this
    exact this
   ·exact od blk off cap size N d0 w0 C R hs hsz ih a m b d w hN hds S (by omega) (by omega) hb hH
open Go.Proofs.YtfnekbfcndkjeaaGreatDoor.Srt
variable {α : Type} [Inhabited α]
theorem aS {p:Prop} (h:p):Aside p:=h
theorem xA {enc:α->Value} {T:α->α->Prop} {ix:α->Nat} {cf:α->α->Int} {g:Nat} {cb:Array Value} (blk off cap n:Nat) (d0 d:Array α) (w0 w:World) (C:jQ enc T ix cf g cb blk off d0.size w0) (R:Row1 enc w0 blk off d0) (hs:d0.size=n) (hds:d.size=n) (S:SW enc w0 blk off d w)
  (hsz:n<=140737488355328) (hid:∀p,p<n->ix d[p]! =p):
  Calls prog 107 #[.slice (some ⟨blk,off,none⟩) n cap,.int .i64 n,.func (.func g) #[] cb] w fun e w'=>
   e=.returned (.tuple #[])/\Aside (∃ d',d'.size=n/\Srt.Good T ix d' 0 n/\SW enc w0 blk off d' w'):=by
 have S0:Aside (SW enc w0 blk off d w):=S
 have HC:Aside _:=C
 have HI:Aside _:=hid
 have HD:Aside (d.size=n):=hds
 have HS:Aside (d0.size=n):=hs
 have SYM:Aside _:=sB blk off cap n d0 w0 C R hs hsz n
 clear C S hid hds hs
 go_enter func107,ntmps107
 go_wp2
 go_loopg [7,8] n (fun g1 va vb wr=>∃(q a b:Nat) (dk:Array α),va=.int .i64 a/\vb=.int .i64 b/\Aside (a=20 * q)/\b<=a + 20/\a + 20<=b/\a<=n/\n - a<=g1/\Aside (dk.size=n)/\
  Aside (∀ k,k<q->Srt.Good T ix dk (20 * k) (20 * k + 20))/\Aside (∀ p,a<=p->p<n->ix dk[p]! =p)/\Aside (SW enc w0 blk off dk wr))
 case atStart=>exact⟨0,0,20,d,rfl,rfl,rfl,by omega,by omega,by omega,by omega,HD,fun k hk=>by omega,fun p _ h=>HI.out p h,S0⟩
 case round=>
  clear S0
  obtain⟨q,a,b,dk,rfl,rfl,HQ,b1,b2,b3,hg,HK,HG,HP,S1⟩:=hrel
  by_cases hlt:b<=n
  ·as_aux_lemma=>
   have hltz:(b:Int)<=(n:Int):=by omega
   go_wp2_with fail
   have hin:=lS blk off cap a b d0 dk w0 wr HC.out R (HS.out.trans HK.out.symm) S1.out (by omega) (by rw[HK.out];exact hlt) (by rw[HK.out];exact hsz) (fun p q h1 h2 h3=>(gS (a:=a) (b:=b) (fun p h1 h2=>HP.out p h1 (by omega))).2 p q h1 h2 h3)
   rw[HK.out] at hin
   refine hin.mono ?_
   rintro e' w' ⟨rfl,hq⟩
   clear S1 hin
   go_wp2
   obtain⟨d',hm,S2⟩:=hq.out
   go_roundg (n - b)
   case measure=>omega
   case rel=>
    have hba:b=a + 20:=by omega
    refine⟨q + 1,b,b + 20,d',rfl,by go_num,?_,by omega,by omega,hlt,Nat.le_refl _,hm.size.trans HK.out,fun k hk=>?_,fun p h1 h2=>?_,S2⟩
    ·show b=20 * (q + 1)
     have:=HQ.out;omega
    ·have h:=HQ.out
     by_cases c:k=q
     ·subst c
      rw[<-h,<-hba]
      exact Srt.Good.merged (gS (fun p h1 h2=>HP.out p h1 (by omega))).1 hm
     ·exact (HG.out k (by omega)).kept hm (Or.inl (by omega))
    ·rw[hm.out p (Or.inr h1)]
     exact HP.out p (by omega) h2
  ·as_aux_lemma=>
   have hltz:¬(b:Int)<=(n:Int):=by omega
   go_wp2_with fail
   have hin:=lS blk off cap a n d0 dk w0 wr HC.out R (HS.out.trans HK.out.symm) S1.out b3 (by rw[HK.out];exact Nat.le_refl _) (by rw[HK.out];exact hsz) (fun p q h1 h2 h3=>(gS (a:=a) (b:=n) (fun p h1 h2=>HP.out p h1 h2)).2 p q h1 h2 h3)
   rw[HK.out] at hin
   refine hin.mono ?_
   rintro e' w' ⟨rfl,hq⟩
   clear S1 hin
   obtain⟨d1,hm,S2⟩:=hq.out
   have HK1:Aside (d1.size=n):=hm.size.trans HK.out
   have HB:Aside (ie T ix d1 20 n):=by
    have h:=HQ.out
    refine ie.of20 (q:=q) (fun k hk=>(HG.out k hk).kept hm (Or.inl (by omega))) (by omega) (by omega) ?_
    rw[<-h]
    exact Srt.Good.merged (gS (fun p h1 h2=>HP.out p h1 h2)).1 hm
   have S3:Aside _:=S2
   clear HK HG HP HQ hq hm S2
   go_wp2
   go_loopg [6] n (fun g1 vs wr=>∃(bs:Nat) (dk:Array α),vs=.int .i64 bs/\1<=bs/\bs<=281474976710676/\n - bs<=g1/\Aside (dk.size=n)/\Aside (ie T ix dk bs n)/\Aside (SW enc w0 blk off dk wr))
   case atStart=>exact⟨20,d1,rfl,by omega,by omega,by omega,HK1,HB,S3⟩
   case round=>
    clear HK1 HB S3
    obtain⟨bs,dk,rfl,hb1,hb2,hg2,HK,HB,S1⟩:=hrel
    by_cases hlt2:bs<n
    ·have hltz2:(bs:Int)<(n:Int):=by omega
     go_wp2
     go_loopg [7,8] n (fun g3 va vb wr2=>∃(q a b:Nat) (dj:Array α),va=.int .i64 a/\vb=.int .i64 b/\Aside (a=q * (2 * bs))/\b<=a + 2 * bs/\a + 2 * bs<=b/\a<=n/\n - a<=g3/\Aside (dj.size=n)/\Aside (gB T ix dj bs n q)/\Aside (SW enc w0 blk off dj wr2))
     case atStart=>exact⟨0,0,2 * bs,dk,rfl,by go_num,(Nat.zero_mul _).symm,by omega,by omega,by omega,by omega,HK,gB.start HB.out,S1⟩
     case round=>
      clear HK HB S1
      obtain⟨q,a,b,dj,rfl,rfl,HQ,c1,c2,c3,hg3,HK,HP,S1⟩:=hrel
      by_cases hlt3:b<=n
      ·as_aux_lemma=>
       have hltz3:(b:Int)<=(n:Int):=by omega
       go_wp2_with fail
       have hba:b=a + 2 * bs:=by omega
       have hH:dZ T ix dj a (a + bs) b:=by
        have g1:=HP.out.first HQ.out (by omega)
        have g2:=HP.out.second HQ.out
        rw[Nat.min_eq_left (by omega),<-hba] at g2
        exact g1.halves g2
       have hca:=SYM.out a (a + bs) b dj wr (by omega) HK.out S1.out (by omega) (by omega) hlt3 hH
       rw[show ((a + bs:Nat):Int)=(a:Int) + (bs:Int) by omega] at hca
       refine hca.mono ?_
       rintro e' w' ⟨rfl,hq⟩
       clear S1 hca
       have HBA:Aside _:=hba
       clear hba
       go_wp2
       obtain⟨d',hm,S2⟩:=hq.out
       go_roundg (n - b)
       case measure=>omega
       case rel=>
        refine⟨q + 1,b,b + 2 * bs,d',rfl,by go_num,?_,by omega,by omega,hlt3,Nat.le_refl _,hm.size.trans HK.out,?_,S2⟩
        ·show b=(q + 1) * (2 * bs)
         rw[HBA.out,HQ.out]
         exact (Nat.succ_mul _ _).symm
        ·rw[HBA.out] at hm
         exact HP.out.step HQ.out (by omega) hm
      ·as_aux_lemma=>
       have hltz3:¬(b:Int)<=(n:Int):=by omega
       by_cases hlt4:a + bs<n
       ·have hltz4:(a:Int) + (bs:Int)<(n:Int):=by omega
        go_wp2_with fail
        have hH:dZ T ix dj a (a + bs) n:=by
         have g1:=HP.out.first HQ.out (by omega)
         have g2:=HP.out.second HQ.out
         rw[Nat.min_eq_right (by omega)] at g2
         exact g1.halves g2
        have hca:=SYM.out a (a + bs) n dj wr (by omega) HK.out S1.out (by omega) hlt4 (Nat.le_refl _) hH
        rw[show ((a + bs:Nat):Int)=(a:Int) + (bs:Int) by omega] at hca
        refine hca.mono ?_
        rintro e' w' ⟨rfl,hq⟩
        clear S1 hca
        go_wp2
        obtain⟨d',hm,S2⟩:=hq.out
        go_roundg (n - 2 * bs)
        case measure=>omega
        case rel=>exact⟨2 * bs,d',by first | go_num | (congr 1;omega),by omega,by omega,Nat.le_refl _,hm.size.trans HK.out,HP.out.finish HQ.out (by omega) hlt4 hm,S2⟩
       ·have hltz4:¬(a:Int) + (bs:Int)<(n:Int):=by omega
        go_wp2
        go_roundg (n - 2 * bs)
        case measure=>omega
        case rel=>exact⟨2 * bs,dj,by first | go_num | (congr 1;omega),by omega,by omega,Nat.le_refl _,HK,HP.out.finish_none HQ.out (by omega) c3 (by omega),S1⟩
    ·have hltz2:¬(bs:Int)<(n:Int):=by omega
     go_wp2
     go_end0
     exact⟨rfl,dk,HK.out,HB.out.all (by omega),S1.out⟩
theorem pN {enc:α->Value} {T:α->α->Prop} {ix:α->Nat} {cf:α->α->Int} {g:Nat} {cb:Array Value} (blk off cap n:Nat) (d:Array α) (w:World) (C:jQ enc T ix cf g cb blk off d.size w) (R:Row1 enc w blk off d) (hds:d.size=n)
  (hsz:n<=140737488355328) (hid:∀p,p<n->ix d[p]! =p):
  Calls prog 78 #[.slice (some ⟨blk,off,none⟩) n cap,.func (.func g) #[] cb] w fun e w'=>
   e=.returned (.tuple #[])/\Aside (∃ d',d'.size=n/\Srt.Good T ix d' 0 n/\SW enc w blk off d' w'):=by
 have H:=xA blk off cap n d d w w C R hds hds (SW.start R.hH) hsz hid
 have HH:=aS H
 clear H C R hid hds
 go_enter func78,ntmps78
 go_wp2_with fail
 refine HH.out.mono ?_
 rintro e' w' ⟨rfl,hq⟩
 go_wp2
 go_end0
 exact⟨rfl,hq⟩
open Go.Proofs.YtfnekbfcndkjeaaGreatDoor.Srt Go.Proofs.YtfnekbfcndkjeaaGreatDoor.Vk
def gC (w:World) (v:Value) (bs:List Bd):Prop:=
 ((v=.slice none 0 0\/∃a cap,v=.slice (some a) 0 cap)/\bs=[])\/∃lb lo cap,v=.slice (some ⟨lb,lo,none⟩) bs.length cap/\(0<bs.length->lb<w.heap.size)/\
  ∀j,j<bs.length->w.cell? ⟨lb,lo + j * 2,none⟩=some (.int .i64 bs[j]!.1)/\w.cell? ⟨lb,lo + j * 2 + 1,none⟩=some (.int .u64 bs[j]!.2)
theorem gC.below {w w':World} {v:Value} {bs:List Bd} (h:gC w v bs) (hb:Below w.heap.size w w'):gC w' v bs:=by
 rcases h with h | ⟨lb,lo,cap,h1,h2,h3⟩
 ·exact .inl h
 ·exact .inr ⟨lb,lo,cap,h1,fun h=>Nat.lt_of_lt_of_le (h2 h) hb.size,fun j hj=>⟨(hb.cell (p:=⟨lb,_,none⟩) (h2 (by omega))).trans (h3 j hj).1,(hb.cell (p:=⟨lb,_,none⟩) (h2 (by omega))).trans (h3 j hj).2⟩⟩
def xB (w:World) (w':World) (r:List Nat) (v:Value):Prop:=
 ∃b,v=.slice (some ⟨b,0,none⟩) r.length r.length/\w.heap.size<=b/\b<w'.heap.size/\∀p,p<r.length->w'.cell? ⟨b,p,none⟩=some (.int .i64 (r[p]! :Int))/\w'.frozen? ⟨b,p,none⟩=false
def eN (n:Nat):Array Value:=madeCells #[.int .i64 0] n
theorem lT (n j:Nat) (h:j<n):(eN n)[j]?=some (.int .i64 0):=by
 unfold eN madeCells
 rw[Array.getElem?_map,Array.getElem?_range,if_pos h]
 simp[Nat.mod_one]
theorem Tryz.infoIntV:(prog.info? 3).map (fun i=>(i.zero,i.size,i.bytes))=some (some (.int .i64 0),1,8):=by kernel_rfl
theorem jC (n:Nat) (w:World) (hn:n<=17592186044416):(Instr.makeSlice 41 (.int .i64 (n:Int)) (.int .i64 (n:Int))).run prog w=.ok (.slice (some ⟨w.heap.size,0,none⟩) n n) (w.alloc (.cells (eN n) 3)):=by
 obtain⟨i0,hi,hz0,hz1,hz2⟩:=info_parts Tryz.infoIntV
 have:=run_make (P:=prog) w 41 3 i0 (.int .i64 0) underlying41 hi hz0 .i64 .i64 n n (by omega) (by omega) (by rw[hz2];omega) (by omega)
 rw[hz1] at this
 simpa [eN,Value.cells] using this
structure iG (w:World) (v:Value) (n k:Nat) (wr:World):Prop where
 size:wr.heap.size=w.heap.size + 2
 below:Below w.heap.size w wr
 box:wr.cell? ⟨w.heap.size,0,none⟩=some v
 row:∀j,j<n->wr.cell? ⟨w.heap.size + 1,j,none⟩=some (.int .i64 (if j<k then (j:Int) else 0))/\wr.frozen? ⟨w.heap.size + 1,j,none⟩=false
theorem xC (w:World) (a b:Obj):((w.alloc a).alloc b).heap[w.heap.size]?=some a/\((w.alloc a).alloc b).heap[w.heap.size + 1]?=some b:=by
 constructor
 ·show ((w.heap.push a).push b)[w.heap.size]?=some a
  simp[Array.getElem?_push]
 ·show ((w.heap.push a).push b)[w.heap.size + 1]?=some b
  rw[Array.getElem?_push,Array.size_push,if_pos rfl]
theorem iH {w:World} {b:Nat} {cs:Array Value} {t:TypeId} {fz:Nat × Nat} (h:w.heap[b]?=some (.cells cs t fz)) (j:Nat):w.cell? ⟨b,j,none⟩=cs[j]? :=by
 simp[World.cell?,h]
theorem jr {w:World} {b:Nat} {cs:Array Value} {t:TypeId} (h:w.heap[b]?=some (.cells cs t (0,0))) (j:Nat):w.frozen? ⟨b,j,none⟩=false:=by
 simp[World.frozen?,h]
theorem iG.start (w:World) (v:Value) (n:Nat):iG w v n 0 ((w.alloc (.cells #[v] 51)).alloc (.cells (eN n) 3)):=by
 obtain⟨h1,h2⟩:=xC w (.cells #[v] 51) (.cells (eN n) 3)
 refine⟨by simp,((Below.refl _ w).alloc (Nat.le_refl _) _).alloc (by simp) _,by rw[iH h1];rfl,fun j hj=>⟨?_,jr h2 j⟩⟩
 rw[iH h2,if_neg (by omega)]
 exact lT n j hj
theorem iG.step {w wr:World} {v:Value} {n k:Nat} (h:iG w v n k wr) (hk:k<n):iG w v n (k + 1) (wr.setCell ⟨w.heap.size + 1,k,none⟩ (.int .i64 (k:Int))):=by
 refine⟨by simpa [World.setCell] using h.size,h.below.setCell (p:=⟨w.heap.size + 1,k,none⟩) (by simp) _,?_,fun j hj=>⟨?_,by rw[World.frozen?_setCell];exact (h.row j hj).2⟩⟩
 ·rw[World.cell?_setCell_other _ _ _ _ (by intro e;simp only[Addr.mk.injEq] at e;omega)];exact h.box
 ·by_cases c:j=k
  ·subst c
   rw[World.cell?_setCell_same _ _ _ (h.row j hj).1,if_pos (by omega)]
  ·rw[World.cell?_setCell_other _ _ _ _ (by intro e;simp only[Addr.mk.injEq] at e;omega),(h.row j hj).1]
   by_cases c2:j<k
   ·rw[if_pos c2,if_pos (by omega)]
   ·rw[if_neg c2,if_neg (by omega)]
open Go.Proofs.YtfnekbfcndkjeaaGreatDoor.Srt Go.Proofs.YtfnekbfcndkjeaaGreatDoor.Vk
def sC {m:Nat} (x:Fin (m + 1)):Value:=.int .i64 ((x.val:Nat):Int)
def places (m:Nat):Array (Fin (m + 1)):=Array.ofFn (fun x=>x)
theorem gT (m:Nat):(places m).size=m + 1:=Array.size_ofFn
theorem nr (m p:Nat) (h:p<m + 1):((places m)[p]!).val=p:=by
 rw[getElem!_pos _ p (by rw[gT];exact h)]
 simp[places]
def AE (bs:List Bd) {m:Nat} (x y:Fin (m + 1)):Int:=sy bs[x.val]! bs[y.val]!
theorem xD (bs:List Bd) {m:Nat} (x y:Fin (m + 1)) (h:x.val<y.val):AE bs y x<0↔Vk.ahead bs y.val x.val:=
 wD bs h _ (by unfold AE sy yS jb;rfl)
theorem mm {α:Type} [Inhabited α] (enc:α->Value) (w:World) (blk off m:Nat) (dk:Array α) (os:Array Obj) (a:Addr) (h1:a.block≠blk) (h2:a.block<w.heap.size):
  (sortWorld enc w blk off m dk os).cell? a=w.cell? a:=by
 unfold sortWorld
 rw[cell?_grow _ _ _ (by rw[size_putRow];exact h2),cell?_putRow_other _ _ _ _ _ _ (Or.inl h1)]
 rfl
theorem mn {α:Type} [Inhabited α] (enc:α->Value) (w:World) (blk off m:Nat) (dk:Array α) (os:Array Obj) (B:Nat) (hB:B<=w.heap.size) (hb:B<=blk):Below B w (sortWorld enc w blk off m dk os):=by
 refine⟨rfl,rfl,rfl,?_,fun k hk=>?_⟩
 ·unfold sortWorld;rw[size_grow,size_putRow];exact Nat.le_add_right _ _
 ·unfold sortWorld
  rw[heap_grow_old _ _ (by rw[size_putRow];show k<w.heap.size;omega)]
  show (w.heap.modify blk _)[k]?=_
  rw[Array.getElem?_modify,if_neg (by omega)]
theorem sD (bs:List Bd) (m B lb lo cap blk:Nat) (wS:World) (hm:bs.length=m + 1) (hBne:B≠blk) (hlne:lb≠blk) (hBl:B<wS.heap.size) (hll:lb<wS.heap.size)
  (hB:wS.cell? ⟨B,0,none⟩=some (.slice (some ⟨lb,lo,none⟩) bs.length cap))
  (hl:∀j,j<bs.length->wS.cell? ⟨lb,lo + j * 2,none⟩=some (.int .i64 bs[j]!.1)/\wS.cell? ⟨lb,lo + j * 2 + 1,none⟩=some (.int .u64 bs[j]!.2)):
  jQ (sC (m:=m)) (fun x y=>Vk.ahead bs x.val y.val) (fun x=>x.val) (AE bs) 79 #[.pointer (some ⟨B,0,none⟩)] blk 0 (places m).size wS where
 eg:=enters_of func79 (by kernel_rfl) rfl
 hc:=by
  intro q os dk _ x y
  have hx:x.val<bs.length:=by have:=x.isLt;omega
  have hy:y.val<bs.length:=by have:=y.isLt;omega
  have k:=fun (a:Addr) (h1:a.block≠blk) (h2:a.block<wS.heap.size)=>mm (sC (m:=m)) wS blk 0 q dk os a h1 h2
  exact zm x.val y.val B lb lo bs.length cap _ _ _ _ _ hx hy ((k _ hBne hBl).trans hB) ((k _ hlne hll).trans (hl _ hx).1) ((k _ hlne hll).trans (hl _ hx).2) ((k _ hlne hll).trans (hl _ hy).1) ((k _ hlne hll).trans (hl _ hy).2)
 ord:=⟨fun x y z h1 h2=>jc bs h1 h2,fun x y h=>oF bs (Nat.ne_of_lt h)⟩
 yes:=fun x y h=>xD bs x y h
def fu (bs:List Bd) (w:World) (e:Ending) (w':World):Prop:=∃v,e=.returned v/\xB w w' (rankOf bs) v/\Below w.heap.size w w'
theorem uM (bs:List Bd) (m lb lo cap:Nat) (w:World) (hm:bs.length=m + 1) (hn:bs.length<=17592186044416) (hll:lb<w.heap.size)
  (hl:∀j,j<bs.length->w.cell? ⟨lb,lo + j * 2,none⟩=some (.int .i64 bs[j]!.1)/\w.cell? ⟨lb,lo + j * 2 + 1,none⟩=some (.int .u64 bs[j]!.2)):
  Calls prog 47 #[.slice (some ⟨lb,lo,none⟩) bs.length cap] w (fu bs w):=by
 obtain⟨n,hnn⟩:∃n,n=bs.length:=⟨_,rfl⟩
 have HN:Aside (n=bs.length):=hnn
 have HM:Aside (bs.length=m + 1):=hm
 have HL:Aside _:=hl
 rw[<-hnn] at hn ⊢
 have hn1:1<=n:=by omega
 clear hl hm hnn
 have hmk:=fun W=>jC n W hn
 go_enter func47,ntmps47
 go_wp2
 clear hmk
 go_loopg [10] n (fun g vi wr=>∃k:Nat,vi=.int .i64 k/\k<=n/\n - k<=g/\Aside (iG w (.slice (some ⟨lb,lo,none⟩) n cap) n k wr))
 case atStart=>exact⟨0,rfl,by omega,by omega,iG.start _ _ _⟩
 case round=>
  obtain⟨k,rfl,hk,hg,HF⟩:=hrel
  by_cases hlt:k<n
  ·have hltz:(k:Int)<(n:Int):=by omega
   have c:=(HF.out.row k hlt).1
   have f:=(HF.out.row k hlt).2
   obtain⟨old,hold⟩:∃old,old=(Value.int .i64 (if k<k then (k:Int) else 0)):=⟨_,rfl⟩
   rw[<-hold] at c
   clear hold
   have S:Aside _:=HF.out.step hlt
   clear HF
   go_wp2
   go_roundg (n - (k + 1))
   case measure=>omega
   case rel=>exact⟨k + 1,by go_num,by omega,by omega,S⟩
  ·have hltz:¬(k:Int)<(n:Int):=by omega
   obtain rfl:k=n:=by omega
   go_wp2_with fail
   have F:=HF.out
   have hs1:(places m).size=k:=by rw[gT,HN.out,HM.out]
   have hHo:Holds (sC (m:=m)) wr (w.heap.size + 1) 0 (places m):=fun j hj=>by
    have hj':j<k:=by rw[<-hs1];exact hj
    rw[Nat.zero_add]
    refine⟨?_,(F.row j hj').2⟩
    rw[(F.row j hj').1,if_pos hj',sC,nr m j (by rw[<-gT];exact hj)]
   have hR:Row1 (sC (m:=m)) wr (w.heap.size + 1) 0 (places m):=⟨fun _=>rfl,hHo,by rw[F.size];omega⟩
   have hC:=sD bs m w.heap.size lb lo cap (w.heap.size + 1) wr HM.out (by omega) (by omega) (by rw[F.size];omega) (by rw[F.size];omega) (by rw[<-HN.out];exact F.box)
    (fun j hj=>⟨(F.below.cell (p:=⟨lb,_,none⟩) hll).trans (HL.out j hj).1,(F.below.cell (p:=⟨lb,_,none⟩) hll).trans (HL.out j hj).2⟩)
   refine (pN (w.heap.size + 1) 0 k k (places m) wr hC hR hs1 (by omega) (fun p hp=>nr m p (by rw[<-gT,hs1];exact hp))).mono ?_
   rintro e w' ⟨rfl,hq⟩
   have HH:Aside _:=hHo
   have HS1:Aside _:=hs1
   clear hC hR hHo hs1
   have HW:Aside (w.heap.size + 1<wr.heap.size):=by rw[Aside,F.size];omega
   have HB:Aside (Below w.heap.size w wr):=F.below
   clear F HF
   go_wp2
   go_ret
   obtain⟨d',hd1,hd2,n',os',rfl⟩:=hq.out
   have hr:(List.range bs.length).map (fun p=>(d'[p]!).val)=rankOf bs:=nZ bs _
    (fun p q h1 h2=>hd2.srt p q (Nat.zero_le _) h1 (by rw[HN.out];exact h2))
    (fun p hp=>by have:=(d'[p]!).isLt;rw[HM.out];exact this)
   refine⟨.slice (some ⟨w.heap.size + 1,0,none⟩) k k,rfl,⟨w.heap.size + 1,?_,by omega,?_,fun p hp=>?_⟩,HB.out.trans (mn _ _ _ _ _ _ _ _ (by have:=HW.out;omega) (by omega))⟩
   ·rw[aT,HN.out]
   ·exact lt_sortWorld _ _ _ _ _ _ _ HW.out
   ·have hp':p<k:=by rw[aT,<-HN.out] at hp;exact hp
    have hh:=holds_sortWorld (sC (m:=m)) wr (w.heap.size + 1) 0 n' (places m) d' os' HW.out HH.out (hd1.trans HS1.out.symm) p (by rw[hd1];exact hp')
    rw[Nat.zero_add] at hh
    refine⟨?_,hh.2⟩
    rw[hh.1,<-hr,sC]
    rw[getElem!_pos ((List.range bs.length).map _) p (by rw[List.length_map,List.length_range,<-HN.out];exact hp')]
    simp
theorem mo (b:Option Addr) (cap:Nat) (fv:Value) (w:World):
  Calls prog 78 #[.slice b 0 cap,fv] w fun e w'=>e=.returned (.tuple #[])/\w=w':=by
 have hins:∀w,Calls prog 124 #[.slice b 0 cap,.int .i64 0,.int .i64 0,fv] w fun e w'=>e=.returned (.tuple #[])/\w=w':=fun w=>by
  go_enter func124,ntmps124
  go_wp2
  refine wp_loop_rounds 1 ?_
  rw[rounds_succ]
  go_wp2
  go_end0
  exact⟨rfl,rfl⟩
 have hst:∀w,Calls prog 107 #[.slice b 0 cap,.int .i64 0,fv] w fun e w'=>e=.returned (.tuple #[])/\w=w':=fun w=>by
  go_enter func107,ntmps107
  go_wp2
  refine wp_loop_rounds 1 ?_
  rw[rounds_succ]
  go_wp2_with (go_at_call 124;refine (hins _).mono ?_;rintro e w' ⟨rfl,rfl⟩)
  refine wp_loop_rounds 1 ?_
  rw[rounds_succ]
  go_wp2
  go_end0
  exact⟨rfl,rfl⟩
 clear hins
 go_enter func78,ntmps78
 go_wp2_with (go_at_call 107;refine (hst _).mono ?_;rintro e w' ⟨rfl,rfl⟩)
 go_end0
 exact⟨rfl,rfl⟩
theorem iu (b:Option Addr) (cap:Nat) (w:World):
  Calls prog 47 #[.slice b 0 cap] w (fu [] w):=by
 have hmk:∀W:World,(Instr.makeSlice 41 (.int .i64 0) (.int .i64 0)).run prog W=.ok (.slice (some ⟨W.heap.size,0,none⟩) 0 0) (W.alloc (.cells (eN 0) 3)):=fun W=>jC 0 W (by omega)
 go_enter func47,ntmps47
 go_wp2
 clear hmk
 refine wp_loop_rounds 1 ?_
 rw[rounds_succ]
 go_wp2_with (go_at_call 78;refine (mo _ _ _ _).mono ?_;rintro e w' ⟨rfl,rfl⟩)
 go_ret
 refine⟨.slice (some ⟨w.heap.size + 1,0,none⟩) 0 0,rfl,⟨w.heap.size + 1,rfl,by omega,by simp,fun p hp=>by simp[aT] at hp⟩,((Below.refl _ w).alloc (Nat.le_refl _) _).alloc (by simp) _⟩
theorem qH (bs:List Bd) (v:Value) (w:World) (hv:gC w v bs) (hn:bs.length<=17592186044416):Calls prog 47 #[v] w (fu bs w):=by
 rcases hv with ⟨rfl | ⟨a,cap,rfl⟩,rfl⟩ | ⟨lb,lo,cap,rfl,hll,hl⟩
 ·exact iu _ _ _
 ·exact iu _ _ _
 ·cases bs with
  | nil=>exact iu _ _ _
  | cons x l=>exact uM (x :: l) l.length lb lo cap w rfl hn (hll (by simp)) hl
