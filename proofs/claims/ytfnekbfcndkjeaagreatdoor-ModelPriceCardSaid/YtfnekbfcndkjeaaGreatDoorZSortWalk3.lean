/- The library's stable sort of ints by a comparison: insertionSort. -/
import Derived.Test.YtfnekbfcndkjeaaGreatDoorZCmp
import Derived.Test.YtfnekbfcndkjeaaGreatDoorZSortBlocks
set_option maxHeartbeats 8000000
set_option maxRecDepth 100000
set_option linter.all false
namespace Go.Proofs.YtfnekbfcndkjeaaGreatDoor
open Go.Proofs.Tryz Go.RowKit Go.Sort
open Go.Proofs.YtfnekbfcndkjeaaGreatDoor.Srt
variable {α : Type} [Inhabited α]
theorem qG (enc:α->Value) (cv:Value) (blk off cap a b n:Nat) (d0 d:Array α) (w0 w:World) (R:Row1 enc w0 blk off d0) (hs:d0.size=d.size) (S:SW enc w0 blk off d w)
  (hab:a + n<=b) (hb:b + n<=d.size) (hsz:d.size<=140737488355328):
  Calls prog 133 #[.slice (some ⟨blk,off,none⟩) d.size cap,.int .i64 a,.int .i64 b,.int .i64 n,cv] w fun e w'=>
   e=.returned (.tuple #[])/\Aside (∃ d',ei d d' a b n/\SW enc w0 blk off d' w'):=by
 have hcl0:=R.hO.cells
 simp only[Value.cells] at hcl0
 have hst:=R.hO.store prog
 have S0:Aside (SW enc w0 blk off d w):=S
 clear S
 go_enter func133,ntmps133
 go_wp2
 go_loopg [10] n (fun g vi wr=>∃(i:Nat) (dk:Array α),vi=.int .i64 i/\i<=n/\n - i<=g/\Aside (ei d dk a b i)/\Aside (SW enc w0 blk off dk wr))
 case atStart=>exact⟨0,d,rfl,Nat.zero_le _,Nat.le_refl _,ei.start d a b,S0⟩
 case round=>
  clear S0
  obtain⟨i,dk,rfl,hin,hg,HS,S1⟩:=hrel
  have hsk:dk.size=d.size:=HS.out.1
  by_cases hlt:i<n
  ·have hltz:(i:Int)<(n:Int):=by omega
   obtain⟨iN,hiN⟩:∃q,q=a + i:=⟨_,rfl⟩
   obtain⟨jN,hjN⟩:∃q,q=b + i:=⟨_,rfl⟩
   obtain⟨x,hx⟩:∃x,x=dk[a + i]! :=⟨_,rfl⟩
   obtain⟨y,hy⟩:∃x,x=dk[b + i]! :=⟨_,rfl⟩
   have S3:Aside (SW enc w0 blk off (swp dk (a + i) (b + i)) ((wr.setCell ⟨blk,off + iN,none⟩ (enc y)).setCell ⟨blk,off + jN,none⟩ (enc x)).drew):=by rw[hiN,hjN,hx,hy];exact S1.out.swapped R _ _ (by omega) (by omega)
   have ca:=S1.out.c1 R (by omega) (a + i) (by omega)
   have cb:=S1.out.c1 R (by omega) (b + i) (by omega)
   have fa:=S1.out.f1 R (by omega) (a + i) (by omega)
   have fb:=S1.out.f1 R (by omega) (b + i) (by omega)
   obtain⟨u,cc⟩:=S1.out.c2 R (by omega) (a + i) (b + i) (by omega) (by omega) (enc y)
   have pa:(0:Int)<=(a:Int) + (i:Int):=by omega
   have ba:(a:Int) + (i:Int)<(d.size:Int):=by omega
   have ra:IntKind.i64.wrap ((a:Int) + (i:Int))=(a:Int) + (i:Int):=by rw[IntKind.wrap_i64];omega
   have pb:(0:Int)<=(b:Int) + (i:Int):=by omega
   have bb:(b:Int) + (i:Int)<(d.size:Int):=by omega
   have rb:IntKind.i64.wrap ((b:Int) + (i:Int))=(b:Int) + (i:Int):=by rw[IntKind.wrap_i64];omega
   have ea:((a:Int) + (i:Int)).toNat=iN:=by omega
   have eb:((b:Int) + (i:Int)).toNat=jN:=by omega
   rw[<-hiN,<-hjN] at cc
   rw[<-hx,<-hiN] at ca
   rw[<-hy,<-hjN] at cb
   rw[<-hiN] at fa
   rw[<-hjN] at fb
   clear S1 hx hy hiN hjN hsk
   go_wp2_with fail
   go_region
   clear ca cb cc fa fb ea eb ra rb
   generalize ((wr.setCell ⟨blk,off + iN,none⟩ (enc y)).setCell ⟨blk,off + jN,none⟩ (enc x)).drew=w3 at S3 ⊢
   go_wp2
   go_roundg (n - (i + 1))
   case measure=>omega
   case rel=>exact⟨i + 1,_,by go_num,by omega,by omega,HS.out.step (by omega) (by omega),S3⟩
  ·have hltz:¬(i:Int)<(n:Int):=by omega
   obtain rfl:i=n:=by omega
   clear hsk
   go_wp2
   go_end0
   exact⟨rfl,dk,HS.out,S1.out⟩
theorem jq (enc:α->Value) (cv:Value) (blk off cap a b n:Nat) (d0 d:Array α) (w0 w:World) (ai bi ni:Int) (ha:ai=a) (hb':bi=b) (hn:ni=n) (R:Row1 enc w0 blk off d0) (hs:d0.size=d.size) (S:SW enc w0 blk off d w)
  (hab:a + n<=b) (hb:b + n<=d.size) (hsz:d.size<=140737488355328) (dn:Nat) (hd:dn=d.size):
  Calls prog 133 #[.slice (some ⟨blk,off,none⟩) dn cap,.int .i64 ai,.int .i64 bi,.int .i64 ni,cv] w fun e w'=>
   e=.returned (.tuple #[])/\Aside (∃ d',ei d d' a b n/\SW enc w0 blk off d' w'):=by
 subst ha hb' hn hd
 exact qG enc cv blk off cap a b n d0 d w0 w R hs S hab hb hsz
open Go.Proofs.YtfnekbfcndkjeaaGreatDoor.Srt
variable {α : Type} [Inhabited α]
theorem xz (enc:α->Value) (cv:Value) (blk off cap a m b:Nat) (d0 d:Array α) (w0 w:World) (R:Row1 enc w0 blk off d0) (hs:d0.size=d.size) (S:SW enc w0 blk off d w)
  (ham:a<m) (hmb:m<b) (hb:b<=d.size) (hsz:d.size<=140737488355328):
  Calls prog 130 #[.slice (some ⟨blk,off,none⟩) d.size cap,.int .i64 a,.int .i64 m,.int .i64 b,cv] w fun e w'=>
   e=.returned (.tuple #[])/\Aside (∃ d',gJ d d' a m b/\SW enc w0 blk off d' w'):=by
 have S0:Aside (SW enc w0 blk off d w):=S
 clear S
 have hAM:Aside (∀ i:Nat,i<=m->((m:Int) - (i:Int))=((m - i:Nat):Int)):=fun i h=>by omega
 go_enter func130,ntmps130
 go_wp2
 go_loopg [10,11] (m - a + (b - m)) (fun g vi vj wr=>∃(i j:Nat) (dk:Array α),vi=.int .i64 i/\vj=.int .i64 j/\1<=i/\1<=j/\i<=m - a/\j<=b - m/\i + j<=g/\
  Aside (dk.size=d.size)/\Aside (∀ d2,gJ dk d2 (m - i) m (m + j)->gJ d d2 a m b)/\Aside (SW enc w0 blk off dk wr))
 case atStart=>
  refine⟨m - a,b - m,d,by first | go_num | (congr 1;omega),by first | go_num | (congr 1;omega),by omega,by omega,Nat.le_refl _,Nat.le_refl _,Nat.le_refl _,rfl,fun d2 h=>?_,S0⟩
  rw[show m - (m - a)=a by omega,show m + (b - m)=b by omega] at h
  exact h
 case round=>
  clear S0
  obtain⟨i,j,dk,rfl,rfl,hi1,hj1,hia,hjb,hg,HZ,HC,S1⟩:=hrel
  by_cases hne:i=j
  ·subst hne
   have hb1:((i:Int)==(i:Int))=true:=by simp
   go_wp2_with fail
   refine (jq enc _ blk off cap (m - i) m i d0 dk w0 _ _ _ _ (by omega) rfl rfl R (hs.trans HZ.out.symm) S1.out (by omega) (by have:=HZ.out;omega) (by have:=HZ.out;omega) _ HZ.out.symm).mono ?_
   rintro e w' ⟨rfl,hq⟩
   go_wp2
   go_end0
   refine⟨rfl,?_⟩
   obtain⟨d',h1,h2⟩:=hq.out
   exact⟨d',HC.out _ (gJ.both h1 (by omega)),h2⟩
  ·have hb1:((i:Int)==(j:Int))=false:=by rw[beq_eq_false_iff_ne];omega
   have hb2:((i:Int) !=(j:Int))=true:=by rw[bne_iff_ne];omega
   by_cases hgt:j<i
   ·have hgtz:(j:Int)<(i:Int):=by omega
    go_wp2_with fail
    refine (jq enc _ blk off cap (m - i) m j d0 dk w0 _ _ _ _ (by omega) rfl rfl R (hs.trans HZ.out.symm) S1.out (by omega) (by have:=HZ.out;omega) (by have:=HZ.out;omega) _ HZ.out.symm).mono ?_
    rintro e w' ⟨rfl,hq⟩
    clear S1
    go_wp2
    obtain⟨d',h1,h2⟩:=hq.out
    go_roundg (i - j + j)
    case measure=>omega
    case rel=>exact⟨i - j,j,d',by first | go_num | (congr 1;omega),rfl,by omega,hj1,by omega,hjb,by omega,h1.1.trans HZ.out,fun d2 hd2=>HC.out _ (gJ.left h1 hgt (by omega) hd2),h2⟩
   ·have hgtz:¬(j:Int)<(i:Int):=by omega
    go_wp2_with fail
    refine (jq enc _ blk off cap (m - i) (m + j - i) i d0 dk w0 _ _ _ _ (by omega) (by omega) rfl R (hs.trans HZ.out.symm) S1.out (by omega) (by have:=HZ.out;omega) (by have:=HZ.out;omega) _ HZ.out.symm).mono ?_
    rintro e w' ⟨rfl,hq⟩
    clear S1
    go_wp2
    obtain⟨d',h1,h2⟩:=hq.out
    go_roundg (i + (j - i))
    case measure=>omega
    case rel=>exact⟨i,j - i,d',rfl,by first | go_num | (congr 1;omega),hi1,by omega,hia,by omega,by omega,h1.1.trans HZ.out,fun d2 hd2=>HC.out _ (gJ.right h1 (by omega) (by omega) hd2),h2⟩
open Go.Proofs.YtfnekbfcndkjeaaGreatDoor.Srt
variable {α : Type} [Inhabited α]
theorem pL:prog.follows .mixedOrders=true:=by kernel_rfl
structure jQ (enc:α->Value) (T:α->α->Prop) (ix:α->Nat) (cf:α->α->Int) (g:Nat) (cb:Array Value) (blk off size:Nat) (w0:World):Prop where
 eg:∀args w,(callFunc g args).run prog w=.ok (.enter g args) w
 hc:CmpLays1 prog g cb enc cf blk off size w0
 ord:Bq T ix
 yes:∀x y,ix x<ix y->(cf y x<0↔T y x)
theorem jQ.no {enc:α->Value} {T:α->α->Prop} {ix:α->Nat} {cf:α->α->Int} {g:Nat} {cb:Array Value} {blk off size:Nat} {w0:World} (C:jQ enc T ix cf g cb blk off size w0) (x y:α) (h:ix x<ix y) (hn:¬cf y x<0):T x y:=by
 rcases C.ord.tot x y h with h1 | h1
 ·exact h1
 ·exact absurd ((C.yes x y h).2 h1) hn
theorem lS {enc:α->Value} {T:α->α->Prop} {ix:α->Nat} {cf:α->α->Int} {g:Nat} {cb:Array Value} (blk off cap a b:Nat) (d0 d:Array α) (w0 w:World) (C:jQ enc T ix cf g cb blk off d0.size w0) (R:Row1 enc w0 blk off d0) (hs:d0.size=d.size) (S:SW enc w0 blk off d w)
  (hab:a<=b) (hb:b<=d.size) (hsz:d.size<=140737488355328) (hinc:∀p q,a<=p->p<q->q<b->ix d[p]!<ix d[q]!):
  Calls prog 124 #[.slice (some ⟨blk,off,none⟩) d.size cap,.int .i64 a,.int .i64 b,.func (.func g) #[] cb] w fun e w'=>
   e=.returned (.tuple #[])/\Aside (∃ d',ct T d d' a b/\SW enc w0 blk off d' w'):=by
 have mixed:=pL
 have hcl0:=R.hO.cells
 simp only[Value.cells] at hcl0
 have hst:=R.hO.store prog
 have eg:=C.eg
 have S0:Aside (SW enc w0 blk off d w):=S
 clear S
 have HT:Aside _:=C.ord.trans
 have HC:Aside _:=C
 have HI:Aside _:=hinc
 clear C hinc
 go_enter func124,ntmps124
 go_wp2
 go_loopg [8] (b - a + 1) (fun g1 vi wr=>∃(i:Nat) (dk:Array α),vi=.int .i64 i/\a<i/\(i<=b\/i=a + 1)/\b + 1 - i<=g1/\Aside (ct T d dk a i)/\Aside (SW enc w0 blk off dk wr))
 case atStart=>exact⟨a + 1,d,by go_num,by omega,by omega,by omega,ct.refl (fun p q h1 h2 h3=>by omega),S0⟩
 case round=>
  clear S0
  obtain⟨i,dk,rfl,hai,hib,hg1,HM,S1⟩:=hrel
  by_cases hlt:i<b
  ·have hltz:(i:Int)<(b:Int):=by omega
   have hsk:Aside (dk.size=d.size):=HM.out.size
   -- what is put in is later than all that is sorted
   have HX:Aside (∀ p,a<=p->p<i->ix dk[p]!<ix dk[i]!):=fun p h1 h2=>by
    obtain⟨q,q1,q2,q3⟩:=HM.out.src p h1 h2
    rw[q3,HM.out.out i (Or.inr (Nat.le_refl _))]
    exact HI.out q i q1 q2 hlt
   go_wp2
   go_loopg [9] i (fun g2 vj wr2=>∃(j:Nat) (dj:Array α),vj=.int .i64 j/\a<=j/\j<=i/\j<=g2/\Aside (gJ dk dj j i (i + 1))/\Aside (∀ p,j<=p->p<i->T dk[i]! dk[p]!)/\Aside (SW enc w0 blk off dj wr2))
   case atStart=>exact⟨i,dk,rfl,by omega,Nat.le_refl _,Nat.le_refl _,gJ.self_right _ _ _,fun p h1 h2=>by omega,S1⟩
   case round=>
    clear S1
    obtain⟨j,dj,rfl,haj,hji,hg2,HR,HU,SJ⟩:=hrel
    have hsj:Aside (dj.size=d.size):=HR.out.1.trans hsk.out
    by_cases hja:a<j
    ·have hjaz:(a:Int)<(j:Int):=by omega
     obtain⟨jp,hjp⟩:∃q,q + 1=j:=⟨j - 1,by omega⟩
     have zjp:(j:Int)=(jp:Int) + 1:=by omega
     have hjad:decide ((jp:Int) + 1 > (a:Int))=true:=decide_eq_true (by omega)
     have hjaz':(a:Int)<(jp:Int) + 1:=by omega
     obtain⟨x,hx⟩:∃x,x=dj[j]! :=⟨_,rfl⟩
     obtain⟨y,hy⟩:∃x,x=dj[j - 1]! :=⟨_,rfl⟩
     have HX1:Aside (x=dk[i]!):=by rw[Aside,hx,HR.out.lo (Nat.le_refl _) (by omega)];exact ir dk (by omega)
     have HY1:Aside (y=dk[j - 1]!):=by rw[Aside,hy,HR.out.out hji (by omega) (Or.inl (by omega))]
     have HXY:Aside (ix y<ix x):=by rw[Aside,HX1.out,HY1.out];exact HX.out _ (by omega) (by omega)
     obtain⟨iN,hiN⟩:∃q,q=j:=⟨_,rfl⟩
     obtain⟨jN,hjN⟩:∃q,q=j - 1:=⟨_,rfl⟩
     have ea:((jp:Int) + 1).toNat=iN:=by omega
     have pa:(0:Int)<=(jp:Int) + 1:=by omega
     have ba:(jp:Int) + 1<(d.size:Int):=by omega
     have ra:IntKind.i64.wrap ((jp:Int) + 1)=(jp:Int) + 1:=by rw[IntKind.wrap_i64];omega
     have ec:((jp:Int)).toNat=jN:=by omega
     have pc:(0:Int)<=(jp:Int):=by omega
     have bc:(jp:Int)<(d.size:Int):=by omega
     have rc:IntKind.i64.wrap ((jp:Int))=(jp:Int):=by rw[IntKind.wrap_i64];omega
     have la:=SJ.out.cl R (hsj.out.trans hs.symm) j (by rw[hsj.out];omega)
     have lb:=SJ.out.cl R (hsj.out.trans hs.symm) (j - 1) (by rw[hsj.out];omega)
     rw[<-hx,<-hiN] at la
     rw[<-hy,<-hjN] at lb
     have hc:=SJ.out.cmp HC.out.hc (hsj.out.trans hs.symm) x y
     by_cases hv:cf x y<0
     ·have hd:decide (cf x y<0)=true:=decide_eq_true hv
      have HV:Aside (cf x y<0):=hv
      have S3:∀w2,Aside (SW enc w0 blk off dj w2)->Aside (SW enc w0 blk off (swp dj j (j - 1)) ((w2.setCell ⟨blk,off + iN,none⟩ (enc y)).setCell ⟨blk,off + jN,none⟩ (enc x)).drew):=fun w2 S2=>by rw[hiN,hjN,hx,hy];exact S2.out.swapped R j (j - 1) (by rw[hsj.out];omega) (by rw[hsj.out];omega)
      have F:∀w2,Aside (SW enc w0 blk off dj w2)->w2.cell? ⟨blk,off + iN,none⟩=some (enc x)/\w2.cell? ⟨blk,off + jN,none⟩=some (enc y)/\w2.frozen? ⟨blk,off + iN,none⟩=false/\w2.frozen? ⟨blk,off + jN,none⟩=false/\∃u,(w2.setCell ⟨blk,off + iN,none⟩ (enc y)).cell? ⟨blk,off + jN,none⟩=some u:=fun w2 S2=>by
       rw[hiN,hjN,hx,hy]
       exact⟨S2.out.c1 R (hsj.out.trans hs.symm) j (by rw[hsj.out];omega),S2.out.c1 R (hsj.out.trans hs.symm) (j - 1) (by rw[hsj.out];omega),S2.out.f1 R (hsj.out.trans hs.symm) j (by rw[hsj.out];omega),S2.out.f1 R (hsj.out.trans hs.symm) (j - 1) (by rw[hsj.out];omega),S2.out.c2 R (hsj.out.trans hs.symm) j (j - 1) (by rw[hsj.out];omega) (by rw[hsj.out];omega) _⟩
      have S3':Aside _:=S3
      have F':Aside _:=F
      clear S3 F hx hy hiN hjN
      go_wp2_with fail
      go_quiet_grown (first | (go_at_fn g;refine Calls.grown_of (hc _ _)))
      have S2:Aside (SW enc w0 blk off dj (grow (wr.drewN nq) osq)):=SJ.out.grown nq osq
      clear la lb hc SJ
      generalize grow (wr.drewN nq) osq=w2 at S2 ⊢
      clear nq osq
      go_wp2_with fail
      obtain⟨ca,cb',fa,fb,u,cc⟩:=F'.out w2 S2
      have S4:=S3'.out w2 S2
      clear S2
      go_region
      clear ca cb' cc fa fb
      generalize ((w2.setCell ⟨blk,off + iN,none⟩ (enc y)).setCell ⟨blk,off + jN,none⟩ (enc x)).drew=w3 at S4 ⊢
      clear ea ec
      go_wp2
      go_roundg (j - 1)
      case measure=>omega
      case rel=>
       refine⟨j - 1,swp dj j (j - 1),by first | rfl | go_num | (congr 1;omega),by omega,by omega,Nat.le_refl _,?_,fun p h1 h2=>?_,S4⟩
       ·have:=HR.out
        obtain rfl:j=jp + 1:=by omega
        exact gJ.down this (by omega) (by rw[hsk.out];omega)
       ·by_cases c:p=j - 1
        ·subst c
         rw[<-HX1.out,<-HY1.out]
         exact (HC.out.yes y x HXY.out).1 HV.out
        ·exact HU.out p (by omega) h2
     ·have hd:decide (cf x y<0)=false:=decide_eq_false hv
      have HV:Aside (¬ cf x y<0):=hv
      clear hx hy hiN hjN hv
      go_wp2_with fail
      go_quiet_grown (first | (go_at_fn g;refine Calls.grown_of (hc _ _)))
      have S2:Aside (SW enc w0 blk off dj (grow (wr.drewN nq) osq)):=SJ.out.grown nq osq
      clear la lb hc SJ
      generalize grow (wr.drewN nq) osq=w2 at S2 ⊢
      clear nq osq
      clear ea ec
      go_wp2
      go_roundg (b - i)
      case measure=>omega
      case rel=>exact⟨i + 1,dj,by go_num,by omega,by omega,by omega,ct.insert HT.out HM.out HR.out haj hji HU.out (fun _=>by rw[<-HX1.out,<-HY1.out];exact HC.out.no y x HXY.out (by have:=HV.out;omega)),S2⟩
    ·have hjaz:decide ((j:Int) > (a:Int))=false:=decide_eq_false (by omega)
     have hjaz':¬(a:Int)<(j:Int):=by omega
     go_wp2_with fail
     go_region
     have S2:Aside (SW enc w0 blk off dj wr.drew):=SJ.out.drew
     clear SJ
     generalize wr.drew=w2 at S2 ⊢
     go_wp2
     go_roundg (b - i)
     case measure=>omega
     case rel=>exact⟨i + 1,dj,by go_num,by omega,by omega,by omega,ct.insert HT.out HM.out HR.out haj hji HU.out (fun h=>by omega),S2⟩
  ·have hltz:¬(i:Int)<(b:Int):=by omega
   go_wp2
   go_end0
   refine⟨rfl,dk,?_,S1.out⟩
   have M:=HM.out
   by_cases c:i=b
   ·rw[<-c];exact M
   ·have hab':a=b:=by omega
    refine⟨M.size,fun p hp=>?_,fun p h1 h2=>by omega,fun p q h1 h2 h3=>by omega⟩
    by_cases c2:a<=p/\p<i
    ·obtain⟨q,q1,q2,q3⟩:=M.src p c2.1 c2.2
     rw[q3,show q=p by omega]
    ·exact M.out p (by omega)
