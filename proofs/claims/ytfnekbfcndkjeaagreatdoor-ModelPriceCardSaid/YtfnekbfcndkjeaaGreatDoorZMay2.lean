/- chain.scene, walked. -/
import Derived.Test.YtfnekbfcndkjeaaGreatDoorZRfM1
import Derived.Deep.CutBlock
set_option maxHeartbeats 4000000
set_option maxRecDepth 100000
set_option linter.all false
namespace Go.Proofs.YtfnekbfcndkjeaaGreatDoor
open Go.Proofs.Tryz Go.RowKit
def ia (r:RecV) (nl no:Nat):Bool:=aE r.carriers 1 8 &&(aE r.commit 1 64 &&(aE r.reveal 1 64 &&(aE r.scheme 0 1 &&(decide ((nl:Int)<=16) &&decide ((no:Int)<=64)))))
def lu (r:RecV):RecV:={r with carriers:=0,commit:=0,reveal:=0,scheme:=0,lots:=.slice none 0 0,owners:=.slice none 0 0}
def pA (r:RecV) (ls:List (Int × Int)) (os:List Int):Bool:=(((ia r ls.length os.length &&a9 (dx ls) ls.length) &&a9 (fT os) os.length) &&decide (r.tick=0)) &&decide (r.round=0)
theorem us (L:Nat) (rv:RecV) (ls:List (Int × Int)) (os:List Int) (hls:ls.length<=9223372036854775807) (hos:os.length<=9223372036854775807) (w:World) (hr:ah w L rv) (hl:cZ w rv.lots ls) (ho:bA w rv.owners os):
  Calls prog 101 #[.pointer (some ⟨L,0,none⟩)] w fun e w'=>e=.returned (.bool (pA rv ls os))/\am (·≠L) w w'/\ah w' L (lu rv):=by
 obtain⟨R,hR⟩:∃b:Bool,b=pA rv ls os:=⟨_,rfl⟩
 rw[<-hR]
 have HRR:=ac hR
 have HR:=ac hr
 have HL:=ac hl
 have HO:=ac ho
 have HLS:=ac hls
 have HOS:=ac hos
 clear hr hl ho hR
 go_enter func101,ntmps101
 go_upto_region 1 with fail
 obtain⟨R1,hR1⟩:∃b:Bool,b=ia rv ls.length os.length:=⟨_,rfl⟩
 have HR1:=ac hR1
 clear hR1
 go_cut [3] (fun s3 wx=>s3=.bool R1/\wx=w)
 case first=>
  obtain⟨al,cl,hvl,_,_⟩:=HL.out
  obtain⟨ao,co,hvo,_,_⟩:=HO.out
  have c43:=HR.out.carriers
  have c44:=HR.out.commit
  have c45:=HR.out.reveal
  have c46:=HR.out.scheme
  have c47:=HR.out.lots
  have c48:=HR.out.owners
  rw[hvl] at c47
  rw[hvo] at c48
  obtain⟨nl,hnl⟩:∃n,n=ls.length:=⟨_,rfl⟩
  obtain⟨no,hno⟩:∃n,n=os.length:=⟨_,rfl⟩
  have HQ:aa (R1=ia rv nl no):=by rw[hnl,hno];exact HR1
  rw[<-hnl] at c47 hls
  rw[<-hno] at c48 hos
  clear hnl hno hvl hvo
  go_wp2_with fail
  refine (cC rv.carriers 1 8 _).mono ?_
  rintro e w1 ⟨rfl,rfl⟩
  by_cases h1:aE rv.carriers 1 8=true
  case neg=>
   have h1':aE rv.carriers 1 8=false:=by simpa using h1
   have HE:aa (R1=false):=by rw[aa,HQ.out,ia,h1'];rfl
   clear h1
   go_wp2_with fail
   go_meet
   case rel=>exact⟨by rw[HE.out],rfl⟩
  go_wp2_with fail
  refine (cC rv.commit 1 64 _).mono ?_
  rintro e w1 ⟨rfl,rfl⟩
  by_cases h2:aE rv.commit 1 64=true
  case neg=>
   have h2':aE rv.commit 1 64=false:=by simpa using h2
   have HE:aa (R1=false):=by rw[aa,HQ.out,ia,h1,h2'];rfl
   clear h2
   go_wp2_with fail
   go_meet
   case rel=>exact⟨by rw[HE.out],rfl⟩
  go_wp2_with fail
  refine (cC rv.reveal 1 64 _).mono ?_
  rintro e w1 ⟨rfl,rfl⟩
  by_cases h3:aE rv.reveal 1 64=true
  case neg=>
   have h3':aE rv.reveal 1 64=false:=by simpa using h3
   have HE:aa (R1=false):=by rw[aa,HQ.out,ia,h1,h2,h3'];rfl
   clear h3
   go_wp2_with fail
   go_meet
   case rel=>exact⟨by rw[HE.out],rfl⟩
  go_wp2_with fail
  refine (cC rv.scheme 0 1 _).mono ?_
  rintro e w1 ⟨rfl,rfl⟩
  by_cases h4:aE rv.scheme 0 1=true
  case neg=>
   have h4':aE rv.scheme 0 1=false:=by simpa using h4
   have HE:aa (R1=false):=by rw[aa,HQ.out,ia,h1,h2,h3,h4'];rfl
   clear h4
   go_wp2_with fail
   go_meet
   case rel=>exact⟨by rw[HE.out],rfl⟩
  by_cases h5:(nl:Int)<=16
  ·have e5:decide ((nl:Int)<=16)=true:=decide_eq_true h5
   by_cases h6:(no:Int)<=64
   ·have e6:decide ((no:Int)<=64)=true:=decide_eq_true h6
    have HE:aa (R1=true):=by rw[aa,HQ.out,ia,h1,h2,h3,h4,e5,e6];rfl
    go_wp2_with fail
    go_meet
    case rel=>exact⟨by rw[HE.out],rfl⟩
   ·have e6:decide ((no:Int)<=64)=false:=decide_eq_false h6
    have HE:aa (R1=false):=by rw[aa,HQ.out,ia,h1,h2,h3,h4,e5,e6];rfl
    clear h6
    go_wp2_with fail
    go_meet
    case rel=>exact⟨by rw[HE.out],rfl⟩
  ·have e5:decide ((nl:Int)<=16)=false:=decide_eq_false h5
   have HE:aa (R1=false):=by rw[aa,HQ.out,ia,h1,h2,h3,h4,e5];rfl
   clear h5
   go_wp2_with fail
   go_meet
   case rel=>exact⟨by rw[HE.out],rfl⟩
 case rest=>
  obtain⟨rfl,rfl⟩:=hcut
  go_upto_region 2 with fail
  obtain⟨R2,hR2⟩:∃b:Bool,b=(R1 &&a9 (dx ls) ls.length):=⟨_,rfl⟩
  have HR2:=ac hR2
  clear hR2
  go_cut [3] (fun s3 wx=>s3=.bool R2/\aa (Below wc.heap.size wc wx))
  case first=>
   have c47:=HR.out.lots
   cases R1 with
   | true=>
    go_wp2_with fail
    refine (wJ rv.lots ls HLS.out _ HL.out).mono ?_
    rintro e w1 ⟨rfl,hb⟩
    have HB:=ac hb
    have HE:aa (R2=a9 (dx ls) ls.length):=by rw[aa,HR2.out];exact Bool.true_and _
    clear hb c47
    go_wp2_with fail
    go_meet
    case rel=>exact⟨by rw[HE.out],HB⟩
   | false=>
    have HE:aa (R2=false):=by rw[aa,HR2.out];rfl
    go_wp2_with fail
    go_meet
    case rel=>exact⟨by rw[HE.out],Below.refl _ _⟩
  case rest=>
   obtain⟨rfl,HB2⟩:=hcut
   have HR4:=ac (HR.out.new HB2.out)
   have HO4:=ac (HO.out.on HB2.out)
   clear HR HL HO
   go_upto_region 3 with fail
   obtain⟨R3,hR3⟩:∃b:Bool,b=(R2 &&a9 (fT os) os.length):=⟨_,rfl⟩
   have HR3:=ac hR3
   clear hR3
   obtain⟨w2,rfl⟩:∃w2:World,w2=wc:=⟨_,rfl⟩
   go_cut [3] (fun s3 wx=>s3=.bool R3/\wx=w2)
   case first=>
    have c48:=HR4.out.owners
    cases R2 with
    | true=>
     go_wp2_with fail
     refine (uq rv.owners os HOS.out _ HO4.out).mono ?_
     rintro e w1 ⟨rfl,rfl⟩
     have HE:aa (R3=a9 (fT os) os.length):=by rw[aa,HR3.out];exact Bool.true_and _
     clear c48
     go_wp2_with fail
     go_meet
     case rel=>exact⟨by rw[HE.out],rfl⟩
    | false=>
     have HE:aa (R3=false):=by rw[aa,HR3.out];rfl
     go_wp2_with fail
     go_meet
     case rel=>exact⟨by rw[HE.out],rfl⟩
   case rest=>
    obtain⟨rfl,rfl⟩:=hcut
    have c43:=HR4.out.carriers
    have c44:=HR4.out.commit
    have c45:=HR4.out.reveal
    have c46:=HR4.out.scheme
    have c47:=HR4.out.lots
    have c48:=HR4.out.owners
    have c4:=HR4.out.tick
    have c1:=HR4.out.round
    have f43:=HR4.out.free 43
    have f44:=HR4.out.free 44
    have f45:=HR4.out.free 45
    have f46:=HR4.out.free 46
    have f47:=HR4.out.free 47
    have f48:=HR4.out.free 48
    have HE:aa (R=((R3 &&decide (rv.tick=0)) &&decide (rv.round=0))):=by rw[aa,HRR.out,pA,HR3.out,HR2.out,HR1.out]
    clear HRR HR3 HR2 HR1
    have HF:aa (ah _ L (lu rv)):=(((((HR4.out.setCarriers 0).setCommit 0).setReveal 0).setScheme 0).setLots (.slice none 0 0)).setOwners (.slice none 0 0)
    have keep:∀{a:World} (j:Nat) (v:Value),am (·≠L) wc a->am (·≠L) wc (a.setCell ⟨L,j,none⟩ v):=fun j v h=>h.setCell (p:=⟨L,j,none⟩) (.inr (fun h=>h rfl)) v
    have HK:=ac ((ak HB2.out (·≠L)).trans (keep 48 (.slice none 0 0) (keep 47 (.slice none 0 0) (keep 46 (.int .i64 0) (keep 45 (.int .i64 0) (keep 44 (.int .i64 0) (keep 43 (.int .i64 0) (am.refl _ wc))))))))
    clear keep HR4 HO4 HB2
    cases R3 with
    | false=>
     have HQ:aa (R=false):=by rw[aa,HE.out];rfl
     go_wp2_with fail
     go_ret
     exact⟨by rw[HQ.out];rfl,HK.out,HF.out⟩
    | true=>
     by_cases e1:rv.tick=0
     ·by_cases e2:rv.round=0
      ·have HQ:aa (R=true):=by rw[aa,HE.out,decide_eq_true e1,decide_eq_true e2];rfl
       have e1':(rv.tick==0)=true:=by simpa using e1
       have e2':(rv.round==0)=true:=by simpa using e2
       clear e1 e2
       go_wp2_with fail
       go_ret
       exact⟨by rw[HQ.out];rfl,HK.out,HF.out⟩
      ·have HQ:aa (R=false):=by rw[aa,HE.out,decide_eq_true e1,decide_eq_false e2];rfl
       have e1':(rv.tick==0)=true:=by simpa using e1
       have e2':(rv.round==0)=false:=by simpa using e2
       clear e1 e2
       go_wp2_with fail
       go_ret
       exact⟨by rw[HQ.out];rfl,HK.out,HF.out⟩
     ·have HQ:aa (R=false):=by rw[aa,HE.out,decide_eq_false e1];rfl
      have e1':(rv.tick==0)=false:=by simpa using e1
      clear e1
      go_wp2_with fail
      go_ret
      exact⟨by rw[HQ.out];rfl,HK.out,HF.out⟩
