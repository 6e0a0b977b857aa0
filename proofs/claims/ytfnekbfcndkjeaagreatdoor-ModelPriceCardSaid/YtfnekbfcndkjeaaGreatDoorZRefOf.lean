/- consignref21.Of: by definition, the same outcome. -/
import Derived.Test.YtfnekbfcndkjeaaGreatDoorZOf2
set_option maxHeartbeats 4000000
set_option maxRecDepth 100000
set_option linter.all false
namespace Go.Proofs.YtfnekbfcndkjeaaGreatDoor
open Go.Proofs.Tryz Go.RowKit Go.Sort
open Go.Proofs.YtfnekbfcndkjeaaGreatDoor.Srt Go.Proofs.YtfnekbfcndkjeaaGreatDoor.Vk
def cellsOf:List Bd->List Value
 | []=>[]
 | x :: l=>.int .i64 x.1 :: .int .u64 x.2 :: cellsOf l
open Go.Proofs.YtfnekbfcndkjeaaGreatDoor.Srt Go.Proofs.YtfnekbfcndkjeaaGreatDoor.Vk
def o5 (b:Bool) (w:World) (e:Ending) (w':World):Prop:=e=.returned (.bool b)/\∃q,w'=w.drewN q
theorem xU (i k lb lo n cap:Nat) (c1 b1 c2 b2:Int) (w:World) (hi:i<n) (hk:k<n)
  (h1:w.cell? ⟨lb,lo + i * 2,none⟩=some (.int .i64 c1)) (h2:w.cell? ⟨lb,lo + i * 2 + 1,none⟩=some (.int .u64 b1))
  (h3:w.cell? ⟨lb,lo + k * 2,none⟩=some (.int .i64 c2)) (h4:w.cell? ⟨lb,lo + k * 2 + 1,none⟩=some (.int .u64 b2)):
  Calls prog 116 #[.slice (some ⟨lb,lo,none⟩) n cap,.int .i64 i,.int .i64 k] w (o5 (decide (b1<b2\/(b1=b2/\(c1<c2\/(c1=c2/\i<k))))) w):=by
 have hiz:(i:Int)<(n:Int):=by omega
 have hkz:(k:Int)<(n:Int):=by omega
 by_cases hb:b1=b2
 ·subst hb
  have hbb:(b1 !=b1)=false:=by simp
  by_cases hc:c1=c2
  ·subst hc
   have hcc:(c1 !=c1)=false:=by simp
   have hr:decide (b1<b1\/(b1=b1/\(c1<c1\/(c1=c1/\i<k))))=decide (i<k):=by rw[decide_eq_decide];omega
   rw[hr]
   clear hr
   go_enter func116,ntmps116
   go_wp2_with fail
   go_quiet (fail)
   go_wp2_with fail
   go_quiet (fail)
   go_wp2
   go_ret
   exact⟨by simp,_,rfl⟩
  ·have hcc:(c1 !=c2)=true:=by simpa using hc
   have hr:decide (b1<b1\/(b1=b1/\(c1<c2\/(c1=c2/\i<k))))=decide (c1<c2):=by rw[decide_eq_decide];omega
   rw[hr]
   clear hr
   have HC:=aS hc
   clear hc
   go_enter func116,ntmps116
   go_wp2_with fail
   go_quiet (fail)
   go_wp2_with fail
   go_quiet (fail)
   go_wp2_with fail
   go_quiet (fail)
   go_wp2
   go_ret
   exact⟨rfl,_,by rw[World.drewN_drewN,World.drewN_drewN]⟩
 ·have hbb:(b1 !=b2)=true:=by simpa using hb
  have hr:decide (b1<b2\/(b1=b2/\(c1<c2\/(c1=c2/\i<k))))=decide (b1<b2):=by rw[decide_eq_decide];omega
  rw[hr]
  clear hr
  have HB:=aS hb
  clear hb
  go_enter func116,ntmps116
  go_wp2_with fail
  go_quiet (fail)
  go_wp2_with fail
  go_quiet (fail)
  go_wp2
  go_ret
  exact⟨rfl,_,by rw[World.drewN_drewN]⟩
theorem rj (bs:List Bd) (i k lb lo cap:Nat) (w:World) (hi:i<bs.length) (hk:k<bs.length) (hl:eh w lb lo bs):
  Calls prog 116 #[.slice (some ⟨lb,lo,none⟩) bs.length cap,.int .i64 i,.int .i64 k] w (o5 (decide (Vk.ahead bs i k)) w):=
 xU i k lb lo bs.length cap _ _ _ _ w hi hk (hl i hi).1 (hl i hi).2 (hl k hk).1 (hl k hk).2
open Go.Proofs.YtfnekbfcndkjeaaGreatDoor.Srt Go.Proofs.YtfnekbfcndkjeaaGreatDoor.Vk
structure gF (w:World) (bs:List Bd) (i:Nat) (wr:World):Prop where
 below:Below w.heap.size w wr
 lt:w.heap.size<wr.heap.size
 put:∀j,j<i->wr.cell? ⟨w.heap.size,nT bs j bs.length,none⟩=some (.int .i64 (j:Int))
 some:∀p,p<bs.length->∃v,wr.cell? ⟨w.heap.size,p,none⟩=some v
 free:∀p,wr.frozen? ⟨w.heap.size,p,none⟩=false
theorem gF.start (w:World) (bs:List Bd):gF w bs 0 (w.alloc (.cells (eN bs.length) 3)):=by
 have hh:(w.alloc (.cells (eN bs.length) 3)).heap[w.heap.size]?=Option.some (.cells (eN bs.length) 3 (0,0)):=by
  show (w.heap.push _)[w.heap.size]?=_
  rw[Array.getElem?_push,if_pos rfl]
 exact⟨(Below.refl _ w).alloc (Nat.le_refl _) _,by simp,fun j h=>absurd h (Nat.not_lt_zero _),fun p hp=>⟨_,(iH hh p).trans (lT _ p hp)⟩,fun p=>jr hh p⟩
theorem gF.drewN {w wr:World} {bs:List Bd} {i:Nat} (h:gF w bs i wr) (q:Nat):gF w bs i (wr.drewN q):=
 ⟨⟨h.below.os,h.below.tape,h.below.output,h.below.size,h.below.block⟩,h.lt,h.put,h.some,h.free⟩
theorem gF.step {w wr:World} {bs:List Bd} {i:Nat} (h:gF w bs i wr) (hi:i<bs.length):gF w bs (i + 1) (wr.setCell ⟨w.heap.size,nT bs i bs.length,none⟩ (.int .i64 (i:Int))):=by
 refine⟨h.below.setCell (p:=⟨w.heap.size,_,none⟩) (Nat.le_refl _) _,by simpa [World.setCell] using h.lt,fun j hj=>?_,fun p hp=>?_,fun p=>by rw[World.frozen?_setCell];exact h.free p⟩
 ·by_cases c:j=i
  ·subst c
   obtain⟨v,hv⟩:=h.some _ (kC bs j hi).1
   exact World.cell?_setCell_same _ _ _ hv
  ·rw[World.cell?_setCell_other _ _ _ _ (by intro e;simp only[Addr.mk.injEq,true_and,and_true] at e;exact c (yT bs (by omega) hi e.symm))]
   exact h.put j (by omega)
 ·by_cases c:p=nT bs i bs.length
  ·subst c
   obtain⟨v,hv⟩:=h.some _ hp
   exact⟨_,World.cell?_setCell_same _ _ _ hv⟩
  ·obtain⟨v,hv⟩:=h.some p hp
   exact⟨v,by rw[World.cell?_setCell_other _ _ _ _ (by intro e;simp only[Addr.mk.injEq,true_and,and_true] at e;exact c e.symm)];exact hv⟩
theorem pX (bs:List Bd) (lb lo cap:Nat) (w:World) (h1:1<=bs.length) (hn:bs.length<=17592186044416) (hll:lb<w.heap.size) (hl:eh w lb lo bs):
  Calls prog 95 #[.slice (some ⟨lb,lo,none⟩) bs.length cap] w (fu bs w):=by
 obtain⟨n,hnn⟩:∃n,n=bs.length:=⟨_,rfl⟩
 have HN:=aS hnn
 have HL:=aS hl
 have HA:=fun (W:World) (i k:Nat) (hi:i<bs.length) (hk:k<bs.length) (hW:eh W lb lo bs)=>aS (rj bs i k lb lo cap W hi hk hW)
 rw[<-hnn] at hn h1 HA ⊢
 clear hl hnn
 have hmk:=fun W=>jC n W hn
 go_enter func95,ntmps95
 go_wp2
 clear hmk
 go_loopg [4] n (fun g vi wr=>∃i:Nat,vi=.int .i64 i/\i<=n/\n - i<=g/\Aside (gF w bs i wr))
 case atStart=>exact⟨0,rfl,by omega,by omega,by rw[HN.out];exact gF.start w bs⟩
 case round=>
  obtain⟨i,rfl,hi,hg,HP⟩:=hrel
  by_cases hlt:i<n
  ·have hltz:(i:Int)<(n:Int):=by omega
   go_wp2
   go_loopg [5,6] n (fun g2 vc vk wr2=>∃k:Nat,vc=.int .i64 (nT bs i k:Nat)/\vk=.int .i64 k/\k<=n/\n - k<=g2/\Aside (gF w bs i wr2))
   case atStart=>exact⟨0,rfl,rfl,by omega,by omega,HP⟩
   case round=>
    clear HP
    obtain⟨k,rfl,rfl,hk,hg2,HP⟩:=hrel
    by_cases hlt2:k<n
    ·have hltz2:(k:Int)<(n:Int):=by omega
     have hB:=HL.out.below hll HP.out.below
     have hcl:=wF bs i k
     have hs:Aside (nT bs i (k + 1)=nT bs i k + if Vk.ahead bs k i then 1 else 0):=rfl
     obtain⟨c,hc⟩:∃c,c=nT bs i k:=⟨_,rfl⟩
     rw[<-hc] at hcl hs ⊢
     clear hc
     by_cases ha:Vk.ahead bs k i
     ·have hd:decide (Vk.ahead bs k i)=true:=decide_eq_true ha
      have HS:Aside (nT bs i (k + 1)=c + 1):=by rw[Aside,hs.out,if_pos ha]
      have HC:=HA wr k i hlt2 hlt hB
      rw[hd] at HC
      clear hs ha hd hB
      go_wp2_with fail
      refine HC.out.mono ?_
      rintro e w2 ⟨rfl,q,rfl⟩
      have HP2:=aS (HP.out.drewN q)
      clear HP HC
      generalize wr.drewN q=w3 at HP2 ⊢
      go_wp2
      go_roundg (n - (k + 1))
      case measure=>omega
      case rel=>exact⟨k + 1,by rw[HS.out];go_num,by go_num,by omega,by omega,HP2⟩
     ·have hd:decide (Vk.ahead bs k i)=false:=decide_eq_false ha
      have HS:Aside (nT bs i (k + 1)=c):=by rw[Aside,hs.out,if_neg ha];rfl
      have HC:=HA wr k i hlt2 hlt hB
      rw[hd] at HC
      clear hs ha hd hB
      go_wp2_with fail
      refine HC.out.mono ?_
      rintro e w2 ⟨rfl,q,rfl⟩
      have HP2:=aS (HP.out.drewN q)
      clear HP HC
      generalize wr.drewN q=w3 at HP2 ⊢
      go_wp2
      go_roundg (n - (k + 1))
      case measure=>omega
      case rel=>exact⟨k + 1,by rw[HS.out],by go_num,by omega,by omega,HP2⟩
    ·have hltz2:¬(k:Int)<(n:Int):=by omega
     obtain rfl:k=n:=by omega
     have hcr:=kC bs i (by rw[<-HN.out];exact hlt)
     obtain⟨v,hv⟩:=HP.out.some _ hcr.1
     have hf:=HP.out.free (nT bs i bs.length)
     have HS:=aS (HP.out.step (by rw[<-HN.out];exact hlt))
     have hlt3:=hcr.1
     rw[<-HN.out] at hv hf HS hlt3
     obtain⟨c,hc⟩:∃c,c=nT bs i k:=⟨_,rfl⟩
     rw[<-hc] at hv hf HS hlt3 ⊢
     have hcz:(c:Int)<(k:Int):=by omega
     clear hc hcr HP
     go_wp2
     go_roundg (k - (i + 1))
     case measure=>omega
     case rel=>exact⟨i + 1,by go_num,by omega,by omega,HS⟩
  ·have hltz:¬(i:Int)<(n:Int):=by omega
   obtain rfl:i=n:=by omega
   go_wp2
   go_ret
   have P:=HP.out
   refine⟨.slice (some ⟨w.heap.size,0,none⟩) i i,rfl,⟨w.heap.size,by rw[aT,HN.out],Nat.le_refl _,P.lt,fun p hp=>?_⟩,P.below⟩
   rw[aT] at hp
   obtain⟨g1,g2⟩:=yU bs hp
   have:=P.put _ (by rw[HN.out];exact g1)
   rw[g2] at this
   exact⟨this,P.free p⟩
theorem eP (b:Option Addr) (cap:Nat) (w:World):Calls prog 95 #[.slice b 0 cap] w (fu [] w):=by
 have hmk:∀W:World,(Instr.makeSlice 41 (.int .i64 0) (.int .i64 0)).run prog W=.ok (.slice (some ⟨W.heap.size,0,none⟩) 0 0) (W.alloc (.cells (eN 0) 3)):=fun W=>jC 0 W (by omega)
 go_enter func95,ntmps95
 go_wp2
 clear hmk
 refine wp_loop_rounds 1 ?_
 rw[rounds_succ]
 go_wp2
 go_ret
 refine⟨.slice (some ⟨w.heap.size,0,none⟩) 0 0,rfl,⟨w.heap.size,rfl,Nat.le_refl _,by simp,fun p hp=>by simp[aT] at hp⟩,(Below.refl _ w).alloc (Nat.le_refl _) _⟩
theorem rm (bs:List Bd) (v:Value) (w:World) (hv:gC w v bs) (hn:bs.length<=17592186044416):Calls prog 95 #[v] w (fu bs w):=by
 rcases hv with ⟨rfl | ⟨a,cap,rfl⟩,rfl⟩ | ⟨lb,lo,cap,rfl,hll,hl⟩
 ·exact eP _ _ _
 ·exact eP _ _ _
 ·cases bs with
  | nil=>exact eP _ _ _
  | cons x l=>exact pX (x :: l) lb lo cap w (by simp) hn (hll (by simp)) hl
open Go.Proofs.YtfnekbfcndkjeaaGreatDoor.Srt Go.Proofs.YtfnekbfcndkjeaaGreatDoor.Vk
theorem sZ (bs:List Bd) (reserve:Int) (h1:bs.length=1) (h2:¬reserve<bs[(rankOf bs)[0]!]!.2):vickOf bs reserve=((2:Int),bs[(rankOf bs)[0]!]!.1,reserve):=by
 have hl:=aT bs
 unfold vickOf
 cases hr:rankOf bs with
 | nil=>rw[hr] at hl;simp at hl;omega
 | cons x l=>
  rw[hr] at hl h2
  have e0:(x :: l)[0]! =x:=rfl
  rw[e0] at h2 ⊢
  obtain rfl:l=[]:=by rw[<-List.length_eq_zero_iff];simp at hl;omega
  exact (if_neg h2)
theorem qz4 (bs:List Bd) (reserve:Int) (h1:1<bs.length) (h2:¬reserve<bs[(rankOf bs)[0]!]!.2):vickOf bs reserve=((2:Int),bs[(rankOf bs)[0]!]!.1,min bs[(rankOf bs)[1]!]!.2 reserve):=by
 have hl:=aT bs
 unfold vickOf
 cases hr:rankOf bs with
 | nil=>rw[hr] at hl;simp at hl;omega
 | cons x l=>
  rw[hr] at hl h2
  have e0:(x :: l)[0]! =x:=rfl
  rw[e0] at h2 ⊢
  cases l with
  | nil=>simp at hl;omega
  | cons y l=>exact (if_neg h2)
theorem nL (v:Value) (hv:v=.slice none 0 0\/∃a cap,v=.slice (some a) 0 cap) (reserve:Int) (w:World):
  Calls prog 60 #[v,.int .u64 reserve] w (j5 [] reserve w):=by
 have HR:=fun W:World=>aS (show Calls prog 95 #[v] W (fu [] W) by
  rcases hv with rfl | ⟨a,cap,rfl⟩
  ·exact eP _ _ _
  ·exact eP _ _ _)
 go_enter func60,ntmps60
 go_wp2_with fail
 refine (HR _).out.mono ?_
 rintro e w' hq
 obtain⟨v',rfl,⟨b,rfl,hb1,hb2,_⟩,hb⟩:=hq
 have hlen:(rankOf []).length=0:=rfl
 rw[hlen]
 have HB:=aS hb
 have c0:∀j,j<3->w'.cell? ⟨w.heap.size,j,none⟩=#[Value.int .i64 0,.int .i64 0,.int .u64 0][j]? :=fun j _=>by
  rw[hb.cell (p:=⟨w.heap.size,j,none⟩) (by simp)]
  simp
 have f0:∀j,w'.frozen? ⟨w.heap.size,j,none⟩=false:=fun j=>by
  rw[hb.frozen (p:=⟨w.heap.size,j,none⟩) (by simp)]
  simp
 have c00:=c0 0 (by omega)
 have c01:=c0 1 (by omega)
 have c02:=c0 2 (by omega)
 clear c0 hb
 go_wp2
 refine bodyPost_ret (v:=iI (3,-1,0)) (by simp[results,Tryz.results60,go_sem,iI,c00,c01,c02]) rfl ⟨rfl,?_⟩
 exact ((((((Below.refl w.heap.size w).alloc (Nat.le_refl _) _).trans (HB.out.mono (by simp))).setCell (p:=⟨w.heap.size,0,none⟩) (Nat.le_refl _) _).setCell (p:=⟨w.heap.size,1,none⟩) (Nat.le_refl _) _).setCell (p:=⟨w.heap.size,2,none⟩) (Nat.le_refl _) _)
theorem tb (bs:List Bd) (lb lo cap:Nat) (reserve:Int) (w:World) (h1:1<=bs.length) (hn:bs.length<=8796093022208) (hll:lb<w.heap.size) (hl:eh w lb lo bs):
  Calls prog 60 #[.slice (some ⟨lb,lo,none⟩) bs.length cap,.int .u64 reserve] w (j5 bs reserve w):=by
 obtain⟨n,hnn⟩:∃n,n=bs.length:=⟨_,rfl⟩
 have HR:=fun (W:World) (hb:gC W (.slice (some ⟨lb,lo,none⟩) bs.length cap) bs)=>aS (rm bs _ W hb (by omega))
 have hx:=kN bs (show 0<bs.length by omega)
 have hlr:=aT bs
 have HV0:=aS (lU bs reserve)
 have HV1:=aS (sZ bs reserve)
 have HV2:=aS (qz4 bs reserve)
 have HY:Aside (1<bs.length->(rankOf bs)[1]!<bs.length):=fun h=>kN bs h
 obtain⟨x,hxx⟩:∃x,x=(rankOf bs)[0]! :=⟨_,rfl⟩
 obtain⟨y,hyy⟩:∃x,x=(rankOf bs)[1]! :=⟨_,rfl⟩
 have HX:=aS hxx
 have HYY:=aS hyy
 rw[<-hxx] at HV0 HV1 HV2 hx
 rw[<-hyy] at HV2 HY
 obtain⟨q,hq⟩:∃q,q=bs[x]!.2:=⟨_,rfl⟩
 obtain⟨c,hc⟩:∃c,c=bs[x]!.1:=⟨_,rfl⟩
 obtain⟨z,hz⟩:∃q,q=bs[y]!.2:=⟨_,rfl⟩
 have HQ:=aS hq
 have HCc:=aS hc
 have HZ:=aS hz
 rw[<-hq] at HV0 HV1 HV2
 rw[<-hc] at HV1 HV2
 rw[<-hz] at HV2
 have HL:=aS hl
 have HLR:=aS (hlr.trans hnn.symm)
 have HN:=aS hnn
 rw[<-hnn] at HR h1 hn hx HV0 HV1 HV2 HY ⊢
 have hn0:((n:Int)==0)=false:=by rw[beq_eq_false_iff_ne];omega
 have hn0':(0:Int)<(n:Int):=by omega
 have hxz:(x:Int)<(n:Int):=by omega
 clear hlr hxx hyy hq hc hz hl hnn
 by_cases hrq:reserve<q
 ·as_aux_lemma=>
  have HV:=aS (HV0.out (Or.inr hrq))
  clear HV0 HV1 HV2
  go_enter func60,ntmps60
  go_wp2_with fail
  refine (HR _ (Or.inr ⟨lb,lo,cap,by rw[HN.out],fun _=>by simp;omega,HL.out.below hll ((Below.refl _ w).alloc (Nat.le_refl _) _)⟩)).out.mono ?_
  rintro e w' hq
  obtain⟨v',rfl,⟨b,rfl,hb1,hb2,hcell⟩,hb⟩:=hq
  rw[HLR.out]
  have HB:=aS hb
  have c0:∀j,j<3->w'.cell? ⟨w.heap.size,j,none⟩=#[Value.int .i64 0,.int .i64 0,.int .u64 0][j]? :=fun j _=>by
   rw[hb.cell (p:=⟨w.heap.size,j,none⟩) (by simp)]
   simp
  have f0:∀j,w'.frozen? ⟨w.heap.size,j,none⟩=false:=fun j=>by
   rw[hb.frozen (p:=⟨w.heap.size,j,none⟩) (by simp)]
   simp
  have c00:=c0 0 (by omega)
  have c01:=c0 1 (by omega)
  have c02:=c0 2 (by omega)
  have cr:=(hcell 0 (by rw[HLR.out];omega)).1
  rw[<-HX.out] at cr
  have cq:=((HL.out.below hll ((Below.refl w.heap.size w).alloc (Nat.le_refl _) _)).below (by simp;omega) hb x (by rw[<-HN.out];exact hx)).2
  rw[<-HQ.out] at cq
  clear c0 hb hcell HR
  go_wp2
  refine bodyPost_ret (v:=iI (3,-1,0)) (by simp[results,Tryz.results60,go_sem,iI,c00,c01,c02]) rfl ⟨by rw[HV.out],?_⟩
  exact ((((((Below.refl w.heap.size w).alloc (Nat.le_refl _) _).trans (HB.out.mono (by simp))).setCell (p:=⟨w.heap.size,0,none⟩) (Nat.le_refl _) _).setCell (p:=⟨w.heap.size,1,none⟩) (Nat.le_refl _) _).setCell (p:=⟨w.heap.size,2,none⟩) (Nat.le_refl _) _)
 ·by_cases h2:1<n
  ·as_aux_lemma=>
   have HV:=aS (HV2.out h2 hrq)
   have hyn:=HY.out h2
   have hyz:(y:Int)<(n:Int):=by omega
   have h2z:(1:Int)<(n:Int):=by omega
   clear HV0 HV1 HV2 HY
   go_enter func60,ntmps60
   go_wp2_with fail
   refine (HR _ (Or.inr ⟨lb,lo,cap,by rw[HN.out],fun _=>by simp;omega,HL.out.below hll ((Below.refl _ w).alloc (Nat.le_refl _) _)⟩)).out.mono ?_
   rintro e w' hq
   obtain⟨v',rfl,⟨b,rfl,hb1,hb2,hcell⟩,hb⟩:=hq
   rw[HLR.out]
   have HB:=aS hb
   have c0:∀j,j<3->w'.cell? ⟨w.heap.size,j,none⟩=#[Value.int .i64 0,.int .i64 0,.int .u64 0][j]? :=fun j _=>by
    rw[hb.cell (p:=⟨w.heap.size,j,none⟩) (by simp)]
    simp
   have f0:∀j,w'.frozen? ⟨w.heap.size,j,none⟩=false:=fun j=>by
    rw[hb.frozen (p:=⟨w.heap.size,j,none⟩) (by simp)]
    simp
   have c00:=c0 0 (by omega)
   have c01:=c0 1 (by omega)
   have c02:=c0 2 (by omega)
   have cr:=(hcell 0 (by rw[HLR.out];omega)).1
   rw[<-HX.out] at cr
   have cy:=(hcell 1 (by rw[HLR.out];omega)).1
   rw[<-HYY.out] at cy
   have hbc:=(HL.out.below hll ((Below.refl w.heap.size w).alloc (Nat.le_refl _) _)).below (by simp;omega) hb
   have cq:=(hbc x (by rw[<-HN.out];exact hx)).2
   rw[<-HQ.out] at cq
   have ccr:=(hbc x (by rw[<-HN.out];exact hx)).1
   rw[<-HCc.out] at ccr
   have cz:=(hbc y (by rw[<-HN.out];exact hyn)).2
   rw[<-HZ.out] at cz
   clear c0 hb hcell HR hbc
   go_wp2
   refine bodyPost_ret (v:=iI (2,c,min z reserve)) (by simp[results,Tryz.results60,go_sem,iI,c00,c01,c02]) rfl ⟨by rw[HV.out],?_⟩
   exact ((((((Below.refl w.heap.size w).alloc (Nat.le_refl _) _).trans (HB.out.mono (by simp))).setCell (p:=⟨w.heap.size,0,none⟩) (Nat.le_refl _) _).setCell (p:=⟨w.heap.size,1,none⟩) (Nat.le_refl _) _).setCell (p:=⟨w.heap.size,2,none⟩) (Nat.le_refl _) _)
  ·as_aux_lemma=>
   have HV:=aS (HV1.out (by omega) hrq)
   have h2z:¬(1:Int)<(n:Int):=by omega
   clear HV0 HV1 HV2 HY
   go_enter func60,ntmps60
   go_wp2_with fail
   refine (HR _ (Or.inr ⟨lb,lo,cap,by rw[HN.out],fun _=>by simp;omega,HL.out.below hll ((Below.refl _ w).alloc (Nat.le_refl _) _)⟩)).out.mono ?_
   rintro e w' hq
   obtain⟨v',rfl,⟨b,rfl,hb1,hb2,hcell⟩,hb⟩:=hq
   rw[HLR.out]
   have HB:=aS hb
   have c0:∀j,j<3->w'.cell? ⟨w.heap.size,j,none⟩=#[Value.int .i64 0,.int .i64 0,.int .u64 0][j]? :=fun j _=>by
    rw[hb.cell (p:=⟨w.heap.size,j,none⟩) (by simp)]
    simp
   have f0:∀j,w'.frozen? ⟨w.heap.size,j,none⟩=false:=fun j=>by
    rw[hb.frozen (p:=⟨w.heap.size,j,none⟩) (by simp)]
    simp
   have c00:=c0 0 (by omega)
   have c01:=c0 1 (by omega)
   have c02:=c0 2 (by omega)
   have cr:=(hcell 0 (by rw[HLR.out];omega)).1
   rw[<-HX.out] at cr
   have hbc:=(HL.out.below hll ((Below.refl w.heap.size w).alloc (Nat.le_refl _) _)).below (by simp;omega) hb
   have cq:=(hbc x (by rw[<-HN.out];exact hx)).2
   rw[<-HQ.out] at cq
   have ccr:=(hbc x (by rw[<-HN.out];exact hx)).1
   rw[<-HCc.out] at ccr
   clear c0 hb hcell HR hbc
   go_wp2
   refine bodyPost_ret (v:=iI (2,c,reserve)) (by simp[results,Tryz.results60,go_sem,iI,c00,c01,c02]) rfl ⟨by rw[HV.out],?_⟩
   exact ((((((Below.refl w.heap.size w).alloc (Nat.le_refl _) _).trans (HB.out.mono (by simp))).setCell (p:=⟨w.heap.size,0,none⟩) (Nat.le_refl _) _).setCell (p:=⟨w.heap.size,1,none⟩) (Nat.le_refl _) _).setCell (p:=⟨w.heap.size,2,none⟩) (Nat.le_refl _) _)
theorem jF (bs:List Bd) (v:Value) (reserve:Int) (w:World) (hv:gC w v bs) (hn:bs.length<=8796093022208):Calls prog 60 #[v,.int .u64 reserve] w (j5 bs reserve w):=by
 rcases hv with ⟨h0,rfl⟩ | ⟨lb,lo,cap,rfl,hll,hl⟩
 ·exact nL _ h0 _ _
 ·cases bs with
  | nil=>exact nL _ (Or.inr ⟨_,_,rfl⟩) _ _
  | cons x l=>exact tb (x :: l) lb lo cap reserve w (by simp) hn (hll (by simp)) hl
