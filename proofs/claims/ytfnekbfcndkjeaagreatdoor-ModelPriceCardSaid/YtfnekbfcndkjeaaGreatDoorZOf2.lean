/- vick.Of, walked. -/
import Derived.Test.YtfnekbfcndkjeaaGreatDoorZLeast
import Derived.Deep.RegionHeld3
set_option maxHeartbeats 8000000
set_option maxRecDepth 100000
set_option linter.all false
namespace Go.Proofs.YtfnekbfcndkjeaaGreatDoor
open Go.Proofs.Tryz Go.RowKit Go.Sort
open Go.Proofs.YtfnekbfcndkjeaaGreatDoor.Srt Go.Proofs.YtfnekbfcndkjeaaGreatDoor.Vk
def bW (bs:List Bd):List Int:=((rankOf bs).drop 1).map fun i=>bs[i]!.2
theorem fO (bs:List Bd):(bW bs).length=bs.length - 1:=by simp[bW,aT]
theorem nt (xs:List Int) (r:Int):∀k,k<=xs.length->(∀ i,i<xs.length->xs[0]!<=xs[i]!)->1<=xs.length->
  iv (xs++[r]) k=if k<xs.length then xs[0]! else min xs[0]! r
 | 0,_,_,h1=>by
  rw[if_pos (by omega)]
  cases xs with
  | nil=>simp at h1
  | cons x l=>simp[iv]
 | k + 1,hk,hs,h1=>by
  have ih:=nt xs r k (by omega) hs h1
  rw[if_pos (by omega)] at ih
  show min (iv (xs++[r]) k) (xs++[r])[k + 1]! =_
  rw[ih]
  by_cases c:k + 1<xs.length
  ·rw[if_pos c]
   have:(xs++[r])[k + 1]! =xs[k + 1]! :=by simp[List.getElem!_eq_getElem?_getD,List.getElem?_append_left c]
   rw[this]
   have:=hs (k + 1) c
   omega
  ·rw[if_neg c]
   have:(xs++[r])[k + 1]! =r:=by
    rw[List.getElem!_eq_getElem?_getD,List.getElem?_append_right (by omega),show k + 1 - xs.length=0 by omega]
    rfl
   rw[this]
theorem xE (bs:List Bd) {p q:Nat} (hpq:p<q) (hq:q<bs.length):Vk.ahead bs (rankOf bs)[p]! (rankOf bs)[q]! :=by
 have h:=eX bs
 have hl:=aT bs
 rw[List.pairwise_iff_getElem] at h
 have:=h p q (by omega) (by omega) hpq
 rw[getElem!_pos (rankOf bs) p (by omega),getElem!_pos (rankOf bs) q (by omega)]
 exact this
theorem kN (bs:List Bd) {p:Nat} (hp:p<bs.length):(rankOf bs)[p]!<bs.length:=by
 have hl:=aT bs
 rw[getElem!_pos (rankOf bs) p (by omega)]
 exact (mem_rankOf bs _).1 (List.getElem_mem _)
theorem fU (bs:List Bd) {k:Nat} (hk:k + 1<bs.length):(bW bs)[k]! =bs[(rankOf bs)[k + 1]!]!.2:=by
 have hl:=aT bs
 rw[getElem!_pos (bW bs) k (by rw[fO];omega),getElem!_pos (rankOf bs) (k + 1) (by omega)]
 simp[bW]
theorem qI (bs:List Bd) (reserve:Int) (h1:1<=bs.length) (h2:¬reserve<bs[(rankOf bs)[0]!]!.2):
  vickOf bs reserve=((2:Int),bs[(rankOf bs)[0]!]!.1,iv (bW bs++[reserve]) (bs.length - 1)):=by
 have hl:=aT bs
 have ht:=fO bs
 have hs:∀i,i<(bW bs).length->(bW bs)[0]!<=(bW bs)[i]! :=fun i hi=>by
  rw[fU bs (by omega),fU bs (by omega)]
  by_cases c:i=0
  ·subst c;exact Int.le_refl _
  ·have:=xE bs (show 0 + 1<i + 1 by omega) (by omega)
   unfold Vk.ahead at this
   omega
 have hget:1<bs.length->(bW bs)[0]! =bs[(rankOf bs)[1]!]!.2:=fun h=>fU bs h
 unfold vickOf
 cases hr:rankOf bs with
 | nil=>rw[hr] at hl;simp at hl;omega
 | cons x l=>
  rw[hr] at hl h2 hget
  have e0:(x :: l)[0]! =x:=rfl
  rw[e0] at h2 ⊢
  unfold ofR
  refine (if_neg h2).trans ?_
  congr 2
  cases l with
  | nil=>
   have:bs.length=1:=by simpa using hl.symm
   have:bW bs=[]:=by rw[<-List.length_eq_zero_iff];omega
   rw[this,‹bs.length=1›]
   simp[iv]
  | cons y l=>
   have hlen:2<=bs.length:=by simp at hl;omega
   rw[nt _ _ _ (by omega) hs (by omega),if_neg (by omega),hget (by omega)]
   rfl
theorem lU (bs:List Bd) (reserve:Int) (h:bs.length=0\/reserve<bs[(rankOf bs)[0]!]!.2):vickOf bs reserve=((3:Int),(-1:Int),(0:Int)):=by
 have hl:=aT bs
 unfold vickOf
 cases hr:rankOf bs with
 | nil=>rfl
 | cons x l=>
  rw[hr] at h hl
  unfold ofR
  rcases h with h | h
  ·simp[h] at hl
  ·exact if_pos h
def iI (x:Int × Int × Int):Value:=.agg #[.int .i64 x.1,.int .i64 x.2.1,.int .u64 x.2.2]
def j5 (bs:List Bd) (reserve:Int) (w:World) (e:Ending) (w':World):Prop:=e=.returned (iI (vickOf bs reserve))/\Below w.heap.size w w'
open Go.Proofs.YtfnekbfcndkjeaaGreatDoor.Srt Go.Proofs.YtfnekbfcndkjeaaGreatDoor.Vk
def eh (w:World) (lb lo:Nat) (bs:List Bd):Prop:=
 ∀j,j<bs.length->w.cell? ⟨lb,lo + j * 2,none⟩=some (.int .i64 bs[j]!.1)/\w.cell? ⟨lb,lo + j * 2 + 1,none⟩=some (.int .u64 bs[j]!.2)
theorem nu {W:World} {a:Addr} {B:Nat} (h:¬a.block=B) (u v t:Value):(((W.setCell ⟨B,0,none⟩ u).setCell ⟨B,1,none⟩ v).setCell ⟨B,2,none⟩ t).cell? a=W.cell? a:=by
 rw[World.cell?_setCell_other _ _ _ _ (by intro e;rw[<-e] at h;exact h rfl),World.cell?_setCell_other _ _ _ _ (by intro e;rw[<-e] at h;exact h rfl),World.cell?_setCell_other _ _ _ _ (by intro e;rw[<-e] at h;exact h rfl)]
theorem eh.below {w w':World} {lb lo:Nat} {bs:List Bd} (h:eh w lb lo bs) (hl:lb<w.heap.size) (hb:Below w.heap.size w w'):eh w' lb lo bs:=
 fun j hj=>⟨(hb.cell (p:=⟨lb,_,none⟩) hl).trans (h j hj).1,(hb.cell (p:=⟨lb,_,none⟩) hl).trans (h j hj).2⟩
theorem tP (v:Value) (hv:v=.slice none 0 0\/∃a cap,v=.slice (some a) 0 cap) (reserve:Int) (w:World):
  Calls prog 18 #[v,.int .u64 reserve] w (j5 [] reserve w):=by
 have HR:=fun W:World=>aS (show Calls prog 47 #[v] W (fu [] W) by
  rcases hv with rfl | ⟨a,cap,rfl⟩
  ·exact iu _ _ _
  ·exact iu _ _ _)
 go_enter func18,ntmps18
 go_wp2_with fail
 refine (HR _).out.mono ?_
 rintro e w' hq
 obtain⟨v',rfl,⟨b,rfl,hb1,hb2,_⟩,hb⟩:=hq
 have hlen:(rankOf []).length=0:=rfl
 rw[hlen]
 have HB:=aS hb
 have c0:∀j,j<3->w'.cell? ⟨w.heap.size,j,none⟩=#[Value.int .i64 0,.int .i64 0,.int .u64 0][j]? :=fun j _=>by
  rw[hb.cell (p:=⟨w.heap.size,j,none⟩) (by simp)]
  simp
 have f0:∀j,w'.frozen? ⟨w.heap.size,j,none⟩=false:=fun j=>by
  rw[hb.frozen (p:=⟨w.heap.size,j,none⟩) (by simp)]
  simp
 have c00:=c0 0 (by omega)
 have c01:=c0 1 (by omega)
 have c02:=c0 2 (by omega)
 clear c0 hb
 go_wp2
 refine bodyPost_ret (v:=iI (3,-1,0)) (by simp[results,Tryz.results18,go_sem,iI,c00,c01,c02]) rfl ⟨rfl,?_⟩
 exact ((((((Below.refl w.heap.size w).alloc (Nat.le_refl _) _).trans (HB.out.mono (by simp))).setCell (p:=⟨w.heap.size,0,none⟩) (Nat.le_refl _) _).setCell (p:=⟨w.heap.size,1,none⟩) (Nat.le_refl _) _).setCell (p:=⟨w.heap.size,2,none⟩) (Nat.le_refl _) _)
theorem xF (bs:List Bd) (lb lo cap:Nat) (reserve:Int) (w:World) (h1:1<=bs.length) (hn:bs.length<=8796093022208) (hll:lb<w.heap.size) (hl:eh w lb lo bs) (hr:reserve<bs[(rankOf bs)[0]!]!.2):
  Calls prog 18 #[.slice (some ⟨lb,lo,none⟩) bs.length cap,.int .u64 reserve] w (j5 bs reserve w):=by
 obtain⟨n,hnn⟩:∃n,n=bs.length:=⟨_,rfl⟩
 have HR:=fun (W:World) (hb:gC W (.slice (some ⟨lb,lo,none⟩) bs.length cap) bs)=>aS (qH bs _ W hb (by omega))
 have HV:=aS (lU bs reserve (Or.inr hr))
 have hx:=kN bs (show 0<bs.length by omega)
 have hlr:=aT bs
 obtain⟨x,hxx⟩:∃x,x=(rankOf bs)[0]! :=⟨_,rfl⟩
 have HX:=aS hxx
 obtain⟨q,hq⟩:∃q,q=bs[x]!.2:=⟨_,rfl⟩
 have hrq:reserve<q:=by rw[hq,hxx];exact hr
 have HQ:=aS hq
 have HL:=aS hl
 have HLR:=aS (hlr.trans hnn.symm)
 rw[<-hxx,<-hnn] at hx
 rw[<-hnn] at HR ⊢
 have hn0:((n:Int)==0)=false:=by rw[beq_eq_false_iff_ne];omega
 have hn0':(0:Int)<(n:Int):=by omega
 have hxz:(x:Int)<(n:Int):=by omega
 have HN:=aS hnn
 clear hlr hxx hq hr hl hnn h1 hn
 go_enter func18,ntmps18
 go_wp2_with fail
 refine (HR _ (Or.inr ⟨lb,lo,cap,by rw[HN.out],fun _=>by simp;omega,HL.out.below hll ((Below.refl _ w).alloc (Nat.le_refl _) _)⟩)).out.mono ?_
 rintro e w' hq
 obtain⟨v',rfl,⟨b,rfl,hb1,hb2,hcell⟩,hb⟩:=hq
 rw[HLR.out]
 have HB:=aS hb
 have c0:∀j,j<3->w'.cell? ⟨w.heap.size,j,none⟩=#[Value.int .i64 0,.int .i64 0,.int .u64 0][j]? :=fun j _=>by
  rw[hb.cell (p:=⟨w.heap.size,j,none⟩) (by simp)]
  simp
 have f0:∀j,w'.frozen? ⟨w.heap.size,j,none⟩=false:=fun j=>by
  rw[hb.frozen (p:=⟨w.heap.size,j,none⟩) (by simp)]
  simp
 have c00:=c0 0 (by omega)
 have c01:=c0 1 (by omega)
 have c02:=c0 2 (by omega)
 have cr:=(hcell 0 (by rw[HLR.out];omega)).1
 rw[<-HX.out] at cr
 have cq:=((HL.out.below hll ((Below.refl w.heap.size w).alloc (Nat.le_refl _) _)).below (by simp;omega) hb x (by rw[<-HN.out];exact hx)).2
 rw[<-HQ.out] at cq
 clear c0 hb hcell HR
 go_wp2
 refine bodyPost_ret (v:=iI (3,-1,0)) (by simp[results,Tryz.results18,go_sem,iI,c00,c01,c02]) rfl ⟨by rw[HV.out],?_⟩
 exact ((((((Below.refl w.heap.size w).alloc (Nat.le_refl _) _).trans (HB.out.mono (by simp))).setCell (p:=⟨w.heap.size,0,none⟩) (Nat.le_refl _) _).setCell (p:=⟨w.heap.size,1,none⟩) (Nat.le_refl _) _).setCell (p:=⟨w.heap.size,2,none⟩) (Nat.le_refl _) _)
theorem zo (bs:List Bd) (lb lo cap:Nat) (reserve:Int) (w:World) (h1:1<=bs.length) (hn:bs.length<=8796093022208) (hll:lb<w.heap.size) (hl:eh w lb lo bs) (hr:¬reserve<bs[(rankOf bs)[0]!]!.2):
  Calls prog 18 #[.slice (some ⟨lb,lo,none⟩) bs.length cap,.int .u64 reserve] w (j5 bs reserve w):=by
 obtain⟨i0,hi,hz0,hz1,hz2⟩:=info_parts Tryz.infoU
 obtain⟨n,hnn⟩:∃n,n=bs.length:=⟨_,rfl⟩
 have HR:=fun (W:World) (hb:gC W (.slice (some ⟨lb,lo,none⟩) bs.length cap) bs)=>aS (qH bs _ W hb (by omega))
 have HV:=aS (qI bs reserve h1 hr)
 have hx:=kN bs (show 0<bs.length by omega)
 have hlr:=aT bs
 obtain⟨x,hxx⟩:∃x,x=(rankOf bs)[0]! :=⟨_,rfl⟩
 have HX:=aS hxx
 obtain⟨q,hq⟩:∃q,q=bs[x]!.2:=⟨_,rfl⟩
 obtain⟨c,hc⟩:∃c,c=bs[x]!.1:=⟨_,rfl⟩
 have hrq:¬reserve<q:=by rw[hq,hxx];exact hr
 have HQ:=aS hq
 have HCc:=aS hc
 have HL:=aS hl
 have HLR:=aS (hlr.trans hnn.symm)
 rw[<-hxx,<-hnn] at hx
 rw[<-hnn] at HR h1 hn ⊢
 have hn0:((n:Int)==0)=false:=by rw[beq_eq_false_iff_ne];omega
 have hn0':(0:Int)<(n:Int):=by omega
 have hxz:(x:Int)<(n:Int):=by omega
 have HN:=aS hnn
 clear hlr hxx hq hc hr hl hnn
 go_enter func18,ntmps18
 go_wp2_with fail
 refine (HR _ (Or.inr ⟨lb,lo,cap,by rw[HN.out],fun _=>by simp;omega,HL.out.below hll ((Below.refl _ w).alloc (Nat.le_refl _) _)⟩)).out.mono ?_
 rintro e w' hq
 obtain⟨v',rfl,⟨b,rfl,hb1,hb2,hcell⟩,hb⟩:=hq
 rw[HLR.out]
 have HB:=aS hb
 have c0:∀j,j<3->w'.cell? ⟨w.heap.size,j,none⟩=#[Value.int .i64 0,.int .i64 0,.int .u64 0][j]? :=fun j _=>by
  rw[hb.cell (p:=⟨w.heap.size,j,none⟩) (by simp)]
  simp
 have f0:∀j,w'.frozen? ⟨w.heap.size,j,none⟩=false:=fun j=>by
  rw[hb.frozen (p:=⟨w.heap.size,j,none⟩) (by simp)]
  simp
 have hsw:w.heap.size + 1<=w'.heap.size:=by have:=hb.size;simp at this;omega
 have C00:=aS (c0 0 (by omega))
 have C01:=aS (c0 1 (by omega))
 have C02:=aS (c0 2 (by omega))
 have F0:=aS f0
 have HCELL:Aside (∀ p,p<n->w'.cell? ⟨b,p,none⟩=some (.int .i64 ((rankOf bs)[p]! :Int))):=fun p hp=>(hcell p (by rw[HLR.out];exact hp)).1
 have cr:=HCELL.out 0 (by omega)
 rw[<-HX.out] at cr
 have HBC:Aside (eh w' lb lo bs):=(HL.out.below hll ((Below.refl w.heap.size w).alloc (Nat.le_refl _) _)).below (by simp;omega) hb
 have cq:=(HBC.out x (by rw[<-HN.out];exact hx)).2
 rw[<-HQ.out] at cq
 clear c0 f0 hb hcell HR HL
 go_upto_region 5 with fail
 go_cut [27,28,29] (fun s27 s28 s29 wx=>∃o1:Nat,s27=.slice (some ⟨b,o1,none⟩) (n - 1) (n - 1)/\s28=.int .i64 ((n - 1:Nat):Int)/\s29=.int .i64 0/\Aside (1<n->o1=1)/\Aside (Below w'.heap.size w' wx))
 case first=>
  by_cases hn2:n=1
  ·have hn5:n<=1:=by omega
   have HNN:=aS hn2
   clear hn2
   go_wp2
   go_meet
   case rel=>exact⟨0,by simp[HNN.out],by simp[HNN.out],rfl,fun h=>by omega,Below.refl _ _⟩
  ·have hn3:1<n:=by omega
   have hn4:(1:Int)<(n:Int):=by omega
   go_wp2
   go_meet
   case rel=>exact⟨1,rfl,rfl,rfl,fun _=>rfl,Below.refl _ _⟩
 case rest=>
  obtain⟨o1,rfl,rfl,rfl,HO1,HW0⟩:=hcut
  go_wp2
  go_loopg [6,29] n (fun g vo vk wr=>∃k:Nat,vk=.int .i64 k/\k<=n - 1/\n - 1 - k<=g/\Aside (wr.ownsRow w'.heap.size 44 1 vo k (((bW bs).map (Value.int .u64)).take k))/\Aside (Below w'.heap.size w' wr))
  case atStart=>exact⟨0,rfl,by omega,by omega,World.ownsRow_nil _ _ _ _,HW0⟩
  case round=>
   obtain⟨k,rfl,hk,hg,HO,HW⟩:=hrel
   have HT:=aS (fO bs)
   have hsz:=HW.out.size
   by_cases hlt:k<n - 1
   ·have hltz:(k:Int)<((n - 1:Nat):Int):=by omega
    obtain rfl:o1=1:=HO1.out (by omega)
    obtain⟨y,hy⟩:∃y,y=(rankOf bs)[k + 1]! :=⟨_,rfl⟩
    obtain⟨z,hz⟩:∃z,z=bs[y]!.2:=⟨_,rfl⟩
    have hyn:y<n:=by rw[hy,HN.out];exact kN bs (by rw[<-HN.out];omega)
    have hyz:(y:Int)<(n:Int):=by omega
    have cy:=(HW.out.cell (p:=⟨b,k + 1,none⟩) hb2).trans (HCELL.out (k + 1) (by omega))
    rw[<-hy,Nat.add_comm k 1] at cy
    have cz:=((HBC.out.below (by omega) HW.out) y (by rw[<-HN.out];exact hyn)).2
    rw[<-hz] at cz
    have HZ:Aside ((bW bs)[k]! =z):=by rw[hz,hy];exact fU bs (by rw[<-HN.out];omega)
    have hown:=HO.out
    have HSN:Aside ((((bW bs).map (Value.int .u64)).take k)++[.int .u64 z]=((bW bs).map (Value.int .u64)).take (k + 1)):=by
     show _=_
     rw[List.take_succ_eq_append_getElem (by rw[List.length_map,HT.out,<-HN.out];omega),<-HZ.out,List.getElem_map]
     rw[getElem!_pos (bW bs) k (by rw[HT.out,<-HN.out];omega)]
    have hkm:k + 1<=maxLen:=by unfold maxLen;omega
    clear hy hz HZ HO
    go_wp2_with (first
     | (at_builtin;refine wpList_append_own _ rfl _ _ 102 rfl w'.heap.size 44 i0 (.int .u64 0) 1 8 underlying102 hi hz0 hz1 hz2 rfl (by decide) _ _ _ rfl (hown.alloc _) ⟨wr.heap.size,0,none⟩ 1 1 [.int .u64 z] rfl rfl (cell_one_new _ _ _) (by simp[Value.oneCell']) hkm (by omega) (by simp;omega) ?_)
     | fail)
    intro v' w1 hown' hgrow _
    have HW1:Aside (Below w'.heap.size w' w1):=(HW.out.alloc hsz _).grown hgrow (by simp;omega) (fun k hk=>(World.ownsRow.lt hown k hk).1)
    rw[HSN.out] at hown'
    have HO1':=aS hown'
    clear hown' hgrow hown HW cy cz HSN
    go_wp2
    go_roundg (n - 1 - (k + 1))
    case measure=>omega
    case rel=>exact⟨k + 1,by go_num,by omega,by omega,HO1',HW1⟩
   ·have hltz:¬(k:Int)<((n - 1:Nat):Int):=by omega
    have hk1:k=n - 1:=by omega
    have HO2:Aside (wr.ownsRow w'.heap.size 44 1 u6 (n - 1) ((bW bs).map (Value.int .u64))):=by
     have:=HO.out
     rw[hk1,List.take_of_length_le (by rw[List.length_map,HT.out,<-HN.out];exact Nat.le_refl _)] at this
     exact this
    clear HO hk1
    have cx:=(HW.out.cell (p:=⟨b,0,none⟩) hb2).trans cr
    have cc:=((HBC.out.below (by omega) HW.out) x (by rw[<-HN.out];exact hx)).1
    rw[<-HCc.out] at cc
    have g0:=(HW.out.cell (p:=⟨w.heap.size,0,none⟩) (by show w.heap.size<_;omega)).trans C00.out
    have g1:=(HW.out.cell (p:=⟨w.heap.size,1,none⟩) (by show w.heap.size<_;omega)).trans C01.out
    have g2:=(HW.out.cell (p:=⟨w.heap.size,2,none⟩) (by show w.heap.size<_;omega)).trans C02.out
    have gf:=fun j=>(HW.out.frozen (p:=⟨w.heap.size,j,none⟩) (by show w.heap.size<_;omega)).trans (F0.out j)
    go_wp2
    have hlen:(bW bs).length=n - 1:=by rw[HT.out,HN.out]
    have L:=fun (W:World) (ho:W.ownsRow w'.heap.size 44 1 u6 (n - 1) ((bW bs).map (Value.int .u64))) (hb:w'.heap.size<=W.heap.size)=>aS (uO (bW bs) (n - 1) w'.heap.size u6 reserve W hlen (by omega) ho hb)
    have hown:=HO2.out
    have hlb:lb<w'.heap.size:=by omega
    clear hlen HO2
    have hn0N:0<n:=by omega
    have hb1':w.heap.size + 1<=b:=by simpa using hb1
    have hneb:¬b=w.heap.size:=by omega
    have hnel:¬lb=w.heap.size:=by omega
    go_region_held3 (fun W=>W.cell? ⟨b,0,none⟩=some (.int .i64 x)/\W.cell? ⟨lb,lo + x * 2,none⟩=some (.int .i64 c))
     (first
      | go_keep
      | exact⟨(hb2'.cell (p:=⟨b,0,none⟩) hb2).trans cx,(hb2'.cell (p:=⟨lb,_,none⟩) hlb).trans cc⟩
      | exact⟨(nu hneb _ _ _).trans ((hb2'.cell (p:=⟨b,0,none⟩) hb2).trans cx),(nu hnel _ _ _).trans ((hb2'.cell (p:=⟨lb,_,none⟩) hlb).trans cc)⟩)
     (first
      | (go_at_call 48;refine (L _ ?_ ?_).out.mono ?_;exact hown.drew;exact hsz;rintro e w2 ⟨rfl,hb2'⟩;have k0:=(hb2'.cell (p:=⟨w.heap.size,0,none⟩) hsw).trans g0;have k1:=(hb2'.cell (p:=⟨w.heap.size,1,none⟩) hsw).trans g1;have k2:=(hb2'.cell (p:=⟨w.heap.size,2,none⟩) hsw).trans g2;have kf:=fun j=>(hb2'.frozen (p:=⟨w.heap.size,j,none⟩) hsw).trans (gf j)))
    all_goals
     go_wp2
     refine bodyPost_ret (v:=iI (2,c,iv (bW bs++[reserve]) (n - 1))) (by simp[results,Tryz.results18,go_sem,iI,k0,k1,k2]) rfl ⟨by rw[HV.out,<-HX.out,<-HCc.out,<-HN.out],?_⟩
     exact (((((((((Below.refl w.heap.size w).alloc (Nat.le_refl _) _).trans (HB.out.mono (by simp))).trans (HW.out.mono (by omega))).drew).trans (hb2'.mono (by omega))).setCell (p:=⟨w.heap.size,0,none⟩) (Nat.le_refl _) _).setCell (p:=⟨w.heap.size,1,none⟩) (Nat.le_refl _) _).setCell (p:=⟨w.heap.size,2,none⟩) (Nat.le_refl _) _)
theorem AF (bs:List Bd) (v:Value) (reserve:Int) (w:World) (hv:gC w v bs) (hn:bs.length<=8796093022208):Calls prog 18 #[v,.int .u64 reserve] w (j5 bs reserve w):=by
 rcases hv with ⟨h0,rfl⟩ | ⟨lb,lo,cap,rfl,hll,hl⟩
 ·exact tP _ h0 _ _
 ·cases bs with
  | nil=>exact tP _ (Or.inr ⟨_,_,rfl⟩) _ _
  | cons x l=>
   by_cases h:reserve<(x :: l)[(rankOf (x :: l))[0]!]!.2
   ·exact xF (x :: l) lb lo cap reserve w (by simp) hn (hll (by simp)) hl h
   ·exact zo (x :: l) lb lo cap reserve w (by simp) hn (hll (by simp)) hl h
