/- sha's (*state).take, walked: one block. -/
import Derived.Test.YtfnekbfcndkjeaaGreatDoorZShaPlain
import Derived.Lib.ConvBytes
import Derived.Deep.RegionHeld3
import Derived.Deep.DeepCutAuto
set_option maxHeartbeats 8000000
set_option maxRecDepth 100000
set_option linter.all false
namespace Go.Proofs.YtfnekbfcndkjeaaGreatDoor
open Go.Proofs.Tryz Go.RowKit
def dy (B:Nat->Int) (A t:Nat) (x:Int) (W:World):Prop:=
 ∀j,j<64->W.cell? ⟨A,j,none⟩=some (.int .u32 (if j<t then wd B j else if j=t then x else 0))/\W.frozen? ⟨A,j,none⟩=false
theorem dy.on {B:Nat->Int} {A t:Nat} {x:Int} {W W':World} (h:dy B A t x W) (hb:Below W.heap.size W W'):dy B A t x W':=fun j hj=>
 have hA:=aC (h j hj).1
 ⟨(hb.cell hA).trans (h j hj).1,(hb.frozen hA).trans (h j hj).2⟩
theorem dy.set {B:Nat->Int} {A t:Nat} {x:Int} {W:World} (h:dy B A t x W) (ht:t<64) (y:Int):dy B A t y (W.setCell ⟨A,t,none⟩ (.int .u32 y)):=fun j hj=>by
 refine⟨?_,by rw[World.frozen?_setCell];exact (h j hj).2⟩
 by_cases e:j=t
 ·subst e
  rw[World.cell?_setCell_same _ _ _ (h j hj).1,if_neg (by omega),if_pos rfl]
 ·rw[World.cell?_setCell_other _ _ _ _ (by intro e';simp only[Addr.mk.injEq] at e';omega),(h j hj).1,if_neg e,if_neg e]
theorem dy.next {B:Nat->Int} {A t:Nat} {W:World} (h:dy B A t (wd B t) W):dy B A (t + 1) 0 W:=fun j hj=>by
 refine⟨?_,(h j hj).2⟩
 rw[(h j hj).1]
 by_cases e:j<t
 ·rw[if_pos e,if_pos (by omega)]
 ·by_cases e2:j=t
  ·rw[if_neg e,if_pos e2,if_pos (by omega),e2]
  ·rw[if_neg e,if_neg e2,if_neg (by omega),ite_self]
theorem dy.low {B:Nat->Int} {A t j:Nat} {x:Int} {W:World} (h:dy B A t x W) (hj:j<t) (ht:t<=64):W.cell? ⟨A,j,none⟩=some (.int .u32 (wd B j)):=by
 rw[(h j (by omega)).1,if_pos hj]
theorem Aj {W:World} {A t:Nat} {x2 x7 x15 x16:Int} {v:Value} (h:W.cell? ⟨A,t - 2,none⟩=some (.int .u32 x2)/\W.cell? ⟨A,t - 7,none⟩=some (.int .u32 x7)/\W.cell? ⟨A,t - 15,none⟩=some (.int .u32 x15)/\W.cell? ⟨A,t - 16,none⟩=some (.int .u32 x16)) (h16:16<=t):
  (W.setCell ⟨A,t,none⟩ v).cell? ⟨A,t - 2,none⟩=some (.int .u32 x2)/\(W.setCell ⟨A,t,none⟩ v).cell? ⟨A,t - 7,none⟩=some (.int .u32 x7)/\(W.setCell ⟨A,t,none⟩ v).cell? ⟨A,t - 15,none⟩=some (.int .u32 x15)/\(W.setCell ⟨A,t,none⟩ v).cell? ⟨A,t - 16,none⟩=some (.int .u32 x16):=by
 obtain⟨a,b,c,d⟩:=h
 refine⟨?_,?_,?_,?_⟩
 ·rw[World.cell?_setCell_other _ _ _ _ (by intro e;simp only[Addr.mk.injEq] at e;omega)];exact a
 ·rw[World.cell?_setCell_other _ _ _ _ (by intro e;simp only[Addr.mk.injEq] at e;omega)];exact b
 ·rw[World.cell?_setCell_other _ _ _ _ (by intro e;simp only[Addr.mk.injEq] at e;omega)];exact c
 ·rw[World.cell?_setCell_other _ _ _ _ (by intro e;simp only[Addr.mk.injEq] at e;omega)];exact d
theorem yM {W:World} {A t:Nat} {x2 x7 x15 x16:Int} (h:W.cell? ⟨A,t - 2,none⟩=some (.int .u32 x2)/\W.cell? ⟨A,t - 7,none⟩=some (.int .u32 x7)/\W.cell? ⟨A,t - 15,none⟩=some (.int .u32 x15)/\W.cell? ⟨A,t - 16,none⟩=some (.int .u32 x16)):
  W.drew.cell? ⟨A,t - 2,none⟩=some (.int .u32 x2)/\W.drew.cell? ⟨A,t - 7,none⟩=some (.int .u32 x7)/\W.drew.cell? ⟨A,t - 15,none⟩=some (.int .u32 x15)/\W.drew.cell? ⟨A,t - 16,none⟩=some (.int .u32 x16):=h
theorem vZ {W:World} {A t:Nat} {x2 x7 x15 x16:Int} (n:Nat) (h:W.cell? ⟨A,t - 2,none⟩=some (.int .u32 x2)/\W.cell? ⟨A,t - 7,none⟩=some (.int .u32 x7)/\W.cell? ⟨A,t - 15,none⟩=some (.int .u32 x15)/\W.cell? ⟨A,t - 16,none⟩=some (.int .u32 x16)):
  (W.drewN n).cell? ⟨A,t - 2,none⟩=some (.int .u32 x2)/\(W.drewN n).cell? ⟨A,t - 7,none⟩=some (.int .u32 x7)/\(W.drewN n).cell? ⟨A,t - 15,none⟩=some (.int .u32 x15)/\(W.drewN n).cell? ⟨A,t - 16,none⟩=some (.int .u32 x16):=h
theorem qf {B:Nat->Int} {A t:Nat} {W:World} (h:dy B A t 0 W) (ht:t<64) (n:Nat) (v:Int) (hv:v=wd B t):dy B A (t + 1) 0 ((W.drewN n).setCell ⟨A,t,none⟩ (.int .u32 v)):=by
 subst hv
 exact ((h.on (ay W n)).set ht _).next
theorem qg {w W:World} {A:Nat} (h:Below w.heap.size w W) (hA:A=w.heap.size) (n t:Nat) (v:Value):Below w.heap.size w ((W.drewN n).setCell ⟨A,t,none⟩ v):=
 (ar w _ _ h (ay W n)).setCell (p:=⟨A,t,none⟩) (by rw[hA];exact Nat.le_refl _) v
theorem rM (kk:Array Value) (t:Nat) (v:Int) (ht:t<64) (h:kk[t]?=some (.int .u32 v)) (W:World):(Instr.index 235 (.agg kk) (.int .i64 (t:Int))).run prog W=.ok (.int .u32 v) W:=by
 have a:=Tryz.isAgg172
 have z:=Tryz.sizeOf172
 simp[Instr.index,go_sem,part,a,z,h,asIntOf]
 intro h2
 omega
theorem ub (cs:Array Value) (t:Nat) (v:Int) (ht:t<8) (h:cs[t]?=some (.int .u32 v)) (W:World):(Instr.index 173 (.agg cs) (.int .i64 (t:Int))).run prog W=.ok (.int .u32 v) W:=by
 have a:=Tryz.isAgg172
 have z:=Tryz.sizeOf172
 simp[Instr.index,go_sem,part,a,z,h,asIntOf]
 intro h2
 omega
theorem mH (z:S8) (i:Nat) (hi:i<8):(#[Value.int .u32 z.a,.int .u32 z.b,.int .u32 z.c,.int .u32 z.d,.int .u32 z.e,.int .u32 z.f,.int .u32 z.g,.int .u32 z.h]:Array Value)[i]?=some (.int .u32 (z.get i)):=by
 match i,hi with
 | 0,_ | 1,_ | 2,_ | 3,_ | 4,_ | 5,_ | 6,_ | 7,_=>rfl
 | _ + 8,h=>omega
def il (b i:Nat) (s x:S8) (W:World):Prop:=∀j,j<8->W.cell? ⟨b,j,none⟩=some (.int .u32 (if j<i then (pk s x).get j else s.get j))/\W.frozen? ⟨b,j,none⟩=false
theorem il.step {b i:Nat} {s x:S8} {W:World} (h:il b i s x W) (hi:i<8) (v:Int) (hv:v=(pk s x).get i):il b (i + 1) s x (W.setCell ⟨b,i,none⟩ (.int .u32 v)):=fun j hj=>by
 refine⟨?_,by rw[World.frozen?_setCell];exact (h j hj).2⟩
 by_cases e:j=i
 ·subst e
  rw[World.cell?_setCell_same _ _ _ (h j hj).1,if_pos (by omega),hv]
 ·rw[World.cell?_setCell_other _ _ _ _ (by intro e';simp only[Addr.mk.injEq] at e';omega),(h j hj).1]
  by_cases e2:j<i
  ·rw[if_pos e2,if_pos (by omega)]
  ·rw[if_neg e2,if_neg (by omega)]
def gi (b:Nat) (w W:World):Prop:=∀j,8<=j->W.cell? ⟨b,j,none⟩=w.cell? ⟨b,j,none⟩/\W.frozen? ⟨b,j,none⟩=w.frozen? ⟨b,j,none⟩
theorem gi.set {b i:Nat} {w W:World} (h:gi b w W) (hi:i<8) (v:Value):gi b w (W.setCell ⟨b,i,none⟩ v):=fun j hj=>
 ⟨by rw[World.cell?_setCell_other _ _ _ _ (by intro e';simp only[Addr.mk.injEq] at e';omega)];exact (h j hj).1,by rw[World.frozen?_setCell];exact (h j hj).2⟩
theorem il.drew {b i:Nat} {s x:S8} {W:World} (h:il b i s x W):il b i s x W.drew:=h
theorem gi.drew {b:Nat} {w W:World} (h:gi b w W):gi b w W.drew:=h
def we (b:Nat) (K:Nat->Int) (st:S8) (s:ByteArray) (w:World) (e:Ending) (w':World):Prop:=
 e=.returned (.tuple #[])/\am (·≠b) w w'/\(∀ j,j<8->w'.cell? ⟨b,j,none⟩=some (.int .u32 ((em K st s).get j))/\w'.frozen? ⟨b,j,none⟩=false)/\gi b w w'
def wg (s:ByteArray) (C t:Nat) (W:World):Prop:=∀k,k<4->W.cell? ⟨C,k,none⟩=some (.int .u8 (bf s (4 * t + k)))
theorem i8 (w:World) (e:TypeId) (s:ByteArray):Below w.heap.size w (Lib.bytesWorld w e s):=
 ⟨by simp[Lib.bytesWorld,World.freeze,World.alloc,World.drew,-World.alloc_eq,-World.drew_eq],by simp[Lib.bytesWorld,World.freeze,World.alloc,World.drew,-World.alloc_eq,-World.drew_eq],by simp[Lib.bytesWorld,World.freeze,World.alloc,World.drew,-World.alloc_eq,-World.drew_eq],by rw[Lib.bytesWorld_size];omega,fun k hk=>Lib.bytesWorld_at_old w e s k hk⟩
theorem qh (B:Nat->Int) (w:World) (cs:Array Value) (hc:cs=Array.replicate 64 (.int .u32 0)):dy B w.heap.size 0 0 (w.alloc (.cells cs 235)):=fun j hj=>by
 subst hc
 have h:(w.alloc (.cells (Array.replicate 64 (.int .u32 0)) 235)).heap[w.heap.size]?=some (.cells (Array.replicate 64 (.int .u32 0)) 235 (0,0)):=by
  show (w.heap.push _)[w.heap.size]?=_
  simp
 refine⟨?_,?_⟩
 ·unfold World.cell?
  simp only[h]
  simp[hj]
 ·unfold World.frozen?
  simp only[h]
  simp
def iQ (kk:Array Value) (w:World):Prop:=∃T fr,w.heap[2]?=some (.cells kk T fr)
theorem iQ.lt {kk:Array Value} {w:World} (h:iQ kk w):2<w.heap.size:=by
 obtain⟨_,_,h⟩:=h
 exact (Array.getElem?_eq_some_iff.1 h).1
theorem iQ.of_block {kk:Array Value} {w w':World} (h:iQ kk w) (e:w'.heap[2]?=w.heap[2]?):iQ kk w':=by
 obtain⟨T,fr,h⟩:=h
 exact⟨T,fr,e.trans h⟩
theorem wh (b:Nat) (s:ByteArray) (w:World) (hs:s.size=64) (hbl:b<w.heap.size) (kk:Array Value) (hkz:kk.size=64) (K:Nat->Int) (hk:iQ kk w) (hK:∀j,j<64->kk[j]?=some (.int .u32 (K j)))
  (st:S8) (hst:st.ok) (hc:∀j,j<8->w.cell? ⟨b,j,none⟩=some (.int .u32 (st.get j))/\w.frozen? ⟨b,j,none⟩=false):
  Calls prog 163 #[.pointer (some ⟨b,0,none⟩),.string s] w (we b K st s w):=by
 have HKK:=ac hk
 have HK:=ac hK
 have HS:=ac hs
 have HC:=ac hc
 have HST:=ac hst
 have HBL:=ac hbl
 have hsz:s.size<=64:=by omega
 have hsz':64<=s.size:=by omega
 clear hk hs hK hc hst hbl
 go_enter func163,ntmps163
 go_upto_region 1 with fail
 rw[show (#[Value.int IntKind.u32 0,Value.int IntKind.u32 0,Value.int IntKind.u32 0,Value.int IntKind.u32 0,Value.int IntKind.u32 0,Value.int IntKind.u32 0,Value.int IntKind.u32 0,Value.int IntKind.u32 0,Value.int IntKind.u32 0,Value.int IntKind.u32 0,Value.int IntKind.u32 0,Value.int IntKind.u32 0,Value.int IntKind.u32 0,Value.int IntKind.u32 0,Value.int IntKind.u32 0,Value.int IntKind.u32 0,Value.int IntKind.u32 0,Value.int IntKind.u32 0,Value.int IntKind.u32 0,Value.int IntKind.u32 0,Value.int IntKind.u32 0,Value.int IntKind.u32 0,Value.int IntKind.u32 0,Value.int IntKind.u32 0,Value.int IntKind.u32 0,Value.int IntKind.u32 0,Value.int IntKind.u32 0,Value.int IntKind.u32 0,Value.int IntKind.u32 0,Value.int IntKind.u32 0,Value.int IntKind.u32 0,Value.int IntKind.u32 0,Value.int IntKind.u32 0,Value.int IntKind.u32 0,Value.int IntKind.u32 0,Value.int IntKind.u32 0,Value.int IntKind.u32 0,Value.int IntKind.u32 0,Value.int IntKind.u32 0,Value.int IntKind.u32 0,Value.int IntKind.u32 0,Value.int IntKind.u32 0,Value.int IntKind.u32 0,Value.int IntKind.u32 0,Value.int IntKind.u32 0,Value.int IntKind.u32 0,Value.int IntKind.u32 0,Value.int IntKind.u32 0,Value.int IntKind.u32 0,Value.int IntKind.u32 0,Value.int IntKind.u32 0,Value.int IntKind.u32 0,Value.int IntKind.u32 0,Value.int IntKind.u32 0,Value.int IntKind.u32 0,Value.int IntKind.u32 0,Value.int IntKind.u32 0,Value.int IntKind.u32 0,Value.int IntKind.u32 0,Value.int IntKind.u32 0,Value.int IntKind.u32 0,Value.int IntKind.u32 0,Value.int IntKind.u32 0,Value.int IntKind.u32 0]:Array Value)=Array.replicate 64 (.int .u32 0) from rfl]
 obtain⟨w1,hw1⟩:∃x,x=w.alloc (.cells (Array.replicate 64 (.int .u32 0)) 235):=⟨_,rfl⟩
 obtain⟨A,hA⟩:∃x,x=w.heap.size:=⟨_,rfl⟩
 have HW1:aa (dy (bf s) A 0 0 w1):=by rw[hw1,hA];exact qh _ _ _ rfl
 have HB1:aa (Below w.heap.size w w1):=by rw[hw1];exact af _ _
 have HA:=ac hA
 rw[<-hw1,<-hA]
 clear hw1 hA
 have kc:=fun (W:World) (t:Nat)=>Lib.run_convert_string_bytes (P:=prog) W 9 22 5 (s.extract (4 * t) (4 * t + 4)) underlying9 underlying22 underlying5
 have KC:=ac kc
 clear kc
 go_wp2
 go_loopg [5,7,22] 64 (fun g v5 v7 v22 wr=>∃t:Nat,v22=.int .i64 t/\t<=64/\64 - t<=g/\aa (dy (bf s) A t 0 wr)/\aa (Below w.heap.size w wr))
 case atStart=>exact⟨0,rfl,by omega,by omega,HW1,HB1⟩
 case round=>
  obtain⟨t,rfl,ht,hg,HW,HB⟩:=hrel
  clear HW1 HB1
  by_cases h64:t<64
  ·have hz64:(t:Int)<64:=by omega
   by_cases h16:16<=t
   ·skip
    have hz16:(16:Int)<=t:=by omega
    have c2:=HW.out.low (j:=t - 2) (by omega) ht
    have c7:=HW.out.low (j:=t - 7) (by omega) ht
    have c15:=HW.out.low (j:=t - 15) (by omega) ht
    have c16:=HW.out.low (j:=t - 16) (by omega) ht
    have c0:=(HW.out t h64).1
    have f0:=(HW.out t h64).2
    rw[if_neg (by omega),if_pos rfl] at c0
    have HWH:=ac (pj (bf s) t h16)
    obtain⟨x2,hx2⟩:∃x,x=wd (bf s) (t - 2):=⟨_,rfl⟩
    obtain⟨x7,hx7⟩:∃x,x=wd (bf s) (t - 7):=⟨_,rfl⟩
    obtain⟨x15,hx15⟩:∃x,x=wd (bf s) (t - 15):=⟨_,rfl⟩
    obtain⟨x16,hx16⟩:∃x,x=wd (bf s) (t - 16):=⟨_,rfl⟩
    rw[<-hx2] at c2 HWH
    rw[<-hx7] at c7 HWH
    rw[<-hx15] at c15 HWH
    rw[<-hx16] at c16 HWH
    clear hx2 hx7 hx15 hx16 KC
    have e2:IntKind.i64.wrap ((t:Int) - 2)=(t:Int) - 2:=IntWalk.i64_in _ (by omega)
    have u2:(t:Int) - 2<64:=by omega
    have z2:((t:Int) - 2).toNat=t - 2:=by omega
    have l2:(2:Int)<=(t:Int):=by omega
    have e7:IntKind.i64.wrap ((t:Int) - 7)=(t:Int) - 7:=IntWalk.i64_in _ (by omega)
    have u7:(t:Int) - 7<64:=by omega
    have z7:((t:Int) - 7).toNat=t - 7:=by omega
    have l7:(7:Int)<=(t:Int):=by omega
    have e15:IntKind.i64.wrap ((t:Int) - 15)=(t:Int) - 15:=IntWalk.i64_in _ (by omega)
    have u15:(t:Int) - 15<64:=by omega
    have z15:((t:Int) - 15).toNat=t - 15:=by omega
    have l15:(15:Int)<=(t:Int):=by omega
    have e16:IntKind.i64.wrap ((t:Int) - 16)=(t:Int) - 16:=IntWalk.i64_in _ (by omega)
    have u16:(t:Int) - 16<64:=by omega
    have z16:((t:Int) - 16).toNat=t - 16:=by omega
    go_wp2_with fail
    go_region_held3 (fun W=>W.cell? ⟨A,t - 2,none⟩=some (.int .u32 x2)/\W.cell? ⟨A,t - 7,none⟩=some (.int .u32 x7)/\W.cell? ⟨A,t - 15,none⟩=some (.int .u32 x15)/\W.cell? ⟨A,t - 16,none⟩=some (.int .u32 x16)) (first | exact Aj (by assumption) h16 | exact yM ⟨c2,c7,c15,c16⟩ | exact vZ _ ⟨c2,c7,c15,c16⟩) ((go_at_call 165;refine (vV _ _ _ _ _ (by simp)).mono ?_;rintro e w1 ⟨rfl,n1,rfl⟩))
    clear c2 c7 c15 c16 c0 f0 e2 e7 e15 e16 u2 u7 u15 u16 z2 z7 z15 z16 l2 l7 l15
    go_wp2
    go_roundg (64 - (t + 1))
    case measure=>omega
    case rel=>
     exact⟨t + 1,by go_num,by omega,by omega,qf HW.out h64 _ _ (by rw[HWH.out];simp only[rK];omega),qg HB.out HA.out _ _ _⟩
   ·skip
    have hz16:¬(16:Int)<=t:=by omega
    have hs4:4 * t + 4<=s.size:=by omega
    have hzz:4 * (t:Int) + 4<=64:=by omega
    have kc:=fun W=>KC.out W t
    clear KC
    go_wp2
    obtain⟨C,hC⟩:∃x,x=wr.heap.size:=⟨_,rfl⟩
    obtain⟨w2,hw2⟩:∃x,x=Lib.bytesWorld wr 5 (s.extract (4 * t) (4 * t + 4)):=⟨_,rfl⟩
    have hsx:(s.extract (4 * t) (4 * t + 4)).size=4:=by rw[ByteArray.size_extract];omega
    have HF2:aa (wg s C t w2):=fun k hk=>by
     rw[hw2,hC,Lib.bytesWorld_cell _ _ _ _ (by rw[hsx];exact hk)]
     have:=i6 s (4 * t) (4 * t + 4) k (by omega)
     unfold bf at this
     rw[this]
     rfl
    have HN2:Below wr.heap.size wr w2:=by rw[hw2];exact i8 _ _ _
    have HW2:=ac (HW.out.on HN2)
    have HB2:=ac (ar w _ _ HB.out HN2)
    have hAC:A≠C:=by have:=aC (HW.out 0 (by omega)).1;simp only at this;omega
    have HWL:=ac (rL (bf s) t (by omega))
    rw[<-hC,<-hw2]
    clear hw2 hC hsx HN2 HW HB kc
    go_loopg [7,59] 4 (fun g v7 v59 wr=>∃k:Nat,v59=.int .i64 k/\k<=4/\4 - k<=g/\aa (dy (bf s) A t (jV (bf s) t k) wr)/\aa (wg s C t wr)/\aa (Below w.heap.size w wr))
    case atStart=>exact⟨0,rfl,by omega,by omega,HW2,HF2,HB2⟩
    case round=>
     clear HW2 HF2 HB2
     obtain⟨k,rfl,hk,hgk,HW,HF,HB⟩:=hrel
     by_cases h4:k<4
     ·skip
      have hk4:(k:Int)<4:=by omega
      have c0:=(HW.out t h64).1
      have f0:=(HW.out t h64).2
      rw[if_neg (by omega),if_pos rfl] at c0
      have q0:=HF.out k h4
      have HBT:aa (jV (bf s) t (k + 1)=yJ (jV (bf s) t k) (bf s (4 * t + k))):=rfl
      obtain⟨x,hx⟩:∃x,x=jV (bf s) t k:=⟨_,rfl⟩
      obtain⟨y,hy⟩:∃x,x=bf s (4 * t + k):=⟨_,rfl⟩
      have hy8:=li s (4 * t + k)
      rw[<-hx] at c0 HBT HW
      rw[<-hy] at q0 HBT hy8
      obtain⟨hy0,hy1⟩:=hy8
      clear hx hy
      go_wp2
      go_roundg (4 - (k + 1))
      case measure=>omega
      case rel=>
       refine⟨k + 1,by go_num,by omega,by omega,?_,fun j hj=>?_,HB.out.setCell (p:=⟨A,t,none⟩) (by rw[HA.out];exact Nat.le_refl _) _⟩
       ·rw[HBT.out]
        exact HW.out.set h64 _
       ·rw[World.cell?_setCell_other _ _ _ _ (by intro e';simp only[Addr.mk.injEq] at e';omega)]
        exact HF.out j hj
     ·skip
      have hk4:¬(k:Int)<4:=by omega
      obtain rfl:k=4:=by omega
      have HW4:aa (dy (bf s) A (t + 1) 0 wr):=by have:=HW.out;rw[<-HWL.out] at this;exact this.next
      clear HW HF
      go_wp2
      go_roundg (64 - (t + 1))
      case measure=>omega
      case rel=>exact⟨t + 1,by go_num,by omega,by omega,HW4,HB⟩
  ·skip
   have hz64:¬(t:Int)<64:=by omega
   obtain rfl:t=64:=by omega
   clear KC hg ht h64
   have hcc:∀j,j<8->wr.cell? ⟨b,j,none⟩=some (.int .u32 (st.get j)):=fun j hj=>(HB.out.cell HBL.out).trans (HC.out j hj).1
   have c0:wr.cell? ⟨b,0,none⟩=some (.int .u32 st.a):=hcc 0 (by omega)
   have c1:wr.cell? ⟨b,1,none⟩=some (.int .u32 st.b):=hcc 1 (by omega)
   have c2:wr.cell? ⟨b,2,none⟩=some (.int .u32 st.c):=hcc 2 (by omega)
   have c3:wr.cell? ⟨b,3,none⟩=some (.int .u32 st.d):=hcc 3 (by omega)
   have c4:wr.cell? ⟨b,4,none⟩=some (.int .u32 st.e):=hcc 4 (by omega)
   have c5:wr.cell? ⟨b,5,none⟩=some (.int .u32 st.f):=hcc 5 (by omega)
   have c6:wr.cell? ⟨b,6,none⟩=some (.int .u32 st.g):=hcc 6 (by omega)
   have c7:wr.cell? ⟨b,7,none⟩=some (.int .u32 st.h):=hcc 7 (by omega)
   clear hcc
   go_wp2_with fail
   go_quiet (fail)
   clear c0 c1 c2 c3 c4 c5 c6 c7
   have HW5:aa (dy (bf s) A 64 0 (wr.drewN nq)):=HW.out.on (ay _ _)
   have HB5:aa (Below w.heap.size w (wr.drewN nq)):=ar w _ _ HB.out (ay _ _)
   clear HW HB
   generalize wr.drewN nq=w3 at HW5 HB5 ⊢
   obtain⟨kT,kF,hkk⟩:=HKK.out.of_block (HB5.out.block _ HKK.out.lt)
   have HKZ:=ac hkz
   have hi:(prog.info? 235).map (·.size)=some kk.size:=by rw[hkz];kernel_rfl
   clear hkz
   go_wp2_with (first | (refine wpList_load_row rfl _ _ rfl 2 rfl kT kk kF _ hkk underlying235 rfl hi ?_) | fail)
   obtain⟨B,hB⟩:∃x,x=wd (bf s):=⟨_,rfl⟩
   have HBB:=ac hB
   have hBk:∀j,0<=B j/\B j<=4294967295:=by rw[hB];exact Ai (bf s)
   have HBk:=ac hBk
   have HWd:aa (∀ j,j<64->w3.cell? ⟨A,j,none⟩=some (.int .u32 (B j))):=by rw[hB];exact fun j hj=>HW5.out.low hj (Nat.le_refl _)
   clear hkk hi HW5 hB hBk
   go_loopg [8,9,10,11,12,13,14,15,16,17,18,19,107] 64 (fun g v8 v9 v10 v11 v12 v13 v14 v15 v16 v17 v18 v19 v107 wr=>∃(t:Nat) (z:S8),v107=.int .i64 t/\t<=64/\64 - t<=g/\aa (z=mF K B st t)/\v8=.int .u32 z.a/\v9=.int .u32 z.b/\v10=.int .u32 z.c/\v11=.int .u32 z.d/\v12=.int .u32 z.e/\v13=.int .u32 z.f/\v14=.int .u32 z.g/\v15=.int .u32 z.h/\aa (Below w3.heap.size w3 wr))
   case atStart=>exact⟨0,st,rfl,by omega,by omega,rfl,rfl,rfl,rfl,rfl,rfl,rfl,rfl,rfl,Below.refl _ _⟩
   case round=>
    obtain⟨t,z,rfl,ht,hg,HZ,rfl,rfl,rfl,rfl,rfl,rfl,rfl,rfl,HB6⟩:=hrel
    have HZO:aa z.ok:=by rw[aa,HZ.out];exact mG K B st HST.out t
    by_cases h64:t<64
    ·skip
     have hz64:(t:Int)<64:=by omega
     have hidx:=fun W=>rM kk t (K t) h64 (HK.out t h64) W
     have cw:=(vQ (fun j=>j<64) (fun j=>⟨A,j,none⟩) (fun j=>.int .u32 (B j)) _ _ HWd.out HB6.out) t h64
     obtain⟨za,zb,zc,zd,ze,zf,zg,zh⟩:=z
     obtain⟨k,hk⟩:∃x,x=K t:=⟨_,rfl⟩
     obtain⟨x,hx⟩:∃x,x=B t:=⟨_,rfl⟩
     have HKt:=ac hk
     have HXt:=ac hx
     have hrE:=mD 6 11 25 ze
     have hrA:=mD 2 13 22 za
     rw[<-hk] at hidx
     rw[<-hx] at cw
     simp only
     clear hk hx
     go_wp2_with fail
     go_quiet ((go_at_call 166;exact kq (oy _ _ _ _ _ (by simp))))
     have HB7:aa (Below w3.heap.size w3 (wr.drewN nq)):=ar w3 _ _ HB6.out (ay _ _)
     clear HB6 hidx cw
     generalize wr.drewN nq=w4 at HB7 ⊢
     go_wp2_with (go_at_call 166;refine (oy _ _ _ _ _ (by simp)).mono ?_;rintro e w' ⟨rfl,rfl⟩)
     go_roundg (64 - (t + 1))
     case measure=>omega
     case rel=>
      refine⟨t + 1,i7 ⟨za,zb,zc,zd,ze,zf,zg,zh⟩ k x,by go_num,by omega,by omega,?_,?_,rfl,rfl,rfl,?_,rfl,rfl,rfl,HB7⟩
      ·rw[HKt.out,HXt.out,HZ.out];rfl
      ·refine congrArg (Value.int IntKind.u32) ?_
       simp only[i7,vX,yK]
       try omega
      ·refine congrArg (Value.int IntKind.u32) ?_
       simp only[i7,vX,yK]
       try omega
    ·skip
     have hz64:¬(t:Int)<64:=by omega
     have HZ64:aa (pk st z=em K st s):=by
      rw[aa,HZ.out,HBB.out]
      exact oz K st s t (by omega)
     clear HZ ht hg h64 HWd HZO HBk HBB HKZ HK HST
     obtain⟨B6,hB6⟩:∃x,x=w3.heap.size:=⟨_,rfl⟩
     have HA0:aa (il b 0 st z wr):=fun j hj=>by
      have h1:=HC.out j hj
      have hb:=aD HB5.out HB6.out
      exact⟨by rw[hb.cell HBL.out,if_neg (by omega)];exact h1.1,(hb.frozen HBL.out).trans h1.2⟩
     have HT0:aa (gi b w wr):=fun j hj=>by
      have hb:=aD HB5.out HB6.out
      exact⟨hb.cell HBL.out,hb.frozen HBL.out⟩
     have HK0:aa (am (·≠b) w wr):=ak (aD HB5.out HB6.out) _
     clear HB5 HB6 hB6
     go_wp2
     go_loopg [20,21,163] 8 (fun g v20 v21 v163 wr=>∃i:Nat,v163=.int .i64 i/\i<=8/\8 - i<=g/\aa (il b i st z wr)/\aa (gi b w wr)/\aa (am (·≠b) w wr))
     case atStart=>exact⟨0,rfl,by omega,by omega,HA0,HT0,HK0⟩
     case round=>
      clear HA0 HT0 HK0
      obtain⟨i,rfl,hi,hg,HA,HT,HK9⟩:=hrel
      by_cases h8:i<8
      ·skip
       have hz8:(i:Int)<8:=by omega
       have hzi:(0:Int)<=(i:Int):=by omega
       have hidx:=fun W=>ub #[.int .u32 z.a,.int .u32 z.b,.int .u32 z.c,.int .u32 z.d,.int .u32 z.e,.int .u32 z.f,.int .u32 z.g,.int .u32 z.h] i (z.get i) h8 (mH z i h8) W
       have c0:=(HA.out i h8).1
       have f0:=(HA.out i h8).2
       rw[if_neg (by omega)] at c0
       have HG:=ac (qe st z i h8)
       obtain⟨y,hy⟩:∃x,x=st.get i:=⟨_,rfl⟩
       obtain⟨x,hx⟩:∃x,x=z.get i:=⟨_,rfl⟩
       rw[<-hy] at c0 HG
       rw[<-hx] at hidx HG
       clear hy hx
       go_wp2_with fail
       go_region
       all_goals
        go_wp2
        go_roundg (8 - (i + 1))
        case measure=>omega
        case rel=>
         exact⟨i + 1,by go_num,by omega,by omega,il.drew (HA.out.step h8 _ (by rw[HG.out];try rw[IntKind.wrap_u32])),gi.drew (HT.out.set h8 _),am.drew (HK9.out.setCell (p:=⟨b,i,none⟩) (.inr (fun h=>h rfl)) _)⟩
      ·skip
       have hz8:¬(i:Int)<8:=by omega
       go_wp2
       go_end0
       refine⟨rfl,HK9.out,fun j hj=>?_,HT.out⟩
       have:=HA.out j hj
       rw[if_pos (by omega),HZ64.out] at this
       exact this
