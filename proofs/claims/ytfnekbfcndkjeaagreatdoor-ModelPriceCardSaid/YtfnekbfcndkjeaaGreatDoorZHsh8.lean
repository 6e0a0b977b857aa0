/- The document's words of a block, walked. -/
import Derived.Test.YtfnekbfcndkjeaaGreatDoorZHsh5
set_option maxHeartbeats 4000000
set_option maxRecDepth 100000
set_option linter.all false
namespace Go.Proofs.YtfnekbfcndkjeaaGreatDoor
open Go.Proofs.Tryz Go.RowKit
def o4 (blk:ByteArray) (g lo:Nat) (w:World):Prop:=g<w.heap.size/\∀j,j<64->w.cell? ⟨g,lo + j,none⟩=some (.int .u8 (bf blk j))
theorem o4.on {blk:ByteArray} {g lo:Nat} {w w':World} (h:o4 blk g lo w) (hb:Below w.heap.size w w'):o4 blk g lo w':=
 ⟨Nat.lt_of_lt_of_le h.1 hb.size,fun j hj=>(hb.cell (p:=⟨g,lo + j,none⟩) h.1).trans (h.2 j hj)⟩
theorem xS (x k:Int) (w:World) (hk:k=6\/k=11\/k=25\/k=2\/k=13\/k=22):Calls prog 129 #[.int .u32 x,.int .u64 k] w fun e w'=>e=.returned (.int .u32 (cL k.natAbs x))/\w=w':=by
 have sw:∀{k:Nat},Calls prog 129 #[.int .u32 x,.int .u64 k] w (fun e w'=>e=.returned (.int .u32 (cL k x))/\w'=w)->Calls prog 129 #[.int .u32 x,.int .u64 k] w (fun e w'=>e=.returned (.int .u32 (cL k x))/\w=w'):=fun h=>h.mono fun _ _ ⟨a,b⟩=>⟨a,b.symm⟩
 rcases hk with rfl | rfl | rfl | rfl | rfl | rfl
 ·exact sw (Bt x w)
 ·exact sw (A5 x w)
 ·exact sw (Bc x w)
 ·exact sw (Br x w)
 ·exact sw (A6 x w)
 ·exact sw (Bb x w)
theorem kS (B:Nat->Int) (t:Nat):bJ B (t + 1)=bJ B t++[wd B t]:=by
 have e:bJ B (t + 1)=bJ B t++[if t<16 then jV B t 4 else rK (bJ B t)[t - 2]! (bJ B t)[t - 7]! (bJ B t)[t - 15]! (bJ B t)[t - 16]!]:=rfl
 have h:wd B t=(if t<16 then jV B t 4 else rK (bJ B t)[t - 2]! (bJ B t)[t - 7]! (bJ B t)[t - 15]! (bJ B t)[t - 16]!):=by
  rw[wd,e,getElem!_pos _ t (by simp[bE]),List.getElem_append_right (by simp[bE])]
  simp[bE]
 rw[e,h]
theorem iM (B:Nat->Int) (t j:Nat) (hj:j<t):(bJ B t)[j]?=some (wd B j):=by
 have hg:=dT B t j hj
 rw[getElem!_pos _ j (by rw[bE];exact hj)] at hg
 rw[List.getElem?_eq_getElem (by rw[bE];exact hj),hg]
theorem kU {w w2 w3:World} {o:Obj} {v:Value} {B:Nat} (hB:w.heap.size<=B) (h:Below w.heap.size w w2) (ho:∀j,v.ownBlock=some j->B<=j) (hg:(w2.alloc o).drew.grownBy w3 v.ownBlock):Below w.heap.size w w3:=by
 have hk3:am (·<w.heap.size) w2 w3:=(ak (aD (af _ _) (aA _)) _).trans (aF hg _ (fun j hj h=>by have:=ho j hj;omega))
 exact h.trans (hk3.below h.size)
def ol (g i0 i1 i2 i3:Nat) (x0 x1 x2 x3:Int) (w:World):Prop:=w.cell? ⟨g,i0,none⟩=some (.int .u8 x0)/\w.cell? ⟨g,i1,none⟩=some (.int .u8 x1)/\w.cell? ⟨g,i2,none⟩=some (.int .u8 x2)/\w.cell? ⟨g,i3,none⟩=some (.int .u8 x3)
theorem zC {g i0 i1 i2 i3:Nat} {x0 x1 x2 x3:Int} {w:World} (h0:w.cell? ⟨g,i0,none⟩=some (.int .u8 x0)) (h1:w.cell? ⟨g,i1,none⟩=some (.int .u8 x1)) (h2:w.cell? ⟨g,i2,none⟩=some (.int .u8 x2)) (h3:w.cell? ⟨g,i3,none⟩=some (.int .u8 x3)):ol g i0 i1 i2 i3 x0 x1 x2 x3 w:=⟨h0,h1,h2,h3⟩
theorem ol.keeps {g i0 i1 i2 i3:Nat} {x0 x1 x2 x3:Int} {w w':World} {K:Nat->Prop} (h:ol g i0 i1 i2 i3 x0 x1 x2 x3 w) (hk:am K w w') (hg:K g):ol g i0 i1 i2 i3 x0 x1 x2 x3 w':=
 ⟨aJ h.1 hk hg,aJ h.2.1 hk hg,aJ h.2.2.1 hk hg,aJ h.2.2.2 hk hg⟩
theorem ol.on {g i0 i1 i2 i3:Nat} {x0 x1 x2 x3:Int} {w w':World} (h:ol g i0 i1 i2 i3 x0 x1 x2 x3 w) (hb:Below w.heap.size w w'):ol g i0 i1 i2 i3 x0 x1 x2 x3 w':=h.keeps (ak hb (fun _=>True)) trivial
theorem ol.grown {g i0 i1 i2 i3 B:Nat} {x0 x1 x2 x3:Int} {w w3:World} {o:Obj} {v:Value} (h:ol g i0 i1 i2 i3 x0 x1 x2 x3 w) (hg:g<B) (ho:∀k,v.ownBlock=some k->B<=k) (hgr:(w.alloc o).drew.grownBy w3 v.ownBlock):ol g i0 i1 i2 i3 x0 x1 x2 x3 w3:=
 h.keeps (K:=(·<B)) ((ak (aD (af _ _) (aA _)) _).trans (aF hgr _ (fun j hj h=>by have:=ho j hj;omega))) hg
theorem vg (blk:ByteArray) (g lo cap:Nat) (hcap:64<=cap) (w:World) (hb:o4 blk g lo w):Calls prog 128 #[.slice (some ⟨g,lo,none⟩) 64 cap] w (jE .u32 172 (bJ (bf blk) 64) w):=by
 obtain⟨B,hB⟩:∃B,B=bf blk:=⟨_,rfl⟩
 have HB8:aa (∀ j,0<=B j/\B j<=255):=by rw[aa,hB];exact li blk
 have HBK:aa (g<w.heap.size/\∀j,j<64->w.cell? ⟨g,lo + j,none⟩=some (.int .u8 (B j))):=by rw[aa,hB];exact hb
 rw[<-hB]
 clear hB hb
 have HCAP:=ac hcap
 clear hcap
 have HOW:aa (w.ownsRow w.heap.size 172 1 (.slice none 0 0) 0 ((bJ B 0).map (Value.int .u32))):=World.ownsRow_nil _ _ _ _
 go_enter func128,ntmps128
 go_wp2_with fail
 go_loopg [3,4,5,6,7,8] 64 (fun gk v3 v4 v5 v6 v7 v8 wr=>∃(t:Nat) (y:Value),y=v3/\v4=.int .i64 t/\t<=64/\64 - t<=gk/\aa (wr.ownsRow w.heap.size 172 1 y t ((bJ B t).map (Value.int .u32)))/\aa (Below w.heap.size w wr))
 case atStart=>exact⟨0,_,rfl,rfl,by omega,by omega,HOW,Below.refl _ _⟩
 case round=>
  clear HOW
  obtain⟨t,y,rfl,rfl,ht,hgk,HO,HB⟩:=hrel
  by_cases h64:t<64
  ·have hz64:(t:Int)<64:=by omega
   have HM:aa (64 - (t + 1)<gk/\t + 1<=64):=⟨by omega,by omega⟩
   have hsw:w.heap.size<=wr.heap.size:=HB.out.size
   clear hgk ht
   by_cases h16:t<16
   ·have hz16:(t:Int)<16:=by omega
    have cB:∀j,j<64->wr.cell? ⟨g,lo + j,none⟩=some (.int .u8 (B j)):=fun j hj=>(HB.out.cell HBK.out.1).trans (HBK.out.2 j hj)
    have HWE:aa (bits .or .u32 (bits .or .u32 (bits .or .u32 (B (4 * t) * 16777216 % 4294967296) (B (4 * t + 1) * 65536 % 4294967296)) (B (4 * t + 2) * 256 % 4294967296)) (B (4 * t + 3))=wd B t):=by rw[aa,rL B t h16];exact zx B t HB8.out
    obtain⟨p,hp⟩:∃p,p=4 * t:=⟨_,rfl⟩
    obtain⟨q1,hq1⟩:∃q,q=p + 1:=⟨_,rfl⟩
    obtain⟨q2,hq2⟩:∃q,q=p + 2:=⟨_,rfl⟩
    obtain⟨q3,hq3⟩:∃q,q=p + 3:=⟨_,rfl⟩
    rw[<-hp,<-hq1,<-hq2,<-hq3] at HWE
    have c0:=cB p (by omega)
    have c1:=cB q1 (by omega)
    have c2:=cB q2 (by omega)
    have c3:=cB q3 (by omega)
    have b0:=HB8.out p
    have b1:=HB8.out q1
    have b2:=HB8.out q2
    have b3:=HB8.out q3
    obtain⟨x0,hx0⟩:∃x,x=B p:=⟨_,rfl⟩
    obtain⟨x1,hx1⟩:∃x,x=B q1:=⟨_,rfl⟩
    obtain⟨x2,hx2⟩:∃x,x=B q2:=⟨_,rfl⟩
    obtain⟨x3,hx3⟩:∃x,x=B q3:=⟨_,rfl⟩
    rw[<-hx0] at c0 HWE b0
    rw[<-hx1] at c1 HWE b1
    rw[<-hx2] at c2 HWE b2
    rw[<-hx3] at c3 HWE b3
    have ep:IntKind.i64.wrap (4 * (t:Int))=(p:Int):=by rw[IntWalk.i64_in _ (by omega)];omega
    have e1:IntKind.i64.wrap ((p:Int) + 1)=(q1:Int):=by rw[IntWalk.i64_in _ (by omega)];omega
    have e2:IntKind.i64.wrap ((p:Int) + 2)=(q2:Int):=by rw[IntWalk.i64_in _ (by omega)];omega
    have e3:IntKind.i64.wrap ((p:Int) + 3)=(q3:Int):=by rw[IntWalk.i64_in _ (by omega)];omega
    have u0:(p:Int)<64:=by omega
    have u1:(q1:Int)<64:=by omega
    have u2:(q2:Int)<64:=by omega
    have u3:(q3:Int)<64:=by omega
    have k0:IntKind.u32.wrap x0=x0:=by rw[IntKind.wrap_u32];omega
    have k1:IntKind.u32.wrap x1=x1:=by rw[IntKind.wrap_u32];omega
    have k2:IntKind.u32.wrap x2=x2:=by rw[IntKind.wrap_u32];omega
    have k3:IntKind.u32.wrap x3=x3:=by rw[IntKind.wrap_u32];omega
    clear hx0 hx1 hx2 hx3 hp hq1 hq2 hq3 b0 b1 b2 b3 cB
    go_upto_region 6 with fail
    have hgO:∀k,y.ownBlock=some k->w.heap.size<=k:=bM HO.out
    have hgL:g<w.heap.size:=HBK.out.1
    have h4:=zC c0 c1 c2 c3
    go_region_held3 (fun W=>W.cell? ⟨g,lo + p,none⟩=some (.int .u8 x0)/\W.cell? ⟨g,lo + q1,none⟩=some (.int .u8 x1)/\W.cell? ⟨g,lo + q2,none⟩=some (.int .u8 x2)/\W.cell? ⟨g,lo + q3,none⟩=some (.int .u8 x3)) (first | exact h43 | exact h4 | exact h4.on (af _ _) | exact h4.on (aA _) | exact h4.on (aD (af _ _) (aA _))) (first
     | (refine fM rfl _ _ 174 172 rfl (.int .u32 0) 1 4 underlying174 Tryz.infoU32 rfl (by decide) w.heap.size _ t _ rfl (World.ownsRow.alloc HO.out _) wr.heap.size [.int .u32 (bits .or .u32 (bits .or .u32 (bits .or .u32 (IntKind.u32.wrap (x0 * 16777216)) (IntKind.u32.wrap (x1 * 65536))) (IntKind.u32.wrap (x2 * 256))) x3)] rfl ?_ rfl ?_ ?_ ?_ ?_ ?_
        · simp[Value.oneCell']
        · intro j u hu
          refine (aO wr #[.int .u32 _] 172 j).trans ?_
          match j,hu with | 0,hu=>simpa using hu | j + 1,hu=>simp at hu
        · unfold maxLen;omega
        · omega
        · simp;omega
        intro v' w3 hown' hgrow
        have h43:=h4.grown hgL hgO hgrow
        have HOW3:=ac hown'
        have HB3:aa (Below w.heap.size w w3):=kU (Nat.le_refl _) HB.out hgO hgrow
        clear hown' hgrow))
    clear h4 hgO hgL
    have HOW4:aa (w3.ownsRow w.heap.size 172 1 v' (t + 1) ((bJ B (t + 1)).map (Value.int .u32))):=by
     have h:=HOW3.out
     rw[IntKind.wrap_u32,IntKind.wrap_u32,IntKind.wrap_u32,HWE.out] at h
     rw[aa,kS,List.map_append]
     exact h
    clear HOW3
    go_wp2_with fail
    go_roundg (64 - (t + 1))
    case measure=>exact HM.out.1
    case rel=>exact⟨t + 1,_,rfl,by go_num,HM.out.2,by omega,HOW4,HB3⟩
   ·have hz16:¬(t:Int)<16:=by omega
    obtain⟨ya,yc,hy,hyc,hyx⟩:=az HO.out
    obtain⟨gy,rfl,hgy,hgyl,hyj⟩:=hyx (by omega)
    have cW:∀j,j<t->wr.cell? ⟨gy,j,none⟩=some (.int .u32 (wd B j)):=fun j hj=>hyj j _ (by
     have hg:=dT B t j hj
     rw[getElem!_pos _ j (by rw[bE];exact hj)] at hg
     rw[List.getElem?_map,List.getElem?_eq_getElem (by rw[bE];exact hj),hg]
     rfl)
    have c2:=cW (t - 2) (by omega)
    have c7:=cW (t - 7) (by omega)
    have c15:=cW (t - 15) (by omega)
    have c16:=cW (t - 16) (by omega)
    subst hy
    have HWH:=ac (pj B t (by omega))
    obtain⟨x2,hx2⟩:∃x,x=wd B (t - 2):=⟨_,rfl⟩
    obtain⟨x7,hx7⟩:∃x,x=wd B (t - 7):=⟨_,rfl⟩
    obtain⟨x15,hx15⟩:∃x,x=wd B (t - 15):=⟨_,rfl⟩
    obtain⟨x16,hx16⟩:∃x,x=wd B (t - 16):=⟨_,rfl⟩
    rw[<-hx2] at c2 HWH
    rw[<-hx7] at c7 HWH
    rw[<-hx15] at c15 HWH
    rw[<-hx16] at c16 HWH
    have HHY:=ac hyc
    have HHG:=ac hgy
    have HHL:=ac hgyl
    have HX7:aa (wd B (t - 7)=x7):=hx7.symm
    have HX16:aa (wd B (t - 16)=x16):=hx16.symm
    clear hx2 hx7 hx15 hx16 cW hyj hyx hyc hgy hgyl
    have e2:IntKind.i64.wrap ((t:Int) - 2)=(t:Int) - 2:=IntWalk.i64_in _ (by omega)
    have u2:(t:Int) - 2<t:=by omega
    have z2:((t:Int) - 2).toNat=t - 2:=by omega
    have l2:(2:Int)<=(t:Int):=by omega
    have e15:IntKind.i64.wrap ((t:Int) - 15)=(t:Int) - 15:=IntWalk.i64_in _ (by omega)
    have u15:(t:Int) - 15<t:=by omega
    have z15:((t:Int) - 15).toNat=t - 15:=by omega
    have l15:(15:Int)<=(t:Int):=by omega
    go_upto_region 7 with fail
    go_quiet (fail)
    have c7:=(ay wr nq).cell (p:=⟨gy,t - 7,none⟩) HHL.out |>.trans c7
    have c16:=(ay wr nq).cell (p:=⟨gy,t - 16,none⟩) HHL.out |>.trans c16
    have HO7:aa ((wr.drewN nq).ownsRow w.heap.size 172 1 (.slice (some ⟨gy,0,none⟩) t yc) t ((bJ B t).map (Value.int .u32))):=bG HO.out (ay _ _)
    have HB7:aa (Below w.heap.size w (wr.drewN nq)):=ar w _ _ HB.out (ay _ _)
    clear HO HB e2 u2 z2 l2 e15 u15 z15 l15 hsw HHL
    generalize wr.drewN nq=wq at c7 c16 HO7 HB7 ⊢
    go_wp2_with fail
    refine (Bu x15 wq).mono ?_
    rintro e w1 ⟨rfl,hw⟩
    rw[hw]
    clear hw w1
    go_wp2_with fail
    refine (A8 x15 wq).mono ?_
    rintro e w1 ⟨rfl,hw⟩
    rw[hw]
    clear hw w1
    go_wp2_with fail
    refine (A7 x2 wq).mono ?_
    rintro e w1 ⟨rfl,hw⟩
    rw[hw]
    clear hw w1
    go_wp2_with fail
    refine (Ba x2 wq).mono ?_
    rintro e w1 ⟨rfl,hw⟩
    rw[hw]
    clear hw w1
    have e7:IntKind.i64.wrap ((t:Int) - 7)=(t:Int) - 7:=IntWalk.i64_in _ (by omega)
    have u7:(t:Int) - 7<t:=by omega
    have z7:((t:Int) - 7).toNat=t - 7:=by omega
    have l7:(7:Int)<=(t:Int):=by omega
    have e16:IntKind.i64.wrap ((t:Int) - 16)=(t:Int) - 16:=IntWalk.i64_in _ (by omega)
    have u16:(t:Int) - 16<t:=by omega
    have z16:((t:Int) - 16).toNat=t - 16:=by omega
    have l16:(16:Int)<=(t:Int):=by omega
    obtain⟨s0,hs0⟩:∃s,s=bits .xor .u32 (bits .xor .u32 (cL 7 x15) (cL 18 x15)) (x15 / 8):=⟨_,rfl⟩
    obtain⟨s1,hs1⟩:∃s,s=bits .xor .u32 (bits .xor .u32 (cL 17 x2) (cL 19 x2)) (x2 / 1024):=⟨_,rfl⟩
    go_upto_region 10 with fail
    rw[<-hs0,<-hs1]
    have HS0:=ac hs0
    have HS1:=ac hs1
    clear hs0 hs1
    have hgO:∀k,(Value.slice (some ⟨gy,0,none⟩) t yc).ownBlock=some k->w.heap.size<=k:=bM HO7.out
    have hsw:w.heap.size<=wq.heap.size:=HB7.out.size
    go_region_held3 (fun W=>W.cell? ⟨gy,t - 7,none⟩=some (.int .u32 x7)/\W.cell? ⟨gy,t - 16,none⟩=some (.int .u32 x16)) (first | exact h43 | exact⟨c7,c16⟩ | exact⟨(af _ _).cell (aC c7) |>.trans c7,(af _ _).cell (aC c16) |>.trans c16⟩) (first
     | (refine lp rfl _ _ 174 172 rfl (.int .u32 0) 1 4 underlying174 Tryz.infoU32 rfl (by decide) w.heap.size gy t yc (by omega) _ rfl (World.ownsRow.alloc HO7.out _) wq.heap.size [.int .u32 (IntKind.u32.wrap (IntKind.u32.wrap (IntKind.u32.wrap (s1 + x7) + s0) + x16))] rfl ?_ rfl ?_ ?_ ?_ ?_ ?_
        · simp[Value.oneCell']
        · intro j u hu
          refine (aO wq #[.int .u32 _] 172 j).trans ?_
          match j,hu with | 0,hu=>simpa using hu | j + 1,hu=>simp at hu
        · unfold maxLen;omega
        · omega
        · simp;omega
        intro v' w3 hown' hgrow hcells
        have h43:w3.cell? ⟨gy,t - 7,none⟩=some (.int .u32 x7)/\w3.cell? ⟨gy,t - 16,none⟩=some (.int .u32 x16):=⟨hcells _ _ (by rw[List.getElem?_map,iM B t (t - 7) (by omega),HX7.out];rfl),hcells _ _ (by rw[List.getElem?_map,iM B t (t - 16) (by omega),HX16.out];rfl)⟩;have HOW3:=ac hown';have HB3:aa (Below w.heap.size w w3):=kU (v:=.slice (some ⟨gy,0,none⟩) t yc) (Nat.le_refl _) HB7.out hgO hgrow;clear hown' hgrow hcells));have HOW4:aa (w3.ownsRow w.heap.size 172 1 v' (t + 1) ((bJ B (t + 1)).map (Value.int .u32))):=by
     have h:=HOW3.out
     rw[IntKind.wrap_u32,IntKind.wrap_u32,IntKind.wrap_u32] at h
     rw[aa,kS,List.map_append,HWH.out,rK]
     have e:((s1 + x7) % 4294967296 + s0) % 4294967296 + x16=((s1 + x7) % 4294967296 + s0) % 4294967296 + x16:=rfl
     have e1:(((s1 + x7) % 4294967296 + s0) % 4294967296 + x16) % 4294967296=(ks 17 19 10 x2 + x7 + ks 7 18 3 x15 + x16) % 4294967296:=by
      have a1:ks 17 19 10 x2=s1:=HS1.out.symm
      have a2:ks 7 18 3 x15=s0:=HS0.out.symm
      rw[a1,a2];omega
     rw[<-e1]
     exact h
    clear HOW3 h43 c7 c16 e7 e16 u7 u16 z7 z16 l7 l16 hgO
    go_wp2_with fail
    go_roundg (64 - (t + 1))
    case measure=>exact HM.out.1
    case rel=>exact⟨t + 1,_,rfl,by go_num,HM.out.2,by omega,HOW4,HB3⟩
  ·have hz64:¬(t:Int)<64:=by omega
   obtain rfl:t=64:=by omega
   have HE:aa (jE .u32 172 (bJ B 64) w (.returned y) wr):=by
    refine⟨y,rfl,?_,HB.out⟩
    have h:=HO.out
    rw[bE]
    exact h
   clear hgk ht h64
   go_wp2_with fail
   go_ret
   exact HE.out
