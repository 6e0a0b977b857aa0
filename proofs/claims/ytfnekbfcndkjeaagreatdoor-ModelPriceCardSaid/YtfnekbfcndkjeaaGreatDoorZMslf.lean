/- seal.eight, walked, onto a full row that came in (the bytes of a literal, which bear the run-time's mark). -/
import Derived.Test.YtfnekbfcndkjeaaGreatDoorZMsl1
set_option maxHeartbeats 4000000
set_option maxRecDepth 100000
set_option linter.all false
namespace Go.Proofs.YtfnekbfcndkjeaaGreatDoor
open Go.Proofs.Tryz Go.RowKit
def zW (base gb:Nat) (l:List Int) (m:Nat) (w wr:World) (v0:Value) (k:Nat) (ls:List Value):Prop:=
 ((k=0/\v0=.slice (some ⟨gb,0,none⟩) m m/\∀j u,(bF l)[j]?=some u->wr.cell? ⟨gb,j,none⟩=some u)\/(0<k/\wr.ownsRow base 5 1 v0 (m + k) ls))/\am (fun k=>k<base) w wr
theorem AS (base gb m:Nat) (l:List Int) (hl:l.length=m) (hm:m<=1000) (x:Int) (hx:0<=x/\x<=1000000000) (w:World) (hb:base<=w.heap.size) (hv:∀j u,(bF l)[j]?=some u->w.cell? ⟨gb,j,none⟩=some u):
  Calls prog 160 #[.slice (some ⟨gb,0,none⟩) m m,.int .i64 x] w (lE base l x w):=by
 have HV:=ac hv
 have HBW:=ac hb
 have HLL:=ac hl
 obtain⟨i0,hi,hz0,hz1,hz2⟩:=info_parts Tryz.infoU8s
 have HI0:=ac hi
 have HZ0:=ac hz0
 have HZ1:=ac hz1
 have HZ2:=ac hz2
 clear hv hb hl hi hz0 hz1 hz2
 go_enter func160,ntmps160
 go_wp2_with fail
 go_loopg [0,5] 9 (fun g v0 v5 wr=>∃(k:Nat),k<=8/\v5=.int .i64 (56 - 8 * (k:Int))/\8 - k<g/\aa (zW base gb l m w wr v0 k (bF (l++(List.range k).map (nk x)))))
 case atStart=>exact⟨0,by omega,rfl,by omega,.inl ⟨rfl,rfl,HV.out⟩,am.refl _ _⟩
 case round=>
  obtain⟨k,hk,rfl,hg,HR⟩:=hrel
  have HRK:aa (am (fun k=>k<base) w wr):=HR.out.2
  rcases HR.out.1 with ⟨rfl,rfl,hrc⟩ | ⟨hk0,hown0⟩
  ·have HRC:=ac hrc
   clear hrc
   have hk8:0<8:=by decide
   have h0:(0:Int)<=56 - 8 * ((0:Nat):Int):=by omega
   obtain⟨z,hz⟩:∃z:Int,z=56 - 8 * ((0:Nat):Int):=⟨_,rfl⟩
   have hz7:IntKind.i64.wrap (z - 8)=z - 8:=IntWalk.i64_in _ (by omega)
   rw[<-hz] at h0 ⊢
   have HZ:=ac hz
   have hzb:z<=56:=by omega
   clear hz
   go_wp2_with (first
    | (at_builtin;refine wpList_append_grows _ rfl _ _ 22 rfl 5 i0 (.int .u8 0) 1 1 underlying22 HI0.out HZ0.out HZ1.out HZ2.out rfl (by decide) (some ⟨gb,0,none⟩) m m (bF l) rfl (fun h=>by cases h) ?c1 ?c2 ⟨wr.heap.size,0,none⟩ 1 1 [.int .u8 (x / 2 ^ z.toNat % 256)] rfl rfl ?c3 ?c7 ?c4 ?c5 ?c6 ?_)
    | fail)
   case c1=>rw[sx,HLL.out,Nat.mul_one]
   case c2=>
    intro b hb j u hu
    obtain rfl:=Option.some.inj hb
    rw[show (⟨gb,0,none⟩:Addr).add j=⟨gb,j,none⟩ by simp only[Addr.add];split <;> simp_all]
    have:=HRC.out j u hu
    exact ((af wr _).cell (aC this)).trans this
   case c3=>
    intro j y hy
    rw[show (⟨wr.heap.size,0,none⟩:Addr).add j=⟨wr.heap.size,j,none⟩ by simp only[Addr.add];split <;> simp_all,aO]
    simpa using hy
   case c7=>intro u hu;obtain rfl:=List.mem_singleton.1 hu;rfl
   case c4=>omega
   case c5=>unfold maxLen;omega
   case c6=>omega
   intro v' w1 hown hgrow
   have HR1:aa (w1.ownsRow base 5 1 v' (m + (0 + 1)) (bF (l++(List.range (0 + 1)).map (nk x)))/\am (fun k=>k<base) w w1):=by
    refine⟨?_,?_⟩
    ·have e:bF (l++(List.range (0 + 1)).map (nk x))=bF l++[.int .u8 (x / 2 ^ z.toNat % 256)]:=by
      rw[bF,List.map_append]
      show _++[Value.int .u8 (nk x 0)]=_
      rw[nk,<-HZ.out]
      rfl
     rw[e]
     exact bY hown (by have:=HRK.out.size;have:=HBW.out;simp;omega)
    ·exact (HRK.out.alloc _).trans (aF hgrow (fun k=>k<base) (fun j hj=>by cases hj))
   clear hown hgrow
   go_wp2_with fail
   go_roundg (9 - (0 + 1))
   case measure=>omega
   case rel=>exact⟨0 + 1,hk8,by have:=HZ.out;congr 1;omega,by omega,.inr ⟨by omega,HR1.out.1⟩,HR1.out.2⟩
  have HRO:=ac hown0
  obtain⟨av,cv,rfl,_⟩:=az hown0
  clear hown0
  by_cases hk8:k<8
  ·have h0:(0:Int)<=56 - 8 * (k:Int):=by omega
   obtain⟨z,hz⟩:∃z:Int,z=56 - 8 * (k:Int):=⟨_,rfl⟩
   have hz7:IntKind.i64.wrap (z - 8)=z - 8:=IntWalk.i64_in _ (by omega)
   rw[<-hz] at h0 ⊢
   have HZ:=ac hz
   have hzb:z<=56:=by omega
   clear hz
   go_wp2_with (first
    | (at_builtin;refine aZ rfl _ _ 22 5 rfl (.int .u8 0) 1 1 underlying22 Tryz.infoU8s rfl (by decide) base _ (m + k) _ rfl (World.ownsRow.alloc HRO.out _) wr.heap.size [.int .u8 (x / 2 ^ z.toNat % 256)] ?c1 ?c2 rfl ?c3 ?c4 ?c5 ?c6 ?_)
    | fail)
   case c1=>rfl
   case c2=>intro u hu;obtain rfl:=List.mem_singleton.1 hu;rfl
   case c3=>intro j y hy;rw[aO];simpa using hy
   case c4=>unfold maxLen;omega
   case c5=>omega
   case c6=>have:=HRK.out.size;have:=HBW.out;simp;omega
   intro v' w1 hown hgrow
   have HR1:aa (w1.ownsRow base 5 1 v' (m + (k + 1)) (bF (l++(List.range (k + 1)).map (nk x)))/\am (fun k=>k<base) w w1):=by
    refine⟨?_,?_⟩
    ·have e:bF (l++(List.range (k + 1)).map (nk x))=bF (l++(List.range k).map (nk x))++[.int .u8 (x / 2 ^ z.toNat % 256)]:=by
      rw[List.range_succ,List.map_append,<-List.append_assoc,bF,List.map_append]
      show _++[Value.int .u8 (nk x k)]=_
      rw[nk,<-HZ.out]
      rfl
     rw[e]
     exact hown
    ·exact (HRK.out.alloc _).trans (aF hgrow (fun k=>k<base) (fun j hj=>by have:=bM HRO.out j hj;omega))
   clear hown hgrow
   go_wp2_with fail
   go_roundg (9 - (k + 1))
   case measure=>omega
   case rel=>exact⟨k + 1,hk8,by have:=HZ.out;congr 1;omega,by omega,.inr ⟨by omega,HR1.out.1⟩,HR1.out.2⟩
  ·obtain rfl:k=8:=by omega
   have e8:(56 - 8 * ((8:Nat):Int))=-8:=by decide
   rw[e8]
   go_wp2_with fail
   go_ret
   exact⟨_,rfl,by rw[List.length_append,HLL.out];exact HRO.out,HRK.out⟩
