/- slices.Min at uint64, and vick.least. -/
import Derived.Test.YtfnekbfcndkjeaaGreatDoorZRank2
import Derived.RangeFuncBox
set_option maxHeartbeats 1000000
set_option linter.all false
namespace Go.Proofs.YtfnekbfcndkjeaaGreatDoor
open Go.Proofs.Tryz Go.RowKit Go.Sort
open Go.Proofs.YtfnekbfcndkjeaaGreatDoor.Srt Go.Proofs.YtfnekbfcndkjeaaGreatDoor.Vk
def iv (xs:List Int):Nat->Int
 | 0=>xs[0]!
 | k + 1=>min (iv xs k) xs[k + 1]!
theorem Tryz.infoU:(prog.info? 44).map (fun i=>(i.zero,i.size,i.bytes))=some (some (.int .u64 0),1,8):=by kernel_rfl
theorem zn (xs:List Int) (n b cap:Nat) (w:World) (hsz:n<=17592186044416) (hc:∀j,j<n + 1->w.cell? ⟨b,j,none⟩=some (.int .u64 xs[j]!)):
  Calls prog 83 #[.slice (some ⟨b,0,none⟩) (n + 1) cap] w fun e w'=>e=.returned (.int .u64 (iv xs n))/\w=w':=by
 have HC:Aside _:=hc
 have h0:=hc 0 (by omega)
 obtain⟨m,hm⟩:∃m,m=n + 1:=⟨_,rfl⟩
 rw[<-hm]
 have hm1:1<=m:=by omega
 have hm2:m<=n + 1:=by omega
 have hm3:n + 1<=m:=by omega
 clear hc hm
 go_enter func83,ntmps83
 go_wp2
 go_loopg [3,4] m (fun g vm vi wr=>∃k:Nat,vm=.int .u64 (iv xs k)/\vi=.int .i64 ((k + 1:Nat):Int)/\k<=n/\n - k<=g/\wr=w)
 case atStart=>exact⟨0,by simp[iv],by go_num,by omega,by omega,rfl⟩
 case round=>
  clear h0
  obtain⟨k,rfl,rfl,hk,hg,rfl⟩:=hrel
  by_cases hlt:k<n
  ·have hltz:((k + 1:Nat):Int)<(m:Int):=by omega
   have c:=HC.out (k + 1) (by omega)
   obtain⟨x,hx⟩:∃x,x=xs[k + 1]! :=⟨_,rfl⟩
   rw[<-hx] at c
   have hmin:Aside (iv xs (k + 1)=min (iv xs k) x):=by rw[hx];exact rfl
   clear hx
   go_wp2
   go_roundg (n - (k + 1))
   case measure=>omega
   case rel=>exact⟨k + 1,by rw[hmin.out],by go_num,by omega,by omega,rfl⟩
  ·have hltz:¬((k + 1:Nat):Int)<(m:Int):=by omega
   obtain rfl:k=n:=by omega
   go_wp2
   go_ret
   exact⟨rfl,rfl⟩
def uN (ys:List Int) (n:Nat) (base:Nat) (r:Int) (w:World) (e:Ending) (w':World):Prop:=e=.returned (.int .u64 (iv (ys++[r]) n))/\Below base w w'
theorem uO (ys:List Int) (n base:Nat) (v:Value) (r:Int) (w:World) (hn:ys.length=n) (hsz:n<=8796093022208) (hown:w.ownsRow base 44 1 v n (ys.map (Value.int .u64))) (hbase:base<=w.heap.size):
  Calls prog 48 #[.int .u64 r,v] w (uN ys n base r w):=by
 obtain⟨i0,hi,hz0,hz1,hz2⟩:=info_parts Tryz.infoU
 have hsz':n + 1<=maxLen:=by unfold maxLen;omega
 go_enter func48,ntmps48
 go_wp2_with (first
  | (at_builtin;refine wpList_append_own _ rfl _ _ 102 rfl base 44 i0 (.int .u64 0) 1 8 underlying102 hi hz0 hz1 hz2 rfl (by decide) _ _ _ rfl (hown.alloc _) ⟨w.heap.size,0,none⟩ 1 1 [.int .u64 r] rfl rfl ?c1 ?c2 ?c3 ?c4 ?c5 ?_)
  | fail)
 case c1=>exact cell_one_new _ _ _
 case c2=>simp[Value.oneCell']
 case c3=>exact hsz'
 case c4=>omega
 case c5=>simp;omega
 intro v' w1 hown' hgrow _
 obtain⟨g,cap,rfl⟩:=ownsRow_succ hown'
 have hcells:∀j,j<n + 1->w1.cell? ⟨g,j,none⟩=some (.int .u64 (ys++[r])[j]!):=fun j hj=>by
  rw[hown'.cellAt j (by omega)]
  have:(ys.map (Value.int .u64)++[.int .u64 r])=(ys++[r]).map (Value.int .u64):=by simp
  rw[this,List.getElem?_map,List.getElem!_eq_getElem?_getD,List.getElem?_eq_getElem (by simp;omega)]
  rfl
 have hb1:Below base w w1:=((Below.refl base w).alloc hbase _).grown hgrow (by simp;omega) (fun k hk=>(World.ownsRow.lt hown k hk).1)
 have HC:Aside _:=hcells
 have HB:=aS hb1
 clear hcells hb1 hown' hgrow hown hi
 go_wp2_with (go_at_call 83;refine (zn (ys++[r]) n _ _ _ (by omega) HC.out).mono ?_;rintro e w' ⟨rfl,rfl⟩)
 go_ret
 exact⟨rfl,HB.out⟩
