/- Plain facts: how many bids are ahead of one is its place in the row. -/
import Derived.Test.YtfnekbfcndkjeaaGreatDoorRows
import Derived.WalkSpells
import Derived.WalkLawsBesides
import Derived.Lib.Hide
import Derived.BigQuiet
import Derived.StillTailTactics
set_option maxHeartbeats 1000000
set_option linter.all false
namespace Go.Proofs.YtfnekbfcndkjeaaGreatDoor
open Go.Proofs.Tryz Go.RowKit
theorem rX (x:Int) (w:World):Calls prog 108 #[.int .u64 x] w fun e w'=>e=.returned (.bool false)/\w=w':=by
 go_enter func108,ntmps108
 go_wp2
 go_ret
 exact⟨by simp,rfl⟩
theorem rY (x:Int) (w:World):Calls prog 109 #[.int .i64 x] w fun e w'=>e=.returned (.bool false)/\w=w':=by
 go_enter func109,ntmps109
 go_wp2
 go_ret
 exact⟨by simp,rfl⟩
def jb (x y:Int):Int:=if x<y then -1 else if y<x then 1 else 0
theorem ww (x y:Int) (w:World):Calls prog 81 #[.int .u64 x,.int .u64 y] w fun e w'=>e=.returned (.int .i64 (jb x y))/\w=w':=by
 unfold jb
 by_cases h1:x<y
 ·rw[if_pos h1]
  go_enter func81,ntmps81
  go_wp2_with (go_at_call 108;refine (rX _ _).mono ?_;rintro e w' ⟨rfl,rfl⟩)
  go_ret
  exact⟨rfl,rfl⟩
 ·rw[if_neg h1]
  by_cases h2:y<x
  ·rw[if_pos h2]
   go_enter func81,ntmps81
   go_wp2_with (go_at_call 108;refine (rX _ _).mono ?_;rintro e w' ⟨rfl,rfl⟩)
   go_ret
   exact⟨rfl,rfl⟩
  ·rw[if_neg h2]
   go_enter func81,ntmps81
   go_wp2_with (go_at_call 108;refine (rX _ _).mono ?_;rintro e w' ⟨rfl,rfl⟩)
   go_ret
   exact⟨rfl,rfl⟩
theorem wy (x y:Int) (w:World):Calls prog 82 #[.int .i64 x,.int .i64 y] w fun e w'=>e=.returned (.int .i64 (jb x y))/\w=w':=by
 unfold jb
 by_cases h1:x<y
 ·rw[if_pos h1]
  go_enter func82,ntmps82
  go_wp2_with (go_at_call 109;refine (rY _ _).mono ?_;rintro e w' ⟨rfl,rfl⟩)
  go_ret
  exact⟨rfl,rfl⟩
 ·rw[if_neg h1]
  by_cases h2:y<x
  ·rw[if_pos h2]
   go_enter func82,ntmps82
   go_wp2_with (go_at_call 109;refine (rY _ _).mono ?_;rintro e w' ⟨rfl,rfl⟩)
   go_ret
   exact⟨rfl,rfl⟩
  ·rw[if_neg h2]
   go_enter func82,ntmps82
   go_wp2_with (go_at_call 109;refine (rY _ _).mono ?_;rintro e w' ⟨rfl,rfl⟩)
   go_ret
   exact⟨rfl,rfl⟩
end Go.Proofs.YtfnekbfcndkjeaaGreatDoor
namespace Go.Proofs.YtfnekbfcndkjeaaGreatDoor.Vk
abbrev Bd:=Int × Int
def ahead (bs:List Bd) (i k:Nat):Prop:=bs[i]!.2<bs[k]!.2\/(bs[i]!.2=bs[k]!.2/\(bs[i]!.1<bs[k]!.1\/(bs[i]!.1=bs[k]!.1/\i<k)))
instance (bs:List Bd) (i k:Nat):Decidable (ahead bs i k):=by unfold ahead;infer_instance
theorem iz (bs:List Bd) (i:Nat):¬ahead bs i i:=by unfold ahead;omega
theorem jc (bs:List Bd) {i j k:Nat} (h1:ahead bs i j) (h2:ahead bs j k):ahead bs i k:=by unfold ahead at *;omega
theorem oF (bs:List Bd) {i k:Nat} (h:i≠k):ahead bs i k\/ahead bs k i:=by unfold ahead;omega
theorem lO (bs:List Bd) {i k:Nat} (h:ahead bs i k):¬ahead bs k i:=fun h'=>iz bs i (jc bs h h')
def vP (bs:List Bd) (x:Nat):List Nat->List Nat
 | []=>[x]
 | y :: l=>if ahead bs x y then x :: y :: l else y :: vP bs x l
def dD (bs:List Bd):List Nat->List Nat
 | []=>[]
 | x :: l=>vP bs x (dD bs l)
def rankOf (bs:List Bd):List Nat:=dD bs (List.range bs.length)
theorem pt (bs:List Bd) (x z:Nat):∀l,z∈vP bs x l↔z=x\/z∈l
 | []=>by simp[vP]
 | y :: l=>by
  unfold vP
  split
  ·simp
  ·rw[List.mem_cons,pt bs x z l,List.mem_cons]
   constructor
   ·rintro (h | h | h) <;> simp[h]
   ·rintro (h | h | h) <;> simp[h]
theorem mP (bs:List Bd) (x:Nat):∀l,(vP bs x l).length=l.length + 1
 | []=>rfl
 | y :: l=>by
  unfold vP
  split
  ·rfl
  ·simp[mP bs x l]
theorem mQ (bs:List Bd) (x:Nat):∀l,l.Pairwise (ahead bs)->x∉l->(vP bs x l).Pairwise (ahead bs)
 | [],_,_=>by simp[vP]
 | y :: l,h,hx=>by
  obtain⟨h1,h2⟩:=List.pairwise_cons.1 h
  unfold vP
  split
  ·rename_i c
   refine List.pairwise_cons.2 ⟨fun z hz=>?_,h⟩
   rcases List.mem_cons.1 hz with rfl | hz
   ·exact c
   ·exact jc bs c (h1 z hz)
  ·rename_i c
   have hne:x≠y:=fun e=>hx (by simp[e])
   refine List.pairwise_cons.2 ⟨fun z hz=>?_,mQ bs x l h2 (fun e=>hx (by simp[e]))⟩
   rcases (pt bs x z l).1 hz with rfl | hz
   ·exact (oF bs hne).resolve_left c
   ·exact h1 z hz
theorem iA (bs:List Bd) (z:Nat):∀l,z∈dD bs l↔z∈l
 | []=>by simp[dD]
 | x :: l=>by unfold dD;rw[pt,iA bs z l,List.mem_cons]
theorem iS (bs:List Bd):∀l,(dD bs l).length=l.length
 | []=>rfl
 | x :: l=>by unfold dD;rw[mP,iS bs l];rfl
theorem iT (bs:List Bd):∀l,l.Nodup->(dD bs l).Pairwise (ahead bs)
 | [],_=>by simp[dD]
 | x :: l,h=>by
  obtain⟨h1,h2⟩:=List.nodup_cons.1 h
  unfold dD
  exact mQ bs x _ (iT bs l h2) (fun e=>h1 ((iA bs x l).1 e))
theorem mem_rankOf (bs:List Bd) (z:Nat):z∈rankOf bs↔z<bs.length:=by unfold rankOf;rw[iA,List.mem_range]
theorem aT (bs:List Bd):(rankOf bs).length=bs.length:=by unfold rankOf;rw[iS,List.length_range]
theorem eX (bs:List Bd):(rankOf bs).Pairwise (ahead bs):=iT bs _ List.nodup_range
theorem g7 (bs:List Bd):∀s r:List Nat,s.Pairwise (ahead bs)->r.Pairwise (ahead bs)->(∀ x∈r,x∈s)->List.Sublist r s
 | [],r,_,_,h=>by
  cases r with
  | nil=>exact List.Sublist.refl _
  | cons x r=>exact absurd (h x (by simp)) (by simp)
 | y :: s,[],_,_,_=>List.nil_sublist _
 | y :: s,x :: r,hs,hr,h=>by
  obtain⟨s1,s2⟩:=List.pairwise_cons.1 hs
  obtain⟨r1,r2⟩:=List.pairwise_cons.1 hr
  by_cases e:x=y
  ·subst e
   refine List.Sublist.cons_cons _ (g7 bs s r s2 r2 fun z hz=>?_)
   rcases List.mem_cons.1 (h z (by simp[hz])) with rfl | hz'
   ·exact absurd (r1 z hz) (iz bs z)
   ·exact hz'
  ·have hx:x∈s:=by
    rcases List.mem_cons.1 (h x (by simp)) with h' | h'
    ·exact absurd h' e
    ·exact h'
   refine List.Sublist.cons _ (g7 bs s (x :: r) s2 hr fun z hz=>?_)
   rcases List.mem_cons.1 (h z hz) with rfl | hz'
   ·rcases List.mem_cons.1 hz with rfl | hz2
    ·exact absurd rfl e
    ·exact absurd (r1 z hz2) (lO bs (s1 x hx))
   ·exact hz'
theorem qp (bs:List Bd) (r:List Nat) (h1:r.Pairwise (ahead bs)) (h2:∀x∈r,x<bs.length) (h3:r.length=bs.length):r=rankOf bs:=
 (g7 bs _ r (eX bs) h1 fun x hx=>(mem_rankOf bs x).2 (h2 x hx)).eq_of_length (by rw[h3,aT])
theorem nZ (bs:List Bd) (f:Nat->Nat) (h1:∀p q,p<q->q<bs.length->ahead bs (f p) (f q)) (h2:∀p,p<bs.length->f p<bs.length):(List.range bs.length).map f=rankOf bs:=by
 refine qp bs _ ?_ ?_ (by simp)
 ·rw[List.pairwise_map,List.pairwise_iff_getElem]
  intro i j hi hj hij
  simp only[List.getElem_range]
  exact h1 i j hij (by simpa using hj)
 ·intro x hx
  obtain⟨p,hp,rfl⟩:=List.mem_map.1 hx
  exact h2 p (List.mem_range.1 hp)
def ofR (bs:List Bd) (r:List Nat) (reserve:Int):Int × Int × Int:=
 match r with
 | []=>(3,-1,0)
 | x :: l=>if reserve<bs[x]!.2 then (3,-1,0) else (2,bs[x]!.1,match l with | []=>reserve | y :: _=>min bs[y]!.2 reserve)
def vickOf (bs:List Bd) (reserve:Int):Int × Int × Int:=ofR bs (rankOf bs) reserve
theorem wD (bs:List Bd) {i k:Nat} (h:i<k) (c:Int) (hc:c=(if (if bs[k]!.2<bs[i]!.2 then (-1:Int) else if bs[i]!.2<bs[k]!.2 then 1 else 0)=0 then (if bs[k]!.1<bs[i]!.1 then (-1:Int) else if bs[i]!.1<bs[k]!.1 then 1 else 0) else (if bs[k]!.2<bs[i]!.2 then (-1:Int) else if bs[i]!.2<bs[k]!.2 then 1 else 0))):
  c<0↔ahead bs k i:=by
 subst hc
 unfold ahead
 repeat' split
 all_goals omega
end Go.Proofs.YtfnekbfcndkjeaaGreatDoor.Vk
namespace Go.Proofs.YtfnekbfcndkjeaaGreatDoor
open Go.Proofs.Tryz Go.RowKit
def yS (a b:Int):Int:=if a=0 then b else a
theorem By (a b:Int) (blk:Nat) (w:World) (ha:w.cell? ⟨blk,0,none⟩=some (.int .i64 a)) (hb:w.cell? ⟨blk,1,none⟩=some (.int .i64 b)):
  Calls prog 80 #[.slice (some ⟨blk,0,none⟩) 2 2] w fun e w'=>e=.returned (.int .i64 (yS a b))/\w=w':=by
 unfold yS
 by_cases h1:a=0
 ·subst h1
  rw[if_pos rfl]
  by_cases h2:b=0
  ·subst h2
   go_enter func80,ntmps80
   go_wp2
   refine wp_loop_rounds 3 ?_
   repeat (rw [rounds_succ];go_wp2)
   go_ret
   exact⟨rfl,rfl⟩
  ·have h2':(b==0)=false:=beq_eq_false_iff_ne.2 h2
   go_enter func80,ntmps80
   go_wp2
   refine wp_loop_rounds 3 ?_
   repeat (rw [rounds_succ];go_wp2)
   go_ret
   exact⟨rfl,rfl⟩
 ·rw[if_neg h1]
  have h1':(a==0)=false:=beq_eq_false_iff_ne.2 h1
  go_enter func80,ntmps80
  go_wp2
  refine wp_loop_rounds 3 ?_
  repeat (rw [rounds_succ];go_wp2)
  go_ret
  exact⟨rfl,rfl⟩
end Go.Proofs.YtfnekbfcndkjeaaGreatDoor
namespace Go.Proofs.YtfnekbfcndkjeaaGreatDoor.Vk
def nT (bs:List Bd) (i:Nat):Nat->Nat
 | 0=>0
 | k + 1=>nT bs i k + if ahead bs k i then 1 else 0
theorem wF (bs:List Bd) (i:Nat):∀k,nT bs i k<=k
 | 0=>Nat.le_refl _
 | k + 1=>by
  have:=wF bs i k
  unfold nT
  split <;> omega
theorem j0 (bs:List Bd) (i:Nat):∀k,nT bs i k=((List.range k).filter fun j=>decide (ahead bs j i)).length
 | 0=>rfl
 | k + 1=>by
  unfold nT
  rw[List.range_succ,List.filter_append,List.length_append,<-j0 bs i k]
  by_cases h:ahead bs k i <;> simp[h]
theorem qr (bs:List Bd) (x:Nat):∀l,(vP bs x l).Perm (x :: l)
 | []=>List.Perm.refl _
 | y :: l=>by
  unfold vP
  split
  ·exact List.Perm.refl _
  ·exact ((qr bs x l).cons y).trans (List.Perm.swap x y l)
theorem jM (bs:List Bd):∀l,(dD bs l).Perm l
 | []=>List.Perm.refl _
 | x :: l=>by unfold dD;exact (qr bs x _).trans ((jM bs l).cons x)
theorem lP (bs:List Bd):(rankOf bs).Perm (List.range bs.length):=jM bs _
theorem rZ (bs:List Bd) (l1 l2:List Nat) (x:Nat) (h:(l1++x :: l2).Pairwise (ahead bs)):((l1++x :: l2).filter fun j=>decide (ahead bs j x)).length=l1.length:=by
 rw[List.pairwise_append] at h
 obtain⟨_,h2,h3⟩:=h
 rw[List.filter_append,List.filter_eq_self.2 (fun y hy=>by simpa using h3 y hy x (by simp)),List.filter_eq_nil_iff.2 (fun y hy=>by
  rcases List.mem_cons.1 hy with rfl | hy
  ·simpa using iz bs _
  ·simpa using lO bs ((List.pairwise_cons.1 h2).1 y hy)),List.append_nil]
theorem jO (bs:List Bd) (r:List Nat) (h:r.Pairwise (ahead bs)) (p:Nat) (hp:p<r.length):(r.filter fun j=>decide (ahead bs j r[p])).length=p:=by
 have hs:r=r.take p++r[p] :: r.drop (p + 1):=by rw[List.getElem_cons_drop,List.take_append_drop]
 have h2:(r.take p++r[p] :: r.drop (p + 1)).Pairwise (ahead bs):=by rw[<-hs];exact h
 have:=rZ bs _ _ _ h2
 rw[<-hs,List.length_take] at this
 omega
theorem kC (bs:List Bd) (i:Nat) (hi:i<bs.length):nT bs i bs.length<bs.length/\(rankOf bs)[nT bs i bs.length]! =i:=by
 have hl:=aT bs
 obtain⟨p,hp,he⟩:=List.getElem_of_mem ((mem_rankOf bs i).2 hi)
 have h1:=jO bs (rankOf bs) (eX bs) p hp
 rw[he] at h1
 have h2:nT bs i bs.length=p:=by
  rw[j0,<-h1]
  exact ((lP bs).filter _).length_eq.symm
 rw[h2]
 exact⟨by omega,by rw[getElem!_pos (rankOf bs) p hp,he]⟩
theorem yT (bs:List Bd) {i j:Nat} (hi:i<bs.length) (hj:j<bs.length) (h:nT bs i bs.length=nT bs j bs.length):i=j:=by
 rw[<-(kC bs i hi).2,h,(kC bs j hj).2]
theorem yU (bs:List Bd) {p:Nat} (hp:p<bs.length):(rankOf bs)[p]!<bs.length/\nT bs (rankOf bs)[p]! bs.length=p:=by
 have hl:=aT bs
 have hlt:(rankOf bs)[p]!<bs.length:=by
  rw[getElem!_pos (rankOf bs) p (by omega)]
  exact (mem_rankOf bs _).1 (List.getElem_mem _)
 refine⟨hlt,?_⟩
 have h1:=jO bs (rankOf bs) (eX bs) p (by omega)
 rw[j0,getElem!_pos (rankOf bs) p (by omega)]
 exact ((lP bs).filter _).length_eq.symm.trans h1
end Go.Proofs.YtfnekbfcndkjeaaGreatDoor.Vk
