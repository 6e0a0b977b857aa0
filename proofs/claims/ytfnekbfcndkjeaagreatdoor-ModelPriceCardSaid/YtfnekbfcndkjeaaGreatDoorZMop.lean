/- The arguments of the model's laws, as they come in: a draft, a turn. -/
import Derived.ProofKit
import Derived.OpenShut
import Derived.ShutString
import Derived.Deep.Slices
import Derived.Test.YtfnekbfcndkjeaaGreatDoorZMdk1
set_option maxRecDepth 100000
set_option linter.all false
namespace Go.Proofs.YtfnekbfcndkjeaaGreatDoor
open Go.Proofs.Tryz Go.RowKit Go.Deep Go.ChangeShapes Go.WideShapes
def nN (w:World) (v:Value) (n:Nat):Prop:=
 ∃(a:Option Addr) (cap:Nat) (dv:Nat->Bm),v=.slice a n cap/\n<=cap/\
  (0<n->∃lb lo,a=some ⟨lb,lo,none⟩/\lb<w.heap.size/\∀j,j<n->w.rangeAt lb (lo + j * 10) (zj (dv j)).toList)/\∀j,j<n->zk w (dv j)
theorem nN.on {w w':World} {v:Value} {n:Nat} (h:nN w v n) (hb:Below w.heap.size w w'):nN w' v n:=by
 obtain⟨a,cap,dv,e,hc,h1,h2⟩:=h
 refine⟨a,cap,dv,e,hc,fun h0=>?_,fun j hj=>(h2 j hj).on hb⟩
 obtain⟨lb,lo,ea,hl,hj⟩:=h1 h0
 exact⟨lb,lo,ea,Nat.lt_of_lt_of_le hl hb.size,fun j h3=>ex (hj j h3) hl hb⟩
theorem vw (w:World) (b o k:Nat):w.cell? ⟨b,o,some k⟩=none:=by
 unfold World.cell?
 split <;> simp
theorem Tryz.cellsU8:prog.cellsOf 5=1:=by kernel_rfl
theorem Tryz.cellsU8s:prog.cellsOf 22=1:=by kernel_rfl
theorem fh {P:Program} {w:World} {r:Reach} {b0:Nat} {t:TypeId} {fs:Array Field} {v:Value} (ht:P.underlying t=some (.struct fs)) (h:Value.okWide P w r b0 t v):∃cs,v=.agg cs:=by
 simp only[Value.okWide,ht] at h
 obtain⟨cs,e,_⟩:=h
 exact⟨cs,e⟩
section
variable {H : Type} {enc : TypeId × Value -> H} {W : World} {base : Nat} {spare : Nat -> Bool} {held : Bool}
theorem gW {fuel:Nat} {cs:List Value} {x:DataW H × List MemPlace} (h:DataW.trod enc prog W base spare held fuel 5 cs=some x):∃z:Int,cs=[.int .u8 z]/\0<=z/\z<=255:=by
 obtain⟨z,e,_,hw⟩:=DataW.trod_int underlying5 h
 simp[Lit.wf,IntKind.min,IntKind.max,IntKind.signed,IntKind.bits] at hw
 exact⟨z,e,hw⟩
theorem tt {a:Addr} {i:Nat} {v:Value} (h:W.cell? (a.add i)=some v) (h0:∃u,W.cell? a=some u):∃b o,a=⟨b,o,none⟩/\b<W.heap.size/\∀k,a.add k=⟨b,o + k,none⟩:=by
 obtain⟨u,hu⟩:=h0
 obtain⟨b,o,s⟩:=a
 cases s with
 | some k=>rw[vw] at hu;cases hu
 | none=>
  refine⟨b,o,rfl,World.block_lt_of_cell? W ⟨b,o,none⟩ hu,fun k=>?_⟩
  unfold Addr.add
  split
  ·rename_i hk;subst hk;rfl
  ·rfl
theorem x9 {fuel:Nat} {cs:List Value} {x:DataW H × List MemPlace} (h:DataW.trod enc prog W base spare held fuel 22 cs=some x):
  ∃ba nb cb,cs=[.slice ba nb cb]/\nb<=cb/\cb<=maxLen/\∃f:Nat->Int,(∀ j,0<=f j/\f j<=255)/\(0<nb->∃lb lo,ba=some ⟨lb,lo,none⟩/\lb<W.heap.size/\∀j,j<nb->W.cell? ⟨lb,lo + j,none⟩=some (.int .u8 (f j))):=by
 rcases open_slice underlying22 h with ⟨hcs,_⟩ | ⟨a,len,cap,m,n,D,Pl,hcs,_,hl,hm,hmm,_,hx⟩
 ·exact⟨none,0,0,hcs,Nat.le_refl _,Nat.zero_le _,fun _=>0,fun _=>⟨Int.le_refl 0,(by decide:(0:Int)<=255)⟩,fun h=>absurd h (Nat.lt_irrefl _)⟩
 ·have hlm:len<=m:=by rw[hmm];split <;> omega
  have each:∀i,i<len->∃z:Int,W.cell? (a.add i)=some (.int .u8 z)/\0<=z/\z<=255:=by
   intro i hi
   obtain⟨cs',h1,h2⟩:=hx i (by omega)
   obtain⟨z,rfl,hz⟩:=gW h2
   rw[Tryz.cellsU8] at h1
   obtain⟨_,_,hcell⟩:=World.cells?_some h1
   have e0:=hcell 0 (by omega)
   rw[add_add,Nat.mul_one,Nat.add_zero] at e0
   exact⟨z,e0,hz⟩
  obtain⟨f,hf⟩:=choose_lt each
  refine⟨some a,len,cap,hcs,hl,hm,fun j=>if j<len then f j else 0,fun j=>?_,fun h0=>?_⟩
  ·show 0<=(if j<len then f j else 0)/\(if j<len then f j else 0)<=255
   by_cases hj:j<len
   ·rw[if_pos hj];exact (hf j hj).2
   ·rw[if_neg hj];omega
  ·obtain⟨b,o,ea,hb,hadd⟩:=tt (hf 0 h0).1 ⟨_,(by have:=(hf 0 h0).1;rwa [show a.add 0=a from rfl] at this)⟩
   refine⟨b,o,by rw[ea],hb,fun j hj=>?_⟩
   show W.cell? _=some (.int .u8 (if j<len then f j else 0))
   rw[<-hadd j,if_pos hj]
   exact (hf j hj).1
end
open Go.RowKit Go.ChangeShapes Go.WideShapes Go.Deep
section
variable {H : Type} {enc : TypeId × Value -> H} {W : World} {base : Nat} {spare : Nat -> Bool} {held : Bool}
theorem Tryz.cellsDraft31:prog.cellsOf 24=6:=by kernel_rfl
theorem Tryz.cellsTurn31:prog.cellsOf 27=3:=by kernel_rfl
theorem Tryz.cellsI16:prog.cellsOf 25=1:=by kernel_rfl
theorem Tryz.bytesU8:prog.bytesOf 5=1:=by kernel_rfl
theorem yd {fuel:Nat} {cs:List Value} {x:DataW H × List MemPlace} (h:DataW.trod enc prog W base spare held fuel 25 cs=some x):∃z:Int,cs=[.int .i16 z]/\-32768<=z/\z<=32767:=by
 obtain⟨z,e,_,hw⟩:=DataW.trod_int underlying25 h
 simp[Lit.wf,IntKind.min,IntKind.max,IntKind.signed,IntKind.bits] at hw
 exact⟨z,e,hw⟩
theorem ma {fuel:Nat} {cs:List Value} {x:DataW H × List MemPlace} (h:DataW.trod enc prog W base spare held fuel 27 cs=some x):
  ∃x0 x1 x2:Int,cs=[.int .u8 x0,.int .u8 x1,.int .i16 x2]/\(0<=x0/\x0<=255)/\(0<=x1/\x1<=255)/\-32768<=x2/\x2<=32767:=by
 obtain⟨xs,k,_,_,hlen,hxl,hf⟩:=DataW.trod_struct underlying27 h
 rw[Tryz.cellsTurn31] at hlen
 have hxl3:xs.length=3:=hxl
 have f0:DataW.trod enc prog W base spare held k 5 (List.take (prog.cellsOf 5) (List.drop 0 cs))=xs[0]? :=hf 0 _ rfl
 have f1:DataW.trod enc prog W base spare held k 5 (List.take (prog.cellsOf 5) (List.drop 1 cs))=xs[1]? :=hf 1 _ rfl
 have f2:DataW.trod enc prog W base spare held k 25 (List.take (prog.cellsOf 25) (List.drop 2 cs))=xs[2]? :=hf 2 _ rfl
 rw[Tryz.cellsU8] at f0 f1
 rw[Tryz.cellsI16] at f2
 rw[List.getElem?_eq_getElem (by omega)] at f0 f1 f2
 match cs,hlen with
 | [v0,v1,v2],_=>
  simp only[List.take,List.drop] at f0 f1 f2
  obtain⟨z0,e0,r0⟩:=gW f0
  obtain⟨z1,e1,r1⟩:=gW f1
  obtain⟨z2,e2,r2⟩:=yd f2
  simp at e0 e1 e2
  subst e0 e1 e2
  exact⟨z0,z1,z2,rfl,r0,r1,r2⟩
theorem kW {fuel:Nat} {cs:List Value} {x:DataW H × List MemPlace} (h:DataW.trod enc prog W base spare held fuel 24 cs=some x) (hz:∀n∈x.1.weights prog 24,n<=reachBytes):
  ∃(dr:sV) (b:Value),cs=(dr.cells b).toList/\i4 W b dr.n/\dr.ok:=by
 obtain⟨xs,k,_,hx1,hlen,hxl,hf⟩:=DataW.trod_struct underlying24 h
 rw[Tryz.cellsDraft31] at hlen
 have hxl6:xs.length=6:=hxl
 have f0:DataW.trod enc prog W base spare held k 5 (List.take (prog.cellsOf 5) (List.drop 0 cs))=xs[0]? :=hf 0 _ rfl
 have f1:DataW.trod enc prog W base spare held k 5 (List.take (prog.cellsOf 5) (List.drop 1 cs))=xs[1]? :=hf 1 _ rfl
 have f2:DataW.trod enc prog W base spare held k 5 (List.take (prog.cellsOf 5) (List.drop 2 cs))=xs[2]? :=hf 2 _ rfl
 have f3:DataW.trod enc prog W base spare held k 5 (List.take (prog.cellsOf 5) (List.drop 3 cs))=xs[3]? :=hf 3 _ rfl
 have f4:DataW.trod enc prog W base spare held k 5 (List.take (prog.cellsOf 5) (List.drop 4 cs))=xs[4]? :=hf 4 _ rfl
 have f5:DataW.trod enc prog W base spare held k 22 (List.take (prog.cellsOf 22) (List.drop 5 cs))=xs[5]? :=hf 5 _ rfl
 rw[Tryz.cellsU8] at f0 f1 f2 f3 f4
 rw[Tryz.cellsU8s] at f5
 rw[List.getElem?_eq_getElem (by omega)] at f0 f1 f2 f3 f4 f5
 match cs,hlen with
 | [v0,v1,v2,v3,v4,v5],_=>
  simp only[List.take,List.drop] at f0 f1 f2 f3 f4 f5
  obtain⟨z0,e0,r0⟩:=gW f0
  obtain⟨z1,e1,r1⟩:=gW f1
  obtain⟨z2,e2,r2⟩:=gW f2
  obtain⟨z3,e3,r3⟩:=gW f3
  obtain⟨z4,e4,r4⟩:=gW f4
  obtain⟨ba,nb,cb,e5,hcb,hmx,f,hfb,hfc⟩:=x9 f5
  simp at e0 e1 e2 e3 e4 e5
  subst e0 e1 e2 e3 e4 e5
  have hn:nb<=4000000000000000000:=by
   rcases open_slice underlying22 f5 with ⟨hcs,_⟩ | ⟨a,len,cap,m,n,D,Pl,hcs,_,hl,hm,hmm,hd,_⟩
   ·simp at hcs
    omega
   ·simp at hcs
    obtain⟨_,rfl,_⟩:=hcs
    have hp:(xs.map (·.1))[5]?=some (DataW.slice ((List.range nb).map D) ((List.range (m - nb)).map fun j=>D (nb + j))):=by
     rw[List.getElem?_map,List.getElem?_eq_getElem (by omega),hd]
     rfl
    have hw:nb + (m - nb)∈x.1.weights prog 24:=by
     rw[hx1]
     simp only[DataW.weights,underlying24]
     refine DataW.weights_mem_each (j:=5) (t:=22) rfl hp _ ?_
     simp[DataW.weights,underlying22,Tryz.bytesU8]
    have:=hz _ hw
    have hr:reachBytes<=4000000000000000000:=by decide
    omega
  refine⟨⟨z0,z1,z2,z3,z4,nb⟩,.slice ba nb cb,rfl,⟨ba,cb,rfl,hcb,fun h0=>?_⟩,r0,r1,r2,r3,r4,hn⟩
  obtain⟨lb,lo,ea,hl,hj⟩:=hfc h0
  exact⟨lb,lo,ea,hl,fun j hj2=>⟨f j,hj j hj2,hfb j⟩⟩
end
