/- chain.Parse, walked. -/
import Derived.Test.YtfnekbfcndkjeaaGreatDoorZBya
set_option linter.all false
namespace Go.Proofs.YtfnekbfcndkjeaaGreatDoor
open Go.Proofs.Tryz Go.RowKit
theorem ah.setRow {w:World} {X:Nat} {r:RecV} (h:ah w X r) (r':RecV):ah (w.setRow X (ae r')) X r':=setRow_heap w X _ _ _ _ h
theorem aI {K:Nat->Prop} (w:World) (X:Nat) (cs:Array Value) (hX:¬K X):am K w (w.setRow X cs):=
 ⟨rfl,rfl,rfl,by simp,fun k _ hK=>setRow_other w X k cs (fun e=>hX (e ▸ hK))⟩
structure kL (w:World) (X E:Nat) (r:RecV) (c:Int):Prop where
 record:ah w X r
 code:w.cell? ⟨E,0,none⟩=some (.int .i64 c)
 free:w.frozen? ⟨E,0,none⟩=false
 ne:X≠E
theorem kL.lt {w:World} {X E:Nat} {r:RecV} {c:Int} (h:kL w X E r c):X<w.heap.size/\E<w.heap.size:=⟨h.record.lt,aC h.code⟩
theorem kL.keeps {K:Nat->Prop} {w w':World} {X E:Nat} {r:RecV} {c:Int} (h:kL w X E r c) (hk:am K w w') (hX:K X) (hE:K E):kL w' X E r c:=
 ⟨h.record.keeps hk hX,aJ h.code hk hE,(World.frozen?_of_block (w:=w) (a:=⟨E,0,none⟩) (hk.block E h.lt.2 hE)).trans h.free,h.ne⟩
theorem kL.on {w w':World} {X E:Nat} {r:RecV} {c:Int} (h:kL w X E r c) (hb:Below w.heap.size w w'):kL w' X E r c:=h.keeps (ak hb (fun _=>True)) trivial trivial
theorem kL.lay {w:World} {X E:Nat} {r:RecV} {c:Int} (h:kL w X E r c) (r':RecV) (c':Int):kL ((w.setRow X (ae r')).setCell ⟨E,0,none⟩ (.int .i64 c')) X E r' c':=by
 have hne:=h.ne
 have hE:(w.setRow X (ae r')).cell? ⟨E,0,none⟩=some (.int .i64 c):=aJ h.code (aI (K:=(·≠X)) w X (ae r') (fun h=>h rfl)) (Ne.symm hne)
 refine⟨(h.record.setRow r').other hne _,World.cell?_setCell_same _ _ _ hE,?_,hne⟩
 rw[World.frozen?_setCell]
 exact (World.frozen?_of_block (w:=w) (a:=⟨E,0,none⟩) (setRow_other w X E _ (Ne.symm hne))).trans h.free
end Go.Proofs.YtfnekbfcndkjeaaGreatDoor
namespace Go.Proofs.YtfnekbfcndkjeaaGreatDoor
open Go.Proofs.Tryz Go.RowKit
theorem kL.row {w:World} {X E:Nat} {r:RecV} {c:Int} (h:kL w X E r c) (r':RecV):kL (w.setRow X (ae r')) X E r' c:=
 ⟨h.record.setRow r',aJ h.code (aI (K:=(·≠X)) w X (ae r') (fun h=>h rfl)) (Ne.symm h.ne),
  (World.frozen?_of_block (w:=w) (a:=⟨E,0,none⟩) (setRow_other w X E _ (Ne.symm h.ne))).trans h.free,h.ne⟩
def dQ (B:Nat) (w:World) (v:Value) (ds:List RecD):Prop:=
 ∃rvs:List RecV,rvs.length=ds.length/\w.ownsRow B 49 49 v ds.length (rvs.flatMap fun r=>(ae r).toList)/\∀j,j<ds.length->bD B w (rvs.getD j {}) (ds.getD j {})
theorem dQ.nil (B:Nat) (w:World):dQ B w (.slice none 0 0) []:=⟨[],rfl,⟨rfl,.inl ⟨rfl,rfl⟩⟩,fun j h=>by simp at h⟩
theorem dQ.on {B:Nat} {w w':World} {v:Value} {ds:List RecD} (h:dQ B w v ds) (hb:Below w.heap.size w w'):dQ B w' v ds:=by
 obtain⟨rvs,h1,h2,h3⟩:=h
 exact⟨rvs,h1,bG h2 hb,fun j hj=>(h3 j hj).on hb⟩
theorem dQ.keeps {B:Nat} {K:Nat->Prop} {w w':World} {v:Value} {ds:List RecD} (h:dQ B w v ds) (hk:am K w w') (hK:∀k,B<=k->K k):dQ B w' v ds:=by
 obtain⟨rvs,h1,h2,h3⟩:=h
 exact⟨rvs,h1,dG h2 hk hK,fun j hj=>(h3 j hj).keeps hk hK⟩
theorem cE {base:Nat} {E:TypeId} {size:Nat} {w w':World} {v:Value} {n:Nat} {xs:List Value} {K:Nat->Prop} (h:w.ownsRow base E size v n xs) (hk:am K w w') (hK:∀k,v.ownBlock=some k->K k):w'.ownsRow base E size v n xs:=by
 obtain⟨h1,h2⟩:=h
 refine⟨h1,h2.imp_right ?_⟩
 rintro⟨g,cap,cur,rfl,hg,hh,r⟩
 exact⟨g,cap,cur,rfl,hg,(hk.block g (Array.getElem?_eq_some_iff.1 hh).1 (hK g rfl)).trans hh,r⟩
theorem dQ.mono {B B':Nat} {w:World} {v:Value} {ds:List RecD} (h:dQ B w v ds) (hB:B'<=B):dQ B' w v ds:=by
 obtain⟨rvs,h1,h2,h3⟩:=h
 exact⟨rvs,h1,bY h2 hB,fun j hj=>(h3 j hj).mono hB⟩
theorem dQ.own {B:Nat} {w:World} {v:Value} {ds:List RecD} (h:dQ B w v ds):∀k,v.ownBlock=some k->B<=k/\k<w.heap.size/\∃cur,w.heap[k]?=some (.cells cur 49 (0,0)):=by
 obtain⟨rvs,h1,⟨_,h2⟩,h3⟩:=h
 intro k hk
 rcases h2 with ⟨rfl,_⟩ | ⟨g,cap,cur,rfl,hg,hh,_⟩
 ·cases hk
 ·have:g=k:=by simpa [Value.ownBlock] using hk
  subst this
  exact⟨hg,aK hh,cur,hh⟩
theorem qC {B k:Nat} {w:World} {cur:Array Value} (h:dV B w k) (hr:w.heap[k]?=some (.cells cur 49 (0,0))):False:=by
 obtain⟨_,c,h | h⟩:=h <;> (rw [hr] at h;simp at h)
theorem dQ.snoc {B:Nat} {w w':World} {v v':Value} {ds:List RecD} {rvs:List RecV} {rv:RecV} {d:RecD} (h1:rvs.length=ds.length) (h2:w.ownsRow B 49 49 v ds.length (rvs.flatMap fun r=>(ae r).toList)) (h3:∀j,j<ds.length->bD B w (rvs.getD j {}) (ds.getD j {}))
  (hr:bD B w rv d) (hk:∀K:Nat->Prop,(∀ k,v.ownBlock=some k->¬K k)->am K w w')
  (hown:w'.ownsRow B 49 49 v' (ds.length + 1) ((rvs.flatMap fun r=>(ae r).toList)++(ae rv).toList)):dQ B w' v' (ds++[d]):=by
 have ho:=dQ.own ⟨rvs,h1,h2,h3⟩
 have hkk:=hk (fun k=>v.ownBlock≠some k) (fun k e=>fun h=>h e)
 have hT:∀k,dV B w k->v.ownBlock≠some k:=fun k hb e=>by
  obtain⟨_,_,cur,hc⟩:=ho k e
  exact qC hb hc
 refine⟨rvs++[rv],by simp[h1],?_,fun j hj=>?_⟩
 ·rw[List.length_append,List.flatMap_append]
  simpa using hown
 ·by_cases e:j<ds.length
  ·have e1:(rvs++[rv]).getD j {}=rvs.getD j {}:=by simp[List.getD_eq_getElem?_getD,List.getElem?_append_left (show j<rvs.length by omega)]
   have e2:(ds++[d]).getD j {}=ds.getD j {}:=by simp[List.getD_eq_getElem?_getD,List.getElem?_append_left e]
   rw[e1,e2]
   exact (h3 j e).keepsT hkk hT
  ·have ej:j=ds.length:=by rw[List.length_append] at hj;simp at hj;omega
   have e1:(rvs++[rv]).getD j {}=rv:=by simp[List.getD_eq_getElem?_getD,ej,<-h1]
   have e2:(ds++[d]).getD j {}=d:=by simp[List.getD_eq_getElem?_getD,ej]
   rw[e1,e2]
   exact hr.keepsT hkk hT
theorem Tryz.infoRec:(prog.info? 49).map (fun i=>(i.zero,i.size,i.bytes))=some (some (.agg (ae {})),49,216):=by kernel_rfl
