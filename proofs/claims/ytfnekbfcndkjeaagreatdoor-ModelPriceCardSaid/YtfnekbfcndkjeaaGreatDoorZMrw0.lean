/- Rows of records: cut, joined, written; an append of records at a step. -/
import Derived.Test.YtfnekbfcndkjeaaGreatDoorZMop
set_option linter.all false
namespace Go.Proofs.YtfnekbfcndkjeaaGreatDoor
open Go.Proofs.Tryz Go.RowKit Go.Maps
def cA (R:List RecV):List Value:=R.flatMap fun r=>(ae r).toList
theorem fJ (R:List RecV):(cA R).length=R.length * 49:=by
 induction R with
 | nil=>rfl
 | cons r R ih=>
  show ((ae r).toList++cA R).length=_
  rw[List.length_append,ih,Array.length_toList,aj,List.length_cons]
  omega
theorem rt (A B:List RecV):cA (A++B)=cA A++cA B:=List.flatMap_append
theorem vy (R:List RecV):∀k,(cA R).take (k * 49)=cA (R.take k):=by
 induction R with
 | nil=>intro k;simp[cA]
 | cons r R ih=>
  intro k
  have hl:(ae r).toList.length=49:=by rw[Array.length_toList,aj]
  cases k with
  | zero=>simp[cA]
  | succ k=>
   show ((ae r).toList++cA R).take ((k + 1) * 49)=(ae r).toList++cA (R.take k)
   rw[<-ih k,List.take_append,hl,List.take_of_length_le (by rw[hl];omega),show (k + 1) * 49 - 49=k * 49 by omega]
theorem yf {R:List RecV} (h:∀r∈R,(ae r).all (·.oneCell')=true):∀u∈cA R,u.oneCell'=true:=fun u hu=>by
 obtain⟨r,hr,hu⟩:=List.mem_flatMap.1 hu
 exact (Array.all_eq_true_iff_forall_mem.1 (h r hr)) u (by simpa using hu)
theorem ru {R:List RecV} {j i:Nat} {u:Value} (hj:j<R.length) (hu:(ae (R.getD j {})).toList[i]?=some u):(cA R)[j * 49 + i]?=some u:=by
 have hi:i<49:=by
  have:=(List.getElem?_eq_some_iff.1 hu).1
  rw[Array.length_toList,aj] at this
  exact this
 have:=lz R j i hi
 rw[if_pos hj,hu] at this
 exact this
theorem yg {w:World} {lb lo:Nat} {R:List RecV} (h:∀j,j<R.length->w.rangeAt lb (lo + j * 49) (ae (R.getD j {})).toList):∀j u,(cA R)[j]?=some u->w.cell? ⟨lb,lo + j,none⟩=some u:=by
 intro j u hu
 have hj:j<R.length * 49:=by have:=(List.getElem?_eq_some_iff.1 hu).1;rw[fJ] at this;exact this
 have hq:j / 49<R.length:=Nat.div_lt_of_lt_mul (by omega)
 have hm:j % 49<49:=Nat.mod_lt _ (by decide)
 have e:j=j / 49 * 49 + j % 49:=by omega
 have h2:=lz R (j / 49) (j % 49) hm
 rw[<-e,if_pos hq] at h2
 have h3:=h (j / 49) hq (j % 49) u (h2.symm.trans hu)
 rw[Nat.add_assoc,<-e] at h3
 exact h3
theorem nO {w:World} {B g cap n:Nat} {R:List RecV} (h:w.ownsRow B 49 49 (.slice (some ⟨g,0,none⟩) n cap) n (cA R)):n=R.length/\∀j,j<n->w.rangeAt g (j * 49) (ae (R.getD j {})).toList:=by
 have hn:n=R.length:=by have:=h.1;rw[fJ] at this;omega
 refine⟨hn,fun j hj i u hu=>?_⟩
 obtain⟨a,c,e,_,hx⟩:=az h
 obtain⟨g',ea,_,_,hc⟩:=hx (by omega)
 obtain⟨e1,_,_⟩:=Value.slice.inj e
 rw[ea] at e1
 obtain rfl:g=g':=congrArg Addr.block (Option.some.inj e1)
 exact hc _ _ (ru (by omega) hu)
theorem kX (base:Nat) (ty:TypeId) {w:World} (v:Value) (n:Nat) (R:List RecV) (hown:w.ownsRow base 49 49 v n (cA R)) (p:Option Addr) (m c:Nat) (Y:List RecV) (hy:Y.length=m) (hone:∀r∈Y,(ae r).all (·.oneCell')=true)
  (hsrc:0<m->∃lb lo,p=some ⟨lb,lo,none⟩/\∀j,j<Y.length->w.rangeAt lb (lo + j * 49) (ae (Y.getD j {})).toList) (hlen:n + m<=1000000) (hbase:base<=w.heap.size):
  ∃v' w',(Builtin.append_ #[29,29] ty #[v,.slice p m c]).run prog w=.ok v' w'/\w'.ownsRow base 49 49 v' (n + m) (cA (R++Y))/\w.grownBy w' v.ownBlock:=by
 obtain⟨i0,hi,hz0,hz1,hz2⟩:=info_parts Tryz.infoRec
 by_cases h0:0<m
 ·obtain⟨lb,lo,rfl,hr⟩:=hsrc h0
  obtain⟨v',w',hrun,r1,r2,_⟩:=run_append_own (P:=prog) w base 29 ty 49 i0 (.agg (ae {})) 49 216 underlying29 hi hz0 hz1 hz2 rfl (by decide) v n (cA R) hown ⟨lb,lo,none⟩ m c (cA Y) (by rw[fJ,hy])
   (fun j u hu=>by rw[Addr.add_mid];exact yg hr j u hu) (yf hone) (by unfold maxLen;omega) (by omega) hbase
  exact⟨v',w',hrun,by rw[rt];exact r1,r2⟩
 ·obtain rfl:m=0:=by omega
  obtain rfl:Y=[]:=List.length_eq_zero_iff.1 hy
  cases p with
  | none=>exact⟨v,w,eL base _ ty _ i0 49 c underlying29 hi v n (cA R) hown,by simpa using hown,⟨rfl,rfl,rfl,Nat.le_refl _,fun _ _ _=>rfl⟩⟩
  | some ad=>
   obtain⟨v',w',hrun,r1,r2,_⟩:=run_append_own (P:=prog) w base 29 ty 49 i0 (.agg (ae {})) 49 216 underlying29 hi hz0 hz1 hz2 rfl (by decide) v n (cA R) hown ad 0 c [] rfl
    (fun j u hu=>by cases hu) (fun u hu=>by cases hu) (by unfold maxLen;omega) (by omega) hbase
   exact⟨v',w',hrun,by rw[List.append_nil];simpa using r1,r2⟩
theorem aU {ops:Array Oper} {o:Oper} {a:Act} {K:Act->World->Prop} {Q:Exit->Act->World->Prop} {E':Prop} {w:World} (hgd:o.guard=none) (s x:Operand)
  (ho:o.op=.call {callee:=.builtin .append,args:=#[s,x],argTypes:=#[29,29]}) (base:Nat) (v:Value) (n:Nat) (R:List RecV) (hs:a.eval s=v) (hown:w.ownsRow base 49 49 v n (cA R)) (p:Option Addr) (m c:Nat) (Y:List RecV) (hx:a.eval x=.slice p m c) (hy:Y.length=m) (hone:∀r∈Y,(ae r).all (·.oneCell')=true)
  (hsrc:0<m->∃lb lo,p=some ⟨lb,lo,none⟩/\∀j,j<Y.length->w.rangeAt lb (lo + j * 49) (ae (Y.getD j {})).toList) (hlen:n + m<=1000000) (hbase:base<=w.heap.size)
  (h:∀v' w',w'.ownsRow base 49 49 v' (n + m) (cA (R++Y))->w.grownBy w' v.ownBlock->K (a.put o.dst v') w'):
  if Region.wanted o (yielded ops a.tmps)=true then Oper.wp prog o a w K Q else E':=by
 have hw:Region.wanted o (yielded ops a.tmps)=true:=by simp[Region.wanted,hgd]
 rw[if_pos hw]
 obtain⟨v',w',hr,h1,h2⟩:=kX base o.type v n R hown p m c Y hy hone hsrc hlen hbase
 unfold Oper.wp execOp
 simp only[ho,resolve,invoke,builtin,Sem.run_bind,Sem.run_pure,Result.andThen_ok,List.map_toArray,List.map_cons,List.map_nil,hs,hx,hr]
 exact h v' w' h1 h2
theorem ms {ops:Array Oper} {rest:List Oper} {o:Oper} {a:Act} {Q:Exit->Act->World->Prop} {w:World} (hgd:o.guard=none) (s x:Operand)
  (ho:o.op=.call {callee:=.builtin .append,args:=#[s,x],argTypes:=#[29,29]}) (base:Nat) (v:Value) (n:Nat) (R:List RecV) (hs:a.eval s=v) (hown:w.ownsRow base 49 49 v n (cA R)) (p:Option Addr) (m c:Nat) (Y:List RecV) (hx:a.eval x=.slice p m c) (hy:Y.length=m) (hone:∀r∈Y,(ae r).all (·.oneCell')=true)
  (hsrc:0<m->∃lb lo,p=some ⟨lb,lo,none⟩/\∀j,j<Y.length->w.rangeAt lb (lo + j * 49) (ae (Y.getD j {})).toList) (hlen:n + m<=1000000) (hbase:base<=w.heap.size)
  (h:∀v' w',w'.ownsRow base 49 49 v' (n + m) (cA (R++Y))->w.grownBy w' v.ownBlock->wpList prog ops Q rest (a.put o.dst v') w'):wpList prog ops Q (o :: rest) a w:=
 wpList_plain hgd fun K hK=>by
  obtain⟨v',w',hr,h1,h2⟩:=kX base o.type v n R hown p m c Y hy hone hsrc hlen hbase
  unfold Oper.wp execOp
  simp only[ho,resolve,invoke,builtin,Sem.run_bind,Sem.run_pure,Result.andThen_ok,List.map_toArray,List.map_cons,List.map_nil,hs,hx,hr]
  exact hK _ _ (h v' w' h1 h2)
theorem kY (w:World):(Instr.buildSlice 29 0 #[]).run prog w=.ok (.slice (some ⟨w.heap.size,0,none⟩) 0 0) (w.alloc (.cells #[] 49)):=by kernel_rfl
theorem yh (w:World) (B:Nat) (hB:B<=w.heap.size):(w.alloc (.cells #[] 49)).ownsRow B 49 49 (.slice (some ⟨w.heap.size,0,none⟩) 0 0) 0 (cA []):=
 ⟨rfl,.inr ⟨w.heap.size,0,#[],rfl,hB,ax _ _,Nat.le_refl _,by decide,rfl,rfl⟩⟩
theorem nP {w:World} {B g cap n k:Nat} {R:List RecV} (h:w.ownsRow B 49 49 (.slice (some ⟨g,0,none⟩) n cap) n (cA R)) (hk:k<=n):w.ownsRow B 49 49 (.slice (some ⟨g,0,none⟩) k cap) k (cA (R.take k)):=by
 obtain⟨h1,h2⟩:=h
 rw[fJ] at h1
 have hn:n=R.length:=by omega
 rcases h2 with ⟨e,_⟩ | ⟨g',cap',cur,e,hb,hg,hc,hm,hs,ht⟩
 ·cases e
 ·obtain⟨e1,_,e3⟩:=Value.slice.inj e
  obtain rfl:g=g':=congrArg Addr.block (Option.some.inj e1)
  subst e3
  refine⟨by rw[fJ,List.length_take];congr 1;omega,.inr ⟨g,cap,cur,rfl,hb,hg,by omega,hm,hs,?_⟩⟩
  rw[<-vy,<-ht,List.take_take]
  congr 1
  omega
theorem bU {w1 W W':World} {v:Value} {n:Nat} {xs:List Value} (hb:Below w1.heap.size w1 W) (ho:W.ownsRow w1.heap.size 49 49 v n xs) (hg:W.grownBy W' v.ownBlock):Below w1.heap.size w1 W':=
 aB hb (aF hg (·<w1.heap.size) (fun j hj=>Nat.not_lt.2 (World.ownsRow.lt ho j hj).1)) (fun j hj=>hj)
theorem yi {d:RecD} (h:cF d=true) (hok:d.ok):d.barred.length + d.lots.length + d.owners.length<=1000:=by
 obtain⟨hr,he⟩:=eK h
 have hk:=dW h
 by_cases e1:d.kind=1
 ·have b:d.barred=[]:=congrArg RecD.barred (Ar d e1 he)
  have:=sh e1 hr
  rw[b,List.length_nil];omega
 by_cases e2:d.kind=2
 ·have l:d.lots=[]:=congrArg RecD.lots (wM d e2 he)
  have o:d.owners=[]:=congrArg RecD.owners (wM d e2 he)
  have:=(gq h hok).2.1
  rw[dA,if_neg e1,if_pos e2] at this
  simp only[cR,List.length_append,List.length_cons,List.length_nil] at this
  simp only[l,o,List.length_nil];omega
 have key:∀x:RecD,d=x->x.barred=[]->x.lots=[]->x.owners=[]->d.barred.length + d.lots.length + d.owners.length<=1000:=fun x e b l o=>by
  rw[e,b,l,o];decide
 by_cases e3:d.kind=3
 ·exact key _ (As d e3 he) rfl rfl rfl
 by_cases e4:d.kind=4
 ·exact key _ (At d e4 he) rfl rfl rfl
 by_cases e5:d.kind=5
 ·exact key _ (Au d e5 he) rfl rfl rfl
 exact key _ (Av d (by omega) he) rfl rfl rfl
theorem gX {α:Type} (l:List α) (k j:Nat) (d:α) (hj:j<k):(l.take k).getD j d=l.getD j d:=by
 rw[List.getD_eq_getElem?_getD,List.getD_eq_getElem?_getD,List.getElem?_take_of_lt hj]
theorem kZ {α:Type} (l:List α) (k j:Nat) (d:α) (hk:k<l.length):(l.take k++l.drop (k + 1)).getD j d=l.getD (if j<k then j else j + 1) d:=by
 have hl:(l.take k).length=k:=by rw[List.length_take];omega
 rw[List.getD_eq_getElem?_getD,List.getD_eq_getElem?_getD]
 by_cases h:j<k
 ·rw[if_pos h,List.getElem?_append_left (by omega),List.getElem?_take_of_lt h]
 ·rw[if_neg h,List.getElem?_append_right (by omega),hl,List.getElem?_drop,show k + 1 + (j - k)=j + 1 by omega]
theorem ry {α:Type} (l:List α) (k j:Nat) (d:α) (hk:k<l.length):((l.take (k + 1)++[l.getD k d])++l.drop (k + 1)).getD j d=l.getD (if j<=k then j else j - 1) d:=by
 have hl:(l.take (k + 1)).length=k + 1:=by rw[List.length_take];omega
 obtain⟨y,hy⟩:∃y,y=l.getD k d:=⟨_,rfl⟩
 rw[<-hy]
 have hl2:(l.take (k + 1)++[y]).length=k + 2:=by rw[List.length_append,hl];rfl
 rw[List.getD_eq_getElem?_getD]
 by_cases h:j<=k
 ·rw[if_pos h,List.getElem?_append_left (by omega),List.getElem?_append_left (by omega),List.getElem?_take_of_lt (by omega),<-List.getD_eq_getElem?_getD]
 ·rw[if_neg h]
  by_cases h2:j=k + 1
  ·subst h2
   rw[List.getElem?_append_left (by omega),List.getElem?_append_right (by omega),hl,show k + 1 - (k + 1)=0 by omega,show k + 1 - 1=k by omega,<-hy]
   rfl
  ·rw[List.getElem?_append_right (by omega),hl2,List.getElem?_drop,show k + 1 + (j - (k + 2))=j - 1 by omega,<-List.getD_eq_getElem?_getD]
structure km (W:World) (g m:Nat) (rvs:Nat->RecV):Prop where
 row:∀j,j<m->W.rangeAt g (j * 49) (ae (rvs j)).toList
 free:∀j,W.frozen? ⟨g,j,none⟩=false
theorem km.of_own {W:World} {B g cap m:Nat} {R:List RecV} (h:W.ownsRow B 49 49 (.slice (some ⟨g,0,none⟩) m cap) m (cA R)):km W g m (fun j=>R.getD j {}):=
 ⟨(nO h).2,fun j=>h.frozenAt j⟩
theorem gH (r:RecV):(ae r).toList.length=49:=by rw[Array.length_toList,aj]
theorem km.there {W:World} {g m:Nat} {rvs:Nat->RecV} (h:km W g m rvs) {k:Nat} (hk:k<m):W.there g (k * 49) 49:=fun j hj=>
 ⟨World.rangeAt.isSome (h.row k hk) j (by rw[gH];exact hj),h.free _⟩
theorem km.put {W:World} {g m:Nat} {rvs:Nat->RecV} (h:km W g m rvs) {k:Nat} (hk:k<m) (r:RecV):km (W.setCells g (k * 49) (ae r).toList) g m (fun j=>if j=k then r else rvs j):=by
 refine⟨fun j hj=>?_,fun j=>by rw[World.frozen?_setCells];exact h.free j⟩
 by_cases e:j=k
 ·subst e
  simp only[if_pos]
  exact World.rangeAt_setCells_same W g (j * 49) _ (by rw[gH];exact h.there hj)
 ·simp only[if_neg e]
  refine World.rangeAt_setCells_apart (h.row j hj) g (k * 49) _ (.inr ?_)
  rw[gH,gH]
  omega
theorem nQ {α:Type} (l:List α) (i j:Nat) (x d:α) (hj:j<l.length):(l.set i x).getD j d=if j=i then x else l.getD j d:=by
 rw[List.getD_eq_getElem?_getD,List.getD_eq_getElem?_getD,List.getElem?_set]
 by_cases e:i=j
 ·subst e;simp[hj]
 ·rw[if_neg e,if_neg (Ne.symm e)]
theorem fP {ops:Array Oper} {o:Oper} {a:Act} {w:World} {K:Act->World->Prop} {Q:Exit->Act->World->Prop} {E':Prop} (hw:Region.wanted o (yielded ops a.tmps)=true) (ty:TypeId) (x y:Operand) (ho:o.op=.store ty x y)
  (b f:Nat) (cells:Array Value) (hx:a.eval x=.pointer (some ⟨b,f,none⟩)) (hy:a.eval y=.agg cells)
  (ht:w.there b f cells.size) (hi:(prog.info? ty).map (·.size)=some cells.size) (h1:cells.all (·.oneCell')=true)
  (h:K (a.put o.dst undef) (w.setCells b f cells.toList)):if Region.wanted o (yielded ops a.tmps)=true then Oper.wp prog o a w K Q else E':=by
 rw[if_pos hw]
 exact wp_store_mid ty x y ho b f cells hx hy ht hi h1 h
theorem ik {K:Nat->Prop} {W W':World} {g f:Nat} {cs:List Value} (h:W.rangeAt g f cs) (hk:am K W W') (hK:K g):W'.rangeAt g f cs:=fun j v hv=>aJ (h j v hv) hk hK
theorem dV.lt {B:Nat} {w:World} {k:Nat} (h:dV B w k):k<w.heap.size:=by
 obtain⟨_,cur,h | h⟩:=h <;> exact aK h
def pd (B:Nat) (w:World) (v:Value) (ds:List RecD):Prop:=
 ∃(a:Option Addr) (cap:Nat) (rvs:Nat->RecV),v=.slice a ds.length cap/\ds.length<=cap/\
  (0<ds.length->∃lb lo,a=some ⟨lb,lo,none⟩/\lb<w.heap.size/\B<=lb/\∀j,j<ds.length->w.rangeAt lb (lo + j * 49) (ae (rvs j)).toList)/\
  ∀W,am (fun k=>B<=k/\k<w.heap.size) w W->∀j,j<ds.length->bu W (rvs j) (ds.getD j {})
theorem pd.on {B:Nat} {w:World} {v:Value} {ds:List RecD} (h:pd B w v ds) {W:World} (hk:am (fun k=>B<=k/\k<w.heap.size) w W):aX W v ds:=by
 obtain⟨a,cap,rvs,e,hc,h1,h2⟩:=h
 refine⟨a,cap,rvs,e,hc,fun h0=>?_,h2 W hk⟩
 obtain⟨lb,lo,ea,hl,hB,hj⟩:=h1 h0
 exact⟨lb,lo,ea,Nat.lt_of_lt_of_le hl hk.size,fun j hj2=>ik (hj j hj2) hk ⟨hB,hl⟩⟩
theorem pf {B B' n:Nat} {W:World} {v:Value} {R:List RecV} {ds:List RecD} (hl:R.length=ds.length) (hn:n=ds.length) (hB:B<=B') (h:W.ownsRow B' 49 49 v n (cA R)) (hr:∀j,j<ds.length->bD B W (R.getD j {}) (ds.getD j {})):pd B W v ds:=by
 subst hn
 obtain⟨a,cap,e,hc,hx⟩:=az h
 refine⟨a,cap,fun j=>R.getD j {},e,hc,fun h0=>?_,fun W2 hk j hj=>((hr j hj).keepsT hk (fun k hb=>⟨hb.1,hb.lt⟩)).at_⟩
 obtain⟨g,ea,hg,hgl,hj⟩:=hx h0
 exact⟨g,0,ea,hgl,Nat.le_trans hB hg,fun j hjl i u hu=>by rw[Nat.zero_add];exact hj _ _ (ru (by omega) hu)⟩
theorem rz {B g n cap:Nat} {W:World} {ds:List RecD} (rvs:Nat->RecV) (hn:ds.length=n) (hc:n<=cap) (hg:g<W.heap.size) (hB:B<=g) (h1:∀j,j<n->W.rangeAt g (j * 49) (ae (rvs j)).toList)
  (h2:∀W2,am (fun k=>B<=k/\k<W.heap.size) W W2->∀j,j<n->bu W2 (rvs j) (ds.getD j {})):pd B W (.slice (some ⟨g,0,none⟩) n cap) ds:=by
 subst hn
 exact⟨_,cap,rvs,rfl,hc,fun _=>⟨g,0,rfl,hg,hB,fun j hj=>by rw[Nat.zero_add];exact h1 j hj⟩,h2⟩
theorem vz {w W:World} {B C:Nat} {rv:RecV} {d:RecD} (h:bD B w rv d) (hb:Below w.heap.size w W):cS (fun k=>B<=k/\k<w.heap.size) C W rv d:=by
 obtain⟨b,l,o,e,h1,h2,h3⟩:=h
 have fI:∀{v:Value} {xs:List Int},de B w v xs->iV (fun k=>B<=k/\k<w.heap.size) C W v xs:=fun {v xs} h=>by
  obtain⟨a,c,e,hc,hx⟩:=h
  refine⟨a,c,e,hc,fun h0=>?_⟩
  obtain⟨lb,lo,cur,ea,hB,hh,hj⟩:=hx h0
  have hl:=aK hh
  exact⟨lb,lo,ea,Nat.lt_of_lt_of_le hl hb.size,.inl ⟨hB,hl⟩,fun j h=>(hb.cell (p:=⟨lb,lo + j,none⟩) hl).trans (hj j h)⟩
 have fL:∀{v:Value} {xs:List (Int × Int)},d7 B w v xs->jP (fun k=>B<=k/\k<w.heap.size) C W v xs:=fun {v xs} h=>by
  obtain⟨a,c,e,hc,hx⟩:=h
  refine⟨a,c,e,hc,fun h0=>?_⟩
  obtain⟨lb,lo,cur,ea,hB,hh,hj⟩:=hx h0
  have hl:=aK hh
  exact⟨lb,lo,ea,Nat.lt_of_lt_of_le hl hb.size,.inl ⟨hB,hl⟩,fun j h=>⟨(hb.cell (p:=⟨lb,lo + j * 2,none⟩) hl).trans (hj j h).1,(hb.cell (p:=⟨lb,lo + j * 2 + 1,none⟩) hl).trans (hj j h).2⟩⟩
 exact⟨b,l,o,e,fI h1,fL h2,fI h3⟩
theorem yj {B:Nat} {w:World} {v:Value} {ds:List RecD} (h:dQ B w v ds):pd B w v ds:=by
 obtain⟨rvs,h1,h2,h3⟩:=h
 exact pf h1 rfl (Nat.le_refl _) h2 h3
