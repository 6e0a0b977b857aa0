/- A region in which cells are read ahead of a first store and written behind it: what S says of the world is owed only till that store has come. -/
import Derived.Test.YtfnekbfcndkjeaaGreatDoorZPrs
import Derived.Test.YtfnekbfcndkjeaaGreatDoorRows
import Derived.WalkSpells
import Derived.WalkLawsBesides
import Derived.Lib.Hide
import Derived.BigQuiet
import Derived.StillTailTactics
import Derived.Laws.AppendOwnNone
import Derived.Deep.AppendLies
set_option linter.all false
namespace Go.Proofs.YtfnekbfcndkjeaaGreatDoor
open Go.Proofs.Tryz Go.RowKit
theorem ps:(∀ {α:Type} {xs:List α} {i:Nat} (h:i<xs.toArray.size),xs.toArray[i]=xs[i]'(by simpa using h))/\(∀ {α:Type} (a:α) (l:List α) (i:Nat) (h:i + 1<(a :: l).length),(a :: l)[i + 1]=l[i]'(by simpa using h))/\(∀ {α:Type} {a:α} {l:List α} (h:0<(a :: l).length),(a :: l)[0]=a)/\(∀ {α:Type} (l:List α) (i:Nat) (a:α),l.toArray.setIfInBounds i a=(l.set i a).toArray)/\(∀ {α:Type} (x a:α) (xs:List α),(x :: xs).set 0 a=a :: xs)/\(∀ {α:Type} (x a:α) (xs:List α) (n:Nat),(x :: xs).set (n + 1) a=x :: xs.set n a):=
 ⟨fun h=>List.getElem_toArray h,fun _ _ _ h=>rfl,fun h=>rfl,fun _ _ _=>List.setIfInBounds_toArray ..,fun _ _ _=>rfl,fun _ _ _ _=>rfl⟩
theorem Bl:(#[Value.int IntKind.u8 0,Value.int IntKind.u8 0,Value.int IntKind.u8 0,Value.int IntKind.u8 0,Value.int IntKind.u8 0,Value.int IntKind.u8 0,Value.int IntKind.u8 0,Value.int IntKind.u8 0,Value.int IntKind.u8 0,Value.int IntKind.u8 0,Value.int IntKind.u8 0,Value.int IntKind.u8 0,Value.int IntKind.u8 0,Value.int IntKind.u8 0,Value.int IntKind.u8 0,Value.int IntKind.u8 0,Value.int IntKind.u8 0,Value.int IntKind.u8 0,Value.int IntKind.u8 0,Value.int IntKind.u8 0,Value.int IntKind.u8 0,Value.int IntKind.u8 0,Value.int IntKind.u8 0,Value.int IntKind.u8 0,Value.int IntKind.u8 0,Value.int IntKind.u8 0,Value.int IntKind.u8 0,Value.int IntKind.u8 0,Value.int IntKind.u8 0,Value.int IntKind.u8 0,Value.int IntKind.u8 0,Value.int IntKind.u8 0]:Array Value)=Array.replicate 32 (.int .u8 0):=rfl
structure am (K:Nat->Prop) (w w':World):Prop where
 os:w'.os=w.os
 tape:w'.tape=w.tape
 output:w'.output=w.output
 size:w.heap.size<=w'.heap.size
 block:∀k,k<w.heap.size->K k->w'.heap[k]?=w.heap[k]?
theorem am.refl (K:Nat->Prop) (w:World):am K w w:=⟨rfl,rfl,rfl,Nat.le_refl _,fun _ _ _=>rfl⟩
theorem am.trans {K:Nat->Prop} {a b c:World} (h:am K a b) (k:am K b c):am K a c:=
 ⟨k.os.trans h.os,k.tape.trans h.tape,k.output.trans h.output,Nat.le_trans h.size k.size,fun i hi hk=>(k.block i (Nat.lt_of_lt_of_le hi h.size) hk).trans (h.block i hi hk)⟩
theorem am.mono {K K':Nat->Prop} {w w':World} (h:am K w w') (hk:∀k,k<w.heap.size->K' k->K k):am K' w w':=
 ⟨h.os,h.tape,h.output,h.size,fun i hi hk'=>h.block i hi (hk i hi hk')⟩
abbrev BA (w w':World):Prop:=Below w.heap.size w w'
theorem ak {w w':World} (h:Below w.heap.size w w') (K:Nat->Prop):am K w w':=⟨h.os,h.tape,h.output,h.size,fun k hk _=>h.block k hk⟩
theorem am.below {w w':World} {B:Nat} (h:am (·<B) w w') (hB:B<=w.heap.size):Below B w w':=⟨h.os,h.tape,h.output,h.size,fun k hk=>h.block k (Nat.lt_of_lt_of_le hk hB) hk⟩
theorem fj {w w':World} {B:Nat} (h:Below B w w'):am (·<B) w w':=⟨h.os,h.tape,h.output,h.size,fun k _ hk=>h.block k hk⟩
theorem am.alloc {K:Nat->Prop} {a w:World} (h:am K a w) (o:Obj):am K a (w.alloc o):=
 h.trans ⟨rfl,rfl,rfl,by simp,fun k hk _=>Below.heap_alloc _ _ _ hk⟩
theorem am.drew {K:Nat->Prop} {a w:World} (h:am K a w):am K a w.drew:=⟨h.os,h.tape,h.output,h.size,h.block⟩
theorem am.drewN {K:Nat->Prop} {a w:World} (h:am K a w) (n:Nat):am K a (w.drewN n):=⟨h.os,h.tape,h.output,h.size,h.block⟩
theorem am.setCell {K:Nat->Prop} {a w:World} (h:am K a w) {p:Addr} (hp:a.heap.size<=p.block\/¬K p.block) (u:Value):am K a (w.setCell p u):=by
 refine⟨h.os,h.tape,h.output,by simpa [World.setCell] using h.size,fun k hk hK=>?_⟩
 rw[Below.heap_setCell _ _ _ _ (by rcases hp with hp | hp;omega;exact fun e=>hp (e ▸ hK))]
 exact h.block k hk hK
theorem am.new {K:Nat->Prop} {a w w':World} (h:am K a w) (hb:Below w.heap.size w w'):am K a w':=h.trans (ak hb K)
def St (I:World->Prop):Prop:=∀w w',I w->Below w.heap.size w w'->I w'
theorem St.and {I J:World->Prop} (h:St I) (k:St J):St (fun w=>I w/\J w):=fun w w' hi hb=>⟨h w w' hi.1 hb,k w w' hi.2 hb⟩
theorem aC {w:World} {a:Addr} {v:Value} (h:w.cell? a=some v):a.block<w.heap.size:=by
 unfold World.cell? at h
 rcases Nat.lt_or_ge a.block w.heap.size with h' | h'
 ·exact h'
 ·rw[Array.getElem?_eq_none h'] at h;cases h
theorem ax (W:World) (o:Obj):(W.alloc o).heap[W.heap.size]?=some o:=by
 show (W.heap.push o)[W.heap.size]?=_
 simp
theorem aO (W:World) (cs:Array Value) (t:TypeId) (j:Nat):(W.alloc (.cells cs t)).cell? ⟨W.heap.size,j,none⟩=cs[j]? :=by
 unfold World.cell?
 simp only[ax]
 simp
theorem eT (W:World) (cs:Array Value) (t:TypeId) (j:Nat):(W.alloc (.cells cs t)).frozen? ⟨W.heap.size,j,none⟩=false:=by
 unfold World.frozen?
 simp only[ax]
 simp
theorem aq {w:World} {L:Nat} {cs:Array Value} {t:TypeId} {fr:Nat × Nat} (h:w.heap[L]?=some (.cells cs t fr)) (j:Nat):w.cell? ⟨L,j,none⟩=cs[j]? :=by
 unfold World.cell?
 simp only[h]
 simp
theorem aL {w:World} {L:Nat} {cs:Array Value} {t:TypeId} (h:w.heap[L]?=some (.cells cs t (0,0))) (j:Nat):w.frozen? ⟨L,j,none⟩=false:=by
 unfold World.frozen?
 simp only[h]
 simp
theorem aH {w:World} {L:Nat} {cs:Array Value} {t:TypeId} {fr:Nat × Nat} (h:w.heap[L]?=some (.cells cs t fr)) (j:Nat) (v:Value):(w.setCell ⟨L,j,none⟩ v).heap[L]?=some (.cells (cs.setIfInBounds j v) t fr):=by
 unfold World.setCell
 simp only[Array.getElem?_modify,if_pos rfl,h]
 rfl
theorem eA {w:World} {L M:Nat} {o:Obj} (h:w.heap[L]?=some o) (hne:L≠M) (j:Nat) (v:Value):(w.setCell ⟨M,j,none⟩ v).heap[L]?=some o:=by
 rw[Below.heap_setCell _ _ _ _ hne]
 exact h
theorem aK {w:World} {L:Nat} {o:Obj} (h:w.heap[L]?=some o):L<w.heap.size:=(Array.getElem?_eq_some_iff.1 h).1
theorem au {w w':World} {L:Nat} {o:Obj} (h:w.heap[L]?=some o) (hb:Below w.heap.size w w'):w'.heap[L]?=some o:=(hb.block L (aK h)).trans h
theorem aw {K:Nat->Prop} {w w':World} {L:Nat} {o:Obj} (h:w.heap[L]?=some o) (hk:am K w w') (hK:K L):w'.heap[L]?=some o:=(hk.block L (aK h) hK).trans h
theorem aJ {K:Nat->Prop} {w w':World} {b j:Nat} {v:Value} (h:w.cell? ⟨b,j,none⟩=some v) (hk:am K w w') (hK:K b):w'.cell? ⟨b,j,none⟩=some v:=by
 have hb:=aC h
 exact (by unfold World.cell?;rw[hk.block b hb hK]:w'.cell? ⟨b,j,none⟩=w.cell? ⟨b,j,none⟩).trans h
theorem vQ {ι:Type} (P:ι->Prop) (a:ι->Addr) (v:ι->Value):St (fun w=>∀i,P i->w.cell? (a i)=some (v i)):=fun _ _ h hb i hi=>(hb.cell (aC (h i hi))).trans (h i hi)
theorem ar (a:World):St (fun w=>Below a.heap.size a w):=fun _ _ h hb=>h.trans (hb.mono h.size)
theorem af (w:World) (o:Obj):Below w.heap.size w (w.alloc o):=(Below.refl _ w).alloc (Nat.le_refl _) o
theorem aA (w:World):Below w.heap.size w w.drew:=(Below.refl _ w).drew
theorem ay (w:World) (n:Nat):Below w.heap.size w (w.drewN n):=⟨rfl,rfl,rfl,Nat.le_refl _,fun _ _=>rfl⟩
theorem aD {a b c:World} (h:Below a.heap.size a b) (k:Below b.heap.size b c):Below a.heap.size a c:=h.trans (k.mono h.size)
def aa (p:Prop):Prop:=p
theorem aa.out {p:Prop} (h:aa p):p:=h
theorem ac {p:Prop} (h:p):aa p:=h
theorem Tryz.infoU8:(prog.info? 5).map (fun i=>(i.zero,i.size,i.bytes))=some (some (.int .u8 0),1,1):=by kernel_rfl
def dS (base:Nat) (w:World) (v:Value) (xs:List Int):Prop:=w.ownsRow base 5 1 v xs.length (xs.map (Value.int .u8))
theorem dS.form {base:Nat} {w:World} {v:Value} {xs:List Int} (h:dS base w v xs):∃a cap,v=.slice a xs.length cap/\(0<xs.length->∃g,a=some ⟨g,0,none⟩/\base<=g/\∀i,i<xs.length->w.cell? ⟨g,i,none⟩=some (.int .u8 (xs.getD i 0))):=by
 obtain⟨h1,h2⟩:=h
 rcases h2 with ⟨rfl,h3⟩ | ⟨g,cap,cur,rfl,hg,hh,hnc,hcm,hcs,htk⟩
 ·exact⟨none,0,by rw[h3],fun h=>by omega⟩
 ·refine⟨_,cap,rfl,fun _=>⟨g,rfl,hg,fun i hi=>?_⟩⟩
  have hc:(xs.map (Value.int .u8))[i]?=some (.int .u8 (xs.getD i 0)):=by
   rw[List.getElem?_map,List.getElem?_eq_getElem hi,List.getD_eq_getElem?_getD,List.getElem?_eq_getElem hi]
   rfl
  rw[<-htk,List.getElem?_take_of_lt (by omega)] at hc
  unfold World.cell?
  simp only[hh]
  simpa using hc
theorem dS.alloc {base:Nat} {w:World} {v:Value} {xs:List Int} (h:dS base w v xs) (o:Obj):dS base (w.alloc o) v xs:=World.ownsRow.alloc h o
theorem dS.block {base:Nat} {w:World} {v:Value} {xs:List Int} (h:dS base w v xs):∀k,v.ownBlock=some k->base<=k/\k<w.heap.size:=World.ownsRow.lt h
theorem dS.below {base:Nat} {w w':World} {v:Value} {xs:List Int} (h:dS base w v xs) (hb:Below w.heap.size w w'):dS base w' v xs:=by
 obtain⟨h1,h2⟩:=h
 refine⟨h1,h2.imp_right ?_⟩
 rintro⟨g,cap,cur,e,hg,hh,r⟩
 exact⟨g,cap,cur,e,hg,by rw[hb.block g (Array.getElem?_eq_some_iff.1 hh).1];exact hh,r⟩
theorem bI {ops:Array Oper} {rest:List Oper} {o:Oper} {a:Act} {Q:Exit->Act->World->Prop} {w:World} (hgd:o.guard=none) (s x:Operand)
  (ho:o.op=.call {callee:=.builtin .append,args:=#[s,x],argTypes:=#[22,22]})
  (base:Nat) (v:Value) (xs:List Int) (hs:a.eval s=v) (hown:dS base w v xs) (g:Nat) (y:Int) (hx:a.eval x=.slice (some ⟨g,0,none⟩) 1 1) (hy:w.cell? ⟨g,0,none⟩=some (.int .u8 y))
  (hlen:xs.length + 1<=140737488355328) (hbase:base<=w.heap.size)
  (h:∀v' w',dS base w' v' (xs++[y])->w.grownBy w' v.ownBlock->wpList prog ops Q rest (a.put o.dst v') w'):wpList prog ops Q (o :: rest) a w:=by
 obtain⟨i0,hi,hz0,hz1,hz2⟩:=info_parts Tryz.infoU8
 refine wpList_append_own w hgd s x 22 ho base 5 i0 (.int .u8 0) 1 1 underlying22 hi hz0 hz1 hz2 rfl (by decide) v xs.length (xs.map (Value.int .u8)) hs hown
  ⟨g,0,none⟩ 1 1 [.int .u8 y] hx rfl (fun j u hu=>?_) (by simp[Value.oneCell']) (by unfold maxLen;omega) (by omega) hbase fun v' w' hown' hgrow _=>h v' w' ?_ hgrow
 ·cases j with
  | zero=>simp at hu;subst hu;exact hy
  | succ j=>simp at hu
 ·unfold dS
  rw[List.length_append,List.map_append]
  exact hown'
section
variable {P : Program} {ops : Array Oper} {Q : Exit -> Act -> World -> Prop} {md : Region.Mode} {S : World -> Prop} {t : Nat}
def mf (S:World->Prop) (t:Nat) (listed:Array Bool) (w:World):Prop:=listed.getD t false=true\/S w
def dK (P:Program) (md:Region.Mode) (ops:Array Oper) (Q:Exit->Act->World->Prop) (S:World->Prop) (t:Nat):Nat->Array Bool->Act->World->Prop
 | 0,listed,a,w=>Region.ready md ops listed=[]/\Q .normal a w
 | n + 1,listed,a,w=>(Region.ready md ops listed=[]->Q .normal a w)/\
   ∀j∈Region.ready md ops listed,wpOp P ops Q j (fun b u=>mf S t (listed.setIfInBounds j true) u/\dK P md ops Q S t n (listed.setIfInBounds j true) b u) a w
theorem jK:∀(n:Nat) (listed:Array Bool) (a:Act) (w:World),dK P md ops Q S t n listed a w->wpAny P md ops Q n listed a w
 | 0,_,_,_,h=>h
 | n + 1,_,_,_,h=>⟨h.1,fun j hj=>wpOp_mono (fun b u h2=>jK n _ b u h2.2) (h.2 j hj)⟩
theorem mf.set {listed:Array Bool} {w:World} {i:Nat} (hit:i≠t):mf S t (listed.setIfInBounds i true) w↔mf S t listed w:=by
 unfold mf;rw[getD_set_ne false hit]
theorem jT {i:Nat} {oi:Oper} {v:Value} (hi:ops[i]?=some oi) (hsel:Region.noSelect ops=true) (hQ:∀c a w,Q (.panic c) (a.put oi.dst v) w->Q (.panic c) a w) (hit:i≠t)
  (R:World->Prop) (G:Array Bool->Prop) (hR:∀listed w,G listed->mf S t listed w->R w)
  (hG:∀listed j,G listed->listed.getD i true=false->j∈Region.ready md ops listed->j≠i->G (listed.setIfInBounds j true)) (n:Nat):
  ∀(listed:Array Bool) (a:Act) (w:World),(∀ j oj,ops[j]?=some oj->j≠i->listed.getD j true=false->(∀ e∈oj.after,Region.binds md e=true->e.on≠i)->oi.apart ops oj=true)->
   G listed->i∈Region.ready md ops listed->YieldsIf P ops R oi v a->mf S t listed w->dK P md ops Q S t n (listed.setIfInBounds i true) (a.put oi.dst v) w->dK P md ops Q S t (n + 1) listed a w:=by
 have no:=fun j o cs b (h:ops[j]?=some o)=>Region.noSelect_spec hsel j o cs b h
 induction n with
 | zero=>
  intro listed a w _ g hr hy hS H
  refine⟨fun h=>absurd hr (by rw[h];exact List.not_mem_nil),fun j hj=>?_⟩
  by_cases e:j=i
  ·subst e;exact hy.wpOp hi (hR _ _ g hS) ⟨(mf.set hit).2 hS,H⟩
  ·have h2:=ready_mono hj e
   rw[H.1] at h2
   exact absurd h2 List.not_mem_nil
 | succ n ih=>
  intro listed a w hf g hr hy hS H
  refine⟨fun h=>absurd hr (by rw[h];exact List.not_mem_nil),fun j hj=>?_⟩
  by_cases e:j=i
  ·subst e;exact hy.wpOp hi (hR _ _ g hS) ⟨(mf.set hit).2 hS,H⟩
  ·obtain⟨hun,oj,hoj,hall⟩:=mem_ready.1 hj
   have hui:=(mem_ready.1 hr).1
   have hnot:∀x∈oj.after,Region.binds md x=true->x.on≠i:=fun x hx hb hxi=>by
    have h1:=hall x hx hb
    rw[hxi] at h1
    by_cases hl:i<listed.size
    ·simp[hl] at hui h1;rw[hui] at h1;cases h1
    ·simp[Array.getElem?_eq_none (Nat.le_of_not_lt hl)] at hui
   have h2:=wpOp_putIf hoj (hf j oj hoj e hun hnot) (fun cs b=>no i oi cs b hi) (fun cs b=>no j oj cs b hoj) hQ hy (H.2 j (ready_mono hj e))
   refine wpOp_mono (fun b u h3=>?_) h2
   obtain⟨hy3,ho3,hw3⟩:=h3
   have hc:(listed.setIfInBounds i true).setIfInBounds j true=(listed.setIfInBounds j true).setIfInBounds i true:=(Array.setIfInBounds_comm _ _ e).symm
   rw[hc] at ho3 hw3
   have ho4:=(mf.set hit).1 ho3
   refine⟨ho4,ih (listed.setIfInBounds j true) b u (fun k ok hk hki hku hno=>hf k ok hk hki ?_ hno) (hG listed j g hui hj e) (ready_mono hr (Ne.symm e)) hy3 ho4 hw3⟩
   by_cases ejk:j=k
   ·subst ejk;exact hun
   ·rwa [getD_set_ne true ejk] at hku
theorem ox {i:Nat} {oi:Oper} {v:Value} {n:Nat} {listed:Array Bool} {a:Act} {w:World} (hi:ops[i]?=some oi) (hsel:Region.noSelect ops=true) (hf:Region.free md ops listed i=true) (hr:(Region.ready md ops listed).contains i=true) (hit:i≠t)
  (hQ:∀c a w,Q (.panic c) (a.put oi.dst v) w->Q (.panic c) a w) (hy:YieldsIf P ops (fun _=>True) oi v a) (hS:mf S t listed w)
  (h:dK P md ops Q S t n (listed.setIfInBounds i true) (a.put oi.dst v) w):dK P md ops Q S t (n + 1) listed a w:=
 jT hi hsel hQ hit (fun _=>True) (fun _=>True) (fun _ _ _ _=>trivial) (fun _ _ _ _ _ _=>trivial) n listed a w (Region.free_spec hi hf) trivial (by simpa using hr) hy hS h
theorem lf {oi:Oper} {n:Nat} {listed:Array Bool} {a:Act} {w:World} (i:Nat) (v:Value) (hS:mf S t listed w) (h:dK P md ops Q S t n (listed.setIfInBounds i true) (a.put oi.dst v) w)
 (hi:ops[i]?=some oi:=by exact rfl) (hy:∀w,True->(execOp a.eval oi).run P w=.ok (.value v) w:=by intro W hSw;go_simp) (hsel:Region.noSelect ops=true:=by kernel_rfl)
 (hf:Region.free md ops listed i=true:=by kernel_rfl) (hr:(Region.ready md ops listed).contains i=true:=by kernel_rfl) (hit:i≠t:=by decide)
 (hQ:∀c a w,Q (.panic c) (a.put oi.dst v) w->Q (.panic c) a w:=by exact fun _ _ _ h=>h) (hg:Region.wanted oi (yielded ops a.tmps)=true:=by exact rfl):dK P md ops Q S t (n + 1) listed a w:=
 ox hi hsel hf hr hit hQ (Or.inl ⟨hg,hy⟩) hS h
theorem cX {i:Nat} {oi:Oper} {v:Value} {n:Nat} {listed:Array Bool} {a:Act} {w:World} (hi:ops[i]?=some oi) (hsel:Region.noSelect ops=true) (hf:Region.free md ops listed i=true) (hr:(Region.ready md ops listed).contains i=true) (hit:i≠t)
  (hw:Region.waitsFor md ops t i=true) (ht:listed.getD t false=false)
  (hQ:∀c a w,Q (.panic c) (a.put oi.dst v) w->Q (.panic c) a w) (hy:YieldsIf P ops S oi v a) (hS:S w)
  (h:dK P md ops Q S t n (listed.setIfInBounds i true) (a.put oi.dst v) w):dK P md ops Q S t (n + 1) listed a w:=by
 obtain⟨ot,hot,e,he,hb,heq⟩:=Region.waitsFor_spec hw
 refine jT hi hsel hQ hit S (fun l=>l.getD t false=false) (fun l u g ho=>?_) (fun l j g hu hj hji=>?_) n listed a w (Region.free_spec hi hf) ht (by simpa using hr) hy (.inr hS) h
 ·rcases ho with ho | ho
  ·rw[g] at ho;cases ho
  ·exact ho
 ·have hjt:j≠t:=fun hjt=>by
   subst hjt
   obtain⟨_,o2,ho2,hall⟩:=mem_ready.1 hj
   rw[hot] at ho2
   cases ho2
   have h1:=hall e he hb
   rw[heq] at h1
   by_cases hl:i<l.size
   ·simp[hl] at hu h1;rw[hu] at h1;cases h1
   ·simp[Array.getElem?_eq_none (Nat.le_of_not_lt hl)] at hu
  show (l.setIfInBounds j true).getD t false=false
  rw[getD_set_ne false hjt];exact g
theorem gh {j:Nat} {o:Oper} {n:Nat} {listed:Array Bool} {a:Act} {w:World} (hr:Region.ready md ops listed=[j]) (ho:ops[j]?=some o) (hflag:(listed.setIfInBounds j true).getD t false=true)
  (h:∀K:Act->World->Prop,Shut (∀ b u,dK P md ops Q S t n (listed.setIfInBounds j true) b u->K b u)->if Region.wanted o (yielded ops a.tmps)=true then Oper.wp P o a w K Q else K (a.put o.dst undef) w):dK P md ops Q S t (n + 1) listed a w:=
 ⟨fun h0=>(by rw[hr] at h0;cases h0),fun k hk=>by
  rw[hr] at hk
  obtain rfl:=List.mem_singleton.1 hk
  exact wpOp_step ho fun K hK=>h K fun b u hb=>hK b u ⟨.inl hflag,hb⟩⟩
theorem fZ {listed:Array Bool} {a:Act} {w:World} (hr:Region.ready md ops listed=[]) (h:Q .normal a w):∀n,dK P md ops Q S t n listed a w
 | 0=>⟨hr,h⟩
 | _ + 1=>⟨fun _=>h,by rw[hr];simp⟩
theorem eU {id:Nat} {a:Act} {w:World} (hm:P.follows .mixedOrders=true) (h:dK P .any ops Q S t ops.size (Array.replicate ops.size false) a w.drew):(Code.region id ops true).wp P Q a w:=
 wp_region_any hm (jK _ _ _ _ h)
end
