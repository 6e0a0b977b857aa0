/- slices.Index, Contains, Clone at the types wanted; lapse: walked. -/
import Derived.Test.YtfnekbfcndkjeaaGreatDoorZSame2
set_option maxHeartbeats 2000000
set_option maxRecDepth 100000
set_option linter.all false
namespace Go.Proofs.YtfnekbfcndkjeaaGreatDoor
open Go.Proofs.Tryz Go.RowKit Go.Maps
def oN (v:Value):Option (DataW Value × List MemPlace):=some (.held v,[])
def qx (c:Int):Prop:=-9223372036854775808<=c/\c<=9223372036854775807
theorem qx.wf {c:Int} (h:qx c):(Lit.int .i64 c).wf=true:=by
 obtain⟨h1,h2⟩:=h
 simp[Lit.wf,IntKind.min,IntKind.max,IntKind.signed,IntKind.bits]
 omega
theorem Tryz.keyed:Keyed prog 3:=int_keyed underlying3
theorem mW {c:Int} (h:qx c):keyOf prog 3 (.int .i64 c)=some (.int .i64 c):=keyOf_int_mk underlying3 h.wf
def db (w:World) (b n:Nat) (f:Int->Option Value):Prop:=
 ∃D:DataW Value,w.ownsMap prog 3 oN b n D/\∀c,qx c->Maps.has D (.int .i64 c)=(f c).isSome/\∀v,f c=some v->∀z,D.atKey (.int .i64 c) z=.held v
theorem db.lt {w:World} {b n:Nat} {f:Int->Option Value} (h:db w b n f):b<w.heap.size:=by obtain⟨D,h,_⟩:=h;exact h.lt
theorem db.mono {w:World} {b n m:Nat} {f:Int->Option Value} (h:db w b n f) (hn:n<=m):db w b m f:=by obtain⟨D,h,r⟩:=h;exact⟨D,h.mono hn,r⟩
theorem db.keeps {K:Nat->Prop} {w w':World} {b n:Nat} {f:Int->Option Value} (h:db w b n f) (hk:am K w w') (hK:K b):db w' b n f:=by
 obtain⟨D,h,r⟩:=h
 have hlt:=h.lt
 obtain⟨es,clock,hb,F,hs,hD⟩:=h
 exact⟨D,⟨es,clock,(hk.block b hlt hK).trans hb,F,hs,hD⟩,r⟩
theorem db.new {w w':World} {b n:Nat} {f:Int->Option Value} (h:db w b n f) (hb:Below w.heap.size w w'):db w' b n f:=h.keeps (ak hb (fun _=>True)) trivial
theorem db.made (w:World):db (w.alloc (.map #[] 0)) w.heap.size 0 (fun _=>none):=
 ⟨.map [],World.ownsMap_made _ _ _ _,fun c _=>⟨rfl,fun v h=>by cases h⟩⟩
theorem db.block {w:World} {b n:Nat} {f:Int->Option Value} (h:db w b n f):∃es clock,w.heap[b]?=some (.map es clock):=by
 obtain⟨D,⟨es,clock,hb,_⟩,_⟩:=h
 exact⟨es,clock,hb⟩
section
variable {ops : Array Oper} {rest : List Oper} {o : Oper} {a : Act} {Q : Exit -> Act -> World -> Prop}
theorem jh (w:World) (hg:o.guard=none) (m x:Operand) (t e:TypeId) (hop:o.op=Op.lookup t m x true) (ht:prog.underlying t=some (.map 3 e)) {z:Value} (hz:(zeroValue e).run prog w=.ok z w)
  (b n:Nat) (f:Int->Option Value) (hm:a.eval m=.map (some b)) (hf:db w b n f) (c:Int) (hx:a.eval x=.int .i64 c) (hc:qx c) (y:Value) (ob:Bool) (hy:(f c).getD z=y) (hob:(f c).isSome=ob)
  (hK:wpList prog ops Q rest (a.put o.dst (.tuple #[y,.bool ob])) w):wpList prog ops Q (o :: rest) a w:=by
 subst hy hob
 obtain⟨D,hown,hr⟩:=hf
 obtain⟨h1,h2⟩:=hr c hc
 refine wpList_lookup_own_ok w hg m x t hop 3 e Tryz.keyed ht oN hz (.held z) [] rfl b n D hm hown _ _ hx (mW hc) fun v ps hv=>?_
 rw[h1]
 have hv':(DataW.held v:DataW Value)=D.atKey (.int .i64 c) (.held z):=congrArg Prod.fst (Option.some.inj hv)
 cases hfc:f c with
 | some y=>
  rw[h2 y hfc] at hv'
  have e:v=y:=by injection hv'
  subst e
  rw[hfc] at hK
  exact hK
 | none=>
  rw[atKey_of_not_has (by rw[h1,hfc];rfl)] at hv'
  have e:v=z:=by injection hv'
  subst e
  rw[hfc] at hK
  exact hK
theorem fp (w:World) (t e:TypeId) (ht:prog.underlying t=some (.map 3 e)) {z:Value} (hz:(zeroValue e).run prog w=.ok z w)
  (b n:Nat) (f:Int->Option Value) (hf:db w b n f) (c:Int) (hc:qx c):
  (Instr.lookup t (.map (some b)) (.int .i64 c) true).run prog w=.ok (.tuple #[(f c).getD z,.bool (f c).isSome]) w:=by
 obtain⟨D,hown,hr⟩:=hf
 obtain⟨h1,h2⟩:=hr c hc
 obtain⟨v,ps,hrun,hv⟩:=hown.look_ok Tryz.keyed ht hz (R:=oN) (zd:=.held z) (zp:=[]) rfl (mW hc)
 rw[hrun,h1]
 have hv':(DataW.held v:DataW Value)=D.atKey (.int .i64 c) (.held z):=congrArg Prod.fst (Option.some.inj hv)
 cases hfc:f c with
 | some y=>
  rw[h2 y hfc] at hv'
  have e:v=y:=by injection hv'
  subst e
  rfl
 | none=>
  rw[atKey_of_not_has (by rw[h1,hfc];rfl)] at hv'
  have e:v=z:=by injection hv'
  subst e
  rfl
theorem xp (w:World) (t e:TypeId) (ht:prog.underlying t=some (.map 3 e)) {z:Value} (hz:(zeroValue e).run prog w=.ok z w)
  (b n:Nat) (f:Int->Option Value) (hf:db w b n f) (c:Int) (hc:qx c):
  (Instr.lookup t (.map (some b)) (.int .i64 c) false).run prog w=.ok ((f c).getD z) w:=by
 obtain⟨D,hown,hr⟩:=hf
 obtain⟨h1,h2⟩:=hr c hc
 obtain⟨v,ps,hrun,hv⟩:=hown.lookup Tryz.keyed ht hz (R:=oN) (zd:=.held z) (zp:=[]) rfl (mW hc)
 rw[hrun]
 have hv':(DataW.held v:DataW Value)=D.atKey (.int .i64 c) (.held z):=congrArg Prod.fst (Option.some.inj hv)
 cases hfc:f c with
 | some y=>
  rw[h2 y hfc] at hv'
  have e:v=y:=by injection hv'
  subst e
  rfl
 | none=>
  rw[atKey_of_not_has (by rw[h1,hfc];rfl)] at hv'
  have e:v=z:=by injection hv'
  subst e
  rfl
theorem fq (w:World) (hg:o.guard=none) (m x:Operand) (t e:TypeId) (hop:o.op=Op.lookup t m x false) (ht:prog.underlying t=some (.map 3 e)) {z:Value} (hz:(zeroValue e).run prog w=.ok z w)
  (b n:Nat) (f:Int->Option Value) (hm:a.eval m=.map (some b)) (hf:db w b n f) (c:Int) (hx:a.eval x=.int .i64 c) (hc:qx c) (y:Value) (hy:(f c).getD z=y)
  (hK:wpList prog ops Q rest (a.put o.dst y) w):wpList prog ops Q (o :: rest) a w:=by
 subst hy
 refine wpList_plain hg fun K' hK'=>?_
 have hrun:=xp w t e ht hz b n f hf c hc
 unfold Oper.wp
 simp[execOp,hop,hm,hx,hrun,Result.andThen]
 exact hK' _ _ hK
theorem iW (w:World) (hg:o.guard=none) (m x y:Operand) (t e:TypeId) (hop:o.op=Op.mapUpdate t m x y) (ht:prog.underlying t=some (.map 3 e))
  (b n:Nat) (f:Int->Option Value) (hm:a.eval m=.map (some b)) (hf:db w b n f) (hn:n<maxLen) (c:Int) (v:Value) (hx:a.eval x=.int .i64 c) (hv:a.eval y=v) (hc:qx c)
  (hK:∀w',db w' b (n + 1) (jI f c v)->w.grownBy w' (some b)->wpList prog ops Q rest (a.put o.dst undef) w'):wpList prog ops Q (o :: rest) a w:=by
 obtain⟨D,hown,hr⟩:=hf
 refine wpList_mapUpdate_own w hg m x y t hop 3 e Tryz.keyed ht oN b n D hm hown hn _ v _ hx hv (mW hc) (.held v) [] rfl fun w' hown' hgrow=>hK w' ⟨_,hown',fun c' hc'=>?_⟩ hgrow
 have hI:=hown.isMap
 by_cases h:c'=c
 ·subst h
  have hk:WideAt.IsKeyLit (.int .i64 c'):=trivial
  exact⟨by rw[has_put_same hI hk];simp[jI],fun u hu z=>by rw[atKey_put_same hI hk];simp[jI] at hu;rw[hu]⟩
 ·have hne:(Lit.int .i64 c':Lit)≠.int .i64 c:=fun e=>h (by injection e)
  obtain⟨h1,h2⟩:=hr c' hc'
  refine⟨by rw[has_put_other hne,h1];simp[jI,h],fun u hu z=>?_⟩
  rw[atKey_put_other hne]
  exact h2 u (by simpa [jI,h] using hu) z
end
theorem qy {base:Nat} {E:TypeId} {w:World} {v:Value} {n:Nat} {xs:List Value} {g:Nat} {cap:Nat} (h:w.ownsRow base E 1 v n xs) (hv:v=.slice (some ⟨g,0,none⟩) n cap) (j:Nat) (x:Value):
  (w.setCell ⟨g,j,none⟩ x).ownsRow base E 1 v n (xs.set j x):=by
 obtain⟨h1,h2⟩:=h
 refine⟨by simpa using h1,.inr ?_⟩
 subst hv
 rcases h2 with ⟨h,_⟩ | ⟨g',cap',cur,hv,hg,hh,hnc,hcm,hcs,htk⟩
 ·cases h
 ·obtain⟨rfl,rfl⟩:g'=g/\cap'=cap:=by
   injection hv with h1 h2 h3
   injection h1 with h1
   injection h1 with h1
   exact⟨h1.symm,h3.symm⟩
  refine⟨g',cap',cur.setIfInBounds j x,rfl,hg,aH hh j x,hnc,hcm,by simpa using hcs,?_⟩
  rw[<-htk]
  simp[List.take_set]
def eZ (S:Nat->Prop) (w:World) (v:Value) (xs:List Int):Prop:=w.ownsRow 0 3 1 v xs.length (xs.map (Value.int .i64))/\∀k,v.ownBlock=some k->S k
def cM (xs:List (Int × Int)):List Value:=xs.flatMap fun x=>[.int .i64 x.1,.int .i64 x.2]
def dt (xs:List OutT):List Value:=xs.flatMap fun x=>[.int .i64 x.1,.int .i64 x.2.1,.int .u64 x.2.2]
def rI (S:Nat->Prop) (w:World) (v:Value) (xs:List (Int × Int)):Prop:=w.ownsRow 0 63 2 v xs.length (cM xs)/\∀k,v.ownBlock=some k->S k
def qd (S:Nat->Prop) (w:World) (v:Value) (xs:List OutT):Prop:=w.ownsRow 0 46 3 v xs.length (dt xs)/\∀k,v.ownBlock=some k->S k
def Ap (a b:Value):Prop:=∀k,a.ownBlock=some k->b.ownBlock≠some k
def sm (l:List Int):Value:=.agg (l.map (Value.int .u8)).toArray
def mX (f:Int->Option (List Int)):Int->Option Value:=fun c=>(f c).map sm
def gv (f:Int->Option Int):Int->Option Value:=fun c=>(f c).map (Value.int .u64)
structure df (w:World) (r:Nat) (o:Opn) (mb bb:Nat):Prop where
 here:∃cs,w.heap[r]?=some (.cells cs 133 (0,0))/\cs[1]?=some (.int .i64 o.round)/\cs[2]?=some (.int .i64 o.lot)/\cs[4]?=some (.int .i64 o.tick)/\cs[49]?=some (.map (some mb))/\cs[50]?=some (.map (some bb))
theorem df.keeps {K:Nat->Prop} {w w':World} {r mb bb:Nat} {o:Opn} (h:df w r o mb bb) (hk:am K w w') (hK:K r):df w' r o mb bb:=by
 obtain⟨cs,h,h2⟩:=h
 exact⟨⟨cs,aw h hk hK,h2⟩⟩
theorem df.lt {w:World} {r mb bb:Nat} {o:Opn} (h:df w r o mb bb):r<w.heap.size:=by obtain⟨cs,h,_⟩:=h;exact aK h
theorem df.round {w:World} {r mb bb:Nat} {o:Opn} (h:df w r o mb bb):w.cell? ⟨r,1,none⟩=some (.int .i64 o.round):=by obtain⟨cs,h,h1,h2,h3,h4,h5⟩:=h;rw[aq h];exact h1
theorem df.lot {w:World} {r mb bb:Nat} {o:Opn} (h:df w r o mb bb):w.cell? ⟨r,2,none⟩=some (.int .i64 o.lot):=by obtain⟨cs,h,h1,h2,h3,h4,h5⟩:=h;rw[aq h];exact h2
theorem df.tick {w:World} {r mb bb:Nat} {o:Opn} (h:df w r o mb bb):w.cell? ⟨r,4,none⟩=some (.int .i64 o.tick):=by obtain⟨cs,h,h1,h2,h3,h4,h5⟩:=h;rw[aq h];exact h3
theorem df.marks {w:World} {r mb bb:Nat} {o:Opn} (h:df w r o mb bb):w.cell? ⟨r,49,none⟩=some (.map (some mb)):=by obtain⟨cs,h,h1,h2,h3,h4,h5⟩:=h;rw[aq h];exact h4
theorem df.bids {w:World} {r mb bb:Nat} {o:Opn} (h:df w r o mb bb):w.cell? ⟨r,50,none⟩=some (.map (some bb)):=by obtain⟨cs,h,h1,h2,h3,h4,h5⟩:=h;rw[aq h];exact h5
theorem df.same {w:World} {r mb bb:Nat} {o o':Opn} (h:df w r o mb bb) (h1:o'.round=o.round) (h2:o'.lot=o.lot) (h3:o'.tick=o.tick):df w r o' mb bb:=by
 obtain⟨cs,h⟩:=h
 exact⟨⟨cs,by rw[h1,h2,h3];exact h⟩⟩
def fR (S:Nat->Prop) (n:Nat) (w:World) (v:Value):Option Opn->Prop
 | none=>v=.pointer none
 | some o=>∃r mb bb,v=.pointer (some ⟨r,0,none⟩)/\S r/\S mb/\S bb/\mb≠bb/\df w r o mb bb/\db w mb n (mX o.marks)/\db w bb n (gv o.bids)/\∀c l,o.marks c=some l->l.length=32/\Bs l
structure bB (S:Nat->Prop) (n:Nat) (w:World) (p:Nat) (v:bS) (st:MSt):Prop where
 here:aV w p v
 own:S p
 scn:∃b o,v.scn=st.scene.toV b v.scn.lots o
 lots:rI S w v.scn.lots st.scene.lots
 owners:eZ S w v.owners st.owners
 states:eZ S w v.states st.states
 outs:qd S w v.outs st.outs
 barred:eZ S w v.barred st.barred
 ap1:Ap v.owners v.states
 ap2:Ap v.owners v.barred
 ap3:Ap v.states v.barred
 opn:fR S n w v.opn st.opn
 tick:v.tick=st.tick
 ended : v.ended = st.ended
 nout:st.outs.length<=n
 sok:-9223372036854775808<=st.scene.kind/\st.scene.kind<=9223372036854775807
def ft (S:Nat->Prop) (n:Nat) (w:World) (p:Nat) (st:MSt):Prop:=(∃ v,bB S n w p v st)/\st.Wf/\st.Nx
theorem eZ.keeps {S K:Nat->Prop} {w w':World} {v:Value} {xs:List Int} (h:eZ S w v xs) (hk:am K w w') (hK:∀k,S k->K k):eZ S w' v xs:=by
 obtain⟨⟨h1,h2⟩,h3⟩:=h
 refine⟨⟨h1,h2.imp_right ?_⟩,h3⟩
 rintro⟨g,cap,cur,e,hg,hh,r⟩
 exact⟨g,cap,cur,e,hg,aw hh hk (hK g (h3 g (by rw[e];rfl))),r⟩
theorem rI.keeps {S K:Nat->Prop} {w w':World} {v:Value} {xs:List (Int × Int)} (h:rI S w v xs) (hk:am K w w') (hK:∀k,S k->K k):rI S w' v xs:=by
 obtain⟨⟨h1,h2⟩,h3⟩:=h
 refine⟨⟨h1,h2.imp_right ?_⟩,h3⟩
 rintro⟨g,cap,cur,e,hg,hh,r⟩
 exact⟨g,cap,cur,e,hg,aw hh hk (hK g (h3 g (by rw[e];rfl))),r⟩
theorem qd.keeps {S K:Nat->Prop} {w w':World} {v:Value} {xs:List OutT} (h:qd S w v xs) (hk:am K w w') (hK:∀k,S k->K k):qd S w' v xs:=by
 obtain⟨⟨h1,h2⟩,h3⟩:=h
 refine⟨⟨h1,h2.imp_right ?_⟩,h3⟩
 rintro⟨g,cap,cur,e,hg,hh,r⟩
 exact⟨g,cap,cur,e,hg,aw hh hk (hK g (h3 g (by rw[e];rfl))),r⟩
theorem eZ.keep {S K:Nat->Prop} {w w':World} {v:Value} {xs:List Int} (h:eZ S w v xs) (hk:am K w w') (hK:∀k,v.ownBlock=some k->K k):eZ S w' v xs:=by
 obtain⟨⟨h1,h2⟩,h3⟩:=h
 refine⟨⟨h1,h2.imp_right ?_⟩,h3⟩
 rintro⟨g,cap,cur,e,hg,hh,r⟩
 exact⟨g,cap,cur,e,hg,aw hh hk (hK g (by rw[e];rfl)),r⟩
theorem rI.keep {S K:Nat->Prop} {w w':World} {v:Value} {xs:List (Int × Int)} (h:rI S w v xs) (hk:am K w w') (hK:∀k,v.ownBlock=some k->K k):rI S w' v xs:=by
 obtain⟨⟨h1,h2⟩,h3⟩:=h
 refine⟨⟨h1,h2.imp_right ?_⟩,h3⟩
 rintro⟨g,cap,cur,e,hg,hh,r⟩
 exact⟨g,cap,cur,e,hg,aw hh hk (hK g (by rw[e];rfl)),r⟩
theorem qd.keep {S K:Nat->Prop} {w w':World} {v:Value} {xs:List OutT} (h:qd S w v xs) (hk:am K w w') (hK:∀k,v.ownBlock=some k->K k):qd S w' v xs:=by
 obtain⟨⟨h1,h2⟩,h3⟩:=h
 refine⟨⟨h1,h2.imp_right ?_⟩,h3⟩
 rintro⟨g,cap,cur,e,hg,hh,r⟩
 exact⟨g,cap,cur,e,hg,aw hh hk (hK g (by rw[e];rfl)),r⟩
theorem eZ.wide {S S':Nat->Prop} {w:World} {v:Value} {xs:List Int} (h:eZ S w v xs) (hS:∀k,S k->S' k):eZ S' w v xs:=⟨h.1,fun k hk=>hS k (h.2 k hk)⟩
theorem rI.wide {S S':Nat->Prop} {w:World} {v:Value} {xs:List (Int × Int)} (h:rI S w v xs) (hS:∀k,S k->S' k):rI S' w v xs:=⟨h.1,fun k hk=>hS k (h.2 k hk)⟩
theorem qd.wide {S S':Nat->Prop} {w:World} {v:Value} {xs:List OutT} (h:qd S w v xs) (hS:∀k,S k->S' k):qd S' w v xs:=⟨h.1,fun k hk=>hS k (h.2 k hk)⟩
theorem eZ.block {S:Nat->Prop} {w:World} {v:Value} {xs:List Int} (h:eZ S w v xs):∀k,v.ownBlock=some k->∃cur,w.heap[k]?=some (.cells cur 3 (0,0)):=by
 intro k hk
 rcases h.1.2 with ⟨e,_⟩ | ⟨g,cap,cur,e,_,hh,_⟩
 ·rw[e] at hk;cases hk
 ·rw[e] at hk
  obtain rfl:g=k:=by injection hk
  exact⟨cur,hh⟩
theorem rI.block {S:Nat->Prop} {w:World} {v:Value} {xs:List (Int × Int)} (h:rI S w v xs):∀k,v.ownBlock=some k->∃cur,w.heap[k]?=some (.cells cur 63 (0,0)):=by
 intro k hk
 rcases h.1.2 with ⟨e,_⟩ | ⟨g,cap,cur,e,_,hh,_⟩
 ·rw[e] at hk;cases hk
 ·rw[e] at hk
  obtain rfl:g=k:=by injection hk
  exact⟨cur,hh⟩
theorem qd.block {S:Nat->Prop} {w:World} {v:Value} {xs:List OutT} (h:qd S w v xs):∀k,v.ownBlock=some k->∃cur,w.heap[k]?=some (.cells cur 46 (0,0)):=by
 intro k hk
 rcases h.1.2 with ⟨e,_⟩ | ⟨g,cap,cur,e,_,hh,_⟩
 ·rw[e] at hk;cases hk
 ·rw[e] at hk
  obtain rfl:g=k:=by injection hk
  exact⟨cur,hh⟩
theorem eZ.row {S:Nat->Prop} {w:World} {v:Value} {xs:List Int} (h:eZ S w v xs):bA w v xs:=by
 obtain⟨a,cap,e,hc,hx⟩:=az h.1
 refine⟨a,cap,e,hc,fun h0=>?_⟩
 obtain⟨g,ea,_,hg,hj⟩:=hx h0
 refine⟨g,0,ea,hg,fun j hjl=>?_⟩
 rw[Nat.zero_add]
 refine hj j _ ?_
 rw[List.getElem?_map,List.getElem?_eq_getElem hjl,List.getD_eq_getElem?_getD,List.getElem?_eq_getElem hjl]
 rfl
theorem ji (xs:List (Int × Int)):(cM xs).length=xs.length * 2:=by
 induction xs with
 | nil=>rfl
 | cons x xs ih=>
  have e:(cM (x :: xs))=.int .i64 x.1 :: .int .i64 x.2 :: cM xs:=rfl
  rw[e,List.length_cons,List.length_cons,ih,List.length_cons]
  omega
theorem gQ (xs:List (Int × Int)):∀j,j<xs.length->(cM xs)[j * 2]?=some (.int .i64 (xs.getD j (0,0)).1)/\(cM xs)[j * 2 + 1]?=some (.int .i64 (xs.getD j (0,0)).2):=by
 induction xs with
 | nil=>intro j h;simp at h
 | cons x xs ih=>
  intro j h
  cases j with
  | zero=>exact⟨rfl,rfl⟩
  | succ j=>
   have:=ih j (by simpa using h)
   have e:(cM (x :: xs))=.int .i64 x.1 :: .int .i64 x.2 :: cM xs:=rfl
   rw[e,show (j + 1) * 2=j * 2 + 1 + 1 by omega]
   simpa using this
theorem rI.row {S:Nat->Prop} {w:World} {v:Value} {xs:List (Int × Int)} (h:rI S w v xs):cZ w v xs:=by
 obtain⟨a,cap,e,hc,hx⟩:=az h.1
 refine⟨a,cap,e,hc,fun h0=>?_⟩
 obtain⟨g,ea,_,hg,hj⟩:=hx h0
 refine⟨g,0,ea,hg,fun j hjl=>?_⟩
 rw[Nat.zero_add]
 exact⟨hj _ _ (gQ xs j hjl).1,hj _ _ (gQ xs j hjl).2⟩
theorem fR.keeps {S K:Nat->Prop} {n:Nat} {w w':World} {v:Value} {o:Option Opn} (h:fR S n w v o) (hk:am K w w') (hK:∀k,S k->K k):fR S n w' v o:=by
 cases o with
 | none=>exact h
 | some o=>
  obtain⟨r,mb,bb,e,h1,h2,h3,h4,h5,h6,h7,h8⟩:=h
  exact⟨r,mb,bb,e,h1,h2,h3,h4,h5.keeps hk (hK r h1),h6.keeps hk (hK mb h2),h7.keeps hk (hK bb h3),h8⟩
theorem fR.wide {S S':Nat->Prop} {n m:Nat} {w:World} {v:Value} {o:Option Opn} (h:fR S n w v o) (hS:∀k,S k->S' k) (hn:n<=m):fR S' m w v o:=by
 cases o with
 | none=>exact h
 | some o=>
  obtain⟨r,mb,bb,e,h1,h2,h3,h4,h5,h6,h7,h8⟩:=h
  exact⟨r,mb,bb,e,hS _ h1,hS _ h2,hS _ h3,h4,h5,h6.mono hn,h7.mono hn,h8⟩
theorem fR.keep {S K:Nat->Prop} {n:Nat} {w w':World} {v:Value} {o:Option Opn} (h:fR S n w v o) (hk:am K w w') (hK:∀k,(∃ cs,w.heap[k]?=some (.cells cs 133 (0,0)))\/(∃ es clock,w.heap[k]?=some (.map es clock))->K k):fR S n w' v o:=by
 cases o with
 | none=>exact h
 | some o=>
  obtain⟨r,mb,bb,e,h1,h2,h3,h4,h5,h6,h7,h8⟩:=h
  exact⟨r,mb,bb,e,h1,h2,h3,h4,h5.keeps hk (hK r (.inl (by obtain⟨cs,h,_⟩:=h5;exact⟨cs,h⟩))),h6.keeps hk (hK mb (.inr h6.block)),h7.keeps hk (hK bb (.inr h7.block)),h8⟩
theorem bB.keeps {S K:Nat->Prop} {n:Nat} {w w':World} {p:Nat} {v:bS} {st:MSt} (h:bB S n w p v st) (hk:am K w w') (hK:∀k,S k->K k):bB S n w' p v st:=
 {h with here:=h.here.keeps hk (hK p h.own),lots:=h.lots.keeps hk hK,owners:=h.owners.keeps hk hK,states:=h.states.keeps hk hK,outs:=h.outs.keeps hk hK,barred:=h.barred.keeps hk hK,opn:=h.opn.keeps hk hK}
theorem bB.wide {S S':Nat->Prop} {n m:Nat} {w:World} {p:Nat} {v:bS} {st:MSt} (h:bB S n w p v st) (hS:∀k,S k->S' k) (hn:n<=m):bB S' m w p v st:=
 {h with own:=hS p h.own,lots:=h.lots.wide hS,owners:=h.owners.wide hS,states:=h.states.wide hS,outs:=h.outs.wide hS,barred:=h.barred.wide hS,opn:=h.opn.wide hS hn,nout:=Nat.le_trans h.nout hn}
theorem bB.new {S:Nat->Prop} {n:Nat} {w w':World} {p:Nat} {v:bS} {st:MSt} (h:bB S n w p v st) (hb:Below w.heap.size w w'):bB S n w' p v st:=h.keeps (ak hb (fun _=>True)) (fun _ _=>trivial)
theorem ft.keeps {S K:Nat->Prop} {n:Nat} {w w':World} {p:Nat} {st:MSt} (h:ft S n w p st) (hk:am K w w') (hK:∀k,S k->K k):ft S n w' p st:=⟨by obtain⟨v,h⟩:=h.1;exact⟨v,h.keeps hk hK⟩,h.2⟩
theorem ft.new {S:Nat->Prop} {n:Nat} {w w':World} {p:Nat} {st:MSt} (h:ft S n w p st) (hb:Below w.heap.size w w'):ft S n w' p st:=h.keeps (ak hb (fun _=>True)) (fun _ _=>trivial)
theorem ft.wide {S S':Nat->Prop} {n m:Nat} {w:World} {p:Nat} {st:MSt} (h:ft S n w p st) (hS:∀k,S k->S' k) (hn:n<=m):ft S' m w p st:=⟨by obtain⟨v,h⟩:=h.1;exact⟨v,h.wide hS hn⟩,h.2⟩
open Go.RowKit
theorem pF (w:World):Calls prog 14 #[] w fun e w'=>e=.returned (.pointer (some ⟨w.heap.size,0,none⟩))/\w'=w.alloc (.cells (eI {}) 93):=by
 have hb:(Instr.build 93 #[]).run prog w=.ok (.agg (eI {})) w:=by kernel_rfl
 go_enter func14,ntmps14
 go_wp2_with fail
 go_ret
 exact⟨rfl,rfl⟩
theorem oO {w w':World} (h:w'=w.alloc (.cells (eI {}) 93)):ft (·=w.heap.size) 0 w' w.heap.size {}:=by
 subst h
 refine⟨⟨{},⟨ax _ _,rfl,⟨.slice none 0 0,.slice none 0 0,by rw[show ({}:bS).scn=({}:RecV) from rfl];unfold RecD.toV;rw[show (fun k=>(({}:MSt).scene.dig.getD k 0))=fun _=>0 from funext (dU 32)]⟩,?_,?_,?_,?_,?_,?_,?_,?_,rfl,rfl,rfl,Nat.le_refl _,by decide⟩⟩,wX,wY⟩
 ·exact⟨World.ownsRow_nil _ _ _ _,fun k h=>by cases h⟩
 ·exact⟨World.ownsRow_nil _ _ _ _,fun k h=>by cases h⟩
 ·exact⟨World.ownsRow_nil _ _ _ _,fun k h=>by cases h⟩
 ·exact⟨World.ownsRow_nil _ _ _ _,fun k h=>by cases h⟩
 ·exact⟨World.ownsRow_nil _ _ _ _,fun k h=>by cases h⟩
 ·intro k h;cases h
 ·intro k h;cases h
 ·intro k h;cases h
section
variable {S : Nat -> Prop} {n : Nat} {w : World} {p : Nat} {v : bS} {st : MSt}
theorem bB.kind (h:bB S n w p v st):v.scn.kind=st.scene.kind:=by obtain⟨b,o,e⟩:=h.scn;rw[e];rfl
theorem bB.carriers (h:bB S n w p v st):v.scn.carriers=st.scene.carriers:=by obtain⟨b,o,e⟩:=h.scn;rw[e];rfl
theorem bB.commit (h:bB S n w p v st):v.scn.commit=st.scene.commit:=by obtain⟨b,o,e⟩:=h.scn;rw[e];rfl
theorem bB.reveal (h:bB S n w p v st):v.scn.reveal=st.scene.reveal:=by obtain⟨b,o,e⟩:=h.scn;rw[e];rfl
theorem bB.scheme (h:bB S n w p v st):v.scn.scheme=st.scene.scheme:=by obtain⟨b,o,e⟩:=h.scn;rw[e];rfl
theorem oP (h:bB S n w p v st):Calls prog 46 #[.pointer (some ⟨p,0,none⟩)] w fun e w'=>e=.returned (.bool (decide (st.scene.kind≠0)))/\∃m,w'=w.drewN m:=by
 have c0:=h.here.rkind
 rw[h.kind] at c0
 have e:(st.scene.kind !=0)=decide (st.scene.kind≠0):=by by_cases h:st.scene.kind=0 <;> simp[h]
 clear h
 go_enter func46,ntmps46
 go_wp2_with fail
 go_ret
 exact⟨by simp,0,rfl⟩
theorem mw (h:bB S n w p v st) (hw:st.Wf):Calls prog 77 #[.pointer (some ⟨p,0,none⟩)] w fun e w'=>e=.returned (.int .i64 st.due)/\∃m,w'=w.drewN m:=by
 have c1:=h.here.rcommit
 have c2:=h.here.rreveal
 rw[h.commit] at c1
 rw[h.reveal] at c2
 have b1:=hw.comm
 have b2:=hw.revl
 have e:st.due=st.scene.commit + st.scene.reveal:=rfl
 rw[e]
 clear h hw e
 generalize st.scene.commit=x at *
 generalize st.scene.reveal=y at *
 have hwr:IntKind.i64.wrap (x + y)=x + y:=IntWalk.i64_in _ (by omega)
 go_enter func77,ntmps77
 go_wp2_with fail
 go_region
 go_wp2_with fail
 go_ret
 exact⟨by first | rfl | rw[hwr],1,rfl⟩
theorem oQ (h:bB S n w p v st) (hw:st.Wf) (k:Nat) (hk:k<st.scene.lots.length):Calls prog 74 #[.pointer (some ⟨p,0,none⟩),.int .i64 k] w fun e w'=>e=.returned (.int .i64 (st.owner k))/\∃m,w'=w.drewN m:=by
 have c1:=h.here.rlots
 have c2:=h.here.owners
 obtain⟨a1,n1,e1,hc1,hx1⟩:=h.lots.row
 obtain⟨a2,n2,e2,hc2,hx2⟩:=h.owners.row
 have hq:=hw.reqs k hk
 obtain⟨b1,o1,rfl,_,hj1⟩:=hx1 (by omega)
 obtain⟨b2,o2,rfl,_,hj2⟩:=hx2 (by omega)
 obtain⟨q,hqq⟩:∃q:Nat,(st.scene.lots.getD k (0,0)).1=q:=Int.eq_ofNat_of_zero_le hq.1
 have d1:=(hj1 k hk).1
 have hq2:q<st.owners.length:=by omega
 have d2:=hj2 q hq2
 have eo:st.owner k=st.owners.getD q 0:=by unfold MSt.owner MSt.req;rw[hqq];rfl
 rw[e1] at c1
 rw[e2] at c2
 rw[hqq] at d1
 rw[eo]
 have hnl:=hw.nlots
 have hno:=hw.nown
 obtain⟨x,hx⟩:∃x,x=st.owners.getD q 0:=⟨_,rfl⟩
 rw[<-hx] at d2 ⊢
 obtain⟨N1,hN1⟩:∃x,x=st.scene.lots.length:=⟨_,rfl⟩
 obtain⟨N2,hN2⟩:∃x,x=st.owners.length:=⟨_,rfl⟩
 rw[<-hN1] at c1 hk
 rw[<-hN2] at c2 hq2
 have i1:(k:Int)<N1:=by omega
 have i2:(q:Int)<N2:=by omega
 clear h hw hx1 hx2 hj1 hj2 hqq eo e1 e2 hx hq hN1 hN2 hc1 hc2
 go_enter func74,ntmps74
 go_wp2_with fail
 go_region
 go_wp2_with fail
 go_ret
 exact⟨rfl,1,rfl⟩
end
section
variable {S : Nat -> Prop} {n : Nat} {w : World} {p : Nat} {v : bS} {st : MSt}
theorem lx (h:bB S n w p v st) (ho:st.opn=none) (rv:RecV):
  Calls prog 76 #[.pointer (some ⟨p,0,none⟩),.agg (ae rv)] w fun e w'=>e=.returned (.tuple #[.int .i64 0,.bool false])/\Below w.heap.size w w':=by
 have hopn:=h.opn
 rw[ho] at hopn
 have hv:v.opn=.pointer none:=hopn
 obtain⟨L,hL⟩:∃x,x=w.heap.size:=⟨_,rfl⟩
 obtain⟨w0,hw0⟩:∃z,z=w.alloc (.cells (ae rv) 49):=⟨_,rfl⟩
 have HN0:aa (Below w.heap.size w w0):=by rw[hw0];exact af _ _
 have c4:w0.cell? ⟨p,52,none⟩=some (.pointer none):=by have:=(h.here.new HN0.out).opn;rw[hv] at this;exact this
 clear hopn h
 go_enter func76,ntmps76
 go_upto_region 1 with fail
 rw[<-hw0,<-hL]
 clear hw0 hL
 go_region
 go_wp2_with fail
 go_ret2
 exact⟨rfl,HN0.out.drew⟩
theorem jB (h:bB S n w p v st) (hw:st.Wf) (o:Opn) (ho:st.opn=some o) (rv:RecV) (ht:0<=rv.tick/\rv.tick<=9223372036854775807):
  Calls prog 76 #[.pointer (some ⟨p,0,none⟩),.agg (ae rv)] w fun e w'=>e=.returned (if rv.round=o.round then .tuple #[.int .i64 (rv.tick - o.tick),.bool true] else .tuple #[.int .i64 0,.bool false])/\Below w.heap.size w w':=by
 have hopn:=h.opn
 rw[ho] at hopn
 obtain⟨r,mb,bb,hv,_,_,_,_,hr,_,_,_⟩:=hopn
 have hot:=(hw.opn o ho).2
 obtain⟨L,hL⟩:∃x,x=w.heap.size:=⟨_,rfl⟩
 obtain⟨w0,hw0⟩:∃z,z=w.alloc (.cells (ae rv) 49):=⟨_,rfl⟩
 have HN0:aa (Below w.heap.size w w0):=by rw[hw0];exact af _ _
 have HR0:ah w0 L rv:=by rw[hw0,hL];exact ah.box _ _
 have c4:w0.cell? ⟨p,52,none⟩=some (.pointer (some ⟨r,0,none⟩)):=by have:=(h.here.new HN0.out).opn;rw[hv] at this;exact this
 have hr0:=hr.keeps (ak HN0.out (fun _=>True)) trivial
 have r1:=hr0.round
 have r4:=hr0.tick
 have l1:=HR0.round
 have l4:=HR0.tick
 generalize o.round=x at *
 generalize o.tick=y at *
 generalize hrr:rv.round=z at *
 generalize hrt:rv.tick=t at *
 obtain⟨A,hA⟩:∃A:Value,A=if z=x then .tuple #[.int .i64 (t - y),.bool true] else .tuple #[.int .i64 0,.bool false]:=⟨_,rfl⟩
 rw[<-hA]
 have HA:=ac hA
 clear h hw hr hr0 hv ho HR0 hrr hrt hA
 go_enter func76,ntmps76
 go_upto_region 1 with fail
 rw[<-hw0,<-hL]
 clear hw0 hL
 by_cases hz:z=x
 ·have HZ:=ac hz
  have hzb:(z !=x)=false:=by rw[hz];simp
  have hwr:IntKind.i64.wrap (t - y)=t - y:=IntWalk.i64_in _ (by omega)
  clear hz
  go_region
  go_wp2_with fail
  go_region
  go_wp2_with fail
  go_ret2
  exact⟨by rw[HA.out,if_pos HZ.out];rfl,HN0.out.drew.drew⟩
 ·have HZ:=ac hz
  have hzb:(z !=x)=true:=by simpa using hz
  clear hz
  go_region
  go_wp2_with fail
  go_ret2
  exact⟨by rw[HA.out,if_neg HZ.out];rfl,HN0.out.drew⟩
end
theorem xq {xs:List Int} {x:Int} {k:Nat} (hk:k<xs.length) (h:xs.getD k 0=x):x∈xs:=(da xs x).2 ⟨k,hk,h⟩
theorem uD (xs:List Int) (hxs:xs.length<=9223372036854775807) (x:Int) (v:Value) (w:World) (h:bA w v xs):
  Calls prog 106 #[v,.int .i64 x] w fun e w'=>(∃ z:Int,e=.returned (.int .i64 z)/\(0<=z↔x∈xs))/\w'=w:=by
 obtain⟨a,cap,rfl,hcap,hx⟩:=h
 obtain⟨n,hn⟩:∃n,n=xs.length:=⟨_,rfl⟩
 rw[<-hn] at hcap hx hxs ⊢
 have HX:=ac hx
 have HN:=ac hn
 have HCAP:=ac hcap
 clear hx hn hcap
 go_enter func106,ntmps106
 go_wp2_with fail
 go_loop [8] (fun i=>∃k:Nat,k<=n/\i=.int .i64 k/\aa (∀ j,j<k->xs.getD j 0≠x)) (fun i=>n - (intOf i).toNat)
 case atStart=>exact⟨0,Nat.zero_le _,rfl,fun j h=>absurd h (by omega)⟩
 case round=>
  obtain⟨k,hk,rfl,hno⟩:=hrel
  have HNO:=ac hno
  clear hno
  by_cases hkn:k<n
  ·obtain⟨lb,lo,rfl,hlb,hj⟩:=HX.out (by omega)
   have c:=hj k hkn
   have hki:(k:Int)<n:=by omega
   obtain⟨y,hy⟩:∃y,y=xs.getD k 0:=⟨_,rfl⟩
   rw[<-hy] at c
   have HY:=ac hy
   clear hj hlb hy
   by_cases hxy:x=y
   ·have HXY:=ac hxy
    have hb:(x==y)=true:=by simpa using hxy
    clear hxy
    go_wp2_with fail
    go_ret
    exact⟨⟨k,rfl,⟨fun _=>xq (by rw[<-HN.out];exact hkn) (by rw[<-HY.out,HXY.out]),fun _=>by omega⟩⟩,rfl⟩
   ·have HXY:=ac hxy
    have hb:(x==y)=false:=by simpa using hxy
    clear hxy
    go_wp2_with fail
    go_round
    case rel=>exact⟨k + 1,hkn,by go_num,fun j hj=>by
     by_cases e:j=k
     ·rw[e,<-HY.out];exact fun h=>HXY.out h.symm
     ·exact HNO.out.out j (by omega)⟩
    case measure=>simp[intOf];omega
  ·have hki:¬(k:Int)<n:=by omega
   go_wp2_with fail
   go_ret
   refine⟨⟨-1,rfl,⟨fun h=>absurd h (by decide),fun h=>?_⟩⟩,rfl⟩
   obtain⟨j,hj,e⟩:=(da xs x).1 h
   exact absurd e (HNO.out.out j (by rw[<-HN.out] at hj;omega))
theorem iE (xs:List Int) (hxs:xs.length<=9223372036854775807) (x:Int) (v:Value) (w:World) (h:bA w v xs):
  Calls prog 73 #[v,.int .i64 x] w fun e w'=>e=.returned (.bool (decide (x∈xs)))/\w'=w:=by
 obtain⟨B,hB⟩:∃B,B=decide (x∈xs):=⟨_,rfl⟩
 rw[<-hB]
 have HB:=ac hB
 have HI:=ac (uD xs hxs x v w h)
 clear hB h hxs
 go_enter func73,ntmps73
 go_wp2_with fail
 refine HI.out.mono ?_
 rintro e w' ⟨⟨z,rfl,hz⟩,rfl⟩
 have HZ:aa (decide (0<=z)=B):=by rw[aa,HB.out];exact decide_eq_decide.2 hz
 clear hz
 go_wp2_with fail
 go_ret
 exact⟨by rw[<-HZ.out];simp,rfl⟩
section
end
theorem Tryz.infoOut:(prog.info? 46).map (fun i=>(i.zero,i.size,i.bytes))=some (some (.agg #[.int .i64 0,.int .i64 0,.int .u64 0]),3,24):=by kernel_rfl
theorem Tryz.infoLt:(prog.info? 63).map (fun i=>(i.zero,i.size,i.bytes))=some (some (.agg #[.int .i64 0,.int .i64 0]),2,16):=by kernel_rfl
def y6 (w:World) (v:Value) (n size:Nat) (xs:List Value):Prop:=
 ∃a cap,v=.slice a n cap/\xs.length=n * size/\(∀ u∈xs,u.oneCell'=true)/\(0<n->∃lb lo,a=some ⟨lb,lo,none⟩/\lb<w.heap.size/\∀j u,xs[j]?=some u->w.cell? ⟨lb,lo + j,none⟩=some u)
def io (E:TypeId) (size n:Nat) (xs:List Value) (w:World) (e:Ending) (w':World):Prop:=
 ∃v',e=.returned v'/\w'.ownsRow w.heap.size E size v' n xs/\Below w.heap.size w w'
theorem bA.src {w:World} {v:Value} {xs:List Int} (h:bA w v xs):y6 w v xs.length 1 (xs.map (Value.int .i64)):=by
 obtain⟨a,cap,e,_,hx⟩:=h
 refine⟨a,cap,e,by simp,fun u hu=>by obtain⟨z,_,rfl⟩:=List.mem_map.1 hu;rfl,fun h0=>?_⟩
 obtain⟨lb,lo,ea,hlb,hj⟩:=hx h0
 refine⟨lb,lo,ea,hlb,fun j u hu=>?_⟩
 have hjl:j<xs.length:=by have:=(List.getElem?_eq_some_iff.1 hu).1;simpa using this
 rw[hj j hjl]
 rw[List.getElem?_map,List.getElem?_eq_getElem hjl] at hu
 rw[List.getD_eq_getElem?_getD,List.getElem?_eq_getElem hjl]
 exact hu
theorem cZ.src {w:World} {v:Value} {xs:List (Int × Int)} (h:cZ w v xs):y6 w v xs.length 2 (cM xs):=by
 obtain⟨a,cap,e,_,hx⟩:=h
 refine⟨a,cap,e,ji xs,fun u hu=>by obtain⟨z,_,hz⟩:=List.mem_flatMap.1 hu;rcases List.mem_cons.1 hz with rfl | hz;rfl;obtain rfl:=List.mem_singleton.1 hz;rfl,fun h0=>?_⟩
 obtain⟨lb,lo,ea,hlb,hj⟩:=hx h0
 refine⟨lb,lo,ea,hlb,fun j u hu=>?_⟩
 have hjl:j<xs.length * 2:=by have:=(List.getElem?_eq_some_iff.1 hu).1;rw[ji] at this;exact this
 have hk:j / 2<xs.length:=by omega
 have h1:=gQ xs (j / 2) hk
 have h2:=hj (j / 2) hk
 rcases Nat.mod_two_eq_zero_or_one j with e | e
 ·have ej:j=j / 2 * 2:=by omega
  rw[ej] at hu ⊢
  rw[h1.1] at hu
  rw[h2.1];exact hu
 ·have ej:j=j / 2 * 2 + 1:=by omega
  rw[ej] at hu ⊢
  rw[h1.2] at hu
  rw[<-Nat.add_assoc,h2.2];exact hu
theorem j4 (w:World) (v:Value) (n:Nat) (xs:List Value) (hn:n<=1000000000) (h:y6 w v n 1 xs):Calls prog 49 #[v] w (io 3 1 n xs w):=by
 obtain⟨a,cap,rfl,hl,ho,hx⟩:=h
 have q:=fun w a n c n' c'=>Lib.run_eql_slice_nil (P:=prog) w _ _ a n c n' c' underlying41
 have HX:=ac hx
 clear hx
 cases a with
 | none=>
  obtain rfl:n=0:=by
   rcases Nat.eq_zero_or_pos n with h | h
   ·exact h
   ·obtain⟨_,_,h,_⟩:=HX.out h;cases h
  obtain rfl:xs=[]:=List.length_eq_zero_iff.1 (by simpa using hl)
  go_enter func49,ntmps49
  go_wp2_with fail
  go_ret
  exact⟨_,rfl,World.ownsRow_nil _ _ _ _,Below.refl _ _⟩
 | some ad=>
  go_enter func49,ntmps49
  go_wp2_with (first
   | (at_builtin;refine cD rfl _ _ 41 3 rfl (.int .i64 0) 1 8 underlying41 Tryz.infoInt rfl (by decide) w.heap.size _ 0 [] rfl (World.ownsRow_made w #[] 0 (Nat.le_refl _) (Nat.zero_le _) rfl) _ n _ xs rfl ?c1 ?c2 ?c3 ?c4 ?c5 ?c6 ?_)
   | fail)
  case c1=>omega
  case c2=>exact ho
  case c3=>
   intro h0
   obtain⟨lb,lo,e,hlb,hj⟩:=HX.out h0
   exact⟨lb,lo,e,fun j u hu=>Lib.cell?_alloc_some _ (hj j u hu)⟩
  case c4=>unfold maxLen;omega
  case c5=>omega
  case c6=>simp
  intro v' w1 hown hgrow
  have HOW:aa (w1.ownsRow w.heap.size 3 1 v' n xs):=by rw[aa];simpa using hown
  have HB:aa (Below w.heap.size w w1):=((Below.refl _ w).alloc (Nat.le_refl _) _).grown hgrow (by simp) (by intro k hk;simp[Value.ownBlock] at hk;omega)
  clear hown hgrow
  go_wp2_with fail
  go_ret
  exact⟨v',rfl,HOW.out,HB.out⟩
theorem sn (w:World) (v:Value) (n:Nat) (xs:List Value) (hn:n<=1000000000) (h:y6 w v n 2 xs):Calls prog 72 #[v] w (io 63 2 n xs w):=by
 obtain⟨a,cap,rfl,hl,ho,hx⟩:=h
 have q:=fun w a n c n' c'=>Lib.run_eql_slice_nil (P:=prog) w _ _ a n c n' c' underlying47
 have HX:=ac hx
 clear hx
 cases a with
 | none=>
  obtain rfl:n=0:=by
   rcases Nat.eq_zero_or_pos n with h | h
   ·exact h
   ·obtain⟨_,_,h,_⟩:=HX.out h;cases h
  obtain rfl:xs=[]:=List.length_eq_zero_iff.1 (by simpa using hl)
  go_enter func72,ntmps72
  go_wp2_with fail
  go_ret
  exact⟨_,rfl,World.ownsRow_nil _ _ _ _,Below.refl _ _⟩
 | some ad=>
  go_enter func72,ntmps72
  go_wp2_with (first
   | (at_builtin;refine cD rfl _ _ 47 63 rfl (.agg #[.int .i64 0,.int .i64 0]) 2 16 underlying47 Tryz.infoLt rfl (by decide) w.heap.size _ 0 [] rfl (World.ownsRow_made w #[] 0 (Nat.le_refl _) (Nat.zero_le _) rfl) _ n _ xs rfl ?c1 ?c2 ?c3 ?c4 ?c5 ?c6 ?_)
   | fail)
  case c1=>omega
  case c2=>exact ho
  case c3=>
   intro h0
   obtain⟨lb,lo,e,hlb,hj⟩:=HX.out h0
   exact⟨lb,lo,e,fun j u hu=>Lib.cell?_alloc_some _ (hj j u hu)⟩
  case c4=>unfold maxLen;omega
  case c5=>omega
  case c6=>simp
  intro v' w1 hown hgrow
  have HOW:aa (w1.ownsRow w.heap.size 63 2 v' n xs):=by rw[aa];simpa using hown
  have HB:aa (Below w.heap.size w w1):=((Below.refl _ w).alloc (Nat.le_refl _) _).grown hgrow (by simp) (by intro k hk;simp[Value.ownBlock] at hk;omega)
  clear hown hgrow
  go_wp2_with fail
  go_ret
  exact⟨v',rfl,HOW.out,HB.out⟩
theorem sp (w:World) (v:Value) (n:Nat) (xs:List Value) (hn:n<=1000000000) (h:y6 w v n 3 xs):Calls prog 50 #[v] w (io 46 3 n xs w):=by
 obtain⟨a,cap,rfl,hl,ho,hx⟩:=h
 have q:=fun w a n c n' c'=>Lib.run_eql_slice_nil (P:=prog) w _ _ a n c n' c' underlying65
 have HX:=ac hx
 clear hx
 cases a with
 | none=>
  obtain rfl:n=0:=by
   rcases Nat.eq_zero_or_pos n with h | h
   ·exact h
   ·obtain⟨_,_,h,_⟩:=HX.out h;cases h
  obtain rfl:xs=[]:=List.length_eq_zero_iff.1 (by simpa using hl)
  go_enter func50,ntmps50
  go_wp2_with fail
  go_ret
  exact⟨_,rfl,World.ownsRow_nil _ _ _ _,Below.refl _ _⟩
 | some ad=>
  go_enter func50,ntmps50
  go_wp2_with (first
   | (at_builtin;refine cD rfl _ _ 65 46 rfl (.agg #[.int .i64 0,.int .i64 0,.int .u64 0]) 3 24 underlying65 Tryz.infoOut rfl (by decide) w.heap.size _ 0 [] rfl (World.ownsRow_made w #[] 0 (Nat.le_refl _) (Nat.zero_le _) rfl) _ n _ xs rfl ?c1 ?c2 ?c3 ?c4 ?c5 ?c6 ?_)
   | fail)
  case c1=>omega
  case c2=>exact ho
  case c3=>
   intro h0
   obtain⟨lb,lo,e,hlb,hj⟩:=HX.out h0
   exact⟨lb,lo,e,fun j u hu=>Lib.cell?_alloc_some _ (hj j u hu)⟩
  case c4=>unfold maxLen;omega
  case c5=>omega
  case c6=>simp
  intro v' w1 hown hgrow
  have HOW:aa (w1.ownsRow w.heap.size 46 3 v' n xs):=by rw[aa];simpa using hown
  have HB:aa (Below w.heap.size w w1):=((Below.refl _ w).alloc (Nat.le_refl _) _).grown hgrow (by simp) (by intro k hk;simp[Value.ownBlock] at hk;omega)
  clear hown hgrow
  go_wp2_with fail
  go_ret
  exact⟨v',rfl,HOW.out,HB.out⟩
theorem kE (l:List Int):ci 0 l=l:=by simp[ci]
theorem jj (n:Nat) (l:List Int) (j:Nat) (hj:j<l.length):(ci n l).getD j 0=if j<n then j1 (l.getD j 0) else l.getD j 0:=by
 unfold ci
 rw[List.getD_eq_getElem?_getD,List.getD_eq_getElem?_getD]
 by_cases h:j<n
 ·rw[if_pos h,List.getElem?_append_left (by simp;omega),List.getElem?_map,List.getElem?_take_of_lt h,List.getElem?_eq_getElem hj]
  rfl
 ·rw[if_neg h,List.getElem?_append_right (by simp;omega),List.getElem?_drop]
  congr 2
  simp
  omega
theorem mY {n:Nat} {l:List Int} (hn:n<l.length):(ci n l).getD n 0=l.getD n 0:=by rw[jj n l n hn,if_neg (Nat.lt_irrefl n)]
theorem kG {k:Nat} {l:List Int} {j:Nat} (hj:j<l.length):(ci (k + 1) l).getD j 0=if j=k then j1 (l.getD k 0) else (ci k l).getD j 0:=by
 rw[jj _ _ _ hj,jj _ _ _ hj]
 by_cases h:j=k
 ·subst h;rw[if_pos rfl,if_pos (Nat.lt_succ_self _)]
 ·rw[if_neg h]
  by_cases h2:j<k
  ·rw[if_pos h2,if_pos (by omega)]
  ·rw[if_neg h2,if_neg (by omega)]
theorem oR (g cap m:Nat) (xs:List Int) (hm:m<=xs.length) (hx:xs.length<=1000000) (w:World) (cur:Array Value) (hg:w.heap[g]?=some (.cells cur 3 (0,0))) (hc:∀j,j<xs.length->cur[j]?=some (.int .i64 (xs.getD j 0))):
  Calls prog 75 #[.slice (some ⟨g,0,none⟩) m cap] w fun e w'=>e=.returned (.tuple #[])/\am (·≠g) w w'/\∃cur',w'.heap[g]?=some (.cells cur' 3 (0,0))/\cur'.size=cur.size/\∀j,j<xs.length->cur'[j]?=some (.int .i64 ((ci m xs).getD j 0)):=by
 have HC:=ac hc
 have HG:=ac hg
 clear hc hg
 go_enter func75,ntmps75
 go_wp2_with fail
 go_loopw [6] (fun i wr=>∃k:Nat,k<=m/\i=.int .i64 k/\aa (am (·≠g) w wr/\∃cur',wr.heap[g]?=some (.cells cur' 3 (0,0))/\cur'.size=cur.size/\∀j,j<xs.length->cur'[j]?=some (.int .i64 ((ci k xs).getD j 0)))) (fun i _=>m - (intOf i).toNat)
 case atStart=>exact⟨0,Nat.zero_le _,rfl,am.refl _ _,cur,HG.out,rfl,fun j hj=>by rw[kE];exact HC.out j hj⟩
 case round=>
  obtain⟨k,hk,rfl,HR⟩:=hrel
  obtain⟨hkp,cur',hg',hs',hc'⟩:=HR.out
  by_cases hkm:k<m
  ·have hki:(k:Int)<m:=by omega
   have c:wr.cell? ⟨g,k,none⟩=some (.int .i64 ((ci k xs).getD k 0)):=by rw[aq hg'];exact hc' k (by omega)
   have f:=aL hg' k
   obtain⟨s,hs⟩:∃s,s=xs.getD k 0:=⟨_,rfl⟩
   rw[mY (by omega),<-hs] at c
   have HS:=ac hs
   have HKP:=ac hkp
   have HG':=ac hg'
   have HS':=ac hs'
   have HC':=ac hc'
   have hkz:k<cur'.size:=by
    have:=(Array.getElem?_eq_some_iff.1 (hc' k (by omega))).1
    exact this
   have HKZ:=ac hkz
   clear hkp hg' hs' hc' hs hkz
   by_cases h0:s=0\/s=1
   ·have HL:aa (j1 s=5):=by rw[aa,j1,if_pos h0]
    have HREL:aa (am (·≠g) w (wr.setCell ⟨g,k,none⟩ (.int .i64 5))/\∃cur2,(wr.setCell ⟨g,k,none⟩ (.int .i64 5)).heap[g]?=some (.cells cur2 3 (0,0))/\cur2.size=cur.size/\∀j,j<xs.length->cur2[j]?=some (.int .i64 ((ci (k + 1) xs).getD j 0))):=by
     refine⟨HKP.out.setCell (p:=⟨g,k,none⟩) (.inr (fun h=>h rfl)) _,_,aH HG'.out k _,by simpa using HS'.out,fun j hj=>?_⟩
     rw[kG (by omega)]
     by_cases e:j=k
     ·subst e
      rw[if_pos rfl,Array.getElem?_setIfInBounds_self_of_lt HKZ.out,<-HS.out,HL.out]
     ·rw[if_neg e,Array.getElem?_setIfInBounds_ne (Ne.symm e)]
      exact HC'.out j hj
    rcases h0 with rfl | rfl
    ·go_wp2_with fail
     go_roundw
     case rel=>exact⟨k + 1,hkm,by go_num,HREL.out⟩
     case measure=>simp[intOf];omega
    ·go_wp2_with fail
     go_roundw
     case rel=>exact⟨k + 1,hkm,by go_num,HREL.out⟩
     case measure=>simp[intOf];omega
   ·have hs0:(s==0)=false:=by simp;omega
    have hs1:(s==1)=false:=by simp;omega
    have HL:aa (j1 s=s):=by rw[aa,j1,if_neg h0]
    have HREL:aa (am (·≠g) w wr/\∃cur2,wr.heap[g]?=some (.cells cur2 3 (0,0))/\cur2.size=cur.size/\∀j,j<xs.length->cur2[j]?=some (.int .i64 ((ci (k + 1) xs).getD j 0))):=by
     refine⟨HKP.out,cur',HG'.out,HS'.out,fun j hj=>?_⟩
     rw[kG (by omega)]
     by_cases e:j=k
     ·subst e
      rw[if_pos rfl,<-HS.out,HL.out,HC'.out j hj,mY (by omega),<-HS.out]
     ·rw[if_neg e]
      exact HC'.out j hj
    clear h0
    go_wp2_with fail
    go_roundw
    case rel=>exact⟨k + 1,hkm,by go_num,HREL.out⟩
    case measure=>simp[intOf];omega
  ·have hki:¬(k:Int)<m:=by omega
   obtain rfl:k=m:=by omega
   clear hkp hg' hs' hc'
   go_wp2_with fail
   go_end0
   exact⟨rfl,HR.out⟩
