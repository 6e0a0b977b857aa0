/- append(s, y) at a step of a region that draws its order, where the elder row is read again. -/
import Derived.Test.YtfnekbfcndkjeaaGreatDoorZLate
import Derived.Deep.DeepAppendRoom
set_option linter.all false
namespace Go.Proofs.YtfnekbfcndkjeaaGreatDoor
open Go.Proofs.Tryz Go.RowKit
theorem aF {w w':World} {row:Option Nat} (h:w.grownBy w' row) (K:Nat->Prop) (hr:∀k,row=some k->¬K k):am K w w':=
 ⟨h.os,h.tape,h.output,h.size,fun k hk hK=>h.block k hk (fun e=>hr k e.symm hK)⟩
theorem dG {base:Nat} {E:TypeId} {size:Nat} {w w':World} {v:Value} {n:Nat} {xs:List Value} {K:Nat->Prop} (h:w.ownsRow base E size v n xs) (hk:am K w w') (hK:∀k,base<=k->K k):w'.ownsRow base E size v n xs:=by
 obtain⟨h1,h2⟩:=h
 refine⟨h1,h2.imp_right ?_⟩
 rintro⟨g,cap,cur,e,hg,hh,r⟩
 exact⟨g,cap,cur,e,hg,(hk.block g (Array.getElem?_eq_some_iff.1 hh).1 (hK g hg)).trans hh,r⟩
theorem bG {base:Nat} {E:TypeId} {size:Nat} {w w':World} {v:Value} {n:Nat} {xs:List Value} (h:w.ownsRow base E size v n xs) (hb:Below w.heap.size w w'):w'.ownsRow base E size v n xs:=
 dG h (ak hb (fun _=>True)) (fun _ _=>trivial)
theorem bY {base base':Nat} {E:TypeId} {size:Nat} {w:World} {v:Value} {n:Nat} {xs:List Value} (h:w.ownsRow base E size v n xs) (hb:base'<=base):w.ownsRow base' E size v n xs:=by
 obtain⟨h1,h2⟩:=h
 refine⟨h1,h2.imp_right ?_⟩
 rintro⟨g,cap,cur,e,hg,r⟩
 exact⟨g,cap,cur,e,Nat.le_trans hb hg,r⟩
theorem az {base:Nat} {E:TypeId} {size:Nat} {w:World} {v:Value} {n:Nat} {xs:List Value} (h:w.ownsRow base E size v n xs):
  ∃a cap,v=.slice a n cap/\n<=cap/\(0<n->∃g,a=some ⟨g,0,none⟩/\base<=g/\g<w.heap.size/\∀j u,xs[j]?=some u->w.cell? ⟨g,j,none⟩=some u):=by
 obtain⟨h1,h2⟩:=h
 rcases h2 with ⟨rfl,rfl⟩ | ⟨g,cap,cur,rfl,hg,hh,hnc,hcm,hcs,htk⟩
 ·exact⟨none,0,rfl,Nat.le_refl _,fun h=>by omega⟩
 ·refine⟨_,cap,rfl,hnc,fun _=>⟨g,rfl,hg,(Array.getElem?_eq_some_iff.1 hh).1,fun j u hu=>?_⟩⟩
  have hj:j<n * size:=by rw[<-h1];exact (List.getElem?_eq_some_iff.1 hu).1
  rw[<-htk,List.getElem?_take_of_lt hj] at hu
  unfold World.cell?
  simp only[hh]
  simpa using hu
theorem bM {base:Nat} {E:TypeId} {size:Nat} {w:World} {v:Value} {n:Nat} {xs:List Value} (h:w.ownsRow base E size v n xs):∀k,v.ownBlock=some k->base<=k:=fun k hk=>(World.ownsRow.lt h k hk).1
theorem aZ {ops:Array Oper} {rest:List Oper} {o:Oper} {a:Act} {Q:Exit->Act->World->Prop} {w:World} (hgd:o.guard=none) (s x:Operand) (S E:TypeId)
  (ho:o.op=.call {callee:=.builtin .append,args:=#[s,x],argTypes:=#[S,S]})
  (z:Value) (size bytes:Nat) (hS:prog.underlying S=some (.slice E)) (hE:(prog.info? E).map (fun i=>(i.zero,i.size,i.bytes))=some (some z,size,bytes)) (hzs:z.cells.size=size) (hsz:0<size)
  (base:Nat) (v:Value) (n:Nat) (xs:List Value) (hs:a.eval s=v) (hown:w.ownsRow base E size v n xs) (g:Nat) (y:List Value) (hy1:y.length=size) (hone:∀u∈y,u.oneCell'=true)
  (hx:a.eval x=.slice (some ⟨g,0,none⟩) 1 1) (hy:∀j u,y[j]?=some u->w.cell? ⟨g,j,none⟩=some u)
  (hlen:n + 1<=maxLen) (hby:(n + 1) * bytes<=140737488355328) (hbase:base<=w.heap.size)
  (h:∀v' w',w'.ownsRow base E size v' (n + 1) (xs++y)->w.grownBy w' v.ownBlock->wpList prog ops Q rest (a.put o.dst v') w'):wpList prog ops Q (o :: rest) a w:=by
 obtain⟨i0,hi,hz0,hz1,hz2⟩:=info_parts hE
 refine wpList_append_own w hgd s x S ho base E i0 z size bytes hS hi hz0 hz1 hz2 hzs hsz v n xs hs hown
  ⟨g,0,none⟩ 1 1 y hx (by rw[Nat.one_mul];exact hy1) (fun j u hu=>?_) hone hlen hby hbase fun v' w' hown' hgrow _=>h v' w' hown' hgrow
 have h0:=hy j u hu
 rw[show (⟨g,0,none⟩:Addr).add j=⟨g,j,none⟩ by simp only[Addr.add];split <;> simp_all]
 exact h0
structure RecV where
 kind:Int:=0
 round:Int:=0
 lot:Int:=0
 carrier:Int:=0
 tick:Int:=0
 barred:Value:=.slice none 0 0
 dig:Nat->Int:=fun _=>0
 bid:Int:=0
 nonce:Int:=0
 state:Int:=0
 winner:Int:=0
 price:Int:=0
 carriers:Int:=0
 commit:Int:=0
 reveal:Int:=0
 scheme:Int:=0
 lots:Value:=.slice none 0 0
 owners:Value:=.slice none 0 0
def ae (r:RecV):Array Value:=
 #[.int .i64 r.kind, .int .i64 r.round, .int .i64 r.lot, .int .i64 r.carrier, .int .i64 r.tick, r.barred,
  .int .u8 (r.dig 0),.int .u8 (r.dig 1),.int .u8 (r.dig 2),.int .u8 (r.dig 3),.int .u8 (r.dig 4),.int .u8 (r.dig 5),.int .u8 (r.dig 6),.int .u8 (r.dig 7),
  .int .u8 (r.dig 8),.int .u8 (r.dig 9),.int .u8 (r.dig 10),.int .u8 (r.dig 11),.int .u8 (r.dig 12),.int .u8 (r.dig 13),.int .u8 (r.dig 14),.int .u8 (r.dig 15),
  .int .u8 (r.dig 16),.int .u8 (r.dig 17),.int .u8 (r.dig 18),.int .u8 (r.dig 19),.int .u8 (r.dig 20),.int .u8 (r.dig 21),.int .u8 (r.dig 22),.int .u8 (r.dig 23),
  .int .u8 (r.dig 24),.int .u8 (r.dig 25),.int .u8 (r.dig 26),.int .u8 (r.dig 27),.int .u8 (r.dig 28),.int .u8 (r.dig 29),.int .u8 (r.dig 30),.int .u8 (r.dig 31),
  .int .u64 r.bid,.int .u64 r.nonce,.int .i64 r.state,.int .i64 r.winner,.int .u64 r.price,.int .i64 r.carriers,.int .i64 r.commit,.int .i64 r.reveal,.int .i64 r.scheme,r.lots,r.owners]
theorem zR:(#[.int .i64 0,.int .i64 0,.int .i64 0,.int .i64 0,.int .i64 0,.slice none 0 0,.int .u8 0,.int .u8 0,.int .u8 0,.int .u8 0,.int .u8 0,.int .u8 0,.int .u8 0,.int .u8 0,.int .u8 0,.int .u8 0,.int .u8 0,.int .u8 0,.int .u8 0,.int .u8 0,.int .u8 0,.int .u8 0,.int .u8 0,.int .u8 0,.int .u8 0,.int .u8 0,.int .u8 0,.int .u8 0,.int .u8 0,.int .u8 0,.int .u8 0,.int .u8 0,.int .u8 0,.int .u8 0,.int .u8 0,.int .u8 0,.int .u8 0,.int .u8 0,.int .u64 0,.int .u64 0,.int .i64 0,.int .i64 0,.int .u64 0,.int .i64 0,.int .i64 0,.int .i64 0,.int .i64 0,.slice none 0 0,.slice none 0 0]:Array Value)=ae {}:=rfl
theorem aj (r:RecV):(ae r).size=49:=rfl
theorem kA (r:RecV) (k:Nat) (hk:k<32):(ae r)[6 + k]?=some (.int .u8 (r.dig k)):=by
 match k,hk with
 | 0,_ | 1,_ | 2,_ | 3,_ | 4,_ | 5,_ | 6,_ | 7,_ | 8,_ | 9,_ | 10,_ | 11,_ | 12,_ | 13,_ | 14,_ | 15,_ | 16,_ | 17,_ | 18,_ | 19,_ | 20,_ | 21,_ | 22,_ | 23,_ | 24,_ | 25,_ | 26,_ | 27,_ | 28,_ | 29,_ | 30,_ | 31,_=>rfl
 | _ + 32,h=>omega
def z6 (d:Nat->Int) (k:Nat) (v:Int):Nat->Int:=fun j=>if j=k then v else d j
theorem mh (r:RecV) (k:Nat) (hk:k<32) (v:Int):(ae r).setIfInBounds (6 + k) (.int .u8 v)=ae {r with dig:=z6 r.dig k v}:=by
 match k,hk with
 | 0,_ | 1,_ | 2,_ | 3,_ | 4,_ | 5,_ | 6,_ | 7,_ | 8,_ | 9,_ | 10,_ | 11,_ | 12,_ | 13,_ | 14,_ | 15,_ | 16,_ | 17,_ | 18,_ | 19,_ | 20,_ | 21,_ | 22,_ | 23,_ | 24,_ | 25,_ | 26,_ | 27,_ | 28,_ | 29,_ | 30,_ | 31,_=>rfl
 | _ + 32,h=>omega
def ah (w:World) (L:Nat) (r:RecV):Prop:=w.heap[L]?=some (.cells (ae r) 49 (0,0))
theorem ah.new {w w':World} {L:Nat} {r:RecV} (h:ah w L r) (hb:Below w.heap.size w w'):ah w' L r:=au h hb
theorem ah.keeps {K:Nat->Prop} {w w':World} {L:Nat} {r:RecV} (h:ah w L r) (hk:am K w w') (hK:K L):ah w' L r:=aw h hk hK
theorem ah.free {w:World} {L:Nat} {r:RecV} (h:ah w L r) (j:Nat):w.frozen? ⟨L,j,none⟩=false:=aL h j
theorem ah.cell {w:World} {L:Nat} {r:RecV} (h:ah w L r) (j:Nat):w.cell? ⟨L,j,none⟩=(ae r)[j]? :=aq h j
theorem ah.box (w:World) (r:RecV):ah (w.alloc (.cells (ae r) 49)) w.heap.size r:=ax _ _
theorem ah.other {w:World} {L M j:Nat} {r:RecV} (h:ah w L r) (hne:L≠M) (v:Value):ah (w.setCell ⟨M,j,none⟩ v) L r:=eA h hne j v
theorem ah.drew {w:World} {L:Nat} {r:RecV} (h:ah w L r):ah w.drew L r:=h
theorem ah.drewN {w:World} {L:Nat} {r:RecV} (h:ah w L r) (n:Nat):ah (w.drewN n) L r:=h
theorem ah.lt {w:World} {L:Nat} {r:RecV} (h:ah w L r):L<w.heap.size:=aK h
theorem ah.dig {w:World} {L:Nat} {r:RecV} (h:ah w L r) (k:Nat) (hk:k<32):w.cell? ⟨L,6 + k,none⟩=some (.int .u8 (r.dig k)):=(h.cell _).trans (kA r k hk)
theorem ah.setDig {w:World} {L:Nat} {r:RecV} (h:ah w L r) (k:Nat) (hk:k<32) (v:Int):ah (w.setCell ⟨L,6 + k,none⟩ (.int .u8 v)) L {r with dig:=z6 r.dig k v}:=by
 have:=aH h (6 + k) (.int .u8 v)
 rw[mh r k hk] at this
 exact this
theorem ah.kind {w:World} {L:Nat} {r:RecV} (h:ah w L r):w.cell? ⟨L,0,none⟩=some (.int .i64 r.kind):=h.cell 0
theorem ah.setKind {w:World} {L:Nat} {r:RecV} (h:ah w L r) (v:Int):ah (w.setCell ⟨L,0,none⟩ (.int .i64 v)) L {r with kind:=v}:=aH h 0 (.int .i64 v)
theorem ah.round {w:World} {L:Nat} {r:RecV} (h:ah w L r):w.cell? ⟨L,1,none⟩=some (.int .i64 r.round):=h.cell 1
theorem ah.setRound {w:World} {L:Nat} {r:RecV} (h:ah w L r) (v:Int):ah (w.setCell ⟨L,1,none⟩ (.int .i64 v)) L {r with round:=v}:=aH h 1 (.int .i64 v)
theorem ah.lot {w:World} {L:Nat} {r:RecV} (h:ah w L r):w.cell? ⟨L,2,none⟩=some (.int .i64 r.lot):=h.cell 2
theorem ah.setLot {w:World} {L:Nat} {r:RecV} (h:ah w L r) (v:Int):ah (w.setCell ⟨L,2,none⟩ (.int .i64 v)) L {r with lot:=v}:=aH h 2 (.int .i64 v)
theorem ah.carrier {w:World} {L:Nat} {r:RecV} (h:ah w L r):w.cell? ⟨L,3,none⟩=some (.int .i64 r.carrier):=h.cell 3
theorem ah.setCarrier {w:World} {L:Nat} {r:RecV} (h:ah w L r) (v:Int):ah (w.setCell ⟨L,3,none⟩ (.int .i64 v)) L {r with carrier:=v}:=aH h 3 (.int .i64 v)
theorem ah.tick {w:World} {L:Nat} {r:RecV} (h:ah w L r):w.cell? ⟨L,4,none⟩=some (.int .i64 r.tick):=h.cell 4
theorem ah.setTick {w:World} {L:Nat} {r:RecV} (h:ah w L r) (v:Int):ah (w.setCell ⟨L,4,none⟩ (.int .i64 v)) L {r with tick:=v}:=aH h 4 (.int .i64 v)
theorem ah.barred {w:World} {L:Nat} {r:RecV} (h:ah w L r):w.cell? ⟨L,5,none⟩=some r.barred:=h.cell 5
theorem ah.setBarred {w:World} {L:Nat} {r:RecV} (h:ah w L r) (v:Value):ah (w.setCell ⟨L,5,none⟩ v) L {r with barred:=v}:=aH h 5 v
theorem ah.bid {w:World} {L:Nat} {r:RecV} (h:ah w L r):w.cell? ⟨L,38,none⟩=some (.int .u64 r.bid):=h.cell 38
theorem ah.setBid {w:World} {L:Nat} {r:RecV} (h:ah w L r) (v:Int):ah (w.setCell ⟨L,38,none⟩ (.int .u64 v)) L {r with bid:=v}:=aH h 38 (.int .u64 v)
theorem ah.nonce {w:World} {L:Nat} {r:RecV} (h:ah w L r):w.cell? ⟨L,39,none⟩=some (.int .u64 r.nonce):=h.cell 39
theorem ah.setNonce {w:World} {L:Nat} {r:RecV} (h:ah w L r) (v:Int):ah (w.setCell ⟨L,39,none⟩ (.int .u64 v)) L {r with nonce:=v}:=aH h 39 (.int .u64 v)
theorem ah.state {w:World} {L:Nat} {r:RecV} (h:ah w L r):w.cell? ⟨L,40,none⟩=some (.int .i64 r.state):=h.cell 40
theorem ah.setState {w:World} {L:Nat} {r:RecV} (h:ah w L r) (v:Int):ah (w.setCell ⟨L,40,none⟩ (.int .i64 v)) L {r with state:=v}:=aH h 40 (.int .i64 v)
theorem ah.winner {w:World} {L:Nat} {r:RecV} (h:ah w L r):w.cell? ⟨L,41,none⟩=some (.int .i64 r.winner):=h.cell 41
theorem ah.setWinner {w:World} {L:Nat} {r:RecV} (h:ah w L r) (v:Int):ah (w.setCell ⟨L,41,none⟩ (.int .i64 v)) L {r with winner:=v}:=aH h 41 (.int .i64 v)
theorem ah.price {w:World} {L:Nat} {r:RecV} (h:ah w L r):w.cell? ⟨L,42,none⟩=some (.int .u64 r.price):=h.cell 42
theorem ah.setPrice {w:World} {L:Nat} {r:RecV} (h:ah w L r) (v:Int):ah (w.setCell ⟨L,42,none⟩ (.int .u64 v)) L {r with price:=v}:=aH h 42 (.int .u64 v)
theorem ah.carriers {w:World} {L:Nat} {r:RecV} (h:ah w L r):w.cell? ⟨L,43,none⟩=some (.int .i64 r.carriers):=h.cell 43
theorem ah.setCarriers {w:World} {L:Nat} {r:RecV} (h:ah w L r) (v:Int):ah (w.setCell ⟨L,43,none⟩ (.int .i64 v)) L {r with carriers:=v}:=aH h 43 (.int .i64 v)
theorem ah.commit {w:World} {L:Nat} {r:RecV} (h:ah w L r):w.cell? ⟨L,44,none⟩=some (.int .i64 r.commit):=h.cell 44
theorem ah.setCommit {w:World} {L:Nat} {r:RecV} (h:ah w L r) (v:Int):ah (w.setCell ⟨L,44,none⟩ (.int .i64 v)) L {r with commit:=v}:=aH h 44 (.int .i64 v)
theorem ah.reveal {w:World} {L:Nat} {r:RecV} (h:ah w L r):w.cell? ⟨L,45,none⟩=some (.int .i64 r.reveal):=h.cell 45
theorem ah.setReveal {w:World} {L:Nat} {r:RecV} (h:ah w L r) (v:Int):ah (w.setCell ⟨L,45,none⟩ (.int .i64 v)) L {r with reveal:=v}:=aH h 45 (.int .i64 v)
theorem ah.scheme {w:World} {L:Nat} {r:RecV} (h:ah w L r):w.cell? ⟨L,46,none⟩=some (.int .i64 r.scheme):=h.cell 46
theorem ah.setScheme {w:World} {L:Nat} {r:RecV} (h:ah w L r) (v:Int):ah (w.setCell ⟨L,46,none⟩ (.int .i64 v)) L {r with scheme:=v}:=aH h 46 (.int .i64 v)
theorem ah.lots {w:World} {L:Nat} {r:RecV} (h:ah w L r):w.cell? ⟨L,47,none⟩=some r.lots:=h.cell 47
theorem ah.setLots {w:World} {L:Nat} {r:RecV} (h:ah w L r) (v:Value):ah (w.setCell ⟨L,47,none⟩ v) L {r with lots:=v}:=aH h 47 v
theorem ah.owners {w:World} {L:Nat} {r:RecV} (h:ah w L r):w.cell? ⟨L,48,none⟩=some r.owners:=h.cell 48
theorem ah.setOwners {w:World} {L:Nat} {r:RecV} (h:ah w L r) (v:Value):ah (w.setCell ⟨L,48,none⟩ v) L {r with owners:=v}:=aH h 48 v
theorem aM (r:RecV) (hb:r.barred.oneCell'=true) (hl:r.lots.oneCell'=true) (ho:r.owners.oneCell'=true):(ae r).all (·.oneCell')=true:=by
 have:(ae r).toList.all (·.oneCell')=true:=by
  simp[ae,show ∀k n,(Value.int k n).oneCell'=true from fun _ _=>rfl,hb,hl,ho]
 simpa using this
theorem nY {o:Oper} {a:Act} {K:Act->World->Prop} {Q:Exit->Act->World->Prop} {w:World} (s x:Operand) (S E:TypeId)
  (ho:o.op=.call {callee:=.builtin .append,args:=#[s,x],argTypes:=#[S,S]})
  (z:Value) (size bytes:Nat) (hS:prog.underlying S=some (.slice E)) (hE:(prog.info? E).map (fun i=>(i.zero,i.size,i.bytes))=some (some z,size,bytes)) (hzs:z.cells.size=size) (hsz:0<size)
  (base:Nat) (v:Value) (n:Nat) (xs:List Value) (hs:a.eval s=v) (hown:w.ownsRow base E size v n xs) (g:Nat) (y:List Value) (hy1:y.length=size) (hone:∀u∈y,u.oneCell'=true)
  (hx:a.eval x=.slice (some ⟨g,0,none⟩) 1 1) (hy:∀j u,y[j]?=some u->w.cell? ⟨g,j,none⟩=some u)
  (hlen:n + 1<=maxLen) (hby:(n + 1) * bytes<=140737488355328) (hbase:base<=w.heap.size)
  (h:∀v' w',w'.ownsRow base E size v' (n + 1) (xs++y)->w.grownBy w' v.ownBlock->K (a.put o.dst v') w'):o.wp prog a w K Q:=by
 obtain⟨i0,hi,hz0,hz1,hz2⟩:=info_parts hE
 refine wp_append_own w s x S ho base E i0 z size bytes hS hi hz0 hz1 hz2 hzs hsz v n xs hs hown
  ⟨g,0,none⟩ 1 1 y hx (by rw[Nat.one_mul];exact hy1) (fun j u hu=>?_) hone hlen hby hbase fun v' w' hown' hgrow _=>h v' w' hown' hgrow
 have h0:=hy j u hu
 rw[show (⟨g,0,none⟩:Addr).add j=⟨g,j,none⟩ by simp only[Addr.add];split <;> simp_all]
 exact h0
theorem fM {ops:Array Oper} {o:Oper} {a:Act} {K:Act->World->Prop} {Q:Exit->Act->World->Prop} {E':Prop} {w:World} (hgd:o.guard=none) (s x:Operand) (S E:TypeId)
  (ho:o.op=.call {callee:=.builtin .append,args:=#[s,x],argTypes:=#[S,S]})
  (z:Value) (size bytes:Nat) (hS:prog.underlying S=some (.slice E)) (hE:(prog.info? E).map (fun i=>(i.zero,i.size,i.bytes))=some (some z,size,bytes)) (hzs:z.cells.size=size) (hsz:0<size)
  (base:Nat) (v:Value) (n:Nat) (xs:List Value) (hs:a.eval s=v) (hown:w.ownsRow base E size v n xs) (g:Nat) (y:List Value) (hy1:y.length=size) (hone:∀u∈y,u.oneCell'=true)
  (hx:a.eval x=.slice (some ⟨g,0,none⟩) 1 1) (hy:∀j u,y[j]?=some u->w.cell? ⟨g,j,none⟩=some u)
  (hlen:n + 1<=maxLen) (hby:(n + 1) * bytes<=140737488355328) (hbase:base<=w.heap.size)
  (h:∀v' w',w'.ownsRow base E size v' (n + 1) (xs++y)->w.grownBy w' v.ownBlock->K (a.put o.dst v') w'):
  if Region.wanted o (yielded ops a.tmps)=true then Oper.wp prog o a w K Q else E':=by
 have hw:Region.wanted o (yielded ops a.tmps)=true:=by simp[Region.wanted,hgd]
 rw[if_pos hw]
 exact nY s x S E ho z size bytes hS hE hzs hsz base v n xs hs hown g y hy1 hone hx hy hlen hby hbase h
theorem mi (ty S E:TypeId) {w:World} (z:Value) (size bytes:Nat) (hS:prog.underlying S=some (.slice E)) (hE:(prog.info? E).map (fun i=>(i.zero,i.size,i.bytes))=some (some z,size,bytes)) (hzs:z.cells.size=size) (hsz:0<size)
  (base:Nat) (g0 n cap:Nat) (h0:0<n) (xs:List Value) (hown:w.ownsRow base E size (.slice (some ⟨g0,0,none⟩) n cap) n xs) (g:Nat) (y:List Value) (hy1:y.length=size) (hone:∀u∈y,u.oneCell'=true)
  (hy:∀j u,y[j]?=some u->w.cell? ⟨g,j,none⟩=some u)
  (hlen:n + 1<=maxLen) (hby:(n + 1) * bytes<=140737488355328) (hbase:base<=w.heap.size):
  ∃v' w',(Builtin.append_ #[S,S] ty #[.slice (some ⟨g0,0,none⟩) n cap,.slice (some ⟨g,0,none⟩) 1 1]).run prog w=.ok v' w'/\w'.ownsRow base E size v' (n + 1) (xs++y)/\w.grownBy w' (some g0)/\∀j u,xs[j]?=some u->w'.cell? ⟨g0,j,none⟩=some u:=by
 obtain⟨i0,hi,hz0,hz1,hz2⟩:=info_parts hE
 have hadd:∀j,(⟨g,0,none⟩:Addr).add j=⟨g,j,none⟩:=fun j=>by simp only[Addr.add];split <;> simp_all
 have hadd0:∀j,(⟨g0,0,none⟩:Addr).add j=⟨g0,j,none⟩:=fun j=>by simp only[Addr.add];split <;> simp_all
 have hnews:∀j u,y[j]?=some u->w.cell? ((⟨g,0,none⟩:Addr).add j)=some u:=fun j u hu=>by rw[hadd];exact hy j u hu
 obtain⟨a0,c0,e0,hc0,hx0⟩:=az hown
 obtain⟨g1,e1,hg1,hgl,hcell⟩:=hx0 h0
 obtain⟨e2,_,e3⟩:=Value.slice.inj e0
 rw[e1] at e2
 have e4:g0=g1:=congrArg Addr.block (Option.some.inj e2)
 subst e4
 by_cases hroom:n + 1<=cap
 ·obtain⟨w',hr,h2,h3⟩:=run_append_own_spare (P:=prog) w base S ty E i0 size hS hi hz1 g0 n cap xs hown ⟨g,0,none⟩ 1 1 y (by rw[Nat.one_mul];exact hy1) hnews hone hroom
  refine⟨_,w',hr,h2,h3,fun j u hu=>?_⟩
  obtain⟨a',c',e',_,hx'⟩:=az h2
  obtain⟨g',ea,_,_,hj⟩:=hx' (by omega)
  obtain⟨e4,_,_⟩:=Value.slice.inj e'
  rw[ea] at e4
  have e5:g0=g':=congrArg Addr.block (Option.some.inj e4)
  subst e5
  refine hj j u ?_
  rw[List.getElem?_append_left (List.getElem?_eq_some_iff.1 hu).1]
  exact hu
 ·obtain⟨v',w',hr,h2,h3⟩:=run_append_arg_grows (P:=prog) w S ty E i0 z size bytes hS hi hz0 hz1 hz2 hzs hsz ⟨g0,0,none⟩ n cap xs hown.1 (fun j u hu=>by rw[hadd0];exact hcell j u hu) ⟨g,0,none⟩ 1 1 y (by rw[Nat.one_mul];exact hy1) hnews (by omega) hlen hby
  refine⟨v',w',hr,bY h2 hbase,⟨h3.os,h3.tape,h3.output,h3.size,fun k hk _=>h3.block k hk (by simp)⟩,fun j u hu=>?_⟩
  rw[World.cell?_of_block (w:=w) (a:=⟨g0,j,none⟩) (h3.block g0 hgl (by simp))]
  exact hcell j u hu
theorem lp {ops:Array Oper} {o:Oper} {a:Act} {K:Act->World->Prop} {Q:Exit->Act->World->Prop} {E':Prop} {w:World} (hgd:o.guard=none) (s x:Operand) (S E:TypeId)
  (ho:o.op=.call {callee:=.builtin .append,args:=#[s,x],argTypes:=#[S,S]})
  (z:Value) (size bytes:Nat) (hS:prog.underlying S=some (.slice E)) (hE:(prog.info? E).map (fun i=>(i.zero,i.size,i.bytes))=some (some z,size,bytes)) (hzs:z.cells.size=size) (hsz:0<size)
  (base:Nat) (g0 n cap:Nat) (h0:0<n) (xs:List Value) (hs:a.eval s=.slice (some ⟨g0,0,none⟩) n cap) (hown:w.ownsRow base E size (.slice (some ⟨g0,0,none⟩) n cap) n xs) (g:Nat) (y:List Value) (hy1:y.length=size) (hone:∀u∈y,u.oneCell'=true)
  (hx:a.eval x=.slice (some ⟨g,0,none⟩) 1 1) (hy:∀j u,y[j]?=some u->w.cell? ⟨g,j,none⟩=some u)
  (hlen:n + 1<=maxLen) (hby:(n + 1) * bytes<=140737488355328) (hbase:base<=w.heap.size)
  (h:∀v' w',w'.ownsRow base E size v' (n + 1) (xs++y)->w.grownBy w' (some g0)->(∀ j u,xs[j]?=some u->w'.cell? ⟨g0,j,none⟩=some u)->K (a.put o.dst v') w'):
  if Region.wanted o (yielded ops a.tmps)=true then Oper.wp prog o a w K Q else E':=by
 have hw:Region.wanted o (yielded ops a.tmps)=true:=by simp[Region.wanted,hgd]
 rw[if_pos hw]
 obtain⟨v',w',hr,h1,h2,h3⟩:=mi o.type S E z size bytes hS hE hzs hsz base g0 n cap h0 xs hown g y hy1 hone hy hlen hby hbase
 unfold Oper.wp execOp
 simp only[ho,resolve,invoke,builtin,Sem.run_bind,Sem.run_pure,Result.andThen_ok,List.map_toArray,List.map_cons,List.map_nil,hs,hx,hr]
 exact h v' w' h1 h2 h3
