/- A scene's record by drafts: it may be. -/
import Derived.Test.YtfnekbfcndkjeaaGreatDoorZPar1
import Derived.Test.YtfnekbfcndkjeaaGreatDoorZTold2
import Derived.Deep.WholeRow
set_option linter.all false
namespace Go.Proofs.YtfnekbfcndkjeaaGreatDoor
open Go.Proofs.Tryz Go.RowKit
theorem Tryz.structFault:prog.underlying 85=some (.struct (prog.fieldsOf 85)):=by kernel_rfl
theorem Tryz.heldFault:prog.stoodInHeld 85=false:=by kernel_rfl
theorem zi (a b c x y z:Int) (w:World):(binOp .eql 85 (.agg #[.int .i64 a,.int .i64 b,.int .i64 c]) (.agg #[.int .i64 x,.int .i64 y,.int .i64 z])).run prog w=.ok (.bool (a==x &&(b==y &&c==z))) w:=by
 have u3:=underlying3
 have a3:=Tryz.isAgg3
 have z3:=Tryz.sizeOf3
 have u40:=underlying52
 have a40:=Tryz.isAgg52
 have z40:=Tryz.sizeOf52
 rw[run_eql_struct,show (10000:Nat)=9999 + 1 from rfl,run_equalIn_agg w 9999 85 _ _ Tryz.structFault Tryz.heldFault]
 simp only[Program.fieldsOf,underlying85]
 go_simp
 by_cases h1:a=x <;> by_cases h2:b=y <;> by_cases h3:c=z <;> simp[h1,h2,h3]
structure AC (F:S8) (K:Nat->Int) (kk:Array Value) (w:World):Prop where
 sha:cV F K kk w
 err:ew w
theorem AC.on {F:S8} {K:Nat->Int} {kk:Array Value} {w w':World} (h:AC F K kk w) (hb:Below w.heap.size w w'):AC F K kk w':=⟨h.sha.on hb,h.err.on hb⟩
theorem ly {P:Program} (w:World) (t:TypeId) (c c':Array Value) (hi:(P.info? t).map (·.size)=some c'.size) (ho:c.size=c'.size) (h1:c'.all (·.oneCell')=true):
  (Instr.storeAt t (.pointer (some ⟨w.heap.size,0,none⟩)) (.agg c')).run P (w.alloc (.cells c t))=.ok () (w.alloc (.cells c' t)):=by
 simp only[Instr.storeAt,Instr.sureAddr,Sem.run_bind,Sem.run_pure,Result.andThen]
 exact run_storeVar_new w t c c' hi ho h1
end Go.Proofs.YtfnekbfcndkjeaaGreatDoor
namespace Go.Proofs.YtfnekbfcndkjeaaGreatDoor
open Go.Proofs.Tryz Go.RowKit
def aX (w:World) (v:Value) (ds:List RecD):Prop:=
 ∃(a:Option Addr) (cap:Nat) (rvs:Nat->RecV),v=.slice a ds.length cap/\ds.length<=cap/\
  (0<ds.length->∃lb lo,a=some ⟨lb,lo,none⟩/\lb<w.heap.size/\∀j,j<ds.length->w.rangeAt lb (lo + j * 49) (ae (rvs j)).toList)/\∀j,j<ds.length->bu w (rvs j) (ds.getD j {})
theorem ex {w w':World} {b o:Nat} {cs:List Value} (h:w.rangeAt b o cs) (hb:b<w.heap.size) (hn:Below w.heap.size w w'):w'.rangeAt b o cs:=
 fun j v hv=>(hn.cell (p:=⟨b,o + j,none⟩) hb).trans (h j v hv)
theorem aX.on {w w':World} {v:Value} {ds:List RecD} (h:aX w v ds) (hb:Below w.heap.size w w'):aX w' v ds:=by
 obtain⟨a,cap,rvs,e,hc,h1,h2⟩:=h
 refine⟨a,cap,rvs,e,hc,fun h0=>?_,fun j hj=>(h2 j hj).on hb⟩
 obtain⟨lb,lo,ea,hl,hj⟩:=h1 h0
 exact⟨lb,lo,ea,Nat.lt_of_lt_of_le hl hb.size,fun j h3=>ex (hj j h3) hl hb⟩
theorem lz (rvs:List RecV) (j i:Nat) (hi:i<49):(rvs.flatMap fun r=>(ae r).toList)[j * 49 + i]?=if j<rvs.length then (ae (rvs.getD j {})).toList[i]? else none:=by
 induction rvs generalizing j with
 | nil=>simp
 | cons r rvs ih=>
  rw[List.flatMap_cons]
  have hl:(ae r).toList.length=49:=by rw[Array.length_toList,aj]
  cases j with
  | zero=>
   rw[Nat.zero_mul,Nat.zero_add,List.getElem?_append_left (by omega),if_pos (by simp)]
   rfl
  | succ j=>
   rw[List.getElem?_append_right (by omega),hl,show (j + 1) * 49 + i - 49=j * 49 + i by omega,ih j]
   simp
theorem dQ.at_ {B:Nat} {w:World} {v:Value} {ds:List RecD} (h:dQ B w v ds):aX w v ds:=by
 obtain⟨rvs,h1,h2,h3⟩:=h
 obtain⟨a,cap,e,hc,hx⟩:=az h2
 refine⟨a,cap,fun j=>rvs.getD j {},e,hc,fun h0=>?_,fun j hj=>(h3 j hj).at_⟩
 obtain⟨g,ea,_,hg,hj⟩:=hx h0
 refine⟨g,0,ea,hg,fun j hjl i v hv=>?_⟩
 have hi:i<49:=by
  have:=(List.getElem?_eq_some_iff.1 hv).1
  rw[Array.length_toList,aj] at this
  exact this
 have:=lz rvs j i hi
 rw[if_pos (by omega),hv] at this
 rw[Nat.zero_add]
 exact hj _ _ this
theorem aX.take {w:World} {v:Value} {ds:List RecD} (h:aX w v ds) (k:Nat) (hk:k<=ds.length) {a:Option Addr} {cap:Nat} (e:v=.slice a ds.length cap):aX w (.slice a k cap) (ds.take k):=by
 obtain⟨a',cap',rvs,e',hc,h1,h2⟩:=h
 rw[e] at e'
 obtain⟨rfl,_,rfl⟩:=Value.slice.inj e'
 have hl:(ds.take k).length=k:=by rw[List.length_take];omega
 refine⟨a,cap,rvs,by rw[hl],by omega,fun h0=>?_,fun j hj=>?_⟩
 ·obtain⟨lb,lo,ea,hl',hj⟩:=h1 (by omega)
  exact⟨lb,lo,ea,hl',fun j hjl=>hj j (by omega)⟩
 ·have:=h2 j (by omega)
  have e3:(ds.take k).getD j {}=ds.getD j {}:=by
   rw[List.getD_eq_getElem?_getD,List.getD_eq_getElem?_getD,List.getElem?_take_of_lt (by omega)]
  rw[e3]
  exact this
theorem nf (ds:List RecD) (k:Nat) (hk:k<ds.length):ds.take (k + 1)=ds.take k++[ds.getD k {}]:=by
 rw[List.take_succ_eq_append_getElem hk,List.getD_eq_getElem?_getD,List.getElem?_eq_getElem hk]
 rfl
theorem xu (D:List Value):∀(o:Nat) (pre Z post:List Value) (j:Nat),pre.length=o + j->Z.length=D.length->
  ((D.zipIdx j).foldl (fun (cs:Array Value) (x:Value × Nat)=>cs.setIfInBounds (o + x.2) x.1) (pre++Z++post).toArray)=(pre++D++post).toArray:=by
 induction D with
 | nil=>intro o pre Z post j h hz;simp[List.eq_nil_of_length_eq_zero (by simpa using hz)]
 | cons x D ih=>
  intro o pre Z post j h hz
  cases Z with
  | nil=>simp at hz
  | cons z Z=>
   rw[List.zipIdx_cons,List.foldl_cons]
   have e:((pre++z :: Z++post).toArray.setIfInBounds (o + j) x)=((pre++[x])++Z++post).toArray:=by
    rw[<-h]
    simp[List.set_append]
   have:=ih o (pre++[x]) Z post (j + 1) (by simp[h];omega) (by simpa using hz)
   rw[show (o + ((x,j):Value × Nat).2)=o + j from rfl]
   show ((D.zipIdx (j + 1)).foldl _ ((pre++z :: Z++post).toArray.setIfInBounds (o + j) x))=_
   rw[e,this]
   simp
theorem lA (rvs:List RecV):∀(pre Z:List Value) (k:Nat),pre.length=k * 49->Z.length=rvs.length * 49->
  Instr.fill (fun i=>some (i * 49,49)) (pre++Z).toArray ((rvs.zipIdx k).map fun x=>(x.2,Value.agg (ae x.1)))=some (pre++rvs.flatMap fun r=>(ae r).toList).toArray:=by
 induction rvs with
 | nil=>intro pre Z k h hz;simp[List.eq_nil_of_length_eq_zero (by simpa using hz),Instr.fill]
 | cons r rvs ih=>
  intro pre Z k h hz
  have hz':Z.length=rvs.length * 49 + 49:=by simpa [Nat.add_mul] using hz
  have hr:(ae r).toList.length=49:=by rw[Array.length_toList,aj]
  obtain⟨Z1,Z2,rfl,h1⟩:∃Z1 Z2,Z=Z1++Z2/\Z1.length=49:=⟨Z.take 49,Z.drop 49,(List.take_append_drop 49 Z).symm,by rw[List.length_take];omega⟩
  have h2:Z2.length=rvs.length * 49:=by rw[List.length_append] at hz';omega
  rw[List.zipIdx_cons,List.map_cons]
  have hc:(Value.agg (ae r)).cells=ae r:=rfl
  simp only[Instr.fill,hc]
  rw[if_neg (by rw[aj];simp;omega)]
  have hf:=xu (ae r).toList (k * 49) pre Z1 Z2 0 (by omega) (by rw[h1,hr])
  rw[<-Array.foldl_toList,Array.toList_zipIdx,<-List.append_assoc,hf]
  have:=ih (pre++(ae r).toList) Z2 (k + 1) (by rw[List.length_append,hr,h];omega) h2
  rw[this]
  simp
theorem lB (n:Nat) (c:Array Value):((Array.range n).map (c[· % c.size]!)).toList.length=n:=by simp
theorem ng (n:Nat) (hn:¬n * 49 > 2 ^ 24) (h0:¬n * 49=0) (l:List (Nat × Value)) (C:Array Value) (hf:Instr.fill (fun i=>some (i * 49,49)) ((Array.range (n * 49)).map ((ae {})[· % (ae {}).size]!)) l=some C) (w:World):
  (Instr.buildSlice 29 n l.toArray).run prog w=.ok (.slice (some ⟨w.heap.size,0,none⟩) n n) (w.alloc (.cells C 49)):=by
 have u:=underlying29
 have hz:∀w,(zeroValue 49).run prog w=.ok (.agg (ae {})) w:=fun w=>by kernel_rfl
 have hs:∀w,(sizeOf 49).run prog w=.ok 49 w:=fun w=>by kernel_rfl
 have hq:(Value.agg (ae {})).cells=ae {}:=rfl
 simp only[Instr.buildSlice,Sem.run_bind,run_underlying u,Result.andThen_ok,hs]
 rw[if_neg hn,if_neg h0]
 simp only[Sem.run_bind,hz,Result.andThen_ok,Sem.run_pure,hq,hf]
 rfl
theorem iq {P:Program} {ops:Array Oper} {rest:List Oper} {op:Oper} {a:Act} {w w1:World} {Q:Exit->Act->World->Prop} (hgd:op.guard=none) (t:TypeId) (n:Nat) (l:List (Nat × Operand)) (ho:op.op=.buildSlice t n l.toArray)
  (ql:List (Nat × Value)) (hq:(l.map fun x=>(x.1,a.eval x.2))=ql) (v:Value) (hr:(Instr.buildSlice t n ql.toArray).run P w=.ok v w1)
  (h:wpList P ops Q rest (a.put op.dst v) w1):wpList P ops Q (op :: rest) a w:=
 wpList_plain hgd fun _ hK=>by
  subst hq
  unfold Oper.wp execOp
  simp only[ho]
  simp[hr]
  exact hK _ _ h
structure Bm where
 kind:Int
 n0:Int
 n1:Int
 n2:Int
 n3:Int
 n4:Int
 g0:Int
 g1:Int
 g2:Int
 ba:Option Addr
 nb:Nat
 cb:Nat
def zj (d:Bm):Array Value:=#[.int .u8 d.kind,.int .u16 d.n0,.int .u16 d.n1,.int .u16 d.n2,.int .u16 d.n3,.int .u16 d.n4,.int .u64 d.g0,.int .u64 d.g1,.int .u64 d.g2,.slice d.ba d.nb d.cb]
structure zk (w:World) (d:Bm):Prop where
 kind:0<=d.kind/\d.kind<=255
 n0:0<=d.n0/\d.n0<=65535
 n1:0<=d.n1/\d.n1<=65535
 n2:0<=d.n2/\d.n2<=65535
 n3:0<=d.n3/\d.n3<=65535
 n4:0<=d.n4/\d.n4<=65535
 g0:0<=d.g0/\d.g0<=18446744073709551615
 g1:0<=d.g1/\d.g1<=18446744073709551615
 g2:0<=d.g2/\d.g2<=18446744073709551615
 cap:d.nb<=d.cb
 len:d.nb<=9223372036854775807
 bytes:∃f:Nat->Int,(∀ j,0<=f j/\f j<=255)/\(0<d.nb->∃lb lo,d.ba=some ⟨lb,lo,none⟩/\lb<w.heap.size/\∀j,j<d.nb->w.cell? ⟨lb,lo + j,none⟩=some (.int .u8 (f j)))
theorem zk.on {w w':World} {d:Bm} (h:zk w d) (hb:Below w.heap.size w w'):zk w' d:=by
 obtain⟨f,h1,h2⟩:=h.bytes
 refine {h with bytes:=⟨f,h1,fun h0=>?_⟩}
 obtain⟨lb,lo,e,hl,hj⟩:=h2 h0
 exact⟨lb,lo,e,Nat.lt_of_lt_of_le hl hb.size,fun j h1=>(hb.cell (p:=⟨lb,lo + j,none⟩) hl).trans (hj j h1)⟩
theorem Bs.set {l:List Int} (h:Bs l) (k:Nat) (z:Int) (hz:0<=z/\z<=255):Bs (l.set k z):=fun x hx=>by
 rcases List.mem_or_eq_of_mem_set hx with hx | rfl
 ·exact h x hx
 ·exact hz
def lC (k:Nat) (xs:List Int):Prop:=(∀ j,j<xs.length->0<=xs.getD j 0/\xs.getD j 0<k)/\∀j,j + 1<xs.length->xs.getD j 0<xs.getD (j + 1) 0
theorem lC.up {k:Nat} {xs:List Int} (h:lC k xs):lC (k + 1) xs:=⟨fun j hj=>by have:=h.1 j hj;omega,h.2⟩
theorem lC.snoc {k:Nat} {xs:List Int} (h:lC k xs):lC (k + 1) (xs++[(k:Int)]):=by
 have ha:∀j,j<xs.length->(xs++[(k:Int)]).getD j 0=xs.getD j 0:=fun j hj=>by
  rw[List.getD_eq_getElem?_getD,List.getElem?_append_left hj,<-List.getD_eq_getElem?_getD]
 have hb:(xs++[(k:Int)]).getD xs.length 0=k:=by
  rw[List.getD_eq_getElem?_getD,List.getElem?_append_right (Nat.le_refl _)];simp
 have hl:(xs++[(k:Int)]).length=xs.length + 1:=by simp
 constructor
 ·intro j hj
  rw[hl] at hj
  by_cases h1:j<xs.length
  ·rw[ha j h1];have:=h.1 j h1;omega
  ·rw[show j=xs.length by omega,hb];omega
 ·intro j hj
  rw[hl] at hj
  by_cases h1:j + 1<xs.length
  ·rw[ha j (by omega),ha (j + 1) h1];exact h.2 j h1
  ·rw[show j + 1=xs.length by omega,hb,ha j (by omega)]
   exact (h.1 j (by omega)).2
def su (xs:List (Int × Int)):Prop:=∀x∈xs,(0<=x.1/\x.1<=63)/\0<=x.2/\x.2<=16777216
theorem su.snoc {xs:List (Int × Int)} (h:su xs) {a b:Int} (ha:0<=a/\a<=63) (hb:0<=b/\b<=16777216):su (xs++[(a,b)]):=fun x hx=>by
 rcases List.mem_append.1 hx with h1 | h1
 ·exact h x h1
 ·rw[List.mem_singleton.1 h1];exact⟨ha,hb⟩
theorem n7 (xs:List (Int × Int)) (a b:Int):cI (xs++[(a,b)])=cI xs++[.int .i64 a,.int .i64 b]:=by
 simp[cI]
