/- A slice of one record, built. -/
import Derived.Test.YtfnekbfcndkjeaaGreatDoorZRfM1
set_option linter.all false
namespace Go.Proofs.YtfnekbfcndkjeaaGreatDoor
open Go.Proofs.Tryz Go.RowKit
theorem mu (a b:Int):-9223372036854775808<=bits .or .i64 a b/\bits .or .i64 a b<=9223372036854775807:=by
 show -9223372036854775808<=IntKind.i64.wrap _/\IntKind.i64.wrap _<=9223372036854775807
 simp only[IntKind.wrap_i64]
 omega
theorem wT (a b:Int) (ha:-9223372036854775808<=a/\a<=9223372036854775807) (hb:-9223372036854775808<=b/\b<=9223372036854775807):bits .or .i64 a b=0↔a=0/\b=0:=by
 have e:bits .or .i64 a b=IntKind.i64.wrap ((BitVec.ofInt 64 a ||| BitVec.ofInt 64 b).toNat:Int):=rfl
 have h0:∀x:Int,-9223372036854775808<=x/\x<=9223372036854775807->(BitVec.ofInt 64 x=0#64↔x=0):=by
  intro x hx
  constructor
  ·intro h
   have h1:=congrArg BitVec.toInt h
   rw[BitVec.toInt_ofInt_eq_self (by decide) (by simpa using hx.1) (by simp;omega)] at h1
   simpa using h1
  ·rintro rfl;rfl
 have hz:∀r:BitVec 64,IntKind.i64.wrap (r.toNat:Int)=0↔r=0#64:=by
  intro r
  have hr:=r.isLt
  rw[IntKind.wrap_i64]
  constructor
  ·intro h
   apply BitVec.eq_of_toNat_eq
   rw[BitVec.toNat_ofNat]
   omega
  ·rintro rfl;decide
 rw[e,hz,BitVec.or_eq_zero_iff,h0 a ha,h0 b hb]
theorem AX (a b:Int) (ha:0<=a/\a<=18446744073709551615) (hb:0<=b/\b<=18446744073709551615):bits .or .u64 a b=0↔a=0/\b=0:=by
 rw[u64_or a b ha.1 (by omega) hb.1 (by omega)]
 constructor
 ·intro h
  have h1:a.toNat ||| b.toNat=0:=by omega
  rw[Nat.or_eq_zero_iff] at h1
  omega
 ·rintro⟨rfl,rfl⟩;rfl
theorem bZ {L:Nat} {w w0 w1:World} (h:Below w.heap.size w w0) (hk:am (·≠L) w0 w1) (hL:w.heap.size<=L):Below w.heap.size w w1:=
 h.trans ((hk.mono (K':=(·<w.heap.size)) (fun k _ h=>by omega)).below h.size)
theorem aG {P:Program} {ops:Array Oper} {rest:List Oper} {op:Oper} {a:Act} {w:World} {Q:Exit->Act->World->Prop} (hw:Region.wanted op (yielded ops a.tmps)=true) (ty:TypeId) (x:Operand) (ho:op.op=.load ty x)
  (b o:Nat) (hx:a.eval x=.pointer (some ⟨b,o,none⟩)) (cs:List Value) (d:TypeDesc) (hc:w.rangeAt b o cs)
  (hu:P.underlying ty=some d) (hd:d.isRow=true) (hi:(P.info? ty).map (·.size)=some cs.length) (ds:Array Value) (hds:cs.toArray=ds)
  (h:wpList P ops Q rest (a.put op.dst (.agg ds)) w):wpList P ops Q (op :: rest) a w:=
 wpList_step fun K hK=>by
  subst hds
  rw[if_pos hw]
  exact wp_load_mid ty x ho b o hx cs d hc hu hd hi (hK _ _ h)
theorem bR {P:Program} {ops:Array Oper} {rest:List Oper} {op:Oper} {a:Act} {w w1:World} {Q:Exit->Act->World->Prop} (hgd:op.guard=none) (ty:TypeId) (x y:Operand) (ho:op.op=.store ty x y)
  (p v:Value) (hx:a.eval x=p) (hy:a.eval y=v) (hr:(Instr.storeAt ty p v).run P w=.ok () w1)
  (h:wpList P ops Q rest (a.put op.dst undef) w1):wpList P ops Q (op :: rest) a w:=
 wpList_plain hgd fun _ hK=>by
  unfold Oper.wp execOp
  simp only[ho,hx,hy,Sem.run_bind,hr,Result.andThen_ok,Sem.run_pure]
  exact hK _ _ h
theorem tG (xs ys:Array Value) (f g:Nat->Int) (hx:∀j,j<32->xs[j]?=some (.int .u8 (f j))) (hy:∀j,j<32->ys[j]?=some (.int .u8 (g j))) (w:World):
  (binOp .eql 43 (.agg xs) (.agg ys)).run prog w=.ok (.bool (decide (∀ j∈List.range 32,f j=g j))) w:=by
 have hu:prog.underlying 43=some (.array 32 5):=by kernel_rfl
 obtain⟨i,hi⟩:∃i,prog.info? 5=some i:=Option.isSome_iff_exists.1 (by kernel_rfl)
 have hc:prog.cellsOf 5=1:=by kernel_rfl
 have ag:=Tryz.isAgg5
 have key:∀(is:List Nat),(∀ j∈is,j<32)->(Op.eqItems 9999 5 1 xs ys is).run prog w=.ok (decide (∀ j∈is,f j=g j)) w:=by
  intro is
  induction is with
  | nil=>intro _;simp[Op.eqItems]
  | cons j is ih=>
   intro hlt
   have hj:=hlt j (by simp)
   have h1:(part 5 xs (j * 1)).run prog w=.ok (.int .u8 (f j)) w:=by
    rw[Nat.mul_one]
    simp[part,ag,hx j hj]
   have h2:(part 5 ys (j * 1)).run prog w=.ok (.int .u8 (g j)) w:=by
    rw[Nat.mul_one]
    simp[part,ag,hy j hj]
   have h3:(Op.equalIn 9999 5 (.int .u8 (f j)) (.int .u8 (g j))).run prog w=.ok (f j==g j) w:=run_equalIn_int w 9998 5 .u8 .u8 (f j) (g j) underlying5
   have ih2:=ih (fun k hk=>hlt k (by simp[hk]))
   simp only[Op.eqItems,Sem.run_bind,h1,h2,h3,Result.andThen_ok]
   by_cases e:f j=g j
   ·have eb:(f j==g j)=true:=by simpa using e
    rw[eb]
    simp[ih2,e]
   ·have eb:(f j==g j)=false:=by simpa using e
    rw[eb]
    simp[e]
 rw[run_eql_struct,show (10000:Nat)=9999 + 1 from rfl,run_equalIn_array w 9999 xs ys hu hi,hc,key (List.range 32) (fun j hj=>List.mem_range.1 hj)]
 simp only[Result.andThen_ok]
theorem ah.zeroDig:∀(n k:Nat) (w:World) (L:Nat) (r:RecV),k + n=32->ah w L r->ah (w.setCells L (6 + k) (List.replicate n (.int .u8 0))) L {r with dig:=fun j=>if k<=j then 0 else r.dig j}
 | 0,k,w,L,r,hk,h=>by
  have e:ae {r with dig:=fun j=>if k<=j then 0 else r.dig j}=ae r:=by
   have:k=32:=by omega
   subst this
   rfl
  show w.heap[L]?=_
  rw[e]
  exact h
 | n + 1,k,w,L,r,hk,h=>by
  rw[List.replicate_succ,World.setCells]
  have h1:=h.setDig k (by omega) 0
  have h2:=ah.zeroDig n (k + 1) _ L _ (by omega) h1
  have e:∀j,(if k + 1<=j then (0:Int) else z6 r.dig k 0 j)=if k<=j then 0 else r.dig j:=by
   intro j
   unfold z6
   by_cases a:k + 1<=j
   ·rw[if_pos a,if_pos (by omega)]
   ·rw[if_neg a]
    by_cases b:j=k
    ·rw[if_pos b,if_pos (by omega)]
    ·rw[if_neg b,if_neg (by omega)]
  simp only[e] at h2
  exact h2
theorem ah.noDig {w:World} {L:Nat} {r:RecV} (h:ah w L r):ah (w.setCells L 6 (List.replicate 32 (.int .u8 0))) L {r with dig:=fun _=>0}:=by
 have:=ah.zeroDig 32 0 w L r rfl h
 simpa using this
theorem ah.there {w:World} {L:Nat} {r:RecV} (h:ah w L r):w.there L 6 32:=fun j hj=>⟨by rw[h.dig j hj];rfl,h.free _⟩
theorem ut:(#[.int .u8 0,.int .u8 0,.int .u8 0,.int .u8 0,.int .u8 0,.int .u8 0,.int .u8 0,.int .u8 0,.int .u8 0,.int .u8 0,.int .u8 0,.int .u8 0,.int .u8 0,.int .u8 0,.int .u8 0,.int .u8 0,.int .u8 0,.int .u8 0,.int .u8 0,.int .u8 0,.int .u8 0,.int .u8 0,.int .u8 0,.int .u8 0,.int .u8 0,.int .u8 0,.int .u8 0,.int .u8 0,.int .u8 0,.int .u8 0,.int .u8 0,.int .u8 0]:Array Value).all (·.oneCell')=true:=by kernel_rfl
theorem mT:(#[.int .u8 0,.int .u8 0,.int .u8 0,.int .u8 0,.int .u8 0,.int .u8 0,.int .u8 0,.int .u8 0,.int .u8 0,.int .u8 0,.int .u8 0,.int .u8 0,.int .u8 0,.int .u8 0,.int .u8 0,.int .u8 0,.int .u8 0,.int .u8 0,.int .u8 0,.int .u8 0,.int .u8 0,.int .u8 0,.int .u8 0,.int .u8 0,.int .u8 0,.int .u8 0,.int .u8 0,.int .u8 0,.int .u8 0,.int .u8 0,.int .u8 0,.int .u8 0]:Array Value).toList=List.replicate 32 (.int .u8 0):=by kernel_rfl
theorem sj:(prog.info? 43).map (·.size)=some (#[.int .u8 0,.int .u8 0,.int .u8 0,.int .u8 0,.int .u8 0,.int .u8 0,.int .u8 0,.int .u8 0,.int .u8 0,.int .u8 0,.int .u8 0,.int .u8 0,.int .u8 0,.int .u8 0,.int .u8 0,.int .u8 0,.int .u8 0,.int .u8 0,.int .u8 0,.int .u8 0,.int .u8 0,.int .u8 0,.int .u8 0,.int .u8 0,.int .u8 0,.int .u8 0,.int .u8 0,.int .u8 0,.int .u8 0,.int .u8 0,.int .u8 0,.int .u8 0]:Array Value).size:=by kernel_rfl
theorem uu (j:Nat) (hj:j<32):(#[.int .u8 0,.int .u8 0,.int .u8 0,.int .u8 0,.int .u8 0,.int .u8 0,.int .u8 0,.int .u8 0,.int .u8 0,.int .u8 0,.int .u8 0,.int .u8 0,.int .u8 0,.int .u8 0,.int .u8 0,.int .u8 0,.int .u8 0,.int .u8 0,.int .u8 0,.int .u8 0,.int .u8 0,.int .u8 0,.int .u8 0,.int .u8 0,.int .u8 0,.int .u8 0,.int .u8 0,.int .u8 0,.int .u8 0,.int .u8 0,.int .u8 0,.int .u8 0]:Array Value)[j]?=some (.int .u8 0):=by
 rw[<-Array.getElem?_toList,mT,List.getElem?_replicate,if_pos hj]
theorem sl {w:World} {L:Nat} {r:RecV} (h:ah w L r):∃wz,(Instr.storeAt 43 (.pointer (some ⟨L,6,none⟩)) (.agg #[.int .u8 0,.int .u8 0,.int .u8 0,.int .u8 0,.int .u8 0,.int .u8 0,.int .u8 0,.int .u8 0,.int .u8 0,.int .u8 0,.int .u8 0,.int .u8 0,.int .u8 0,.int .u8 0,.int .u8 0,.int .u8 0,.int .u8 0,.int .u8 0,.int .u8 0,.int .u8 0,.int .u8 0,.int .u8 0,.int .u8 0,.int .u8 0,.int .u8 0,.int .u8 0,.int .u8 0,.int .u8 0,.int .u8 0,.int .u8 0,.int .u8 0,.int .u8 0])).run prog w=.ok () wz/\ah wz L {r with dig:=fun _=>0}/\(∀ (a:World) (B:Nat),B<=L->Below B a w->Below B a wz)/\am (·≠L) w wz:=by
 refine⟨w.setCells L 6 (List.replicate 32 (.int .u8 0)),?_,h.noDig,fun a B hB hb=>gN hB _ _ _ hb,?_⟩
 ·have:=run_storeAt_mid (P:=prog) w L 6 43 #[.int .u8 0,.int .u8 0,.int .u8 0,.int .u8 0,.int .u8 0,.int .u8 0,.int .u8 0,.int .u8 0,.int .u8 0,.int .u8 0,.int .u8 0,.int .u8 0,.int .u8 0,.int .u8 0,.int .u8 0,.int .u8 0,.int .u8 0,.int .u8 0,.int .u8 0,.int .u8 0,.int .u8 0,.int .u8 0,.int .u8 0,.int .u8 0,.int .u8 0,.int .u8 0,.int .u8 0,.int .u8 0,.int .u8 0,.int .u8 0,.int .u8 0,.int .u8 0] h.there sj ut
  rw[mT] at this
  exact this
 ·have:∀(vs:List Value) (o:Nat) (u:World),am (·≠L) w u->am (·≠L) w (u.setCells L o vs):=by
   intro vs
   induction vs with
   | nil=>intro o u hu;exact hu
   | cons v vs ih=>intro o u hu;exact ih _ _ (hu.setCell (p:=⟨L,o,none⟩) (.inr (fun e=>e rfl)) v)
  exact this _ _ _ (am.refl _ _)
theorem ah.digRange {w:World} {L:Nat} {r:RecV} (h:ah w L r):w.rangeAt L 6 ((List.range 32).map fun j=>.int .u8 (r.dig j)):=by
 intro j v hv
 by_cases hj:j<32
 ·rw[List.getElem?_map,List.getElem?_range hj] at hv
  rw[h.dig j hj]
  exact hv
 ·rw[List.getElem?_eq_none (by simp;omega)] at hv
  cases hv
theorem aQ {P:Program} {ops:Array Oper} {rest:List Oper} {op:Oper} {a:Act} {w:World} {Q:Exit->Act->World->Prop} (hgd:op.guard=none) (t:TypeId) (l:List (Nat × Operand)) (ho:op.op=.build t l.toArray)
  (ql:List (Nat × Value)) (hq:(l.map fun x=>(x.1,a.eval x.2))=ql) (v:Value) (hr:(Instr.build t ql.toArray).run P w=.ok v w)
  (h:wpList P ops Q rest (a.put op.dst v) w):wpList P ops Q (op :: rest) a w:=
 wpList_plain hgd fun _ hK=>by
  subst hq
  unfold Oper.wp execOp
  simp only[ho]
  simp[hr]
  exact hK _ _ h
theorem uv (D:List Value):∀(pre Z:List Value),Z.length=D.length->
  ((D.zipIdx pre.length).foldl (fun (cs:Array Value) (x:Value × Nat)=>cs.setIfInBounds (0 + x.2) x.1) (pre++Z).toArray)=(pre++D).toArray:=by
 induction D with
 | nil=>intro pre Z h;simp[List.eq_nil_of_length_eq_zero (by simpa using h)]
 | cons x D ih=>
  intro pre Z h
  cases Z with
  | nil=>simp at h
  | cons z Z=>
   rw[List.zipIdx_cons,List.foldl_cons]
   have e:((pre++z :: Z).toArray.setIfInBounds (0 + pre.length) x)=((pre++[x])++Z).toArray:=by
    rw[Nat.zero_add]
    simp[List.set_append]
   have:=ih (pre++[x]) Z (by simpa using h)
   rw[show (pre++[x]).length=pre.length + 1 by simp] at this
   rw[show (0 + ((x,pre.length):Value × Nat).2)=0 + pre.length from rfl]
   show ((D.zipIdx (pre.length + 1)).foldl _ ((pre++z :: Z).toArray.setIfInBounds (0 + pre.length) x))=_
   rw[e,this]
   simp
theorem wU (place:Nat->Option (Nat × Nat)) (Z D:Array Value) (n:Nat) (hp:place 0=some (0,n)) (hD:D.size=n) (hZ:Z.size=n):Instr.fill place Z [(0,Value.agg D)]=some D:=by
 have hc:(Value.agg D).cells=D:=rfl
 simp only[Instr.fill,hp,hc]
 rw[if_neg (by simp[hD,hZ])]
 congr 1
 have:=uv D.toList [] Z.toList (by rw[Array.length_toList,Array.length_toList,hZ,hD])
 simp only[List.nil_append,List.length_nil,Array.toArray_toList] at this
 rw[<-Array.foldl_toList,Array.toList_zipIdx]
 simpa using this
theorem d6 (D:Array Value) (h:D.size=49) (w:World):(Instr.buildSlice 29 1 #[(0,.agg D)]).run prog w=.ok (.slice (some ⟨w.heap.size,0,none⟩) 1 1) (w.alloc (.cells D 49)):=by
 have u:=underlying29
 have hz:∀w,(zeroValue 49).run prog w=.ok (.agg (ae {})) w:=fun w=>by kernel_rfl
 have hs:∀w,(sizeOf 49).run prog w=.ok 49 w:=fun w=>by kernel_rfl
 have hf:Instr.fill (fun i=>some (i * 49,49)) ((Array.range (1 * 49)).map ((ae {})[· % (ae {}).size]!)) [(0,Value.agg D)]=some D:=
  wU _ _ D 49 rfl h (by rw[Array.size_map,Array.size_range])
 have hq:(Value.agg (ae {})).cells=ae {}:=rfl
 simp only[Instr.buildSlice,Sem.run_bind,run_underlying u,Result.andThen_ok,hs]
 rw[if_neg (by decide),if_neg (by decide)]
 simp only[Sem.run_bind,hz,Result.andThen_ok,Sem.run_pure,hq,hf]
 rfl
theorem fN {P:Program} {ops:Array Oper} {rest:List Oper} {op:Oper} {a:Act} {w w1:World} {Q:Exit->Act->World->Prop} (hgd:op.guard=none) (t:TypeId) (n:Nat) (x:Operand) (ho:op.op=.buildSlice t n #[(0,x)])
  (v1 v:Value) (hx:a.eval x=v1) (hr:(Instr.buildSlice t n #[(0,v1)]).run P w=.ok v w1)
  (h:wpList P ops Q rest (a.put op.dst v) w1):wpList P ops Q (op :: rest) a w:=
 wpList_plain hgd fun _ hK=>by
  unfold Oper.wp execOp
  simp[ho,hx,hr]
  exact hK _ _ h
