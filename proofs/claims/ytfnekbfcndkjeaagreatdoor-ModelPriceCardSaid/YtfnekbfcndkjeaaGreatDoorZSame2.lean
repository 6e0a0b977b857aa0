/- consignref24.Same, walked. Printed by wip/gen/same.py. -/
import Derived.Test.YtfnekbfcndkjeaaGreatDoorZMay2
import Derived.Test.YtfnekbfcndkjeaaGreatDoorZSlc
set_option maxHeartbeats 8000000
set_option maxRecDepth 100000
set_option linter.all false
namespace Go.Proofs.YtfnekbfcndkjeaaGreatDoor
open Go.Proofs.Tryz Go.RowKit
def jf (d:RecD) (w:World) (L:Nat) (s:Value) (wx:World):Prop:=
 ∃rv',s=.bool (bT d)/\ah wx L rv'/\bu wx rv' (bP d)/\Below w.heap.size w wx
theorem z8 {d:RecD} (h:d.kind=1):bP d={d with carriers:=0,commit:=0,reveal:=0,scheme:=0,lots:=[],owners:=[]}:=by rw[bP,if_pos h]
theorem z9 {d:RecD} (h:d.kind=2):bP d={d with lot:=0,barred:=[]}:=by rw[bP,if_neg (by omega),if_pos h]
theorem AY {d:RecD} (h:d.kind=3):bP d={d with carrier:=0,dig:=List.replicate 32 0}:=by rw[bP,if_neg (by omega),if_neg (by omega),if_pos h]
theorem AZ {d:RecD} (h:d.kind=4):bP d={d with carrier:=0,bid:=0,nonce:=0}:=by rw[bP,if_neg (by omega),if_neg (by omega),if_neg (by omega),if_pos h]
theorem Aa {d:RecD} (h:d.kind=5):bP d={d with state:=0,winner:=0,price:=0}:=by rw[bP,if_neg (by omega),if_neg (by omega),if_neg (by omega),if_neg (by omega),if_pos h]
theorem A1 {d:RecD} (h:d.kind=6):bP d=d:=by rw[bP,if_neg (by omega),if_neg (by omega),if_neg (by omega),if_neg (by omega),if_neg (by omega)]
theorem tH {d:RecD} (h:d.kind=1):bT d=lr d:=by rw[bT,if_pos h]
theorem pB {d:RecD} (h:d.kind=2):bT d=((dO d &&aE d.lot 0 15) &&a9 (bO d.barred) d.barred.length):=by rw[bT,if_neg (by omega),if_pos h]
theorem pC {d:RecD} (h:d.kind=3):bT d=(dO d &&aE d.carrier 0 7):=by rw[bT,if_neg (by omega),if_neg (by omega),if_pos h]
theorem pD {d:RecD} (h:d.kind=4):bT d=((dO d &&aE d.carrier 0 7) &&decide (d.bid<=4294967296)):=by rw[bT,if_neg (by omega),if_neg (by omega),if_neg (by omega),if_pos h]
theorem pE {d:RecD} (h:d.kind=5):bT d=(dO d &&di d.state d.winner d.price):=by rw[bT,if_neg (by omega),if_neg (by omega),if_neg (by omega),if_neg (by omega),if_pos h]
theorem tI {d:RecD} (h:d.kind=6):bT d=(dO d &&decide (d.round=0)):=by rw[bT,if_neg (by omega),if_neg (by omega),if_neg (by omega),if_neg (by omega),if_neg (by omega),if_pos h]
structure AT (e:RecD):Prop where
 len:e.dig.length=32
 lot:-9223372036854775808<=e.lot/\e.lot<=9223372036854775807
 carrier:-9223372036854775808<=e.carrier/\e.carrier<=9223372036854775807
 carriers:-9223372036854775808<=e.carriers/\e.carriers<=9223372036854775807
 commit:-9223372036854775808<=e.commit/\e.commit<=9223372036854775807
 reveal:-9223372036854775808<=e.reveal/\e.reveal<=9223372036854775807
 scheme:-9223372036854775808<=e.scheme/\e.scheme<=9223372036854775807
 bid:0<=e.bid/\e.bid<=18446744073709551615
 nonce:0<=e.nonce/\e.nonce<=18446744073709551615
 rows:e.barred.length + e.lots.length + e.owners.length<=1099511627776
theorem RecD.ok.rest {d:RecD} (h:d.ok):AT (bP d):=by
 have hr:=h.rows
 unfold bP
 split
 ·exact⟨h.len,h.lot,h.carrier,by simp,by simp,by simp,by simp,h.bid,h.nonce,by simp;omega⟩
 split
 ·exact⟨h.len,by simp,h.carrier,h.carriers,h.commit,h.reveal,h.scheme,h.bid,h.nonce,by simp;omega⟩
 split
 ·exact⟨by simp,h.lot,by simp,h.carriers,h.commit,h.reveal,h.scheme,h.bid,h.nonce,h.rows⟩
 split
 ·exact⟨h.len,h.lot,by simp,h.carriers,h.commit,h.reveal,h.scheme,by simp,by simp,h.rows⟩
 split
 ·exact⟨h.len,h.lot,h.carrier,h.carriers,h.commit,h.reveal,h.scheme,h.bid,h.nonce,h.rows⟩
 ·exact⟨h.len,h.lot,h.carrier,h.carriers,h.commit,h.reveal,h.scheme,h.bid,h.nonce,h.rows⟩
def uw (e:RecD):Bool:=decide (e.lot=0/\e.carrier=0/\e.carriers=0/\e.commit=0/\e.reveal=0/\e.scheme=0)
def ux (e:RecD):Bool:=decide (e.bid=0/\e.nonce=0)
def tJ (e:RecD):Bool:=uw e &&(ux e &&decide (e.barred.length + e.lots.length + e.owners.length=0))
def wV (e:RecD):Bool:=decide (∀ j∈List.range 32,e.dig.getD j 0=0)
theorem AT.six {e:RecD} (h:AT e):(bits .or .i64 (bits .or .i64 (bits .or .i64 (bits .or .i64 (bits .or .i64 e.lot e.carrier) e.carriers) e.commit) e.reveal) e.scheme==0)=uw e:=by
 rw[Bool.eq_iff_iff,beq_iff_eq,uw,decide_eq_true_eq]
 rw[wT _ _ (mu _ _) h.scheme,wT _ _ (mu _ _) h.reveal,wT _ _ (mu _ _) h.commit,wT _ _ (mu _ _) h.carriers,wT _ _ h.lot h.carrier]
 simp only[and_assoc]
theorem AT.two {e:RecD} (h:AT e):(bits .or .u64 e.bid e.nonce==0)=ux e:=by
 rw[Bool.eq_iff_iff,beq_iff_eq,ux,decide_eq_true_eq,AX _ _ h.bid h.nonce]
theorem lw (f:Nat->Int) (j:Nat) (hj:j<32):((List.range 32).map fun j=>Value.int .u8 (f j)).toArray[j]?=some (.int .u8 (f j)):=by
 rw[List.getElem?_toArray,List.getElem?_map,List.getElem?_range hj]
 rfl
theorem uy (l:List Int) (hl:l.length=32):(∀ j∈List.range 32,l.getD j 0=0)↔l=List.replicate 32 0:=by
 constructor
 ·intro h
  apply List.ext_getElem (by simp[hl])
  intro i h1 h2
  have:=h i (List.mem_range.2 (by omega))
  rw[List.getD_eq_getElem?_getD,List.getElem?_eq_getElem h1] at this
  rw[List.getElem_replicate]
  exact this
 ·rintro rfl j _
  exact dU 32 j
theorem wW {e:RecD} (hl:e.dig.length=32):dm e=(tJ e &&(wV e &&(e.state==0 &&(e.winner==0 &&e.price==0)))):=by
 rw[Bool.eq_iff_iff]
 simp only[dm,tJ,uw,ux,wV,Bool.and_eq_true,decide_eq_true_eq,beq_iff_eq,uy _ hl]
 rcases e with ⟨kind,round,lot,carrier,tick,barred,dig,bid,nonce,state,winner,price,carriers,commit,reveal,scheme,lots,owners⟩
 simp only[RecD.mk.injEq,true_and,and_true]
 constructor
 ·rintro⟨h1,h2,h3,h4,h5,h6,h7,h8,h9,h10,h11,h12,h13,h14,h15⟩
  subst h3 h14 h15
  exact⟨⟨⟨h1,h2,h10,h11,h12,h13⟩,⟨h5,h6⟩,rfl⟩,h4,h7,h8,h9⟩
 ·rintro⟨⟨⟨h1,h2,h10,h11,h12,h13⟩,⟨h5,h6⟩,hn⟩,h4,h7,h8,h9⟩
  have e1:barred=[]:=List.eq_nil_of_length_eq_zero (by omega)
  have e2:lots=[]:=List.eq_nil_of_length_eq_zero (by omega)
  have e3:owners=[]:=List.eq_nil_of_length_eq_zero (by omega)
  exact⟨h1,h2,e1,h4,h5,h6,h7,h8,h9,h10,h11,h12,h13,e2,e3⟩
theorem Tryz.structOut:prog.underlying 46=some (.struct (prog.fieldsOf 46)):=by kernel_rfl
theorem Tryz.heldOut:prog.stoodInHeld 46=false:=by kernel_rfl
theorem Ab (a b c x y z:Int) (w:World):(binOp .eql 46 (.agg #[.int .i64 a,.int .i64 b,.int .u64 c]) (.agg #[.int .i64 x,.int .i64 y,.int .u64 z])).run prog w=.ok (.bool (a==x &&(b==y &&c==z))) w:=by
 have u3:=underlying3
 have a3:=Tryz.isAgg3
 have z3:=Tryz.sizeOf3
 have u23:=underlying44
 have a23:=Tryz.isAgg44
 have z23:=Tryz.sizeOf44
 rw[run_eql_struct,show (10000:Nat)=9999 + 1 from rfl,run_equalIn_agg w 9999 46 _ _ Tryz.structOut Tryz.heldOut]
 simp only[Program.fieldsOf,underlying46]
 go_simp
 by_cases h1:a=x <;> by_cases h2:b=y <;> by_cases h3:c=z <;> simp[h1,h2,h3]
open Vk (vickOf)
theorem yV {d:RecD} (h:cF d=true):bT d=true/\bP d={kind:=(bP d).kind,round:=(bP d).round,tick:=(bP d).tick}:=by
 rw[cF,Bool.and_eq_true] at h
 exact⟨h.1,by have:=h.2;rw[dm,decide_eq_true_eq] at this;exact this⟩
structure Bo (d:RecD):Prop where
 carriers:1<=d.carriers/\d.carriers<=8
 commit:1<=d.commit/\d.commit<=64
 reveal:1<=d.reveal/\d.reveal<=64
 scheme:0<=d.scheme/\d.scheme<=1
 nlots:d.lots.length<=16
 nown:d.owners.length<=64
 lots:∀k,k<d.lots.length->(0<=(d.lots.getD k (0,0)).1/\(d.lots.getD k (0,0)).1<=63)/\0<=(d.lots.getD k (0,0)).2/\(d.lots.getD k (0,0)).2<=16777216
 own:∀k,k<d.owners.length->0<=d.owners.getD k 0/\d.owners.getD k 0<=7
 tick:d.tick=0
 round:d.round=0
 barred:d.barred=[]
theorem jz {d:RecD} (h:cF d=true) (hk:d.kind=1):Bo d:=by
 obtain⟨h1,h2⟩:=yV h
 rw[tH hk] at h1
 rw[z8 hk] at h2
 have hb:=congrArg RecD.barred h2
 simp only[lr,Bool.and_eq_true,eV,aE,decide_eq_true_eq] at h1
 obtain⟨⟨⟨⟨⟨c1,c2,c3,c4,c5,c6⟩,c7⟩,c8⟩,c9⟩,c10⟩:=h1
 refine⟨c1,c2,c3,c4,by omega,by omega,fun k hk=>?_,fun k hk=>?_,c9,c10,hb⟩
 ·have:=c7 k hk
  simp only[dx,kD,aE,Bool.and_eq_true,decide_eq_true_eq] at this
  exact this
 ·have:=c8 k hk
  simp only[fT,aE,Bool.and_eq_true,decide_eq_true_eq] at this
  exact this
theorem dY {d:RecD} (h:cF d=true):0<=d.tick/\0<=d.round/\d.round<=15:=by
 have hk:=dW h
 obtain⟨h1,h2⟩:=yV h
 have h6:d.kind=1\/d.kind=2\/d.kind=3\/d.kind=4\/d.kind=5\/d.kind=6:=by omega
 rcases h6 with e | e | e | e | e | e
 ·have S:=jz h e
  have:=S.tick
  have:=S.round
  omega
 ·rw[pB e] at h1;simp only[dO,aE,Bool.and_eq_true,decide_eq_true_eq] at h1;omega
 ·rw[pC e] at h1;simp only[dO,aE,Bool.and_eq_true,decide_eq_true_eq] at h1;omega
 ·rw[pD e] at h1;simp only[dO,aE,Bool.and_eq_true,decide_eq_true_eq] at h1;omega
 ·rw[pE e] at h1;simp only[dO,aE,Bool.and_eq_true,decide_eq_true_eq] at h1;omega
 ·rw[tI e] at h1;simp only[dO,aE,Bool.and_eq_true,decide_eq_true_eq] at h1;omega
theorem mU {xs:List Int} (h:∀k,k<xs.length->bO xs k=true):∀k,k<xs.length->(k:Int)<=xs.getD k 0/\0<=xs.getD k 0/\xs.getD k 0<=7
 | 0,hk=>by
  have:=h 0 hk
  simp only[bO,aE,Bool.and_eq_true,decide_eq_true_eq] at this
  omega
 | k + 1,hk=>by
  have ih:=mU h k (by omega)
  have:=h (k + 1) hk
  simp only[bO,aE,Bool.and_eq_true,Bool.or_eq_true,decide_eq_true_eq,Nat.add_sub_cancel] at this
  omega
structure Bp (d:RecD):Prop where
 lot:0<=d.lot/\d.lot<=15
 bar:∀k,k<d.barred.length->0<=d.barred.getD k 0/\d.barred.getD k 0<=7
 nbar:d.barred.length<=8
 lots:d.lots=[]
 owners:d.owners=[]
theorem jA {d:RecD} (h:cF d=true) (hk:d.kind=2):Bp d:=by
 obtain⟨h1,h2⟩:=yV h
 rw[pB hk] at h1
 rw[z9 hk] at h2
 have hl:=congrArg RecD.lots h2
 have hw:=congrArg RecD.owners h2
 simp only[dO,aE,Bool.and_eq_true,eV,decide_eq_true_eq] at h1
 have hb:=mU h1.2
 refine⟨h1.1.2,fun k hk=>(hb k hk).2,?_,hl,hw⟩
 by_cases h0:d.barred.length=0
 ·omega
 ·have:=hb (d.barred.length - 1) (by omega)
  omega
theorem qw {d:RecD} (h:cF d=true) (hk:d.kind=3\/d.kind=4):0<=d.carrier/\d.carrier<=7:=by
 obtain⟨h1,_⟩:=yV h
 rcases hk with hk | hk
 ·rw[pC hk] at h1;simp only[dO,aE,Bool.and_eq_true,decide_eq_true_eq] at h1;omega
 ·rw[pD hk] at h1;simp only[dO,aE,Bool.and_eq_true,decide_eq_true_eq] at h1;omega
theorem da (l:List Int) (x:Int):x∈l↔∃k,k<l.length/\l.getD k 0=x:=by
 rw[List.mem_iff_getElem?]
 constructor
 ·rintro⟨k,h⟩
  have hk:=(List.getElem?_eq_some_iff.1 h).1
  exact⟨k,hk,by rw[List.getD_eq_getElem?_getD,h];rfl⟩
 ·rintro⟨k,hk,h⟩
  exact⟨k,by rw[List.getElem?_eq_getElem hk];rw[List.getD_eq_getElem?_getD,List.getElem?_eq_getElem hk] at h;exact congrArg some h⟩
theorem dq (n:Nat) (l:List Int):(ci n l).length=l.length:=by
 unfold ci
 rw[List.length_append,List.length_map,List.length_take,List.length_drop]
 omega
theorem gt {opf:List Int->RecD->Bool} {st st':MSt} {d:RecD} (h:gp opf st d=some st'):
  (d.kind=1/\hJ d/\st'=iC st d)\/(d.kind=2/\gm st d/\st'=j2 st d)\/
  (d.kind=3/\∃o,st.opn=some o/\ef st o d/\st'=jd st o d)\/(d.kind=4/\∃o,st.opn=some o/\b9 opf st o d/\st'=fm st o d)\/
  (d.kind=5/\∃o,st.opn=some o/\eJ st o d/\st'=eY st o d)\/((¬ d.kind=1/\¬d.kind=2/\¬d.kind=3/\¬d.kind=4/\¬d.kind=5)/\iU st d/\st'=im st):=by
 unfold gp at h
 split at h
 ·rename_i hk
  split at h
  ·rename_i hp;exact .inl ⟨hk,hp,(Option.some.inj h).symm⟩
  ·cases h
 split at h
 ·rename_i _ hk
  split at h
  ·rename_i hp;exact .inr (.inl ⟨hk,hp,(Option.some.inj h).symm⟩)
  ·cases h
 split at h
 ·rename_i _ _ hk
  split at h
  ·cases h
  ·rename_i o ho
   split at h
   ·rename_i hp;exact .inr (.inr (.inl ⟨hk,o,ho,hp,(Option.some.inj h).symm⟩))
   ·cases h
 split at h
 ·rename_i _ _ _ hk
  split at h
  ·cases h
  ·rename_i o ho
   split at h
   ·rename_i hp;exact .inr (.inr (.inr (.inl ⟨hk,o,ho,hp,(Option.some.inj h).symm⟩)))
   ·cases h
 split at h
 ·rename_i _ _ _ _ hk
  split at h
  ·cases h
  ·rename_i o ho
   split at h
   ·rename_i hp;exact .inr (.inr (.inr (.inr (.inl ⟨hk,o,ho,hp,(Option.some.inj h).symm⟩))))
   ·cases h
 ·rename_i h1 h2 h3 h4 h5
  split at h
  ·rename_i hp;exact .inr (.inr (.inr (.inr (.inr ⟨⟨h1,h2,h3,h4,h5⟩,hp,(Option.some.inj h).symm⟩))))
  ·cases h
theorem gu {opf:List Int->RecD->Bool} {st:MSt} {d:RecD} (P:Int × MSt->Prop) (h15:cF d=false->P (15,st)) (h22:cF d=true->P (22,st))
  (h0:∀st',cF d=true->fo st d->gp opf st d=some st'->P (0,{st' with tick:=d.tick})):P (cd opf st d):=by
 unfold cd
 split
 ·rename_i hm
  split
  ·rename_i hh
   split
   ·rename_i st' hs;exact h0 st' hm hh hs
   ·exact h22 hm
  ·exact h22 hm
 ·rename_i hm
  exact h15 (by simpa using hm)
theorem oI {opf:List Int->RecD->Bool} {st:MSt} {d:RecD} (h:(cd opf st d).1≠0):(cd opf st d).2=st:=
 gu (P:=fun x=>x.1≠0->x.2=st) (fun _ _=>rfl) (fun _ _=>rfl) (fun _ _ _ _ h=>absurd rfl h) h
theorem oJ {opf:List Int->RecD->Bool} {st:MSt} {d:RecD} (h:(cd opf st d).1=0):∃st',cF d=true/\fo st d/\gp opf st d=some st'/\(cd opf st d).2={st' with tick:=d.tick}:=
 gu (P:=fun x=>x.1=0->∃st',cF d=true/\fo st d/\gp opf st d=some st'/\x.2={st' with tick:=d.tick}) (fun _ h=>absurd h (show ¬((15:Int)=0) by decide)) (fun _ h=>absurd h (show ¬((22:Int)=0) by decide)) (fun st' h1 h2 h3 _=>⟨st',h1,h2,h3,rfl⟩) h
theorem wX:MSt.Wf {}:=by
 refine⟨rfl,fun _=>⟨rfl,rfl,rfl,rfl,rfl⟩,?_,?_,?_,?_,?_,?_,?_,?_,?_,?_,?_,?_⟩ <;> simp
theorem n6 (bs:List (Int × Int)) (r:Int) (h:(vickOf bs r).1=2):∃b∈bs,(vickOf bs r).2.1=b.1:=by
 have hm:=fun x=>(Vk.mem_rankOf bs x).1
 unfold vickOf Vk.ofR at h ⊢
 cases hr:Vk.rankOf bs with
 | nil=>rw[hr] at h;exact absurd h (show ¬((3:Int)=2) by decide)
 | cons x l=>
  rw[hr] at h hm
  have hx:=hm x (by simp)
  simp only at h ⊢
  split at h
  ·exact absurd h (show ¬((3:Int)=2) by decide)
  ·rename_i hlt
   rw[if_neg hlt]
   exact⟨bs[x],List.getElem_mem hx,by rw[getElem!_pos bs x hx]⟩
theorem oK (f:Int->Option Int) (b:Int × Int):∀n:Nat,b∈d8 f n↔(0<=b.1/\b.1<n)/\f b.1=some b.2
 | 0=>by simp[d8];omega
 | n + 1=>by
  rw[d8,List.mem_append,oK f b n]
  cases hf:f n with
  | none=>
   simp only[List.not_mem_nil,or_false]
   constructor
   ·rintro⟨h1,h2⟩;exact⟨by omega,h2⟩
   ·rintro⟨h1,h2⟩
    refine⟨⟨h1.1,?_⟩,h2⟩
    rcases Int.lt_or_le b.1 n with h | h
    ·exact h
    ·rw[show b.1=n by omega,hf] at h2;cases h2
  | some v=>
   simp only[List.mem_singleton]
   constructor
   ·rintro (⟨h1,h2⟩ | rfl)
    ·exact⟨by omega,h2⟩
    ·exact⟨by simp only;omega,hf⟩
   ·rintro⟨h1,h2⟩
    rcases Int.lt_or_le b.1 n with h | h
    ·exact .inl ⟨⟨h1.1,h⟩,h2⟩
    ·have e:b.1=n:=by omega
     rw[e,hf] at h2
     exact .inr (Prod.ext e (Option.some.inj h2).symm)
theorem yW {st:MSt} {o:Opn} {d:RecD} (hw:st.Wf) (hp:eJ st o d) (h2:d.state=2):0<=d.winner/\d.winner<st.scene.carriers:=by
 have h:=hp.2.2
 unfold tF at h
 simp only[h2,show ¬((2:Int)=4) by decide,and_false,if_false] at h
 have hc:=hw.carr
 obtain⟨b,hb,e⟩:=n6 _ _ (congrArg Prod.fst h)
 have e2:d.winner=b.1:=by rw[<-e,h]
 have:=((oK _ _ _).1 hb).1
 omega
theorem yX {opf:List Int->RecD->Bool} {st:MSt} {d:RecD} (hw:st.Wf) (ho:d.ok):(cd opf st d).2.Wf:=by
 refine gu (P:=fun x=>x.2.Wf) (fun _=>hw) (fun _=>hw) fun st' hm hh hs=>?_
 have hb:=dY hm
 have hkd:=dW hm
 have htk:=ho.tick
 obtain⟨he,hx,ht⟩:=hh
 rcases gt hs with ⟨hk,hp,rfl⟩ | ⟨hk,hp,rfl⟩ | ⟨hk,o,hop,hp,rfl⟩ | ⟨hk,o,hop,hp,rfl⟩ | ⟨hk,o,hop,hp,rfl⟩ | ⟨_,hp,rfl⟩
 ·have S:=jz hm hk
  have h0:st.scene.kind=0:=by
   by_cases h:st.scene.kind=0
   ·exact h
   ·exact absurd (show decide (st.scene.kind≠0)=decide (d.kind=1) by rw[decide_eq_true h,decide_eq_true hk]) hx
  obtain⟨f1,f2,f3,f4,f5⟩:=hw.fresh h0
  refine⟨by simp[iC],fun h=>?_,fun k hk'=>?_,fun k hk'=>?_,S.nlots,S.nown,by have:=S.carriers;simp only[iC];omega,by have:=S.commit;simp only[iC];omega,by have:=S.reveal;simp only[iC];omega,fun o h=>?_,⟨hb.1,htk.2⟩,fun x hx=>?_,.inr hk,?_⟩
  ·exact absurd (show d.kind=0 from h) (by omega)
  ·exact⟨(S.lots k hk').1.1,(hp.1 k hk').2⟩
  ·exact (S.lots k hk').2
  ·have:st.opn=some o:=h
   rw[f3] at this;cases this
  ·obtain⟨k,hk1,rfl⟩:=(da d.owners x).1 hx
   exact⟨(S.own k hk1).1,hp.2 k hk1⟩
  ·show st.barred.length<=8
   rw[f5];simp
 ·have O:=jA hm hk
  obtain⟨p1,p2,p3,p4,p5,p6,p7,p8⟩:=hp
  refine⟨by simp only[j2];rw[List.length_set,dq];exact hw.lens,fun h=>?_,hw.reqs,hw.resv,hw.nlots,hw.nown,hw.carr,hw.comm,hw.revl,fun o h=>?_,⟨hb.1,htk.2⟩,hw.own,hw.scn,O.nbar⟩
  ·have:=(hw.fresh h).1
   rw[this] at p3
   exact absurd p3 (by have:=O.lot;simp;omega)
  ·obtain rfl:=Option.some.inj h
   have hl:=O.lot
   exact⟨⟨hl.1,by simp only[j2];rw[List.length_set,dq];exact p3⟩,hb.1,htk.2⟩
 ·exact⟨hw.lens,fun h=>absurd (hw.fresh h).2.2.1 (by rw[hop];simp),hw.reqs,hw.resv,hw.nlots,hw.nown,hw.carr,hw.comm,hw.revl,fun o' h=>by obtain rfl:=Option.some.inj h;exact hw.opn o hop,⟨hb.1,htk.2⟩,hw.own,hw.scn,hw.nbar⟩
 ·exact⟨hw.lens,fun h=>absurd (hw.fresh h).2.2.1 (by rw[hop];simp),hw.reqs,hw.resv,hw.nlots,hw.nown,hw.carr,hw.comm,hw.revl,fun o' h=>by obtain rfl:=Option.some.inj h;exact hw.opn o hop,⟨hb.1,htk.2⟩,hw.own,hw.scn,hw.nbar⟩
 ·have hwin:=fun h2=>yW hw hp h2
  refine⟨by simp only[eY];rw[List.length_set];exact hw.lens,fun h=>absurd (hw.fresh h).2.2.1 (by rw[hop];simp),?_,hw.resv,hw.nlots,?_,hw.carr,hw.comm,hw.revl,fun o' h=>by simp[eY] at h,⟨hb.1,htk.2⟩,?_,hw.scn,hw.nbar⟩
  ·intro k hk'
   have:=hw.reqs k hk'
   simp only[eY]
   split
   ·rw[List.length_set];exact this
   ·exact this
  ·simp only[eY]
   split
   ·rw[List.length_set];exact hw.nown
   ·exact hw.nown
  ·intro x hx
   simp only[eY] at hx
   split at hx
   ·rename_i h2
    rcases List.mem_or_eq_of_mem_set hx with hx | rfl
    ·exact hw.own x hx
    ·exact hwin h2
   ·exact hw.own x hx
 ·refine⟨by simp only[im];rw[dq];exact hw.lens,fun h=>?_,hw.reqs,hw.resv,hw.nlots,hw.nown,hw.carr,hw.comm,hw.revl,fun o h=>by simp[im] at h,⟨hb.1,htk.2⟩,hw.own,hw.scn,hw.nbar⟩
  obtain⟨f1,f2,f3,f4,f5⟩:=hw.fresh h
  exact⟨by simp[im,f1,ci],f2,rfl,f4,f5⟩
def MSt.Nx (st:MSt):Prop:=∀o,st.opn=some o->o.round=st.outs.length
theorem wY:MSt.Nx {}:=fun o h=>by cases h
theorem yY {opf:List Int->RecD->Bool} {st:MSt} {d:RecD} (hn:st.Nx):(cd opf st d).2.Nx:=by
 refine gu (P:=fun x=>x.2.Nx) (fun _=>hn) (fun _=>hn) fun st' hm hh hs=>?_
 rcases gt hs with ⟨hk,hp,rfl⟩ | ⟨hk,hp,rfl⟩ | ⟨hk,o,hop,hp,rfl⟩ | ⟨hk,o,hop,hp,rfl⟩ | ⟨hk,o,hop,hp,rfl⟩ | ⟨_,hp,rfl⟩
 ·exact hn
 ·intro o h
  obtain rfl:=Option.some.inj h
  exact hp.2.1
 ·intro o' h
  obtain rfl:=Option.some.inj h
  exact hn o hop
 ·intro o' h
  obtain rfl:=Option.some.inj h
  exact hn o hop
 ·intro o' h;cases h
 ·intro o' h;cases h
theorem A2 (rv:RecV) (d:RecD) (ho:d.ok) (hkd:1<=d.kind/\d.kind<=6) (w:World) (h:bu w rv d):
  Calls prog 64 #[.agg (ae rv)] w fun e w'=>e=.returned (.bool (cF d))/\Below w.heap.size w w':=by
 obtain⟨b,l,o,rfl,hb,hl,hw⟩:=h
 obtain⟨L,hL⟩:∃x,x=w.heap.size:=⟨_,rfl⟩
 obtain⟨w0,hw0⟩:∃z,z=w.alloc (.cells (ae (d.toV b l o)) 49):=⟨_,rfl⟩
 have HN0:aa (Below w.heap.size w w0):=by rw[hw0];exact af _ _
 have HR0:aa (ah w0 L (d.toV b l o)):=by rw[hw0,hL];exact ah.box _ _
 have HLw:aa (w.heap.size<=L):=Nat.le_of_eq hL.symm
 have HRB:aa (bA w b d.barred):=hb
 have HRL:aa (cZ w l d.lots):=hl
 have HRW:aa (bA w o d.owners):=hw
 have HO:=ac ho
 have HKD:=ac hkd
 obtain⟨kd,hkk⟩:∃x,x=d.kind:=⟨_,rfl⟩
 have HKK:=ac hkk
 clear hb hl hw ho hkd hkk
 obtain⟨RB,hRB⟩:∃x:Bool,x=dO d:=⟨_,rfl⟩
 have HBASE:=ac hRB
 clear hRB
 go_enter func64,ntmps64
 go_upto_region 1 with fail
 rw[<-hw0,<-hL]
 clear hw0 hL
 go_cut [3] (fun s3 wx=>s3=.bool RB/\wx=w0)
 case first=>
  have c4:w0.cell? ⟨L,4,none⟩=some (.int .i64 d.tick):=HR0.out.tick
  have c1:w0.cell? ⟨L,1,none⟩=some (.int .i64 d.round):=HR0.out.round
  by_cases h1:0<=d.tick
  ·go_wp2_with fail
   refine (cC d.round 0 15 _).mono ?_
   rintro e w1 ⟨rfl,rfl⟩
   have HE:aa (RB=aE d.round 0 15):=by rw[aa,HBASE.out,dO,decide_eq_true h1,Bool.true_and]
   clear h1
   go_wp2_with fail
   go_meet
   case rel=>exact⟨by rw[HE.out],rfl⟩
  ·have HE:aa (RB=false):=by rw[aa,HBASE.out,dO,decide_eq_false h1,Bool.false_and]
   go_wp2_with fail
   go_meet
   case rel=>exact⟨by rw[HE.out],rfl⟩
 case rest=>
  obtain⟨rfl,rfl⟩:=hcut
  have c0:wc.cell? ⟨L,0,none⟩=some (.int .i64 kd):=by rw[HKK.out];exact HR0.out.kind
  go_upto_block 0 with fail
  go_cut [3] (fun s3 wx=>jf d w L s3 wx)
  case first=>
   clear c0
   have h6:kd=1\/kd=2\/kd=3\/kd=4\/kd=5\/kd=6:=by have:=HKD.out;rw[HKK.out];omega
   clear HKD
   rcases h6 with rfl | rfl | rfl | rfl | rfl | rfl
   ·have HKD:aa (d.kind=1):=HKK.out.symm
    go_wp2_with fail
    refine (us L (d.toV b l o) d.lots d.owners (by have:=HO.out.rows;omega) (by have:=HO.out.rows;omega) wc HR0.out (HRL.out.on HN0.out) (HRW.out.on HN0.out)).mono ?_
    rintro e w1 ⟨rfl,hk1,hr1⟩
    have HB1:=bZ HN0.out hk1 HLw.out
    have HM:aa (jf d w L (.bool (pA (d.toV b l o) d.lots d.owners)) w1):=by
     refine⟨lu (d.toV b l o),by rw[tH HKD.out];rfl,hr1,?_,HB1⟩
     rw[z8 HKD.out]
     exact⟨b,.slice none 0 0,.slice none 0 0,rfl,HRB.out.on HB1,cZ.nil _,bA.nil _⟩
    clear hk1 hr1 HB1
    go_wp2_with fail
    go_meet
    case rel=>exact HM.out
   ·have HKD:aa (d.kind=2):=HKK.out.symm
    have c5:wc.cell? ⟨L,5,none⟩=some b:=HR0.out.barred
    have c2:wc.cell? ⟨L,2,none⟩=some (.int .i64 d.lot):=HR0.out.lot
    have f5:=HR0.out.free 5
    have f2:=HR0.out.free 2
    go_wp2_with fail
    refine (qs L (d.toV b l o) b d.barred (by have:=HO.out.rows;omega) wc (HRB.out.on HN0.out) HR0.out rfl).mono ?_
    rintro e w1 ⟨rfl,rfl⟩
    have HRF:aa (ah _ L {d.toV b l o with lot:=0,barred:=.slice none 0 0}):=(HR0.out.setLot 0).setBarred (.slice none 0 0)
    have HBF:aa (Below w.heap.size w _):=(HN0.out.setCell (p:=⟨L,2,none⟩) HLw.out (.int .i64 0)).setCell (p:=⟨L,5,none⟩) HLw.out (.slice none 0 0)
    obtain⟨al,hal⟩:∃x:Bool,x=a9 (bO d.barred) d.barred.length:=⟨_,rfl⟩
    rw[<-hal]
    have HAL:=ac hal
    clear hal
    have HM:∀s,s=.bool ((RB &&aE d.lot 0 15) &&al)->aa (jf d w L s _):=fun s hs=>⟨_,by rw[hs,pB HKD.out,HBASE.out,HAL.out],HRF.out,by rw[z9 HKD.out];exact⟨.slice none 0 0,l,o,rfl,bA.nil _,HRL.out.on HBF.out,HRW.out.on HBF.out⟩,HBF.out⟩
    have HM:=ac HM
    clear HRF HBF
    cases RB with
    | false=>
     go_wp2_with fail
     go_meet
     case rel=>exact HM.out _ rfl
    | true=>
     go_wp2_with fail
     refine (cC d.lot 0 15 _).mono ?_
     rintro e w1 ⟨rfl,rfl⟩
     obtain⟨wl,hwl⟩:∃x:Bool,x=aE d.lot 0 15:=⟨_,rfl⟩
     rw[<-hwl] at HM ⊢
     clear hwl
     cases wl with
     | false=>
      go_wp2_with fail
      go_meet
      case rel=>exact HM.out _ rfl
     | true=>
      go_wp2_with fail
      go_meet
      case rel=>exact HM.out _ rfl
   ·have HKD:aa (d.kind=3):=HKK.out.symm
    have c3:wc.cell? ⟨L,3,none⟩=some (.int .i64 d.carrier):=HR0.out.carrier
    have f3:=HR0.out.free 3
    obtain⟨wz,hst,hrz,hbz,_⟩:=sl (HR0.out.setCarrier 0)
    have HST:=ac hst
    clear hst
    have HRF:aa (ah wz L {d.toV b l o with carrier:=0,dig:=fun _=>0}):=hrz
    have HBF:aa (Below w.heap.size w wz):=hbz _ _ HLw.out (HN0.out.setCell (p:=⟨L,3,none⟩) HLw.out (.int .i64 0))
    clear hrz hbz
    have HM:∀s,s=.bool (RB &&aE d.carrier 0 7)->aa (jf d w L s wz):=by
     intro s hs
     refine⟨_,by rw[hs,pC HKD.out,HBASE.out],HRF.out,?_,HBF.out⟩
     rw[AY HKD.out]
     refine⟨b,l,o,?_,HRB.out.on HBF.out,HRL.out.on HBF.out,HRW.out.on HBF.out⟩
     have e:(fun _=>0:Nat->Int)=fun k=>(List.replicate 32 (0:Int)).getD k 0:=funext fun j=>(dU 32 j).symm
     rw[e]
     rfl
    have HM:=ac HM
    clear HRF HBF
    cases RB with
    | false=>
     go_wp2_with (first | (refine bR rfl 43 _ _ rfl _ _ rfl rfl HST.out ?_) | fail)
     go_meet
     case rel=>exact HM.out _ rfl
    | true=>
     go_wp2_with (first | (refine bR rfl 43 _ _ rfl _ _ rfl rfl HST.out ?_) | fail)
     refine (cC d.carrier 0 7 _).mono ?_
     rintro e w1 ⟨rfl,rfl⟩
     obtain⟨wl,hwl⟩:∃x:Bool,x=aE d.carrier 0 7:=⟨_,rfl⟩
     rw[<-hwl] at HM ⊢
     clear hwl
     cases wl with
     | false=>
      go_wp2_with (first | (refine bR rfl 43 _ _ rfl _ _ rfl rfl HST.out ?_) | fail)
      go_meet
      case rel=>exact HM.out _ rfl
     | true=>
      go_wp2_with (first | (refine bR rfl 43 _ _ rfl _ _ rfl rfl HST.out ?_) | fail)
      go_meet
      case rel=>exact HM.out _ rfl
   ·have HKD:aa (d.kind=4):=HKK.out.symm
    have c3:wc.cell? ⟨L,3,none⟩=some (.int .i64 d.carrier):=HR0.out.carrier
    have c38:wc.cell? ⟨L,38,none⟩=some (.int .u64 d.bid):=HR0.out.bid
    have c39:wc.cell? ⟨L,39,none⟩=some (.int .u64 d.nonce):=HR0.out.nonce
    have f3:=HR0.out.free 3
    have f38:=HR0.out.free 38
    have f39:=HR0.out.free 39
    have HRF:aa (ah _ L {d.toV b l o with carrier:=0,bid:=0,nonce:=0}):=((HR0.out.setCarrier 0).setBid 0).setNonce 0
    have HBF:aa (Below w.heap.size w _):=((HN0.out.setCell (p:=⟨L,3,none⟩) HLw.out (.int .i64 0)).setCell (p:=⟨L,38,none⟩) HLw.out (.int .u64 0)).setCell (p:=⟨L,39,none⟩) HLw.out (.int .u64 0)
    have HM:∀s,s=.bool ((RB &&aE d.carrier 0 7) &&decide (d.bid<=4294967296))->aa (jf d w L s _):=fun s hs=>⟨_,by rw[hs,pD HKD.out,HBASE.out],HRF.out,by rw[AZ HKD.out];exact⟨b,l,o,rfl,HRB.out.on HBF.out,HRL.out.on HBF.out,HRW.out.on HBF.out⟩,HBF.out⟩
    have HM:=ac HM
    clear HRF HBF
    cases RB with
    | false=>
     go_wp2_with fail
     go_meet
     case rel=>exact HM.out _ rfl
    | true=>
     go_wp2_with fail
     refine (cC d.carrier 0 7 _).mono ?_
     rintro e w1 ⟨rfl,rfl⟩
     obtain⟨wl,hwl⟩:∃x:Bool,x=aE d.carrier 0 7:=⟨_,rfl⟩
     rw[<-hwl] at HM ⊢
     clear hwl
     cases wl with
     | false=>
      go_wp2_with fail
      go_meet
      case rel=>exact HM.out _ rfl
     | true=>
      by_cases hbd:d.bid<=4294967296
      ·have HM:=ac (HM.out (.bool true) (by rw[decide_eq_true hbd];rfl)).out
       go_wp2_with fail
       go_meet
       case rel=>exact HM.out
      ·have HM:=ac (HM.out (.bool false) (by rw[decide_eq_false hbd];rfl)).out
       have eb:decide (d.bid<=4294967296)=false:=decide_eq_false hbd
       clear hbd
       go_wp2_with fail
       go_meet
       case rel=>exact HM.out
   ·have HKD:aa (d.kind=5):=HKK.out.symm
    cases RB with
    | false=>
     have c40:wc.cell? ⟨L,40,none⟩=some (.int .i64 d.state):=HR0.out.state
     have c41:wc.cell? ⟨L,41,none⟩=some (.int .i64 d.winner):=HR0.out.winner
     have c42:wc.cell? ⟨L,42,none⟩=some (.int .u64 d.price):=HR0.out.price
     have f40:=HR0.out.free 40
     have f41:=HR0.out.free 41
     have f42:=HR0.out.free 42
     have HRF:aa (ah _ L {d.toV b l o with state:=0,winner:=0,price:=0}):=((HR0.out.setState 0).setWinner 0).setPrice 0
     have HBF:aa (Below w.heap.size w _):=((HN0.out.setCell (p:=⟨L,40,none⟩) HLw.out (.int .i64 0)).setCell (p:=⟨L,41,none⟩) HLw.out (.int .i64 0)).setCell (p:=⟨L,42,none⟩) HLw.out (.int .u64 0)
     have HM:aa (jf d w L (.bool false) _):=⟨_,by rw[pE HKD.out,<-HBASE.out];rfl,HRF.out,by rw[Aa HKD.out];exact⟨b,l,o,rfl,HRB.out.on HBF.out,HRL.out.on HBF.out,HRW.out.on HBF.out⟩,HBF.out⟩
     clear HRF HBF
     go_wp2_with fail
     go_meet
     case rel=>exact HM.out
    | true=>
     have c40:wc.cell? ⟨L,40,none⟩=some (.int .i64 d.state):=HR0.out.state
     have c41:wc.cell? ⟨L,41,none⟩=some (.int .i64 d.winner):=HR0.out.winner
     have c42:wc.cell? ⟨L,42,none⟩=some (.int .u64 d.price):=HR0.out.price
     go_wp2_with fail
     refine (wH d.state d.winner d.price wc).mono ?_
     rintro e w1 ⟨rfl,hb1⟩
     have HR1:=ac (HR0.out.new hb1)
     have HN1:=ac (HN0.out.trans (hb1.mono HN0.out.size))
     clear c40 c41 c42 hb1
     have c40:w1.cell? ⟨L,40,none⟩=some (.int .i64 d.state):=HR1.out.state
     have c41:w1.cell? ⟨L,41,none⟩=some (.int .i64 d.winner):=HR1.out.winner
     have c42:w1.cell? ⟨L,42,none⟩=some (.int .u64 d.price):=HR1.out.price
     have f40:=HR1.out.free 40
     have f41:=HR1.out.free 41
     have f42:=HR1.out.free 42
     have HRF:aa (ah _ L {d.toV b l o with state:=0,winner:=0,price:=0}):=((HR1.out.setState 0).setWinner 0).setPrice 0
     have HBF:aa (Below w.heap.size w _):=((HN1.out.setCell (p:=⟨L,40,none⟩) HLw.out (.int .i64 0)).setCell (p:=⟨L,41,none⟩) HLw.out (.int .i64 0)).setCell (p:=⟨L,42,none⟩) HLw.out (.int .u64 0)
     have HM:aa (jf d w L (.bool (di d.state d.winner d.price)) _):=⟨_,by rw[pE HKD.out,<-HBASE.out];rfl,HRF.out,by rw[Aa HKD.out];exact⟨b,l,o,rfl,HRB.out.on HBF.out,HRL.out.on HBF.out,HRW.out.on HBF.out⟩,HBF.out⟩
     clear HRF HBF
     go_wp2_with fail
     go_meet
     case rel=>exact HM.out
   ·have HKD:aa (d.kind=6):=HKK.out.symm
    have c1:wc.cell? ⟨L,1,none⟩=some (.int .i64 d.round):=HR0.out.round
    have HM:∀s,s=.bool (RB &&decide (d.round=0))->aa (jf d w L s wc):=fun s hs=>⟨_,by rw[hs,tI HKD.out,HBASE.out],HR0.out,by rw[A1 HKD.out];exact⟨b,l,o,rfl,HRB.out.on HN0.out,HRL.out.on HN0.out,HRW.out.on HN0.out⟩,HN0.out⟩
    have HM:=ac HM
    cases RB with
    | false=>
     go_wp2_with fail
     go_meet
     case rel=>exact HM.out _ rfl
    | true=>
     by_cases hr:d.round=0
     ·have e1:(d.round==0)=true:=by simpa using hr
      have HM:=ac (HM.out (.bool true) (by rw[decide_eq_true hr];rfl)).out
      clear hr
      go_wp2_with fail
      go_meet
      case rel=>exact HM.out
     ·have e1:(d.round==0)=false:=by simpa using hr
      have HM:=ac (HM.out (.bool false) (by rw[decide_eq_false hr];rfl)).out
      clear hr
      go_wp2_with fail
      go_meet
      case rel=>exact HM.out
  case rest=>
   clear c0 HR0 HN0 HRB HRL HRW
   obtain⟨rv',rfl,hr',ha',hb'⟩:=hcut
   obtain⟨e,he⟩:∃e,e=bP d:=⟨_,rfl⟩
   obtain⟨R,hR⟩:∃R:Bool,R=bT d:=⟨_,rfl⟩
   have HFIN:aa (cF d=(R &&dm e)):=by rw[aa,cF,hR,he]
   have HEO:aa (AT e):=by rw[he];exact HO.out.rest
   rw[<-he] at ha'
   rw[<-hR]
   clear hR he
   obtain⟨b',l',o',rfl,rb,rl,ro⟩:=ha'
   obtain⟨ab,cb,rfl,hcb,_⟩:=rb
   obtain⟨al,cl,rfl,hcl,_⟩:=rl
   obtain⟨ao,co,rfl,hco,_⟩:=ro
   have HR2:=ac hr'
   have HB2:=ac hb'
   clear hr' hb' hcb hcl hco
   have c2:wc.cell? ⟨L,2,none⟩=some (.int .i64 e.lot):=HR2.out.lot
   have c3:wc.cell? ⟨L,3,none⟩=some (.int .i64 e.carrier):=HR2.out.carrier
   have c43:wc.cell? ⟨L,43,none⟩=some (.int .i64 e.carriers):=HR2.out.carriers
   have c44:wc.cell? ⟨L,44,none⟩=some (.int .i64 e.commit):=HR2.out.commit
   have c45:wc.cell? ⟨L,45,none⟩=some (.int .i64 e.reveal):=HR2.out.reveal
   have c46:wc.cell? ⟨L,46,none⟩=some (.int .i64 e.scheme):=HR2.out.scheme
   have c38:wc.cell? ⟨L,38,none⟩=some (.int .u64 e.bid):=HR2.out.bid
   have c39:wc.cell? ⟨L,39,none⟩=some (.int .u64 e.nonce):=HR2.out.nonce
   obtain⟨nb,hnb⟩:∃n,n=e.barred.length:=⟨_,rfl⟩
   obtain⟨nl,hnl⟩:∃n,n=e.lots.length:=⟨_,rfl⟩
   obtain⟨no,hno⟩:∃n,n=e.owners.length:=⟨_,rfl⟩
   have c5:wc.cell? ⟨L,5,none⟩=some (.slice ab nb cb):=by rw[hnb];exact HR2.out.barred
   have c47:wc.cell? ⟨L,47,none⟩=some (.slice al nl cl):=by rw[hnl];exact HR2.out.lots
   have c48:wc.cell? ⟨L,48,none⟩=some (.slice ao no co):=by rw[hno];exact HR2.out.owners
   have hrows:nb + nl + no<=1099511627776:=by rw[hnb,hnl,hno];exact HEO.out.rows
   obtain⟨E,hE⟩:∃E:Bool,E=tJ e:=⟨_,rfl⟩
   have HE:=ac hE
   have HEN:aa (E=(uw e &&(ux e &&decide (nb + nl + no=0)))):=by rw[aa,hE,tJ,hnb,hnl,hno]
   clear hE hnb hnl hno
   go_upto_region 21 with fail
   go_cut [5] (fun s5 wx=>s5=.bool E/\wx=wc)
   case first=>
    have h6:=HEO.out.six
    obtain⟨B6,hB6⟩:∃B:Bool,B=uw e:=⟨_,rfl⟩
    obtain⟨B2,hB2⟩:∃B:Bool,B=ux e:=⟨_,rfl⟩
    have h2:=HEO.out.two
    rw[<-hB6] at h6
    rw[<-hB2] at h2
    have HEN:=HEN.out
    rw[<-hB6,<-hB2] at HEN
    have HEN:=ac HEN
    clear hB6 hB2
    cases B6 with
    | false=>
     have HQ:aa (E=false):=by rw[aa,HEN.out];rfl
     go_wp2_with fail
     go_meet
     case rel=>exact⟨by rw[HQ.out],rfl⟩
    | true=>
     cases B2 with
     | false=>
      have HQ:aa (E=false):=by rw[aa,HEN.out];rfl
      go_wp2_with fail
      go_meet
      case rel=>exact⟨by rw[HQ.out],rfl⟩
     | true=>
      by_cases hn:nb + nl + no=0
      ·have HQ:aa (E=true):=by rw[aa,HEN.out,decide_eq_true hn];rfl
       obtain rfl:nb=0:=by omega
       obtain rfl:nl=0:=by omega
       obtain rfl:no=0:=by omega
       clear hn
       go_wp2_with fail
       go_meet
       case rel=>exact⟨by rw[HQ.out],rfl⟩
      ·have HQ:aa (E=false):=by rw[aa,HEN.out,decide_eq_false hn];rfl
       have hb:(((nb:Int) + nl + no)==0)=false:=by simp;omega
       clear hn
       go_wp2_with fail
       go_meet
       case rel=>exact⟨by rw[HQ.out],rfl⟩
   case rest=>
    obtain⟨rfl,rfl⟩:=hcut
    clear c2 c3 c43 c44 c45 c46 c38 c39 c5 c47 c48 hrows HEN
    have c40:wc.cell? ⟨L,40,none⟩=some (.int .i64 e.state):=HR2.out.state
    have c41:wc.cell? ⟨L,41,none⟩=some (.int .i64 e.winner):=HR2.out.winner
    have c42:wc.cell? ⟨L,42,none⟩=some (.int .u64 e.price):=HR2.out.price
    obtain⟨ds,hds⟩:∃ds:Array Value,((List.range 32).map fun j=>Value.int .u8 (e.dig.getD j 0)).toArray=ds:=⟨_,rfl⟩
    have heq:∀W,(binOp .eql 43 (.agg ds) (.agg #[.int .u8 0,.int .u8 0,.int .u8 0,.int .u8 0,.int .u8 0,.int .u8 0,.int .u8 0,.int .u8 0,.int .u8 0,.int .u8 0,.int .u8 0,.int .u8 0,.int .u8 0,.int .u8 0,.int .u8 0,.int .u8 0,.int .u8 0,.int .u8 0,.int .u8 0,.int .u8 0,.int .u8 0,.int .u8 0,.int .u8 0,.int .u8 0,.int .u8 0,.int .u8 0,.int .u8 0,.int .u8 0,.int .u8 0,.int .u8 0,.int .u8 0,.int .u8 0])).run prog W=.ok (.bool (wV e)) W:=by
     intro W
     rw[<-hds]
     exact tG _ _ (fun j=>e.dig.getD j 0) (fun _=>0) (lw _) uu W
    have hrg:wc.rangeAt L 6 ((List.range 32).map fun j=>Value.int .u8 (e.dig.getD j 0)):=HR2.out.digRange
    have HDS:=ac hds
    have HRG:=ac hrg
    clear hrg
    have heo:=fun W=>Ab e.state e.winner e.price 0 0 0 W
    have HF:aa (cF d=(((R &&E) &&wV e) &&(e.state==0 &&(e.winner==0 &&e.price==0)))):=by
     rw[aa,HFIN.out,HE.out,wW HEO.out.len]
     simp only[Bool.and_assoc]
    obtain⟨B,hB⟩:∃B:Bool,B=wV e:=⟨_,rfl⟩
    obtain⟨B5,hB5⟩:∃B:Bool,B=(e.state==0 &&(e.winner==0 &&e.price==0)):=⟨_,rfl⟩
    rw[<-hB] at heq
    have HF:=HF.out
    rw[<-hB,<-hB5] at HF
    have HF:=ac HF
    simp only[<-hB5] at heo
    clear hB hB5 hds HFIN HE
    cases R with
    | false=>
     have HQ:aa (cF d=false):=by rw[aa,HF.out];simp
     go_wp2_with fail
     go_ret
     exact⟨by rw[HQ.out];rfl,HB2.out⟩
    | true=>
     cases E with
     | false=>
      have HQ:aa (cF d=false):=by rw[aa,HF.out];simp
      go_wp2_with fail
      go_ret
      exact⟨by rw[HQ.out];rfl,HB2.out⟩
     | true=>
      cases B with
      | false=>
       have HQ:aa (cF d=false):=by rw[aa,HF.out];simp
       go_wp2_with (first | (refine aG (by rfl) _ _ rfl L 6 rfl _ _ HRG.out underlying43 rfl (by kernel_rfl) ds HDS.out ?_) | fail)
       go_ret
       exact⟨by rw[HQ.out];rfl,HB2.out⟩
      | true=>
       have HQ:aa (cF d=B5):=by rw[aa,HF.out];simp
       go_wp2_with (first | (refine aG (by rfl) _ _ rfl L 6 rfl _ _ HRG.out underlying43 rfl (by kernel_rfl) ds HDS.out ?_) | fail)
       go_ret
       exact⟨by rw[HQ.out];rfl,HB2.out⟩
theorem wZ (rv:RecV) (d:RecD) (hk:¬(1<=d.kind/\d.kind<=6)) (w:World) (h:bu w rv d):
  Calls prog 64 #[.agg (ae rv)] w fun e w'=>e=.returned (.bool (cF d))/\Below w.heap.size w w':=by
 obtain⟨b,l,o,rfl,hb,hl,hw⟩:=h
 have HM:aa (cF d=false):=by
  rw[aa,cF,bT,if_neg (by omega),if_neg (by omega),if_neg (by omega),if_neg (by omega),if_neg (by omega),if_neg (by omega)]
  rfl
 obtain⟨L,hL⟩:∃x,x=w.heap.size:=⟨_,rfl⟩
 obtain⟨w0,hw0⟩:∃z,z=w.alloc (.cells (ae (d.toV b l o)) 49):=⟨_,rfl⟩
 have HN0:aa (Below w.heap.size w w0):=by rw[hw0];exact af _ _
 have HR0:aa (ah w0 L (d.toV b l o)):=by rw[hw0,hL];exact ah.box _ _
 obtain⟨k,hkk⟩:∃k,k=d.kind:=⟨_,rfl⟩
 rw[<-hkk] at hk
 have HKK:=ac hkk
 have e1:(k==1)=false:=by simp;omega
 have e2:(k==2)=false:=by simp;omega
 have e3:(k==3)=false:=by simp;omega
 have e4:(k==4)=false:=by simp;omega
 have e5:(k==5)=false:=by simp;omega
 have e6:(k==6)=false:=by simp;omega
 clear hb hl hw hk hkk
 go_enter func64,ntmps64
 go_upto_region 1 with fail
 rw[<-hw0,<-hL]
 clear hw0 hL
 go_cut [3] (fun s3 wx=>wx=w0)
 case first=>
  have c4:w0.cell? ⟨L,4,none⟩=some (.int .i64 d.tick):=HR0.out.tick
  have c1:w0.cell? ⟨L,1,none⟩=some (.int .i64 d.round):=HR0.out.round
  by_cases h1:0<=d.tick
  ·go_wp2_with fail
   refine (cC d.round 0 15 _).mono ?_
   rintro e w1 ⟨rfl,rfl⟩
   go_wp2_with fail
   go_meet
   case rel=>exact rfl
  ·go_wp2_with fail
   go_meet
   case rel=>exact rfl
 case rest=>
  obtain rfl:=hcut
  have c0:wc.cell? ⟨L,0,none⟩=some (.int .i64 k):=by rw[HKK.out];exact HR0.out.kind
  go_wp2_with fail
  go_ret
  exact⟨by rw[HM.out];rfl,HN0.out⟩
theorem iD (rv:RecV) (d:RecD) (ho:d.ok) (w:World) (h:bu w rv d):
  Calls prog 64 #[.agg (ae rv)] w fun e w'=>e=.returned (.bool (cF d))/\Below w.heap.size w w':=by
 by_cases hk:1<=d.kind/\d.kind<=6
 ·exact A2 rv d ho hk w h
 ·exact wZ rv d hk w h
structure BS (L b g:Nat) (rv:RecV) (l:List Int) (w wx:World):Prop where
 record:ah wx L rv
 wr:jY b (strOfNums l) wx
 box:wx.cell? ⟨g,0,none⟩=some (.pointer (some ⟨b,0,none⟩))
 new:Below w.heap.size w wx
 hL:L<b
 hg:b<g
 hw:w.heap.size<=L
theorem BS.bound {L b g:Nat} {rv:RecV} {l:List Int} {w wx:World} (h:BS L b g rv l w wx):b<wx.heap.size:=aC h.wr.cell
theorem BS.step {L b g:Nat} {rv:RecV} {l l':List Int} {w wx w':World} {t:ByteArray} (h:BS L b g rv l w wx) (hk:am (·≠b) wx w') (ha:jY b t w') (ht:t=strOfNums l'):BS L b g rv l' w w':=by
 have h1:=h.hL
 have h2:=h.hg
 have h3:=h.hw
 have h4:=h.bound
 exact⟨h.record.keeps hk (by omega),by rw[<-ht];exact ha,aJ h.box hk (by omega),bZ h.new hk (by omega),h1,h2,h3⟩
theorem BS.on {L b g:Nat} {rv:RecV} {l:List Int} {w wx w':World} (h:BS L b g rv l w wx) (hb:Below wx.heap.size wx w'):BS L b g rv l w w':=
 ⟨h.record.new hb,h.wr.on hb,(hb.cell (aC h.box)).trans h.box,h.new.trans (hb.mono h.new.size),h.hL,h.hg,h.hw⟩
theorem BS.rowI {L b g:Nat} {rv:RecV} {l:List Int} {w wx:World} (h:BS L b g rv l w wx) {v:Value} {xs:List Int} (hr:bA w v xs):
  ∃a cap,v=.slice a xs.length cap/\(0<xs.length->∃lb lo,a=some ⟨lb,lo,none⟩/\lb≠b/\∀j,j<xs.length->wx.cell? ⟨lb,lo + j,none⟩=some (.int .i64 (xs.getD j 0))):=by
 obtain⟨a,cap,e,_,hx⟩:=hr
 refine⟨a,cap,e,fun h0=>?_⟩
 obtain⟨lb,lo,ea,hlb,hj⟩:=hx h0
 have h1:=h.hL
 have h3:=h.hw
 exact⟨lb,lo,ea,by omega,fun j hjl=>(h.new.cell (p:=⟨lb,lo + j,none⟩) hlb).trans (hj j hjl)⟩
theorem BS.rowL {L b g:Nat} {rv:RecV} {l:List Int} {w wx:World} (h:BS L b g rv l w wx) {v:Value} {xs:List (Int × Int)} (hr:cZ w v xs):
  ∃a cap,v=.slice a xs.length cap/\(0<xs.length->∃lb lo,a=some ⟨lb,lo,none⟩/\lb≠b/\∀j,j<xs.length->wx.cell? ⟨lb,lo + j * 2,none⟩=some (.int .i64 (xs.getD j (0,0)).1)/\wx.cell? ⟨lb,lo + j * 2 + 1,none⟩=some (.int .i64 (xs.getD j (0,0)).2)):=by
 obtain⟨a,cap,e,_,hx⟩:=hr
 refine⟨a,cap,e,fun h0=>?_⟩
 obtain⟨lb,lo,ea,hlb,hj⟩:=hx h0
 have h1:=h.hL
 have h3:=h.hw
 exact⟨lb,lo,ea,by omega,fun j hjl=>⟨(h.new.cell (p:=⟨lb,lo + j * 2,none⟩) hlb).trans (hj j hjl).1,(h.new.cell (p:=⟨lb,lo + j * 2 + 1,none⟩) hlb).trans (hj j hjl).2⟩⟩
def mV (L b g:Nat) (rv:RecV) (l:List Int) (w:World) (e:Ending) (w':World):Prop:=e=.returned (.tuple #[])/\BS L b g rv l w w'
theorem cU {L b g:Nat} {rv:RecV} {l:List Int} {w wx:World} (h:BS L b g rv l w wx) (xs:List Int) (hb:Bs xs) (hl:l.length + 8 * xs.length<=1099511627776) (arr:Array Value) (ha:arr=(xs.map (Value.int .i64)).toArray) (ty:TypeId) (n:Nat) (hn:xs.length=n):
  Calls prog 65 #[.pointer (some ⟨b,0,none⟩),.slice (some ⟨wx.heap.size,0,none⟩) n n] (wx.alloc (.cells arr ty)) (mV L b g rv (l++xs) w):=by
 subst hn ha
 have h1:=h.on (af wx (.cells (xs.map (Value.int .i64)).toArray ty))
 refine (oC b (strOfNums l) xs (by rw[dz];exact hl) (some ⟨wx.heap.size,0,none⟩) xs.length _ h1.wr (fun _=>⟨_,_,rfl,Nat.ne_of_gt h.bound,fun j hj=>?_⟩)).mono ?_
 ·rw[Nat.zero_add,aO,List.getElem?_toArray,List.getElem?_map,List.getElem?_eq_getElem hj,List.getD_eq_getElem?_getD,List.getElem?_eq_getElem hj]
  rfl
 ·rintro e w1 ⟨rfl,hk,hw⟩
  exact⟨rfl,h1.step hk hw (by rw[fk xs hb,bX])⟩
theorem jg {L b g:Nat} {rv:RecV} {l:List Int} {w wx:World} (h:BS L b g rv l w wx) (v:Int) (hv:0<=v/\v<=18446744073709551615) (hl:l.length<=1099511627776):
  Calls prog 68 #[.pointer (some ⟨b,0,none⟩),.int .u64 v,.int .i64 8] wx (mV L b g rv (l++be 8 v) w):=by
 refine (pn b (strOfNums l) (by rw[dz];exact hl) v 8 hv wx h.wr).mono ?_
 rintro e w1 ⟨rfl,hk,hw⟩
 refine⟨rfl,h.step hk hw ?_⟩
 have:=lm (strOfNums l) v 8 (by omega) (by omega) hv.1 (eight v hv)
 rw[show ((8:Nat):Int)=8 from rfl] at this
 rw[this,bX]
theorem oL (t:ByteArray) (xs:List Int) (hn:xs.length<=255) (hb:Bs xs):rowI t xs.length xs=t++strOfNums (cR xs):=by
 have gen:∀(xs:List Int),Bs xs->∀t:ByteArray,xs.foldl (fun t x=>bV t [x]) t=t++strOfNums xs:=by
  intro xs
  induction xs with
  | nil=>intro _ t;rw[lj,g6];rfl
  | cons x xs ih=>
   intro hb t
   rw[List.foldl_cons,ih (fun y hy=>hb y (by simp[hy])),fk [x] (fun y hy=>hb y (by simp at hy;simp[hy])),ByteArray.append_assoc,<-bX]
   rfl
 rw[rowI,fk [(xs.length:Int)] (Bs.cons (by omega) Bs.nil),gen xs hb,ByteArray.append_assoc,<-bX]
 rfl
theorem uz (t:ByteArray) (x y:Int) (hx:0<=x/\x<=255) (hy:0<=y/\y<4294967296):nW t x y=t++strOfNums (x :: be 4 y):=by
 have:=lm (bV t [x]) (y % 18446744073709551616) 4 (by omega) (by omega) (by omega) (by simp;omega)
 rw[show ((4:Nat):Int)=4 from rfl] at this
 rw[nW,this,fk [x] (Bs.cons hx Bs.nil),ByteArray.append_assoc,<-bX,show y % 18446744073709551616=y by omega]
 rfl
theorem uA (t:ByteArray) (xs:List (Int × Int)) (hn:xs.length<=255) (hx:∀x∈xs,(0<=x.1/\x.1<=255)/\0<=x.2/\x.2<4294967296):rowL t xs.length xs=t++strOfNums (dE xs):=by
 have gen:∀(xs:List (Int × Int)),(∀ x∈xs,(0<=x.1/\x.1<=255)/\0<=x.2/\x.2<4294967296)->∀t:ByteArray,xs.foldl (fun t x=>nW t x.1 x.2) t=t++strOfNums (oH xs):=by
  intro xs
  induction xs with
  | nil=>intro _ t;show t=t++strOfNums [];rw[lj,g6]
  | cons x xs ih=>
   intro hb t
   have hx:=hb x (by simp)
   rw[List.foldl_cons,ih (fun y hy=>hb y (by simp[hy])),uz t x.1 x.2 hx.1 hx.2,ByteArray.append_assoc,<-bX]
   rfl
 rw[rowL,fk [(xs.length:Int)] (Bs.cons (by omega) Bs.nil),gen xs hx,ByteArray.append_assoc,<-bX]
 rfl
theorem yZ {L b g:Nat} {rv:RecV} {l:List Int} {w wx:World} (h:BS L b g rv l w wx) {v:Value} {xs:List Int} (hr:bA w v xs) (hn:xs.length<=255) (hb:Bs xs) (hl:l.length<=1000):
  Calls prog 69 #[.pointer (some ⟨b,0,none⟩),v,.func (.func 70) #[] #[.pointer (some ⟨g,0,none⟩)]] wx (mV L b g rv (l++cR xs) w):=by
 obtain⟨a,cap,rfl,hx⟩:=h.rowI hr
 refine (ui b g (Nat.ne_of_gt h.hg) (strOfNums l) xs (by rw[dz];omega) a cap wx h.wr h.box hx).mono ?_
 rintro e w1 ⟨rfl,hk,hw⟩
 exact⟨rfl,h.step hk hw (by rw[oL _ xs hn hb,bX])⟩
theorem y3 {L b g:Nat} {rv:RecV} {l:List Int} {w wx:World} (h:BS L b g rv l w wx) {v:Value} {xs:List Int} (hr:bA w v xs) (hn:xs.length<=255) (hb:Bs xs) (hl:l.length<=1000):
  Calls prog 69 #[.pointer (some ⟨b,0,none⟩),v,.func (.func 71) #[] #[.pointer (some ⟨g,0,none⟩)]] wx (mV L b g rv (l++cR xs) w):=by
 obtain⟨a,cap,rfl,hx⟩:=h.rowI hr
 refine (uj b g (Nat.ne_of_gt h.hg) (strOfNums l) xs (by rw[dz];omega) a cap wx h.wr h.box hx).mono ?_
 rintro e w1 ⟨rfl,hk,hw⟩
 exact⟨rfl,h.step hk hw (by rw[oL _ xs hn hb,bX])⟩
theorem y4 {L b g:Nat} {rv:RecV} {l:List Int} {w wx:World} (h:BS L b g rv l w wx) {v:Value} {xs:List (Int × Int)} (hr:cZ w v xs) (hn:xs.length<=255) (hb:∀x∈xs,(0<=x.1/\x.1<=255)/\0<=x.2/\x.2<4294967296) (hl:l.length<=1000):
  Calls prog 66 #[.pointer (some ⟨b,0,none⟩),v,.func (.func 67) #[] #[.pointer (some ⟨g,0,none⟩)]] wx (mV L b g rv (l++dE xs) w):=by
 obtain⟨a,cap,rfl,hx⟩:=h.rowL hr
 refine (wu b g (Nat.ne_of_gt h.hg) (strOfNums l) xs (by rw[dz];omega) a cap wx h.wr h.box hx).mono ?_
 rintro e w1 ⟨rfl,hk,hw⟩
 exact⟨rfl,h.step hk hw (by rw[uA _ xs hn hb,bX])⟩
theorem BS.start {w w1:World} {L:Nat} {rv:RecV} (hr:ah w1 L rv) (hn:Below w.heap.size w w1) (hw:w.heap.size<=L) (ty ty2:TypeId) (W:World) (hW:W=(w1.alloc (.cells #[.string ⟨#[]⟩] ty)).alloc (.cells #[.pointer (some ⟨w1.heap.size,0,none⟩)] ty2)):
  BS L w1.heap.size (w1.heap.size + 1) rv [] w W:=by
 subst hW
 have h1:=af w1 (.cells #[.string ⟨#[]⟩] ty)
 have h2:=af (w1.alloc (.cells #[.string ⟨#[]⟩] ty)) (.cells #[.pointer (some ⟨w1.heap.size,0,none⟩)] ty2)
 have h3:=aD h1 h2
 have hs:(w1.alloc (.cells #[.string ⟨#[]⟩] ty)).heap.size=w1.heap.size + 1:=by simp
 have hc:(w1.alloc (.cells #[.string ⟨#[]⟩] ty)).cell? ⟨w1.heap.size,0,none⟩=some (.string ⟨#[]⟩):=aO _ _ _ 0
 refine⟨hr.new h3,⟨(h2.cell (by simp)).trans hc,(h2.frozen (p:=⟨w1.heap.size,0,none⟩) (by simp)).trans (eT _ _ _ 0)⟩,?_,hn.trans (h3.mono hn.size),hr.lt,Nat.lt_succ_self _,hw⟩
 have:=aO (w1.alloc (.cells #[.string ⟨#[]⟩] ty)) #[.pointer (some ⟨w1.heap.size,0,none⟩)] ty2 0
 rw[hs] at this
 exact this
theorem xd (bb ll oo:Value) (d:RecD) (ho:d.ok) (hkd:d.kind=1) (hm:cF d=true) (w:World) (RB:bA w bb d.barred) (RL:cZ w ll d.lots) (RO:bA w oo d.owners):
  Calls prog 39 #[.agg (ae (d.toV bb ll oo))] w fun e w'=>e=.returned (.tuple #[.string (dp d),.int .i64 0])/\Below w.heap.size w w':=by
 have h:bu w (d.toV bb ll oo) d:=⟨bb,ll,oo,rfl,RB,RL,RO⟩
 have hi0:(prog.info? 49).map (·.size)=some (ae (d.toV bb ll oo)).size:=by rw[aj];kernel_rfl
 obtain⟨L,hL⟩:∃x,x=w.heap.size:=⟨_,rfl⟩
 obtain⟨w0,hw0⟩:∃z,z=w.alloc (.cells (ae (d.toV bb ll oo)) 49):=⟨_,rfl⟩
 have HN0:aa (Below w.heap.size w w0):=by rw[hw0];exact af _ _
 have HR0:aa (ah w0 L (d.toV bb ll oo)):=by rw[hw0,hL];exact ah.box _ _
 have HLw:aa (w.heap.size<=L):=Nat.le_of_eq hL.symm
 have H:=ac h
 have HO:=ac ho
 have HM:=ac hm
 have HKD:=ac hkd
 clear h ho hm hkd
 go_enter func39,ntmps39
 go_upto_region 1 with fail
 rw[<-hw0,<-hL]
 clear hw0 hL
 go_wp2_with (first | (refine wpList_load_row rfl _ _ rfl L rfl _ (ae (d.toV bb ll oo)) (0,0) _ HR0.out underlying49 rfl hi0 ?_) | fail)
 refine (iD (d.toV bb ll oo) d HO.out w0 (H.out.on HN0.out)).mono ?_
 rintro e w1 ⟨rfl,hb⟩
 rw[HM.out]
 have HR1:=ac (HR0.out.new hb)
 have HN1:=ac (HN0.out.trans (hb.mono HN0.out.size))
 clear hb hi0 HR0 HN0
 go_upto_region 4 with fail
 obtain⟨W,hW⟩:∃W,W=(w1.alloc (.cells #[.string ⟨#[]⟩] 120)).alloc (.cells #[.pointer (some ⟨w1.heap.size,0,none⟩)] 118):=⟨_,rfl⟩
 obtain⟨b,hb⟩:∃b,b=w1.heap.size:=⟨_,rfl⟩
 obtain⟨g,hg⟩:∃g,g=w1.heap.size + 1:=⟨_,rfl⟩
 have H0:aa (BS L b g (d.toV bb ll oo) [] w W):=by rw[hb,hg];exact BS.start HR1.out HN1.out HLw.out _ _ W hW
 clear HR1 HN1
 have RB:=ac RB
 have RL:=ac RL
 have RO:=ac RO
 clear H
 obtain⟨hr0,_⟩:=eK HM.out
 have hrt:=sh HKD.out hr0
 have HT9:=HO.out.tick.2
 have HBS:=(gq HM.out HO.out).1
 have HL:aa (dA d=[1,d.carriers,d.commit,d.reveal,d.scheme]++dE d.lots++cR d.owners):=by rw[aa,dA,if_pos HKD.out]
 rw[HL.out] at HBS
 have HBS:=ac HBS
 clear hr0
 rw[<-hW,<-hg,<-hb]
 clear hW hg hb
 obtain⟨q1,q2,q3,q4,q5,q6,q7,q8,q9,q10⟩:=hrt
 have HP1:aa (∀ x∈d.lots,(0<=x.1/\x.1<=255)/\0<=x.2/\x.2<4294967296):=fun x hx=>by have:=q7 x hx;omega
 have HP2:aa (Bs d.owners):=fun x hx=>by have:=q8 x hx;omega
 clear q7 q8 q9 q10
 have cg:=H0.out.box
 have c0:W.cell? ⟨L,0,none⟩=some (.int .i64 1):=by rw[<-HKD.out];exact H0.out.record.kind
 go_wp2_with fail
 refine (cU H0.out [1] (Bs.cons (by omega) (Bs.nil)) (by simp[dE,cR,aR,bm] <;> omega) _ rfl _ _ rfl).mono ?_
 rintro e W1 ⟨rfl,hq⟩
 have H1:aa (BS L b g (d.toV bb ll oo) ([1]) w W1):=hq
 clear H0 hq cg c0
 have cg:=H1.out.box
 have c0:W1.cell? ⟨L,0,none⟩=some (.int .i64 1):=by rw[<-HKD.out];exact H1.out.record.kind
 have c43:W1.cell? ⟨L,43,none⟩=some (.int .i64 d.carriers):=H1.out.record.carriers
 have c44:W1.cell? ⟨L,44,none⟩=some (.int .i64 d.commit):=H1.out.record.commit
 have c45:W1.cell? ⟨L,45,none⟩=some (.int .i64 d.reveal):=H1.out.record.reveal
 have c46:W1.cell? ⟨L,46,none⟩=some (.int .i64 d.scheme):=H1.out.record.scheme
 go_wp2_with fail
 refine (cU H1.out [d.carriers,d.commit,d.reveal,d.scheme] (Bs.cons (by omega) (Bs.cons (by omega) (Bs.cons (by omega) (Bs.cons (by omega) (Bs.nil))))) (by simp[dE,cR,aR,bm] <;> omega) _ rfl _ _ rfl).mono ?_
 rintro e W2 ⟨rfl,hq⟩
 have H2:aa (BS L b g (d.toV bb ll oo) ([1]++[d.carriers,d.commit,d.reveal,d.scheme]) w W2):=hq
 clear H1 hq cg c0 c43 c44 c45 c46
 have cg:=H2.out.box
 have c0:W2.cell? ⟨L,0,none⟩=some (.int .i64 1):=by rw[<-HKD.out];exact H2.out.record.kind
 have c47:W2.cell? ⟨L,47,none⟩=some ll:=H2.out.record.lots
 go_wp2_with fail
 refine (y4 H2.out RL.out (by omega) HP1.out (by simp[dE,cR,aR,bm] <;> omega)).mono ?_
 rintro e W3 ⟨rfl,hq⟩
 have H3:aa (BS L b g (d.toV bb ll oo) ([1]++[d.carriers,d.commit,d.reveal,d.scheme]++dE d.lots) w W3):=hq
 clear H2 hq cg c0 c47
 have cg:=H3.out.box
 have c0:W3.cell? ⟨L,0,none⟩=some (.int .i64 1):=by rw[<-HKD.out];exact H3.out.record.kind
 have c48:W3.cell? ⟨L,48,none⟩=some oo:=H3.out.record.owners
 go_wp2_with fail
 refine (yZ H3.out RO.out (by omega) HP2.out (by simp[dE,cR,aR,bm] <;> omega)).mono ?_
 rintro e W4 ⟨rfl,hq⟩
 have H4:aa (BS L b g (d.toV bb ll oo) ([1]++[d.carriers,d.commit,d.reveal,d.scheme]++dE d.lots++cR d.owners) w W4):=hq
 clear H3 hq cg c0 c48
 have cg:=H4.out.box
 have c0:W4.cell? ⟨L,0,none⟩=some (.int .i64 1):=by rw[<-HKD.out];exact H4.out.record.kind
 have cw:W4.cell? ⟨b,0,none⟩=some (.string (dp d)):=by rw[dp,HL.out];exact H4.out.wr.cell
 have HN:=ac H4.out.new
 clear H4
 go_wp2_with fail
 go_ret2
 exact⟨rfl,HN.out⟩
theorem xe (bb ll oo:Value) (d:RecD) (ho:d.ok) (hkd:d.kind=2) (hm:cF d=true) (w:World) (RB:bA w bb d.barred) (RL:cZ w ll d.lots) (RO:bA w oo d.owners):
  Calls prog 39 #[.agg (ae (d.toV bb ll oo))] w fun e w'=>e=.returned (.tuple #[.string (dp d),.int .i64 0])/\Below w.heap.size w w':=by
 have h:bu w (d.toV bb ll oo) d:=⟨bb,ll,oo,rfl,RB,RL,RO⟩
 have hi0:(prog.info? 49).map (·.size)=some (ae (d.toV bb ll oo)).size:=by rw[aj];kernel_rfl
 obtain⟨L,hL⟩:∃x,x=w.heap.size:=⟨_,rfl⟩
 obtain⟨w0,hw0⟩:∃z,z=w.alloc (.cells (ae (d.toV bb ll oo)) 49):=⟨_,rfl⟩
 have HN0:aa (Below w.heap.size w w0):=by rw[hw0];exact af _ _
 have HR0:aa (ah w0 L (d.toV bb ll oo)):=by rw[hw0,hL];exact ah.box _ _
 have HLw:aa (w.heap.size<=L):=Nat.le_of_eq hL.symm
 have H:=ac h
 have HO:=ac ho
 have HM:=ac hm
 have HKD:=ac hkd
 clear h ho hm hkd
 go_enter func39,ntmps39
 go_upto_region 1 with fail
 rw[<-hw0,<-hL]
 clear hw0 hL
 go_wp2_with (first | (refine wpList_load_row rfl _ _ rfl L rfl _ (ae (d.toV bb ll oo)) (0,0) _ HR0.out underlying49 rfl hi0 ?_) | fail)
 refine (iD (d.toV bb ll oo) d HO.out w0 (H.out.on HN0.out)).mono ?_
 rintro e w1 ⟨rfl,hb⟩
 rw[HM.out]
 have HR1:=ac (HR0.out.new hb)
 have HN1:=ac (HN0.out.trans (hb.mono HN0.out.size))
 clear hb hi0 HR0 HN0
 go_upto_region 4 with fail
 obtain⟨W,hW⟩:∃W,W=(w1.alloc (.cells #[.string ⟨#[]⟩] 120)).alloc (.cells #[.pointer (some ⟨w1.heap.size,0,none⟩)] 118):=⟨_,rfl⟩
 obtain⟨b,hb⟩:∃b,b=w1.heap.size:=⟨_,rfl⟩
 obtain⟨g,hg⟩:∃g,g=w1.heap.size + 1:=⟨_,rfl⟩
 have H0:aa (BS L b g (d.toV bb ll oo) [] w W):=by rw[hb,hg];exact BS.start HR1.out HN1.out HLw.out _ _ W hW
 clear HR1 HN1
 have RB:=ac RB
 have RL:=ac RL
 have RO:=ac RO
 clear H
 obtain⟨hr0,_⟩:=eK HM.out
 have hrt:=wN HKD.out hr0
 have HT9:=HO.out.tick.2
 have HBS:=(gq HM.out HO.out).1
 have HL:aa (dA d=[2,d.round,d.lot]++be 8 d.tick++cR d.barred):=by rw[aa,dA,if_neg (by rw[HKD.out];decide),if_pos HKD.out]
 rw[HL.out] at HBS
 have HBS:=ac HBS
 clear hr0
 rw[<-hW,<-hg,<-hb]
 clear hW hg hb
 obtain⟨⟨t0,q1⟩,q2,q3⟩:=hrt
 have q4:=qt _ q3
 have HP2:aa (Bs d.barred):=fun x hx=>by have:=qu _ q3 x hx;omega
 clear q3
 have cg:=H0.out.box
 have c0:W.cell? ⟨L,0,none⟩=some (.int .i64 2):=by rw[<-HKD.out];exact H0.out.record.kind
 go_wp2_with fail
 refine (cU H0.out [2] (Bs.cons (by omega) (Bs.nil)) (by simp[dE,cR,aR,bm] <;> omega) _ rfl _ _ rfl).mono ?_
 rintro e W1 ⟨rfl,hq⟩
 have H1:aa (BS L b g (d.toV bb ll oo) ([2]) w W1):=hq
 clear H0 hq cg c0
 have cg:=H1.out.box
 have c0:W1.cell? ⟨L,0,none⟩=some (.int .i64 2):=by rw[<-HKD.out];exact H1.out.record.kind
 have c1:W1.cell? ⟨L,1,none⟩=some (.int .i64 d.round):=H1.out.record.round
 go_wp2_with fail
 refine (cU H1.out [d.round] (Bs.cons (by omega) (Bs.nil)) (by simp[dE,cR,aR,bm] <;> omega) _ rfl _ _ rfl).mono ?_
 rintro e W2 ⟨rfl,hq⟩
 have H2:aa (BS L b g (d.toV bb ll oo) ([2]++[d.round]) w W2):=hq
 clear H1 hq cg c0 c1
 have cg:=H2.out.box
 have c0:W2.cell? ⟨L,0,none⟩=some (.int .i64 2):=by rw[<-HKD.out];exact H2.out.record.kind
 have c2:W2.cell? ⟨L,2,none⟩=some (.int .i64 d.lot):=H2.out.record.lot
 go_wp2_with fail
 refine (cU H2.out [d.lot] (Bs.cons (by omega) (Bs.nil)) (by simp[dE,cR,aR,bm] <;> omega) _ rfl _ _ rfl).mono ?_
 rintro e W3 ⟨rfl,hq⟩
 have H3:aa (BS L b g (d.toV bb ll oo) ([2]++[d.round]++[d.lot]) w W3):=hq
 clear H2 hq cg c0 c2
 have cg:=H3.out.box
 have c0:W3.cell? ⟨L,0,none⟩=some (.int .i64 2):=by rw[<-HKD.out];exact H3.out.record.kind
 have c4:W3.cell? ⟨L,4,none⟩=some (.int .i64 d.tick):=H3.out.record.tick
 go_wp2_with fail
 refine (jg H3.out d.tick (by omega) (by simp[aR] <;> omega)).mono ?_
 rintro e W4 ⟨rfl,hq⟩
 have H4:aa (BS L b g (d.toV bb ll oo) ([2]++[d.round]++[d.lot]++be 8 d.tick) w W4):=hq
 clear H3 hq cg c0 c4
 have cg:=H4.out.box
 have c0:W4.cell? ⟨L,0,none⟩=some (.int .i64 2):=by rw[<-HKD.out];exact H4.out.record.kind
 have c5:W4.cell? ⟨L,5,none⟩=some bb:=H4.out.record.barred
 go_wp2_with fail
 refine (y3 H4.out RB.out (by omega) HP2.out (by simp[dE,cR,aR,bm] <;> omega)).mono ?_
 rintro e W5 ⟨rfl,hq⟩
 have H5:aa (BS L b g (d.toV bb ll oo) ([2]++[d.round]++[d.lot]++be 8 d.tick++cR d.barred) w W5):=hq
 clear H4 hq cg c0 c5
 have cg:=H5.out.box
 have c0:W5.cell? ⟨L,0,none⟩=some (.int .i64 2):=by rw[<-HKD.out];exact H5.out.record.kind
 have cw:W5.cell? ⟨b,0,none⟩=some (.string (dp d)):=by rw[dp,HL.out];exact H5.out.wr.cell
 have HN:=ac H5.out.new
 clear H5
 go_wp2_with fail
 go_ret2
 exact⟨rfl,HN.out⟩
theorem xf (bb ll oo:Value) (d:RecD) (ho:d.ok) (hkd:d.kind=3) (hm:cF d=true) (w:World) (RB:bA w bb d.barred) (RL:cZ w ll d.lots) (RO:bA w oo d.owners):
  Calls prog 39 #[.agg (ae (d.toV bb ll oo))] w fun e w'=>e=.returned (.tuple #[.string (dp d),.int .i64 0])/\Below w.heap.size w w':=by
 have h:bu w (d.toV bb ll oo) d:=⟨bb,ll,oo,rfl,RB,RL,RO⟩
 have hi0:(prog.info? 49).map (·.size)=some (ae (d.toV bb ll oo)).size:=by rw[aj];kernel_rfl
 obtain⟨L,hL⟩:∃x,x=w.heap.size:=⟨_,rfl⟩
 obtain⟨w0,hw0⟩:∃z,z=w.alloc (.cells (ae (d.toV bb ll oo)) 49):=⟨_,rfl⟩
 have HN0:aa (Below w.heap.size w w0):=by rw[hw0];exact af _ _
 have HR0:aa (ah w0 L (d.toV bb ll oo)):=by rw[hw0,hL];exact ah.box _ _
 have HLw:aa (w.heap.size<=L):=Nat.le_of_eq hL.symm
 have H:=ac h
 have HO:=ac ho
 have HM:=ac hm
 have HKD:=ac hkd
 clear h ho hm hkd
 go_enter func39,ntmps39
 go_upto_region 1 with fail
 rw[<-hw0,<-hL]
 clear hw0 hL
 go_wp2_with (first | (refine wpList_load_row rfl _ _ rfl L rfl _ (ae (d.toV bb ll oo)) (0,0) _ HR0.out underlying49 rfl hi0 ?_) | fail)
 refine (iD (d.toV bb ll oo) d HO.out w0 (H.out.on HN0.out)).mono ?_
 rintro e w1 ⟨rfl,hb⟩
 rw[HM.out]
 have HR1:=ac (HR0.out.new hb)
 have HN1:=ac (HN0.out.trans (hb.mono HN0.out.size))
 clear hb hi0 HR0 HN0
 go_upto_region 4 with fail
 obtain⟨W,hW⟩:∃W,W=(w1.alloc (.cells #[.string ⟨#[]⟩] 120)).alloc (.cells #[.pointer (some ⟨w1.heap.size,0,none⟩)] 118):=⟨_,rfl⟩
 obtain⟨b,hb⟩:∃b,b=w1.heap.size:=⟨_,rfl⟩
 obtain⟨g,hg⟩:∃g,g=w1.heap.size + 1:=⟨_,rfl⟩
 have H0:aa (BS L b g (d.toV bb ll oo) [] w W):=by rw[hb,hg];exact BS.start HR1.out HN1.out HLw.out _ _ W hW
 clear HR1 HN1
 have RB:=ac RB
 have RL:=ac RL
 have RO:=ac RO
 clear H
 obtain⟨hr0,_⟩:=eK HM.out
 have hrt:=wO HKD.out hr0
 have HT9:=HO.out.tick.2
 have HBS:=(gq HM.out HO.out).1
 have HL:aa (dA d=[3,d.round,d.carrier]++d.dig++be 8 d.tick):=by rw[aa,dA,if_neg (by rw[HKD.out];decide),if_neg (by rw[HKD.out];decide),if_pos HKD.out]
 rw[HL.out] at HBS
 have HBS:=ac HBS
 clear hr0
 rw[<-hW,<-hg,<-hb]
 clear hW hg hb
 obtain⟨⟨t0,q1⟩,q2⟩:=hrt
 have cg:=H0.out.box
 have c0:W.cell? ⟨L,0,none⟩=some (.int .i64 3):=by rw[<-HKD.out];exact H0.out.record.kind
 go_wp2_with fail
 refine (cU H0.out [3] (Bs.cons (by omega) (Bs.nil)) (by simp[dE,cR,aR,bm] <;> omega) _ rfl _ _ rfl).mono ?_
 rintro e W1 ⟨rfl,hq⟩
 have H1:aa (BS L b g (d.toV bb ll oo) ([3]) w W1):=hq
 clear H0 hq cg c0
 have cg:=H1.out.box
 have c0:W1.cell? ⟨L,0,none⟩=some (.int .i64 3):=by rw[<-HKD.out];exact H1.out.record.kind
 have c1:W1.cell? ⟨L,1,none⟩=some (.int .i64 d.round):=H1.out.record.round
 go_wp2_with fail
 refine (cU H1.out [d.round] (Bs.cons (by omega) (Bs.nil)) (by simp[dE,cR,aR,bm] <;> omega) _ rfl _ _ rfl).mono ?_
 rintro e W2 ⟨rfl,hq⟩
 have H2:aa (BS L b g (d.toV bb ll oo) ([3]++[d.round]) w W2):=hq
 clear H1 hq cg c0 c1
 have cg:=H2.out.box
 have c0:W2.cell? ⟨L,0,none⟩=some (.int .i64 3):=by rw[<-HKD.out];exact H2.out.record.kind
 have c3:W2.cell? ⟨L,3,none⟩=some (.int .i64 d.carrier):=H2.out.record.carrier
 go_wp2_with fail
 refine (cU H2.out [d.carrier] (Bs.cons (by omega) (Bs.nil)) (by simp[dE,cR,aR,bm] <;> omega) _ rfl _ _ rfl).mono ?_
 rintro e W3 ⟨rfl,hq⟩
 have H3:aa (BS L b g (d.toV bb ll oo) ([3]++[d.round]++[d.carrier]) w W3):=hq
 clear H2 hq cg c0 c3
 have cg:=H3.out.box
 have c0:W3.cell? ⟨L,0,none⟩=some (.int .i64 3):=by rw[<-HKD.out];exact H3.out.record.kind
 obtain⟨T,hT⟩:∃T,T=strOfNums ([3]++[d.round]++[d.carrier]):=⟨_,rfl⟩
 have cw:W3.cell? ⟨b,0,none⟩=some (.string T):=by rw[hT];exact H3.out.wr.cell
 have fw:=H3.out.wr.free
 have hsz:T.size<=1000:=by rw[hT,dz];simp
 obtain⟨D,hD⟩:∃D,D=strOfNums d.dig:=⟨_,rfl⟩
 have hds:D.size<=1000:=by rw[hD,dz,HO.out.len];decide
 have kc:=run_convert_bytes_arg (P:=prog) (w:=W3.drew) 22 5 underlying22 underlying5 L 6 32 32 d.dig HO.out.len (fun i hi=>H3.out.record.dig i hi) 9 underlying9
 rw[<-hD] at kc
 have HX:aa (BS L b g (d.toV bb ll oo) ([3]++[d.round]++[d.carrier]++d.dig) w (W3.setCell ⟨b,0,none⟩ (.string (T++D))).drew):=by
  refine (H3.out.step (t:=T++D) (l':=[3]++[d.round]++[d.carrier]++d.dig) ((am.refl _ _).setCell (p:=⟨b,0,none⟩) (.inr (fun h=>h rfl)) _) ⟨World.cell?_setCell_same _ _ _ cw,by rw[World.frozen?_setCell];exact fw⟩ (by rw[hT,hD,<-bX])).on (aA _)
 have hnb:¬9223372036854775807<T.size + D.size:=by omega
 clear hT hD
 go_wp2_with fail
 go_still_tail 10,(by kernel_rfl)
 go_upto_region 25 with fail
 obtain⟨W4,hW4⟩:∃z,z=(W3.setCell ⟨b,0,none⟩ (.string (T++D))).drew:=⟨_,rfl⟩
 rw[<-hW4] at HX ⊢
 clear hW4 cg c0 cw fw hsz hds kc H3
 have H4:=HX
 have cg:=H4.out.box
 have c0:W4.cell? ⟨L,0,none⟩=some (.int .i64 3):=by rw[<-HKD.out];exact H4.out.record.kind
 have c4:W4.cell? ⟨L,4,none⟩=some (.int .i64 d.tick):=H4.out.record.tick
 go_wp2_with fail
 refine (jg H4.out d.tick (by omega) (by simp[aR,HO.out.len] <;> omega)).mono ?_
 rintro e W5 ⟨rfl,hq⟩
 have H5:aa (BS L b g (d.toV bb ll oo) ([3]++[d.round]++[d.carrier]++d.dig++be 8 d.tick) w W5):=hq
 clear H4 hq cg c0 c4
 have cg:=H5.out.box
 have c0:W5.cell? ⟨L,0,none⟩=some (.int .i64 3):=by rw[<-HKD.out];exact H5.out.record.kind
 have cw:W5.cell? ⟨b,0,none⟩=some (.string (dp d)):=by rw[dp,HL.out];exact H5.out.wr.cell
 have HN:=ac H5.out.new
 clear H5
 go_wp2_with fail
 go_ret2
 exact⟨rfl,HN.out⟩
theorem xg (bb ll oo:Value) (d:RecD) (ho:d.ok) (hkd:d.kind=4) (hm:cF d=true) (w:World) (RB:bA w bb d.barred) (RL:cZ w ll d.lots) (RO:bA w oo d.owners):
  Calls prog 39 #[.agg (ae (d.toV bb ll oo))] w fun e w'=>e=.returned (.tuple #[.string (dp d),.int .i64 0])/\Below w.heap.size w w':=by
 have h:bu w (d.toV bb ll oo) d:=⟨bb,ll,oo,rfl,RB,RL,RO⟩
 have hi0:(prog.info? 49).map (·.size)=some (ae (d.toV bb ll oo)).size:=by rw[aj];kernel_rfl
 obtain⟨L,hL⟩:∃x,x=w.heap.size:=⟨_,rfl⟩
 obtain⟨w0,hw0⟩:∃z,z=w.alloc (.cells (ae (d.toV bb ll oo)) 49):=⟨_,rfl⟩
 have HN0:aa (Below w.heap.size w w0):=by rw[hw0];exact af _ _
 have HR0:aa (ah w0 L (d.toV bb ll oo)):=by rw[hw0,hL];exact ah.box _ _
 have HLw:aa (w.heap.size<=L):=Nat.le_of_eq hL.symm
 have H:=ac h
 have HO:=ac ho
 have HM:=ac hm
 have HKD:=ac hkd
 clear h ho hm hkd
 go_enter func39,ntmps39
 go_upto_region 1 with fail
 rw[<-hw0,<-hL]
 clear hw0 hL
 go_wp2_with (first | (refine wpList_load_row rfl _ _ rfl L rfl _ (ae (d.toV bb ll oo)) (0,0) _ HR0.out underlying49 rfl hi0 ?_) | fail)
 refine (iD (d.toV bb ll oo) d HO.out w0 (H.out.on HN0.out)).mono ?_
 rintro e w1 ⟨rfl,hb⟩
 rw[HM.out]
 have HR1:=ac (HR0.out.new hb)
 have HN1:=ac (HN0.out.trans (hb.mono HN0.out.size))
 clear hb hi0 HR0 HN0
 go_upto_region 4 with fail
 obtain⟨W,hW⟩:∃W,W=(w1.alloc (.cells #[.string ⟨#[]⟩] 120)).alloc (.cells #[.pointer (some ⟨w1.heap.size,0,none⟩)] 118):=⟨_,rfl⟩
 obtain⟨b,hb⟩:∃b,b=w1.heap.size:=⟨_,rfl⟩
 obtain⟨g,hg⟩:∃g,g=w1.heap.size + 1:=⟨_,rfl⟩
 have H0:aa (BS L b g (d.toV bb ll oo) [] w W):=by rw[hb,hg];exact BS.start HR1.out HN1.out HLw.out _ _ W hW
 clear HR1 HN1
 have RB:=ac RB
 have RL:=ac RL
 have RO:=ac RO
 clear H
 obtain⟨hr0,_⟩:=eK HM.out
 have hrt:=wP HKD.out hr0
 have HT9:=HO.out.tick.2
 have HBS:=(gq HM.out HO.out).1
 have HL:aa (dA d=[4,d.round,d.carrier]++be 8 d.bid++be 8 d.nonce++be 8 d.tick):=by rw[aa,dA,if_neg (by rw[HKD.out];decide),if_neg (by rw[HKD.out];decide),if_neg (by rw[HKD.out];decide),if_pos HKD.out]
 rw[HL.out] at HBS
 have HBS:=ac HBS
 clear hr0
 rw[<-hW,<-hg,<-hb]
 clear hW hg hb
 obtain⟨⟨⟨t0,q1⟩,q2⟩,q3⟩:=hrt
 have q5:=HO.out.bid
 have q6:=HO.out.nonce
 have cg:=H0.out.box
 have c0:W.cell? ⟨L,0,none⟩=some (.int .i64 4):=by rw[<-HKD.out];exact H0.out.record.kind
 go_wp2_with fail
 refine (cU H0.out [4] (Bs.cons (by omega) (Bs.nil)) (by simp[dE,cR,aR,bm] <;> omega) _ rfl _ _ rfl).mono ?_
 rintro e W1 ⟨rfl,hq⟩
 have H1:aa (BS L b g (d.toV bb ll oo) ([4]) w W1):=hq
 clear H0 hq cg c0
 have cg:=H1.out.box
 have c0:W1.cell? ⟨L,0,none⟩=some (.int .i64 4):=by rw[<-HKD.out];exact H1.out.record.kind
 have c1:W1.cell? ⟨L,1,none⟩=some (.int .i64 d.round):=H1.out.record.round
 go_wp2_with fail
 refine (cU H1.out [d.round] (Bs.cons (by omega) (Bs.nil)) (by simp[dE,cR,aR,bm] <;> omega) _ rfl _ _ rfl).mono ?_
 rintro e W2 ⟨rfl,hq⟩
 have H2:aa (BS L b g (d.toV bb ll oo) ([4]++[d.round]) w W2):=hq
 clear H1 hq cg c0 c1
 have cg:=H2.out.box
 have c0:W2.cell? ⟨L,0,none⟩=some (.int .i64 4):=by rw[<-HKD.out];exact H2.out.record.kind
 have c3:W2.cell? ⟨L,3,none⟩=some (.int .i64 d.carrier):=H2.out.record.carrier
 go_wp2_with fail
 refine (cU H2.out [d.carrier] (Bs.cons (by omega) (Bs.nil)) (by simp[dE,cR,aR,bm] <;> omega) _ rfl _ _ rfl).mono ?_
 rintro e W3 ⟨rfl,hq⟩
 have H3:aa (BS L b g (d.toV bb ll oo) ([4]++[d.round]++[d.carrier]) w W3):=hq
 clear H2 hq cg c0 c3
 have cg:=H3.out.box
 have c0:W3.cell? ⟨L,0,none⟩=some (.int .i64 4):=by rw[<-HKD.out];exact H3.out.record.kind
 have c38:W3.cell? ⟨L,38,none⟩=some (.int .u64 d.bid):=H3.out.record.bid
 go_wp2_with fail
 refine (jg H3.out d.bid (by omega) (by simp[aR] <;> omega)).mono ?_
 rintro e W4 ⟨rfl,hq⟩
 have H4:aa (BS L b g (d.toV bb ll oo) ([4]++[d.round]++[d.carrier]++be 8 d.bid) w W4):=hq
 clear H3 hq cg c0 c38
 have cg:=H4.out.box
 have c0:W4.cell? ⟨L,0,none⟩=some (.int .i64 4):=by rw[<-HKD.out];exact H4.out.record.kind
 have c39:W4.cell? ⟨L,39,none⟩=some (.int .u64 d.nonce):=H4.out.record.nonce
 go_wp2_with fail
 refine (jg H4.out d.nonce (by omega) (by simp[aR] <;> omega)).mono ?_
 rintro e W5 ⟨rfl,hq⟩
 have H5:aa (BS L b g (d.toV bb ll oo) ([4]++[d.round]++[d.carrier]++be 8 d.bid++be 8 d.nonce) w W5):=hq
 clear H4 hq cg c0 c39
 have cg:=H5.out.box
 have c0:W5.cell? ⟨L,0,none⟩=some (.int .i64 4):=by rw[<-HKD.out];exact H5.out.record.kind
 have c4:W5.cell? ⟨L,4,none⟩=some (.int .i64 d.tick):=H5.out.record.tick
 go_wp2_with fail
 refine (jg H5.out d.tick (by omega) (by simp[aR] <;> omega)).mono ?_
 rintro e W6 ⟨rfl,hq⟩
 have H6:aa (BS L b g (d.toV bb ll oo) ([4]++[d.round]++[d.carrier]++be 8 d.bid++be 8 d.nonce++be 8 d.tick) w W6):=hq
 clear H5 hq cg c0 c4
 have cg:=H6.out.box
 have c0:W6.cell? ⟨L,0,none⟩=some (.int .i64 4):=by rw[<-HKD.out];exact H6.out.record.kind
 have cw:W6.cell? ⟨b,0,none⟩=some (.string (dp d)):=by rw[dp,HL.out];exact H6.out.wr.cell
 have HN:=ac H6.out.new
 clear H6
 go_wp2_with fail
 go_ret2
 exact⟨rfl,HN.out⟩
theorem xh (bb ll oo:Value) (d:RecD) (ho:d.ok) (hkd:d.kind=5) (hm:cF d=true) (w:World) (RB:bA w bb d.barred) (RL:cZ w ll d.lots) (RO:bA w oo d.owners):
  Calls prog 39 #[.agg (ae (d.toV bb ll oo))] w fun e w'=>e=.returned (.tuple #[.string (dp d),.int .i64 0])/\Below w.heap.size w w':=by
 have h:bu w (d.toV bb ll oo) d:=⟨bb,ll,oo,rfl,RB,RL,RO⟩
 have hi0:(prog.info? 49).map (·.size)=some (ae (d.toV bb ll oo)).size:=by rw[aj];kernel_rfl
 obtain⟨L,hL⟩:∃x,x=w.heap.size:=⟨_,rfl⟩
 obtain⟨w0,hw0⟩:∃z,z=w.alloc (.cells (ae (d.toV bb ll oo)) 49):=⟨_,rfl⟩
 have HN0:aa (Below w.heap.size w w0):=by rw[hw0];exact af _ _
 have HR0:aa (ah w0 L (d.toV bb ll oo)):=by rw[hw0,hL];exact ah.box _ _
 have HLw:aa (w.heap.size<=L):=Nat.le_of_eq hL.symm
 have H:=ac h
 have HO:=ac ho
 have HM:=ac hm
 have HKD:=ac hkd
 clear h ho hm hkd
 go_enter func39,ntmps39
 go_upto_region 1 with fail
 rw[<-hw0,<-hL]
 clear hw0 hL
 go_wp2_with (first | (refine wpList_load_row rfl _ _ rfl L rfl _ (ae (d.toV bb ll oo)) (0,0) _ HR0.out underlying49 rfl hi0 ?_) | fail)
 refine (iD (d.toV bb ll oo) d HO.out w0 (H.out.on HN0.out)).mono ?_
 rintro e w1 ⟨rfl,hb⟩
 rw[HM.out]
 have HR1:=ac (HR0.out.new hb)
 have HN1:=ac (HN0.out.trans (hb.mono HN0.out.size))
 clear hb hi0 HR0 HN0
 go_upto_region 4 with fail
 obtain⟨W,hW⟩:∃W,W=(w1.alloc (.cells #[.string ⟨#[]⟩] 120)).alloc (.cells #[.pointer (some ⟨w1.heap.size,0,none⟩)] 118):=⟨_,rfl⟩
 obtain⟨b,hb⟩:∃b,b=w1.heap.size:=⟨_,rfl⟩
 obtain⟨g,hg⟩:∃g,g=w1.heap.size + 1:=⟨_,rfl⟩
 have H0:aa (BS L b g (d.toV bb ll oo) [] w W):=by rw[hb,hg];exact BS.start HR1.out HN1.out HLw.out _ _ W hW
 clear HR1 HN1
 have RB:=ac RB
 have RL:=ac RL
 have RO:=ac RO
 clear H
 obtain⟨hr0,_⟩:=eK HM.out
 have hrt:=wQ HKD.out hr0
 have HT9:=HO.out.tick.2
 have HBS:=(gq HM.out HO.out).1
 have HL:aa (dA d=[5,d.round,d.state,d.winner + 1]++be 8 d.price++be 8 d.tick):=by rw[aa,dA,if_neg (by rw[HKD.out];decide),if_neg (by rw[HKD.out];decide),if_neg (by rw[HKD.out];decide),if_neg (by rw[HKD.out];decide),if_pos HKD.out]
 rw[HL.out] at HBS
 have HBS:=ac HBS
 clear hr0
 rw[<-hW,<-hg,<-hb]
 clear hW hg hb
 obtain⟨⟨t0,q1⟩,q2⟩:=hrt
 have q3:0<=d.state/\d.state<=4:=by omega
 have q4:-1<=d.winner/\d.winner<=7:=by omega
 have q5:=HO.out.price
 clear q2
 have cg:=H0.out.box
 have c0:W.cell? ⟨L,0,none⟩=some (.int .i64 5):=by rw[<-HKD.out];exact H0.out.record.kind
 go_wp2_with fail
 refine (cU H0.out [5] (Bs.cons (by omega) (Bs.nil)) (by simp[dE,cR,aR,bm] <;> omega) _ rfl _ _ rfl).mono ?_
 rintro e W1 ⟨rfl,hq⟩
 have H1:aa (BS L b g (d.toV bb ll oo) ([5]) w W1):=hq
 clear H0 hq cg c0
 have cg:=H1.out.box
 have c0:W1.cell? ⟨L,0,none⟩=some (.int .i64 5):=by rw[<-HKD.out];exact H1.out.record.kind
 have c1:W1.cell? ⟨L,1,none⟩=some (.int .i64 d.round):=H1.out.record.round
 go_wp2_with fail
 refine (cU H1.out [d.round] (Bs.cons (by omega) (Bs.nil)) (by simp[dE,cR,aR,bm] <;> omega) _ rfl _ _ rfl).mono ?_
 rintro e W2 ⟨rfl,hq⟩
 have H2:aa (BS L b g (d.toV bb ll oo) ([5]++[d.round]) w W2):=hq
 clear H1 hq cg c0 c1
 have cg:=H2.out.box
 have c0:W2.cell? ⟨L,0,none⟩=some (.int .i64 5):=by rw[<-HKD.out];exact H2.out.record.kind
 have c40:W2.cell? ⟨L,40,none⟩=some (.int .i64 d.state):=H2.out.record.state
 have c41:W2.cell? ⟨L,41,none⟩=some (.int .i64 d.winner):=H2.out.record.winner
 go_wp2_with fail
 refine (cU H2.out [d.state,d.winner + 1] (Bs.cons (by omega) (Bs.cons (by omega) (Bs.nil))) (by simp[dE,cR,aR,bm] <;> omega) _ rfl _ _ rfl).mono ?_
 rintro e W3 ⟨rfl,hq⟩
 have H3:aa (BS L b g (d.toV bb ll oo) ([5]++[d.round]++[d.state,d.winner + 1]) w W3):=hq
 clear H2 hq cg c0 c40 c41
 have cg:=H3.out.box
 have c0:W3.cell? ⟨L,0,none⟩=some (.int .i64 5):=by rw[<-HKD.out];exact H3.out.record.kind
 have c42:W3.cell? ⟨L,42,none⟩=some (.int .u64 d.price):=H3.out.record.price
 go_wp2_with fail
 refine (jg H3.out d.price (by omega) (by simp[aR] <;> omega)).mono ?_
 rintro e W4 ⟨rfl,hq⟩
 have H4:aa (BS L b g (d.toV bb ll oo) ([5]++[d.round]++[d.state,d.winner + 1]++be 8 d.price) w W4):=hq
 clear H3 hq cg c0 c42
 have cg:=H4.out.box
 have c0:W4.cell? ⟨L,0,none⟩=some (.int .i64 5):=by rw[<-HKD.out];exact H4.out.record.kind
 have c4:W4.cell? ⟨L,4,none⟩=some (.int .i64 d.tick):=H4.out.record.tick
 go_wp2_with fail
 refine (jg H4.out d.tick (by omega) (by simp[aR] <;> omega)).mono ?_
 rintro e W5 ⟨rfl,hq⟩
 have H5:aa (BS L b g (d.toV bb ll oo) ([5]++[d.round]++[d.state,d.winner + 1]++be 8 d.price++be 8 d.tick) w W5):=hq
 clear H4 hq cg c0 c4
 have cg:=H5.out.box
 have c0:W5.cell? ⟨L,0,none⟩=some (.int .i64 5):=by rw[<-HKD.out];exact H5.out.record.kind
 have cw:W5.cell? ⟨b,0,none⟩=some (.string (dp d)):=by rw[dp,HL.out];exact H5.out.wr.cell
 have HN:=ac H5.out.new
 clear H5
 go_wp2_with fail
 go_ret2
 exact⟨rfl,HN.out⟩
theorem xi (bb ll oo:Value) (d:RecD) (ho:d.ok) (hkd:d.kind=6) (hm:cF d=true) (w:World) (RB:bA w bb d.barred) (RL:cZ w ll d.lots) (RO:bA w oo d.owners):
  Calls prog 39 #[.agg (ae (d.toV bb ll oo))] w fun e w'=>e=.returned (.tuple #[.string (dp d),.int .i64 0])/\Below w.heap.size w w':=by
 have h:bu w (d.toV bb ll oo) d:=⟨bb,ll,oo,rfl,RB,RL,RO⟩
 have hi0:(prog.info? 49).map (·.size)=some (ae (d.toV bb ll oo)).size:=by rw[aj];kernel_rfl
 obtain⟨L,hL⟩:∃x,x=w.heap.size:=⟨_,rfl⟩
 obtain⟨w0,hw0⟩:∃z,z=w.alloc (.cells (ae (d.toV bb ll oo)) 49):=⟨_,rfl⟩
 have HN0:aa (Below w.heap.size w w0):=by rw[hw0];exact af _ _
 have HR0:aa (ah w0 L (d.toV bb ll oo)):=by rw[hw0,hL];exact ah.box _ _
 have HLw:aa (w.heap.size<=L):=Nat.le_of_eq hL.symm
 have H:=ac h
 have HO:=ac ho
 have HM:=ac hm
 have HKD:=ac hkd
 clear h ho hm hkd
 go_enter func39,ntmps39
 go_upto_region 1 with fail
 rw[<-hw0,<-hL]
 clear hw0 hL
 go_wp2_with (first | (refine wpList_load_row rfl _ _ rfl L rfl _ (ae (d.toV bb ll oo)) (0,0) _ HR0.out underlying49 rfl hi0 ?_) | fail)
 refine (iD (d.toV bb ll oo) d HO.out w0 (H.out.on HN0.out)).mono ?_
 rintro e w1 ⟨rfl,hb⟩
 rw[HM.out]
 have HR1:=ac (HR0.out.new hb)
 have HN1:=ac (HN0.out.trans (hb.mono HN0.out.size))
 clear hb hi0 HR0 HN0
 go_upto_region 4 with fail
 obtain⟨W,hW⟩:∃W,W=(w1.alloc (.cells #[.string ⟨#[]⟩] 120)).alloc (.cells #[.pointer (some ⟨w1.heap.size,0,none⟩)] 118):=⟨_,rfl⟩
 obtain⟨b,hb⟩:∃b,b=w1.heap.size:=⟨_,rfl⟩
 obtain⟨g,hg⟩:∃g,g=w1.heap.size + 1:=⟨_,rfl⟩
 have H0:aa (BS L b g (d.toV bb ll oo) [] w W):=by rw[hb,hg];exact BS.start HR1.out HN1.out HLw.out _ _ W hW
 clear HR1 HN1
 have RB:=ac RB
 have RL:=ac RL
 have RO:=ac RO
 clear H
 obtain⟨hr0,_⟩:=eK HM.out
 have hrt:=Aw HKD.out hr0
 have HT9:=HO.out.tick.2
 have HBS:=(gq HM.out HO.out).1
 have HL:aa (dA d=[6]++be 8 d.tick):=by rw[aa,dA,if_neg (by rw[HKD.out];decide),if_neg (by rw[HKD.out];decide),if_neg (by rw[HKD.out];decide),if_neg (by rw[HKD.out];decide),if_neg (by rw[HKD.out];decide)]
 rw[HL.out] at HBS
 have HBS:=ac HBS
 clear hr0
 rw[<-hW,<-hg,<-hb]
 clear hW hg hb
 obtain⟨⟨t0,q1⟩,q2⟩:=hrt
 clear q2
 have cg:=H0.out.box
 have c0:W.cell? ⟨L,0,none⟩=some (.int .i64 6):=by rw[<-HKD.out];exact H0.out.record.kind
 go_wp2_with fail
 refine (cU H0.out [6] (Bs.cons (by omega) (Bs.nil)) (by simp[dE,cR,aR,bm] <;> omega) _ rfl _ _ rfl).mono ?_
 rintro e W1 ⟨rfl,hq⟩
 have H1:aa (BS L b g (d.toV bb ll oo) ([6]) w W1):=hq
 clear H0 hq cg c0
 have cg:=H1.out.box
 have c0:W1.cell? ⟨L,0,none⟩=some (.int .i64 6):=by rw[<-HKD.out];exact H1.out.record.kind
 have c4:W1.cell? ⟨L,4,none⟩=some (.int .i64 d.tick):=H1.out.record.tick
 go_wp2_with fail
 refine (jg H1.out d.tick (by omega) (by simp[aR] <;> omega)).mono ?_
 rintro e W2 ⟨rfl,hq⟩
 have H2:aa (BS L b g (d.toV bb ll oo) ([6]++be 8 d.tick) w W2):=hq
 clear H1 hq cg c0 c4
 have cg:=H2.out.box
 have c0:W2.cell? ⟨L,0,none⟩=some (.int .i64 6):=by rw[<-HKD.out];exact H2.out.record.kind
 have cw:W2.cell? ⟨b,0,none⟩=some (.string (dp d)):=by rw[dp,HL.out];exact H2.out.wr.cell
 have HN:=ac H2.out.new
 clear H2
 go_wp2_with fail
 go_ret2
 exact⟨rfl,HN.out⟩
def j3 (d:RecD):ByteArray × Int:=if cF d=true then (dp d,0) else (⟨#[]⟩,15)
theorem xj (rv:RecV) (d:RecD) (ho:d.ok) (hm:cF d=false) (w:World) (h:bu w rv d):
  Calls prog 39 #[.agg (ae rv)] w fun e w'=>e=.returned (.tuple #[.string ⟨#[]⟩,.int .i64 15])/\Below w.heap.size w w':=by
 have hi0:(prog.info? 49).map (·.size)=some (ae rv).size:=by rw[aj];kernel_rfl
 obtain⟨L,hL⟩:∃x,x=w.heap.size:=⟨_,rfl⟩
 obtain⟨w0,hw0⟩:∃z,z=w.alloc (.cells (ae rv) 49):=⟨_,rfl⟩
 have HN0:aa (Below w.heap.size w w0):=by rw[hw0];exact af _ _
 have HR0:aa (ah w0 L rv):=by rw[hw0,hL];exact ah.box _ _
 have H:=ac h
 have HO:=ac ho
 have HM:=ac hm
 clear h ho hm
 go_enter func39,ntmps39
 go_upto_region 1 with fail
 rw[<-hw0,<-hL]
 clear hw0 hL
 go_wp2_with (first | (refine wpList_load_row rfl _ _ rfl L rfl _ (ae rv) (0,0) _ HR0.out underlying49 rfl hi0 ?_) | fail)
 refine (iD rv d HO.out w0 (H.out.on HN0.out)).mono ?_
 rintro e w1 ⟨rfl,hb⟩
 rw[HM.out]
 have HN1:=ac (HN0.out.trans (hb.mono HN0.out.size))
 clear hb hi0 HR0 HN0
 go_wp2_with fail
 go_ret2
 exact⟨rfl,HN1.out⟩
theorem uB (rv:RecV) (d:RecD) (ho:d.ok) (w:World) (h:bu w rv d):
  Calls prog 39 #[.agg (ae rv)] w fun e w'=>e=.returned (.tuple #[.string (j3 d).1,.int .i64 (j3 d).2])/\Below w.heap.size w w':=by
 unfold j3
 by_cases hm:cF d=true
 ·rw[if_pos hm]
  obtain⟨b,l,o,rfl,RB,RL,RO⟩:=h
  have hk:=dW hm
  have h6:d.kind=1\/d.kind=2\/d.kind=3\/d.kind=4\/d.kind=5\/d.kind=6:=by omega
  rcases h6 with e | e | e | e | e | e
  ·exact xd b l o d ho e hm w RB RL RO
  ·exact xe b l o d ho e hm w RB RL RO
  ·exact xf b l o d ho e hm w RB RL RO
  ·exact xg b l o d ho e hm w RB RL RO
  ·exact xh b l o d ho e hm w RB RL RO
  ·exact xi b l o d ho e hm w RB RL RO
 ·rw[if_neg hm]
  exact xj rv d ho (by simpa using hm) w h
theorem ib {α:Type} (z:α) {xs ys:List α} (hl:xs.length=ys.length) (h:∀j,j<xs.length->xs.getD j z=ys.getD j z):xs=ys:=by
 apply List.ext_getElem hl
 intro i h1 h2
 have:=h i h1
 rw[List.getD_eq_getElem?_getD,List.getD_eq_getElem?_getD,List.getElem?_eq_getElem h1,List.getElem?_eq_getElem h2] at this
 exact this
theorem oM (v1 v2:Value) (xs ys:List Int) (hx:xs.length<=1099511627776) (hy:ys.length<=1099511627776) (w:World) (h1:bA w v1 xs) (h2:bA w v2 ys):
  Calls prog 110 #[v1,v2] w fun e w'=>e=.returned (.bool (decide (xs=ys)))/\Below w.heap.size w w':=by
 have H1:=ac h1
 have H2:=ac h2
 obtain⟨a1,c1,rfl,hc1,_⟩:=h1
 obtain⟨a2,c2,rfl,hc2,_⟩:=h2
 obtain⟨n,hn⟩:∃n,n=xs.length:=⟨_,rfl⟩
 obtain⟨m,hm⟩:∃m,m=ys.length:=⟨_,rfl⟩
 rw[<-hn] at hx hc1 ⊢
 rw[<-hm] at hy hc2 ⊢
 have HN:=ac hn
 have HM:=ac hm
 clear hn hm
 go_enter func110,ntmps110
 by_cases hnm:n=m
 case neg=>
  have HR:aa (decide (xs=ys)=false):=decide_eq_false (fun e=>hnm (by rw[HN.out,HM.out,e]))
  have e1:((n:Int) !=m)=true:=by simp;omega
  clear hnm
  go_wp2_with fail
  go_ret
  exact⟨by rw[HR.out];rfl,Below.refl _ _⟩
 subst hnm
 go_wp2_with fail
 go_loopg [5] n (fun g v5 wr=>∃k:Nat,k<=n/\v5=.int .i64 k/\n - k<=g/\aa (∀ j,j<k->xs.getD j 0=ys.getD j 0)/\aa (Below w.heap.size w wr))
 case atStart=>exact⟨0,by omega,rfl,by omega,fun j h=>by omega,Below.refl _ _⟩
 case round=>
  obtain⟨k,hk,rfl,hg,HA,HB⟩:=hrel
  by_cases hlt:k<n
  ·have hki:(k:Int)<n:=by omega
   have HME:aa (∀ q,n - k<=q->n - (k + 1)<q):=fun q h=>by omega
   obtain⟨a',cap',e,_,hj0⟩:=H1.out
   obtain⟨lb,lo,ea,hlb,hj⟩:=hj0 (by have:=HN.out;omega)
   obtain⟨ea2,_,ec2⟩:=Value.slice.inj e
   subst ec2
   rw[ea] at ea2
   subst ea2
   have c0:=(HB.out.cell (p:=⟨lb,lo + k,none⟩) hlb).trans (hj k (by rw[<-HN.out];exact hlt))
   obtain⟨a'',cap'',e',_,hj0'⟩:=H2.out
   obtain⟨lb',lo',ea',hlb',hj'⟩:=hj0' (by have:=HM.out;omega)
   obtain⟨ea2',_,ec2'⟩:=Value.slice.inj e'
   subst ec2'
   rw[ea'] at ea2'
   subst ea2'
   have c0':=(HB.out.cell (p:=⟨lb',lo' + k,none⟩) hlb').trans (hj' k (by rw[<-HM.out];exact hlt))
   obtain⟨x,hxk⟩:∃x,x=xs.getD k 0:=⟨_,rfl⟩
   obtain⟨y,hyk⟩:∃y,y=ys.getD k 0:=⟨_,rfl⟩
   rw[<-hxk] at c0
   rw[<-hyk] at c0'
   have HX:=ac hxk
   have HY:=ac hyk
   clear hj0 hj hj0' hj' hxk hyk e e' ea ea'
   by_cases hxy:x=y
   ·have e1:(x !=y)=false:=by simpa using hxy
    have HA2:aa (∀ j,j<k + 1->xs.getD j 0=ys.getD j 0):=by
     intro j hj
     by_cases ej:j=k
     ·rw[ej,<-HX.out,<-HY.out,hxy]
     ·exact HA.out j (by omega)
    clear hxy HA
    go_wp2_with fail
    go_quiet (fail)
    go_wp2_with fail
    go_roundg (n - (k + 1))
    case measure=>exact HME.out _ hg
    case rel=>exact⟨k + 1,hlt,by go_num,Nat.le_refl _,HA2,HB.out.trans ((ay _ _).mono HB.out.size)⟩
   ·have e1:(x !=y)=true:=by simpa using hxy
    have HR:aa (decide (xs=ys)=false):=decide_eq_false (fun e=>hxy (by rw[HX.out,HY.out,e]))
    clear hxy HA
    go_wp2_with fail
    go_quiet (fail)
    go_wp2_with fail
    go_ret
    exact⟨by rw[HR.out];rfl,HB.out.trans ((ay _ _).mono HB.out.size)⟩
  ·have hki:¬(k:Int)<n:=by omega
   have hkn:k=n:=by omega
   have HR:aa (decide (xs=ys)=true):=decide_eq_true (ib 0 (by rw[<-HN.out,<-HM.out]) (fun j hj=>HA.out j (by rw[hkn,HN.out];exact hj)))
   clear hkn hlt HA hg
   go_wp2_with fail
   go_ret
   exact⟨by rw[HR.out];rfl,HB.out⟩
theorem Tryz.structLot:prog.underlying 63=some (.struct (prog.fieldsOf 63)):=by kernel_rfl
theorem Tryz.heldLot:prog.stoodInHeld 63=false:=by kernel_rfl
theorem Ax (a b x y:Int):∀(w:World),(binOp .neq 63 (.agg #[.int .i64 a,.int .i64 b]) (.agg #[.int .i64 x,.int .i64 y])).run prog w=.ok (.bool (!(a==x &&b==y))) w:=by
 intro w
 have u3:=underlying3
 have a3:=Tryz.isAgg3
 have z3:=Tryz.sizeOf3
 rw[run_neq_struct,show (10000:Nat)=9999 + 1 from rfl,run_equalIn_agg w 9999 63 _ _ Tryz.structLot Tryz.heldLot]
 simp only[Program.fieldsOf,underlying63]
 go_simp
 by_cases h1:a=x <;> by_cases h2:b=y <;> simp[h1,h2]
theorem uC (v1 v2:Value) (xs ys:List (Int × Int)) (hx:xs.length<=1099511627776) (hy:ys.length<=1099511627776) (w:World) (h1:cZ w v1 xs) (h2:cZ w v2 ys):
  Calls prog 111 #[v1,v2] w fun e w'=>e=.returned (.bool (decide (xs=ys)))/\Below w.heap.size w w':=by
 have H1:=ac h1
 have H2:=ac h2
 obtain⟨a1,c1,rfl,hc1,_⟩:=h1
 obtain⟨a2,c2,rfl,hc2,_⟩:=h2
 obtain⟨n,hn⟩:∃n,n=xs.length:=⟨_,rfl⟩
 obtain⟨m,hm⟩:∃m,m=ys.length:=⟨_,rfl⟩
 rw[<-hn] at hx hc1 ⊢
 rw[<-hm] at hy hc2 ⊢
 have HN:=ac hn
 have HM:=ac hm
 clear hn hm
 go_enter func111,ntmps111
 by_cases hnm:n=m
 case neg=>
  have HR:aa (decide (xs=ys)=false):=decide_eq_false (fun e=>hnm (by rw[HN.out,HM.out,e]))
  have e1:((n:Int) !=m)=true:=by simp;omega
  clear hnm
  go_wp2_with fail
  go_ret
  exact⟨by rw[HR.out];rfl,Below.refl _ _⟩
 subst hnm
 go_wp2_with fail
 go_loopg [5] n (fun g v5 wr=>∃k:Nat,k<=n/\v5=.int .i64 k/\n - k<=g/\aa (∀ j,j<k->xs.getD j (0,0)=ys.getD j (0,0))/\aa (Below w.heap.size w wr))
 case atStart=>exact⟨0,by omega,rfl,by omega,fun j h=>by omega,Below.refl _ _⟩
 case round=>
  obtain⟨k,hk,rfl,hg,HA,HB⟩:=hrel
  by_cases hlt:k<n
  ·have hki:(k:Int)<n:=by omega
   have HME:aa (∀ q,n - k<=q->n - (k + 1)<q):=fun q h=>by omega
   obtain⟨a',cap',e,_,hj0⟩:=H1.out
   obtain⟨lb,lo,ea,hlb,hj⟩:=hj0 (by have:=HN.out;omega)
   obtain⟨ea2,_,ec2⟩:=Value.slice.inj e
   subst ec2
   rw[ea] at ea2
   subst ea2
   have hjk:=hj k (by rw[<-HN.out];exact hlt)
   have c0:=(HB.out.cell (p:=⟨lb,lo + k * 2,none⟩) hlb).trans hjk.1
   have c1':=(HB.out.cell (p:=⟨lb,lo + k * 2 + 1,none⟩) hlb).trans hjk.2
   obtain⟨a'',cap'',e',_,hj0'⟩:=H2.out
   obtain⟨lb',lo',ea',hlb',hj'⟩:=hj0' (by have:=HM.out;omega)
   obtain⟨ea2',_,ec2'⟩:=Value.slice.inj e'
   subst ec2'
   rw[ea'] at ea2'
   subst ea2'
   have hjk':=hj' k (by rw[<-HM.out];exact hlt)
   have c0':=(HB.out.cell (p:=⟨lb',lo' + k * 2,none⟩) hlb').trans hjk'.1
   have c1'':=(HB.out.cell (p:=⟨lb',lo' + k * 2 + 1,none⟩) hlb').trans hjk'.2
   obtain⟨x,hxk⟩:∃x,x=xs.getD k (0,0):=⟨_,rfl⟩
   obtain⟨y,hyk⟩:∃y,y=ys.getD k (0,0):=⟨_,rfl⟩
   rw[<-hxk] at c0 c1'
   rw[<-hyk] at c0' c1''
   have HX:=ac hxk
   have HY:=ac hyk
   clear hj0 hj hj0' hj' hxk hyk e e' ea ea' hjk hjk'
   obtain⟨x1,x2⟩:=x
   obtain⟨y1,y2⟩:=y
   have hne:=Ax x1 x2 y1 y2
   by_cases hxy:(x1,x2)=(y1,y2)
   ·have e1:(!(x1==y1 &&x2==y2))=false:=by rw[Prod.mk.injEq] at hxy;simp[hxy.1,hxy.2]
    rw[e1] at hne
    clear e1
    have HA2:aa (∀ j,j<k + 1->xs.getD j (0,0)=ys.getD j (0,0)):=by
     intro j hj
     by_cases ej:j=k
     ·rw[ej,<-HX.out,<-HY.out,hxy]
     ·exact HA.out j (by omega)
    clear hxy HA
    go_wp2_with fail
    go_quiet (fail)
    go_wp2_with fail
    go_roundg (n - (k + 1))
    case measure=>exact HME.out _ hg
    case rel=>exact⟨k + 1,hlt,by go_num,Nat.le_refl _,HA2,HB.out.trans ((ay _ _).mono HB.out.size)⟩
   ·have e1:(!(x1==y1 &&x2==y2))=true:=by rw[Prod.mk.injEq] at hxy;by_cases q1:x1=y1 <;> by_cases q2:x2=y2 <;> simp_all
    rw[e1] at hne
    clear e1
    have HR:aa (decide (xs=ys)=false):=decide_eq_false (fun e=>hxy (by rw[HX.out,HY.out,e]))
    clear hxy HA
    go_wp2_with fail
    go_quiet (fail)
    go_wp2_with fail
    go_ret
    exact⟨by rw[HR.out];rfl,HB.out.trans ((ay _ _).mono HB.out.size)⟩
  ·have hki:¬(k:Int)<n:=by omega
   have hkn:k=n:=by omega
   have HR:aa (decide (xs=ys)=true):=decide_eq_true (ib (0,0) (by rw[<-HN.out,<-HM.out]) (fun j hj=>HA.out j (by rw[hkn,HN.out];exact hj)))
   clear hkn hlt HA hg
   go_wp2_with fail
   go_ret
   exact⟨by rw[HR.out];rfl,HB.out⟩
def mv (d e:RecD):Bool:=(d.kind==e.kind) &&((d.round==e.round) &&((d.lot==e.lot) &&((d.carrier==e.carrier) &&((d.tick==e.tick) &&(decide (∀ j∈List.range 32,d.dig.getD j 0=e.dig.getD j 0) &&((d.bid==e.bid) &&((d.nonce==e.nonce) &&(d.state==e.state &&(d.winner==e.winner &&d.price==e.price)))))))))
def eM (d e:RecD):Bool:=(d.carriers==e.carriers) &&((d.commit==e.commit) &&((d.reveal==e.reveal) &&((d.scheme==e.scheme) &&(decide (d.barred=e.barred) &&(decide (d.lots=e.lots) &&decide (d.owners=e.owners))))))
theorem y5 (d e:RecD) (hd:d.dig.length=32) (he:e.dig.length=32):decide (d=e)=(mv d e &&eM d e):=by
 rw[Bool.eq_iff_iff]
 simp only[mv,eM,Bool.and_eq_true,decide_eq_true_eq,beq_iff_eq]
 constructor
 ·rintro rfl
  simp
 ·rintro⟨⟨h1,h2,h3,h4,h5,h6,h7,h8,h9,h10,h11⟩,h12,h13,h14,h15,h16,h17,h18⟩
  have hg:d.dig=e.dig:=ib 0 (by rw[hd,he]) (fun j hj=>h6 j (List.mem_range.2 (by omega)))
  cases d
  cases e
  simp_all
theorem xk (rv rv':RecV) (d e:RecD) (hd:d.dig.length=32) (he:e.dig.length=32) (hdr:d.barred.length + d.lots.length + d.owners.length<=1099511627776) (her:e.barred.length + e.lots.length + e.owners.length<=1099511627776) (w:World) (h1:bu w rv d) (h2:bu w rv' e):
  Calls prog 84 #[.agg (ae rv),.agg (ae rv')] w fun x w'=>x=.returned (.bool (decide (d=e)))/\Below w.heap.size w w':=by
 rw[y5 d e hd he]
 obtain⟨b1,l1,o1,rfl,hb1,hl1,ho1⟩:=h1
 obtain⟨b2,l2,o2,rfl,hb2,hl2,ho2⟩:=h2
 obtain⟨A,hA⟩:∃x,x=w.heap.size:=⟨_,rfl⟩
 obtain⟨B,hB⟩:∃x,x=w.heap.size + 1:=⟨_,rfl⟩
 obtain⟨w2,hw2⟩:∃z,z=(w.alloc (.cells (ae (d.toV b1 l1 o1)) 49)).alloc (.cells (ae (e.toV b2 l2 o2)) 49):=⟨_,rfl⟩
 have hn:=af (w.alloc (.cells (ae (d.toV b1 l1 o1)) 49)) (.cells (ae (e.toV b2 l2 o2)) 49)
 have HN2:aa (Below w.heap.size w w2):=by rw[hw2];exact aD (af _ _) (af _ _)
 have HA:aa (ah w2 A (d.toV b1 l1 o1)):=by rw[hw2,hA];exact (ah.box w _).new hn
 have HB:aa (ah w2 B (e.toV b2 l2 o2)):=by
  have:=ah.box (w.alloc (.cells (ae (d.toV b1 l1 o1)) 49)) (e.toV b2 l2 o2)
  rw[aa,hw2,hB]
  simpa using this
 have HB1:=ac (hb1.on HN2.out)
 have HL1:=ac (hl1.on HN2.out)
 have HO1:=ac (ho1.on HN2.out)
 have HB2:=ac (hb2.on HN2.out)
 have HL2:=ac (hl2.on HN2.out)
 have HO2:=ac (ho2.on HN2.out)
 have HDR:=ac hdr
 have HER:=ac her
 obtain⟨ds,hds⟩:∃ds:Array Value,((List.range 32).map fun j=>Value.int .u8 (d.dig.getD j 0)).toArray=ds:=⟨_,rfl⟩
 obtain⟨es,hes⟩:∃es:Array Value,((List.range 32).map fun j=>Value.int .u8 (e.dig.getD j 0)).toArray=es:=⟨_,rfl⟩
 have heq:∀W,(binOp .eql 43 (.agg ds) (.agg es)).run prog W=.ok (.bool (decide (∀ j∈List.range 32,d.dig.getD j 0=e.dig.getD j 0))) W:=by
  intro W
  rw[<-hds,<-hes]
  exact tG _ _ (fun j=>d.dig.getD j 0) (fun j=>e.dig.getD j 0) (lw _) (lw _) W
 have heo:=fun W=>Ab d.state d.winner d.price e.state e.winner e.price W
 have HGA:aa (w2.rangeAt A 6 ((List.range 32).map fun j=>Value.int .u8 (d.dig.getD j 0))):=HA.out.digRange
 have HGB:aa (w2.rangeAt B 6 ((List.range 32).map fun j=>Value.int .u8 (e.dig.getD j 0))):=HB.out.digRange
 have HDS:=ac hds
 have HES:=ac hes
 have HAB:aa (A≠B):=by rw[aa];omega
 obtain⟨O,hO⟩:∃O:Bool,O=mv d e:=⟨_,rfl⟩
 rw[<-hO]
 have HO:=ac hO
 clear hb1 hl1 ho1 hb2 hl2 ho2 hdr her hds hes hd he hn hO
 go_enter func84,ntmps84
 go_upto_region 1 with fail
 rw[<-hw2,<-hB,<-hA]
 clear hw2 hB hA
 go_cut [5] (fun s5 wx=>s5=.bool O/\wx=w2)
 case first=>
  have a0:w2.cell? ⟨A,0,none⟩=some (.int .i64 d.kind):=HA.out.kind
  have b0:w2.cell? ⟨B,0,none⟩=some (.int .i64 e.kind):=HB.out.kind
  have a1:w2.cell? ⟨A,1,none⟩=some (.int .i64 d.round):=HA.out.round
  have b1:w2.cell? ⟨B,1,none⟩=some (.int .i64 e.round):=HB.out.round
  have a2:w2.cell? ⟨A,2,none⟩=some (.int .i64 d.lot):=HA.out.lot
  have b2:w2.cell? ⟨B,2,none⟩=some (.int .i64 e.lot):=HB.out.lot
  have a3:w2.cell? ⟨A,3,none⟩=some (.int .i64 d.carrier):=HA.out.carrier
  have b3:w2.cell? ⟨B,3,none⟩=some (.int .i64 e.carrier):=HB.out.carrier
  have a4:w2.cell? ⟨A,4,none⟩=some (.int .i64 d.tick):=HA.out.tick
  have b4:w2.cell? ⟨B,4,none⟩=some (.int .i64 e.tick):=HB.out.tick
  have a38:w2.cell? ⟨A,38,none⟩=some (.int .u64 d.bid):=HA.out.bid
  have b38:w2.cell? ⟨B,38,none⟩=some (.int .u64 e.bid):=HB.out.bid
  have a39:w2.cell? ⟨A,39,none⟩=some (.int .u64 d.nonce):=HA.out.nonce
  have b39:w2.cell? ⟨B,39,none⟩=some (.int .u64 e.nonce):=HB.out.nonce
  have a40:w2.cell? ⟨A,40,none⟩=some (.int .i64 d.state):=HA.out.state
  have b40:w2.cell? ⟨B,40,none⟩=some (.int .i64 e.state):=HB.out.state
  have a41:w2.cell? ⟨A,41,none⟩=some (.int .i64 d.winner):=HA.out.winner
  have b41:w2.cell? ⟨B,41,none⟩=some (.int .i64 e.winner):=HB.out.winner
  have a42:w2.cell? ⟨A,42,none⟩=some (.int .u64 d.price):=HA.out.price
  have b42:w2.cell? ⟨B,42,none⟩=some (.int .u64 e.price):=HB.out.price
  obtain⟨q0,hq0⟩:∃q:Bool,(d.kind==e.kind)=q:=⟨_,rfl⟩
  obtain⟨q1,hq1⟩:∃q:Bool,(d.round==e.round)=q:=⟨_,rfl⟩
  obtain⟨q2,hq2⟩:∃q:Bool,(d.lot==e.lot)=q:=⟨_,rfl⟩
  obtain⟨q3,hq3⟩:∃q:Bool,(d.carrier==e.carrier)=q:=⟨_,rfl⟩
  obtain⟨q4,hq4⟩:∃q:Bool,(d.tick==e.tick)=q:=⟨_,rfl⟩
  obtain⟨q5,hq5⟩:∃q:Bool,decide (∀ j∈List.range 32,d.dig.getD j 0=e.dig.getD j 0)=q:=⟨_,rfl⟩
  obtain⟨q6,hq6⟩:∃q:Bool,(d.bid==e.bid)=q:=⟨_,rfl⟩
  obtain⟨q7,hq7⟩:∃q:Bool,(d.nonce==e.nonce)=q:=⟨_,rfl⟩
  obtain⟨q8,hq8⟩:∃q:Bool,(d.state==e.state &&(d.winner==e.winner &&d.price==e.price))=q:=⟨_,rfl⟩
  have HE:aa (O=(q0 &&(q1 &&(q2 &&(q3 &&(q4 &&(q5 &&(q6 &&(q7 &&q8))))))))):=by rw[aa,HO.out,mv,hq0,hq1,hq2,hq3,hq4,hq5,hq6,hq7,hq8]
  rw[hq5] at heq
  simp only[hq8] at heo
  clear hq5 hq8
  cases q0 with
  | false=>
   have HQ:aa (O=false):=by rw[aa,HE.out];rfl
   go_wp2_with (first
    | (refine aG (by rfl) _ _ rfl A 6 rfl _ _ HGA.out underlying43 rfl (by kernel_rfl) ds HDS.out ?_)
    | (refine aG (by rfl) _ _ rfl B 6 rfl _ _ HGB.out underlying43 rfl (by kernel_rfl) es HES.out ?_)
    | fail)
   go_meet
   case rel=>exact⟨by rw[HQ.out],rfl⟩
  | true=>
   cases q1 with
   | false=>
    have HQ:aa (O=false):=by rw[aa,HE.out];rfl
    go_wp2_with (first
     | (refine aG (by rfl) _ _ rfl A 6 rfl _ _ HGA.out underlying43 rfl (by kernel_rfl) ds HDS.out ?_)
     | (refine aG (by rfl) _ _ rfl B 6 rfl _ _ HGB.out underlying43 rfl (by kernel_rfl) es HES.out ?_)
     | fail)
    go_meet
    case rel=>exact⟨by rw[HQ.out],rfl⟩
   | true=>
    cases q2 with
    | false=>
     have HQ:aa (O=false):=by rw[aa,HE.out];rfl
     go_wp2_with (first
      | (refine aG (by rfl) _ _ rfl A 6 rfl _ _ HGA.out underlying43 rfl (by kernel_rfl) ds HDS.out ?_)
      | (refine aG (by rfl) _ _ rfl B 6 rfl _ _ HGB.out underlying43 rfl (by kernel_rfl) es HES.out ?_)
      | fail)
     go_meet
     case rel=>exact⟨by rw[HQ.out],rfl⟩
    | true=>
     cases q3 with
     | false=>
      have HQ:aa (O=false):=by rw[aa,HE.out];rfl
      go_wp2_with (first
       | (refine aG (by rfl) _ _ rfl A 6 rfl _ _ HGA.out underlying43 rfl (by kernel_rfl) ds HDS.out ?_)
       | (refine aG (by rfl) _ _ rfl B 6 rfl _ _ HGB.out underlying43 rfl (by kernel_rfl) es HES.out ?_)
       | fail)
      go_meet
      case rel=>exact⟨by rw[HQ.out],rfl⟩
     | true=>
      cases q4 with
      | false=>
       have HQ:aa (O=false):=by rw[aa,HE.out];rfl
       go_wp2_with (first
        | (refine aG (by rfl) _ _ rfl A 6 rfl _ _ HGA.out underlying43 rfl (by kernel_rfl) ds HDS.out ?_)
        | (refine aG (by rfl) _ _ rfl B 6 rfl _ _ HGB.out underlying43 rfl (by kernel_rfl) es HES.out ?_)
        | fail)
       go_meet
       case rel=>exact⟨by rw[HQ.out],rfl⟩
      | true=>
       cases q5 with
       | false=>
        have HQ:aa (O=false):=by rw[aa,HE.out];rfl
        go_wp2_with (first
         | (refine aG (by rfl) _ _ rfl A 6 rfl _ _ HGA.out underlying43 rfl (by kernel_rfl) ds HDS.out ?_)
         | (refine aG (by rfl) _ _ rfl B 6 rfl _ _ HGB.out underlying43 rfl (by kernel_rfl) es HES.out ?_)
         | fail)
        go_meet
        case rel=>exact⟨by rw[HQ.out],rfl⟩
       | true=>
        cases q6 with
        | false=>
         have HQ:aa (O=false):=by rw[aa,HE.out];rfl
         go_wp2_with (first
          | (refine aG (by rfl) _ _ rfl A 6 rfl _ _ HGA.out underlying43 rfl (by kernel_rfl) ds HDS.out ?_)
          | (refine aG (by rfl) _ _ rfl B 6 rfl _ _ HGB.out underlying43 rfl (by kernel_rfl) es HES.out ?_)
          | fail)
         go_meet
         case rel=>exact⟨by rw[HQ.out],rfl⟩
        | true=>
         cases q7 with
         | false=>
          have HQ:aa (O=false):=by rw[aa,HE.out];rfl
          go_wp2_with (first
           | (refine aG (by rfl) _ _ rfl A 6 rfl _ _ HGA.out underlying43 rfl (by kernel_rfl) ds HDS.out ?_)
           | (refine aG (by rfl) _ _ rfl B 6 rfl _ _ HGB.out underlying43 rfl (by kernel_rfl) es HES.out ?_)
           | fail)
          go_meet
          case rel=>exact⟨by rw[HQ.out],rfl⟩
         | true=>
          have HQ:aa (O=q8):=by rw[aa,HE.out];simp
          go_wp2_with (first
           | (refine aG (by rfl) _ _ rfl A 6 rfl _ _ HGA.out underlying43 rfl (by kernel_rfl) ds HDS.out ?_)
           | (refine aG (by rfl) _ _ rfl B 6 rfl _ _ HGB.out underlying43 rfl (by kernel_rfl) es HES.out ?_)
           | fail)
          go_meet
          case rel=>exact⟨by rw[HQ.out],rfl⟩
 case rest=>
  obtain⟨rfl,rfl⟩:=hcut
  clear heq heo HGA HGB HDS HES
  cases O with
  | false=>
   go_wp2_with fail
   go_ret
   exact⟨rfl,HN2.out⟩
  | true=>
   have a43:wc.cell? ⟨A,43,none⟩=some (.int .i64 d.carriers):=HA.out.carriers
   have b43:wc.cell? ⟨B,43,none⟩=some (.int .i64 e.carriers):=HB.out.carriers
   have a44:wc.cell? ⟨A,44,none⟩=some (.int .i64 d.commit):=HA.out.commit
   have b44:wc.cell? ⟨B,44,none⟩=some (.int .i64 e.commit):=HB.out.commit
   have a45:wc.cell? ⟨A,45,none⟩=some (.int .i64 d.reveal):=HA.out.reveal
   have b45:wc.cell? ⟨B,45,none⟩=some (.int .i64 e.reveal):=HB.out.reveal
   have a46:wc.cell? ⟨A,46,none⟩=some (.int .i64 d.scheme):=HA.out.scheme
   have b46:wc.cell? ⟨B,46,none⟩=some (.int .i64 e.scheme):=HB.out.scheme
   have a5:wc.cell? ⟨A,5,none⟩=some b1:=HA.out.barred
   have b5:wc.cell? ⟨B,5,none⟩=some b2:=HB.out.barred
   have a47:wc.cell? ⟨A,47,none⟩=some l1:=HA.out.lots
   have b47:wc.cell? ⟨B,47,none⟩=some l2:=HB.out.lots
   have a48:wc.cell? ⟨A,48,none⟩=some o1:=HA.out.owners
   have b48:wc.cell? ⟨B,48,none⟩=some o2:=HB.out.owners
   obtain⟨q0,hq0⟩:∃q:Bool,(d.carriers==e.carriers)=q:=⟨_,rfl⟩
   obtain⟨q1,hq1⟩:∃q:Bool,(d.commit==e.commit)=q:=⟨_,rfl⟩
   obtain⟨q2,hq2⟩:∃q:Bool,(d.reveal==e.reveal)=q:=⟨_,rfl⟩
   obtain⟨q3,hq3⟩:∃q:Bool,(d.scheme==e.scheme)=q:=⟨_,rfl⟩
   obtain⟨q4,hq4⟩:∃q:Bool,decide (d.barred=e.barred)=q:=⟨_,rfl⟩
   obtain⟨q5,hq5⟩:∃q:Bool,decide (d.lots=e.lots)=q:=⟨_,rfl⟩
   obtain⟨q6,hq6⟩:∃q:Bool,decide (d.owners=e.owners)=q:=⟨_,rfl⟩
   have HE:aa (eM d e=(q0 &&(q1 &&(q2 &&(q3 &&(q4 &&(q5 &&q6))))))):=by rw[aa,eM,hq0,hq1,hq2,hq3,hq4,hq5,hq6]
   have HQ4:=ac hq4
   have HQ5:=ac hq5
   have HQ6:=ac hq6
   clear hq4 hq5 hq6
   cases q0 with
   | false=>
    have HQ:aa ((true &&eM d e)=false):=by rw[aa,HE.out];simp
    go_wp2_with fail
    go_ret
    exact⟨by rw[HQ.out];rfl,HN2.out⟩
   | true=>
    cases q1 with
    | false=>
     have HQ:aa ((true &&eM d e)=false):=by rw[aa,HE.out];simp
     go_wp2_with fail
     go_ret
     exact⟨by rw[HQ.out];rfl,HN2.out⟩
    | true=>
     cases q2 with
     | false=>
      have HQ:aa ((true &&eM d e)=false):=by rw[aa,HE.out];simp
      go_wp2_with fail
      go_ret
      exact⟨by rw[HQ.out];rfl,HN2.out⟩
     | true=>
      cases q3 with
      | false=>
       have HQ:aa ((true &&eM d e)=false):=by rw[aa,HE.out];simp
       go_wp2_with fail
       go_ret
       exact⟨by rw[HQ.out];rfl,HN2.out⟩
      | true=>
       go_wp2_with fail
       refine (oM b1 b2 d.barred e.barred (by have:=HDR.out;omega) (by have:=HER.out;omega) wc HB1.out HB2.out).mono ?_
       rintro x v0 ⟨rfl,hv⟩
       rw[HQ4.out]
       have HN3:=ac (HN2.out.trans (hv.mono HN2.out.size))
       have HAn:=ac (HA.out.new hv)
       have HBn:=ac (HB.out.new hv)
       have HL1:=ac (HL1.out.on hv)
       have HL2:=ac (HL2.out.on hv)
       have HO1:=ac (HO1.out.on hv)
       have HO2:=ac (HO2.out.on hv)
       clear hv a5 b5
       clear a47 b47 a48 b48 a43 b43 a44 b44 a45 b45 a46 b46
       have HA:=HAn
       have HB:=HBn
       clear HAn HBn
       have a47:v0.cell? ⟨A,47,none⟩=some l1:=HA.out.lots
       have b47:v0.cell? ⟨B,47,none⟩=some l2:=HB.out.lots
       have a48:v0.cell? ⟨A,48,none⟩=some o1:=HA.out.owners
       have b48:v0.cell? ⟨B,48,none⟩=some o2:=HB.out.owners
       cases q4 with
       | false=>
        have HQ:aa ((true &&eM d e)=false):=by rw[aa,HE.out];simp
        go_wp2_with fail
        go_ret
        exact⟨by rw[HQ.out];rfl,HN3.out⟩
       | true=>
        go_wp2_with fail
        refine (uC l1 l2 d.lots e.lots (by have:=HDR.out;omega) (by have:=HER.out;omega) v0 HL1.out HL2.out).mono ?_
        rintro x v1 ⟨rfl,hv⟩
        rw[HQ5.out]
        have HN4:=ac (HN3.out.trans (hv.mono HN3.out.size))
        have HAn:=ac (HA.out.new hv)
        have HBn:=ac (HB.out.new hv)
        have HO1:=ac (HO1.out.on hv)
        have HO2:=ac (HO2.out.on hv)
        clear hv a47 b47
        clear a48 b48
        have HA:=HAn
        have HB:=HBn
        clear HAn HBn
        have a48:v1.cell? ⟨A,48,none⟩=some o1:=HA.out.owners
        have b48:v1.cell? ⟨B,48,none⟩=some o2:=HB.out.owners
        cases q5 with
        | false=>
         have HQ:aa ((true &&eM d e)=false):=by rw[aa,HE.out];simp
         go_wp2_with fail
         go_ret
         exact⟨by rw[HQ.out];rfl,HN4.out⟩
        | true=>
         go_wp2_with fail
         refine (oM o1 o2 d.owners e.owners (by have:=HDR.out;omega) (by have:=HER.out;omega) v1 HO1.out HO2.out).mono ?_
         rintro x v2 ⟨rfl,hv⟩
         rw[HQ6.out]
         have HN5:=ac (HN4.out.trans (hv.mono HN4.out.size))
         have HAn:=ac (HA.out.new hv)
         have HBn:=ac (HB.out.new hv)
         clear hv a48 b48
         have HQ:aa ((true &&eM d e)=q6):=by rw[aa,HE.out];simp
         go_wp2_with fail
         go_ret
         exact⟨by rw[HQ.out];rfl,HN5.out⟩
