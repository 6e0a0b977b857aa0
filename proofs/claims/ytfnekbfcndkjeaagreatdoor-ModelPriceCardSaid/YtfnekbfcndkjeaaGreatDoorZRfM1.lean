/- The document's within, outcome, scene, walked. Printed by wip/gen/refm.py. -/
import Derived.Test.YtfnekbfcndkjeaaGreatDoorZRef2
import Derived.Laws.EntriesVeiled
import Derived.Test.YtfnekbfcndkjeaaGreatDoorZApp2
import Derived.Test.YtfnekbfcndkjeaaGreatDoorZRefPlain
set_option maxHeartbeats 4000000
set_option maxRecDepth 100000
set_option linter.all false
namespace Go.Proofs.YtfnekbfcndkjeaaGreatDoor
open Go.Proofs.Tryz Go.RowKit
end Go.Proofs.YtfnekbfcndkjeaaGreatDoor
namespace Go.Proofs.YtfnekbfcndkjeaaGreatDoor
open Go.Proofs.Tryz Go.RowKit
theorem Tryz.infoInt:(prog.info? 3).map (fun i=>(i.zero,i.size,i.bytes))=some (some (.int .i64 0),1,8):=by kernel_rfl
def Ao (t:ByteArray) (p:Int):Nat:=(Bn t p 1).toNat
def pu (t:ByteArray) (p:Int):Prop:=1<=t.size - p/\(Ao t p:Int)<=t.size - (p + 1)
instance (t:ByteArray) (p:Int):Decidable (pu t p):=by unfold pu;infer_instance
theorem Tryz.infoLot:(prog.info? 63).map (fun i=>(i.zero,i.size,i.bytes))=some (some (.agg #[.int .i64 0,.int .i64 0]),2,16):=by kernel_rfl
def cI (l:List (Int × Int)):List Value:=l.flatMap fun x=>[.int .i64 x.1,.int .i64 x.2]
def r6 (t:ByteArray) (p:Int):Prop:=1<=t.size - p/\5 * (Ao t p:Int)<=t.size - (p + 1)
instance (t:ByteArray) (p:Int):Decidable (r6 t p):=by unfold r6;infer_instance
def bA (w:World) (v:Value) (xs:List Int):Prop:=
 ∃a cap,v=.slice a xs.length cap/\xs.length<=cap/\(0<xs.length->∃lb lo,a=some ⟨lb,lo,none⟩/\lb<w.heap.size/\∀j,j<xs.length->w.cell? ⟨lb,lo + j,none⟩=some (.int .i64 (xs.getD j 0)))
def cZ (w:World) (v:Value) (xs:List (Int × Int)):Prop:=
 ∃a cap,v=.slice a xs.length cap/\xs.length<=cap/\(0<xs.length->∃lb lo,a=some ⟨lb,lo,none⟩/\lb<w.heap.size/\∀j,j<xs.length->w.cell? ⟨lb,lo + j * 2,none⟩=some (.int .i64 (xs.getD j (0,0)).1)/\w.cell? ⟨lb,lo + j * 2 + 1,none⟩=some (.int .i64 (xs.getD j (0,0)).2))
theorem bA.on {w w':World} {v:Value} {xs:List Int} (h:bA w v xs) (hb:Below w.heap.size w w'):bA w' v xs:=by
 obtain⟨a,cap,e,hc,h⟩:=h
 refine⟨a,cap,e,hc,fun h0=>?_⟩
 obtain⟨lb,lo,e,hl,hj⟩:=h h0
 exact⟨lb,lo,e,Nat.lt_of_lt_of_le hl hb.size,fun j h1=>(hb.cell (p:=⟨lb,lo + j,none⟩) hl).trans (hj j h1)⟩
theorem cZ.on {w w':World} {v:Value} {xs:List (Int × Int)} (h:cZ w v xs) (hb:Below w.heap.size w w'):cZ w' v xs:=by
 obtain⟨a,cap,e,hc,h⟩:=h
 refine⟨a,cap,e,hc,fun h0=>?_⟩
 obtain⟨lb,lo,e,hl,hj⟩:=h h0
 exact⟨lb,lo,e,Nat.lt_of_lt_of_le hl hb.size,fun j h1=>⟨(hb.cell (p:=⟨lb,lo + j * 2,none⟩) hl).trans (hj j h1).1,(hb.cell (p:=⟨lb,lo + j * 2 + 1,none⟩) hl).trans (hj j h1).2⟩⟩
theorem bA.nil (w:World):bA w (.slice none 0 0) []:=⟨none,0,rfl,Nat.le_refl _,fun h=>by simp at h⟩
theorem cZ.nil (w:World):cZ w (.slice none 0 0) []:=⟨none,0,rfl,Nat.le_refl _,fun h=>by simp at h⟩
theorem iB (xs:List (Int × Int)):∀j,j<xs.length->(cI xs)[j * 2]?=some (.int .i64 (xs.getD j (0,0)).1)/\(cI xs)[j * 2 + 1]?=some (.int .i64 (xs.getD j (0,0)).2):=by
 induction xs with
 | nil=>intro j h;simp at h
 | cons x xs ih=>
  intro j h
  have hc:cI (x :: xs)=.int .i64 x.1 :: .int .i64 x.2 :: cI xs:=rfl
  cases j with
  | zero=>rw[hc];exact⟨rfl,rfl⟩
  | succ j=>
   have h2:=ih j (by rw[List.length_cons] at h;omega)
   rw[hc,show (j + 1) * 2=j * 2 + 1 + 1 by omega]
   exact h2
theorem r7 {base:Nat} {w:World} {v:Value} {xs:List Int} {n:Nat} (hn:n=xs.length) (h:w.ownsRow base 3 1 v n (xs.map (Value.int .i64))):bA w v xs:=by
 subst hn
 obtain⟨a,cap,e,hc,h⟩:=az h
 refine⟨a,cap,e,hc,fun h0=>?_⟩
 obtain⟨g,e,_,hg,hj⟩:=h h0
 refine⟨g,0,e,hg,fun j h1=>?_⟩
 rw[Nat.zero_add]
 refine hj j _ ?_
 rw[List.getElem?_map,List.getElem?_eq_getElem h1,List.getD_eq_getElem?_getD,List.getElem?_eq_getElem h1]
 rfl
theorem r8 {base:Nat} {w:World} {v:Value} {xs:List (Int × Int)} {n:Nat} (hn:n=xs.length) (h:w.ownsRow base 63 2 v n (cI xs)):cZ w v xs:=by
 subst hn
 obtain⟨a,cap,e,hc,h⟩:=az h
 refine⟨a,cap,e,hc,fun h0=>?_⟩
 obtain⟨g,e,_,hg,hj⟩:=h h0
 refine⟨g,0,e,hg,fun j h1=>?_⟩
 rw[Nat.zero_add]
 exact⟨hj _ _ (iB xs j h1).1,hj _ _ (iB xs j h1).2⟩
structure RecD where
 kind:Int:=0
 round:Int:=0
 lot:Int:=0
 carrier:Int:=0
 tick:Int:=0
 barred:List Int:=[]
 dig:List Int:=List.replicate 32 0
 bid:Int:=0
 nonce:Int:=0
 state:Int:=0
 winner:Int:=0
 price:Int:=0
 carriers:Int:=0
 commit:Int:=0
 reveal:Int:=0
 scheme:Int:=0
 lots:List (Int × Int):=[]
 owners:List Int:=[]
deriving DecidableEq
def RecD.toV (d:RecD) (b l o:Value):RecV:=
 {kind:=d.kind,round:=d.round,lot:=d.lot,carrier:=d.carrier,tick:=d.tick,barred:=b,dig:=fun k=>d.dig.getD k 0,bid:=d.bid,nonce:=d.nonce,state:=d.state,winner:=d.winner,price:=d.price,
  carriers:=d.carriers,commit:=d.commit,reveal:=d.reveal,scheme:=d.scheme,lots:=l,owners:=o}
theorem dU (n k:Nat):(List.replicate n (0:Int)).getD k 0=0:=by
 rw[List.getD_eq_getElem?_getD,List.getElem?_replicate]
 split <;> rfl
def bu (w:World) (v:RecV) (d:RecD):Prop:=
 ∃b l o,v=d.toV b l o/\bA w b d.barred/\cZ w l d.lots/\bA w o d.owners
theorem bu.on {w w':World} {v:RecV} {d:RecD} (h:bu w v d) (hb:Below w.heap.size w w'):bu w' v d:=by
 obtain⟨b,l,o,e,h1,h2,h3⟩:=h
 exact⟨b,l,o,e,h1.on hb,h2.on hb,h3.on hb⟩
def de (B:Nat) (w:World) (v:Value) (xs:List Int):Prop:=
 ∃a cap,v=.slice a xs.length cap/\xs.length<=cap/\(0<xs.length->∃lb lo cur,a=some ⟨lb,lo,none⟩/\B<=lb/\w.heap[lb]?=some (.cells cur 3 (0,0))/\∀j,j<xs.length->w.cell? ⟨lb,lo + j,none⟩=some (.int .i64 (xs.getD j 0)))
def d7 (B:Nat) (w:World) (v:Value) (xs:List (Int × Int)):Prop:=
 ∃a cap,v=.slice a xs.length cap/\xs.length<=cap/\(0<xs.length->∃lb lo cur,a=some ⟨lb,lo,none⟩/\B<=lb/\w.heap[lb]?=some (.cells cur 63 (0,0))/\∀j,j<xs.length->w.cell? ⟨lb,lo + j * 2,none⟩=some (.int .i64 (xs.getD j (0,0)).1)/\w.cell? ⟨lb,lo + j * 2 + 1,none⟩=some (.int .i64 (xs.getD j (0,0)).2))
theorem de.nil (B:Nat) (w:World):de B w (.slice none 0 0) []:=⟨none,0,rfl,Nat.le_refl _,fun h=>by simp at h⟩
theorem d7.nil (B:Nat) (w:World):d7 B w (.slice none 0 0) []:=⟨none,0,rfl,Nat.le_refl _,fun h=>by simp at h⟩
theorem de.row {B:Nat} {w:World} {v:Value} {xs:List Int} (h:de B w v xs):bA w v xs:=by
 obtain⟨a,cap,e,hc,h⟩:=h
 refine⟨a,cap,e,hc,fun h0=>?_⟩
 obtain⟨lb,lo,cur,e,_,hl,hj⟩:=h h0
 exact⟨lb,lo,e,aK hl,hj⟩
theorem d7.row {B:Nat} {w:World} {v:Value} {xs:List (Int × Int)} (h:d7 B w v xs):cZ w v xs:=by
 obtain⟨a,cap,e,hc,h⟩:=h
 refine⟨a,cap,e,hc,fun h0=>?_⟩
 obtain⟨lb,lo,cur,e,_,hl,hj⟩:=h h0
 exact⟨lb,lo,e,aK hl,hj⟩
def dV (B:Nat) (w:World) (k:Nat):Prop:=B<=k/\∃cur,w.heap[k]?=some (.cells cur 3 (0,0))\/w.heap[k]?=some (.cells cur 63 (0,0))
theorem de.keepsT {B:Nat} {K:Nat->Prop} {w w':World} {v:Value} {xs:List Int} (h:de B w v xs) (hk:am K w w') (hK:∀k,dV B w k->K k):de B w' v xs:=by
 obtain⟨a,cap,e,hc,h⟩:=h
 refine⟨a,cap,e,hc,fun h0=>?_⟩
 obtain⟨lb,lo,cur,e,hB,hl,hj⟩:=h h0
 have hK':=hK lb ⟨hB,cur,.inl hl⟩
 exact⟨lb,lo,cur,e,hB,aw hl hk hK',fun j h1=>aJ (hj j h1) hk hK'⟩
theorem d7.keepsT {B:Nat} {K:Nat->Prop} {w w':World} {v:Value} {xs:List (Int × Int)} (h:d7 B w v xs) (hk:am K w w') (hK:∀k,dV B w k->K k):d7 B w' v xs:=by
 obtain⟨a,cap,e,hc,h⟩:=h
 refine⟨a,cap,e,hc,fun h0=>?_⟩
 obtain⟨lb,lo,cur,e,hB,hl,hj⟩:=h h0
 have hK':=hK lb ⟨hB,cur,.inr hl⟩
 exact⟨lb,lo,cur,e,hB,aw hl hk hK',fun j h1=>⟨aJ (hj j h1).1 hk hK',aJ (hj j h1).2 hk hK'⟩⟩
theorem de.keeps {B:Nat} {K:Nat->Prop} {w w':World} {v:Value} {xs:List Int} (h:de B w v xs) (hk:am K w w') (hK:∀k,B<=k->K k):de B w' v xs:=h.keepsT hk fun k hb=>hK k hb.1
theorem d7.keeps {B:Nat} {K:Nat->Prop} {w w':World} {v:Value} {xs:List (Int × Int)} (h:d7 B w v xs) (hk:am K w w') (hK:∀k,B<=k->K k):d7 B w' v xs:=h.keepsT hk fun k hb=>hK k hb.1
theorem de.mono {B B':Nat} {w:World} {v:Value} {xs:List Int} (h:de B w v xs) (hB:B'<=B):de B' w v xs:=by
 obtain⟨a,cap,e,hc,h⟩:=h
 refine⟨a,cap,e,hc,fun h0=>?_⟩
 obtain⟨lb,lo,cur,e,hb,hl,hj⟩:=h h0
 exact⟨lb,lo,cur,e,Nat.le_trans hB hb,hl,hj⟩
theorem d7.mono {B B':Nat} {w:World} {v:Value} {xs:List (Int × Int)} (h:d7 B w v xs) (hB:B'<=B):d7 B' w v xs:=by
 obtain⟨a,cap,e,hc,h⟩:=h
 refine⟨a,cap,e,hc,fun h0=>?_⟩
 obtain⟨lb,lo,cur,e,hb,hl,hj⟩:=h h0
 exact⟨lb,lo,cur,e,Nat.le_trans hB hb,hl,hj⟩
theorem gP {base B:Nat} {w:World} {v:Value} {xs:List Int} {n:Nat} (hn:n=xs.length) (h:w.ownsRow base 3 1 v n (xs.map (Value.int .i64))) (hB:B<=base):de B w v xs:=by
 subst hn
 have hf:=r7 rfl h
 obtain⟨_,h2⟩:=h
 rcases h2 with ⟨rfl,h3⟩ | ⟨g,cap,cur,rfl,hg,hh,hnc,_⟩
 ·exact⟨none,0,by rw[h3],by omega,fun h=>by omega⟩
 ·refine⟨_,cap,rfl,hnc,fun h0=>?_⟩
  obtain⟨a,cap',e,_,hx⟩:=hf
  obtain⟨lb,lo,ea,_,hj⟩:=hx h0
  obtain⟨ea2,_,_⟩:=Value.slice.inj e
  rw[ea] at ea2
  obtain⟨rfl,rfl,_⟩:g=lb/\0=lo/\True:=by injection ea2 with ea2;injection ea2 with h1 h2;exact⟨h1,h2,trivial⟩
  exact⟨g,0,cur,rfl,Nat.le_trans hB hg,hh,hj⟩
theorem lQ {base B:Nat} {w:World} {v:Value} {xs:List (Int × Int)} {n:Nat} (hn:n=xs.length) (h:w.ownsRow base 63 2 v n (cI xs)) (hB:B<=base):d7 B w v xs:=by
 subst hn
 have hf:=r8 rfl h
 obtain⟨_,h2⟩:=h
 rcases h2 with ⟨rfl,h3⟩ | ⟨g,cap,cur,rfl,hg,hh,hnc,_⟩
 ·exact⟨none,0,by rw[h3],by omega,fun h=>by omega⟩
 ·refine⟨_,cap,rfl,hnc,fun h0=>?_⟩
  obtain⟨a,cap',e,_,hx⟩:=hf
  obtain⟨lb,lo,ea,_,hj⟩:=hx h0
  obtain⟨ea2,_,_⟩:=Value.slice.inj e
  rw[ea] at ea2
  obtain⟨rfl,rfl,_⟩:g=lb/\0=lo/\True:=by injection ea2 with ea2;injection ea2 with h1 h2;exact⟨h1,h2,trivial⟩
  exact⟨g,0,cur,rfl,Nat.le_trans hB hg,hh,hj⟩
def bD (B:Nat) (w:World) (v:RecV) (d:RecD):Prop:=
 ∃b l o,v=d.toV b l o/\de B w b d.barred/\d7 B w l d.lots/\de B w o d.owners
theorem bD.at_ {B:Nat} {w:World} {v:RecV} {d:RecD} (h:bD B w v d):bu w v d:=by
 obtain⟨b,l,o,e,h1,h2,h3⟩:=h
 exact⟨b,l,o,e,h1.row,h2.row,h3.row⟩
theorem bD.keepsT {B:Nat} {K:Nat->Prop} {w w':World} {v:RecV} {d:RecD} (h:bD B w v d) (hk:am K w w') (hK:∀k,dV B w k->K k):bD B w' v d:=by
 obtain⟨b,l,o,e,h1,h2,h3⟩:=h
 exact⟨b,l,o,e,h1.keepsT hk hK,h2.keepsT hk hK,h3.keepsT hk hK⟩
theorem bD.keeps {B:Nat} {K:Nat->Prop} {w w':World} {v:RecV} {d:RecD} (h:bD B w v d) (hk:am K w w') (hK:∀k,B<=k->K k):bD B w' v d:=by
 obtain⟨b,l,o,e,h1,h2,h3⟩:=h
 exact⟨b,l,o,e,h1.keeps hk hK,h2.keeps hk hK,h3.keeps hk hK⟩
theorem bD.on {B:Nat} {w w':World} {v:RecV} {d:RecD} (h:bD B w v d) (hb:Below w.heap.size w w'):bD B w' v d:=h.keeps (ak hb (fun _=>True)) (fun _ _=>trivial)
theorem bD.mono {B B':Nat} {w:World} {v:RecV} {d:RecD} (h:bD B w v d) (hB:B'<=B):bD B' w v d:=by
 obtain⟨b,l,o,e,h1,h2,h3⟩:=h
 exact⟨b,l,o,e,h1.mono hB,h2.mono hB,h3.mono hB⟩
theorem bD.nil (B:Nat) (w:World):bD B w {} {}:=⟨.slice none 0 0,.slice none 0 0,.slice none 0 0,by simp only[RecD.toV,dU],de.nil _ _,d7.nil _ _,de.nil _ _⟩
theorem bD.one {B:Nat} {w:World} {v:RecV} {d:RecD} (h:bD B w v d):(ae v).all (·.oneCell')=true:=by
 obtain⟨b,l,o,rfl,⟨a1,c1,rfl,_⟩,⟨a2,c2,rfl,_⟩,⟨a3,c3,rfl,_⟩⟩:=h
 exact aM _ rfl rfl rfl
structure bS where
 scn:RecV:={}
 owners:Value:=.slice none 0 0
 states:Value:=.slice none 0 0
 outs:Value:=.slice none 0 0
 opn:Value:=.pointer none
 barred:Value:=.slice none 0 0
 tick:Int:=0
 ended : Bool := false
def eI (v:bS):Array Value:=
 #[.int .i64 v.scn.kind, .int .i64 v.scn.round, .int .i64 v.scn.lot, .int .i64 v.scn.carrier, .int .i64 v.scn.tick, v.scn.barred, .int .u8 (v.scn.dig 0), .int .u8 (v.scn.dig 1),
  .int .u8 (v.scn.dig 2),.int .u8 (v.scn.dig 3),.int .u8 (v.scn.dig 4),.int .u8 (v.scn.dig 5),.int .u8 (v.scn.dig 6),.int .u8 (v.scn.dig 7),.int .u8 (v.scn.dig 8),.int .u8 (v.scn.dig 9),
  .int .u8 (v.scn.dig 10),.int .u8 (v.scn.dig 11),.int .u8 (v.scn.dig 12),.int .u8 (v.scn.dig 13),.int .u8 (v.scn.dig 14),.int .u8 (v.scn.dig 15),.int .u8 (v.scn.dig 16),.int .u8 (v.scn.dig 17),
  .int .u8 (v.scn.dig 18),.int .u8 (v.scn.dig 19),.int .u8 (v.scn.dig 20),.int .u8 (v.scn.dig 21),.int .u8 (v.scn.dig 22),.int .u8 (v.scn.dig 23),.int .u8 (v.scn.dig 24),.int .u8 (v.scn.dig 25),
  .int .u8 (v.scn.dig 26),.int .u8 (v.scn.dig 27),.int .u8 (v.scn.dig 28),.int .u8 (v.scn.dig 29),.int .u8 (v.scn.dig 30),.int .u8 (v.scn.dig 31),.int .u64 v.scn.bid,.int .u64 v.scn.nonce,
  .int .i64 v.scn.state,.int .i64 v.scn.winner,.int .u64 v.scn.price,.int .i64 v.scn.carriers,.int .i64 v.scn.commit,.int .i64 v.scn.reveal,.int .i64 v.scn.scheme,v.scn.lots,
  v.scn.owners,v.owners,v.states,v.outs,v.opn,v.barred,.int .i64 v.tick,.bool v.ended]
theorem n5 (v:bS):(eI v).size=56:=rfl
def aV (w:World) (p:Nat) (v:bS):Prop:=w.heap[p]?=some (.cells (eI v) 93 (0,0))
theorem aV.keeps {K:Nat->Prop} {w w':World} {p:Nat} {v:bS} (h:aV w p v) (hk:am K w w') (hK:K p):aV w' p v:=aw h hk hK
theorem aV.new {w w':World} {p:Nat} {v:bS} (h:aV w p v) (hb:Below w.heap.size w w'):aV w' p v:=au h hb
theorem aV.lt {w:World} {p:Nat} {v:bS} (h:aV w p v):p<w.heap.size:=aK h
theorem aV.free {w:World} {p:Nat} {v:bS} (h:aV w p v) (j:Nat):w.frozen? ⟨p,j,none⟩=false:=aL h j
theorem aV.other {w:World} {p M j:Nat} {v:bS} (h:aV w p v) (hne:p≠M) (x:Value):aV (w.setCell ⟨M,j,none⟩ x) p v:=eA h hne j x
theorem aV.rkind {w:World} {p:Nat} {v:bS} (h:aV w p v):w.cell? ⟨p,0,none⟩=some (.int .i64 v.scn.kind):=aq h 0
theorem aV.rcarriers {w:World} {p:Nat} {v:bS} (h:aV w p v):w.cell? ⟨p,43,none⟩=some (.int .i64 v.scn.carriers):=aq h 43
theorem aV.rcommit {w:World} {p:Nat} {v:bS} (h:aV w p v):w.cell? ⟨p,44,none⟩=some (.int .i64 v.scn.commit):=aq h 44
theorem aV.rreveal {w:World} {p:Nat} {v:bS} (h:aV w p v):w.cell? ⟨p,45,none⟩=some (.int .i64 v.scn.reveal):=aq h 45
theorem aV.rscheme {w:World} {p:Nat} {v:bS} (h:aV w p v):w.cell? ⟨p,46,none⟩=some (.int .i64 v.scn.scheme):=aq h 46
theorem aV.rlots {w:World} {p:Nat} {v:bS} (h:aV w p v):w.cell? ⟨p,47,none⟩=some (v.scn.lots):=aq h 47
theorem aV.setRlots {w:World} {p:Nat} {v:bS} (h:aV w p v) (x:Value):aV (w.setCell ⟨p,47,none⟩ (x)) p {v with scn:={v.scn with lots:=x}}:=aH h 47 (x)
theorem aV.rowners {w:World} {p:Nat} {v:bS} (h:aV w p v):w.cell? ⟨p,48,none⟩=some (v.scn.owners):=aq h 48
theorem aV.setRowners {w:World} {p:Nat} {v:bS} (h:aV w p v) (x:Value):aV (w.setCell ⟨p,48,none⟩ (x)) p {v with scn:={v.scn with owners:=x}}:=aH h 48 (x)
theorem aV.owners {w:World} {p:Nat} {v:bS} (h:aV w p v):w.cell? ⟨p,49,none⟩=some (v.owners):=aq h 49
theorem aV.setOwners {w:World} {p:Nat} {v:bS} (h:aV w p v) (x:Value):aV (w.setCell ⟨p,49,none⟩ (x)) p {v with owners:=x}:=aH h 49 (x)
theorem aV.states {w:World} {p:Nat} {v:bS} (h:aV w p v):w.cell? ⟨p,50,none⟩=some (v.states):=aq h 50
theorem aV.setStates {w:World} {p:Nat} {v:bS} (h:aV w p v) (x:Value):aV (w.setCell ⟨p,50,none⟩ (x)) p {v with states:=x}:=aH h 50 (x)
theorem aV.outs {w:World} {p:Nat} {v:bS} (h:aV w p v):w.cell? ⟨p,51,none⟩=some (v.outs):=aq h 51
theorem aV.setOuts {w:World} {p:Nat} {v:bS} (h:aV w p v) (x:Value):aV (w.setCell ⟨p,51,none⟩ (x)) p {v with outs:=x}:=aH h 51 (x)
theorem aV.opn {w:World} {p:Nat} {v:bS} (h:aV w p v):w.cell? ⟨p,52,none⟩=some (v.opn):=aq h 52
theorem aV.setOpn {w:World} {p:Nat} {v:bS} (h:aV w p v) (x:Value):aV (w.setCell ⟨p,52,none⟩ (x)) p {v with opn:=x}:=aH h 52 (x)
theorem aV.barred {w:World} {p:Nat} {v:bS} (h:aV w p v):w.cell? ⟨p,53,none⟩=some (v.barred):=aq h 53
theorem aV.setBarred {w:World} {p:Nat} {v:bS} (h:aV w p v) (x:Value):aV (w.setCell ⟨p,53,none⟩ (x)) p {v with barred:=x}:=aH h 53 (x)
theorem aV.tick {w:World} {p:Nat} {v:bS} (h:aV w p v):w.cell? ⟨p,54,none⟩=some (.int .i64 v.tick):=aq h 54
theorem aV.setTick {w:World} {p:Nat} {v:bS} (h:aV w p v) (x:Int):aV (w.setCell ⟨p,54,none⟩ (.int .i64 x)) p {v with tick:=x}:=aH h 54 (.int .i64 x)
theorem aV.ended {w:World} {p:Nat} {v:bS} (h:aV w p v):w.cell? ⟨p,55,none⟩=some (.bool v.ended):=aq h 55
theorem aV.setEnded {w:World} {p:Nat} {v:bS} (h:aV w p v) (x:Bool):aV (w.setCell ⟨p,55,none⟩ (.bool x)) p {v with ended:=x}:=aH h 55 (.bool x)
def wG (t:ByteArray):Prop:=9<=t.size
instance (t:ByteArray):Decidable (wG t):=by unfold wG;infer_instance
def mR (t:ByteArray):Prop:=27<=t.size
instance (t:ByteArray):Decidable (mR t):=by unfold mR;infer_instance
def pv (t:ByteArray):Prop:=20<=t.size
instance (t:ByteArray):Decidable (pv t):=by unfold pv;infer_instance
def mS (t:ByteArray):Prop:=43<=t.size
instance (t:ByteArray):Decidable (mS t):=by unfold mS;infer_instance
def r9 (t:ByteArray):Prop:=11<=t.size/\pu t 11
instance (t:ByteArray):Decidable (r9 t):=by unfold r9;infer_instance
theorem oG {L R:Nat} (h:R≠L) {W:World} {i j:Nat} {v:Value}:(W.setCell ⟨L,j,none⟩ v).cell? ⟨R,i,none⟩=W.cell? ⟨R,i,none⟩:=World.cell?_setCell_other _ _ _ _ (by simp[h])
def Aq (t:ByteArray):Int:=5 + 1 + 5 * (Ao t 5:Int)
def pw (t:ByteArray):Prop:=5<=t.size/\r6 t 5/\pu t (Aq t)
instance (t:ByteArray):Decidable (pw t):=by unfold pw;infer_instance
end Go.Proofs.YtfnekbfcndkjeaaGreatDoor
namespace Go.Proofs.YtfnekbfcndkjeaaGreatDoor
open Go.Proofs.Tryz Go.RowKit
def di (s x p:Int):Bool:=if s=3 then decide (x=-1) &&decide (p=0) else (decide (s=2) ||decide (s=4)) &&aE x 0 7 &&decide (p<=16777216)
theorem wH (s x p:Int) (w:World):Calls prog 104 #[.agg #[.int .i64 s,.int .i64 x,.int .u64 p]] w fun e w'=>e=.returned (.bool (di s x p))/\Below w.heap.size w w':=by
 have hb:Below w.heap.size w (w.alloc (.cells #[.int .i64 s,.int .i64 x,.int .u64 p] 46)):=af _ _
 have HB:=ac hb
 clear hb
 go_enter func104,ntmps104
 by_cases h3:s=3
 ·subst h3
  by_cases h1:x=-1
  ·subst h1
   by_cases h2:p=0
   ·subst h2
    go_wp2
    go_ret
    exact⟨rfl,HB.out⟩
   ·have e2:(p==0)=false:=by simpa using h2
    have HR:aa (di 3 (-1) p=false):=by simp[aa,di,h2]
    go_wp2
    go_ret
    exact⟨by rw[HR.out];rfl,HB.out⟩
  ·have e1:(x==-1)=false:=by simpa using h1
   have HR:aa (di 3 x p=false):=by simp[aa,di,h1]
   go_wp2
   go_ret
   exact⟨by rw[HR.out];rfl,HB.out⟩
 ·have e3:(s==3)=false:=by simpa using h3
  by_cases h24:s=2\/s=4
  ·have HR0:di s x p=(aE x 0 7 &&decide (p<=16777216)):=by
    rcases h24 with rfl | rfl <;> simp[di]
   have HR:=ac HR0
   clear HR0 h3
   rcases h24 with rfl | rfl
   all_goals
    go_wp2_with fail
    refine (cC x 0 7 _).mono ?_
    rintro e w1 ⟨rfl,rfl⟩
    by_cases hw:aE x 0 7=true
    ·by_cases hp:p<=16777216
     ·have HF:=HR.out
      rw[hw,decide_eq_true hp] at HF
      have HF:=ac HF
      have e4:decide (p<=16777216)=true:=decide_eq_true hp
      clear hp
      go_wp2
      go_ret
      exact⟨by rw[HF.out];rfl,HB.out⟩
     ·have HF:=HR.out
      rw[hw,decide_eq_false hp] at HF
      have HF:=ac HF
      have e4:decide (p<=16777216)=false:=decide_eq_false hp
      clear hp
      go_wp2
      go_ret
      exact⟨by rw[HF.out];rfl,HB.out⟩
    ·have hw':aE x 0 7=false:=by simpa using hw
     have HF:=HR.out
     rw[hw'] at HF
     have HF:=ac HF
     clear hw
     go_wp2
     go_ret
     exact⟨by rw[HF.out];rfl,HB.out⟩
  ·have h2:¬s=2:=fun h=>h24 (.inl h)
   have h4:¬s=4:=fun h=>h24 (.inr h)
   have e2:(s==2)=false:=by simpa using h2
   have e4:(s==4)=false:=by simpa using h4
   have HR:aa (di s x p=false):=by simp[aa,di,h2,h3,h4]
   clear h24 h2 h3 h4
   go_wp2
   go_ret
   exact⟨by rw[HR.out];rfl,HB.out⟩
def a9 (f:Nat->Bool):Nat->Bool
 | 0=>true
 | k + 1=>a9 f k &&f k
theorem ee (f:Nat->Bool) (k:Nat):∀n,k<n->f k=false->a9 f n=false
 | 0,h,_=>by omega
 | n + 1,h,hf=>by
  by_cases e:k=n
  ·subst e;rw[a9,hf,Bool.and_false]
  ·rw[a9,ee f k n (by omega) hf,Bool.false_and]
theorem eV (f:Nat->Bool):∀n,a9 f n=true↔∀k,k<n->f k=true
 | 0=>by simp[a9]
 | n + 1=>by
  rw[a9,Bool.and_eq_true,eV f n]
  constructor
  ·rintro⟨h1,h2⟩ k hk
   by_cases e:k=n
   ·exact e ▸ h2
   ·exact h1 k (by omega)
  ·intro h
   exact⟨fun k hk=>h k (by omega),h n (by omega)⟩
def bO (xs:List Int) (k:Nat):Bool:=aE (xs.getD k 0) 0 7 &&(decide (k=0) ||decide (xs.getD (k - 1) 0<xs.getD k 0))
theorem wI (L:Nat) (rv:RecV) (xs:List Int) (hxs:xs.length<=9223372036854775807) (k:Nat) (hk:k<xs.length) (w:World) (hr:ah w L rv) (hx:bA w rv.barred xs):
  Calls prog 103 #[.int .i64 k,.int .i64 (xs.getD k 0),.pointer (some ⟨L,0,none⟩)] w fun e w'=>e=.returned (.bool (bO xs k))/\w'=w:=by
 obtain⟨a,cap,hv,hcap,hx⟩:=hx
 obtain⟨lb,lo,rfl,hlb,hj⟩:=hx (by omega)
 have c5:=hr.barred
 rw[hv] at c5
 obtain⟨x,hxk⟩:∃x,x=xs.getD k 0:=⟨_,rfl⟩
 have HX:=ac hxk
 obtain⟨n,hn⟩:∃n,n=xs.length:=⟨_,rfl⟩
 have HN:=ac hn
 rw[<-hn] at hk c5 hcap hxs
 rw[<-hxk]
 have HJ:=ac hj
 clear hv hx hj hr hxk hn
 go_enter func103,ntmps103
 go_wp2_with fail
 refine (cC x 0 7 _).mono ?_
 rintro e w1 ⟨rfl,rfl⟩
 by_cases hw:aE x 0 7=true
 ·by_cases h0:k=0
  ·subst h0
   have HF:aa (bO xs 0=true):=by
    have:=HX.out
    simp only[aa,bO,<-this,hw];rfl
   go_wp2
   go_ret
   exact⟨by rw[HF.out];rfl,rfl⟩
  ·obtain⟨j,rfl⟩:∃j,k=j + 1:=⟨k - 1,by omega⟩
   have hjn:=HJ.out j (by have:=HN.out;omega)
   obtain⟨y,hy⟩:∃y,y=xs.getD j 0:=⟨_,rfl⟩
   rw[<-hy] at hjn
   have e0:((((j + 1:Nat):Int))==0)=false:=by simp;omega
   have e1:IntKind.i64.wrap (((j + 1:Nat):Int) - 1)=(j:Int):=by
    rw[show ((j + 1:Nat):Int) - 1=(j:Int) by omega]
    exact IntWalk.i64_in _ (by omega)
   have hji:(j:Int)<n:=by omega
   have hji0:(0:Int)<=j:=by omega
   have HF0:bO xs (j + 1)=decide (y<x):=by
    rw[bO,<-HX.out,hw,Nat.add_sub_cancel,<-hy];simp
   by_cases hlt:y<x
   ·have e2:decide (y<x)=true:=decide_eq_true hlt
    rw[e2] at HF0
    have HF:=ac HF0
    clear HF0 hlt hy h0 hk
    go_wp2
    go_ret
    exact⟨by rw[HF.out];rfl,rfl⟩
   ·have e2:decide (y<x)=false:=decide_eq_false hlt
    rw[e2] at HF0
    have HF:=ac HF0
    clear HF0 hlt hy h0 hk
    go_wp2
    go_ret
    exact⟨by rw[HF.out];rfl,rfl⟩
 ·have hw':aE x 0 7=false:=by simpa using hw
  have HF:aa (bO xs k=false):=by rw[aa,bO,<-HX.out,hw',Bool.false_and]
  clear hw
  go_wp2
  go_ret
  exact⟨by rw[HF.out];rfl,rfl⟩
theorem se (k x:Int) (w:World):Calls prog 122 #[.int .i64 k,.int .i64 x] w fun e w'=>e=.returned (.bool (aE x 0 7))/\w'=w:=by
 go_enter func122,ntmps122
 go_wp2_with fail
 refine (cC x 0 7 _).mono ?_
 rintro e w1 ⟨rfl,rfl⟩
 go_wp2
 go_ret
 exact⟨rfl,rfl⟩
def kD (x:Int × Int):Bool:=aE x.1 0 63 &&aE x.2 0 16777216
theorem sf (k x y:Int) (w:World):Calls prog 121 #[.int .i64 k,.agg #[.int .i64 x,.int .i64 y]] w fun e w'=>e=.returned (.bool (kD (x,y)))/\Below w.heap.size w w':=by
 have HB:=ac (af w (.cells #[.int .i64 x,.int .i64 y] 63))
 go_enter func121,ntmps121
 go_wp2_with fail
 refine (cC x 0 63 _).mono ?_
 rintro e w1 ⟨rfl,rfl⟩
 by_cases hw:aE x 0 63=true
 ·go_wp2_with fail
  refine (cC y 0 16777216 _).mono ?_
  rintro e w2 ⟨rfl,rfl⟩
  have HF:aa (kD (x,y)=aE y 0 16777216):=by rw[aa,kD,hw,Bool.true_and]
  clear hw
  go_wp2
  go_ret
  exact⟨by rw[HF.out];rfl,HB.out⟩
 ·have hw':aE x 0 63=false:=by simpa using hw
  have HF:aa (kD (x,y)=false):=by rw[aa,kD,hw',Bool.false_and]
  clear hw
  go_wp2
  go_ret
  exact⟨by rw[HF.out];rfl,HB.out⟩
def fT (xs:List Int) (k:Nat):Bool:=aE (xs.getD k 0) 0 7
def dx (xs:List (Int × Int)) (k:Nat):Bool:=kD (xs.getD k (0,0))
theorem qs (L:Nat) (rv:RecV) (v:Value) (xs:List Int) (hxs:xs.length<=9223372036854775807) (w:World) (hx:bA w v xs) (hr:ah w L rv) (hv:rv.barred=v):
  Calls prog 102 #[v,.func (.func 103) #[] #[.pointer (some ⟨L,0,none⟩)]] w fun e w'=>e=.returned (.bool (a9 (bO xs) xs.length))/\w'=w:=by
 have HX:=ac hx
 have HRV:=ac hr
 have HV:=ac hv
 clear hr hv
 obtain⟨a,cap,rfl,hcap,_⟩:=hx
 obtain⟨n,hn⟩:∃n,n=xs.length:=⟨_,rfl⟩
 have HN:=ac hn
 have HNX:=ac hxs
 rw[<-hn] at hxs ⊢
 have H0:aa (a9 (bO xs) 0=true):=rfl
 clear hn hcap
 go_enter func102,ntmps102
 go_wp2_with fail
 go_loopg [9] n (fun gk v9 wr=>∃k:Nat,k<=n/\v9=.int .i64 k/\n - k<=gk/\aa (a9 (bO xs) k=true)/\wr=w)
 case atStart=>exact⟨0,by omega,rfl,by omega,H0,rfl⟩
 case round=>
  clear H0
  obtain⟨k,hk,rfl,hgk,HA,rfl⟩:=hrel
  by_cases hlt:k<n
  ·have hki:(k:Int)<n:=by omega
   obtain⟨a',cap',e,_,hj0⟩:=HX.out
   obtain⟨lb,lo,ea,hlb,hj⟩:=hj0 (by have:=HN.out;omega)
   obtain⟨ea2,_,ec2⟩:=Value.slice.inj e
   clear hj0
   subst ec2
   subst ea2
   subst ea
   have c0:=hj k (by rw[<-HN.out];exact hlt)
   have HC:=ac c0
   obtain⟨x,hxk⟩:∃x,x=xs.getD k 0:=⟨_,rfl⟩
   rw[<-hxk] at c0
   have HXK:=ac hxk
   clear hj hxk e
   go_wp2_with fail
   rw[HXK.out]
   refine (wI L rv xs HNX.out k (by rw[<-HN.out];exact hlt) _ HRV.out (by rw[HV.out];exact HX.out)).mono ?_
   rintro e w2 ⟨rfl,rfl⟩
   clear c0
   by_cases hf:(bO xs) k=true
   ·have HA2:aa (a9 (bO xs) (k + 1)=true):=by
     rw[aa,a9,HA.out,hf];rfl
    rw[show bO xs k=true from hf]
    clear hf
    go_wp2_with fail
    go_roundg (n - (k + 1))
    case measure=>omega
    case rel=>exact⟨k + 1,by omega,rfl,by omega,HA2,rfl⟩
   ·have hf':(bO xs) k=false:=by simpa using hf
    have HF:aa (a9 (bO xs) n=false):=ee _ k n hlt hf'
    rw[show bO xs k=false from hf']
    clear hf hf'
    go_wp2_with fail
    go_ret
    exact⟨by rw[HF.out];rfl,rfl⟩
  ·have hki:¬(k:Int)<n:=by omega
   have hkn:k=n:=by omega
   have HF:aa (a9 (bO xs) n=true):=by rw[<-hkn];exact HA
   clear hkn hlt HA
   go_wp2_with fail
   go_ret
   exact⟨by rw[HF.out];rfl,rfl⟩
theorem uq  (v:Value) (xs:List Int) (hxs:xs.length<=9223372036854775807) (w:World) (hx:bA w v xs):
  Calls prog 102 #[v,.func (.func 122) #[] #[]] w fun e w'=>e=.returned (.bool (a9 (fT xs) xs.length))/\w'=w:=by
 have HX:=ac hx
 obtain⟨a,cap,rfl,hcap,_⟩:=hx
 obtain⟨n,hn⟩:∃n,n=xs.length:=⟨_,rfl⟩
 have HN:=ac hn
 have HNX:=ac hxs
 rw[<-hn] at hxs ⊢
 have H0:aa (a9 (fT xs) 0=true):=rfl
 clear hn hcap
 go_enter func102,ntmps102
 go_wp2_with fail
 go_loopg [9] n (fun gk v9 wr=>∃k:Nat,k<=n/\v9=.int .i64 k/\n - k<=gk/\aa (a9 (fT xs) k=true)/\wr=w)
 case atStart=>exact⟨0,by omega,rfl,by omega,H0,rfl⟩
 case round=>
  clear H0
  obtain⟨k,hk,rfl,hgk,HA,rfl⟩:=hrel
  by_cases hlt:k<n
  ·have hki:(k:Int)<n:=by omega
   obtain⟨a',cap',e,_,hj0⟩:=HX.out
   obtain⟨lb,lo,ea,hlb,hj⟩:=hj0 (by have:=HN.out;omega)
   obtain⟨ea2,_,ec2⟩:=Value.slice.inj e
   clear hj0
   subst ec2
   subst ea2
   subst ea
   have c0:=hj k (by rw[<-HN.out];exact hlt)
   have HC:=ac c0
   obtain⟨x,hxk⟩:∃x,x=xs.getD k 0:=⟨_,rfl⟩
   rw[<-hxk] at c0
   have HXK:=ac hxk
   clear hj hxk e
   go_wp2_with fail
   rw[HXK.out]
   refine (se (k:Int) (xs.getD k 0) _).mono ?_
   rintro e w2 ⟨rfl,rfl⟩
   rw[<-HXK.out]
   clear c0
   by_cases hf:aE (xs.getD k 0) 0 7=true
   ·have HA2:aa (a9 (fT xs) (k + 1)=true):=by
     rw[aa,a9,HA.out,fT,hf];rfl
    rw[show aE x 0 7=true from by rw[HXK.out];exact hf]
    clear hf
    go_wp2_with fail
    go_roundg (n - (k + 1))
    case measure=>omega
    case rel=>exact⟨k + 1,by omega,rfl,by omega,HA2,rfl⟩
   ·have hf':aE (xs.getD k 0) 0 7=false:=by simpa using hf
    have HF:aa (a9 (fT xs) n=false):=ee _ k n hlt hf'
    rw[show aE x 0 7=false from by rw[HXK.out];exact hf']
    clear hf hf'
    go_wp2_with fail
    go_ret
    exact⟨by rw[HF.out];rfl,rfl⟩
  ·have hki:¬(k:Int)<n:=by omega
   have hkn:k=n:=by omega
   have HF:aa (a9 (fT xs) n=true):=by rw[<-hkn];exact HA
   clear hkn hlt HA
   go_wp2_with fail
   go_ret
   exact⟨by rw[HF.out];rfl,rfl⟩
theorem wJ (v:Value) (xs:List (Int × Int)) (hxs:xs.length<=9223372036854775807) (w:World) (hx:cZ w v xs):
  Calls prog 120 #[v,.func (.func 121) #[] #[]] w fun e w'=>e=.returned (.bool (a9 (dx xs) xs.length))/\Below w.heap.size w w':=by
 have HX:=ac hx
 obtain⟨a,cap,rfl,hcap,_⟩:=hx
 obtain⟨n,hn⟩:∃n,n=xs.length:=⟨_,rfl⟩
 have HN:=ac hn
 rw[<-hn] at hxs ⊢
 have H0:aa (a9 (dx xs) 0=true):=rfl
 have HB0:aa (Below w.heap.size w w):=Below.refl _ _
 clear hn hcap
 go_enter func120,ntmps120
 go_wp2_with fail
 go_loopg [9] n (fun gk v9 wr=>∃k:Nat,k<=n/\v9=.int .i64 k/\n - k<=gk/\aa (a9 (dx xs) k=true)/\aa (Below w.heap.size w wr))
 case atStart=>exact⟨0,by omega,rfl,by omega,H0,HB0⟩
 case round=>
  clear H0 HB0
  obtain⟨k,hk,rfl,hgk,HA,HB⟩:=hrel
  by_cases hlt:k<n
  ·have hki:(k:Int)<n:=by omega
   obtain⟨a',cap',e,_,hj0⟩:=HX.out
   obtain⟨lb,lo,ea,hlb,hj⟩:=hj0 (by have:=HN.out;omega)
   obtain⟨ea2,_,ec2⟩:=Value.slice.inj e
   clear hj0
   subst ec2
   subst ea2
   subst ea
   have hjk:=hj k (by rw[<-HN.out];exact hlt)
   obtain⟨x,hxk⟩:∃x,x=xs.getD k (0,0):=⟨_,rfl⟩
   rw[<-hxk] at hjk
   obtain⟨x,y⟩:=x
   have HXK:=ac hxk
   have c0:wr.cell? ⟨lb,lo + k * 2,none⟩=some (.int .i64 x):=(HB.out.cell (p:=⟨lb,lo + k * 2,none⟩) hlb).trans hjk.1
   have c1:wr.cell? ⟨lb,lo + k * 2 + 1,none⟩=some (.int .i64 y):=(HB.out.cell (p:=⟨lb,lo + k * 2 + 1,none⟩) hlb).trans hjk.2
   have HB1:aa (Below w.heap.size w (wr.alloc (.cells #[.int .i64 x,.int .i64 y] 63))):=HB.out.alloc HB.out.size _
   clear hj hjk hxk HB e
   go_wp2_with fail
   refine (sf (k:Int) x y _).mono ?_
   rintro e w2 ⟨rfl,hb2⟩
   have HB2:=ac (HB1.out.trans (hb2.mono HB1.out.size))
   clear hb2 c0 c1
   by_cases hf:kD (x,y)=true
   ·have HA2:aa (a9 (dx xs) (k + 1)=true):=by
     rw[aa,a9,HA.out,dx,<-HXK.out,hf];rfl
    rw[hf]
    clear hf
    go_wp2_with fail
    go_roundg (n - (k + 1))
    case measure=>omega
    case rel=>exact⟨k + 1,by omega,rfl,by omega,HA2,HB2⟩
   ·have hf':kD (x,y)=false:=by simpa using hf
    have HF:aa (a9 (dx xs) n=false):=ee _ k n hlt (by rw[dx,<-HXK.out];exact hf')
    rw[hf']
    clear hf hf'
    go_wp2_with fail
    go_ret
    exact⟨by rw[HF.out];rfl,HB2.out⟩
  ·have hki:¬(k:Int)<n:=by omega
   have hkn:k=n:=by omega
   have HF:aa (a9 (dx xs) n=true):=by rw[<-hkn];exact HA
   clear hkn hlt HA
   go_wp2_with fail
   go_ret
   exact⟨by rw[HF.out];rfl,HB.out⟩
def bP (d:RecD):RecD:=
 if d.kind=1 then {d with carriers:=0,commit:=0,reveal:=0,scheme:=0,lots:=[],owners:=[]}
 else if d.kind=2 then {d with lot:=0,barred:=[]}
 else if d.kind=3 then {d with carrier:=0,dig:=List.replicate 32 0}
 else if d.kind=4 then {d with carrier:=0,bid:=0,nonce:=0}
 else if d.kind=5 then {d with state:=0,winner:=0,price:=0}
 else d
def dm (d:RecD):Bool:=decide (d={kind:=d.kind,round:=d.round,tick:=d.tick})
def dO (d:RecD):Bool:=decide (0<=d.tick) &&aE d.round 0 15
def lr (d:RecD):Bool:=((((aE d.carriers 1 8 &&(aE d.commit 1 64 &&(aE d.reveal 1 64 &&(aE d.scheme 0 1 &&(decide ((d.lots.length:Int)<=16) &&decide ((d.owners.length:Int)<=64)))))) &&a9 (dx d.lots) d.lots.length) &&a9 (fT d.owners) d.owners.length) &&decide (d.tick=0)) &&decide (d.round=0)
def bT (d:RecD):Bool:=
 if d.kind=1 then lr d
 else if d.kind=2 then (dO d &&aE d.lot 0 15) &&a9 (bO d.barred) d.barred.length
 else if d.kind=3 then dO d &&aE d.carrier 0 7
 else if d.kind=4 then (dO d &&aE d.carrier 0 7) &&decide (d.bid<=4294967296)
 else if d.kind=5 then dO d &&di d.state d.winner d.price
 else if d.kind=6 then dO d &&decide (d.round=0)
 else false
def cF (d:RecD):Bool:=bT d &&dm (bP d)
structure RecD.ok (d:RecD):Prop where
 len:d.dig.length=32
 dig:Bs d.dig
 tick:-9223372036854775808<=d.tick/\d.tick<=9223372036854775807
 bid:0<=d.bid/\d.bid<=18446744073709551615
 nonce:0<=d.nonce/\d.nonce<=18446744073709551615
 price:0<=d.price/\d.price<=18446744073709551615
 kind:-9223372036854775808<=d.kind/\d.kind<=9223372036854775807
 lot:-9223372036854775808<=d.lot/\d.lot<=9223372036854775807
 carrier:-9223372036854775808<=d.carrier/\d.carrier<=9223372036854775807
 carriers:-9223372036854775808<=d.carriers/\d.carriers<=9223372036854775807
 commit:-9223372036854775808<=d.commit/\d.commit<=9223372036854775807
 reveal:-9223372036854775808<=d.reveal/\d.reveal<=9223372036854775807
 scheme:-9223372036854775808<=d.scheme/\d.scheme<=9223372036854775807
 rows:d.barred.length + d.lots.length + d.owners.length<=1099511627776
def cR (xs:List Int):List Int:=(xs.length:Int) :: xs
def oH (xs:List (Int × Int)):List Int:=xs.flatMap fun x=>x.1 :: be 4 x.2
def dE (xs:List (Int × Int)):List Int:=(xs.length:Int) :: oH xs
def dA (d:RecD):List Int:=
 if d.kind=1 then [1,d.carriers,d.commit,d.reveal,d.scheme]++dE d.lots++cR d.owners
 else if d.kind=2 then [2,d.round,d.lot]++be 8 d.tick++cR d.barred
 else if d.kind=3 then [3,d.round,d.carrier]++d.dig++be 8 d.tick
 else if d.kind=4 then [4,d.round,d.carrier]++be 8 d.bid++be 8 d.nonce++be 8 d.tick
 else if d.kind=5 then [5,d.round,d.state,d.winner + 1]++be 8 d.price++be 8 d.tick
 else [6]++be 8 d.tick
def dp (d:RecD):ByteArray:=strOfNums (dA d)
def wK (k:Int) (t:ByteArray):Prop:=
 if k=1 then pw t else if k=2 then r9 t else if k=3 then mS t else if k=4 then mR t else if k=5 then pv t else wG t
instance (k:Int) (t:ByteArray):Decidable (wK k t):=by unfold wK;infer_instance
theorem bm (xs:List (Int × Int)):(oH xs).length=5 * xs.length:=by
 induction xs with
 | nil=>rfl
 | cons x xs ih=>
  show (x.1 :: be 4 x.2++oH xs).length=_
  rw[List.length_append,List.length_cons,aR,ih,List.length_cons]
  omega
theorem wL (xs:List (Int × Int)) (h:∀x∈xs,0<=x.1/\x.1<=255):Bs (oH xs):=by
 induction xs with
 | nil=>exact Bs.nil
 | cons x xs ih=>
  show Bs (x.1 :: be 4 x.2++oH xs)
  exact (Bs.cons (h x (by simp)) (jL 4 _)).append (ih fun y hy=>h y (by simp[hy]))
open Vk (vickOf)
abbrev OutT:=Int × Int × Int
structure Opn where
 round:Int
 lot:Int
 tick:Int
 marks:Int->Option (List Int)
 bids:Int->Option Int
structure MSt where
 scene:RecD:={}
 owners:List Int:=[]
 states:List Int:=[]
 outs:List OutT:=[]
 opn:Option Opn:=none
 barred:List Int:=[]
 tick:Int:=0
 ended : Bool := false
def MSt.req (st:MSt) (lot:Nat):Nat:=(st.scene.lots.getD lot (0,0)).1.toNat
def MSt.owner (st:MSt) (lot:Nat):Int:=st.owners.getD (st.req lot) 0
def MSt.due (st:MSt):Int:=st.scene.commit + st.scene.reveal
def j1 (s:Int):Int:=if s=0\/s=1 then 5 else s
def ci (n:Nat) (l:List Int):List Int:=(l.take n).map j1++l.drop n
def jI {α:Type} (f:Int->Option α) (k:Int) (v:α):Int->Option α:=fun c=>if c=k then some v else f c
def hJ (d:RecD):Prop:=
 (∀ k,k<d.lots.length->(∀ j,j<k->(d.lots.getD j (0,0)).1≠(d.lots.getD k (0,0)).1)/\(d.lots.getD k (0,0)).1<d.owners.length)/\∀k,k<d.owners.length->d.owners.getD k 0<d.carriers
instance (d:RecD):Decidable (hJ d):=by unfold hJ;infer_instance
def iC (st:MSt) (d:RecD):MSt:={st with scene:={d with owners:=[]},owners:=d.owners,states:=List.replicate d.lots.length 0}
def gm (st:MSt) (d:RecD):Prop:=
 st.opn.isNone=true/\d.round=st.outs.length/\d.lot<st.states.length/\st.states.getD d.lot.toNat 0=0/\st.owner d.lot.toNat∉d.barred/\
  (∀ i,i<d.lot.toNat->st.states.getD i 0=0->st.owner i∈d.barred)/\(∀ c∈st.barred,c∈d.barred)/\(0<d.barred.length->d.barred.getD (d.barred.length - 1) 0<st.scene.carriers)
instance (st:MSt) (d:RecD):Decidable (gm st d):=by unfold gm;infer_instance
def j2 (st:MSt) (d:RecD):MSt:=
 {st with barred:=d.barred,states:=(ci d.lot.toNat st.states).set d.lot.toNat 1,opn:=some {round:=d.round,lot:=d.lot,tick:=d.tick,marks:=fun _=>none,bids:=fun _=>none}}
def ef (st:MSt) (o:Opn) (d:RecD):Prop:=
 d.round=o.round/\d.tick - o.tick<st.scene.commit/\d.carrier<st.scene.carriers/\d.carrier∉st.barred/\d.carrier≠st.owner o.lot.toNat/\(o.marks d.carrier).isNone=true
instance (st:MSt) (o:Opn) (d:RecD):Decidable (ef st o d):=by unfold ef;infer_instance
def jd (st:MSt) (o:Opn) (d:RecD):MSt:={st with opn:=some {o with marks:=jI o.marks d.carrier d.dig}}
def b9 (opf:List Int->RecD->Bool) (st:MSt) (o:Opn) (d:RecD):Prop:=
 d.round=o.round/\st.scene.commit<=d.tick - o.tick/\d.tick - o.tick<st.due/\(o.marks d.carrier).isSome=true/\(o.bids d.carrier).isNone=true/\(st.scene.scheme=0->opf ((o.marks d.carrier).getD []) d=true)
instance (opf:List Int->RecD->Bool) (st:MSt) (o:Opn) (d:RecD):Decidable (b9 opf st o d):=by unfold b9;infer_instance
def fm (st:MSt) (o:Opn) (d:RecD):MSt:={st with opn:=some {o with bids:=jI o.bids d.carrier d.bid}}
def d8 (f:Int->Option Int):Nat->List (Int × Int)
 | 0=>[]
 | n + 1=>d8 f n++(match f n with | some b=>[((n:Int),b)] | none=>[])
def tF (st:MSt) (o:Opn) (d:RecD):OutT:=
 let x:=vickOf (d8 o.bids st.scene.carriers.toNat) (st.scene.lots.getD o.lot.toNat (0,0)).2
 if x.1=2/\d.state=4 then (4,x.2) else x
def eJ (st:MSt) (o:Opn) (d:RecD):Prop:=d.round=o.round/\d.tick - o.tick=st.due/\tF st o d=(d.state,d.winner,d.price)
instance (st:MSt) (o:Opn) (d:RecD):Decidable (eJ st o d):=by unfold eJ;infer_instance
def eY (st:MSt) (o:Opn) (d:RecD):MSt:=
 {st with owners:=if d.state=2 then st.owners.set (st.req o.lot.toNat) d.winner else st.owners,states:=st.states.set o.lot.toNat d.state,outs:=st.outs++[(d.state,d.winner,d.price)],opn:=none}
def iU (st:MSt) (d:RecD):Prop:=(match st.opn with | none=>True | some o=>d.tick - o.tick<st.due)
instance (st:MSt) (d:RecD):Decidable (iU st d):=by unfold iU;cases st.opn <;> infer_instance
def im (st:MSt):MSt:={st with states:=ci st.states.length st.states,opn:=none,ended:=true}
def gp (opf:List Int->RecD->Bool) (st:MSt) (d:RecD):Option MSt:=
 if d.kind=1 then (if hJ d then some (iC st d) else none)
 else if d.kind=2 then (if gm st d then some (j2 st d) else none)
 else if d.kind=3 then (match st.opn with | none=>none | some o=>if ef st o d then some (jd st o d) else none)
 else if d.kind=4 then (match st.opn with | none=>none | some o=>if b9 opf st o d then some (fm st o d) else none)
 else if d.kind=5 then (match st.opn with | none=>none | some o=>if eJ st o d then some (eY st o d) else none)
 else (if iU st d then some (im st) else none)
def fo (st:MSt) (d:RecD):Prop:=st.ended=false/\(decide (st.scene.kind≠0)≠decide (d.kind=1))/\st.tick<=d.tick
instance (st:MSt) (d:RecD):Decidable (fo st d):=by unfold fo;infer_instance
def cd (opf:List Int->RecD->Bool) (st:MSt) (d:RecD):Int × MSt:=
 if cF d=true then (if fo st d then (match gp opf st d with | some st'=>(0,{st' with tick:=d.tick}) | none=>(22,st)) else (22,st)) else (15,st)
def eC (opf:List Int->RecD->Bool) (st:MSt) (ds:List RecD):MSt:=ds.foldl (fun s d=>(cd opf s d).2) st
structure MSt.Wf (st:MSt):Prop where
 lens:st.states.length=st.scene.lots.length
 fresh:st.scene.kind=0->st.states=[]/\st.owners=[]/\st.opn=none/\st.outs=[]/\st.barred=[]
 reqs:∀k,k<st.scene.lots.length->0<=(st.scene.lots.getD k (0,0)).1/\(st.scene.lots.getD k (0,0)).1<st.owners.length
 resv:∀k,k<st.scene.lots.length->0<=(st.scene.lots.getD k (0,0)).2/\(st.scene.lots.getD k (0,0)).2<=16777216
 nlots:st.scene.lots.length<=16
 nown:st.owners.length<=64
 carr:0<=st.scene.carriers/\st.scene.carriers<=8
 comm:0<=st.scene.commit/\st.scene.commit<=64
 revl:0<=st.scene.reveal/\st.scene.reveal<=64
 opn:∀o,st.opn=some o->(0<=o.lot/\o.lot<st.states.length)/\0<=o.tick/\o.tick<=9223372036854775807
 tick:0<=st.tick/\st.tick<=9223372036854775807
 own:∀x∈st.owners,0<=x/\x<st.scene.carriers
 scn:st.scene.kind=0\/st.scene.kind=1
 nbar:st.barred.length<=8
theorem Ar (d:RecD) (hk:d.kind=1) (h:dm (bP d)=true):d={kind:=1,round:=d.round,tick:=d.tick,carriers:=d.carriers,commit:=d.commit,reveal:=d.reveal,scheme:=d.scheme,lots:=d.lots,owners:=d.owners}:=by
 rcases d with ⟨kind,round,lot,carrier,tick,barred,dig,bid,nonce,state,winner,price,carriers,commit,reveal,scheme,lots,owners⟩
 simp only at hk
 subst hk
 simpa [dm,bP] using h
theorem wM (d:RecD) (hk:d.kind=2) (h:dm (bP d)=true):d={kind:=2,round:=d.round,tick:=d.tick,lot:=d.lot,barred:=d.barred}:=by
 rcases d with ⟨kind,round,lot,carrier,tick,barred,dig,bid,nonce,state,winner,price,carriers,commit,reveal,scheme,lots,owners⟩
 simp only at hk
 subst hk
 simpa [dm,bP] using h
theorem As (d:RecD) (hk:d.kind=3) (h:dm (bP d)=true):d={kind:=3,round:=d.round,tick:=d.tick,carrier:=d.carrier,dig:=d.dig}:=by
 rcases d with ⟨kind,round,lot,carrier,tick,barred,dig,bid,nonce,state,winner,price,carriers,commit,reveal,scheme,lots,owners⟩
 simp only at hk
 subst hk
 simpa [dm,bP] using h
theorem At (d:RecD) (hk:d.kind=4) (h:dm (bP d)=true):d={kind:=4,round:=d.round,tick:=d.tick,carrier:=d.carrier,bid:=d.bid,nonce:=d.nonce}:=by
 rcases d with ⟨kind,round,lot,carrier,tick,barred,dig,bid,nonce,state,winner,price,carriers,commit,reveal,scheme,lots,owners⟩
 simp only at hk
 subst hk
 simpa [dm,bP] using h
theorem Au (d:RecD) (hk:d.kind=5) (h:dm (bP d)=true):d={kind:=5,round:=d.round,tick:=d.tick,state:=d.state,winner:=d.winner,price:=d.price}:=by
 rcases d with ⟨kind,round,lot,carrier,tick,barred,dig,bid,nonce,state,winner,price,carriers,commit,reveal,scheme,lots,owners⟩
 simp only at hk
 subst hk
 simpa [dm,bP] using h
theorem Av (d:RecD) (hk:d.kind=6) (h:dm (bP d)=true):d={kind:=6,round:=d.round,tick:=d.tick}:=by
 rcases d with ⟨kind,round,lot,carrier,tick,barred,dig,bid,nonce,state,winner,price,carriers,commit,reveal,scheme,lots,owners⟩
 simp only at hk
 subst hk
 simpa [dm,bP] using h
theorem eK {d:RecD} (h:cF d=true):bT d=true/\dm (bP d)=true:=by rw[cF,Bool.and_eq_true] at h;exact h
theorem dW {d:RecD} (h:cF d=true):1<=d.kind/\d.kind<=6:=by
 have h1:=(eK h).1
 unfold bT at h1
 by_cases e1:d.kind=1
 ·omega
 by_cases e2:d.kind=2
 ·omega
 by_cases e3:d.kind=3
 ·omega
 by_cases e4:d.kind=4
 ·omega
 by_cases e5:d.kind=5
 ·omega
 by_cases e6:d.kind=6
 ·omega
 rw[if_neg e1,if_neg e2,if_neg e3,if_neg e4,if_neg e5,if_neg e6] at h1
 cases h1
theorem dX (x lo hi:Int):aE x lo hi=true↔lo<=x/\x<=hi:=by simp[aE]
theorem je (d:RecD):dO d=true↔0<=d.tick/\0<=d.round/\d.round<=15:=by simp[dO,dX]
theorem sh {d:RecD} (hk:d.kind=1) (h:bT d=true):(1<=d.carriers/\d.carriers<=8)/\(1<=d.commit/\d.commit<=64)/\(1<=d.reveal/\d.reveal<=64)/\(0<=d.scheme/\d.scheme<=1)/\d.lots.length<=16/\d.owners.length<=64/\(∀ x∈d.lots,(0<=x.1/\x.1<=63)/\0<=x.2/\x.2<=16777216)/\(∀ x∈d.owners,0<=x/\x<=7)/\d.tick=0/\d.round=0:=by
 rw[bT,if_pos hk] at h
 simp only[lr,Bool.and_eq_true,dX,decide_eq_true_eq,eV] at h
 obtain⟨⟨⟨⟨⟨h1,h2,h3,h4,h5,h6⟩,h7⟩,h8⟩,h9⟩,h10⟩:=h
 refine⟨h1,h2,h3,h4,by omega,by omega,fun x hx=>?_,fun x hx=>?_,h9,h10⟩
 ·obtain⟨k,hk,rfl⟩:=List.mem_iff_getElem.1 hx
  have:=h7 k hk
  simp only[dx,kD,List.getD_eq_getElem?_getD,List.getElem?_eq_getElem hk,Option.getD_some,Bool.and_eq_true,dX] at this
  exact this
 ·obtain⟨k,hk,rfl⟩:=List.mem_iff_getElem.1 hx
  have:=h8 k hk
  simp only[fT,List.getD_eq_getElem?_getD,List.getElem?_eq_getElem hk,Option.getD_some,dX] at this
  exact this
theorem wN {d:RecD} (hk:d.kind=2) (h:bT d=true):(0<=d.tick/\0<=d.round/\d.round<=15)/\(0<=d.lot/\d.lot<=15)/\(∀ k,k<d.barred.length->(0<=d.barred.getD k 0/\d.barred.getD k 0<=7)/\(k=0\/d.barred.getD (k - 1) 0<d.barred.getD k 0)):=by
 rw[bT,if_neg (by omega),if_pos hk] at h
 simp only[Bool.and_eq_true,dX,je,eV,bO,Bool.or_eq_true,decide_eq_true_eq] at h
 exact⟨h.1.1,h.1.2,h.2⟩
theorem wO {d:RecD} (hk:d.kind=3) (h:bT d=true):(0<=d.tick/\0<=d.round/\d.round<=15)/\0<=d.carrier/\d.carrier<=7:=by
 rw[bT,if_neg (by omega),if_neg (by omega),if_pos hk] at h
 simpa only[Bool.and_eq_true,dX,je] using h
theorem wP {d:RecD} (hk:d.kind=4) (h:bT d=true):((0<=d.tick/\0<=d.round/\d.round<=15)/\0<=d.carrier/\d.carrier<=7)/\d.bid<=4294967296:=by
 rw[bT,if_neg (by omega),if_neg (by omega),if_neg (by omega),if_pos hk] at h
 simpa only[Bool.and_eq_true,dX,je,decide_eq_true_eq] using h
theorem wQ {d:RecD} (hk:d.kind=5) (h:bT d=true):(0<=d.tick/\0<=d.round/\d.round<=15)/\((d.state=3/\d.winner=-1/\d.price=0)\/((d.state=2\/d.state=4)/\0<=d.winner/\d.winner<=7/\d.price<=16777216)):=by
 rw[bT,if_neg (by omega),if_neg (by omega),if_neg (by omega),if_neg (by omega),if_pos hk] at h
 simp only[Bool.and_eq_true,je] at h
 refine⟨h.1,?_⟩
 have h2:=h.2
 unfold di at h2
 by_cases e:d.state=3
 ·rw[if_pos e] at h2
  simp only[Bool.and_eq_true,decide_eq_true_eq] at h2
  exact .inl ⟨e,h2⟩
 ·rw[if_neg e] at h2
  simp only[Bool.and_eq_true,Bool.or_eq_true,decide_eq_true_eq,dX] at h2
  exact .inr ⟨h2.1.1,h2.1.2.1,h2.1.2.2,h2.2⟩
theorem Aw {d:RecD} (hk:d.kind=6) (h:bT d=true):(0<=d.tick/\0<=d.round/\d.round<=15)/\d.round=0:=by
 rw[bT,if_neg (by omega),if_neg (by omega),if_neg (by omega),if_neg (by omega),if_neg (by omega),if_pos hk] at h
 simpa only[Bool.and_eq_true,je,decide_eq_true_eq] using h
theorem qt (l:List Int) (h:∀k,k<l.length->(0<=l.getD k 0/\l.getD k 0<=7)/\(k=0\/l.getD (k - 1) 0<l.getD k 0)):l.length<=8:=by
 have up:∀k,k<l.length->(k:Int)<=l.getD k 0:=by
  intro k
  induction k with
  | zero=>intro hk;exact (h 0 hk).1.1
  | succ k ih=>
   intro hk
   have h1:=ih (by omega)
   rcases (h (k + 1) hk).2 with h2 | h2
   ·omega
   ·rw[Nat.add_sub_cancel] at h2
    omega
 rcases Nat.lt_or_ge 8 l.length with h8 | h8
 ·have h1:=up 8 h8
  have h2:=(h 8 h8).1.2
  omega
 ·exact h8
theorem qu (l:List Int) (h:∀k,k<l.length->(0<=l.getD k 0/\l.getD k 0<=7)/\(k=0\/l.getD (k - 1) 0<l.getD k 0)):∀x∈l,0<=x/\x<=7:=by
 intro x hx
 obtain⟨k,hk,rfl⟩:=List.mem_iff_getElem.1 hx
 have:=(h k hk).1
 rw[List.getD_eq_getElem?_getD,List.getElem?_eq_getElem hk] at this
 exact this
theorem qv (l:List Int) (hn:l.length<=255) (h:∀x∈l,0<=x/\x<=7):Bs (cR l):=Bs.cons (by omega) fun x hx=>by have:=h x hx;omega
theorem gq {d:RecD} (hm:cF d=true) (ho:d.ok):Bs (dA d)/\(dA d).length<=151/\0<(dA d).length:=by
 obtain⟨hr,_⟩:=eK hm
 have hk:=dW hm
 have nil:=Bs.nil
 by_cases e1:d.kind=1
 ·obtain⟨h1,h2,h3,h4,h5,h6,h7,h8,_⟩:=sh e1 hr
  rw[dA,if_pos e1]
  refine⟨((Bs.cons (by omega) (Bs.cons (by omega) (Bs.cons (by omega) (Bs.cons (by omega) (Bs.cons (by omega) nil))))).append (Bs.cons (by omega) (wL _ fun x hx=>by have:=h7 x hx;omega))).append (qv _ (by omega) h8),?_,?_⟩
  ·simp only[dE,cR,List.length_append,List.length_cons,List.length_nil,bm];omega
  ·simp
 rw[dA,if_neg e1]
 by_cases e2:d.kind=2
 ·obtain⟨h1,h2,h3⟩:=wN e2 hr
  have hl:=qt _ h3
  rw[if_pos e2]
  refine⟨((Bs.cons (by omega) (Bs.cons (by omega) (Bs.cons (by omega) nil))).append (jL _ _)).append (qv _ (by omega) (qu _ h3)),?_,?_⟩
  ·simp only[cR,List.length_append,List.length_cons,List.length_nil,aR];omega
  ·simp
 rw[if_neg e2]
 by_cases e3:d.kind=3
 ·obtain⟨h1,h2,h3⟩:=wO e3 hr
  rw[if_pos e3]
  refine⟨((Bs.cons (by omega) (Bs.cons (by omega) (Bs.cons (by omega) nil))).append ho.dig).append (jL _ _),?_,?_⟩
  ·simp only[List.length_append,List.length_cons,List.length_nil,aR,ho.len];omega
  ·simp
 rw[if_neg e3]
 by_cases e4:d.kind=4
 ·obtain⟨⟨h1,h2⟩,h3⟩:=wP e4 hr
  rw[if_pos e4]
  refine⟨(((Bs.cons (by omega) (Bs.cons (by omega) (Bs.cons (by omega) nil))).append (jL _ _)).append (jL _ _)).append (jL _ _),?_,?_⟩
  ·simp only[List.length_append,List.length_cons,List.length_nil,aR];omega
  ·simp
 rw[if_neg e4]
 by_cases e5:d.kind=5
 ·obtain⟨h1,h2⟩:=wQ e5 hr
  rw[if_pos e5]
  refine⟨((Bs.cons (by omega) (Bs.cons (by omega) (Bs.cons (by omega) (Bs.cons (by omega) nil)))).append (jL _ _)).append (jL _ _),?_,?_⟩
  ·simp only[List.length_append,List.length_cons,List.length_nil,aR];omega
  ·simp
 rw[if_neg e5]
 refine⟨(Bs.cons (by omega) nil).append (jL _ _),?_,?_⟩
 ·simp only[List.length_append,List.length_cons,List.length_nil,aR];omega
 ·simp
theorem eL (base:Nat) (t ty e:TypeId) (i:TypeInfo) (size c:Nat) (ht:prog.underlying t=some (.slice e)) (hi:prog.info? e=some i) {w:World}
  (v:Value) (n:Nat) (xs:List Value) (hown:w.ownsRow base e size v n xs):
  (Builtin.append_ #[t,t] ty #[v,.slice none 0 c]).run prog w=.ok v w:=by
 rcases hown.2 with ⟨rfl,rfl⟩ | ⟨g,cap,cur,rfl,_,_,hnc,_⟩
 ·simp[Builtin.append_,run_underlying ht,sizeOf,typeInfo,hi,Builtin.lenOf,Builtin.firstCells]
 ·simp[Builtin.append_,run_underlying ht,sizeOf,typeInfo,hi,Builtin.lenOf,Builtin.firstCells,hnc,storeCells]
theorem cD {ops:Array Oper} {rest:List Oper} {o:Oper} {a:Act} {Q:Exit->Act->World->Prop} {w:World} (hgd:o.guard=none) (s x:Operand) (S E:TypeId)
  (ho:o.op=.call {callee:=.builtin .append,args:=#[s,x],argTypes:=#[S,S]})
  (z:Value) (size bytes:Nat) (hS:prog.underlying S=some (.slice E)) (hE:(prog.info? E).map (fun i=>(i.zero,i.size,i.bytes))=some (some z,size,bytes)) (hzs:z.cells.size=size) (hsz:0<size)
  (base:Nat) (v:Value) (n:Nat) (xs:List Value) (hs:a.eval s=v) (hown:w.ownsRow base E size v n xs) (p:Option Addr) (m c:Nat) (ys:List Value) (hx:a.eval x=.slice p m c) (hyl:ys.length=m * size) (hone:∀u∈ys,u.oneCell'=true)
  (hsrc:0<m->∃lb lo,p=some ⟨lb,lo,none⟩/\∀j u,ys[j]?=some u->w.cell? ⟨lb,lo + j,none⟩=some u)
  (hlen:n + m<=maxLen) (hby:(n + m) * bytes<=140737488355328) (hbase:base<=w.heap.size)
  (h:∀v' w',w'.ownsRow base E size v' (n + m) (xs++ys)->w.grownBy w' v.ownBlock->wpList prog ops Q rest (a.put o.dst v') w'):wpList prog ops Q (o :: rest) a w:=by
 obtain⟨i0,hi,hz0,hz1,hz2⟩:=info_parts hE
 refine wpList_plain hgd fun K hK=>?_
 have key:∀ad,p=some ad->(∀ j u,ys[j]?=some u->w.cell? (ad.add j)=some u)->o.wp prog a w K Q:=fun ad hp hnews=>by
  subst hp
  exact wp_append_own w s x S ho base E i0 z size bytes hS hi hz0 hz1 hz2 hzs hsz v n xs hs hown ad m c ys hx hyl hnews hone hlen hby hbase fun v' w' hown' hgrow _=>hK _ _ (h v' w' hown' hgrow)
 by_cases h0:0<m
 ·obtain⟨lb,lo,hp,hc⟩:=hsrc h0
  refine key _ hp fun j u hu=>?_
  have hadd:(⟨lb,lo,none⟩:Addr).add j=⟨lb,lo + j,none⟩:=by
   unfold Addr.add
   split
   ·rename_i hk;subst hk;rfl
   ·rfl
  rw[hadd]
  exact hc j u hu
 ·obtain rfl:m=0:=by omega
  have hy:ys=[]:=List.length_eq_zero_iff.1 (by rw[hyl,Nat.zero_mul])
  subst hy
  cases p with
  | some ad=>exact key ad rfl fun j u hu=>by simp at hu
  | none=>
   have hrun:=eL base S o.type E i0 size c hS hi v n xs hown
   unfold Oper.wp
   simp[execOp,ho,resolve,invoke,builtin,hs,hx,hrun,Result.andThen]
   exact hK _ _ (h v w (by rw[List.append_nil];exact hown) ⟨rfl,rfl,rfl,Nat.le_refl _,fun _ _ _=>rfl⟩)
def Rw (O:Nat->Prop) (B:Nat) (w:World) (k:Nat):Prop:=O k\/dV B w k
def iV (O:Nat->Prop) (B:Nat) (w:World) (v:Value) (xs:List Int):Prop:=
 ∃a cap,v=.slice a xs.length cap/\xs.length<=cap/\(0<xs.length->∃lb lo,a=some ⟨lb,lo,none⟩/\lb<w.heap.size/\Rw O B w lb/\∀j,j<xs.length->w.cell? ⟨lb,lo + j,none⟩=some (.int .i64 (xs.getD j 0)))
def jP (O:Nat->Prop) (B:Nat) (w:World) (v:Value) (xs:List (Int × Int)):Prop:=
 ∃a cap,v=.slice a xs.length cap/\xs.length<=cap/\(0<xs.length->∃lb lo,a=some ⟨lb,lo,none⟩/\lb<w.heap.size/\Rw O B w lb/\∀j,j<xs.length->w.cell? ⟨lb,lo + j * 2,none⟩=some (.int .i64 (xs.getD j (0,0)).1)/\w.cell? ⟨lb,lo + j * 2 + 1,none⟩=some (.int .i64 (xs.getD j (0,0)).2))
theorem iV.row {O:Nat->Prop} {B:Nat} {w:World} {v:Value} {xs:List Int} (h:iV O B w v xs):bA w v xs:=by
 obtain⟨a,cap,e,hc,h⟩:=h
 exact⟨a,cap,e,hc,fun h0=>by obtain⟨lb,lo,ea,hl,_,hj⟩:=h h0;exact⟨lb,lo,ea,hl,hj⟩⟩
theorem jP.row {O:Nat->Prop} {B:Nat} {w:World} {v:Value} {xs:List (Int × Int)} (h:jP O B w v xs):cZ w v xs:=by
 obtain⟨a,cap,e,hc,h⟩:=h
 exact⟨a,cap,e,hc,fun h0=>by obtain⟨lb,lo,ea,hl,_,hj⟩:=h h0;exact⟨lb,lo,ea,hl,hj⟩⟩
theorem dV.keeps {B:Nat} {w w':World} {k:Nat} {K:Nat->Prop} (h:dV B w k) (hk:am K w w') (hK:K k):dV B w' k:=by
 obtain⟨hb,cur,h | h⟩:=h
 ·exact⟨hb,cur,.inl (aw h hk hK)⟩
 ·exact⟨hb,cur,.inr (aw h hk hK)⟩
theorem Rw.keeps {O:Nat->Prop} {B:Nat} {w w':World} {k:Nat} {K:Nat->Prop} (h:Rw O B w k) (hk:am K w w') (hK:K k):Rw O B w' k:=h.imp_right fun h=>h.keeps hk hK
theorem iV.keeps {O:Nat->Prop} {B:Nat} {K:Nat->Prop} {w w':World} {v:Value} {xs:List Int} (h:iV O B w v xs) (hk:am K w w') (hK:∀k,k<w.heap.size->Rw O B w k->K k):iV O B w' v xs:=by
 obtain⟨a,cap,e,hc,h⟩:=h
 refine⟨a,cap,e,hc,fun h0=>?_⟩
 obtain⟨lb,lo,ea,hl,hr,hj⟩:=h h0
 have hK':=hK lb hl hr
 exact⟨lb,lo,ea,Nat.lt_of_lt_of_le hl hk.size,hr.keeps hk hK',fun j h1=>aJ (hj j h1) hk hK'⟩
theorem jP.keeps {O:Nat->Prop} {B:Nat} {K:Nat->Prop} {w w':World} {v:Value} {xs:List (Int × Int)} (h:jP O B w v xs) (hk:am K w w') (hK:∀k,k<w.heap.size->Rw O B w k->K k):jP O B w' v xs:=by
 obtain⟨a,cap,e,hc,h⟩:=h
 refine⟨a,cap,e,hc,fun h0=>?_⟩
 obtain⟨lb,lo,ea,hl,hr,hj⟩:=h h0
 have hK':=hK lb hl hr
 exact⟨lb,lo,ea,Nat.lt_of_lt_of_le hl hk.size,hr.keeps hk hK',fun j h1=>⟨aJ (hj j h1).1 hk hK',aJ (hj j h1).2 hk hK'⟩⟩
theorem iV.from_ {O:Nat->Prop} {B:Nat} {w:World} {v:Value} {xs:List Int} (h:de B w v xs):iV O B w v xs:=by
 obtain⟨a,cap,e,hc,h⟩:=h
 refine⟨a,cap,e,hc,fun h0=>?_⟩
 obtain⟨lb,lo,cur,ea,hB,hl,hj⟩:=h h0
 exact⟨lb,lo,ea,aK hl,.inr ⟨hB,cur,.inl hl⟩,hj⟩
theorem jP.from_ {O:Nat->Prop} {B:Nat} {w:World} {v:Value} {xs:List (Int × Int)} (h:d7 B w v xs):jP O B w v xs:=by
 obtain⟨a,cap,e,hc,h⟩:=h
 refine⟨a,cap,e,hc,fun h0=>?_⟩
 obtain⟨lb,lo,cur,ea,hB,hl,hj⟩:=h h0
 exact⟨lb,lo,ea,aK hl,.inr ⟨hB,cur,.inr hl⟩,hj⟩
def cS (O:Nat->Prop) (B:Nat) (w:World) (v:RecV) (d:RecD):Prop:=
 ∃b l o,v=d.toV b l o/\iV O B w b d.barred/\jP O B w l d.lots/\iV O B w o d.owners
theorem cS.at_ {O:Nat->Prop} {B:Nat} {w:World} {v:RecV} {d:RecD} (h:cS O B w v d):bu w v d:=by
 obtain⟨b,l,o,e,h1,h2,h3⟩:=h
 exact⟨b,l,o,e,h1.row,h2.row,h3.row⟩
theorem cS.keeps {O:Nat->Prop} {B:Nat} {K:Nat->Prop} {w w':World} {v:RecV} {d:RecD} (h:cS O B w v d) (hk:am K w w') (hK:∀k,k<w.heap.size->Rw O B w k->K k):cS O B w' v d:=by
 obtain⟨b,l,o,e,h1,h2,h3⟩:=h
 exact⟨b,l,o,e,h1.keeps hk hK,h2.keeps hk hK,h3.keeps hk hK⟩
theorem cS.on {O:Nat->Prop} {B:Nat} {w w':World} {v:RecV} {d:RecD} (h:cS O B w v d) (hb:Below w.heap.size w w'):cS O B w' v d:=h.keeps (ak hb (fun _=>True)) (fun _ _ _=>trivial)
theorem cS.from_ {O:Nat->Prop} {B:Nat} {w:World} {v:RecV} {d:RecD} (h:bD B w v d):cS O B w v d:=by
 obtain⟨b,l,o,e,h1,h2,h3⟩:=h
 exact⟨b,l,o,e,.from_ h1,.from_ h2,.from_ h3⟩
theorem cS.one {O:Nat->Prop} {B:Nat} {w:World} {v:RecV} {d:RecD} (h:cS O B w v d):(ae v).all (·.oneCell')=true:=by
 obtain⟨b,l,o,rfl,⟨a1,c1,rfl,_⟩,⟨a2,c2,rfl,_⟩,⟨a3,c3,rfl,_⟩⟩:=h
 exact aM _ rfl rfl rfl
theorem eight (x:Int) (h:0<=x/\x<=18446744073709551615):x<256 ^ 8:=by
 simp
 omega
theorem dL:Bs (List.replicate 32 0):=fun x hx=>by rw[(List.mem_replicate.1 hx).2];omega
end Go.Proofs.YtfnekbfcndkjeaaGreatDoor
namespace Go.Proofs.YtfnekbfcndkjeaaGreatDoor
open Go.Proofs.Tryz Go.RowKit
theorem cG (x lo hi:Int) (w:World):Calls prog 87 #[.int .i64 x,.int .i64 lo,.int .i64 hi] w fun e w'=>e=.returned (.bool (aE x lo hi))/\w'=w:=by
 go_enter func87,ntmps87
 unfold aE
 by_cases h1:lo<=x
 ·by_cases h2:x<=hi
  ·have e1:decide (lo<=x)=true:=by simpa using h1
   have e2:decide (x<=hi)=true:=by simpa using h2
   go_wp2
   go_ret
   exact⟨by simp[e1,e2],rfl⟩
  ·have e1:decide (lo<=x)=true:=by simpa using h1
   have e2:decide (x<=hi)=false:=by simpa using h2
   go_wp2
   go_ret
   exact⟨rfl,rfl⟩
 ·have e1:decide (lo<=x)=false:=by simpa using h1
  go_wp2
  go_ret
  exact⟨rfl,rfl⟩
theorem pz (s x p:Int) (w:World):Calls prog 88 #[.agg #[.int .i64 s,.int .i64 x,.int .u64 p]] w fun e w'=>e=.returned (.bool (di s x p))/\Below w.heap.size w w':=by
 have hb:Below w.heap.size w (w.alloc (.cells #[.int .i64 s,.int .i64 x,.int .u64 p] 46)):=af _ _
 have HB:=ac hb
 clear hb
 go_enter func88,ntmps88
 by_cases h3:s=3
 ·subst h3
  by_cases h1:x=-1
  ·subst h1
   by_cases h2:p=0
   ·subst h2
    go_wp2
    go_ret
    exact⟨rfl,HB.out⟩
   ·have e2:(p==0)=false:=by simpa using h2
    have HR:aa (di 3 (-1) p=false):=by simp[aa,di,h2]
    go_wp2
    go_ret
    exact⟨by rw[HR.out];rfl,HB.out⟩
  ·have e1:(x==-1)=false:=by simpa using h1
   have HR:aa (di 3 x p=false):=by simp[aa,di,h1]
   go_wp2
   go_ret
   exact⟨by rw[HR.out];rfl,HB.out⟩
 ·have e3:(s==3)=false:=by simpa using h3
  by_cases h24:s=2\/s=4
  ·have HR0:di s x p=(aE x 0 7 &&decide (p<=16777216)):=by
    rcases h24 with rfl | rfl <;> simp[di]
   have HR:=ac HR0
   clear HR0 h3
   rcases h24 with rfl | rfl
   all_goals
    go_wp2_with fail
    refine (cG x 0 7 _).mono ?_
    rintro e w1 ⟨rfl,rfl⟩
    by_cases hw:aE x 0 7=true
    ·by_cases hp:p<=16777216
     ·have HF:=HR.out
      rw[hw,decide_eq_true hp] at HF
      have HF:=ac HF
      have e4:decide (p<=16777216)=true:=decide_eq_true hp
      clear hp
      go_wp2
      go_ret
      exact⟨by rw[HF.out];rfl,HB.out⟩
     ·have HF:=HR.out
      rw[hw,decide_eq_false hp] at HF
      have HF:=ac HF
      have e4:decide (p<=16777216)=false:=decide_eq_false hp
      clear hp
      go_wp2
      go_ret
      exact⟨by rw[HF.out];rfl,HB.out⟩
    ·have hw':aE x 0 7=false:=by simpa using hw
     have HF:=HR.out
     rw[hw'] at HF
     have HF:=ac HF
     clear hw
     go_wp2
     go_ret
     exact⟨by rw[HF.out];rfl,HB.out⟩
  ·have h2:¬s=2:=fun h=>h24 (.inl h)
   have h4:¬s=4:=fun h=>h24 (.inr h)
   have e2:(s==2)=false:=by simpa using h2
   have e4:(s==4)=false:=by simpa using h4
   have HR:aa (di s x p=false):=by simp[aa,di,h2,h3,h4]
   clear h24 h2 h3 h4
   go_wp2
   go_ret
   exact⟨by rw[HR.out];rfl,HB.out⟩
def dP (d:RecD):Bool:=((aE d.carriers 1 8 &&(aE d.commit 1 64 &&(aE d.reveal 1 64 &&(aE d.scheme 0 1 &&(decide ((d.lots.length:Int)<=16) &&decide ((d.owners.length:Int)<=64)))))) &&a9 (dx d.lots) d.lots.length) &&a9 (fT d.owners) d.owners.length
theorem ur (d:RecD):lr d=((dP d &&decide (d.tick=0)) &&decide (d.round=0)):=rfl
theorem si (rv:RecV) (d:RecD) (hrows:d.barred.length + d.lots.length + d.owners.length<=1099511627776) (w:World) (h:bu w rv d):
  Calls prog 86 #[.agg (ae rv)] w fun e w'=>e=.returned (.bool (dP d))/\Below w.heap.size w w':=by
 obtain⟨b,l,o,rfl,hb,hl,hw⟩:=h
 obtain⟨L,hL⟩:∃x,x=w.heap.size:=⟨_,rfl⟩
 obtain⟨w0,hw0⟩:∃z,z=w.alloc (.cells (ae (d.toV b l o)) 49):=⟨_,rfl⟩
 have HN0:aa (Below w.heap.size w w0):=by rw[hw0];exact af _ _
 have HR0:aa (ah w0 L (d.toV b l o)):=by rw[hw0,hL];exact ah.box _ _
 have HRL:aa (cZ w0 l d.lots):=hl.on HN0.out
 have HRW:aa (bA w0 o d.owners):=hw.on HN0.out
 have HLN:aa (d.lots.length<=1099511627776/\d.owners.length<=1099511627776):=⟨by omega,by omega⟩
 obtain⟨al,cl,rfl,_,_⟩:=hl
 obtain⟨ao,co,rfl,_,_⟩:=hw
 clear hb hrows
 obtain⟨S,hS⟩:∃S:Bool,S=dP d:=⟨_,rfl⟩
 have HSB:=ac hS
 rw[<-hS]
 clear hS
 go_enter func86,ntmps86
 go_upto_region 1 with fail
 rw[<-hw0,<-hL]
 clear hw0 hL
 obtain⟨nl,hnl⟩:∃n,n=d.lots.length:=⟨_,rfl⟩
 obtain⟨no,hno⟩:∃n,n=d.owners.length:=⟨_,rfl⟩
 have hln:=HLN.out
 rw[<-hnl,<-hno] at hln
 have c43:w0.cell? ⟨L,43,none⟩=some (.int .i64 d.carriers):=HR0.out.carriers
 have c44:w0.cell? ⟨L,44,none⟩=some (.int .i64 d.commit):=HR0.out.commit
 have c45:w0.cell? ⟨L,45,none⟩=some (.int .i64 d.reveal):=HR0.out.reveal
 have c46:w0.cell? ⟨L,46,none⟩=some (.int .i64 d.scheme):=HR0.out.scheme
 have c47:w0.cell? ⟨L,47,none⟩=some (.slice al nl cl):=by rw[hnl];exact HR0.out.lots
 have c48:w0.cell? ⟨L,48,none⟩=some (.slice ao no co):=by rw[hno];exact HR0.out.owners
 have HNL:=ac hnl
 have HNO:=ac hno
 clear hnl hno
 go_wp2_with fail
 refine (cG d.carriers 1 8 _).mono ?_
 rintro e wq ⟨rfl,hwq⟩
 rw[hwq]
 clear hwq wq
 obtain⟨B0,hB0⟩:∃B:Bool,B=aE d.carriers 1 8:=⟨_,rfl⟩
 rw[<-hB0]
 cases B0 with
 | false=>
  have HF:aa (S=false):=by rw[aa,HSB.out,dP,<-hB0];simp
  clear hB0
  go_wp2_with fail
  go_ret
  exact⟨by rw[HF.out];rfl,HN0.out⟩
 | true=>
  have HB0:aa (aE d.carriers 1 8=true):=hB0.symm
  clear hB0
  go_wp2_with fail
  refine (cG d.commit 1 64 _).mono ?_
  rintro e wq ⟨rfl,hwq⟩
  rw[hwq]
  clear hwq wq
  obtain⟨B1,hB1⟩:∃B:Bool,B=aE d.commit 1 64:=⟨_,rfl⟩
  rw[<-hB1]
  cases B1 with
  | false=>
   have HF:aa (S=false):=by rw[aa,HSB.out,dP,<-hB1];simp
   clear hB1
   go_wp2_with fail
   go_ret
   exact⟨by rw[HF.out];rfl,HN0.out⟩
  | true=>
   have HB1:aa (aE d.commit 1 64=true):=hB1.symm
   clear hB1
   go_wp2_with fail
   refine (cG d.reveal 1 64 _).mono ?_
   rintro e wq ⟨rfl,hwq⟩
   rw[hwq]
   clear hwq wq
   obtain⟨B2,hB2⟩:∃B:Bool,B=aE d.reveal 1 64:=⟨_,rfl⟩
   rw[<-hB2]
   cases B2 with
   | false=>
    have HF:aa (S=false):=by rw[aa,HSB.out,dP,<-hB2];simp
    clear hB2
    go_wp2_with fail
    go_ret
    exact⟨by rw[HF.out];rfl,HN0.out⟩
   | true=>
    have HB2:aa (aE d.reveal 1 64=true):=hB2.symm
    clear hB2
    go_wp2_with fail
    refine (cG d.scheme 0 1 _).mono ?_
    rintro e wq ⟨rfl,hwq⟩
    rw[hwq]
    clear hwq wq
    obtain⟨B3,hB3⟩:∃B:Bool,B=aE d.scheme 0 1:=⟨_,rfl⟩
    rw[<-hB3]
    cases B3 with
    | false=>
     have HF:aa (S=false):=by rw[aa,HSB.out,dP,<-hB3];simp
     clear hB3
     go_wp2_with fail
     go_ret
     exact⟨by rw[HF.out];rfl,HN0.out⟩
    | true=>
     have HB3:aa (aE d.scheme 0 1=true):=hB3.symm
     clear hB3
     by_cases hl16:nl<=16
     case neg=>
      have HF:aa (S=false):=by rw[aa,HSB.out,dP,decide_eq_false (p:=(d.lots.length:Int)<=16) (by have:=HNL.out;omega)];simp
      have e16:(16:Int)<nl:=by omega
      go_wp2_with fail
      go_ret
      exact⟨by rw[HF.out];rfl,HN0.out⟩
     have e16:¬(16:Int)<nl:=by omega
     by_cases ho64:no<=64
     case neg=>
      have HF:aa (S=false):=by rw[aa,HSB.out,dP,decide_eq_false (p:=(d.owners.length:Int)<=64) (by have:=HNO.out;omega)];simp
      have e64:(64:Int)<no:=by omega
      go_wp2_with fail
      go_ret
      exact⟨by rw[HF.out];rfl,HN0.out⟩
     have e64:¬(64:Int)<no:=by omega
     have HS2:aa (S=(a9 (dx d.lots) nl &&a9 (fT d.owners) no)):=by
      rw[aa,HSB.out,dP,HB0.out,HB1.out,HB2.out,HB3.out,decide_eq_true (p:=(d.lots.length:Int)<=16) (by have:=HNL.out;omega),decide_eq_true (p:=(d.owners.length:Int)<=64) (by have:=HNO.out;omega),<-HNL.out,<-HNO.out];rfl
     have H0:aa (a9 (dx d.lots) 0=true):=rfl
     go_wp2_with fail
     clear hl16 ho64 e16 e64 c43 c44 c45 c46 hln
     go_loopg [3] nl (fun gk v3 wr=>∃k:Nat,k<=nl/\v3=.int .i64 k/\nl - k<=gk/\aa (a9 (dx d.lots) k=true)/\wr=w0)
     case atStart=>exact⟨0,by omega,rfl,by omega,H0,rfl⟩
     case round=>
      clear H0
      obtain⟨k,hk,rfl,hgk,HA,hwr⟩:=hrel
      rw[hwr]
      clear hwr
      have hnl40:nl<=1099511627776:=by have:=HLN.out;have:=HNL.out;omega
      by_cases hlt:k<nl
      ·have hki:(k:Int)<nl:=by omega
       obtain⟨a',cap',e,_,hj0⟩:=HRL.out
       obtain⟨lb,lo,ea,hlb,hj⟩:=hj0 (by have:=HNL.out;omega)
       obtain⟨ea2,_,ec2⟩:=Value.slice.inj e
       clear hj0
       subst ec2
       subst ea2
       subst ea
       have hjk:=hj k (by rw[<-HNL.out];exact hlt)
       obtain⟨x,hxk⟩:∃x,x=d.lots.getD k (0,0):=⟨_,rfl⟩
       rw[<-hxk] at hjk
       obtain⟨x,y⟩:=x
       have HXK:=ac hxk
       obtain⟨d0,d1⟩:=hjk
       clear hj hxk e
       go_wp2_with fail
       refine (cG x 0 63 _).mono ?_
       rintro e wq ⟨rfl,hwq⟩
       rw[hwq]
       clear hwq wq
       obtain⟨B1,hB1⟩:∃B:Bool,B=aE x 0 63:=⟨_,rfl⟩
       rw[<-hB1]
       have HBA:=ac hB1
       clear hB1
       cases B1 with
       | false=>
        have HF:aa (S=false):=by
         have:=ee (dx d.lots) k nl hlt (by rw[dx,<-HXK.out,kD,<-HBA.out];rfl)
         rw[aa,HS2.out,this];rfl
        go_wp2_with fail
        go_ret
        exact⟨by rw[HF.out];rfl,HN0.out⟩
       | true=>
        go_wp2_with fail
        refine (cG y 0 16777216 _).mono ?_
        rintro e wq ⟨rfl,hwq⟩
        rw[hwq]
        clear hwq wq
        obtain⟨B2,hB2⟩:∃B:Bool,B=aE y 0 16777216:=⟨_,rfl⟩
        rw[<-hB2]
        have HBB:=ac hB2
        clear hB2
        cases B2 with
        | false=>
         have HF:aa (S=false):=by
          have:=ee (dx d.lots) k nl hlt (by rw[dx,<-HXK.out,kD,<-HBB.out];simp)
          rw[aa,HS2.out,this];rfl
         go_wp2_with fail
         go_ret
         exact⟨by rw[HF.out];rfl,HN0.out⟩
        | true=>
         have HA2:aa (a9 (dx d.lots) (k + 1)=true):=by
          rw[aa,a9,HA.out,dx,<-HXK.out,kD,<-HBA.out,<-HBB.out];rfl
         go_wp2_with fail
         go_roundg (nl - (k + 1))
         case measure=>omega
         case rel=>exact⟨k + 1,by omega,rfl,by omega,HA2,rfl⟩
      ·have hki:¬(k:Int)<nl:=by omega
       have hkn:k=nl:=by omega
       have HS3:aa (S=a9 (fT d.owners) no):=by rw[aa,HS2.out,<-hkn,HA.out];rfl
       have H0:aa (a9 (fT d.owners) 0=true):=rfl
       have hno40:no<=1099511627776:=by have:=HLN.out;have:=HNO.out;omega
       clear hkn hlt HA hgk
       go_wp2_with fail
       go_loopg [4] no (fun gk v4 wr=>∃k:Nat,k<=no/\v4=.int .i64 k/\no - k<=gk/\aa (a9 (fT d.owners) k=true)/\wr=w0)
       case atStart=>exact⟨0,by omega,rfl,by omega,H0,rfl⟩
       case round=>
        clear H0
        obtain⟨j,hj,rfl,hgj,HA,hwr⟩:=hrel
        rw[hwr]
        clear hwr
        by_cases hlt:j<no
        ·have hji:(j:Int)<no:=by omega
         obtain⟨a',cap',e,_,hj0⟩:=HRW.out
         obtain⟨lb,lo,ea,hlb,hjx⟩:=hj0 (by have:=HNO.out;omega)
         obtain⟨ea2,_,ec2⟩:=Value.slice.inj e
         clear hj0
         subst ec2
         subst ea2
         subst ea
         have d0:=hjx j (by rw[<-HNO.out];exact hlt)
         obtain⟨x,hxk⟩:∃x,x=d.owners.getD j 0:=⟨_,rfl⟩
         rw[<-hxk] at d0
         have HXK:=ac hxk
         clear hjx hxk e
         go_wp2_with fail
         refine (cG x 0 7 _).mono ?_
         rintro e wq ⟨rfl,hwq⟩
         rw[hwq]
         clear hwq wq
         obtain⟨B1,hB1⟩:∃B:Bool,B=aE x 0 7:=⟨_,rfl⟩
         rw[<-hB1]
         have HBA:=ac hB1
         clear hB1
         cases B1 with
         | false=>
          have HF:aa (S=false):=by
           have:=ee (fT d.owners) j no hlt (by rw[fT,<-HXK.out,<-HBA.out])
           rw[aa,HS3.out,this]
          go_wp2_with fail
          go_ret
          exact⟨by rw[HF.out];rfl,HN0.out⟩
         | true=>
          have HA2:aa (a9 (fT d.owners) (j + 1)=true):=by
           rw[aa,a9,HA.out,fT,<-HXK.out,<-HBA.out];rfl
          go_wp2_with fail
          go_roundg (no - (j + 1))
          case measure=>omega
          case rel=>exact⟨j + 1,by omega,rfl,by omega,HA2,rfl⟩
        ·have hji:¬(j:Int)<no:=by omega
         have hjn:j=no:=by omega
         have HF:aa (S=true):=by rw[aa,HS3.out,<-hjn];exact HA.out
         clear hjn hlt HA hgj
         go_wp2_with fail
         go_ret
         exact⟨by rw[HF.out];rfl,HN0.out⟩
