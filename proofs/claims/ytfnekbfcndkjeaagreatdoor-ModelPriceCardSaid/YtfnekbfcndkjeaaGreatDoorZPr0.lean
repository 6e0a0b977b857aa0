/- ModelPrice: what stands in its loop; marks and bids, plain. -/
import Derived.Test.YtfnekbfcndkjeaaGreatDoorZMlw
import Derived.Test.YtfnekbfcndkjeaaGreatDoorZRefPlain
set_option linter.all false
namespace Go.Proofs.YtfnekbfcndkjeaaGreatDoor
open Go.Proofs.Tryz Go.RowKit Go.Maps
theorem bu.rows {W:World} {rv:RecV} {d:RecD} {b l o:Value} (h:bu W rv d) (e:rv=d.toV b l o):bA W b d.barred/\cZ W l d.lots/\bA W o d.owners:=by
 obtain⟨b',l',o',e',r1,r2,r3⟩:=h
 have e2:=e.symm.trans e'
 have hb:b=b':=congrArg RecV.barred e2
 have hl:l=l':=congrArg RecV.lots e2
 have ho:o=o':=congrArg RecV.owners e2
 rw[hb,hl,ho]
 exact⟨r1,r2,r3⟩
theorem eZ.put {S:Nat->Prop} {w:World} {g n cap:Nat} {xs:List Int} (h:eZ S w (.slice (some ⟨g,0,none⟩) n cap) xs) (hn:n=xs.length) (j:Nat) (hj:j<xs.length) (x:Int):eZ S (w.setCell ⟨g,j,none⟩ (.int .i64 x)) (.slice (some ⟨g,0,none⟩) n cap) (xs.set j x):=by
 obtain⟨g',cap',cur,e,hS,hc,hm,hh,hs,hx⟩:=h.cur (by omega)
 obtain⟨ea,_,ec⟩:=Value.slice.inj e
 have eg:g=g':=by injection Option.some.inj ea
 subst eg
 subst ec
 refine gx hS (by rw[List.length_set];exact hn) (by rw[List.length_set];exact hc) hm (aH hh j _) (by simpa using hs) (fun i hi=>?_)
 rw[List.length_set] at hi
 by_cases e:i=j
 ·subst e
  rw[Array.getElem?_setIfInBounds_self_of_lt (by omega),List.getD_eq_getElem?_getD,List.getElem?_set_self hj]
  rfl
 ·rw[Array.getElem?_setIfInBounds_ne (Ne.symm e),hx i hi,List.getD_eq_getElem?_getD,List.getD_eq_getElem?_getD,List.getElem?_set_ne (Ne.symm e)]
theorem eZ.cell {S:Nat->Prop} {w:World} {u:Value} {xs:List Int} (h:eZ S w u xs) (j:Nat) (hj:j<xs.length):∃g cap,u=.slice (some ⟨g,0,none⟩) xs.length cap/\S g/\w.cell? ⟨g,j,none⟩=some (.int .i64 (xs.getD j 0))/\w.frozen? ⟨g,j,none⟩=false:=by
 obtain⟨g,cap,cur,e,hS,_,_,hh,_,hx⟩:=h.cur (by omega)
 exact⟨g,cap,e,hS,by rw[aq hh];exact hx j hj,aL hh j⟩
theorem eZ.none (S:Nat->Prop) (w:World):eZ S w (.slice none 0 0) []:=⟨⟨rfl,.inl ⟨rfl,rfl⟩⟩,fun k h=>by cases h⟩
section
variable {O : Nat -> Prop} {w w3 : World} {B p n : Nat} {st : MSt} {wr wr' : World}
theorem dN.outs (h:dN O w w3 B p n st wr) (hn:n<1000000000):Calls prog 23 #[.pointer (some ⟨p,0,none⟩)] wr fun e w'=>(∃ a cap,e=.returned (.slice a st.outs.length cap))/\Below wr.heap.size wr w':=by
 obtain⟨S,hmd,_⟩:=h.mod
 refine (kP hmd hn).mono ?_
 rintro e w' ⟨v,rfl,hv,hb⟩
 obtain⟨a,cap,rfl,_⟩:=az hv
 exact⟨⟨a,cap,rfl⟩,hb⟩
theorem dN.owners (h:dN O w w3 B p n st wr):Calls prog 21 #[.pointer (some ⟨p,0,none⟩)] wr fun e w'=>(∃ u,e=.returned u/\eZ (fun j=>False\/(wr.heap.size<=j/\j<w'.heap.size)) w' u st.owners)/\Below wr.heap.size wr w':=by
 obtain⟨S,hmd,_⟩:=h.mod
 refine (BD hmd).mono ?_
 rintro e w' ⟨v,rfl,hv,hb⟩
 exact⟨⟨v,rfl,kJ rfl hv (Nat.le_refl _)⟩,hb⟩
end
def yB (O O':Nat->Prop) (B p n:Nat) (w w3:World) (st:MSt) (v10:Value) (a:Option Addr) (m j:Nat) (wi:World):Prop:=
 dN O w w3 B p n st wi/\eZ O' wi v10 st.owners/\(j<m->∃g cur,a=some ⟨g,0,none⟩/\O g/\¬O' g/\wi.heap[g]?=some (.cells cur 3 (0,0))/\∀i,j<=i->i<m->cur[i]?=some (.int .i64 (st.owners.getD i 0)))
theorem yB.step {O O':Nat->Prop} {B p n:Nat} {w w3:World} {st:MSt} {v10:Value} {g m j:Nat} {wi:World} (h:yB O O' B p n w w3 st v10 (some ⟨g,0,none⟩) m j wi) (hj:j<m) (x:Value):yB O O' B p n w w3 st v10 (some ⟨g,0,none⟩) m (j + 1) (wi.setCell ⟨g,j,none⟩ x):=by
 obtain⟨h1,h2,h3⟩:=h
 obtain⟨g',cur,e,hO,hO',hh,hc⟩:=h3 hj
 have eg:g=g':=by injection Option.some.inj e
 subst eg
 have hk:am (fun k=>¬k=g) wi (wi.setCell ⟨g,j,none⟩ x):=(am.refl _ _).setCell (p:=⟨g,j,none⟩) (.inr (fun h=>h rfl)) _
 refine⟨h1.put (hk.mono (fun k _ h e=>h (e ▸ hO))),h2.keeps hk (fun k h e=>hO' (e ▸ h)),fun _=>⟨g,_,rfl,hO,hO',aH hh j _,fun i hi him=>?_⟩⟩
 rw[Array.getElem?_setIfInBounds_ne (by omega)]
 exact hc i (by omega) him
end Go.Proofs.YtfnekbfcndkjeaaGreatDoor
namespace Go.Proofs.YtfnekbfcndkjeaaGreatDoor
open Go.Proofs.Tryz Go.RowKit Go.Maps
section
variable {O : Nat -> Prop} {w w3 : World} {B p n : Nat} {st : MSt} {wr wr' : World}
theorem dN.grow (h:dN O w w3 B p n st wr) (hk:am (fun k=>¬O k) wr wr'):dN (fun j=>O j\/(wr.heap.size<=j/\j<wr'.heap.size)) w w3 B p n st wr':=by
 have h0:=h.put hk
 obtain⟨S,h1,h2,h3,h4,h5⟩:=h.mod
 refine⟨h0.up,h0.bel,h0.rows,fun j hj=>hj.elim (h0.osz j) (fun h=>h.2),fun j hj=>hj.elim (h.old j) (fun h1=>Nat.le_trans h.rows.size h1.1),S,h1.keeps hk h5,fun j hj=>Nat.lt_of_lt_of_le (h2 j hj) hk.size,h3,h4,fun j hj ho=>?_⟩
 rcases ho with ho | ho
 ·exact h5 j hj ho
 ·exact absurd (h2 j hj) (Nat.not_lt.2 ho.1)
end
structure BL (O:Nat->Prop) (w3:World) (B:Nat) (wr:World) (v:Value) (cs:List RecD) (rs:List RecV):Prop where
 len:rs.length=cs.length
 own:wr.ownsRow w3.heap.size 49 49 v cs.length (rs.flatMap fun r=>(ae r).toList)
 mine:∀k,v.ownBlock=some k->O k
 recs:∀W,am (fun k=>B<=k/\k<w3.heap.size) w3 W->∀j,j<cs.length->bu W (rs.getD j {}) (cs.getD j {})
section
variable {O : Nat -> Prop} {w3 : World} {B : Nat} {wr wr' : World} {v v' : Value} {cs : List RecD} {rs : List RecV}
theorem BL.keeps (h:BL O w3 B wr v cs rs) {K:Nat->Prop} (hk:am K wr wr') (hK:∀k,O k->K k):BL O w3 B wr' v cs rs:=
 ⟨h.len,cE h.own hk (fun k e=>hK k (h.mine k e)),h.mine,h.recs⟩
theorem BL.new (h:BL O w3 B wr v cs rs) (hb:Below wr.heap.size wr wr'):BL O w3 B wr' v cs rs:=h.keeps (ak hb (fun _=>True)) (fun _ _=>trivial)
theorem BL.wide {O':Nat->Prop} (h:BL O w3 B wr v cs rs) (hO:∀k,O k->O' k):BL O' w3 B wr v cs rs:=⟨h.len,h.own,fun k e=>hO k (h.mine k e),h.recs⟩
theorem BL.nil:BL O w3 B wr (.slice none 0 0) [] []:=⟨rfl,⟨rfl,.inl ⟨rfl,rfl⟩⟩,fun k e=>by simp[Value.ownBlock] at e,fun _ _ j h=>absurd h (Nat.not_lt_zero _)⟩
theorem BL.snoc (h:BL O w3 B wr v cs rs) {rv:RecV} {d:RecD} {O':Nat->Prop} (hr:∀W,am (fun k=>B<=k/\k<w3.heap.size) w3 W->bu W rv d)
  (hown:wr'.ownsRow w3.heap.size 49 49 v' (cs.length + 1) ((rs.flatMap fun r=>(ae r).toList)++(ae rv).toList)) (hm:∀k,v'.ownBlock=some k->O' k):BL O' w3 B wr' v' (cs++[d]) (rs++[rv]):=by
 refine⟨by simp[h.len],?_,hm,fun W hW j hj=>?_⟩
 ·rw[List.length_append,List.flatMap_append]
  simpa using hown
 ·by_cases e:j<cs.length
  ·have e1:(rs++[rv]).getD j {}=rs.getD j {}:=by simp[List.getD_eq_getElem?_getD,List.getElem?_append_left (show j<rs.length by have:=h.len;omega)]
   have e2:(cs++[d]).getD j {}=cs.getD j {}:=by simp[List.getD_eq_getElem?_getD,List.getElem?_append_left e]
   rw[e1,e2]
   exact h.recs W hW j e
  ·have ej:j=cs.length:=by rw[List.length_append] at hj;simp at hj;omega
   have e1:(rs++[rv]).getD j {}=rv:=by simp[List.getD_eq_getElem?_getD,ej,<-h.len]
   have e2:(cs++[d]).getD j {}=d:=by simp[List.getD_eq_getElem?_getD,ej]
   rw[e1,e2]
   exact hr W hW
theorem BL.form (h:BL O w3 B wr v cs rs):∃a cap,v=.slice a cs.length cap/\cs.length<=cap/\(0<cs.length->∃g,a=some ⟨g,0,none⟩/\g<wr.heap.size/\∀j,j<cs.length->wr.rangeAt g (0 + j * 49) (ae (rs.getD j {})).toList):=by
 obtain⟨a,cap,e,hc,hx⟩:=az h.own
 refine⟨a,cap,e,hc,fun h0=>?_⟩
 obtain⟨g,ea,_,hg,hj⟩:=hx h0
 refine⟨g,ea,hg,fun j hjl i u hv=>?_⟩
 have hi:i<49:=by
  have:=(List.getElem?_eq_some_iff.1 hv).1
  rw[Array.length_toList,aj] at this
  exact this
 have:=lz rs j i hi
 rw[if_pos (by have:=h.len;omega),hv] at this
 rw[Nat.zero_add]
 exact hj _ _ this
theorem BL.at_ (h:BL O w3 B wr v cs rs) (hW:am (fun k=>B<=k/\k<w3.heap.size) w3 wr):aX wr v cs:=by
 obtain⟨a,cap,e,hc,hx⟩:=h.form
 refine⟨a,cap,fun j=>rs.getD j {},e,hc,fun h0=>?_,fun j hj=>h.recs _ hW j hj⟩
 obtain⟨g,ea,hg,hj⟩:=hx h0
 exact⟨g,0,ea,hg,hj⟩
end
def CF (w:World) (v:Value) (xs:List OutT):Prop:=
 ∃a cap,v=.slice a xs.length cap/\xs.length<=cap/\(0<xs.length->∃lb lo,a=some ⟨lb,lo,none⟩/\lb<w.heap.size/\∀j,j<xs.length->w.cell? ⟨lb,lo + j * 3,none⟩=some (.int .i64 (xs.getD j (0,0,0)).1)/\w.cell? ⟨lb,lo + j * 3 + 1,none⟩=some (.int .i64 (xs.getD j (0,0,0)).2.1)/\w.cell? ⟨lb,lo + j * 3 + 2,none⟩=some (.int .u64 (xs.getD j (0,0,0)).2.2))
theorem CF.on {w w':World} {v:Value} {xs:List OutT} (h:CF w v xs) (hb:Below w.heap.size w w'):CF w' v xs:=by
 obtain⟨a,cap,e,hc,hx⟩:=h
 refine⟨a,cap,e,hc,fun h0=>?_⟩
 obtain⟨lb,lo,ea,hl,hj⟩:=hx h0
 exact⟨lb,lo,ea,Nat.lt_of_lt_of_le hl hb.size,fun j hj2=>⟨(hb.cell (p:=⟨lb,lo + j * 3,none⟩) hl).trans (hj j hj2).1,(hb.cell (p:=⟨lb,lo + j * 3 + 1,none⟩) hl).trans (hj j hj2).2.1,(hb.cell (p:=⟨lb,lo + j * 3 + 2,none⟩) hl).trans (hj j hj2).2.2⟩⟩
theorem BO {ops:Array Oper} {rest:List Oper} {o:Oper} {a:Act} {Q:Exit->Act->World->Prop} {w:World} (hgd:o.guard=none) (s x:Operand) (S E:TypeId)
  (ho:o.op=.call {callee:=.builtin .append,args:=#[s,x],argTypes:=#[S,S]})
  (z:Value) (size bytes:Nat) (hS:prog.underlying S=some (.slice E)) (hE:(prog.info? E).map (fun i=>(i.zero,i.size,i.bytes))=some (some z,size,bytes)) (hzs:z.cells.size=size) (hsz:0<size)
  (base:Nat) (v:Value) (n:Nat) (xs:List Value) (hs:a.eval s=v) (hown:w.ownsRow base E size v n xs) (g:Nat) (y:List Value) (hy1:y.length=size) (hone:∀u∈y,u.oneCell'=true)
  (hx:a.eval x=.slice (some ⟨g,0,none⟩) 1 1) (hy:∀j u,y[j]?=some u->w.cell? ⟨g,j,none⟩=some u)
  (hlen:n + 1<=maxLen) (hby:(n + 1) * bytes<=140737488355328) (hbase:base<=w.heap.size)
  (h:∀v' w',w'.ownsRow base E size v' (n + 1) (xs++y)->w.grownBy w' v.ownBlock->(v'.ownBlock=v.ownBlock\/v'.ownBlock=some w.heap.size)->wpList prog ops Q rest (a.put o.dst v') w'):wpList prog ops Q (o :: rest) a w:=by
 obtain⟨i0,hi,hz0,hz1,hz2⟩:=info_parts hE
 refine wpList_append_own_at w hgd s x S ho base E i0 z size bytes hS hi hz0 hz1 hz2 hzs hsz v n xs hs hown
  ⟨g,0,none⟩ 1 1 y hx (by rw[Nat.one_mul];exact hy1) (fun j u hu=>?_) hone hlen hby hbase fun v' w' hown' hgrow _ hat=>h v' w' hown' hgrow hat
 have h0:=hy j u hu
 rw[show (⟨g,0,none⟩:Addr).add j=⟨g,j,none⟩ by simp only[Addr.add];split <;> simp_all]
 exact h0
end Go.Proofs.YtfnekbfcndkjeaaGreatDoor
namespace Go.Proofs.YtfnekbfcndkjeaaGreatDoor.Vk
def bdLe (a b:Bd):Prop:=a.2<b.2\/(a.2=b.2/\a.1<=b.1)
theorem CH {a b:Bd} (h1:bdLe a b) (h2:bdLe b a):a=b:=by
 unfold bdLe at *
 exact Prod.ext (by omega) (by omega)
def CP (l:List Bd) (r:Int):Int × Int × Int:=
 match l with
 | []=>(3,-1,0)
 | x :: l=>if r<x.2 then (3,-1,0) else (2,x.1,match l with | []=>r | y :: _=>min y.2 r)
def BU (bs:List Bd):List Bd:=(rankOf bs).map (fun i=>bs[i]!)
theorem Cj (bs:List Bd) (r:Int):vickOf bs r=CP (BU bs) r:=by
 unfold vickOf BU CP ofR
 cases rankOf bs with
 | nil=>rfl
 | cons x l=>
  simp only[List.map_cons]
  cases l with
  | nil=>rfl
  | cons y l=>rfl
theorem Cv (bs:List Bd):(rankOf bs).Nodup:=
 (eX bs).imp fun {a b} h e=>by subst e;exact iz bs a h
theorem CI (bs:List Bd):(rankOf bs).Perm (List.range bs.length):=
 (List.perm_ext_iff_of_nodup (Cv bs) List.nodup_range).2 fun a=>by rw[mem_rankOf,List.mem_range]
theorem Co (bs:List Bd):(List.range bs.length).map (fun i=>bs[i]!)=bs:=by
 apply List.ext_getElem
 ·simp
 ·intro i h1 h2
  simp only[List.getElem_map,List.getElem_range]
  exact getElem!_pos bs i h2
theorem Cf (bs:List Bd):(BU bs).Perm bs:=by
 have h:=(CI bs).map (fun i=>bs[i]!)
 rw[Co] at h
 exact h
theorem BZ (bs:List Bd):(BU bs).Pairwise bdLe:=by
 unfold BU
 rw[List.pairwise_map]
 refine (eX bs).imp fun {a b} h=>?_
 unfold ahead at h
 unfold bdLe
 omega
theorem Ck (bs l:List Bd) (h1:l.Perm bs) (h2:l.Pairwise bdLe):BU bs=l:=
 List.Perm.eq_of_pairwise (fun _ _ _ _=>CH) (BZ bs) h2 ((Cf bs).trans h1.symm)
theorem Ca {a b:List Bd} (h:a.Perm b) (r:Int):vickOf a r=vickOf b r:=by
 rw[Cj,Cj,Ck a (BU b) ((Cf b).trans h.symm) (BZ b)]
end Go.Proofs.YtfnekbfcndkjeaaGreatDoor.Vk
namespace Go.Proofs.YtfnekbfcndkjeaaGreatDoor
open Go.Proofs.Tryz Go.RowKit Go.Maps
open Vk (vickOf Ca)
theorem Cq {f g:Int->Option Int}:∀n,(∀ k:Nat,k<n->f k=g k)->d8 f n=d8 g n
 | 0,_=>rfl
 | n + 1,h=>by rw[d8,d8,Cq n (fun k hk=>h k (by omega)),h n (Nat.lt_succ_self n)]
theorem Cy (f:Int->Option Int) (c:Nat) (b:Int) (hf:f c=none):∀n,c<n->(d8 (jI f c b) n).Perm (d8 f n++[((c:Int),b)])
 | 0,h=>absurd h (Nat.not_lt_zero _)
 | n + 1,h=>by
  by_cases e:c=n
  ·subst e
   have h1:d8 (jI f c b) c=d8 f c:=Cq c (fun k hk=>by unfold jI;rw[if_neg (by omega)])
   have h2:jI f c b c=some b:=by unfold jI;rw[if_pos rfl]
   rw[d8,d8,h1,h2,hf,List.append_nil]
  ·have h1:=Cy f c b hf n (by omega)
   have h2:jI f c b n=f n:=by unfold jI;rw[if_neg (by omega)]
   rw[d8,d8,h2]
   refine (h1.append_right _).trans ?_
   rw[List.append_assoc,List.append_assoc]
   exact List.Perm.append_left _ List.perm_append_comm
theorem Cl:∀n,d8 (fun _=>none) n=[]
 | 0=>rfl
 | n + 1=>by rw[d8,Cl n];rfl
theorem Cr {ml:List (Int × List Int)} {j:Nat} (hj:j<ml.length):ml.getD j (0,[])∈ml:=by
 rw[List.getD_eq_getElem?_getD,List.getElem?_eq_getElem hj]
 exact List.getElem_mem _
structure BW (f:Int->Option (List Int)) (ml:List (Int × List Int)):Prop where
 has:∀j,j<ml.length->f (ml.getD j (0,[])).1=some (ml.getD j (0,[])).2
 all:∀c eu,f c=some eu->∃j,j<ml.length/\ml.getD j (0,[])=(c,eu)
theorem BW.nil:BW (fun _=>none) []:=⟨fun j h=>absurd h (Nat.not_lt_zero _),fun c eu h=>by cases h⟩
theorem BW.snoc {f:Int->Option (List Int)} {ml:List (Int × List Int)} (h:BW f ml) {c:Int} {eu:List Int} (hn:f c=none):BW (jI f c eu) (ml++[(c,eu)]):=by
 have e0:∀j,j<ml.length->(ml++[(c,eu)]).getD j (0,[])=ml.getD j (0,[]):=fun j hj=>by simp[List.getD_eq_getElem?_getD,List.getElem?_append_left hj]
 have e1:(ml++[(c,eu)]).getD ml.length (0,[])=(c,eu):=by simp[List.getD_eq_getElem?_getD]
 refine⟨fun j hj=>?_,fun x fx hx=>?_⟩
 ·by_cases e:j<ml.length
  ·rw[e0 j e]
   have:=h.has j e
   unfold jI
   rw[if_neg (fun e2=>by rw[e2,hn] at this;cases this)]
   exact this
  ·obtain rfl:j=ml.length:=by rw[List.length_append] at hj;simp at hj;omega
   rw[e1]
   unfold jI
   rw[if_pos rfl]
 ·unfold jI at hx
  by_cases e:x=c
  ·rw[if_pos e] at hx
   obtain rfl:=Option.some.inj hx
   exact⟨ml.length,by simp,by rw[e1,e]⟩
  ·rw[if_neg e] at hx
   obtain⟨j,hj,e2⟩:=h.all x fx hx
   exact⟨j,by simp;omega,by rw[e0 j hj];exact e2⟩
def BM (c:Int) (f:Nat->Int):Array Value:=(Value.int .i64 c :: (List.range 32).map fun j=>Value.int .u8 (f j)).toArray
def BQ (ml:List (Int × List Int)):List Value:=ml.flatMap fun x=>(BM x.1 (fun j=>x.2.getD j 0)).toList
theorem Ch (c:Int) (f:Nat->Int):(BM c f).size=33:=by simp[BM]
theorem CB (c:Int) (f:Nat->Int):∀u∈(BM c f).toList,u.oneCell'=true:=fun u hu=>by
 have hu':u∈(Value.int .i64 c :: (List.range 32).map fun j=>Value.int .u8 (f j)):=hu
 rcases List.mem_cons.1 hu' with rfl | h
 ·rfl
 ·obtain⟨j,_,rfl⟩:=List.mem_map.1 h
  rfl
theorem Ci (ml:List (Int × List Int)) (j i:Nat) (hi:i<33) (hj:j<ml.length):(BQ ml)[j * 33 + i]?=(BM (ml.getD j (0,[])).1 (fun k=>(ml.getD j (0,[])).2.getD k 0)).toList[i]? :=by
 induction ml generalizing j with
 | nil=>exact absurd hj (Nat.not_lt_zero _)
 | cons x ml ih=>
  unfold BQ
  rw[List.flatMap_cons]
  have hl:(BM x.1 (fun j=>x.2.getD j 0)).toList.length=33:=by rw[Array.length_toList,Ch]
  cases j with
  | zero=>
   rw[Nat.zero_mul,Nat.zero_add,List.getElem?_append_left (by omega)]
   rfl
  | succ j=>
   rw[List.getElem?_append_right (by omega),hl,show (j + 1) * 33 + i - 33=j * 33 + i by omega]
   have:=ih j (by simpa using hj)
   unfold BQ at this
   rw[this]
   rfl
theorem Tryz.infoMk:(prog.info? 55).map (fun i=>(i.zero,i.size,i.bytes))=some (some (.agg (BM 0 (fun _=>0))),33,40):=by kernel_rfl
theorem CK (c:Int) (f:Nat->Int) (w:World):(Instr.build 55 #[(0,.int .i64 c),(1,.agg ((List.range 32).map fun j=>Value.int .u8 (f j)).toArray)]).run prog w=.ok (.agg (BM c f)) w:=by kernel_rfl
theorem CL (D:Array Value) (h:D.size=33) (w:World):(Instr.buildSlice 50 1 #[(0,.agg D)]).run prog w=.ok (.slice (some ⟨w.heap.size,0,none⟩) 1 1) (w.alloc (.cells D 55)):=by
 have u:=underlying50
 have hz:∀w,(zeroValue 55).run prog w=.ok (.agg (BM 0 (fun _=>0))) w:=fun w=>by kernel_rfl
 have hs:∀w,(sizeOf 55).run prog w=.ok 33 w:=fun w=>by kernel_rfl
 have hf:Instr.fill (fun i=>some (i * 33,33)) ((Array.range (1 * 33)).map ((BM 0 (fun _=>0))[· % (BM 0 (fun _=>0)).size]!)) [(0,Value.agg D)]=some D:=
  wU _ _ D 33 rfl h (by rw[Array.size_map,Array.size_range])
 have hq:(Value.agg (BM 0 (fun _=>0))).cells=BM 0 (fun _=>0):=rfl
 simp only[Instr.buildSlice,Sem.run_bind,run_underlying u,Result.andThen_ok,hs]
 rw[if_neg (by decide),if_neg (by decide)]
 simp only[Sem.run_bind,hz,Result.andThen_ok,Sem.run_pure,hq,hf]
 rfl
theorem CJ {eu:List Int} (h:eu.length=32):((List.range 32).map fun k=>Value.int .u8 (eu.getD k 0))=eu.map (Value.int .u8):=by
 apply List.ext_getElem?
 intro i
 by_cases hi:i<32
 ·rw[List.getElem?_map,List.getElem?_range hi,List.getElem?_map,List.getElem?_eq_getElem (by rw[h];exact hi)]
  show some (Value.int .u8 (eu.getD i 0))=_
  rw[List.getD_eq_getElem?_getD,List.getElem?_eq_getElem (by rw[h];exact hi)]
  rfl
 ·rw[List.getElem?_eq_none (by simp;omega),List.getElem?_eq_none (by rw[List.length_map,h];omega)]
structure Cm (st:MSt) (scv opv:RecV) (ml:List (Int × List Int)) (bl:List (Int × Int)):Prop where
 scheme:scv.scheme=st.scene.scheme
 op:∀o,st.opn=some o->opv.round=o.round/\opv.lot=o.lot/\BW o.marks ml/\bl.Perm (d8 o.bids st.scene.carriers.toNat)/\∀x∈ml,(0<=x.1/\x.1<st.scene.carriers)/\x.2.length=32
structure BJ (O:Nat->Prop) (wx:World) (SC OP:Nat) (scv opv:RecV) (v12 v13:Value) (ml:List (Int × List Int)) (bl:List (Int × Int)):Prop where
 sc:ah wx SC scv
 op:ah wx OP opv
 mks:wx.ownsRow 0 55 33 v12 ml.length (BQ ml)
 bd:wx.ownsRow 0 60 2 v13 bl.length (b8 bl)
 osc:O SC
 oop:O OP
 omk:∀k,v12.ownBlock=some k->O k
 obd:∀k,v13.ownBlock=some k->O k
 ne:SC≠OP
theorem BN {base:Nat} {E:TypeId} {size:Nat} {w:World} {v:Value} {n:Nat} {xs:List Value} (h:w.ownsRow base E size v n xs):∀k,v.ownBlock=some k->∃cur,w.heap[k]?=some (.cells cur E (0,0)):=by
 intro k hk
 rcases h.2 with ⟨rfl,_⟩ | ⟨g,cap,cur,rfl,hg,hh,_⟩
 ·simp[Value.ownBlock] at hk
 ·have:g=k:=by simpa [Value.ownBlock] using hk
  subst this
  exact⟨cur,hh⟩
section
variable {O : Nat -> Prop} {wx w' : World} {SC OP : Nat} {scv opv : RecV} {v12 v13 v' : Value} {ml : List (Int × List Int)} {bl : List (Int × Int)}
theorem BJ.keeps (h:BJ O wx SC OP scv opv v12 v13 ml bl) {K:Nat->Prop} (hk:am K wx w') (hK:∀k,O k->K k):BJ O w' SC OP scv opv v12 v13 ml bl:=
 ⟨h.sc.keeps hk (hK _ h.osc),h.op.keeps hk (hK _ h.oop),cE h.mks hk (fun k e=>hK k (h.omk k e)),cE h.bd hk (fun k e=>hK k (h.obd k e)),h.osc,h.oop,h.omk,h.obd,h.ne⟩
theorem BJ.new (h:BJ O wx SC OP scv opv v12 v13 ml bl) (hb:Below wx.heap.size wx w'):BJ O w' SC OP scv opv v12 v13 ml bl:=h.keeps (ak hb (fun _=>True)) (fun _ _=>trivial)
theorem BJ.wide {O':Nat->Prop} (h:BJ O wx SC OP scv opv v12 v13 ml bl) (hO:∀k,O k->O' k):BJ O' wx SC OP scv opv v12 v13 ml bl:=
 ⟨h.sc,h.op,h.mks,h.bd,hO _ h.osc,hO _ h.oop,fun k e=>hO k (h.omk k e),fun k e=>hO k (h.obd k e),h.ne⟩
theorem BJ.setScene (h:BJ O wx SC OP scv opv v12 v13 ml bl) (rv:RecV):BJ O (wx.setRow SC (ae rv)) SC OP rv opv v12 v13 ml bl:=by
 have hk:am (·≠SC) wx (wx.setRow SC (ae rv)):=aI wx SC _ (fun h=>h rfl)
 refine⟨h.sc.setRow rv,h.op.keeps hk (Ne.symm h.ne),cE h.mks hk (fun k e e2=>?_),cE h.bd hk (fun k e e2=>?_),h.osc,h.oop,h.omk,h.obd,h.ne⟩
 ·obtain⟨cur,hc⟩:=BN h.mks k e
  have h1:=h.sc
  unfold ah at h1
  rw[e2,h1] at hc
  injection hc with hc;injection hc with _ hc _;revert hc;decide
 ·obtain⟨cur,hc⟩:=BN h.bd k e
  have h1:=h.sc
  unfold ah at h1
  rw[e2,h1] at hc
  injection hc with hc;injection hc with _ hc _;revert hc;decide
theorem BJ.setOpen (h:BJ O wx SC OP scv opv v12 v13 ml bl) (rv:RecV):BJ O (wx.setRow OP (ae rv)) SC OP scv rv (.slice none 0 0) (.slice none 0 0) [] []:=by
 have hk:am (·≠OP) wx (wx.setRow OP (ae rv)):=aI wx OP _ (fun h=>h rfl)
 exact⟨h.sc.keeps hk h.ne,h.op.setRow rv,⟨rfl,.inl ⟨rfl,rfl⟩⟩,⟨rfl,.inl ⟨rfl,rfl⟩⟩,h.osc,h.oop,fun k e=>by simp[Value.ownBlock] at e,fun k e=>by simp[Value.ownBlock] at e,h.ne⟩
theorem BJ.mark {O':Nat->Prop} {wa:World} (h:BJ O wx SC OP scv opv v12 v13 ml bl) (hb:Below wx.heap.size wx wa) (hgr:wa.grownBy w' v12.ownBlock) {c:Int} {eu:List Int}
  (hown:w'.ownsRow 0 55 33 v' (ml.length + 1) (BQ ml++(BM c (fun j=>eu.getD j 0)).toList)) (hO:∀k,O k->O' k) (hm:∀k,v'.ownBlock=some k->O' k):BJ O' w' SC OP scv opv v' v13 (ml++[(c,eu)]) bl:=by
 have h0:=h.new hb
 have hk:am (fun k=>v12.ownBlock≠some k) wa w':=aF hgr _ (fun k e h=>h e)
 have ht:∀{k:Nat} {cs:Array Value} {T:TypeId},wa.heap[k]?=some (.cells cs T (0,0))->T≠55->v12.ownBlock≠some k:=fun hk hT e=>by
  obtain⟨cur,hc⟩:=BN h0.mks _ e
  rw[hk] at hc
  injection hc with hc;injection hc with _ hc _;exact hT hc
 refine⟨h0.sc.keeps hk (ht h0.sc (by decide)),h0.op.keeps hk (ht h0.op (by decide)),?_,cE h0.bd hk (fun k e=>?_),hO _ h.osc,hO _ h.oop,hm,fun k e=>hO k (h.obd k e),h.ne⟩
 ·rw[List.length_append,BQ,List.flatMap_append]
  simpa [BQ] using hown
 ·obtain⟨cur,hc⟩:=BN h0.bd k e
  exact ht hc (by decide)
theorem BJ.bid {O':Nat->Prop} {wa:World} (h:BJ O wx SC OP scv opv v12 v13 ml bl) (hb:Below wx.heap.size wx wa) (hgr:wa.grownBy w' v13.ownBlock) {c b:Int}
  (hown:w'.ownsRow 0 60 2 v' (bl.length + 1) (b8 bl++[.int .i64 c,.int .u64 b])) (hO:∀k,O k->O' k) (hm:∀k,v'.ownBlock=some k->O' k):BJ O' w' SC OP scv opv v12 v' ml (bl++[(c,b)]):=by
 have h0:=h.new hb
 have hk:am (fun k=>v13.ownBlock≠some k) wa w':=aF hgr _ (fun k e h=>h e)
 have ht:∀{k:Nat} {cs:Array Value} {T:TypeId},wa.heap[k]?=some (.cells cs T (0,0))->T≠60->v13.ownBlock≠some k:=fun hk hT e=>by
  obtain⟨cur,hc⟩:=BN h0.bd _ e
  rw[hk] at hc
  injection hc with hc;injection hc with _ hc _;exact hT hc
 refine⟨h0.sc.keeps hk (ht h0.sc (by decide)),h0.op.keeps hk (ht h0.op (by decide)),cE h0.mks hk (fun k e=>?_),?_,hO _ h.osc,hO _ h.oop,fun k e=>hO k (h.omk k e),hm,h.ne⟩
 ·obtain⟨cur,hc⟩:=BN h0.mks k e
  exact ht hc (by decide)
 ·rw[List.length_append,b8,List.flatMap_append]
  simpa [b8] using hown
theorem CD {w:World} {v:Value} {ml:List (Int × List Int)} (h:w.ownsRow 0 55 33 v ml.length (BQ ml)):∃a cap,v=.slice a ml.length cap/\ml.length<=cap/\(0<ml.length->∃g,a=some ⟨g,0,none⟩/\g<w.heap.size/\∀j,j<ml.length->w.cell? ⟨g,j * 33,none⟩=some (.int .i64 (ml.getD j (0,[])).1)/\w.rangeAt g (j * 33 + 1) ((List.range 32).map fun k=>Value.int .u8 ((ml.getD j (0,[])).2.getD k 0))):=by
 obtain⟨a,cap,e,hc,hx⟩:=az h
 refine⟨a,cap,e,hc,fun h0=>?_⟩
 obtain⟨g,ea,_,hg,hj⟩:=hx h0
 refine⟨g,ea,hg,fun j hjl=>⟨?_,fun i u hu=>?_⟩⟩
 ·refine hj _ _ ?_
  have:=Ci ml j 0 (by omega) hjl
  rw[Nat.add_zero] at this
  rw[this]
  rfl
 ·have hi:i<32:=by
   have:=(List.getElem?_eq_some_iff.1 hu).1
   simpa using this
  rw[Nat.add_assoc]
  refine hj _ _ ?_
  rw[Ci ml j (1 + i) (by omega) hjl,<-hu]
  unfold BM
  rw[Nat.add_comm 1 i]
  simp
end
theorem CM (W : World) : (nilAhead 352 95 (.agg #[]) "Opens").run prog W = .ok (some false) W := by kernel_rfl
def CN (B p k:Nat) (w w3:World) (SC OP:Nat) (v12 v13:Value) (st:MSt) (wx:World):Prop:=
 ∃O scv opv ml bl,dN O w w3 B p k st wx/\BJ O wx SC OP scv opv v12 v13 ml bl/\Cm st scv opv ml bl/\(∀ W,am (fun k=>B<=k/\k<w3.heap.size) w3 W->cZ W scv.lots st.scene.lots)/\ml.length<=k/\bl.length<=k
