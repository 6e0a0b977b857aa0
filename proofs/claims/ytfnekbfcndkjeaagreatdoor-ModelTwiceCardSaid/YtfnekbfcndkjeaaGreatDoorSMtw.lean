/- ModelTwice, walked. Printed by wip/gen/mtw.py. -/
import Derived.Test.YtfnekbfcndkjeaaGreatDoorSOn0
set_option maxHeartbeats 16000000
set_option maxRecDepth 100000
set_option linter.all false
namespace Go.Proofs.YtfnekbfcndkjeaaGreatDoor
open Go.Proofs.Tryz Go.RowKit Go.Maps
theorem Cd (opf:List Int->RecD->Bool) (d:RecD):∀(l:List RecD) (st:MSt),BK opf st (l++[d])=BK opf st l++(if (cd opf (eC opf st l) d).1=0 then [d] else [])
 | [],st=>by
  show BK opf st [d]=[]++(if (cd opf st d).1=0 then [d] else [])
  rw[List.nil_append]
  unfold BK
  by_cases h:(cd opf st d).1=0
  ·rw[if_pos h,if_pos h];rfl
  ·rw[if_neg h,if_neg h];rfl
 | x :: l,st=>by
  rw[List.cons_append]
  unfold BK
  have hp:eC opf st (x :: l)=eC opf (cd opf st x).2 l:=rfl
  split
  ·rw[Cd opf d l _,hp]
   rfl
  ·rename_i h
   rw[Cd opf d l st,hp,oI h]
theorem Cw (opf:List Int->RecD->Bool) (st:MSt) (ds:List RecD) (k:Nat) (hk:k<ds.length):BK opf st (ds.take (k + 1))=BK opf st (ds.take k)++(if (cd opf (eC opf st (ds.take k)) (ds.getD k {})).1=0 then [ds.getD k {}] else []):=by
 rw[nf ds k hk]
 exact Cd opf _ _ _
theorem Cg (opf:List Int->RecD->Bool):∀(l:List RecD) (st:MSt) (x:RecD),x∈BK opf st l->x∈l
 | [],_,x,h=>by simp[BK] at h
 | d :: l,st,x,h=>by
  unfold BK at h
  split at h
  ·rcases List.mem_cons.1 h with rfl | h
   ·exact List.mem_cons_self
   ·exact List.mem_cons_of_mem _ (Cg opf l _ x h)
  ·exact List.mem_cons_of_mem _ (Cg opf l _ x h)
theorem Ce (opf:List Int->RecD->Bool):∀(l:List RecD) (st:MSt) (i:Nat),BR opf st l->eS opf st l i=none
 | [],_,_,_=>rfl
 | d :: l,st,i,h=>by
  unfold eS
  rw[if_pos h.1]
  exact Ce opf l _ _ h.2
section
variable {O : Nat -> Prop} {w w3 : World} {B p n : Nat} {st : MSt} {wr wr' : World}
theorem dN.grow (h:dN O w w3 B p n st wr) (hk:am (fun k=>¬O k) wr wr'):dN (fun j=>O j\/(wr.heap.size<=j/\j<wr'.heap.size)) w w3 B p n st wr':=by
 have h0:=h.put hk
 obtain⟨S,h1,h2,h3,h4,h5⟩:=h.mod
 refine⟨h0.up,h0.bel,h0.rows,fun j hj=>hj.elim (h0.osz j) (fun h=>h.2),fun j hj=>hj.elim (h.old j) (fun h1=>Nat.le_trans h.rows.size h1.1),S,h1.keeps hk h5,fun j hj=>Nat.lt_of_lt_of_le (h2 j hj) hk.size,h3,h4,fun j hj ho=>?_⟩
 rcases ho with ho | ho
 ·exact h5 j hj ho
 ·exact absurd (h2 j hj) (Nat.not_lt.2 ho.1)
theorem dN.outs2 (h:dN O w w3 B p n st wr) (hn:n<1000000000):Calls prog 23 #[.pointer (some ⟨p,0,none⟩)] wr fun e w'=>(∃ v,e=.returned v/\w'.ownsRow wr.heap.size 46 3 v st.outs.length (dt st.outs))/\Below wr.heap.size wr w':=by
 obtain⟨S,hmd,_⟩:=h.mod
 refine (kP hmd hn).mono ?_
 rintro e w' ⟨v,rfl,hv,hb⟩
 exact⟨⟨v,rfl,hv⟩,hb⟩
end
structure BL (O:Nat->Prop) (w3:World) (B:Nat) (wr:World) (v:Value) (cs:List RecD) (rs:List RecV):Prop where
 len:rs.length=cs.length
 own:wr.ownsRow w3.heap.size 49 49 v cs.length (rs.flatMap fun r=>(ae r).toList)
 mine:∀k,v.ownBlock=some k->O k
 recs:∀W,am (fun k=>B<=k/\k<w3.heap.size) w3 W->∀j,j<cs.length->bu W (rs.getD j {}) (cs.getD j {})
section
variable {O : Nat -> Prop} {w3 : World} {B : Nat} {wr wr' : World} {v v' : Value} {cs : List RecD} {rs : List RecV}
theorem BL.keeps (h:BL O w3 B wr v cs rs) {K:Nat->Prop} (hk:am K wr wr') (hK:∀k,O k->K k):BL O w3 B wr' v cs rs:=
 ⟨h.len,cE h.own hk (fun k e=>hK k (h.mine k e)),h.mine,h.recs⟩
theorem BL.new (h:BL O w3 B wr v cs rs) (hb:Below wr.heap.size wr wr'):BL O w3 B wr' v cs rs:=h.keeps (ak hb (fun _=>True)) (fun _ _=>trivial)
theorem BL.wide {O':Nat->Prop} (h:BL O w3 B wr v cs rs) (hO:∀k,O k->O' k):BL O' w3 B wr v cs rs:=⟨h.len,h.own,fun k e=>hO k (h.mine k e),h.recs⟩
theorem BL.nil:BL O w3 B wr (.slice none 0 0) [] []:=⟨rfl,⟨rfl,.inl ⟨rfl,rfl⟩⟩,fun k e=>by simp[Value.ownBlock] at e,fun _ _ j h=>absurd h (Nat.not_lt_zero _)⟩
theorem BL.snoc (h:BL O w3 B wr v cs rs) {rv:RecV} {d:RecD} {O':Nat->Prop} (hr:∀W,am (fun k=>B<=k/\k<w3.heap.size) w3 W->bu W rv d)
  (hown:wr'.ownsRow w3.heap.size 49 49 v' (cs.length + 1) ((rs.flatMap fun r=>(ae r).toList)++(ae rv).toList)) (hm:∀k,v'.ownBlock=some k->O' k):BL O' w3 B wr' v' (cs++[d]) (rs++[rv]):=by
 refine⟨by simp[h.len],?_,hm,fun W hW j hj=>?_⟩
 ·rw[List.length_append,List.flatMap_append]
  simpa using hown
 ·by_cases e:j<cs.length
  ·have e1:(rs++[rv]).getD j {}=rs.getD j {}:=by simp[List.getD_eq_getElem?_getD,List.getElem?_append_left (show j<rs.length by have:=h.len;omega)]
   have e2:(cs++[d]).getD j {}=cs.getD j {}:=by simp[List.getD_eq_getElem?_getD,List.getElem?_append_left e]
   rw[e1,e2]
   exact h.recs W hW j e
  ·have ej:j=cs.length:=by rw[List.length_append] at hj;simp at hj;omega
   have e1:(rs++[rv]).getD j {}=rv:=by simp[List.getD_eq_getElem?_getD,ej,<-h.len]
   have e2:(cs++[d]).getD j {}=d:=by simp[List.getD_eq_getElem?_getD,ej]
   rw[e1,e2]
   exact hr W hW
theorem BL.form (h:BL O w3 B wr v cs rs):∃a cap,v=.slice a cs.length cap/\cs.length<=cap/\(0<cs.length->∃g,a=some ⟨g,0,none⟩/\g<wr.heap.size/\∀j,j<cs.length->wr.rangeAt g (0 + j * 49) (ae (rs.getD j {})).toList):=by
 obtain⟨a,cap,e,hc,hx⟩:=az h.own
 refine⟨a,cap,e,hc,fun h0=>?_⟩
 obtain⟨g,ea,_,hg,hj⟩:=hx h0
 refine⟨g,ea,hg,fun j hjl i u hv=>?_⟩
 have hi:i<49:=by
  have:=(List.getElem?_eq_some_iff.1 hv).1
  rw[Array.length_toList,aj] at this
  exact this
 have:=lz rs j i hi
 rw[if_pos (by have:=h.len;omega),hv] at this
 rw[Nat.zero_add]
 exact hj _ _ this
theorem BL.at_ (h:BL O w3 B wr v cs rs) (hW:am (fun k=>B<=k/\k<w3.heap.size) w3 wr):aX wr v cs:=by
 obtain⟨a,cap,e,hc,hx⟩:=h.form
 refine⟨a,cap,fun j=>rs.getD j {},e,hc,fun h0=>?_,fun j hj=>h.recs _ hW j hj⟩
 obtain⟨g,ea,hg,hj⟩:=hx h0
 exact⟨g,0,ea,hg,hj⟩
end
def CO (opf:List Int->RecD->Bool) (ds:List RecD) (B p n k:Nat) (w w3:World) (v:Value) (cs:List RecD) (wx:World):Prop:=
 ∃O rs,dN O w w3 B p n (eC opf {} (ds.take k)) wx/\BL O w3 B wx v cs rs/\cs=BK opf {} (ds.take k)
def CF (w:World) (v:Value) (xs:List OutT):Prop:=
 ∃a cap,v=.slice a xs.length cap/\xs.length<=cap/\(0<xs.length->∃lb lo,a=some ⟨lb,lo,none⟩/\lb<w.heap.size/\∀j,j<xs.length->w.cell? ⟨lb,lo + j * 3,none⟩=some (.int .i64 (xs.getD j (0,0,0)).1)/\w.cell? ⟨lb,lo + j * 3 + 1,none⟩=some (.int .i64 (xs.getD j (0,0,0)).2.1)/\w.cell? ⟨lb,lo + j * 3 + 2,none⟩=some (.int .u64 (xs.getD j (0,0,0)).2.2))
theorem CF.on {w w':World} {v:Value} {xs:List OutT} (h:CF w v xs) (hb:Below w.heap.size w w'):CF w' v xs:=by
 obtain⟨a,cap,e,hc,hx⟩:=h
 refine⟨a,cap,e,hc,fun h0=>?_⟩
 obtain⟨lb,lo,ea,hl,hj⟩:=hx h0
 exact⟨lb,lo,ea,Nat.lt_of_lt_of_le hl hb.size,fun j hj2=>⟨(hb.cell (p:=⟨lb,lo + j * 3,none⟩) hl).trans (hj j hj2).1,(hb.cell (p:=⟨lb,lo + j * 3 + 1,none⟩) hl).trans (hj j hj2).2.1,(hb.cell (p:=⟨lb,lo + j * 3 + 2,none⟩) hl).trans (hj j hj2).2.2⟩⟩
theorem Ct (xs:List OutT):∀j,j<xs.length->(dt xs)[j * 3]?=some (.int .i64 (xs.getD j (0,0,0)).1)/\(dt xs)[j * 3 + 1]?=some (.int .i64 (xs.getD j (0,0,0)).2.1)/\(dt xs)[j * 3 + 2]?=some (.int .u64 (xs.getD j (0,0,0)).2.2):=by
 induction xs with
 | nil=>intro j h;exact absurd h (Nat.not_lt_zero _)
 | cons x xs ih=>
  intro j hj
  have e:dt (x :: xs)=.int .i64 x.1 :: .int .i64 x.2.1 :: .int .u64 x.2.2 :: dt xs:=rfl
  rw[e]
  cases j with
  | zero=>exact⟨rfl,rfl,rfl⟩
  | succ j=>
   have:=ih j (by simpa using hj)
   rw[show (j + 1) * 3=j * 3 + 3 by omega]
   exact⟨this.1,this.2.1,this.2.2⟩
theorem Cx {base:Nat} {w:World} {v:Value} {xs:List OutT} (h:w.ownsRow base 46 3 v xs.length (dt xs)):CF w v xs:=by
 obtain⟨a,cap,e,hc,hx⟩:=az h
 refine⟨a,cap,e,hc,fun h0=>?_⟩
 obtain⟨g,ea,_,hg,hj⟩:=hx h0
 refine⟨g,0,ea,hg,fun j hj2=>?_⟩
 have:=Ct xs j hj2
 simp only[Nat.zero_add]
 exact⟨hj _ _ this.1,hj _ _ this.2.1,hj _ _ this.2.2⟩
theorem BO {ops:Array Oper} {rest:List Oper} {o:Oper} {a:Act} {Q:Exit->Act->World->Prop} {w:World} (hgd:o.guard=none) (s x:Operand) (S E:TypeId)
  (ho:o.op=.call {callee:=.builtin .append,args:=#[s,x],argTypes:=#[S,S]})
  (z:Value) (size bytes:Nat) (hS:prog.underlying S=some (.slice E)) (hE:(prog.info? E).map (fun i=>(i.zero,i.size,i.bytes))=some (some z,size,bytes)) (hzs:z.cells.size=size) (hsz:0<size)
  (base:Nat) (v:Value) (n:Nat) (xs:List Value) (hs:a.eval s=v) (hown:w.ownsRow base E size v n xs) (g:Nat) (y:List Value) (hy1:y.length=size) (hone:∀u∈y,u.oneCell'=true)
  (hx:a.eval x=.slice (some ⟨g,0,none⟩) 1 1) (hy:∀j u,y[j]?=some u->w.cell? ⟨g,j,none⟩=some u)
  (hlen:n + 1<=maxLen) (hby:(n + 1) * bytes<=140737488355328) (hbase:base<=w.heap.size)
  (h:∀v' w',w'.ownsRow base E size v' (n + 1) (xs++y)->w.grownBy w' v.ownBlock->(v'.ownBlock=v.ownBlock\/v'.ownBlock=some w.heap.size)->wpList prog ops Q rest (a.put o.dst v') w'):wpList prog ops Q (o :: rest) a w:=by
 obtain⟨i0,hi,hz0,hz1,hz2⟩:=info_parts hE
 refine wpList_append_own_at w hgd s x S ho base E i0 z size bytes hS hi hz0 hz1 hz2 hzs hsz v n xs hs hown
  ⟨g,0,none⟩ 1 1 y hx (by rw[Nat.one_mul];exact hy1) (fun j u hu=>?_) hone hlen hby hbase fun v' w' hown' hgrow _ hat=>h v' w' hown' hgrow hat
 have h0:=hy j u hu
 rw[show (⟨g,0,none⟩:Addr).add j=⟨g,j,none⟩ by simp only[Addr.add];split <;> simp_all]
 exact h0
theorem Cu (v1 v2:Value) (xs:List OutT) (hx:xs.length<=1000000) (w:World) (h1:CF w v1 xs) (h2:CF w v2 xs):
  Calls prog 22 #[v1,v2] w fun e w'=>e=.returned (.bool true)/\Below w.heap.size w w':=by
 have H1:=ac h1
 have H2:=ac h2
 obtain⟨a1,c1,rfl,hc1,_⟩:=h1
 obtain⟨a2,c2,rfl,hc2,_⟩:=h2
 obtain⟨n,hn⟩:∃n,n=xs.length:=⟨_,rfl⟩
 rw[<-hn] at hx hc1 hc2 ⊢
 have HN:=ac hn
 clear hn
 go_enter func22,ntmps22
 go_wp2_with fail
 go_loopg [5] n (fun g v5 wr=>∃k:Nat,k<=n/\v5=.int .i64 k/\n - k<=g/\aa (Below w.heap.size w wr))
 case atStart=>exact⟨0,by omega,rfl,by omega,Below.refl _ _⟩
 case round=>
  obtain⟨k,hk,rfl,hg,HB⟩:=hrel
  by_cases hlt:k<n
  ·have hki:(k:Int)<n:=by omega
   have HME:aa (∀ q,n - k<=q->n - (k + 1)<q):=fun q h=>by omega
   obtain⟨a',cap',e,_,hj0⟩:=H1.out.on HB.out
   obtain⟨lb,lo,ea,hlb,hj⟩:=hj0 (by have:=HN.out;omega)
   obtain⟨ea2,_,ec2⟩:=Value.slice.inj e
   subst ec2
   rw[ea] at ea2
   subst ea2
   obtain⟨p0,p1,p2⟩:=hj k (by rw[<-HN.out];exact hlt)
   obtain⟨a'',cap'',e',_,hj0'⟩:=H2.out.on HB.out
   obtain⟨lb',lo',ea',hlb',hj'⟩:=hj0' (by have:=HN.out;omega)
   obtain⟨ea2',_,ec2'⟩:=Value.slice.inj e'
   subst ec2'
   rw[ea'] at ea2'
   subst ea2'
   obtain⟨q0,q1,q2⟩:=hj' k (by rw[<-HN.out];exact hlt)
   obtain⟨x,hxk⟩:∃x,x=(xs.getD k (0,0,0)).1:=⟨_,rfl⟩
   obtain⟨y,hyk⟩:∃x,x=(xs.getD k (0,0,0)).2.1:=⟨_,rfl⟩
   obtain⟨z,hzk⟩:∃x,x=(xs.getD k (0,0,0)).2.2:=⟨_,rfl⟩
   rw[<-hxk] at p0 q0
   rw[<-hyk] at p1 q1
   rw[<-hzk] at p2 q2
   have hne:∀W,(binOp .neq 46 (.agg #[.int .i64 x,.int .i64 y,.int .u64 z]) (.agg #[.int .i64 x,.int .i64 y,.int .u64 z])).run prog W=.ok (.bool false) W:=fun W=>by
    have:=AG x y z x y z W
    simpa using this
   clear hj0 hj hj0' hj' hxk hyk hzk e e' ea ea'
   go_wp2_with fail
   go_quiet (fail)
   go_wp2_with fail
   go_roundg (n - (k + 1))
   case measure=>exact HME.out _ hg
   case rel=>exact⟨k + 1,hlt,by go_num,Nat.le_refl _,HB.out.trans ((ay _ _).mono HB.out.size)⟩
  ·have hki:¬(k:Int)<n:=by omega
   clear hlt hg
   go_wp2_with fail
   go_ret
   exact⟨rfl,HB.out⟩
theorem CA (w:World) (dr:sV) (hdr:dr.ok) (bv:Value) (hb:i4 w bv dr.n) (x0 x1 x2:Int) (hx0:0<=x0/\x0<=255) (hx1:0<=x1/\x1<=255) (hx2:-32768<=x2/\x2<=32767) (f:Nat) (hf:f<=255) (hte:ew w) (F:S8) (kf:Nat->Int) (kk:Array Value) (hsh:cV F kf kk w):
  Calls prog 5 #[.agg (dr.cells bv),.agg #[.int .u8 x0,.int .u8 x1,.int .i16 x2],.int .u8 f] w fun e w'=>e=.returned (.bool true)/\Below w.heap.size w w':=by
 have HDR:=ac hdr
 have HX:aa ((0<=x0/\x0<=255)/\(0<=x1/\x1<=255)/\(-32768<=x2/\x2<=32767)):=⟨hx0,hx1,hx2⟩
 have HTE:=ac hte
 have HSH:=ac hsh
 obtain⟨L,hL⟩:∃x,x=w.heap.size:=⟨_,rfl⟩
 obtain⟨D,hDD⟩:∃D:Array Value,D=dr.cells bv:=⟨_,rfl⟩
 obtain⟨C,hCC⟩:∃C:Array Value,C=#[.int .u8 x0,.int .u8 x1,.int .i16 x2]:=⟨_,rfl⟩
 obtain⟨w0,hw0⟩:∃z,z=(w.alloc (.cells D 24)).alloc (.cells C 27):=⟨_,rfl⟩
 have hs1:(w.alloc (.cells D 24)).heap.size=L + 1:=by rw[hL];simp
 have HN0:aa (Below w.heap.size w w0):=by rw[hw0];exact ar w _ _ (af _ _) (af _ _)
 have HD0:aa (w0.heap[L]?=some (.cells D 24 (0,0))):=by rw[hw0,hL];exact au (ax _ _) (af _ _)
 have HC0:aa (w0.heap[L + 1]?=some (.cells C 27 (0,0))):=by rw[hw0,<-hs1];exact ax _ _
 have HB0:aa (i4 w0 bv dr.n):=hb.up HN0.out
 have HDD:=ac hDD
 have HCC:=ac hCC
 have HDZ:aa ((prog.info? 24).map (·.size)=some D.size):=by rw[aa,hDD];kernel_rfl
 have HCZ:aa ((prog.info? 27).map (·.size)=some C.size):=by rw[aa,hCC];kernel_rfl
 rw[<-hDD,<-hCC]
 have HFF:=ac hf
 clear hf
 clear hb hdr hDD hCC hx0 hx1 hx2 hs1 hte hsh
 go_enter func5,ntmps5
 go_upto_region 1 with fail
 refine ge hw0 ?_
 rw[<-hL]
 clear hw0 hL
 go_wp2_with fail
 refine (pF w0).mono ?_
 rintro e w1 ⟨rfl,hw1⟩
 obtain⟨p,hp⟩:∃x,x=w0.heap.size:=⟨_,rfl⟩
 have hb1:Below w0.heap.size w0 w1:=by rw[hw1];exact af _ _
 have HN1:aa (Below w.heap.size w w1):=ar w _ _ HN0.out hb1
 have HW1:=ac hw1
 have HPP:=ac hp
 rw[<-hp]
 clear hw1 hp
 go_wp2_with fail
 refine (nI w1 (HTE.out.on HN1.out)).mono ?_
 rintro e w2 ⟨rfl,hb2⟩
 have HB12:=ac hb2
 have HN2:aa (Below w.heap.size w w2):=ar w _ _ HN1.out hb2
 have HD2:aa (w2.heap[L]?=some (.cells D 24 (0,0))):=au (au HD0.out hb1) hb2
 have HC2:aa (w2.heap[L + 1]?=some (.cells C 27 (0,0))):=au (au HC0.out hb1) hb2
 have HB2:aa (i4 w2 bv dr.n):=(HB0.out.up hb1).up hb2
 clear hb1 hb2
 go_wp2_with (first
  | (refine wpList_load_row rfl _ _ rfl L rfl _ D (0,0) _ HD2.out underlying24 rfl HDZ.out ?_)
  | (refine wpList_load_row rfl _ _ rfl (L + 1) rfl _ C (0,0) _ HC2.out underlying27 rfl HCZ.out ?_)
  | fail)
 have hcall:=nR w2 dr HDR.out bv HB2.out x0 x1 x2 HX.out.1 HX.out.2.1 HX.out.2.2 ((f:Int).tmod 2==1)
 rw[<-HDD.out,<-HCC.out] at hcall
 refine hcall.mono ?_
 clear hcall
 rintro e w3 ⟨v,ds,rfl,hro,hok,hl60,hb3⟩
 obtain⟨av,cap,rvs,rfl,hcap,hrow,hrec⟩:=hro
 obtain⟨n,hn⟩:∃n,n=ds.length:=⟨_,rfl⟩
 obtain⟨B,hB⟩:∃x,x=w2.heap.size:=⟨_,rfl⟩
 have HLW0:aa (dN (fun _=>False) w w3 B p 0 {} w3):=by
  have:=rG HN0.out HW1.out HB12.out hb3
  rw[<-HPP.out,<-hB] at this
  exact this
 have HNN:=ac hn
 have HOK:=ac hok
 have HROW:aa (0<n->∃lb lo,av=some ⟨lb,lo,none⟩/\lb<w3.heap.size/\B<=lb/\∀j,j<n->w3.rangeAt lb (lo + j * 49) (ae (rvs j)).toList):=by rw[hB,hn];exact hrow
 have HREC:aa (∀ W,am (fun k=>B<=k/\k<w3.heap.size) w3 W->∀j,j<n->bu W (rvs j) (ds.getD j {})):=by rw[hB,hn];exact hrec
 have hn60:n<=60:=by rw[hn];exact hl60
 have hncap:n<=cap:=by rw[hn];exact hcap
 rw[<-hn]
 clear hn hB hok hl60 hcap hrow hrec HD0 HC0 HB0 HD2 HC2 HB2 HB12 hb3
 go_wp2_with fail
 go_loopg [9,10] n (fun g v9 v10 wr=>∃(k:Nat) (cs:List RecD),k<=n/\v10=.int .i64 k/\n - k<=g/\aa (CO (fK F kf) ds B p k k w w3 v9 cs wr))
 case atStart=>exact⟨0,[],Nat.zero_le _,rfl,by omega,_,[],HLW0.out,BL.nil,rfl⟩
 case round=>
  clear HLW0
  obtain⟨k,cs,hk,rfl,hg,HTW⟩:=hrel
  obtain⟨O,rs,hL,hR,hcs⟩:=HTW.out
  have HL:=ac hL
  have HRW:=ac hR
  have HCS:=ac hcs
  clear hL hR hcs HTW
  by_cases hlt:k<n
  ·skip
   have hki:(k:Int)<n:=by omega
   obtain⟨lb,lo,rfl,hlb,hBl,hj⟩:=HROW.out (by omega)
   obtain⟨rv,hrv⟩:∃rv,rv=rvs k:=⟨_,rfl⟩
   obtain⟨d,hd⟩:∃d,d=ds.getD k {}:=⟨_,rfl⟩
   have HRG0:aa (w3.rangeAt lb (lo + k * 49) (ae rv).toList):=by rw[hrv];exact hj k hlt
   have HRG:aa (wr.rangeAt lb (lo + k * 49) (ae rv).toList):=by rw[hrv];exact ik (hj k hlt) HL.out.rows ⟨hBl,hlb⟩
   have HRC:aa (∀ W,am (fun k=>B<=k/\k<w3.heap.size) w3 W->bu W rv d):=fun W hW=>by rw[hrv,hd];exact HREC.out W hW k hlt
   have HDO:aa d.ok:=by
    rw[hd]
    exact HOK.out _ (dJ (by rw[<-HNN.out];exact hlt))
   have HDD2:=ac hd
   have HM:aa (n - (k + 1)<gk/\k + 1<=n):=⟨by omega,hlt⟩
   have hi0:(prog.info? 49).map (·.size)=some (ae rv).toList.length:=by rw[Array.length_toList,aj];kernel_rfl
   have hi49:(prog.info? 49).map (·.size)=some (ae rv).size:=by rw[aj];kernel_rfl
   have hon:=bu.one (HRC.out w3 (am.refl _ _))
   clear hj hrv hd
   have HRG9:=HRG.out
   go_wp2_with (first
    | (refine aG (by rfl) _ _ rfl lb (lo + k * 49) rfl _ _ HRG.out underlying49 rfl hi0 (ae rv) (Array.toArray_toList) ?_)
    | fail)
   clear HRG9
   refine (HL.out.take (by omega) HSH.out rv d HRC.out HDO.out).mono ?_
   rintro e w7 ⟨rfl,hl7,hk7⟩
   have hkn:k<ds.length:=by rw[<-HNN.out];exact hlt
   have HPL:aa (eC (fK F kf) {} (ds.take (k + 1))=(cd (fK F kf) (eC (fK F kf) {} (ds.take k)) d).2):=by rw[aa,qP _ _ _ _ hkn,<-HDD2.out]
   have HCL:aa (BK (fK F kf) {} (ds.take (k + 1))=cs++(if (cd (fK F kf) (eC (fK F kf) {} (ds.take k)) d).1=0 then [d] else [])):=by rw[aa,Cw _ _ _ _ hkn,<-HDD2.out,HCS.out]
   have HL7:aa (dN O w w3 B p (k + 1) (eC (fK F kf) {} (ds.take (k + 1))) w7):=by rw[HPL.out];exact hl7
   have HRW7:aa (BL O w3 B w7 u9 cs rs):=HRW.out.keeps hk7 (fun _ h=>h)
   have HRG7:aa (w7.rangeAt lb (lo + k * 49) (ae rv).toList):=ik HRG0.out HL7.out.rows ⟨hBl,hlb⟩
   obtain⟨c,hc⟩:∃c,c=(cd (fK F kf) (eC (fK F kf) {} (ds.take k)) d).1:=⟨_,rfl⟩
   rw[<-hc] at HCL
   rw[<-hc]
   clear hl7 hk7 hc hkn HRG HRW HL
   by_cases h0:c=0
   case neg=>
    have hcb:(c==0)=false:=by simpa using h0
    have HCS7:aa (cs=BK (fK F kf) {} (ds.take (k + 1))):=by rw[aa,HCL.out,if_neg h0,List.append_nil]
    clear h0
    go_wp2_with fail
    go_roundg (n - (k + 1))
    case measure=>exact HM.out.1
    case rel=>exact⟨k + 1,cs,HM.out.2,by go_num,Nat.le_refl _,O,rs,HL7.out,HRW7.out,HCS7.out⟩
   case pos=>
   subst h0
   have HCS7:aa (cs++[d]=BK (fK F kf) {} (ds.take (k + 1))):=by rw[aa,HCL.out,if_pos rfl]
   obtain⟨R,hR⟩:∃R,R=ae rv:=⟨_,rfl⟩
   have HONE:aa (R.all (·.oneCell')=true):=by rw[hR];exact hon
   have HR49:aa (R.size=49):=by rw[hR];exact aj rv
   have HRR:=ac hR
   have HCN:aa (cs.length<=60):=by
    have h1:=BP (fK F kf) (ds.take k) {}
    rw[<-HCS.out] at h1
    have h2:(ds.take k).length<=k:=List.length_take_le _ _
    rw[aa]
    omega
   have HSZ:aa (w3.heap.size<=w7.heap.size):=HL7.out.rows.size
   rw[<-hR] at HRG7 hi0
   clear hR hon
   go_wp2_with (first
    | (refine aG (by rfl) _ _ rfl lb (lo + k * 49) rfl _ _ HRG7.out underlying49 rfl hi0 R (Array.toArray_toList) ?_)
    | (refine fN rfl 29 1 _ rfl (.agg R) _ rfl (d6 R HR49.out w7) ?_)
    | (at_builtin;refine BO rfl _ _ 29 49 rfl (.agg (ae {})) 49 216 underlying29 Tryz.infoRec rfl (by decide) w3.heap.size _ cs.length _ rfl (World.ownsRow.alloc HRW7.out.own _) w7.heap.size R.toList ?c1 ?c2 rfl ?c3 ?c4 ?c5 ?c6 ?_)
    | fail)
   case c1=>rw[Array.length_toList];exact HR49.out
   case c2=>intro y hy;exact (Array.all_eq_true_iff_forall_mem.1 HONE.out) y (by simpa using hy)
   case c3=>intro j y hy;rw[aO];simpa using hy
   case c4=>have:=HCN.out;unfold maxLen;omega
   case c5=>have:=HCN.out;omega
   case c6=>have:=HSZ.out;simp;omega
   intro v' w8 hown' hgrow hat
   have hkg:am (fun j=>¬O j) w7 w8:=(ak (af w7 (.cells R 49)) _).trans (aF hgrow _ (fun j e h=>h (HRW7.out.mine j e)))
   have HL8:=ac (HL7.out.grow hkg)
   have HRW8:aa (BL (fun j=>O j\/(w7.heap.size<=j/\j<w8.heap.size)) w3 B w8 v' (cs++[d]) (rs++[rv])):=by
    refine HRW7.out.snoc HRC.out (by rw[<-HRR.out];exact hown') (fun j e=>?_)
    rcases hat with h | h
    ·exact .inl (HRW7.out.mine j (by rw[<-h];exact e))
    ·refine .inr ⟨?_,(World.ownsRow.lt hown' j e).2⟩
     rw[h] at e
     have e2:=Option.some.inj e
     try simp at e2
     omega
   clear hown' hgrow hat hkg
   go_wp2_with fail
   go_roundg (n - (k + 1))
   case measure=>exact HM.out.1
   case rel=>exact⟨k + 1,cs++[d],HM.out.2,by go_num,Nat.le_refl _,_,rs++[rv],HL8.out,HRW8.out,HCS7.out⟩
  ·have hki:¬(k:Int)<n:=by omega
   obtain rfl:k=n:=by omega
   have hnt:ds.take k=ds:=by rw[HNN.out];exact List.take_length
   obtain⟨st,hst⟩:∃s,s=eC (fK F kf) {} ds:=⟨_,rfl⟩
   have HST:=ac hst
   have HCA:aa (cs=BK (fK F kf) {} ds):=by rw[aa,HCS.out,hnt]
   have HL1:aa (dN O w w3 B p k st wr):=by have:=HL.out;rw[hnt,<-hst] at this;exact this
   have HPA:aa (eC (fK F kf) {} cs=st):=by rw[aa,HCA.out,Cc,hst]
   have HCO:aa (BR (fK F kf) {} cs):=by rw[aa,HCA.out];exact BY _ _ _
   have HPS:aa (∀ x∈cs,Cn st x):=by rw[aa,HCA.out,hst];exact BT _ _ _ wY
   have HCK:aa (∀ x∈cs,x.ok):=by
    intro x hx
    rw[HCA.out] at hx
    exact HOK.out x (Cg _ _ _ x hx)
   have hcn:cs.length<=60:=by
    have h1:=BP (fK F kf) ds {}
    rw[<-HCA.out] at h1
    rw[<-HNN.out] at h1
    omega
   obtain⟨a,cap,rfl,hcap,hcx⟩:=HRW.out.form
   have HCX:=ac hcx
   obtain⟨m,hm⟩:∃m,m=cs.length:=⟨_,rfl⟩
   have HMM:=ac hm
   rw[<-hm] at hcn hcap
   rw[<-hm]
   have HLP:aa (dN O w w3 B p (k + 0) st wr/\BL O w3 B wr (.slice a m cap) cs rs):=⟨HL1.out,by rw[hm];exact HRW.out⟩
   clear hnt hst hcx hm HL HRW HL1 HCS hlt hk hg HCX
   go_wp2_with fail
   go_loopg [11] m (fun g v11 wi=>∃j:Nat,j<=m/\v11=.int .i64 j/\m - j<=g/\aa (dN O w w3 B p (k + j) st wi/\BL O w3 B wi (.slice a m cap) cs rs))
   case atStart=>exact⟨0,Nat.zero_le _,rfl,by omega,HLP.out⟩
   case round=>
    clear HLP
    obtain⟨j,hjm,rfl,hgj,HI⟩:=hrel
    by_cases hj:j<m
    ·have hji:(j:Int)<m:=by omega
     have HME:aa (∀ q,m - j<=q->m - (j + 1)<q):=fun q h=>by omega
     have hjc:j<cs.length:=by rw[<-HMM.out];exact hj
     obtain⟨a',cap',e9,_,hx9⟩:=HI.out.2.form
     obtain⟨g,ea,hgs,hrow⟩:=hx9 (by omega)
     obtain⟨ea2,h1,h2⟩:=Value.slice.inj e9
     clear h1 h2
     rw[ea] at ea2
     subst ea2
     obtain⟨rv,hrv⟩:∃rv,rv=rs.getD j {}:=⟨_,rfl⟩
     obtain⟨d,hd⟩:∃d,d=cs.getD j {}:=⟨_,rfl⟩
     have HRG:aa (wr.rangeAt g (j * 49) (ae rv).toList):=by have h:=hrow j hjc;rw[Nat.zero_add] at h;rw[hrv];exact h
     have HRC:aa (∀ W,am (fun k=>B<=k/\k<w3.heap.size) w3 W->bu W rv d):=fun W hW=>by rw[hrv,hd];exact HI.out.2.recs W hW j hjc
     have hmem:d∈cs:=by rw[hd];exact dJ hjc
     have HDO:aa d.ok:=HCK.out d hmem
     have HTK:aa (cd (fK F kf) st d=(22,st)):=Cs HI.out.1.nx (HPS.out d hmem)
     have hi0:(prog.info? 49).map (·.size)=some (ae rv).toList.length:=by rw[Array.length_toList,aj];kernel_rfl
     clear hrv hd hmem e9 hx9 ea hgs hrow hjc
     go_wp2_with (first
      | (refine aG (by rfl) _ _ rfl g (j * 49) rfl _ _ HRG.out underlying49 rfl hi0 (ae rv) (Array.toArray_toList) ?_)
      | fail)
     refine (HI.out.1.take (by omega) HSH.out rv d HRC.out HDO.out).mono ?_
     rintro e w7 ⟨rfl,hl7,hk7⟩
     rw[HTK.out] at hl7 ⊢
     have HI7:aa (dN O w w3 B p (k + (j + 1)) st w7/\BL O w3 B w7 (.slice (some ⟨g,0,none⟩) m cap) cs rs):=⟨hl7,HI.out.2.keeps hk7 (fun _ h=>h)⟩
     clear hl7 hk7 HRG HI
     go_wp2_with fail
     go_roundg (m - (j + 1))
     case measure=>exact HME.out _ hgj
     case rel=>exact⟨j + 1,hj,by go_num,Nat.le_refl _,HI7.out⟩
    ·have hji:¬(j:Int)<m:=by omega
     have HL2:=ac HI.out.1
     have HR2:=ac HI.out.2
     have hj60:j<=60:=by omega
     clear hj hgj HI hjm
     go_wp2_with fail
     have HRA:aa (aX wr (.slice a m cap) cs):=HR2.out.at_ HL2.out.rows
     have HREV:aa (∀ W S n p st rv d,Below wr.heap.size wr W->MSt.Nx st->d∈cs->oT (fK F kf) S n W p st rv d):=fun W S n p st rv d hb hn _=>vK ((HSH.out.on HL2.out.bel).on hb) hn
     refine (qQ (fK F kf) MSt.Nx wY wr _ cs (by rw[<-HMM.out];omega) HRA.out HCK.out (fun st d h _=>yY h) HREV.out).mono ?_
     rintro e w5 ⟨hb5,hpp⟩
     rcases hpp with ⟨_,u,x,rfl,hu,hx⟩ | ⟨c,i,f',hf',_⟩
     case inr=>
      rw[Ce _ _ _ _ HCO.out] at hf'
      cases hf'
     rw[HPA.out] at hu hx
     have HU:=ac hu
     have HX5:=ac (Cx hx)
     have HL5:=ac (HL2.out.new hb5)
     have HR5:=ac (HR2.out.new hb5)
     clear hb5 hu hx HRA HREV
     go_wp2_with fail
     refine HL5.out.owners.mono ?_
     rintro e w9 ⟨⟨y,rfl,hy⟩,hb9⟩
     have HL9:=ac (HL5.out.new hb9)
     have HR9:=ac (HR5.out.new hb9)
     have HX9:=ac (HX5.out.on hb9)
     have HY:=ac hy
     have HU9:aa (eZ (fun _=>True) w9 u st.owners):=⟨bY (bG HU.out hb9) (Nat.zero_le _),fun _ _=>trivial⟩
     have HWF:aa st.Wf:=HL9.out.wf
     clear hy hb9 HL5 HR5 HX5 HU
     go_wp2_with fail
     refine (vO u y st.owners (by have:=HWF.out.nown;omega) w9 HU9.out.row HY.out.row).mono ?_
     rintro e wA ⟨rfl,hbA⟩
     have HLA:=ac (HL9.out.new hbA)
     have HRA:=ac (HR9.out.new hbA)
     have HXA:=ac (HX9.out.on hbA)
     clear hbA HL9 HR9 HX9 HU9 HY
     go_wp2_with fail
     refine (HLA.out.outs2 (by omega)).mono ?_
     rintro e wB ⟨⟨y2,rfl,hy2⟩,hbB⟩
     have HLB:=ac (HLA.out.new hbB)
     have HRB:=ac (HRA.out.new hbB)
     have HXB:=ac (HXA.out.on hbB)
     have HYB:=ac (Cx hy2)
     have HNO:aa (st.outs.length<=1000000):=by
      obtain⟨S,⟨⟨v,hv⟩,_⟩,_⟩:=HLB.out.mod
      have:=hv.nout
      rw[aa]
      omega
     clear hy2 hbB HLA HRA HXA
     go_wp2_with fail
     refine (Cu x y2 st.outs HNO.out wB HXB.out HYB.out).mono ?_
     rintro e wC ⟨rfl,hbC⟩
     have HLC:=ac (HLB.out.new hbC)
     have HRC:=ac (HRB.out.new hbC)
     clear hbC HLB HRB HXB HYB
     have wf:IntKind.i64.wrap (f:Int)=f:=IntWalk.i64_in _ (by have:=HFF.out;omega)
     have wm:IntKind.i64.wrap ((m:Int) + 1)=(m:Int) + 1:=IntWalk.i64_in _ (by omega)
     obtain⟨q,hq⟩:∃q,q=f % (m + 1):=⟨_,rfl⟩
     have hqm:q<=m:=by have:=Nat.mod_lt f (show 0<m + 1 by omega);omega
     have hmd:(f:Int) % ((m:Int) + 1)=(q:Int):=by rw[hq];rfl
     have hm1:(((m:Int) + 1)==0)=false:=by rw[beq_eq_false_iff_ne];omega
     have hq0:(0:Int)<=q:=by omega
     have hqc:(q:Int)<=cap:=by omega
     have HQM:=ac hqm
     clear hq hqm
     go_wp2_with fail
     have HRA:aa (aX wC (.slice a q cap) (cs.take q)):=aX.take (HRC.out.at_ HLC.out.rows) q (by rw[<-HMM.out];exact HQM.out) (by rw[<-HMM.out])
     have HREV:aa (∀ W S n p st rv d,Below wC.heap.size wC W->MSt.Nx st->d∈cs.take q->oT (fK F kf) S n W p st rv d):=fun W S n p st rv d hb hn _=>vK ((HSH.out.on HLC.out.bel).on hb) hn
     refine (qQ (fK F kf) MSt.Nx wY wC _ (cs.take q) (by have:=List.length_take_le q cs;have:=HQM.out;omega) HRA.out (fun d hd=>HCK.out d (List.mem_of_mem_take hd)) (fun st d h _=>yY h) HREV.out).mono ?_
     rintro e BB ⟨hbD,hpp⟩
     rcases hpp with ⟨_,u2,BC,rfl,_,_⟩ | ⟨c,i,f',hf',_⟩
     case inr=>
      rw[Ce _ _ _ _ (Cb _ _ _ q HCO.out)] at hf'
      cases hf'
     have HBD:aa (Below w.heap.size w BB):=ar w _ _ HLC.out.bel hbD
     clear hbD HRA HREV
     go_wp2_with fail
     go_ret
     exact⟨rfl,HBD.out⟩
