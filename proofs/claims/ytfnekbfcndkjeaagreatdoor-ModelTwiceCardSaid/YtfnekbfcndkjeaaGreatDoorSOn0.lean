/- ModelOne: what stands in its loop; consignref31's Ints. -/
import Derived.Test.YtfnekbfcndkjeaaGreatDoorSMlw
set_option linter.all false
namespace Go.Proofs.YtfnekbfcndkjeaaGreatDoor
open Go.Proofs.Tryz Go.RowKit Go.Maps
theorem vO (v1 v2:Value) (xs:List Int) (hx:xs.length<=1000000) (w:World) (h1:bA w v1 xs) (h2:bA w v2 xs):
  Calls prog 20 #[v1,v2] w fun e w'=>e=.returned (.bool true)/\Below w.heap.size w w':=by
 have H1:=ac h1
 have H2:=ac h2
 obtain⟨a1,c1,rfl,hc1,_⟩:=h1
 obtain⟨a2,c2,rfl,hc2,_⟩:=h2
 obtain⟨n,hn⟩:∃n,n=xs.length:=⟨_,rfl⟩
 rw[<-hn] at hx hc1 hc2 ⊢
 have HN:=ac hn
 clear hn
 go_enter func20,ntmps20
 go_wp2_with fail
 go_loopg [5] n (fun g v5 wr=>∃k:Nat,k<=n/\v5=.int .i64 k/\n - k<=g/\aa (Below w.heap.size w wr))
 case atStart=>exact⟨0,by omega,rfl,by omega,Below.refl _ _⟩
 case round=>
  obtain⟨k,hk,rfl,hg,HB⟩:=hrel
  by_cases hlt:k<n
  ·have hki:(k:Int)<n:=by omega
   have HME:aa (∀ q,n - k<=q->n - (k + 1)<q):=fun q h=>by omega
   obtain⟨a',cap',e,_,hj0⟩:=H1.out
   obtain⟨lb,lo,ea,hlb,hj⟩:=hj0 (by have:=HN.out;omega)
   obtain⟨ea2,_,ec2⟩:=Value.slice.inj e
   subst ec2
   rw[ea] at ea2
   subst ea2
   have c0:=(HB.out.cell (p:=⟨lb,lo + k,none⟩) hlb).trans (hj k (by rw[<-HN.out];exact hlt))
   obtain⟨a'',cap'',e',_,hj0'⟩:=H2.out
   obtain⟨lb',lo',ea',hlb',hj'⟩:=hj0' (by have:=HN.out;omega)
   obtain⟨ea2',_,ec2'⟩:=Value.slice.inj e'
   subst ec2'
   rw[ea'] at ea2'
   subst ea2'
   have c0':=(HB.out.cell (p:=⟨lb',lo' + k,none⟩) hlb').trans (hj' k (by rw[<-HN.out];exact hlt))
   obtain⟨x,hxk⟩:∃x,x=xs.getD k 0:=⟨_,rfl⟩
   rw[<-hxk] at c0 c0'
   have e1:(x !=x)=false:=by simp
   clear hj0 hj hj0' hj' hxk e e' ea ea'
   go_wp2_with fail
   go_quiet (fail)
   go_wp2_with fail
   go_roundg (n - (k + 1))
   case measure=>exact HME.out _ hg
   case rel=>exact⟨k + 1,hlt,by go_num,Nat.le_refl _,HB.out.trans ((ay _ _).mono HB.out.size)⟩
  ·have hki:¬(k:Int)<n:=by omega
   clear hlt hg
   go_wp2_with fail
   go_ret
   exact⟨rfl,HB.out⟩
theorem yz (w:World):(Instr.buildSlice 41 0 #[]).run prog w=.ok (.slice (some ⟨w.heap.size,0,none⟩) 0 0) (w.alloc (.cells #[] 3)):=by kernel_rfl
theorem mt {ops:Array Oper} {o:Oper} {a:Act} {K:Act->World->Prop} {Q:Exit->Act->World->Prop} {E':Prop} {w:World} (hgd:o.guard=none) (s x:Operand) (S E:TypeId)
  (ho:o.op=.call {callee:=.builtin .append,args:=#[s,x],argTypes:=#[S,S]})
  (z:Value) (size bytes:Nat) (hS:prog.underlying S=some (.slice E)) (hE:(prog.info? E).map (fun i=>(i.zero,i.size,i.bytes))=some (some z,size,bytes)) (hzs:z.cells.size=size) (hsz:0<size)
  (base:Nat) (v:Value) (n:Nat) (xs:List Value) (hs:a.eval s=v) (hown:w.ownsRow base E size v n xs) (p:Option Addr) (m c:Nat) (ys:List Value) (hx:a.eval x=.slice p m c) (hyl:ys.length=m * size) (hone:∀u∈ys,u.oneCell'=true)
  (hsrc:0<m->∃lb lo,p=some ⟨lb,lo,none⟩/\∀j u,ys[j]?=some u->w.cell? ⟨lb,lo + j,none⟩=some u)
  (hlen:n + m<=maxLen) (hby:(n + m) * bytes<=140737488355328) (hbase:base<=w.heap.size)
  (h:∀v' w',w'.ownsRow base E size v' (n + m) (xs++ys)->w.grownBy w' v.ownBlock->K (a.put o.dst v') w'):
  if Region.wanted o (yielded ops a.tmps)=true then Oper.wp prog o a w K Q else E':=by
 have hw:Region.wanted o (yielded ops a.tmps)=true:=by simp[Region.wanted,hgd]
 rw[if_pos hw]
 obtain⟨i0,hi,hz0,hz1,hz2⟩:=info_parts hE
 have key:∀ad,p=some ad->(∀ j u,ys[j]?=some u->w.cell? (ad.add j)=some u)->o.wp prog a w K Q:=fun ad hp hnews=>by
  subst hp
  exact wp_append_own w s x S ho base E i0 z size bytes hS hi hz0 hz1 hz2 hzs hsz v n xs hs hown ad m c ys hx hyl hnews hone hlen hby hbase fun v' w' hown' hgrow _=>h v' w' hown' hgrow
 by_cases h0:0<m
 ·obtain⟨lb,lo,hp,hc⟩:=hsrc h0
  refine key _ hp fun j u hu=>?_
  have hadd:(⟨lb,lo,none⟩:Addr).add j=⟨lb,lo + j,none⟩:=by
   unfold Addr.add
   split
   ·rename_i hk;subst hk;rfl
   ·rfl
  rw[hadd]
  exact hc j u hu
 ·obtain rfl:m=0:=by omega
  have hy:ys=[]:=List.length_eq_zero_iff.1 (by rw[hyl,Nat.zero_mul])
  subst hy
  cases p with
  | some ad=>exact key ad rfl fun j u hu=>by simp at hu
  | none=>
   have hrun:=eL base S o.type E i0 size c hS hi v n xs hown
   unfold Oper.wp
   simp[execOp,ho,resolve,invoke,builtin,hs,hx,hrun,Result.andThen]
   exact h v w (by rw[List.append_nil];exact hown) ⟨rfl,rfl,rfl,Nat.le_refl _,fun _ _ _=>rfl⟩
theorem bu.rows {W:World} {rv:RecV} {d:RecD} {b l o:Value} (h:bu W rv d) (e:rv=d.toV b l o):bA W b d.barred/\cZ W l d.lots/\bA W o d.owners:=by
 obtain⟨b',l',o',e',r1,r2,r3⟩:=h
 have e2:=e.symm.trans e'
 have hb:b=b':=congrArg RecV.barred e2
 have hl:l=l':=congrArg RecV.lots e2
 have ho:o=o':=congrArg RecV.owners e2
 rw[hb,hl,ho]
 exact⟨r1,r2,r3⟩
theorem eZ.put {S:Nat->Prop} {w:World} {g n cap:Nat} {xs:List Int} (h:eZ S w (.slice (some ⟨g,0,none⟩) n cap) xs) (hn:n=xs.length) (j:Nat) (hj:j<xs.length) (x:Int):eZ S (w.setCell ⟨g,j,none⟩ (.int .i64 x)) (.slice (some ⟨g,0,none⟩) n cap) (xs.set j x):=by
 obtain⟨g',cap',cur,e,hS,hc,hm,hh,hs,hx⟩:=h.cur (by omega)
 obtain⟨ea,_,ec⟩:=Value.slice.inj e
 have eg:g=g':=by injection Option.some.inj ea
 subst eg
 subst ec
 refine gx hS (by rw[List.length_set];exact hn) (by rw[List.length_set];exact hc) hm (aH hh j _) (by simpa using hs) (fun i hi=>?_)
 rw[List.length_set] at hi
 by_cases e:i=j
 ·subst e
  rw[Array.getElem?_setIfInBounds_self_of_lt (by omega),List.getD_eq_getElem?_getD,List.getElem?_set_self hj]
  rfl
 ·rw[Array.getElem?_setIfInBounds_ne (Ne.symm e),hx i hi,List.getD_eq_getElem?_getD,List.getD_eq_getElem?_getD,List.getElem?_set_ne (Ne.symm e)]
theorem eZ.cell {S:Nat->Prop} {w:World} {u:Value} {xs:List Int} (h:eZ S w u xs) (j:Nat) (hj:j<xs.length):∃g cap,u=.slice (some ⟨g,0,none⟩) xs.length cap/\S g/\w.cell? ⟨g,j,none⟩=some (.int .i64 (xs.getD j 0))/\w.frozen? ⟨g,j,none⟩=false:=by
 obtain⟨g,cap,cur,e,hS,_,_,hh,_,hx⟩:=h.cur (by omega)
 exact⟨g,cap,e,hS,by rw[aq hh];exact hx j hj,aL hh j⟩
theorem eZ.none (S:Nat->Prop) (w:World):eZ S w (.slice none 0 0) []:=⟨⟨rfl,.inl ⟨rfl,rfl⟩⟩,fun k h=>by cases h⟩
section
variable {O : Nat -> Prop} {w w3 : World} {B p n : Nat} {st : MSt} {wr wr' : World}
theorem dN.outs (h:dN O w w3 B p n st wr) (hn:n<1000000000):Calls prog 23 #[.pointer (some ⟨p,0,none⟩)] wr fun e w'=>(∃ a cap,e=.returned (.slice a st.outs.length cap))/\Below wr.heap.size wr w':=by
 obtain⟨S,hmd,_⟩:=h.mod
 refine (kP hmd hn).mono ?_
 rintro e w' ⟨v,rfl,hv,hb⟩
 obtain⟨a,cap,rfl,_⟩:=az hv
 exact⟨⟨a,cap,rfl⟩,hb⟩
theorem dN.owners (h:dN O w w3 B p n st wr):Calls prog 21 #[.pointer (some ⟨p,0,none⟩)] wr fun e w'=>(∃ u,e=.returned u/\eZ (fun j=>False\/(wr.heap.size<=j/\j<w'.heap.size)) w' u st.owners)/\Below wr.heap.size wr w':=by
 obtain⟨S,hmd,_⟩:=h.mod
 refine (BD hmd).mono ?_
 rintro e w' ⟨v,rfl,hv,hb⟩
 exact⟨⟨v,rfl,kJ rfl hv (Nat.le_refl _)⟩,hb⟩
end
structure pi (st:MSt) (lot carr:Int):Prop where
 carr:carr=st.scene.carriers
 op:st.ended=false->∀o,st.opn=some o->lot=o.lot
def yA (B p n:Nat) (w w3:World) (st:MSt) (v9 v10:Value) (lot carr:Int) (wx:World):Prop:=
 ∃O,pi st lot carr/\(∀ W,am (fun k=>B<=k/\k<w3.heap.size) w3 W->cZ W v9 st.scene.lots)/\dN O w w3 B p n st wx/\eZ O wx v10 st.owners
def yB (O O':Nat->Prop) (B p n:Nat) (w w3:World) (st:MSt) (v10:Value) (a:Option Addr) (m j:Nat) (wi:World):Prop:=
 dN O w w3 B p n st wi/\eZ O' wi v10 st.owners/\(j<m->∃g cur,a=some ⟨g,0,none⟩/\O g/\¬O' g/\wi.heap[g]?=some (.cells cur 3 (0,0))/\∀i,j<=i->i<m->cur[i]?=some (.int .i64 (st.owners.getD i 0)))
theorem yB.step {O O':Nat->Prop} {B p n:Nat} {w w3:World} {st:MSt} {v10:Value} {g m j:Nat} {wi:World} (h:yB O O' B p n w w3 st v10 (some ⟨g,0,none⟩) m j wi) (hj:j<m) (x:Value):yB O O' B p n w w3 st v10 (some ⟨g,0,none⟩) m (j + 1) (wi.setCell ⟨g,j,none⟩ x):=by
 obtain⟨h1,h2,h3⟩:=h
 obtain⟨g',cur,e,hO,hO',hh,hc⟩:=h3 hj
 have eg:g=g':=by injection Option.some.inj e
 subst eg
 have hk:am (fun k=>¬k=g) wi (wi.setCell ⟨g,j,none⟩ x):=(am.refl _ _).setCell (p:=⟨g,j,none⟩) (.inr (fun h=>h rfl)) _
 refine⟨h1.put (hk.mono (fun k _ h e=>h (e ▸ hO))),h2.keeps hk (fun k h e=>hO' (e ▸ h)),fun _=>⟨g,_,rfl,hO,hO',aH hh j _,fun i hi him=>?_⟩⟩
 rw[Array.getElem?_setIfInBounds_ne (by omega)]
 exact hc i (by omega) him
theorem yC {w w3:World} {B p:Nat} (h:dN (fun _=>False) w w3 B p 0 {} w3):yA B p 0 w w3 {} (.slice none 0 0) (.slice none 0 0) (-1) 0 w3:=
 ⟨_,⟨rfl,fun _ o h=>by cases h⟩,fun W _=>cZ.nil W,h,eZ.none _ _⟩
