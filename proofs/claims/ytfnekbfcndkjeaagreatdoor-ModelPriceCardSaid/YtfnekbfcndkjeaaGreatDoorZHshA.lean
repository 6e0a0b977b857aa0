/- The document's sum is the program's: plain. -/
import Derived.Test.YtfnekbfcndkjeaaGreatDoorZHsh5
import Derived.Test.YtfnekbfcndkjeaaGreatDoorZBya
set_option maxHeartbeats 4000000
set_option maxRecDepth 100000
set_option linter.all false
namespace Go.Proofs.YtfnekbfcndkjeaaGreatDoor
open Go.Proofs.Tryz Go.RowKit
def dd (base:Nat) (w:World) (v:Value) (xs:List Int):Prop:=
 ∃g cap,v=.slice (some ⟨g,0,none⟩) xs.length cap/\base<=g/\g<w.heap.size/\xs.length<=cap/\(∀ j,j<cap->(w.cell? ⟨g,j,none⟩).isSome=true/\w.frozen? ⟨g,j,none⟩=false)/\∀j,j<xs.length->w.cell? ⟨g,j,none⟩=some (.int .u8 (xs.getD j 0))
theorem dd.keeps {base:Nat} {K:Nat->Prop} {w w':World} {v:Value} {xs:List Int} (h:dd base w v xs) (hk:am K w w') (hK:∀j,base<=j->j<w.heap.size->K j):dd base w' v xs:=by
 obtain⟨g,cap,e,hb,hg,hc,h1,h2⟩:=h
 have hKg:=hK g hb hg
 have hbl:=hk.block g hg hKg
 have hcell:∀j,w'.cell? ⟨g,j,none⟩=w.cell? ⟨g,j,none⟩:=fun j=>World.cell?_of_block (w:=w) (a:=⟨g,j,none⟩) hbl
 refine⟨g,cap,e,hb,Nat.lt_of_lt_of_le hg hk.size,hc,fun j hj=>?_,fun j hj=>?_⟩
 ·refine⟨by rw[hcell];exact (h1 j hj).1,?_⟩
  exact (World.frozen?_of_block (w:=w) (a:=⟨g,j,none⟩) hbl).trans (h1 j hj).2
 ·rw[hcell];exact h2 j hj
theorem dd.on {base:Nat} {w w':World} {v:Value} {xs:List Int} (h:dd base w v xs) (hb:Below w.heap.size w w'):dd base w' v xs:=h.keeps (ak hb (fun _=>True)) (fun _ _ _=>trivial)
theorem dd.row {base:Nat} {w:World} {v:Value} {xs:List Int} (h:dd base w v xs):qZ .u8 w v xs:=by
 obtain⟨g,cap,e,hb,hg,hc,h1,h2⟩:=h
 exact⟨_,cap,e,hc,fun _=>⟨g,0,rfl,hg,fun j hj=>by rw[Nat.zero_add];exact h2 j hj⟩⟩
theorem dd.own {base:Nat} {w:World} {v:Value} {n:Nat} {xs:List Int} (h:w.ownsRow base 5 1 v n (xs.map (Value.int .u8))) (hn:xs.length=n) (h0:0<n):dd base w v xs:=by
 obtain⟨a,cap',e',hc',hx⟩:=az h
 obtain⟨h1,h2⟩:=h
 rcases h2 with ⟨_,h3⟩ | ⟨g,cap,cur,rfl,hg,hh,hnc,hcm,hcs,htk⟩
 ·omega
 ·obtain⟨g',ea,_,hgl,hj⟩:=hx h0
  obtain⟨e1,_,_⟩:=Value.slice.inj e'
  rw[ea] at e1
  obtain rfl:g=g':=by injection e1 with e1;injection e1
  refine⟨g,cap,by rw[hn],hg,hgl,by omega,fun j hj'=>⟨?_,aL hh j⟩,fun j hjl=>?_⟩
  ·rw[aq hh j]
   rw[Nat.mul_one] at hcs
   simp[hcs,hj']
  ·refine hj j _ ?_
   rw[List.getElem?_map,List.getElem?_eq_getElem hjl,List.getD_eq_getElem?_getD,List.getElem?_eq_getElem hjl]
   rfl
theorem dd.conv (w:World) (s:ByteArray):dd w.heap.size (Lib.bytesWorld w 5 s) (.slice (some ⟨w.heap.size,0,none⟩) s.size (grownCap w s.size 0 5)) (cj s):=by
 have hat:=Lib.bytesWorld_at_new w 5 s
 have hsz:(Lib.bytesCells w 5 s).size=grownCap w s.size 0 5:=by
  have:=grownCap_ge w s.size 0 5
  simp only[Lib.bytesCells,Array.size_append,Array.size_map,Array.size_replicate]
  show s.size + _=_
  omega
 refine⟨w.heap.size,_,by rw[bp],Nat.le_refl _,by rw[Lib.bytesWorld_size];exact Nat.lt_succ_self _,by rw[bp];exact grownCap_ge _ _ _ _,fun j hj=>⟨?_,?_⟩,fun j hj=>(gz.conv w s).cell j hj⟩
 ·unfold World.cell?
  simp only[hat]
  have:j<(Lib.bytesCells w 5 s).size:=by omega
  simp[this]
 ·unfold World.frozen?
  simp only[hat]
  simp
  omega
theorem mq (base:Nat) (ty:TypeId) (w:World) (v:Value) (xs:List Int) (h:dd base w v xs) (y:Int) (g2:Nat) (hy:w.cell? ⟨g2,0,none⟩=some (.int .u8 y)) (hl:xs.length<=1099511627776) (hbase:base<=w.heap.size):
  ∃v' w',(Builtin.append_ #[22,22] ty #[v,.slice (some ⟨g2,0,none⟩) 1 1]).run prog w=.ok v' w'/\dd base w' v' (xs++[y])/\am (·<base) w w':=by
 obtain⟨g,cap,rfl,hb,hg,hc,h1,h2⟩:=h
 obtain⟨i0,hi,hz0,hz1,hz2⟩:=info_parts Tryz.infoU8
 have hnews:∀j u,[Value.int .u8 y][j]?=some u->w.cell? ((⟨g2,0,none⟩:Addr).add j)=some u:=by
  intro j u hu
  match j,hu with
  | 0,hu=>simp at hu;subst hu;exact hy
  | j + 1,hu=>simp at hu
 by_cases hroom:xs.length + 1<=cap
 ·have hr:=run_append_room_cells (P:=prog) w 22 ty 5 i0 underlying22 hi g 0 xs.length cap ⟨g2,0,none⟩ 1 1 [.int .u8 y] (by rw[hz1];rfl) hnews (by simp[Value.oneCell']) hroom
   (fun j hj=>by
    have:j=0:=by simpa using hj
    subst this
    rw[hz1,Nat.zero_add,Nat.mul_one,Nat.add_zero]
    exact (h1 _ (by omega)).1)
   (fun j hj=>by
    have:j=0:=by simpa using hj
    subst this
    rw[hz1,Nat.zero_add,Nat.mul_one,Nat.add_zero]
    exact (h1 _ (by omega)).2)
  rw[hz1,Nat.zero_add,Nat.mul_one] at hr
  have e:w.setCells g xs.length [.int .u8 y]=w.setCell ⟨g,xs.length,none⟩ (.int .u8 y):=rfl
  rw[e] at hr
  have hk:am (·≠g) w (w.setCell ⟨g,xs.length,none⟩ (.int .u8 y)):=(am.refl _ _).setCell (p:=⟨g,xs.length,none⟩) (.inr (fun h=>h rfl)) _
  obtain⟨u0,hu0⟩:=Option.isSome_iff_exists.1 (h1 xs.length (by omega)).1
  refine⟨_,_,hr,⟨g,cap,by rw[List.length_append];rfl,hb,by simpa using hg,by rw[List.length_append];exact hroom,fun j hj=>⟨?_,?_⟩,fun j hj=>?_⟩,hk.mono (fun k _ h=>by have h':k<base:=h;omega)⟩
  ·by_cases e:j=xs.length
   ·subst e;rw[World.cell?_setCell_same _ _ _ hu0];rfl
   ·rw[World.cell?_setCell_other _ _ _ _ (by simp <;> omega)];exact (h1 j hj).1
  ·rw[World.frozen?_setCell];exact (h1 j hj).2
  ·rw[List.length_append] at hj
   by_cases e:j=xs.length
   ·subst e
    rw[World.cell?_setCell_same _ _ _ hu0]
    simp[List.getD_eq_getElem?_getD]
   ·have hjl:j<xs.length:=by have:j<xs.length + 1:=hj;omega
    rw[World.cell?_setCell_other _ _ _ _ (by simp <;> omega),h2 j hjl]
    simp[List.getD_eq_getElem?_getD,List.getElem?_append_left hjl]
 ·obtain⟨v',w',hr,hown,hgr⟩:=run_append_arg_grows (P:=prog) w 22 ty 5 i0 (.int .u8 0) 1 1 underlying22 hi hz0 hz1 hz2 rfl (by decide) ⟨g,0,none⟩ xs.length cap (xs.map (Value.int .u8)) (by simp)
   (fun j u hu=>by
    have hjl:j<xs.length:=by simpa using (List.getElem?_eq_some_iff.1 hu).1
    rw[List.getElem?_map,List.getElem?_eq_getElem hjl] at hu
    have e:(⟨g,0,none⟩:Addr).add j=⟨g,j,none⟩:=by simp only[Addr.add];split <;> simp_all
    rw[e,h2 j hjl,List.getD_eq_getElem?_getD,List.getElem?_eq_getElem hjl]
    exact hu)
   ⟨g2,0,none⟩ 1 1 [.int .u8 y] rfl hnews (by omega) (by unfold maxLen;omega) (by omega)
  have hown':w'.ownsRow w.heap.size 5 1 v' (xs.length + 1) ((xs++[y]).map (Value.int .u8)):=by rw[List.map_append];exact hown
  refine⟨v',w',hr,?_,aF hgr _ (fun k hk=>by cases hk)⟩
  exact dd.own (bY hown' hbase) (by simp) (by omega)
theorem bC {ops:Array Oper} {rest:List Oper} {o:Oper} {a:Act} {Q:Exit->Act->World->Prop} {w:World} (hgd:o.guard=none) (s x:Operand)
  (ho:o.op=.call {callee:=.builtin .append,args:=#[s,x],argTypes:=#[22,22]})
  (base:Nat) (v:Value) (xs:List Int) (hs:a.eval s=v) (hr:dd base w v xs) (y:Int) (g:Nat) (hx:a.eval x=.slice (some ⟨g,0,none⟩) 1 1) (hy:w.cell? ⟨g,0,none⟩=some (.int .u8 y))
  (hl:xs.length<=1099511627776) (hbase:base<=w.heap.size)
  (h:∀v' w',dd base w' v' (xs++[y])->am (·<base) w w'->wpList prog ops Q rest (a.put o.dst v') w'):wpList prog ops Q (o :: rest) a w:=
 wpList_plain hgd fun K hK=>by
  obtain⟨v',w',hrun,h1,h2⟩:=mq base o.type w v xs hr y g hy hl hbase
  unfold Oper.wp execOp
  simp only[ho,resolve,invoke,builtin,Sem.run_bind,Sem.run_pure,Result.andThen_ok,List.map_toArray,List.map_cons,List.map_nil,hs,hx,hrun]
  exact hK _ _ (h v' w' h1 h2)
def mr (t:ByteArray):List Int:=cj t++gL (t.size % 64) ((t.size:Int) % 18446744073709551616)
theorem nK (n:Int):(dh n).length=8:=rfl
theorem ri (t:ByteArray):(mr t).length=t.size + 1 + cN (t.size % 64) + 8:=by
 rw[mr,gL,List.length_append,bp,List.length_append,bx,nK]
 omega
theorem xR (s z:Nat) (h:z<=cN (s % 64)):(s + 1 + z) % 64=56↔z=cN (s % 64):=by
 unfold cN at h ⊢
 omega
def pV (t:ByteArray) (w:World) (e:Ending) (w':World):Prop:=
 ∃v,e=.returned v/\dd w.heap.size w' v (mr t)/\Below w.heap.size w w'
theorem zA (t:ByteArray) (hts:t.size<=1000000000) (w:World):Calls prog 113 #[.string t] w (pV t w):=by
 have HTS:=ac hts
 clear hts
 obtain⟨Q,hQ⟩:∃Q,Q=pV t w:=⟨_,rfl⟩
 have HQ:=ac hQ
 rw[<-hQ]
 clear hQ
 have kc:=fun W=>Lib.run_convert_string_bytes (P:=prog) W 9 22 5 t underlying9 underlying22 underlying5
 have HR:aa (dd w.heap.size (Lib.bytesWorld w 5 t) (.slice (some ⟨w.heap.size,0,none⟩) t.size (grownCap w t.size 0 5)) (cj t)):=dd.conv w t
 have HB:aa (Below w.heap.size w (Lib.bytesWorld w 5 t)):=i8 _ _ _
 obtain⟨n,hn⟩:∃n,n=t.size:=⟨_,rfl⟩
 have hn1:n<=1000000000:=by rw[hn];exact HTS.out
 have HN:=ac hn
 obtain⟨v0,hv0⟩:∃v,v=Value.slice (some ⟨w.heap.size,0,none⟩) t.size (grownCap w t.size 0 5):=⟨_,rfl⟩
 obtain⟨wb,hwb⟩:∃z,z=Lib.bytesWorld w 5 t:=⟨_,rfl⟩
 have kc0:(convert 9 22 (.string t)).run prog w=.ok v0 wb:=by rw[hv0,hwb];exact kc w
 rw[<-hv0,<-hwb] at HR
 rw[<-hwb] at HB
 clear kc hn hv0 hwb
 have hsw:w.heap.size<=wb.heap.size:=HB.out.size
 go_enter func113,ntmps113
 go_wp2_with (first
  | (at_builtin;refine bC rfl _ _ rfl w.heap.size _ (cj t) rfl (dd.on HR.out (af _ _)) 128 wb.heap.size rfl ?c1 ?c2 ?c3 ?_)
  | fail)
 case c1=>exact aO _ _ _ 0
 case c2=>rw[bp];have:=HTS.out;omega
 case c3=>simp;omega
 intro v1 w1 hr1 hk1
 have HR1:aa (dd w.heap.size w1 v1 (cj t++bQ 0)):=hr1
 have HB1:aa (Below w.heap.size w w1):=HB.out.trans (((ak (af _ _) _).trans hk1).below hsw)
 clear hr1 hk1 kc0 hsw HR HB
 go_wp2_with fail
 obtain⟨Z,hZ⟩:∃Z,Z=cN (n % 64):=⟨_,rfl⟩
 have HZ:=ac hZ
 have hZ64:Z<=64:=by rw[hZ];unfold cN;omega
 clear hZ
 go_loopg [3] Z (fun gk v3 wr=>∃(z:Nat) (y:Value),y=v3/\z<=Z/\Z - z<=gk/\aa (dd w.heap.size wr y (cj t++bQ z))/\aa (Below w.heap.size w wr))
 case atStart=>exact⟨0,_,rfl,by omega,by omega,HR1,HB1⟩
 case round=>
  clear HR1 HB1
  obtain⟨z,v3,rfl,hz,hgk,HR,HB⟩:=hrel
  have hlen:(cj t++bQ z).length=n + 1 + z:=by rw[List.length_append,bp,bx,HN.out];omega
  obtain⟨g,cap,hv,_,_,hcap,_,_⟩:=HR.out
  rw[hlen] at hv
  have HV:=ac hv
  have hiff:=xR n z (by rw[<-HZ.out];exact hz)
  rw[<-HZ.out] at hiff
  have HLEN:=ac hlen
  obtain⟨m,hm⟩:∃m,m=(n + 1 + z) % 64:=⟨_,rfl⟩
  have hrem:((n + 1 + z:Nat):Int).tmod 64=(m:Int):=by rw[hm];rfl
  obtain⟨L,hL⟩:∃L,L=n + 1 + z:=⟨_,rfl⟩
  rw[<-hL] at hv hrem
  rw[<-hm] at hiff
  by_cases he:z=Z
  ·have h56:m=56:=hiff.2 he
   have e1:((m:Int) !=56)=false:=by rw[h56];rfl
   have HR2:aa (dd w.heap.size wr v3 (cj t++bQ Z)):=by rw[<-he];exact HR.out
   have HL:aa (L=n + 1 + Z):=by rw[<-he];exact hL
   rw[hv]
   clear he h56 hiff hm hL hz hgk hlen HLEN hcap
   go_upto_region 4 with fail
   rw[<-hv]
   clear hv hrem e1
   obtain⟨N,hN⟩:∃N:Int,N=8 * ((n:Int) % 18446744073709551616) % 18446744073709551616:=⟨_,rfl⟩
   have hw1:IntKind.u64.wrap (n:Int)=n:=by rw[IntKind.wrap_u64];omega
   have hw2:IntKind.u64.wrap (8 * (n:Int))=N:=by rw[IntKind.wrap_u64,hN];omega
   have hnt:t.size=n:=HN.out.symm
   have HNB:aa (0<=N/\N<=18446744073709551615):=by rw[aa];omega
   have HNE:aa (N=8 * ((n:Int) % 18446744073709551616) % 18446744073709551616):=hN
   clear hN
   go_upto_region 5 with fail
   clear hw1 hw2 hnt
   go_wp2_with fail
   obtain⟨P0,hP0⟩:∃p,p=cj t++bQ Z:=⟨_,rfl⟩
   rw[<-hP0] at HR2
   have HPL:aa (P0.length<=1000001000):=by rw[aa,hP0,List.length_append,bp,bx];have:=HTS.out;omega
   have HP0:=ac hP0
   clear hP0
   go_loopg [3,5] 8 (fun gk v3 v5 wr=>∃(k:Nat) (y:Value),y=v3/\k<=8/\v5=.int .i64 (7 - (k:Int))/\8 - k<=gk/\aa (dd w.heap.size wr y (P0++(dh N).take k))/\aa (Below w.heap.size w wr))
   case atStart=>exact⟨0,_,rfl,by omega,rfl,by omega,by rw[List.take_zero,List.append_nil];exact HR2,HB⟩
   case round=>
    clear HR2 HB HR
    obtain⟨k,v3,rfl,hk,rfl,hgk,HR,HB⟩:=hrel
    have hsw:w.heap.size<=wr.heap.size:=HB.out.size
    have hNB:=HNB.out
    match k,hk with
    | 0,_=>
     rw[show (7:Int) - ((0:Nat):Int)=7 from rfl]
     have HM:aa (8 - 1<gk):=by rw[aa];omega
     clear hgk
     go_wp2_with (first
      | (at_builtin;refine bC rfl _ _ rfl w.heap.size _ (P0++(dh N).take 0) rfl (dd.on HR.out (af _ _)) (N / 72057594037927936) wr.heap.size rfl ?c1 ?c2 ?c3 ?_)
      | fail)
     case c1=>exact aO _ _ _ 0
     case c2=>have:=HPL.out;rw[List.length_append];have:((dh N).take 0).length<=8:=(by rw[List.length_take];omega);omega
     case c3=>simp;omega
     intro v1 w1 hr1 hk1
     have HR1:aa (dd w.heap.size w1 v1 (P0++(dh N).take 1)):=by
      have e:(dh N).take 1=[(N / 72057594037927936)]:=by
       show [_]=[_];congr 1;omega
      rw[aa,e]
      exact hr1
     have HB1:aa (Below w.heap.size w w1):=HB.out.trans (((ak (af _ _) _).trans hk1).below hsw)
     clear hr1 hk1 hsw HR HB hNB
     go_wp2_with fail
     go_roundg (8 - 1)
     case measure=>exact HM.out
     case rel=>exact⟨1,_,rfl,by omega,rfl,by omega,HR1,HB1⟩
    | 1,_=>
     rw[show (7:Int) - ((1:Nat):Int)=6 from rfl]
     have HM:aa (8 - 2<gk):=by rw[aa];omega
     clear hgk
     go_wp2_with (first
      | (at_builtin;refine bC rfl _ _ rfl w.heap.size _ (P0++(dh N).take 1) rfl (dd.on HR.out (af _ _)) (N / 281474976710656 % 256) wr.heap.size rfl ?c1 ?c2 ?c3 ?_)
      | fail)
     case c1=>exact aO _ _ _ 0
     case c2=>have:=HPL.out;rw[List.length_append];have:((dh N).take 1).length<=8:=(by rw[List.length_take];omega);omega
     case c3=>simp;omega
     intro v1 w1 hr1 hk1
     have HR1:aa (dd w.heap.size w1 v1 (P0++(dh N).take 2)):=by
      have e:(dh N).take 2=(dh N).take 1++[(N / 281474976710656 % 256)]:=by
       rfl
      rw[aa,e]
      exact hr1
     have HB1:aa (Below w.heap.size w w1):=HB.out.trans (((ak (af _ _) _).trans hk1).below hsw)
     clear hr1 hk1 hsw HR HB hNB
     go_wp2_with fail
     go_roundg (8 - 2)
     case measure=>exact HM.out
     case rel=>exact⟨2,_,rfl,by omega,rfl,by omega,HR1,HB1⟩
    | 2,_=>
     rw[show (7:Int) - ((2:Nat):Int)=5 from rfl]
     have HM:aa (8 - 3<gk):=by rw[aa];omega
     clear hgk
     go_wp2_with (first
      | (at_builtin;refine bC rfl _ _ rfl w.heap.size _ (P0++(dh N).take 2) rfl (dd.on HR.out (af _ _)) (N / 1099511627776 % 256) wr.heap.size rfl ?c1 ?c2 ?c3 ?_)
      | fail)
     case c1=>exact aO _ _ _ 0
     case c2=>have:=HPL.out;rw[List.length_append];have:((dh N).take 2).length<=8:=(by rw[List.length_take];omega);omega
     case c3=>simp;omega
     intro v1 w1 hr1 hk1
     have HR1:aa (dd w.heap.size w1 v1 (P0++(dh N).take 3)):=by
      have e:(dh N).take 3=(dh N).take 2++[(N / 1099511627776 % 256)]:=by
       rfl
      rw[aa,e]
      exact hr1
     have HB1:aa (Below w.heap.size w w1):=HB.out.trans (((ak (af _ _) _).trans hk1).below hsw)
     clear hr1 hk1 hsw HR HB hNB
     go_wp2_with fail
     go_roundg (8 - 3)
     case measure=>exact HM.out
     case rel=>exact⟨3,_,rfl,by omega,rfl,by omega,HR1,HB1⟩
    | 3,_=>
     rw[show (7:Int) - ((3:Nat):Int)=4 from rfl]
     have HM:aa (8 - 4<gk):=by rw[aa];omega
     clear hgk
     go_wp2_with (first
      | (at_builtin;refine bC rfl _ _ rfl w.heap.size _ (P0++(dh N).take 3) rfl (dd.on HR.out (af _ _)) (N / 4294967296 % 256) wr.heap.size rfl ?c1 ?c2 ?c3 ?_)
      | fail)
     case c1=>exact aO _ _ _ 0
     case c2=>have:=HPL.out;rw[List.length_append];have:((dh N).take 3).length<=8:=(by rw[List.length_take];omega);omega
     case c3=>simp;omega
     intro v1 w1 hr1 hk1
     have HR1:aa (dd w.heap.size w1 v1 (P0++(dh N).take 4)):=by
      have e:(dh N).take 4=(dh N).take 3++[(N / 4294967296 % 256)]:=by
       rfl
      rw[aa,e]
      exact hr1
     have HB1:aa (Below w.heap.size w w1):=HB.out.trans (((ak (af _ _) _).trans hk1).below hsw)
     clear hr1 hk1 hsw HR HB hNB
     go_wp2_with fail
     go_roundg (8 - 4)
     case measure=>exact HM.out
     case rel=>exact⟨4,_,rfl,by omega,rfl,by omega,HR1,HB1⟩
    | 4,_=>
     rw[show (7:Int) - ((4:Nat):Int)=3 from rfl]
     have HM:aa (8 - 5<gk):=by rw[aa];omega
     clear hgk
     go_wp2_with (first
      | (at_builtin;refine bC rfl _ _ rfl w.heap.size _ (P0++(dh N).take 4) rfl (dd.on HR.out (af _ _)) (N / 16777216 % 256) wr.heap.size rfl ?c1 ?c2 ?c3 ?_)
      | fail)
     case c1=>exact aO _ _ _ 0
     case c2=>have:=HPL.out;rw[List.length_append];have:((dh N).take 4).length<=8:=(by rw[List.length_take];omega);omega
     case c3=>simp;omega
     intro v1 w1 hr1 hk1
     have HR1:aa (dd w.heap.size w1 v1 (P0++(dh N).take 5)):=by
      have e:(dh N).take 5=(dh N).take 4++[(N / 16777216 % 256)]:=by
       rfl
      rw[aa,e]
      exact hr1
     have HB1:aa (Below w.heap.size w w1):=HB.out.trans (((ak (af _ _) _).trans hk1).below hsw)
     clear hr1 hk1 hsw HR HB hNB
     go_wp2_with fail
     go_roundg (8 - 5)
     case measure=>exact HM.out
     case rel=>exact⟨5,_,rfl,by omega,rfl,by omega,HR1,HB1⟩
    | 5,_=>
     rw[show (7:Int) - ((5:Nat):Int)=2 from rfl]
     have HM:aa (8 - 6<gk):=by rw[aa];omega
     clear hgk
     go_wp2_with (first
      | (at_builtin;refine bC rfl _ _ rfl w.heap.size _ (P0++(dh N).take 5) rfl (dd.on HR.out (af _ _)) (N / 65536 % 256) wr.heap.size rfl ?c1 ?c2 ?c3 ?_)
      | fail)
     case c1=>exact aO _ _ _ 0
     case c2=>have:=HPL.out;rw[List.length_append];have:((dh N).take 5).length<=8:=(by rw[List.length_take];omega);omega
     case c3=>simp;omega
     intro v1 w1 hr1 hk1
     have HR1:aa (dd w.heap.size w1 v1 (P0++(dh N).take 6)):=by
      have e:(dh N).take 6=(dh N).take 5++[(N / 65536 % 256)]:=by
       rfl
      rw[aa,e]
      exact hr1
     have HB1:aa (Below w.heap.size w w1):=HB.out.trans (((ak (af _ _) _).trans hk1).below hsw)
     clear hr1 hk1 hsw HR HB hNB
     go_wp2_with fail
     go_roundg (8 - 6)
     case measure=>exact HM.out
     case rel=>exact⟨6,_,rfl,by omega,rfl,by omega,HR1,HB1⟩
    | 6,_=>
     rw[show (7:Int) - ((6:Nat):Int)=1 from rfl]
     have HM:aa (8 - 7<gk):=by rw[aa];omega
     clear hgk
     go_wp2_with (first
      | (at_builtin;refine bC rfl _ _ rfl w.heap.size _ (P0++(dh N).take 6) rfl (dd.on HR.out (af _ _)) (N / 256 % 256) wr.heap.size rfl ?c1 ?c2 ?c3 ?_)
      | fail)
     case c1=>exact aO _ _ _ 0
     case c2=>have:=HPL.out;rw[List.length_append];have:((dh N).take 6).length<=8:=(by rw[List.length_take];omega);omega
     case c3=>simp;omega
     intro v1 w1 hr1 hk1
     have HR1:aa (dd w.heap.size w1 v1 (P0++(dh N).take 7)):=by
      have e:(dh N).take 7=(dh N).take 6++[(N / 256 % 256)]:=by
       rfl
      rw[aa,e]
      exact hr1
     have HB1:aa (Below w.heap.size w w1):=HB.out.trans (((ak (af _ _) _).trans hk1).below hsw)
     clear hr1 hk1 hsw HR HB hNB
     go_wp2_with fail
     go_roundg (8 - 7)
     case measure=>exact HM.out
     case rel=>exact⟨7,_,rfl,by omega,rfl,by omega,HR1,HB1⟩
    | 7,_=>
     rw[show (7:Int) - ((7:Nat):Int)=0 from rfl]
     have HM:aa (8 - 8<gk):=by rw[aa];omega
     clear hgk
     go_wp2_with (first
      | (at_builtin;refine bC rfl _ _ rfl w.heap.size _ (P0++(dh N).take 7) rfl (dd.on HR.out (af _ _)) (N % 256) wr.heap.size rfl ?c1 ?c2 ?c3 ?_)
      | fail)
     case c1=>exact aO _ _ _ 0
     case c2=>have:=HPL.out;rw[List.length_append];have:((dh N).take 7).length<=8:=(by rw[List.length_take];omega);omega
     case c3=>simp;omega
     intro v1 w1 hr1 hk1
     have HR1:aa (dd w.heap.size w1 v1 (P0++(dh N).take 8)):=by
      have e:(dh N).take 8=(dh N).take 7++[(N % 256)]:=by
       rfl
      rw[aa,e]
      exact hr1
     have HB1:aa (Below w.heap.size w w1):=HB.out.trans (((ak (af _ _) _).trans hk1).below hsw)
     clear hr1 hk1 hsw HR HB hNB
     go_wp2_with fail
     go_roundg (8 - 8)
     case measure=>exact HM.out
     case rel=>exact⟨8,_,rfl,by omega,rfl,by omega,HR1,HB1⟩
    | 8,_=>
     rw[show (7:Int) - ((8:Nat):Int)=-1 from rfl]
     have HE:aa (pV t w (.returned v3) wr):=by
      refine⟨v3,rfl,?_,HB.out⟩
      have h:=HR.out
      rw[show (dh N).take 8=dh N from rfl,HP0.out,List.append_assoc] at h
      rw[mr,gL,<-HN.out,<-HZ.out,<-HNE.out]
      exact h
     rw[<-HQ.out] at HE
     clear hgk hsw hNB HR HB
     go_wp2_with fail
     exact HE.out
    | k + 9,h=>omega
  ·have h56:¬m=56:=fun h=>he (hiff.1 h)
   have e1:((m:Int) !=56)=true:=by rw[bne_iff_ne];omega
   have HM:aa (Z - (z + 1)<gk/\z + 1<=Z):=⟨by omega,by omega⟩
   have hsw:w.heap.size<=wr.heap.size:=HB.out.size
   rw[hv]
   clear he h56 hiff hm hz hgk hlen hcap hL
   go_upto_region 3 with fail
   rw[<-hv]
   clear hv hrem e1
   go_wp2_with (first
    | (at_builtin;refine bC rfl _ _ rfl w.heap.size _ (cj t++bQ z) rfl (dd.on HR.out (af _ _)) 0 wr.heap.size rfl ?c1 ?c2 ?c3 ?_)
    | fail)
   case c1=>exact aO _ _ _ 0
   case c2=>have:=HLEN.out;have:=HM.out;omega
   case c3=>simp;omega
   intro v1 w1 hr1 hk1
   have HR1:aa (dd w.heap.size w1 v1 (cj t++bQ (z + 1))):=by
    rw[<-mM] at hr1
    exact hr1
   have HB1:aa (Below w.heap.size w w1):=HB.out.trans (((ak (af _ _) _).trans hk1).below hsw)
   clear hr1 hk1 hsw
   go_wp2_with fail
   go_roundg (Z - (z + 1))
   case measure=>exact HM.out.1
   case rel=>exact⟨z + 1,_,rfl,HM.out.2,by omega,HR1,HB1⟩
theorem lK (s:ByteArray) (a b c d:Nat) (h:a + d<=b):(s.extract a b).extract c d=s.extract (a + c) (a + d):=by
 rw[ByteArray.extract_extract]
 congr 1
 omega
theorem l8 (K:Nat->Int) (s:S8) (u:ByteArray) (a:Nat):∀b,64 * (a + b)<=u.size->bN K s u (a + b)=bN K (bN K s u a) (u.extract (64 * a) u.size) b
 | 0,_=>rfl
 | b + 1,h=>by
  show em K (bN K s u (a + b)) (u.extract (64 * (a + b)) (64 * (a + b) + 64))=em K (bN K (bN K s u a) (u.extract (64 * a) u.size) b) _
  rw[l8 K s u a b (by omega),lK u (64 * a) u.size (64 * b) (64 * b + 64) (by omega)]
  rw[show 64 * a + 64 * b=64 * (a + b) by omega,show 64 * a + (64 * b + 64)=64 * (a + b) + 64 by omega]
theorem oh (t p:ByteArray) (a b:Nat) (h:b<=t.size):(t++p).extract a b=t.extract a b:=by
 have e:p.extract (a - t.size) (b - t.size)=ByteArray.empty:=ByteArray.extract_eq_empty_iff.2 (by omega)
 rw[ByteArray.extract_append,e,ByteArray.append_empty]
theorem jS (K:Nat->Int) (s:S8) (t p:ByteArray):∀a,64 * a<=t.size->bN K s (t++p) a=bN K s t a
 | 0,_=>rfl
 | a + 1,h=>by
  show em K (bN K s (t++p) a) _=em K (bN K s t a) _
  rw[jS K s t p a (by omega),oh t p _ _ (by omega)]
theorem pW (t p:ByteArray) (a:Nat) (h:a<=t.size):(t++p).extract a (t++p).size=t.extract a t.size++p:=by
 rw[ByteArray.extract_append,ByteArray.size_append,show a - t.size=0 by omega,show t.size + p.size - t.size=p.size by omega,ByteArray.extract_zero_size]
 congr 1
 apply ByteArray.ext
 simp only[ByteArray.data_extract]
 apply Array.ext_getElem?
 intro i
 simp only[Array.getElem?_extract]
 have e:t.size=t.data.size:=rfl
 congr 1
 apply propext
 omega
theorem zB (K:Nat->Int) (F:S8) (t:ByteArray):bN K F (strOfNums (mr t)) ((strOfNums (mr t)).size / 64)=jH K F t:=by
 have e1:strOfNums (mr t)=t++strOfNums (gL (t.size % 64) ((t.size:Int) % 18446744073709551616)):=by rw[mr,tE]
 have hp:(strOfNums (gL (t.size % 64) ((t.size:Int) % 18446744073709551616))).size=cN (t.size % 64) + 9:=by
  rw[dz,gL,List.length_append,bx,nK]
 obtain⟨p,hpp⟩:∃p,p=strOfNums (gL (t.size % 64) ((t.size:Int) % 18446744073709551616)):=⟨_,rfl⟩
 rw[<-hpp] at e1 hp
 have hr:(t.extract (64 * (t.size / 64)) t.size).size=t.size % 64:=by rw[ByteArray.size_extract];omega
 rw[jH,uf,hr,<-hpp,e1]
 have hs:(t++p).size=t.size + p.size:=ByteArray.size_append
 have hz:(t.size + p.size) % 64=0:=by rw[hp];unfold cN;omega
 obtain⟨n,hn⟩:∃n,n=(t.size % 64 + p.size) / 64:=⟨_,rfl⟩
 have h1:(t++p).size / 64=t.size / 64 + n:=by rw[hs,hn];omega
 have h2:(t.extract (64 * (t.size / 64)) t.size++p).size / 64=n:=by rw[ByteArray.size_append,hr,hn]
 rw[h1,h2,l8 K F (t++p) (t.size / 64) n (by rw[hs];omega),jS K F t p _ (by omega),pW t p _ (by omega)]
