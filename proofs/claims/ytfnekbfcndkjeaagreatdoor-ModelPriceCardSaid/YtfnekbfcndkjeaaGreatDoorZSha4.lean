/- sha's (*Hash).Write, walked. -/
import Derived.RangeFuncNested
import Derived.RangeFuncBound
import Derived.Shelf.RegionOpen
import Derived.OwnWalkIn
import Derived.LoopNIn
import Derived.LoopIn
import Derived.Test.YtfnekbfcndkjeaaGreatDoorZSha2
set_option maxHeartbeats 4000000
set_option maxRecDepth 100000
set_option linter.all false
namespace Go.Proofs.YtfnekbfcndkjeaaGreatDoor
open Go.Proofs.Tryz Go.RowKit Go.Shelf
attribute [local go_sem] Oper.semAt_some
def pl (Bs:Nat) (W:World):Nat:=match W.cell? ⟨Bs,0,none⟩ with
 | some (.string t)=>t.size
 | _=>0
theorem mJ {Bs:Nat} {W:World} {t:ByteArray} (h:W.cell? ⟨Bs,0,none⟩=some (.string t)):pl Bs W=t.size:=by
 unfold pl
 rw[h]
theorem yN (F:Fence) (n:Nat) (h66:F.fn 164) (hro:F.round=none) (hn:1<=n) (l Bs N:Nat) (t:ByteArray) (hN:N=t.size / 64) (hm:t.size<=9223372036854775807) (J:Nat->World->Prop)
  (hset:∀k W v,J k W->J k (W.setCell ⟨Bs,0,none⟩ v))
  (hY:∀k W1,k<N->J k W1->W1.cell? ⟨Bs,0,none⟩=some (.string (t.extract (64 * k) t.size))->W1.frozen? ⟨Bs,0,none⟩=false->
   YieldAt F (n - 1) prog l #[.string (t.extract (64 * k) (64 * k + 64))] W1 fun e W'=>e=.returned (.bool true)/\J (k + 1) W'/\W'.cell? ⟨Bs,0,none⟩=some (.string (t.extract (64 * k) t.size))/\W'.frozen? ⟨Bs,0,none⟩=false)
  (W:World) (hB:W.cell? ⟨Bs,0,none⟩=some (.string t)) (hf:W.frozen? ⟨Bs,0,none⟩=false) (h0:J 0 W):
  CallsIn F n prog 164 #[.func (.yield l) #[] #[],.pointer (some ⟨Bs,0,none⟩)] W fun e W'=>(∃ v,e=.returned v)/\J N W':=by
 refine callsIn_of_wp func164 rfl h66 ?_ hro
 simp only[ntmps164,List.size_toArray,List.length_cons,List.length_nil,Nat.reduceAdd,Nat.reduceSub,Array.replicate_succ,Array.replicate_zero,List.push_toArray,List.append_toArray,List.nil_append,List.cons_append]
 have HN:=ac hN
 have HJ0:=ac h0
 have HB0:aa (W.cell? ⟨Bs,0,none⟩=some (.string (t.extract (64 * 0) t.size))):=by
  rw[aa,hB]
  simp
 have HF0:=ac hf
 have HSET:=ac hset
 have HY:=ac hY
 clear hN h0 hB hf hset hY
 gi_wp2
 gi_loopw [3] (fun v wr=>∃k:Nat,k<=N/\v=v/\aa (J k wr)/\aa (wr.cell? ⟨Bs,0,none⟩=some (.string (t.extract (64 * k) t.size)))/\aa (wr.frozen? ⟨Bs,0,none⟩=false))
  (fun _ wr=>pl Bs wr)
 case atStart=>exact⟨0,by omega,rfl,HJ0,HB0,HF0⟩
 case round=>
  obtain⟨k,hk,_,HJ,HB,HF⟩:=hrel
  have hb:=HB.out
  have hf:=HF.out
  by_cases hlt:k<N
  ·have hNs:=HN.out
   have hs1:64<=(t.extract (64 * k) t.size).size:=by rw[ByteArray.size_extract];omega
   have hs2:(t.extract (64 * k) t.size).size<=9223372036854775807:=by rw[ByteArray.size_extract];omega
   obtain⟨fn,tmps,assign,body,hy,hR⟩:=HY.out k wr hlt HJ.out HB.out HF.out
   obtain⟨r,hr⟩:∃r,r=t.extract (64 * k) t.size:=⟨_,rfl⟩
   have he:r.extract 0 64=t.extract (64 * k) (64 * k + 64):=by
    rw[hr,ByteArray.extract_extract]
    congr 1
    omega
   rw[<-he] at hy
   have HE3:aa (r.extract 64 r.size=t.extract (64 * (k + 1)) t.size):=by
    rw[aa,hr,ByteArray.extract_extract,ByteArray.size_extract]
    congr 1 <;> omega
   have HSR:aa (r.size=t.size - 64 * k):=by rw[aa,hr,ByteArray.size_extract];omega
   rw[<-hr] at hb hs1 hs2 hR
   clear hr he hNs HB HJ HF
   gi_wp2
   refine hR.mono ?_
   rintro e W3 ⟨rfl,hJ3,hb3,hf3⟩
   have HJ3:=ac hJ3
   clear hJ3 hy hR
   gi_wp2
   go_roundw
   case rel=>
    refine⟨k + 1,by omega,trivial,HSET.out _ _ _ HJ3.out,?_,?_⟩
    ·rw[<-HE3.out]
     exact World.cell?_setCell_same _ _ _ hb3
    ·rw[aa,World.frozen?_setCell];exact hf3
   case measure=>
    rw[mJ (World.cell?_setCell_same _ _ _ hb3),mJ hb,HE3.out,ByteArray.size_extract]
    have:=HSR.out
    omega
  ·have hNs:=HN.out
   have hs1:(t.extract (64 * k) t.size).size<64:=by rw[ByteArray.size_extract];omega
   have hkN:k=N:=by omega
   have HJN:aa (J N wr):=by rw[<-hkN];exact HJ.out
   obtain⟨r,hr⟩:∃r,r=t.extract (64 * k) t.size:=⟨_,rfl⟩
   rw[<-hr] at hb hs1
   clear hr hNs hkN HB HJ HF hlt HN
   gi_wp2
   go_end0
   exact⟨⟨_,rfl⟩,HJN.out⟩
attribute [local go_sem] Oper.semAt_some
theorem rN (t:ByteArray) (w:World):Calls prog 162 #[.string t] w fun e w'=>e=.returned (.func (.func 164) #[] #[.pointer (some ⟨w.heap.size,0,none⟩)])/\w'=w.alloc (.cells #[.string t] 9):=by
 go_enter func162,ntmps162
 go_wp2
 go_ret
 exact⟨rfl,rfl⟩
structure cQ (b:Nat) (st:S8) (rest:ByteArray) (ln:Int) (w:World):Prop where
 st:∀j,j<8->w.cell? ⟨b,j,none⟩=some (.int .u32 (st.get j))/\w.frozen? ⟨b,j,none⟩=false
 rest:w.cell? ⟨b,8,none⟩=some (.string rest)
 restf:w.frozen? ⟨b,8,none⟩=false
 len:w.cell? ⟨b,9,none⟩=some (.int .u64 ln)
 lenf:w.frozen? ⟨b,9,none⟩=false
theorem cQ.on {b:Nat} {st:S8} {rest:ByteArray} {ln:Int} {w w':World} (h:cQ b st rest ln w) (hb:Below w.heap.size w w'):cQ b st rest ln w':=by
 have hl:b<w.heap.size:=aC h.rest
 exact⟨fun j hj=>⟨(hb.cell (p:=⟨b,j,none⟩) hl).trans (h.st j hj).1,(hb.frozen (p:=⟨b,j,none⟩) hl).trans (h.st j hj).2⟩,(hb.cell (p:=⟨b,8,none⟩) hl).trans h.rest,(hb.frozen (p:=⟨b,8,none⟩) hl).trans h.restf,(hb.cell (p:=⟨b,9,none⟩) hl).trans h.len,(hb.frozen (p:=⟨b,9,none⟩) hl).trans h.lenf⟩
def tC (b k:Nat) (I:Nat->World->Prop) (W:World):Exit->Act->World->Prop
 | .normal,_,W'=>am (·≠b) W W'/\I (k + 1) W'
 | _,_,_=>False
theorem iy {n:Nat} (W:World) (l:Nat) (o:Obj) (hl:n<=l) (hs:l<W.heap.size):Below n W (W.putObj l o):=
 (Below.refl n W).grown (grownBy_putObj' W l o) (by omega) (fun k e=>by cases e;omega)
theorem nU {ps:Array Tmp} {assign body:Code} {Q:Exit->Act->World->Prop} {a:Act} {w:World} {g:Operand}
  (t:ByteArray) (Bs N:Nat) (hN:N=t.size / 64) (hm:t.size<=9223372036854775807) (hg:a.eval g=.func (.func 164) #[] #[.pointer (some ⟨Bs,0,none⟩)]) (hps:ps.size=1)
  (hB:w.cell? ⟨Bs,0,none⟩=some (.string t)) (hf:w.frozen? ⟨Bs,0,none⟩=false) (b:Nat) (hbl:b<w.heap.size) (hbB:b≠Bs)
  (I:Nat->World->Prop) (hIn:∀k W W',I k W->Below w.heap.size W W'->I k W') (hIs:∀k W v,I k W->I k (W.setCell ⟨Bs,0,none⟩ v)) (h0:I 0 w)
  (a₁:Nat->Act)
  (hassign:∀(l k:Nat) (W:World) (K:Act->World->Prop),K (a₁ k) W->
   assign.wpIn (Fence.wide.inRound l) (4 - 1 - 1) prog (Exit.then K (fun _ _ _=>False)) {tmps:=(ps.zip #[.string (t.extract (64 * k) (64 * k + 64))]).foldl (fun t (p,v)=>t.setIfInBounds p v) a.tmps,defers:=[]} W)
  (hbody:∀(l k:Nat) (W:World),k<N->I k W->w.heap.size<=W.heap.size->body.wpIn (Fence.wide.inRound l) (4 - 1 - 1) prog (tC b k I W) (a₁ k) W)
  (hdone:∀(D:Nat) (W:World),I N W->W.heap[D]?=some (.deferred (some []))->w.heap.size<=D->Q .normal {a with defers:={target:=.collected D,args:=#[]} :: a.defers} W):
  (Code.rangeFunc g ps assign body).wpIn Fence.wide 4 prog Q a w:=by
 have hBl:Bs<w.heap.size:=aC hB
 refine wpIn_rangeFunc ?_
 intro fn hfn
 obtain⟨rec,hrec⟩:∃rec:LoopState->Option Code->Loop,rec=fun st pe=>{state:=st,pending:=pe,fn,tmps:=a.tmps,params:=ps,assign,body,defers:=w.heap.size}:=⟨_,rfl⟩
 obtain⟨W1,hW1⟩:∃W1,(w.alloc (.deferred (some []))).alloc (.loop (rec .ready none))=W1:=⟨_,rfl⟩
 have hL1:W1.heap[w.heap.size + 1]?=some (.loop (rec .ready none)):=by
  rw[<-hW1];have:=World.alloc_heap_new (w.alloc (.deferred (some []))) (.loop (rec .ready none));rwa [World.size_alloc] at this
 have hK1:W1.heap[w.heap.size]?=some (.deferred (some [])):=by
  rw[<-hW1];exact (Below.heap_alloc _ _ _ (by simp)).trans (World.alloc_heap_new w _)
 have hb1:Below w.heap.size w W1:=by
  rw[<-hW1];exact ((Below.refl _ w).alloc (Nat.le_refl _) _).alloc (by simp) _
 refine⟨w.heap.size + 1,[{target:=.collected w.heap.size,args:=#[]}],W1,{target:=.fn (.func 164) #[.pointer (some ⟨Bs,0,none⟩)],args:=#[.func (.yield (w.heap.size + 1)) #[] #[]]},W1,164,
  #[.func (.yield (w.heap.size + 1)) #[] #[], .pointer (some ⟨Bs, 0, none⟩)], W1, ?_, ?_, fun _ _ => trivial, ?_, fun _ => by decide, ?_⟩
 ·rw[<-hW1,hrec];exact run_enterLoop_outer _ _ _ _ _
 ·simp only[resolve,hg]
  simp[go_sem]
 ·simp[invoke,go_sem]
 ·refine (yN Fence.wide (4 - 1) trivial rfl (by decide) (w.heap.size + 1) Bs N t hN hm
   (fun k W=>I k W/\W.heap[w.heap.size + 1]?=some (.loop (rec .ready none))/\W.heap[w.heap.size]?=some (.deferred (some []))/\w.heap.size<=W.heap.size) ?_ ?_ W1 ?_ ?_ ⟨hIn _ _ _ h0 hb1,hL1,hK1,hb1.size⟩).mono ?_
  ·rintro k W v ⟨hi,hl,hk,hs⟩
   exact⟨hIs _ _ _ hi,(Below.heap_setCell _ _ _ _ (by simp only;omega)).trans hl,(Below.heap_setCell _ _ _ _ (by simp only;omega)).trans hk,by simpa [World.setCell] using hs⟩
  ·rintro k W hk ⟨hi,hl,hkd,hs⟩ hbx hbf
   have hlt:w.heap.size + 1<W.heap.size:=(Array.getElem?_eq_some_iff.1 hl).1
   have hy:=run_yield (P:=prog) (args:=#[.string (t.extract (64 * k) (64 * k + 64))]) hl (by rw[hrec];exact hps.symm)
   rw[hrec] at hy
   refine⟨fn,_,assign,body,hy,roundIn_of_wpIn hfn (hassign _ k W _ ⟨_,run_beginRound hl (by rw[hrec]),?_⟩)⟩
   have hl2:(W.putObj (w.heap.size + 1) (.loop {rec .ready none with state:=.busy})).heap[w.heap.size + 1]?=some (.loop {rec .ready none with state:=.busy}):=World.putObj_heap_same hlt
   have hB2:Below w.heap.size W (W.putObj (w.heap.size + 1) (.loop {rec .ready none with state:=.busy})):=iy W _ _ (by omega) hlt
   refine wpIn_mono (hbody _ k _ hk (hIn _ _ _ hi hB2) (by rw[World.putObj_size];exact hs)) ?_
   rintro e a3 W3 hp
   cases e with
   | normal=>
    obtain⟨hk3,hi3⟩:=hp
    have hl3:=(hk3.block (w.heap.size + 1) (by rw[World.putObj_size];exact hlt) (by omega)).trans hl2
    have hkd3:=(hk3.block w.heap.size (by rw[World.putObj_size];omega) (by omega)).trans ((World.putObj_heap_other (by omega)).trans hkd)
    have hlt3:=(Array.getElem?_eq_some_iff.1 hl3).1
    have hr:=run_endRound (P:=prog) none hl3
    rw[hrec] at hr
    have hbx3:W3.heap[Bs]?=W.heap[Bs]? :=(hk3.block Bs (by rw[World.putObj_size];omega) (Ne.symm hbB)).trans (World.putObj_heap_other (by omega))
    have hbx4:(W3.putObj (w.heap.size + 1) (.loop (rec .ready none))).heap[Bs]?=W.heap[Bs]? :=(World.putObj_heap_other (by omega)).trans hbx3
    refine⟨_,_,hr,rfl,⟨hIn _ _ _ hi3 (iy W3 _ _ (by omega) hlt3),?_,(World.putObj_heap_other (by omega)).trans hkd3,?_⟩,?_,?_⟩
    ·rw[hrec];exact World.putObj_heap_same hlt3
    ·rw[World.putObj_size];exact Nat.le_trans hs (Nat.le_trans (by rw[World.putObj_size];exact Nat.le_refl _) hk3.size)
    ·rw[hrec] at hbx4
     exact (World.cell?_of_block (w:=W) (a:=⟨Bs,0,none⟩) hbx4).trans hbx
    ·rw[hrec] at hbx4
     exact (World.frozen?_of_block (w:=W) (a:=⟨Bs,0,none⟩) hbx4).trans hbf
   | ret=>exact hp.elim
   | exit id=>exact hp.elim
   | goto t=>exact hp.elim
   | panic ch=>exact hp.elim
   | outgrown=>exact hp.elim
  ·exact (hb1.cell (p:=⟨Bs,0,none⟩) hBl).trans hB
  ·exact (hb1.frozen (p:=⟨Bs,0,none⟩) hBl).trans hf
  ·rintro e W2 ⟨⟨v,rfl⟩,hi,hl,hk,hs⟩
   have hlt:w.heap.size + 1<W2.heap.size:=(Array.getElem?_eq_some_iff.1 hl).1
   exact⟨none,_,by have:=run_endLoop (P:=prog) hl (by rw[hrec];simp);rw[hrec] at this;exact this,hdone _ _ (hIn _ _ _ hi (iy W2 _ _ (by omega) hlt)) ((World.putObj_heap_other (by omega)).trans hk) (Nat.le_refl _)⟩
theorem mL {p q:Tmp} {assign body:Code} {Q:Exit->Act->World->Prop} {a:Act} {w:World} {g:Operand}
  (t:ByteArray) (Bs N:Nat) (hN:N=t.size / 64) (hm:t.size<=9223372036854775807) (hg:a.eval g=.func (.func 164) #[] #[.pointer (some ⟨Bs,0,none⟩)])
  (hB:w.cell? ⟨Bs,0,none⟩=some (.string t)) (hf:w.frozen? ⟨Bs,0,none⟩=false) (b:Nat) (hbl:b<w.heap.size) (hbB:b≠Bs)
  (I:Nat->World->Prop) (hIn:∀k W W',I k W->Below w.heap.size W W'->I k W') (hIs:∀k W v,I k W->I k (W.setCell ⟨Bs,0,none⟩ v)) (h0:I 0 w)
  (hassign:∀(l:Nat) (x:Value) (W:World) (K:Act->World->Prop),K {tmps:=(a.tmps.setIfInBounds p x).setIfInBounds q x,defers:=[]} W->
   assign.wpIn (Fence.wide.inRound l) (4 - 1 - 1) prog (Exit.then K (fun _ _ _=>False)) {tmps:=a.tmps.setIfInBounds p x,defers:=[]} W)
  (hbody:∀(l k:Nat) (x:ByteArray) (W:World),k<N->x=t.extract (64 * k) (64 * k + 64)->I k W->w.heap.size<=W.heap.size->body.wpIn (Fence.wide.inRound l) (4 - 1 - 1) prog (tC b k I W) {tmps:=(a.tmps.setIfInBounds p (.string x)).setIfInBounds q (.string x),defers:=[]} W)
  (hdone:∀(D:Nat) (W:World),I N W->W.heap[D]?=some (.deferred (some []))->w.heap.size<=D->Q .normal {a with defers:={target:=.collected D,args:=#[]} :: a.defers} W):
  (Code.rangeFunc g #[p] assign body).wpIn Fence.wide 4 prog Q a w:=
 nU t Bs N hN hm hg rfl hB hf b hbl hbB I hIn hIs h0 (fun k=>{tmps:=(a.tmps.setIfInBounds p (.string (t.extract (64 * k) (64 * k + 64)))).setIfInBounds q (.string (t.extract (64 * k) (64 * k + 64))),defers:=[]})
  (fun l k W K hK=>by simpa using hassign l _ W K hK) (fun l k W hk hi hs=>hbody l k _ W hk rfl hi hs) hdone
structure gj (b H:Nat) (t:ByteArray) (ln:Int) (kk:Array Value) (K:Nat->Int) (st:S8) (w:World) (k:Nat) (W:World):Prop where
 hash:cQ b (bN K st t k) t ln W
 keep:am (·≠b) w W
 tab:iQ kk W
 box:W.cell? ⟨H,0,none⟩=some (.pointer (some ⟨b,0,none⟩))
theorem gj.on {b H B:Nat} {t:ByteArray} {ln:Int} {kk:Array Value} {K:Nat->Int} {st:S8} {w:World} {k:Nat} {W W':World} (h:gj b H t ln kk K st w k W) (hb:Below B W W') (h1:b<B) (h2:H<B) (h3:2<B) (h4:w.heap.size<=B):gj b H t ln kk K st w k W' where
 hash:=⟨fun j hj=>⟨(hb.cell (p:=⟨b,j,none⟩) h1).trans (h.hash.st j hj).1,(hb.frozen (p:=⟨b,j,none⟩) h1).trans (h.hash.st j hj).2⟩,(hb.cell (p:=⟨b,8,none⟩) h1).trans h.hash.rest,(hb.frozen (p:=⟨b,8,none⟩) h1).trans h.hash.restf,(hb.cell (p:=⟨b,9,none⟩) h1).trans h.hash.len,(hb.frozen (p:=⟨b,9,none⟩) h1).trans h.hash.lenf⟩
 keep:=⟨hb.os.trans h.keep.os,hb.tape.trans h.keep.tape,hb.output.trans h.keep.output,Nat.le_trans h.keep.size hb.size,fun j hj hk=>(hb.block j (by omega)).trans (h.keep.block j hj hk)⟩
 tab:=h.tab.of_block (hb.block _ h3)
 box:=(hb.cell (p:=⟨H,0,none⟩) h2).trans h.box
theorem gj.set {b H Bs:Nat} {t:ByteArray} {ln:Int} {kk:Array Value} {K:Nat->Int} {st:S8} {w:World} {k:Nat} {W:World} (h:gj b H t ln kk K st w k W) (h1:b≠Bs) (h2:H≠Bs) (h3:2≠Bs) (h4:w.heap.size<=Bs) (v:Value):gj b H t ln kk K st w k (W.setCell ⟨Bs,0,none⟩ v) where
 hash:=⟨fun j hj=>⟨(World.cell?_setCell_other _ _ _ _ (by intro e;simp only[Addr.mk.injEq] at e;omega)).trans (h.hash.st j hj).1,(World.frozen?_setCell _ _ _ _).trans (h.hash.st j hj).2⟩,(World.cell?_setCell_other _ _ _ _ (by intro e;simp only[Addr.mk.injEq] at e;omega)).trans h.hash.rest,(World.frozen?_setCell _ _ _ _).trans h.hash.restf,(World.cell?_setCell_other _ _ _ _ (by intro e;simp only[Addr.mk.injEq] at e;omega)).trans h.hash.len,(World.frozen?_setCell _ _ _ _).trans h.hash.lenf⟩
 keep:=h.keep.setCell (p:=⟨Bs,0,none⟩) (.inl h4) v
 tab:=h.tab.of_block (Below.heap_setCell _ _ _ _ h3)
 box:=(World.cell?_setCell_other _ _ _ _ (by intro e;simp only[Addr.mk.injEq] at e;omega)).trans h.box
theorem gj.step {b H:Nat} {t:ByteArray} {ln:Int} {kk:Array Value} {K:Nat->Int} {st:S8} {w:World} {k:Nat} {W W':World} {x:ByteArray} (h:gj b H t ln kk K st w k W) (hx:x=t.extract (64 * k) (64 * k + 64)) (hk:am (·≠b) W W')
  (hc:∀j,j<8->W'.cell? ⟨b,j,none⟩=some (.int .u32 ((em K (bN K st t k) x).get j))/\W'.frozen? ⟨b,j,none⟩=false) (ht:gi b W W') (hg:b≠2) (hH:H≠b):gj b H t ln kk K st w (k + 1) W' where
 hash:=by
  subst hx
  exact⟨hc,(ht 8 (by omega)).1.trans h.hash.rest,(ht 8 (by omega)).2.trans h.hash.restf,(ht 9 (by omega)).1.trans h.hash.len,(ht 9 (by omega)).2.trans h.hash.lenf⟩
 keep:=h.keep.trans hk
 tab:=h.tab.of_block (hk.block _ h.tab.lt (Ne.symm hg))
 box:=(World.cell?_of_block (w:=W) (a:=⟨H,0,none⟩) (hk.block H (aC h.box) hH)).trans h.box
theorem cQ.of_block {b:Nat} {st:S8} {rest:ByteArray} {ln:Int} {w w':World} (h:cQ b st rest ln w) (hb:w'.heap[b]?=w.heap[b]?):cQ b st rest ln w':=
 ⟨fun j hj=>⟨(World.cell?_of_block (w:=w) (a:=⟨b,j,none⟩) hb).trans (h.st j hj).1,(World.frozen?_of_block (w:=w) (a:=⟨b,j,none⟩) hb).trans (h.st j hj).2⟩,(World.cell?_of_block (w:=w) (a:=⟨b,8,none⟩) hb).trans h.rest,(World.frozen?_of_block (w:=w) (a:=⟨b,8,none⟩) hb).trans h.restf,(World.cell?_of_block (w:=w) (a:=⟨b,9,none⟩) hb).trans h.len,(World.frozen?_of_block (w:=w) (a:=⟨b,9,none⟩) hb).trans h.lenf⟩
theorem cQ.setRest {b:Nat} {st:S8} {rest:ByteArray} {ln:Int} {w:World} (h:cQ b st rest ln w) (r:ByteArray):cQ b st r ln (w.setCell ⟨b,8,none⟩ (.string r)):=
 ⟨fun j hj=>⟨(World.cell?_setCell_other _ _ _ _ (by intro e;simp only[Addr.mk.injEq] at e;omega)).trans (h.st j hj).1,(World.frozen?_setCell _ _ _ _).trans (h.st j hj).2⟩,World.cell?_setCell_same _ _ _ h.rest,(World.frozen?_setCell _ _ _ _).trans h.restf,(World.cell?_setCell_other _ _ _ _ (by intro e;simp only[Addr.mk.injEq] at e;omega)).trans h.len,(World.frozen?_setCell _ _ _ _).trans h.lenf⟩
theorem pm {K:Nat->Prop} {a w:World} (h:am K a w) (l:Nat) (o:Obj) (hl:a.heap.size<=l):am K a (w.putObj l o):=
 ⟨h.os,h.tape,h.output,by rw[World.putObj_size];exact h.size,fun j hj hk=>(World.putObj_heap_other (by omega)).trans (h.block j hj hk)⟩
def ud (b:Nat) (K:Nat->Int) (st:S8) (t:ByteArray) (ln:Int) (w:World) (e:Ending) (w':World):Prop:=
 e=.returned (.tuple #[])/\am (·≠b) w w'/\cQ b (bN K st t (t.size / 64)) (t.extract (64 * (t.size / 64)) t.size) ln w'
theorem oA (b:Nat) (text rest:ByteArray) (st:S8) (hst:st.ok) (ln:Int) (hln:0<=ln/\ln<=18446744073709551615) (w:World) (hsz:rest.size + text.size<=9223372036854775807) (kk:Array Value) (hkz:kk.size=64) (K:Nat->Int) (hk:iQ kk w) (hK:∀j,j<64->kk[j]?=some (.int .u32 (K j))) (hbk:b≠2)
  (hh:cQ b st rest ln w):
  Calls prog 158 #[.pointer (some ⟨b,0,none⟩),.string text] w (ud b K st (rest++text) ((ln + text.size) % 18446744073709551616) w):=by
 have HH:=ac hh
 have HKK:=ac hk
 have HK:=ac hK
 have HKZ:=ac hkz
 have HST:=ac hst
 have HLN:=ac hln
 have HSZ:=ac hsz
 have HBK:=ac hbk
 have c8:=hh.rest
 have f8:=hh.restf
 have c9:=hh.len
 have f9:=hh.lenf
 have hbl:b<w.heap.size:=aC hh.rest
 have hnb:¬9223372036854775807<rest.size + text.size:=by omega
 have hts:text.size<=9223372036854775807:=by omega
 clear hh hk hK hkz hst hln hsz hbk
 refine (callsIn_wide (n:=4)).1 ?_
 refine callsIn_of_wp_marks func158 rfl trivial ?_
 simp only[ntmps158,List.size_toArray,List.length_cons,List.length_nil,Nat.reduceAdd,Nat.reduceSub,Array.replicate_succ,Array.replicate_zero,List.push_toArray,List.append_toArray,List.nil_append,List.cons_append]
 gi_wp2_with fail
 refine⟨trivial,?_⟩
 refine (callsIn_wide.2 (rN _ _)).mono ?_
 rintro e w' ⟨rfl,rfl⟩
 gi_wp2_with fail
 have hgl:2<w.heap.size:=HKK.out.lt
 clear c8 f8 c9 f9
 obtain⟨ln',hln'⟩:∃x,x=IntKind.u64.wrap (ln + (text.size:Int)):=⟨_,rfl⟩
 have HL:aa (ln'=(ln + text.size) % 18446744073709551616):=by rw[aa,hln',IntKind.wrap_u64]
 rw[<-hln']
 clear hln'
 obtain⟨t,ht⟩:∃t,t=rest++text:=⟨_,rfl⟩
 have HTT:=ac ht
 rw[<-ht]
 have htsz:t.size<=9223372036854775807:=by rw[ht,ByteArray.size_append];omega
 clear ht hnb
 obtain⟨W0,hW0⟩:∃W0,W0=(((w.setCell ⟨b,9,none⟩ (.int .u64 ln')).setCell ⟨b,8,none⟩ (.string t)).alloc (.cells #[.pointer (some ⟨b,0,none⟩)] 221)):=⟨_,rfl⟩
 have hs0:W0.heap.size=w.heap.size + 1:=by rw[hW0];simp
 rw[<-hW0]
 have HI0:aa (gj b w.heap.size t ln' kk K st w 0 W0):=by
  rw[hW0]
  have hh:=HH.out
  have hset:am (·≠b) w ((w.setCell ⟨b,9,none⟩ (.int .u64 ln')).setCell ⟨b,8,none⟩ (.string t)):=((am.refl _ w).setCell (p:=⟨b,9,none⟩) (.inr (fun h=>h rfl)) _).setCell (p:=⟨b,8,none⟩) (.inr (fun h=>h rfl)) _
  refine⟨cQ.on ⟨fun j hj=>⟨?_,?_⟩,?_,?_,?_,?_⟩ (af _ _),hset.alloc _,?_,?_⟩
  ·rw[World.cell?_setCell_other _ _ _ _ (by intro e;simp only[Addr.mk.injEq] at e;omega),World.cell?_setCell_other _ _ _ _ (by intro e;simp only[Addr.mk.injEq] at e;omega)];exact (hh.st j hj).1
  ·rw[World.frozen?_setCell,World.frozen?_setCell];exact (hh.st j hj).2
  ·exact World.cell?_setCell_same _ _ _ ((World.cell?_setCell_other _ _ _ _ (by intro e;simp only[Addr.mk.injEq] at e;omega)).trans hh.rest)
  ·rw[World.frozen?_setCell,World.frozen?_setCell];exact hh.restf
  ·rw[World.cell?_setCell_other _ _ _ _ (by intro e;simp only[Addr.mk.injEq] at e;omega)]
   exact World.cell?_setCell_same _ _ _ hh.len
  ·rw[World.frozen?_setCell,World.frozen?_setCell];exact hh.lenf
  ·refine HKK.out.of_block ?_
   rw[Below.heap_alloc _ _ _ (by simpa [World.setCell] using hgl),Below.heap_setCell _ _ _ _ (Ne.symm HBK.out),Below.heap_setCell _ _ _ _ (Ne.symm HBK.out)]
  ·have:=aO ((w.setCell ⟨b,9,none⟩ (.int .u64 ln')).setCell ⟨b,8,none⟩ (.string t)) #[.pointer (some ⟨b,0,none⟩)] 221 0
   simpa [World.setCell] using this
 clear hW0 HH HKK
 have hH:w.heap.size<W0.heap.size:=by omega
 refine mL (q:=4) t (w.heap.size + 1) (t.size / 64) rfl htsz rfl ?hB ?hf b (by simp;omega) (by omega) (gj b w.heap.size t ln' kk K st w) ?hIn ?hIs ?h0 ?assign ?body ?done
 case hB=>simp[<-hs0]
 case hf=>simp[<-hs0]
 case hIn=>exact fun k W W' h hb=>h.on hb (by simp;omega) (by simp;omega) (by simp;omega) (by simp;omega)
 case hIs=>exact fun k W v h=>h.set (by omega) (by omega) (by omega) (by omega) v
 case h0=>exact HI0.out.on (af _ _) (by omega) hH (by omega) (by omega)
 case assign=>
  intro l x W K hK
  simp only[ps] at hK ⊢
  gi_wp2
  exact hK
 case body=>
  rintro l k x W hk hx HI hsW
  simp only[ps]
  have hbx:=HI.box
  have HX:=ac hx
  have HI1:=ac HI
  clear HI hx
  gi_wp2_with fail
  refine⟨trivial,?_⟩
  refine (CallsIn.inRound l (callsIn_wide.2 (wh b x W (by rw[HX.out,ByteArray.size_extract];omega) (aC HI1.out.hash.rest) kk HKZ.out K HI1.out.tab HK.out (bN K st t k) (jW K st t HST.out k) HI1.out.hash.st))).mono ?_
  rintro e W' ⟨rfl,hkp,hcl,htl⟩
  have HI2:=ac (HI1.out.step HX.out hkp hcl htl HBK.out (by omega))
  have HKP:=ac hkp
  clear hkp hcl htl hbx
  gi_wp2
  exact⟨HKP.out,HI2.out⟩
 case done=>
  rintro D W HI hD hDl
  have hbx:=HI.box
  have c8:=HI.hash.rest
  have f8:=HI.hash.restf
  have HI1:=ac HI
  clear HI HI0
  have HD:=ac hD
  clear hD
  gi_wp2_with fail
  refine wpIn_wide.2 ?_
  have e0:IntKind.i64.wrap ((t.size:Int) / 64)=(t.size:Int) / 64:=IntWalk.i64_in _ (by omega)
  have e1:IntKind.i64.wrap ((t.size:Int) / 64 * 64)=(t.size:Int) / 64 * 64:=IntWalk.i64_in _ (by omega)
  have e2:((t.size:Int) / 64 * 64).toNat=t.size / 64 * 64:=by omega
  have l1:(0:Int)<=(t.size:Int) / 64 * 64:=by omega
  have l2:(t.size:Int) / 64 * 64<=(t.size:Int):=by omega
  go_still_tail 15,(by kernel_rfl)
  go_wp2
  have hDb:D≠b:=by simp at hDl;omega
  have hK:((W.setCell ⟨b,8,none⟩ (.string (t.extract (t.size / 64 * 64) t.size))).drew).heap[D]?=some (.deferred (some [])):=(Below.heap_setCell _ _ _ _ hDb).trans HD.out
  refine⟨by simp,.inl ⟨_,_,rfl,run_takeDeferred hK,?_⟩⟩
  refine⟨_,results_none rfl _ _ _,rfl,?_,?_⟩
  ·exact pm (am.drew (HI1.out.keep.setCell (p:=⟨b,8,none⟩) (.inr (fun h=>h rfl)) _)) _ _ (by simp at hDl;omega)
  ·rw[<-HTT.out,<-HL.out,Nat.mul_comm 64]
   exact cQ.of_block (HI1.out.hash.setRest _) (World.putObj_heap_other (Ne.symm hDb))
