/- The laws of the model: what stands in their loops. -/
import Derived.Test.YtfnekbfcndkjeaaGreatDoorZMrv
import Derived.Test.YtfnekbfcndkjeaaGreatDoorZMrw
set_option maxHeartbeats 4000000
set_option maxRecDepth 100000
set_option linter.all false
namespace Go.Proofs.YtfnekbfcndkjeaaGreatDoor
open Go.Proofs.Tryz Go.RowKit Go.Maps
theorem nR (w:World) (dr:sV) (hdr:dr.ok) (bv:Value) (hb:i4 w bv dr.n) (x0 x1 x2:Int) (hx0:0<=x0/\x0<=255) (hx1:0<=x1/\x1<=255) (hx2:-32768<=x2/\x2<=32767) (tn:Bool):
  Calls prog 16 #[.agg (dr.cells bv),.agg #[.int .u8 x0,.int .u8 x1,.int .i16 x2],.bool tn] w (t8 w.heap.size w):=by
 have HDR:=ac hdr
 have HX:aa ((0<=x0/\x0<=255)/\(0<=x1/\x1<=255)/\(-32768<=x2/\x2<=32767)):=⟨hx0,hx1,hx2⟩
 obtain⟨L,hL⟩:∃x,x=w.heap.size:=⟨_,rfl⟩
 obtain⟨D,hDD⟩:∃D:Array Value,D=dr.cells bv:=⟨_,rfl⟩
 obtain⟨C,hCC⟩:∃C:Array Value,C=#[.int .u8 x0,.int .u8 x1,.int .i16 x2]:=⟨_,rfl⟩
 obtain⟨w0,hw0⟩:∃z,z=(w.alloc (.cells D 24)).alloc (.cells C 27):=⟨_,rfl⟩
 have hs1:(w.alloc (.cells D 24)).heap.size=L + 1:=by rw[hL];simp
 have HN0:aa (Below w.heap.size w w0):=by rw[hw0];exact ar w _ _ (af _ _) (af _ _)
 have HD0:aa (w0.heap[L]?=some (.cells D 24 (0,0))):=by rw[hw0,hL];exact au (ax _ _) (af _ _)
 have HC0:aa (w0.heap[L + 1]?=some (.cells C 27 (0,0))):=by rw[hw0,<-hs1];exact ax _ _
 have HB0:aa (i4 w0 bv dr.n):=hb.up HN0.out
 have HDD:=ac hDD
 have HCC:=ac hCC
 have HDZ:aa ((prog.info? 24).map (·.size)=some D.size):=by rw[aa,hDD];kernel_rfl
 have HCZ:aa ((prog.info? 27).map (·.size)=some C.size):=by rw[aa,hCC];kernel_rfl
 rw[<-hDD,<-hCC]
 clear hb hdr hDD hCC hx0 hx1 hx2 hs1
 go_enter func16,ntmps16
 go_upto_region 1 with fail
 refine ge hw0 ?_
 rw[<-hL]
 clear hw0 hL
 go_wp2_with (first
  | (refine wpList_load_row rfl _ _ rfl L rfl _ D (0,0) _ HD0.out underlying24 rfl HDZ.out ?_)
  | fail)
 have hcall:=p9 w0 dr HDR.out bv HB0.out
 rw[<-HDD.out] at hcall
 refine hcall.mono ?_
 clear hcall
 rintro e w1 ⟨v,ds,rfl,hrf,hmy,⟨hl,h0⟩,hb1⟩
 have HRF:=ac hrf
 have HMY:=ac hmy
 have HLN:aa (ds.length<=52/\0<ds.length):=⟨hl,h0⟩
 have HN1:=ac (ar w _ _ HN0.out hb1)
 have HC1:=ac (au HC0.out hb1)
 clear hb1 hrf hmy hl h0
 cases tn with
 | false=>
  go_wp2_with fail
  go_ret
  exact⟨v,ds,rfl,yj (HRF.out.mono HN0.out.size),fun d hd=>(HMY.out d hd).2,by have:=HLN.out.1;omega,HN1.out⟩
 | true=>
  go_wp2_with (first
   | (refine wpList_load_row rfl _ _ rfl (L + 1) rfl _ C (0,0) _ HC1.out underlying27 rfl HCZ.out ?_)
   | fail)
  have hcall:=rE w1 x0 x1 x2 HX.out.1 HX.out.2.1 HX.out.2.2 w.heap.size v ds (HRF.out.mono HN0.out.size) HMY.out HLN.out.1 HLN.out.2 HN1.out.size
  rw[<-HCC.out] at hcall
  refine hcall.mono ?_
  clear hcall
  rintro e w2 ⟨v2,ds2,rfl,hra,hok,hl2,hb2⟩
  have HRA:=ac hra
  have HOK:=ac hok
  have HN2:=ac (ar w _ _ HN1.out hb2)
  clear hra hok hb2
  go_wp2_with fail
  go_ret
  exact⟨v2,ds2,rfl,HRA.out,HOK.out,hl2,HN2.out⟩
structure dN (O:Nat->Prop) (w w3:World) (B p n:Nat) (st:MSt) (wr:World):Prop where
 up:w.heap.size<=w3.heap.size
 bel:Below w.heap.size w wr
 rows:am (fun k=>B<=k/\k<w3.heap.size) w3 wr
 osz:∀j,O j->j<wr.heap.size
 old:∀j,O j->w3.heap.size<=j
 mod:∃S:Nat->Prop,ft S n wr p st/\(∀ j,S j->j<wr.heap.size)/\(∀ j,S j->j<B\/w3.heap.size<=j)/\(∀ j,S j->w.heap.size<=j)/\∀j,S j->¬O j
section
variable {O : Nat -> Prop} {w w3 : World} {B p n : Nat} {st : MSt} {wr wr' : World}
theorem dN.new (h:dN O w w3 B p n st wr) (hb:Below wr.heap.size wr wr'):dN O w w3 B p n st wr':=by
 obtain⟨S,h1,h2,h3,h4,h5⟩:=h.mod
 exact⟨h.up,ar w _ _ h.bel hb,h.rows.trans (ak hb _),fun j hj=>Nat.lt_of_lt_of_le (h.osz j hj) hb.size,h.old,S,h1.new hb,fun j hj=>Nat.lt_of_lt_of_le (h2 j hj) hb.size,h3,h4,h5⟩
theorem dN.more (h:dN O w w3 B p n st wr) (hb:Below wr.heap.size wr wr'):dN (fun j=>O j\/(wr.heap.size<=j/\j<wr'.heap.size)) w w3 B p n st wr':=by
 obtain⟨S,h1,h2,h3,h4,h5⟩:=h.mod
 refine⟨h.up,ar w _ _ h.bel hb,h.rows.trans (ak hb _),fun j hj=>hj.elim (fun h1=>Nat.lt_of_lt_of_le (h.osz j h1) hb.size) (fun h=>h.2),fun j hj=>hj.elim (h.old j) (fun h1=>Nat.le_trans h.rows.size h1.1),S,h1.new hb,fun j hj=>Nat.lt_of_lt_of_le (h2 j hj) hb.size,h3,h4,fun j hj ho=>?_⟩
 rcases ho with ho | ho
 ·exact h5 j hj ho
 ·exact absurd (h2 j hj) (Nat.not_lt.2 ho.1)
theorem dN.wide {m:Nat} (h:dN O w w3 B p n st wr) (hn:n<=m):dN O w w3 B p m st wr:=by
 obtain⟨S,h1,h2,h3,h4,h5⟩:=h.mod
 exact⟨h.up,h.bel,h.rows,h.osz,h.old,S,h1.wide (fun _ h=>h) hn,h2,h3,h4,h5⟩
theorem dN.put (h:dN O w w3 B p n st wr) (hk:am (fun k=>¬O k) wr wr'):dN O w w3 B p n st wr':=by
 obtain⟨S,h1,h2,h3,h4,h5⟩:=h.mod
 refine⟨h.up,aB h.bel hk (fun k hk ho=>by have:=h.old k ho;have:=h.up;omega),h.rows.trans (hk.mono (fun k _ hk ho=>by have:=h.old k ho;omega)),fun j hj=>Nat.lt_of_lt_of_le (h.osz j hj) hk.size,h.old,S,h1.keeps hk h5,fun j hj=>Nat.lt_of_lt_of_le (h2 j hj) hk.size,h3,h4,h5⟩
theorem dN.wf (h:dN O w w3 B p n st wr):st.Wf:=by obtain⟨S,h1,_⟩:=h.mod;exact h1.2.1
theorem dN.take (h:dN O w w3 B p n st wr) (hn6:n<=1000000) {F:S8} {kf:Nat->Int} {kk:Array Value} (ht:cV F kf kk w) (rv:RecV) (d:RecD)
  (hr:∀W,am (fun k=>B<=k/\k<w3.heap.size) w3 W->bu W rv d) (hok:d.ok):
  Calls prog 17 #[.pointer (some ⟨p,0,none⟩),.agg (ae rv)] wr fun e w'=>e=.returned (.int .i64 (cd (fK F kf) st d).1)/\dN O w w3 B p (n + 1) (cd (fK F kf) st d).2 w'/\am O wr w':=by
 obtain⟨S,hmd,hS1,hS2,hS3,hS4⟩:=h.mod
 refine (oU (fK F kf) hmd hS1 (by omega) rv d (fun W hW=>hr W (h.rows.trans (hW.mono (fun k _ hk hs=>?_)))) hok (vK (ht.on h.bel) hmd.2.2)).mono ?_
 ·rcases hS2 k hs with h1 | h1
  ·exact absurd hk.1 (Nat.not_le.2 h1)
  ·exact absurd hk.2 (Nat.not_lt.2 h1)
 rintro e w6 ⟨rfl,S',hmd6,hk6,hs6,hz6⟩
 refine⟨rfl,⟨h.up,aB h.bel hk6 (fun k hk hs=>by have:=hS3 k hs;omega),h.rows.trans (hk6.mono (fun k _ hk hs=>?_)),fun j hj=>Nat.lt_of_lt_of_le (h.osz j hj) hk6.size,h.old,S',hmd6,hz6,fun j hj=>?_,fun j hj=>?_,fun j hj ho=>?_⟩,hk6.mono (fun k _ ho hs=>hS4 k hs ho)⟩
 ·rcases hS2 k hs with h1 | h1
  ·exact absurd hk.1 (Nat.not_le.2 h1)
  ·exact absurd hk.2 (Nat.not_lt.2 h1)
 ·rcases hs6 j hj with h1 | h1
  ·exact hS2 j h1
  ·exact .inr (Nat.le_trans h.rows.size h1)
 ·rcases hs6 j hj with h1 | h1
  ·exact hS3 j h1
  ·exact Nat.le_trans h.bel.size h1
 ·rcases hs6 j hj with h1 | h1
  ·exact hS4 j h1 ho
  ·exact absurd (h.osz j ho) (Nat.not_lt.2 h1)
theorem dN.ended (h:dN O w w3 B p n st wr):Calls prog 24 #[.pointer (some ⟨p,0,none⟩)] wr fun e w'=>e=.returned (.bool st.ended)/\Below wr.heap.size wr w':=by
 obtain⟨S,hmd,_⟩:=h.mod
 refine (uT hmd).mono ?_
 rintro e w' ⟨rfl,m,rfl⟩
 exact⟨rfl,ay _ _⟩
end
theorem rG {w w0 w1 w2 w3:World} (h0:Below w.heap.size w w0) (h1:w1=w0.alloc (.cells (eI {}) 93)) (h2:Below w1.heap.size w1 w2) (h3:Below w2.heap.size w2 w3):dN (fun _=>False) w w3 w2.heap.size w0.heap.size 0 {} w3:=by
 have b1:Below w0.heap.size w0 w1:=by rw[h1];exact af _ _
 have s1:w0.heap.size<w1.heap.size:=by rw[h1];simp
 have h12:Below w1.heap.size w1 w3:=ar w1 _ _ h2 h3
 have h03:=ar w _ _ h0 (ar w0 _ _ b1 h12)
 refine⟨h03.size,h03,am.refl _ _,fun _ h=>h.elim,fun _ h=>h.elim,(·=w0.heap.size),(oO h1).new h12,fun j hj=>?_,fun j hj=>.inl ?_,fun j hj=>?_,fun _ _ h=>h.elim⟩
 ·rw[hj];exact Nat.lt_of_lt_of_le s1 h12.size
 ·rw[hj];exact Nat.lt_of_lt_of_le s1 h2.size
 ·rw[hj];exact h0.size
