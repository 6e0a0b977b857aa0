/- The document's Turned, walked: the rows. Printed by wip/gen/trn1.py. -/
import Derived.Test.YtfnekbfcndkjeaaGreatDoorZTrn1
import Derived.Test.YtfnekbfcndkjeaaGreatDoorZDrf2
set_option maxHeartbeats 1000000
set_option maxRecDepth 100000
set_option linter.all false
namespace Go.Proofs.YtfnekbfcndkjeaaGreatDoor
open Go.Proofs.Tryz Go.RowKit
theorem iZ (xs:List (Int × Int)):(cI xs).length=2 * xs.length:=by
 induction xs with
 | nil=>rfl
 | cons x xs ih=>
  show (.int .i64 x.1 :: .int .i64 x.2 :: cI xs:List Value).length=_
  simp[ih]
  omega
theorem qc (xs:List (Int × Int)):∀u∈cI xs,u.oneCell'=true:=by
 intro u hu
 obtain⟨x,_,h⟩:=List.mem_flatMap.1 hu
 simp at h
 rcases h with rfl | rfl <;> rfl
theorem yv (O:Nat->Prop) (B:Nat) (rv:RecV) (d:RecD) (ho:d.ok) (x n:Int) (hx:x.tmod 16=5) (hn:-9223372036854775808<=n/\n<=9223372036854775807) (w:World) (hr:cS O B w rv d) (hB:B<=w.heap.size) (hrows:d.barred.length + d.lots.length + d.owners.length<=1000):
  Calls prog 33 #[.agg (ae rv),.int .u8 x,.int .i64 n] w (cK O B w):=by
 obtain⟨L,hL⟩:∃x,x=w.heap.size:=⟨_,rfl⟩
 obtain⟨w0,hw0⟩:∃z,z=(w.alloc (.cells (ae rv) 49)).alloc (.cells (ae {}) 49):=⟨_,rfl⟩
 have HB0:aa (Below w.heap.size w w0):=by rw[hw0];exact aD (af _ _) (af _ _)
 have HR0:aa (ah w0 L rv):=by rw[hw0,hL];exact (ah.box _ _).new (af _ _)
 have HZ0:aa (ah w0 (L + 1) {}):=by
  rw[hw0,hL,show w.heap.size + 1=(w.alloc (.cells (ae rv) 49)).heap.size by simp]
  exact ah.box _ _
 have HLW:=ac hL
 have HO:=ac ho
 have HNN:=ac hn
 have HRM:=ac hr
 obtain⟨pa,m,pc,hm,hbv,hsrc⟩:∃pa m pc,m=d.barred.length/\rv.barred=.slice pa m pc/\(0<m->∃lb lo,pa=some ⟨lb,lo,none⟩/\lb<w.heap.size/\∀j u,(d.barred.map (Value.int .i64))[j]?=some u->w.cell? ⟨lb,lo + j,none⟩=some u):=by
  obtain⟨b,l,o,e,q1,q2,q3⟩:=hr
  obtain⟨a,cap,ev,_,hh⟩:=q1
  refine⟨a,_,cap,rfl,by rw[e];exact ev,fun h0=>?_⟩
  obtain⟨lb,lo,ea,hl,_,hjj⟩:=hh h0
  refine⟨lb,lo,ea,hl,?_⟩
  intro j u hu
  have hj:=(List.getElem?_eq_some_iff.1 hu).1
  rw[List.length_map] at hj
  rw[hjj j hj]
  rw[List.getElem?_map,List.getElem?_eq_getElem hj] at hu
  rw[List.getD_eq_getElem?_getD,List.getElem?_eq_getElem hj]
  exact hu
 have HSRC:=ac hsrc
 have HM:=ac hm
 have hm1:m<=1000:=by rw[hm];omega
 have HBB:=ac hB
 have HRWS:=ac hrows
 have cc:w0.cell? ⟨L,5,none⟩=some (.slice pa m pc):=by rw[<-hbv];exact HR0.out.barred
 have cc':(w0.alloc (.cells #[] 3)).cell? ⟨L,5,none⟩=some (.slice pa m pc):=((af w0 (.cells #[] 3)).cell (aC cc)).trans cc
 have HS0:aa (w0.heap.size=L + 2):=by rw[aa,hw0,hL];simp
 clear hr ho hrows hsrc hm hB hbv
 go_enter func33,ntmps33
 go_upto_region 1 with fail
 rw[fS,<-hw0,<-hL]
 clear hw0 hL
 go_upto_region 14 with fail
 go_wp2_with (first
  | (at_builtin;refine cD rfl _ _ 41 3 rfl (.int .i64 0) 1 8 underlying41 Tryz.infoInt rfl (by decide) w0.heap.size _ 0 [] rfl (World.ownsRow_lit w0 #[] 0 (Nat.le_refl _) (by decide) (by rw[Nat.zero_mul];rfl)) pa m pc (d.barred.map (Value.int .i64)) rfl ?c1 ?c2 ?c3 ?c4 ?c5 ?c6 ?_)
  | fail)
 case c1=>rw[List.length_map,HM.out,Nat.mul_one]
 case c2=>intro u hu;obtain⟨_,_,rfl⟩:=List.mem_map.1 hu;rfl
 case c3=>
  intro h0
  obtain⟨lb,lo,e,hl,hc⟩:=HSRC.out h0
  exact⟨lb,lo,e,fun j u hu=>((ar w _ _ HB0.out (af w0 (.cells #[] 3))).cell (p:=⟨lb,lo + j,none⟩) hl).trans (hc j u hu)⟩
 case c4=>unfold maxLen;omega
 case c5=>omega
 case c6=>simp
 intro v1 w3 hown1 hgrow1
 have hob1:=bM (World.ownsRow_lit (base:=w0.heap.size) (e:=3) (size:=1) w0 #[] 0 (Nat.le_refl _) (by decide) (by rw[Nat.zero_mul];rfl))
 have HK3:aa (am (·<w0.heap.size) w0 w3):=(ak (af w0 (.cells #[] 3)) _).trans (aF hgrow1 _ (fun k hk h=>by have:=hob1 k hk;omega))
 have HR3:aa (ah w3 L rv):=aw HR0.out HK3.out (by have:=HS0.out;omega)
 have HZ3:aa (ah w3 (L + 1) {}):=aw HZ0.out HK3.out (by have:=HS0.out;omega)
 obtain⟨a1,k1,e1,_,_⟩:=az hown1
 subst e1
 have HO3:aa (w3.ownsRow w0.heap.size 3 1 (.slice a1 m k1) m (d.barred.map (Value.int .i64))):=hown1
 have hs3:w0.heap.size<=w3.heap.size:=HK3.out.size
 clear hown1 hgrow1 hob1 cc cc'
 go_wp2_with (first
  | (at_builtin;refine aZ rfl _ _ 41 3 rfl (.int .i64 0) 1 8 underlying41 Tryz.infoInt rfl (by decide) w0.heap.size _ m _ rfl (World.ownsRow.alloc HO3.out _) w3.heap.size [.int .i64 n] rfl (by simp[Value.oneCell']) rfl ?d1 ?d2 ?d3 ?d4 ?_)
  | fail)
 case d1=>intro j u hu;rw[aO];match j,hu with | 0,hu=>simpa using hu | j + 1,hu=>simp at hu
 case d2=>unfold maxLen;omega
 case d3=>omega
 case d4=>simp;omega
 intro v2 w4 hown2 hgrow2
 have hob2:=bM HO3.out
 have HK4:aa (am (·<w0.heap.size) w3 w4):=(ak (af w3 (.cells #[.int .i64 n] 3)) _).trans (aF hgrow2 _ (fun k hk h=>by have:=hob2 k hk;omega))
 have HR4:aa (ah w4 L rv):=aw HR3.out HK4.out (by have:=HS0.out;omega)
 have HZ4:aa (ah w4 (L + 1) {}):=aw HZ3.out HK4.out (by have:=HS0.out;omega)
 have HB4:aa (Below w.heap.size w w4):=HB0.out.trans ((((HK3.out.trans HK4.out).mono (K':=(·<w.heap.size)) (fun k _ h=>by have h':k<w.heap.size:=h;have:=HS0.out;have:=HLW.out;omega)).below HB0.out.size))
 obtain⟨a2,k2,e2,_,_⟩:=az hown2
 subst e2
 have HO4:=ac hown2
 clear hown2 hgrow2 hob2 HR3 HZ3 hs3
 obtain⟨r',hr'⟩:∃r,r=({rv with barred:=.slice a2 (m + 1) k2}:RecV):=⟨_,rfl⟩
 obtain⟨w5,hw5⟩:∃z,z=w4.setCell ⟨L,5,none⟩ (.slice a2 (m + 1) k2):=⟨_,rfl⟩
 have HR5:aa (ah w5 L r'):=by rw[hw5,hr'];exact HR4.out.setBarred _
 have HZ5:aa (ah w5 (L + 1) {}):=by rw[hw5];exact HZ4.out.other (by omega) _
 have HB5:aa (Below w.heap.size w w5):=by rw[hw5];exact HB4.out.setCell (p:=⟨L,5,none⟩) (by show w.heap.size<=L;have:=HLW.out;omega) _
 obtain⟨w6,hw6⟩:∃z,z=w5.setRow (L + 1) (ae r'):=⟨_,rfl⟩
 have HZ6:aa (ah w6 (L + 1) r'):=by rw[hw6];exact HZ5.out.setRow r'
 have HB6:aa (Below w.heap.size w w6):=by rw[aa,hw6];exact below_setRow HB5.out (by have:=HLW.out;omega) _
 have HK6:aa (am (w0.heap.size<=·) w4 w6):=by
  rw[aa,hw6,hw5]
  exact ((am.refl _ _).setCell (p:=⟨L,5,none⟩) (.inr (by show ¬w0.heap.size<=L;have:=HS0.out;omega)) _).trans (aI _ _ _ (by have:=HS0.out;omega))
 have HM6:aa (∃ d',cS O B w6 r' d'/\d'.ok):=by
  obtain⟨b,l,o,e,q1,q2,q3⟩:=HRM.out.on HB6.out
  have HNF:de B w6 (.slice a2 (m + 1) k2) (d.barred++[n]):=by
   have h:w4.ownsRow w0.heap.size 3 1 (.slice a2 (m + 1) k2) (m + 1) ((d.barred++[n]).map (Value.int .i64)):=by
    rw[List.map_append]
    exact HO4.out
   exact ((gP (by rw[List.length_append,HM.out];rfl) h (Nat.le_refl _)).keeps HK6.out (fun _ h=>h)).mono (by have:=HBB.out;have:=HB0.out.size;omega)
  have HN6:iV O B w6 (.slice a2 (m + 1) k2) (d.barred++[n]):=.from_ HNF
  refine⟨{d with barred:=d.barred++[n]},⟨.slice a2 (m + 1) k2,l,o,by rw[hr',e];rfl,HN6,q2,q3⟩,⟨HO.out.len,HO.out.dig,HO.out.tick,HO.out.bid,HO.out.nonce,HO.out.price,HO.out.kind,HO.out.lot,HO.out.carrier,HO.out.carriers,HO.out.commit,HO.out.reveal,HO.out.scheme,?_⟩⟩
  have:=HRWS.out
  simp only[List.length_append,List.length_cons,List.length_nil]
  omega
 have hone:(ae r').all (·.oneCell')=true:=by obtain⟨d',h,_⟩:=HM6.out;exact h.one
 have hi0:(prog.info? 49).map (·.size)=some (ae r').size:=by rw[aj];kernel_rfl
 have HW6:=ac hw6
 have ce:=HR4.out.barred
 have fe:=HR4.out.free 5
 clear hr' hw6
 go_upto_region 33 with fail
 rw[<-hw5]
 clear hw5 ce fe
 go_wp2_with (first
  | (refine wpList_load_row rfl _ _ rfl L rfl _ (ae r') (0,0) _ HR5.out underlying49 rfl hi0 ?_)
  | (refine wpList_store_row rfl _ _ _ rfl (L + 1) (ae r') rfl rfl 49 _ HZ5.out hi0 rfl hone ?_;rw[<-HW6.out])
  | fail)
 obtain⟨d',hm,hok⟩:=HM6.out
 exact bodyPost_ret (results_cell_row rfl _ _ (L + 1) 49 (ae r') (0,0) _ rfl HZ6.out underlying49 rfl hi0) rfl ⟨r',d',rfl,hm,hok,HB6.out⟩
theorem vE (O:Nat->Prop) (B:Nat) (rv:RecV) (d:RecD) (ho:d.ok) (x n:Int) (hx:x.tmod 16=14) (hn:-9223372036854775808<=n/\n<=9223372036854775807) (w:World) (hr:cS O B w rv d) (hB:B<=w.heap.size) (hrows:d.barred.length + d.lots.length + d.owners.length<=1000):
  Calls prog 33 #[.agg (ae rv),.int .u8 x,.int .i64 n] w (cK O B w):=by
 obtain⟨L,hL⟩:∃x,x=w.heap.size:=⟨_,rfl⟩
 obtain⟨w0,hw0⟩:∃z,z=(w.alloc (.cells (ae rv) 49)).alloc (.cells (ae {}) 49):=⟨_,rfl⟩
 have HB0:aa (Below w.heap.size w w0):=by rw[hw0];exact aD (af _ _) (af _ _)
 have HR0:aa (ah w0 L rv):=by rw[hw0,hL];exact (ah.box _ _).new (af _ _)
 have HZ0:aa (ah w0 (L + 1) {}):=by
  rw[hw0,hL,show w.heap.size + 1=(w.alloc (.cells (ae rv) 49)).heap.size by simp]
  exact ah.box _ _
 have HLW:=ac hL
 have HO:=ac ho
 have HNN:=ac hn
 have HRM:=ac hr
 obtain⟨pa,m,pc,hm,hbv,hsrc⟩:∃pa m pc,m=d.owners.length/\rv.owners=.slice pa m pc/\(0<m->∃lb lo,pa=some ⟨lb,lo,none⟩/\lb<w.heap.size/\∀j u,(d.owners.map (Value.int .i64))[j]?=some u->w.cell? ⟨lb,lo + j,none⟩=some u):=by
  obtain⟨b,l,o,e,q1,q2,q3⟩:=hr
  obtain⟨a,cap,ev,_,hh⟩:=q3
  refine⟨a,_,cap,rfl,by rw[e];exact ev,fun h0=>?_⟩
  obtain⟨lb,lo,ea,hl,_,hjj⟩:=hh h0
  refine⟨lb,lo,ea,hl,?_⟩
  intro j u hu
  have hj:=(List.getElem?_eq_some_iff.1 hu).1
  rw[List.length_map] at hj
  rw[hjj j hj]
  rw[List.getElem?_map,List.getElem?_eq_getElem hj] at hu
  rw[List.getD_eq_getElem?_getD,List.getElem?_eq_getElem hj]
  exact hu
 have HSRC:=ac hsrc
 have HM:=ac hm
 have hm1:m<=1000:=by rw[hm];omega
 have HBB:=ac hB
 have HRWS:=ac hrows
 have cc:w0.cell? ⟨L,48,none⟩=some (.slice pa m pc):=by rw[<-hbv];exact HR0.out.owners
 have cc':(w0.alloc (.cells #[] 3)).cell? ⟨L,48,none⟩=some (.slice pa m pc):=((af w0 (.cells #[] 3)).cell (aC cc)).trans cc
 have HS0:aa (w0.heap.size=L + 2):=by rw[aa,hw0,hL];simp
 clear hr ho hrows hsrc hm hB hbv
 go_enter func33,ntmps33
 go_upto_region 1 with fail
 rw[fS,<-hw0,<-hL]
 clear hw0 hL
 go_upto_region 32 with fail
 go_wp2_with (first
  | (at_builtin;refine cD rfl _ _ 41 3 rfl (.int .i64 0) 1 8 underlying41 Tryz.infoInt rfl (by decide) w0.heap.size _ 0 [] rfl (World.ownsRow_lit w0 #[] 0 (Nat.le_refl _) (by decide) (by rw[Nat.zero_mul];rfl)) pa m pc (d.owners.map (Value.int .i64)) rfl ?c1 ?c2 ?c3 ?c4 ?c5 ?c6 ?_)
  | fail)
 case c1=>rw[List.length_map,HM.out,Nat.mul_one]
 case c2=>intro u hu;obtain⟨_,_,rfl⟩:=List.mem_map.1 hu;rfl
 case c3=>
  intro h0
  obtain⟨lb,lo,e,hl,hc⟩:=HSRC.out h0
  exact⟨lb,lo,e,fun j u hu=>((ar w _ _ HB0.out (af w0 (.cells #[] 3))).cell (p:=⟨lb,lo + j,none⟩) hl).trans (hc j u hu)⟩
 case c4=>unfold maxLen;omega
 case c5=>omega
 case c6=>simp
 intro v1 w3 hown1 hgrow1
 have hob1:=bM (World.ownsRow_lit (base:=w0.heap.size) (e:=3) (size:=1) w0 #[] 0 (Nat.le_refl _) (by decide) (by rw[Nat.zero_mul];rfl))
 have HK3:aa (am (·<w0.heap.size) w0 w3):=(ak (af w0 (.cells #[] 3)) _).trans (aF hgrow1 _ (fun k hk h=>by have:=hob1 k hk;omega))
 have HR3:aa (ah w3 L rv):=aw HR0.out HK3.out (by have:=HS0.out;omega)
 have HZ3:aa (ah w3 (L + 1) {}):=aw HZ0.out HK3.out (by have:=HS0.out;omega)
 obtain⟨a1,k1,e1,_,_⟩:=az hown1
 subst e1
 have HO3:aa (w3.ownsRow w0.heap.size 3 1 (.slice a1 m k1) m (d.owners.map (Value.int .i64))):=hown1
 have hs3:w0.heap.size<=w3.heap.size:=HK3.out.size
 clear hown1 hgrow1 hob1 cc cc'
 go_wp2_with (first
  | (at_builtin;refine aZ rfl _ _ 41 3 rfl (.int .i64 0) 1 8 underlying41 Tryz.infoInt rfl (by decide) w0.heap.size _ m _ rfl (World.ownsRow.alloc HO3.out _) w3.heap.size [.int .i64 n] rfl (by simp[Value.oneCell']) rfl ?d1 ?d2 ?d3 ?d4 ?_)
  | fail)
 case d1=>intro j u hu;rw[aO];match j,hu with | 0,hu=>simpa using hu | j + 1,hu=>simp at hu
 case d2=>unfold maxLen;omega
 case d3=>omega
 case d4=>simp;omega
 intro v2 w4 hown2 hgrow2
 have hob2:=bM HO3.out
 have HK4:aa (am (·<w0.heap.size) w3 w4):=(ak (af w3 (.cells #[.int .i64 n] 3)) _).trans (aF hgrow2 _ (fun k hk h=>by have:=hob2 k hk;omega))
 have HR4:aa (ah w4 L rv):=aw HR3.out HK4.out (by have:=HS0.out;omega)
 have HZ4:aa (ah w4 (L + 1) {}):=aw HZ3.out HK4.out (by have:=HS0.out;omega)
 have HB4:aa (Below w.heap.size w w4):=HB0.out.trans ((((HK3.out.trans HK4.out).mono (K':=(·<w.heap.size)) (fun k _ h=>by have h':k<w.heap.size:=h;have:=HS0.out;have:=HLW.out;omega)).below HB0.out.size))
 obtain⟨a2,k2,e2,_,_⟩:=az hown2
 subst e2
 have HO4:=ac hown2
 clear hown2 hgrow2 hob2 HR3 HZ3 hs3
 obtain⟨r',hr'⟩:∃r,r=({rv with owners:=.slice a2 (m + 1) k2}:RecV):=⟨_,rfl⟩
 obtain⟨w5,hw5⟩:∃z,z=w4.setCell ⟨L,48,none⟩ (.slice a2 (m + 1) k2):=⟨_,rfl⟩
 have HR5:aa (ah w5 L r'):=by rw[hw5,hr'];exact HR4.out.setOwners _
 have HZ5:aa (ah w5 (L + 1) {}):=by rw[hw5];exact HZ4.out.other (by omega) _
 have HB5:aa (Below w.heap.size w w5):=by rw[hw5];exact HB4.out.setCell (p:=⟨L,48,none⟩) (by show w.heap.size<=L;have:=HLW.out;omega) _
 obtain⟨w6,hw6⟩:∃z,z=w5.setRow (L + 1) (ae r'):=⟨_,rfl⟩
 have HZ6:aa (ah w6 (L + 1) r'):=by rw[hw6];exact HZ5.out.setRow r'
 have HB6:aa (Below w.heap.size w w6):=by rw[aa,hw6];exact below_setRow HB5.out (by have:=HLW.out;omega) _
 have HK6:aa (am (w0.heap.size<=·) w4 w6):=by
  rw[aa,hw6,hw5]
  exact ((am.refl _ _).setCell (p:=⟨L,48,none⟩) (.inr (by show ¬w0.heap.size<=L;have:=HS0.out;omega)) _).trans (aI _ _ _ (by have:=HS0.out;omega))
 have HM6:aa (∃ d',cS O B w6 r' d'/\d'.ok):=by
  obtain⟨b,l,o,e,q1,q2,q3⟩:=HRM.out.on HB6.out
  have HNF:de B w6 (.slice a2 (m + 1) k2) (d.owners++[n]):=by
   have h:w4.ownsRow w0.heap.size 3 1 (.slice a2 (m + 1) k2) (m + 1) ((d.owners++[n]).map (Value.int .i64)):=by
    rw[List.map_append]
    exact HO4.out
   exact ((gP (by rw[List.length_append,HM.out];rfl) h (Nat.le_refl _)).keeps HK6.out (fun _ h=>h)).mono (by have:=HBB.out;have:=HB0.out.size;omega)
  have HN6:iV O B w6 (.slice a2 (m + 1) k2) (d.owners++[n]):=.from_ HNF
  refine⟨{d with owners:=d.owners++[n]},⟨b,l,.slice a2 (m + 1) k2,by rw[hr',e];rfl,q1,q2,HN6⟩,⟨HO.out.len,HO.out.dig,HO.out.tick,HO.out.bid,HO.out.nonce,HO.out.price,HO.out.kind,HO.out.lot,HO.out.carrier,HO.out.carriers,HO.out.commit,HO.out.reveal,HO.out.scheme,?_⟩⟩
  have:=HRWS.out
  simp only[List.length_append,List.length_cons,List.length_nil]
  omega
 have hone:(ae r').all (·.oneCell')=true:=by obtain⟨d',h,_⟩:=HM6.out;exact h.one
 have hi0:(prog.info? 49).map (·.size)=some (ae r').size:=by rw[aj];kernel_rfl
 have HW6:=ac hw6
 have ce:=HR4.out.owners
 have fe:=HR4.out.free 48
 clear hr' hw6
 go_upto_region 33 with fail
 rw[<-hw5]
 clear hw5 ce fe
 go_wp2_with (first
  | (refine wpList_load_row rfl _ _ rfl L rfl _ (ae r') (0,0) _ HR5.out underlying49 rfl hi0 ?_)
  | (refine wpList_store_row rfl _ _ _ rfl (L + 1) (ae r') rfl rfl 49 _ HZ5.out hi0 rfl hone ?_;rw[<-HW6.out])
  | fail)
 obtain⟨d',hm,hok⟩:=HM6.out
 exact bodyPost_ret (results_cell_row rfl _ _ (L + 1) 49 (ae r') (0,0) _ rfl HZ6.out underlying49 rfl hi0) rfl ⟨r',d',rfl,hm,hok,HB6.out⟩
theorem vF (O:Nat->Prop) (B:Nat) (rv:RecV) (d:RecD) (ho:d.ok) (x n:Int) (hx:x.tmod 16=13) (hn:-9223372036854775808<=n/\n<=9223372036854775807) (w:World) (hr:cS O B w rv d) (hB:B<=w.heap.size) (hrows:d.barred.length + d.lots.length + d.owners.length<=1000):
  Calls prog 33 #[.agg (ae rv),.int .u8 x,.int .i64 n] w (cK O B w):=by
 obtain⟨L,hL⟩:∃x,x=w.heap.size:=⟨_,rfl⟩
 obtain⟨w0,hw0⟩:∃z,z=(w.alloc (.cells (ae rv) 49)).alloc (.cells (ae {}) 49):=⟨_,rfl⟩
 have HB0:aa (Below w.heap.size w w0):=by rw[hw0];exact aD (af _ _) (af _ _)
 have HR0:aa (ah w0 L rv):=by rw[hw0,hL];exact (ah.box _ _).new (af _ _)
 have HZ0:aa (ah w0 (L + 1) {}):=by
  rw[hw0,hL,show w.heap.size + 1=(w.alloc (.cells (ae rv) 49)).heap.size by simp]
  exact ah.box _ _
 have HLW:=ac hL
 have HO:=ac ho
 have HNN:=ac hn
 have HRM:=ac hr
 obtain⟨pa,m,pc,hm,hbv,hsrc⟩:∃pa m pc,m=d.lots.length/\rv.lots=.slice pa m pc/\(0<m->∃lb lo,pa=some ⟨lb,lo,none⟩/\lb<w.heap.size/\∀j u,(cI d.lots)[j]?=some u->w.cell? ⟨lb,lo + j,none⟩=some u):=by
  obtain⟨b,l,o,e,q1,q2,q3⟩:=hr
  obtain⟨a,cap,ev,_,hh⟩:=q2
  refine⟨a,_,cap,rfl,by rw[e];exact ev,fun h0=>?_⟩
  obtain⟨lb,lo,ea,hl,_,hjj⟩:=hh h0
  refine⟨lb,lo,ea,hl,?_⟩
  intro j u hu
  have hj:=(List.getElem?_eq_some_iff.1 hu).1
  rw[iZ] at hj
  have hq:j / 2<d.lots.length:=by omega
  obtain⟨c0,c1⟩:=hjj (j / 2) hq
  have hg:=iB d.lots (j / 2) hq
  rcases Nat.mod_two_eq_zero_or_one j with e | e
  ·have hu2:(cI d.lots)[j / 2 * 2]?=some u:=by rw[show j / 2 * 2=j by omega];exact hu
   rw[hg.1] at hu2
   rw[show lo + j=lo + j / 2 * 2 by omega,c0]
   exact hu2
  ·have hu2:(cI d.lots)[j / 2 * 2 + 1]?=some u:=by rw[show j / 2 * 2 + 1=j by omega];exact hu
   rw[hg.2] at hu2
   rw[show lo + j=lo + j / 2 * 2 + 1 by omega,c1]
   exact hu2
 have HSRC:=ac hsrc
 have HM:=ac hm
 have hm1:m<=1000:=by rw[hm];omega
 have HBB:=ac hB
 have HRWS:=ac hrows
 have cc:w0.cell? ⟨L,47,none⟩=some (.slice pa m pc):=by rw[<-hbv];exact HR0.out.lots
 have cc':(w0.alloc (.cells #[] 63)).cell? ⟨L,47,none⟩=some (.slice pa m pc):=((af w0 (.cells #[] 63)).cell (aC cc)).trans cc
 have HS0:aa (w0.heap.size=L + 2):=by rw[aa,hw0,hL];simp
 clear hr ho hrows hsrc hm hB hbv
 go_enter func33,ntmps33
 go_upto_region 1 with fail
 rw[fS,<-hw0,<-hL]
 clear hw0 hL
 go_upto_region 30 with fail
 go_wp2_with (first
  | (at_builtin;refine cD rfl _ _ 47 63 rfl (.agg #[.int .i64 0,.int .i64 0]) 2 16 underlying47 Tryz.infoLot rfl (by decide) w0.heap.size _ 0 [] rfl (World.ownsRow_lit w0 #[] 0 (Nat.le_refl _) (by decide) (by rw[Nat.zero_mul];rfl)) pa m pc (cI d.lots) rfl ?c1 ?c2 ?c3 ?c4 ?c5 ?c6 ?_)
  | fail)
 case c1=>rw[iZ,HM.out,Nat.mul_comm]
 case c2=>exact qc _
 case c3=>
  intro h0
  obtain⟨lb,lo,e,hl,hc⟩:=HSRC.out h0
  exact⟨lb,lo,e,fun j u hu=>((ar w _ _ HB0.out (af w0 (.cells #[] 63))).cell (p:=⟨lb,lo + j,none⟩) hl).trans (hc j u hu)⟩
 case c4=>unfold maxLen;omega
 case c5=>omega
 case c6=>simp
 intro v1 w3 hown1 hgrow1
 have hob1:=bM (World.ownsRow_lit (base:=w0.heap.size) (e:=63) (size:=2) w0 #[] 0 (Nat.le_refl _) (by decide) (by rw[Nat.zero_mul];rfl))
 have HK3:aa (am (·<w0.heap.size) w0 w3):=(ak (af w0 (.cells #[] 63)) _).trans (aF hgrow1 _ (fun k hk h=>by have:=hob1 k hk;omega))
 have HR3:aa (ah w3 L rv):=aw HR0.out HK3.out (by have:=HS0.out;omega)
 have HZ3:aa (ah w3 (L + 1) {}):=aw HZ0.out HK3.out (by have:=HS0.out;omega)
 obtain⟨a1,k1,e1,_,_⟩:=az hown1
 subst e1
 have HO3:aa (w3.ownsRow w0.heap.size 63 2 (.slice a1 m k1) m (cI d.lots)):=hown1
 have hs3:w0.heap.size<=w3.heap.size:=HK3.out.size
 clear hown1 hgrow1 hob1 cc cc'
 go_wp2_with (first
  | (at_builtin;refine aZ rfl _ _ 47 63 rfl (.agg #[.int .i64 0,.int .i64 0]) 2 16 underlying47 Tryz.infoLot rfl (by decide) w0.heap.size _ m _ rfl (World.ownsRow.alloc HO3.out _) w3.heap.size [.int .i64 0,.int .i64 n] rfl (by simp[Value.oneCell']) rfl ?d1 ?d2 ?d3 ?d4 ?_)
  | fail)
 case d1=>intro j u hu;rw[aO];match j,hu with | 0,hu=>simpa using hu | 1,hu=>simpa using hu | j + 2,hu=>simp at hu
 case d2=>unfold maxLen;omega
 case d3=>omega
 case d4=>simp;omega
 intro v2 w4 hown2 hgrow2
 have hob2:=bM HO3.out
 have HK4:aa (am (·<w0.heap.size) w3 w4):=(ak (af w3 (.cells #[.int .i64 0,.int .i64 n] 63)) _).trans (aF hgrow2 _ (fun k hk h=>by have:=hob2 k hk;omega))
 have HR4:aa (ah w4 L rv):=aw HR3.out HK4.out (by have:=HS0.out;omega)
 have HZ4:aa (ah w4 (L + 1) {}):=aw HZ3.out HK4.out (by have:=HS0.out;omega)
 have HB4:aa (Below w.heap.size w w4):=HB0.out.trans ((((HK3.out.trans HK4.out).mono (K':=(·<w.heap.size)) (fun k _ h=>by have h':k<w.heap.size:=h;have:=HS0.out;have:=HLW.out;omega)).below HB0.out.size))
 obtain⟨a2,k2,e2,_,_⟩:=az hown2
 subst e2
 have HO4:=ac hown2
 clear hown2 hgrow2 hob2 HR3 HZ3 hs3
 obtain⟨r',hr'⟩:∃r,r=({rv with lots:=.slice a2 (m + 1) k2}:RecV):=⟨_,rfl⟩
 obtain⟨w5,hw5⟩:∃z,z=w4.setCell ⟨L,47,none⟩ (.slice a2 (m + 1) k2):=⟨_,rfl⟩
 have HR5:aa (ah w5 L r'):=by rw[hw5,hr'];exact HR4.out.setLots _
 have HZ5:aa (ah w5 (L + 1) {}):=by rw[hw5];exact HZ4.out.other (by omega) _
 have HB5:aa (Below w.heap.size w w5):=by rw[hw5];exact HB4.out.setCell (p:=⟨L,47,none⟩) (by show w.heap.size<=L;have:=HLW.out;omega) _
 obtain⟨w6,hw6⟩:∃z,z=w5.setRow (L + 1) (ae r'):=⟨_,rfl⟩
 have HZ6:aa (ah w6 (L + 1) r'):=by rw[hw6];exact HZ5.out.setRow r'
 have HB6:aa (Below w.heap.size w w6):=by rw[aa,hw6];exact below_setRow HB5.out (by have:=HLW.out;omega) _
 have HK6:aa (am (w0.heap.size<=·) w4 w6):=by
  rw[aa,hw6,hw5]
  exact ((am.refl _ _).setCell (p:=⟨L,47,none⟩) (.inr (by show ¬w0.heap.size<=L;have:=HS0.out;omega)) _).trans (aI _ _ _ (by have:=HS0.out;omega))
 have HM6:aa (∃ d',cS O B w6 r' d'/\d'.ok):=by
  obtain⟨b,l,o,e,q1,q2,q3⟩:=HRM.out.on HB6.out
  have HNF:d7 B w6 (.slice a2 (m + 1) k2) (d.lots++[(0,n)]):=by
   have h:w4.ownsRow w0.heap.size 63 2 (.slice a2 (m + 1) k2) (m + 1) (cI (d.lots++[(0,n)])):=by
    rw[n7]
    exact HO4.out
   exact ((lQ (by rw[List.length_append,HM.out];rfl) h (Nat.le_refl _)).keeps HK6.out (fun _ h=>h)).mono (by have:=HBB.out;have:=HB0.out.size;omega)
  have HN6:jP O B w6 (.slice a2 (m + 1) k2) (d.lots++[(0,n)]):=.from_ HNF
  refine⟨{d with lots:=d.lots++[(0,n)]},⟨b,.slice a2 (m + 1) k2,o,by rw[hr',e];rfl,q1,HN6,q3⟩,⟨HO.out.len,HO.out.dig,HO.out.tick,HO.out.bid,HO.out.nonce,HO.out.price,HO.out.kind,HO.out.lot,HO.out.carrier,HO.out.carriers,HO.out.commit,HO.out.reveal,HO.out.scheme,?_⟩⟩
  have:=HRWS.out
  simp only[List.length_append,List.length_cons,List.length_nil]
  omega
 have hone:(ae r').all (·.oneCell')=true:=by obtain⟨d',h,_⟩:=HM6.out;exact h.one
 have hi0:(prog.info? 49).map (·.size)=some (ae r').size:=by rw[aj];kernel_rfl
 have HW6:=ac hw6
 have ce:=HR4.out.lots
 have fe:=HR4.out.free 47
 clear hr' hw6
 go_upto_region 33 with fail
 rw[<-hw5]
 clear hw5 ce fe
 go_wp2_with (first
  | (refine wpList_load_row rfl _ _ rfl L rfl _ (ae r') (0,0) _ HR5.out underlying49 rfl hi0 ?_)
  | (refine wpList_store_row rfl _ _ _ rfl (L + 1) (ae r') rfl rfl 49 _ HZ5.out hi0 rfl hone ?_;rw[<-HW6.out])
  | fail)
 obtain⟨d',hm,hok⟩:=HM6.out
 exact bodyPost_ret (results_cell_row rfl _ _ (L + 1) 49 (ae r') (0,0) _ rfl HZ6.out underlying49 rfl hi0) rfl ⟨r',d',rfl,hm,hok,HB6.out⟩
