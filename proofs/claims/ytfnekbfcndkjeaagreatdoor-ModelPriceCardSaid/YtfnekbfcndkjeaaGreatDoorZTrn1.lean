/- The document's Turned, walked: the fields that are numbers. Printed by wip/gen/trn1.py. -/
import Derived.Test.YtfnekbfcndkjeaaGreatDoorZPar1
import Derived.Laws.CopyOwn
set_option maxHeartbeats 1000000
set_option maxRecDepth 100000
set_option linter.all false
namespace Go.Proofs.YtfnekbfcndkjeaaGreatDoor
open Go.Proofs.Tryz Go.RowKit
def cK (O:Nat->Prop) (B:Nat) (w:World) (e:Ending) (w':World):Prop:=
 ∃rv' d',e=.returned (.agg (ae rv'))/\cS O B w' rv' d'/\d'.ok/\Below w.heap.size w w'
theorem zV (l:List Int) (h:l.length=32) (k:Nat) (hk:k<32) (v:Int):z6 (fun j=>l.getD j 0) k v=fun j=>(l.set k v).getD j 0:=by
 funext j
 show (if j=k then v else l.getD j 0)=(l.set k v).getD j 0
 rw[List.getD_eq_getElem?_getD,List.getD_eq_getElem?_getD,List.getElem?_set]
 by_cases e:j=k
 ·subst e;simp[h,hk]
 ·rw[if_neg e,if_neg (Ne.symm e)]
theorem fS:(#[.int .i64 0,.int .i64 0,.int .i64 0,.int .i64 0,.int .i64 0,.slice none 0 0,.int .u8 0,.int .u8 0,.int .u8 0,.int .u8 0,.int .u8 0,.int .u8 0,.int .u8 0,.int .u8 0,.int .u8 0,.int .u8 0,.int .u8 0,.int .u8 0,.int .u8 0,.int .u8 0,.int .u8 0,.int .u8 0,.int .u8 0,.int .u8 0,.int .u8 0,.int .u8 0,.int .u8 0,.int .u8 0,.int .u8 0,.int .u8 0,.int .u8 0,.int .u8 0,.int .u8 0,.int .u8 0,.int .u8 0,.int .u8 0,.int .u8 0,.int .u8 0,.int .u64 0,.int .u64 0,.int .i64 0,.int .i64 0,.int .u64 0,.int .i64 0,.int .i64 0,.int .i64 0,.int .i64 0,.slice none 0 0,.slice none 0 0]:Array Value)=ae {}:=rfl
theorem yk (O:Nat->Prop) (B:Nat) (rv:RecV) (d:RecD) (ho:d.ok) (x n:Int) (hx:x.tmod 16=0) (hn:-9223372036854775808<=n/\n<=9223372036854775807) (w:World) (hr:cS O B w rv d):
  Calls prog 33 #[.agg (ae rv),.int .u8 x,.int .i64 n] w (cK O B w):=by
 obtain⟨L,hL⟩:∃x,x=w.heap.size:=⟨_,rfl⟩
 obtain⟨w0,hw0⟩:∃z,z=(w.alloc (.cells (ae rv) 49)).alloc (.cells (ae {}) 49):=⟨_,rfl⟩
 have HB0:aa (Below w.heap.size w w0):=by rw[hw0];exact aD (af _ _) (af _ _)
 have HR0:aa (ah w0 L rv):=by rw[hw0,hL];exact (ah.box _ _).new (af _ _)
 have HZ0:aa (ah w0 (L + 1) {}):=by
  rw[hw0,hL,show w.heap.size + 1=(w.alloc (.cells (ae rv) 49)).heap.size by simp]
  exact ah.box _ _
 have HLW:=ac hL
 have HO:=ac ho
 have HNN:=ac hn
 have HRM:=ac hr
 obtain⟨r',hr'⟩:∃r,r=({rv with kind:=n}:RecV):=⟨_,rfl⟩
 obtain⟨w1,hw1⟩:∃z,z=w0.setCell ⟨L,0,none⟩ (.int .i64 n):=⟨_,rfl⟩
 have HR1:aa (ah w1 L r'):=by rw[hw1,hr'];exact HR0.out.setKind n
 have HZ1:aa (ah w1 (L + 1) {}):=by rw[hw1];exact HZ0.out.other (by omega) _
 have HB1:aa (Below w.heap.size w w1):=by rw[hw1];exact HB0.out.setCell (p:=⟨L,0,none⟩) (by rw[hL];exact Nat.le_refl _) _
 obtain⟨w2,hw2⟩:∃z,z=w1.setRow (L + 1) (ae r'):=⟨_,rfl⟩
 have HZ2:aa (ah w2 (L + 1) r'):=by rw[hw2];exact HZ1.out.setRow r'
 have HB2:aa (Below w.heap.size w w2):=by rw[aa,hw2];exact below_setRow HB1.out (by omega) _
 have HM:aa (∃ d',cS O B w2 r' d'/\d'.ok):=by
  obtain⟨b,l,o,e,q1,q2,q3⟩:=HRM.out.on HB2.out
  exact⟨{d with kind:=n},⟨b,l,o,by rw[hr'];rw[e];rfl,q1,q2,q3⟩,⟨HO.out.len,HO.out.dig,HO.out.tick,HO.out.bid,HO.out.nonce,HO.out.price,HNN.out,HO.out.lot,HO.out.carrier,HO.out.carriers,HO.out.commit,HO.out.reveal,HO.out.scheme,HO.out.rows⟩⟩
 have hone:(ae r').all (·.oneCell')=true:=by obtain⟨d',h,_⟩:=HM.out;exact h.one
 have hi0:(prog.info? 49).map (·.size)=some (ae r').size:=by rw[aj];kernel_rfl
 have cc:=HR0.out.kind
 have ff:=HR0.out.free 0
 have HW2:=ac hw2
 clear hr ho hr' hw2 HRM
 go_enter func33,ntmps33
 go_upto_region 1 with fail
 rw[fS,<-hw0,<-hL]
 clear hw0 hL
 go_upto_region 33 with fail
 rw[<-hw1]
 clear hw1 cc ff
 go_wp2_with (first
  | (refine wpList_load_row rfl _ _ rfl L rfl _ (ae r') (0,0) _ HR1.out underlying49 rfl hi0 ?_)
  | (refine wpList_store_row rfl _ _ _ rfl (L + 1) (ae r') rfl rfl 49 _ HZ1.out hi0 rfl hone ?_;rw[<-HW2.out])
  | fail)
 obtain⟨d',hm,hok⟩:=HM.out
 exact bodyPost_ret (results_cell_row rfl _ _ (L + 1) 49 (ae r') (0,0) _ rfl HZ2.out underlying49 rfl hi0) rfl ⟨r',d',rfl,hm,hok,HB2.out⟩
theorem yl (O:Nat->Prop) (B:Nat) (rv:RecV) (d:RecD) (ho:d.ok) (x n:Int) (hx:x.tmod 16=1) (hn:-9223372036854775808<=n/\n<=9223372036854775807) (w:World) (hr:cS O B w rv d):
  Calls prog 33 #[.agg (ae rv),.int .u8 x,.int .i64 n] w (cK O B w):=by
 obtain⟨L,hL⟩:∃x,x=w.heap.size:=⟨_,rfl⟩
 obtain⟨w0,hw0⟩:∃z,z=(w.alloc (.cells (ae rv) 49)).alloc (.cells (ae {}) 49):=⟨_,rfl⟩
 have HB0:aa (Below w.heap.size w w0):=by rw[hw0];exact aD (af _ _) (af _ _)
 have HR0:aa (ah w0 L rv):=by rw[hw0,hL];exact (ah.box _ _).new (af _ _)
 have HZ0:aa (ah w0 (L + 1) {}):=by
  rw[hw0,hL,show w.heap.size + 1=(w.alloc (.cells (ae rv) 49)).heap.size by simp]
  exact ah.box _ _
 have HLW:=ac hL
 have HO:=ac ho
 have HNN:=ac hn
 have HRM:=ac hr
 obtain⟨r',hr'⟩:∃r,r=({rv with round:=n}:RecV):=⟨_,rfl⟩
 obtain⟨w1,hw1⟩:∃z,z=w0.setCell ⟨L,1,none⟩ (.int .i64 n):=⟨_,rfl⟩
 have HR1:aa (ah w1 L r'):=by rw[hw1,hr'];exact HR0.out.setRound n
 have HZ1:aa (ah w1 (L + 1) {}):=by rw[hw1];exact HZ0.out.other (by omega) _
 have HB1:aa (Below w.heap.size w w1):=by rw[hw1];exact HB0.out.setCell (p:=⟨L,1,none⟩) (by rw[hL];exact Nat.le_refl _) _
 obtain⟨w2,hw2⟩:∃z,z=w1.setRow (L + 1) (ae r'):=⟨_,rfl⟩
 have HZ2:aa (ah w2 (L + 1) r'):=by rw[hw2];exact HZ1.out.setRow r'
 have HB2:aa (Below w.heap.size w w2):=by rw[aa,hw2];exact below_setRow HB1.out (by omega) _
 have HM:aa (∃ d',cS O B w2 r' d'/\d'.ok):=by
  obtain⟨b,l,o,e,q1,q2,q3⟩:=HRM.out.on HB2.out
  exact⟨{d with round:=n},⟨b,l,o,by rw[hr'];rw[e];rfl,q1,q2,q3⟩,⟨HO.out.len,HO.out.dig,HO.out.tick,HO.out.bid,HO.out.nonce,HO.out.price,HO.out.kind,HO.out.lot,HO.out.carrier,HO.out.carriers,HO.out.commit,HO.out.reveal,HO.out.scheme,HO.out.rows⟩⟩
 have hone:(ae r').all (·.oneCell')=true:=by obtain⟨d',h,_⟩:=HM.out;exact h.one
 have hi0:(prog.info? 49).map (·.size)=some (ae r').size:=by rw[aj];kernel_rfl
 have cc:=HR0.out.round
 have ff:=HR0.out.free 1
 have HW2:=ac hw2
 clear hr ho hr' hw2 HRM
 go_enter func33,ntmps33
 go_upto_region 1 with fail
 rw[fS,<-hw0,<-hL]
 clear hw0 hL
 go_upto_region 33 with fail
 rw[<-hw1]
 clear hw1 cc ff
 go_wp2_with (first
  | (refine wpList_load_row rfl _ _ rfl L rfl _ (ae r') (0,0) _ HR1.out underlying49 rfl hi0 ?_)
  | (refine wpList_store_row rfl _ _ _ rfl (L + 1) (ae r') rfl rfl 49 _ HZ1.out hi0 rfl hone ?_;rw[<-HW2.out])
  | fail)
 obtain⟨d',hm,hok⟩:=HM.out
 exact bodyPost_ret (results_cell_row rfl _ _ (L + 1) 49 (ae r') (0,0) _ rfl HZ2.out underlying49 rfl hi0) rfl ⟨r',d',rfl,hm,hok,HB2.out⟩
theorem ym (O:Nat->Prop) (B:Nat) (rv:RecV) (d:RecD) (ho:d.ok) (x n:Int) (hx:x.tmod 16=2) (hn:-9223372036854775808<=n/\n<=9223372036854775807) (w:World) (hr:cS O B w rv d):
  Calls prog 33 #[.agg (ae rv),.int .u8 x,.int .i64 n] w (cK O B w):=by
 obtain⟨L,hL⟩:∃x,x=w.heap.size:=⟨_,rfl⟩
 obtain⟨w0,hw0⟩:∃z,z=(w.alloc (.cells (ae rv) 49)).alloc (.cells (ae {}) 49):=⟨_,rfl⟩
 have HB0:aa (Below w.heap.size w w0):=by rw[hw0];exact aD (af _ _) (af _ _)
 have HR0:aa (ah w0 L rv):=by rw[hw0,hL];exact (ah.box _ _).new (af _ _)
 have HZ0:aa (ah w0 (L + 1) {}):=by
  rw[hw0,hL,show w.heap.size + 1=(w.alloc (.cells (ae rv) 49)).heap.size by simp]
  exact ah.box _ _
 have HLW:=ac hL
 have HO:=ac ho
 have HNN:=ac hn
 have HRM:=ac hr
 obtain⟨r',hr'⟩:∃r,r=({rv with lot:=n}:RecV):=⟨_,rfl⟩
 obtain⟨w1,hw1⟩:∃z,z=w0.setCell ⟨L,2,none⟩ (.int .i64 n):=⟨_,rfl⟩
 have HR1:aa (ah w1 L r'):=by rw[hw1,hr'];exact HR0.out.setLot n
 have HZ1:aa (ah w1 (L + 1) {}):=by rw[hw1];exact HZ0.out.other (by omega) _
 have HB1:aa (Below w.heap.size w w1):=by rw[hw1];exact HB0.out.setCell (p:=⟨L,2,none⟩) (by rw[hL];exact Nat.le_refl _) _
 obtain⟨w2,hw2⟩:∃z,z=w1.setRow (L + 1) (ae r'):=⟨_,rfl⟩
 have HZ2:aa (ah w2 (L + 1) r'):=by rw[hw2];exact HZ1.out.setRow r'
 have HB2:aa (Below w.heap.size w w2):=by rw[aa,hw2];exact below_setRow HB1.out (by omega) _
 have HM:aa (∃ d',cS O B w2 r' d'/\d'.ok):=by
  obtain⟨b,l,o,e,q1,q2,q3⟩:=HRM.out.on HB2.out
  exact⟨{d with lot:=n},⟨b,l,o,by rw[hr'];rw[e];rfl,q1,q2,q3⟩,⟨HO.out.len,HO.out.dig,HO.out.tick,HO.out.bid,HO.out.nonce,HO.out.price,HO.out.kind,HNN.out,HO.out.carrier,HO.out.carriers,HO.out.commit,HO.out.reveal,HO.out.scheme,HO.out.rows⟩⟩
 have hone:(ae r').all (·.oneCell')=true:=by obtain⟨d',h,_⟩:=HM.out;exact h.one
 have hi0:(prog.info? 49).map (·.size)=some (ae r').size:=by rw[aj];kernel_rfl
 have cc:=HR0.out.lot
 have ff:=HR0.out.free 2
 have HW2:=ac hw2
 clear hr ho hr' hw2 HRM
 go_enter func33,ntmps33
 go_upto_region 1 with fail
 rw[fS,<-hw0,<-hL]
 clear hw0 hL
 go_upto_region 33 with fail
 rw[<-hw1]
 clear hw1 cc ff
 go_wp2_with (first
  | (refine wpList_load_row rfl _ _ rfl L rfl _ (ae r') (0,0) _ HR1.out underlying49 rfl hi0 ?_)
  | (refine wpList_store_row rfl _ _ _ rfl (L + 1) (ae r') rfl rfl 49 _ HZ1.out hi0 rfl hone ?_;rw[<-HW2.out])
  | fail)
 obtain⟨d',hm,hok⟩:=HM.out
 exact bodyPost_ret (results_cell_row rfl _ _ (L + 1) 49 (ae r') (0,0) _ rfl HZ2.out underlying49 rfl hi0) rfl ⟨r',d',rfl,hm,hok,HB2.out⟩
theorem yn (O:Nat->Prop) (B:Nat) (rv:RecV) (d:RecD) (ho:d.ok) (x n:Int) (hx:x.tmod 16=3) (hn:-9223372036854775808<=n/\n<=9223372036854775807) (w:World) (hr:cS O B w rv d):
  Calls prog 33 #[.agg (ae rv),.int .u8 x,.int .i64 n] w (cK O B w):=by
 obtain⟨L,hL⟩:∃x,x=w.heap.size:=⟨_,rfl⟩
 obtain⟨w0,hw0⟩:∃z,z=(w.alloc (.cells (ae rv) 49)).alloc (.cells (ae {}) 49):=⟨_,rfl⟩
 have HB0:aa (Below w.heap.size w w0):=by rw[hw0];exact aD (af _ _) (af _ _)
 have HR0:aa (ah w0 L rv):=by rw[hw0,hL];exact (ah.box _ _).new (af _ _)
 have HZ0:aa (ah w0 (L + 1) {}):=by
  rw[hw0,hL,show w.heap.size + 1=(w.alloc (.cells (ae rv) 49)).heap.size by simp]
  exact ah.box _ _
 have HLW:=ac hL
 have HO:=ac ho
 have HNN:=ac hn
 have HRM:=ac hr
 obtain⟨r',hr'⟩:∃r,r=({rv with carrier:=n}:RecV):=⟨_,rfl⟩
 obtain⟨w1,hw1⟩:∃z,z=w0.setCell ⟨L,3,none⟩ (.int .i64 n):=⟨_,rfl⟩
 have HR1:aa (ah w1 L r'):=by rw[hw1,hr'];exact HR0.out.setCarrier n
 have HZ1:aa (ah w1 (L + 1) {}):=by rw[hw1];exact HZ0.out.other (by omega) _
 have HB1:aa (Below w.heap.size w w1):=by rw[hw1];exact HB0.out.setCell (p:=⟨L,3,none⟩) (by rw[hL];exact Nat.le_refl _) _
 obtain⟨w2,hw2⟩:∃z,z=w1.setRow (L + 1) (ae r'):=⟨_,rfl⟩
 have HZ2:aa (ah w2 (L + 1) r'):=by rw[hw2];exact HZ1.out.setRow r'
 have HB2:aa (Below w.heap.size w w2):=by rw[aa,hw2];exact below_setRow HB1.out (by omega) _
 have HM:aa (∃ d',cS O B w2 r' d'/\d'.ok):=by
  obtain⟨b,l,o,e,q1,q2,q3⟩:=HRM.out.on HB2.out
  exact⟨{d with carrier:=n},⟨b,l,o,by rw[hr'];rw[e];rfl,q1,q2,q3⟩,⟨HO.out.len,HO.out.dig,HO.out.tick,HO.out.bid,HO.out.nonce,HO.out.price,HO.out.kind,HO.out.lot,HNN.out,HO.out.carriers,HO.out.commit,HO.out.reveal,HO.out.scheme,HO.out.rows⟩⟩
 have hone:(ae r').all (·.oneCell')=true:=by obtain⟨d',h,_⟩:=HM.out;exact h.one
 have hi0:(prog.info? 49).map (·.size)=some (ae r').size:=by rw[aj];kernel_rfl
 have cc:=HR0.out.carrier
 have ff:=HR0.out.free 3
 have HW2:=ac hw2
 clear hr ho hr' hw2 HRM
 go_enter func33,ntmps33
 go_upto_region 1 with fail
 rw[fS,<-hw0,<-hL]
 clear hw0 hL
 go_upto_region 33 with fail
 rw[<-hw1]
 clear hw1 cc ff
 go_wp2_with (first
  | (refine wpList_load_row rfl _ _ rfl L rfl _ (ae r') (0,0) _ HR1.out underlying49 rfl hi0 ?_)
  | (refine wpList_store_row rfl _ _ _ rfl (L + 1) (ae r') rfl rfl 49 _ HZ1.out hi0 rfl hone ?_;rw[<-HW2.out])
  | fail)
 obtain⟨d',hm,hok⟩:=HM.out
 exact bodyPost_ret (results_cell_row rfl _ _ (L + 1) 49 (ae r') (0,0) _ rfl HZ2.out underlying49 rfl hi0) rfl ⟨r',d',rfl,hm,hok,HB2.out⟩
theorem yp (O:Nat->Prop) (B:Nat) (rv:RecV) (d:RecD) (ho:d.ok) (x n:Int) (hx:x.tmod 16=4) (hn:-9223372036854775808<=n/\n<=9223372036854775807) (w:World) (hr:cS O B w rv d):
  Calls prog 33 #[.agg (ae rv),.int .u8 x,.int .i64 n] w (cK O B w):=by
 obtain⟨L,hL⟩:∃x,x=w.heap.size:=⟨_,rfl⟩
 obtain⟨w0,hw0⟩:∃z,z=(w.alloc (.cells (ae rv) 49)).alloc (.cells (ae {}) 49):=⟨_,rfl⟩
 have HB0:aa (Below w.heap.size w w0):=by rw[hw0];exact aD (af _ _) (af _ _)
 have HR0:aa (ah w0 L rv):=by rw[hw0,hL];exact (ah.box _ _).new (af _ _)
 have HZ0:aa (ah w0 (L + 1) {}):=by
  rw[hw0,hL,show w.heap.size + 1=(w.alloc (.cells (ae rv) 49)).heap.size by simp]
  exact ah.box _ _
 have HLW:=ac hL
 have HO:=ac ho
 have HNN:=ac hn
 have HRM:=ac hr
 obtain⟨r',hr'⟩:∃r,r=({rv with tick:=n}:RecV):=⟨_,rfl⟩
 obtain⟨w1,hw1⟩:∃z,z=w0.setCell ⟨L,4,none⟩ (.int .i64 n):=⟨_,rfl⟩
 have HR1:aa (ah w1 L r'):=by rw[hw1,hr'];exact HR0.out.setTick n
 have HZ1:aa (ah w1 (L + 1) {}):=by rw[hw1];exact HZ0.out.other (by omega) _
 have HB1:aa (Below w.heap.size w w1):=by rw[hw1];exact HB0.out.setCell (p:=⟨L,4,none⟩) (by rw[hL];exact Nat.le_refl _) _
 obtain⟨w2,hw2⟩:∃z,z=w1.setRow (L + 1) (ae r'):=⟨_,rfl⟩
 have HZ2:aa (ah w2 (L + 1) r'):=by rw[hw2];exact HZ1.out.setRow r'
 have HB2:aa (Below w.heap.size w w2):=by rw[aa,hw2];exact below_setRow HB1.out (by omega) _
 have HM:aa (∃ d',cS O B w2 r' d'/\d'.ok):=by
  obtain⟨b,l,o,e,q1,q2,q3⟩:=HRM.out.on HB2.out
  exact⟨{d with tick:=n},⟨b,l,o,by rw[hr'];rw[e];rfl,q1,q2,q3⟩,⟨HO.out.len,HO.out.dig,HNN.out,HO.out.bid,HO.out.nonce,HO.out.price,HO.out.kind,HO.out.lot,HO.out.carrier,HO.out.carriers,HO.out.commit,HO.out.reveal,HO.out.scheme,HO.out.rows⟩⟩
 have hone:(ae r').all (·.oneCell')=true:=by obtain⟨d',h,_⟩:=HM.out;exact h.one
 have hi0:(prog.info? 49).map (·.size)=some (ae r').size:=by rw[aj];kernel_rfl
 have cc:=HR0.out.tick
 have ff:=HR0.out.free 4
 have HW2:=ac hw2
 clear hr ho hr' hw2 HRM
 go_enter func33,ntmps33
 go_upto_region 1 with fail
 rw[fS,<-hw0,<-hL]
 clear hw0 hL
 go_upto_region 33 with fail
 rw[<-hw1]
 clear hw1 cc ff
 go_wp2_with (first
  | (refine wpList_load_row rfl _ _ rfl L rfl _ (ae r') (0,0) _ HR1.out underlying49 rfl hi0 ?_)
  | (refine wpList_store_row rfl _ _ _ rfl (L + 1) (ae r') rfl rfl 49 _ HZ1.out hi0 rfl hone ?_;rw[<-HW2.out])
  | fail)
 obtain⟨d',hm,hok⟩:=HM.out
 exact bodyPost_ret (results_cell_row rfl _ _ (L + 1) 49 (ae r') (0,0) _ rfl HZ2.out underlying49 rfl hi0) rfl ⟨r',d',rfl,hm,hok,HB2.out⟩
theorem yq (O:Nat->Prop) (B:Nat) (rv:RecV) (d:RecD) (ho:d.ok) (x n:Int) (hx:x.tmod 16=6) (hn:-9223372036854775808<=n/\n<=9223372036854775807) (w:World) (hr:cS O B w rv d):
  Calls prog 33 #[.agg (ae rv),.int .u8 x,.int .i64 n] w (cK O B w):=by
 obtain⟨L,hL⟩:∃x,x=w.heap.size:=⟨_,rfl⟩
 obtain⟨w0,hw0⟩:∃z,z=(w.alloc (.cells (ae rv) 49)).alloc (.cells (ae {}) 49):=⟨_,rfl⟩
 have HB0:aa (Below w.heap.size w w0):=by rw[hw0];exact aD (af _ _) (af _ _)
 have HR0:aa (ah w0 L rv):=by rw[hw0,hL];exact (ah.box _ _).new (af _ _)
 have HZ0:aa (ah w0 (L + 1) {}):=by
  rw[hw0,hL,show w.heap.size + 1=(w.alloc (.cells (ae rv) 49)).heap.size by simp]
  exact ah.box _ _
 have HLW:=ac hL
 have HO:=ac ho
 have HNN:=ac hn
 have HRM:=ac hr
 obtain⟨r',hr'⟩:∃r,r=({rv with dig:=z6 rv.dig 5 (n % 256)}:RecV):=⟨_,rfl⟩
 obtain⟨w1,hw1⟩:∃z,z=w0.setCell ⟨L,11,none⟩ (.int .u8 (n % 256)):=⟨_,rfl⟩
 have HR1:aa (ah w1 L r'):=by rw[hw1,hr'];exact HR0.out.setDig 5 (by omega) (n % 256)
 have HZ1:aa (ah w1 (L + 1) {}):=by rw[hw1];exact HZ0.out.other (by omega) _
 have HB1:aa (Below w.heap.size w w1):=by rw[hw1];exact HB0.out.setCell (p:=⟨L,11,none⟩) (by rw[hL];exact Nat.le_refl _) _
 obtain⟨w2,hw2⟩:∃z,z=w1.setRow (L + 1) (ae r'):=⟨_,rfl⟩
 have HZ2:aa (ah w2 (L + 1) r'):=by rw[hw2];exact HZ1.out.setRow r'
 have HB2:aa (Below w.heap.size w w2):=by rw[aa,hw2];exact below_setRow HB1.out (by omega) _
 have HM:aa (∃ d',cS O B w2 r' d'/\d'.ok):=by
  obtain⟨b,l,o,e,q1,q2,q3⟩:=HRM.out.on HB2.out
  exact⟨{d with dig:=d.dig.set 5 (n % 256)},⟨b,l,o,by rw[hr'];rw[e];simp only[RecD.toV];rw[zV d.dig HO.out.len 5 (by omega)],q1,q2,q3⟩,⟨by rw[List.length_set];exact HO.out.len,AA HO.out.dig 5 (by omega),HO.out.tick,HO.out.bid,HO.out.nonce,HO.out.price,HO.out.kind,HO.out.lot,HO.out.carrier,HO.out.carriers,HO.out.commit,HO.out.reveal,HO.out.scheme,HO.out.rows⟩⟩
 have hone:(ae r').all (·.oneCell')=true:=by obtain⟨d',h,_⟩:=HM.out;exact h.one
 have hi0:(prog.info? 49).map (·.size)=some (ae r').size:=by rw[aj];kernel_rfl
 have cc:=HR0.out.dig 5 (by omega)
 have ff:=HR0.out.free 11
 have HW2:=ac hw2
 have hw:IntKind.u8.wrap n=n % 256:=IntKind.wrap_u8 _
 clear hn
 clear hr ho hr' hw2 HRM
 go_enter func33,ntmps33
 go_upto_region 1 with fail
 rw[fS,<-hw0,<-hL]
 clear hw0 hL
 go_upto_region 33 with fail
 rw[<-hw1]
 clear hw1 cc ff
 go_wp2_with (first
  | (refine wpList_load_row rfl _ _ rfl L rfl _ (ae r') (0,0) _ HR1.out underlying49 rfl hi0 ?_)
  | (refine wpList_store_row rfl _ _ _ rfl (L + 1) (ae r') rfl rfl 49 _ HZ1.out hi0 rfl hone ?_;rw[<-HW2.out])
  | fail)
 obtain⟨d',hm,hok⟩:=HM.out
 exact bodyPost_ret (results_cell_row rfl _ _ (L + 1) 49 (ae r') (0,0) _ rfl HZ2.out underlying49 rfl hi0) rfl ⟨r',d',rfl,hm,hok,HB2.out⟩
theorem yr (O:Nat->Prop) (B:Nat) (rv:RecV) (d:RecD) (ho:d.ok) (x n:Int) (hx:x.tmod 16=7) (hn:-9223372036854775808<=n/\n<=9223372036854775807) (w:World) (hr:cS O B w rv d):
  Calls prog 33 #[.agg (ae rv),.int .u8 x,.int .i64 n] w (cK O B w):=by
 obtain⟨L,hL⟩:∃x,x=w.heap.size:=⟨_,rfl⟩
 obtain⟨w0,hw0⟩:∃z,z=(w.alloc (.cells (ae rv) 49)).alloc (.cells (ae {}) 49):=⟨_,rfl⟩
 have HB0:aa (Below w.heap.size w w0):=by rw[hw0];exact aD (af _ _) (af _ _)
 have HR0:aa (ah w0 L rv):=by rw[hw0,hL];exact (ah.box _ _).new (af _ _)
 have HZ0:aa (ah w0 (L + 1) {}):=by
  rw[hw0,hL,show w.heap.size + 1=(w.alloc (.cells (ae rv) 49)).heap.size by simp]
  exact ah.box _ _
 have HLW:=ac hL
 have HO:=ac ho
 have HNN:=ac hn
 have HRM:=ac hr
 obtain⟨r',hr'⟩:∃r,r=({rv with bid:=(n % 18446744073709551616)}:RecV):=⟨_,rfl⟩
 obtain⟨w1,hw1⟩:∃z,z=w0.setCell ⟨L,38,none⟩ (.int .u64 (n % 18446744073709551616)):=⟨_,rfl⟩
 have HR1:aa (ah w1 L r'):=by rw[hw1,hr'];exact HR0.out.setBid (n % 18446744073709551616)
 have HZ1:aa (ah w1 (L + 1) {}):=by rw[hw1];exact HZ0.out.other (by omega) _
 have HB1:aa (Below w.heap.size w w1):=by rw[hw1];exact HB0.out.setCell (p:=⟨L,38,none⟩) (by rw[hL];exact Nat.le_refl _) _
 obtain⟨w2,hw2⟩:∃z,z=w1.setRow (L + 1) (ae r'):=⟨_,rfl⟩
 have HZ2:aa (ah w2 (L + 1) r'):=by rw[hw2];exact HZ1.out.setRow r'
 have HB2:aa (Below w.heap.size w w2):=by rw[aa,hw2];exact below_setRow HB1.out (by omega) _
 have HM:aa (∃ d',cS O B w2 r' d'/\d'.ok):=by
  obtain⟨b,l,o,e,q1,q2,q3⟩:=HRM.out.on HB2.out
  exact⟨{d with bid:=(n % 18446744073709551616)},⟨b,l,o,by rw[hr'];rw[e];rfl,q1,q2,q3⟩,⟨HO.out.len,HO.out.dig,HO.out.tick,by show 0<=n % 18446744073709551616/\n % 18446744073709551616<=18446744073709551615;omega,HO.out.nonce,HO.out.price,HO.out.kind,HO.out.lot,HO.out.carrier,HO.out.carriers,HO.out.commit,HO.out.reveal,HO.out.scheme,HO.out.rows⟩⟩
 have hone:(ae r').all (·.oneCell')=true:=by obtain⟨d',h,_⟩:=HM.out;exact h.one
 have hi0:(prog.info? 49).map (·.size)=some (ae r').size:=by rw[aj];kernel_rfl
 have cc:=HR0.out.bid
 have ff:=HR0.out.free 38
 have HW2:=ac hw2
 have hw:IntKind.u64.wrap n=n % 18446744073709551616:=IntKind.wrap_u64 _
 clear hr ho hr' hw2 HRM
 go_enter func33,ntmps33
 go_upto_region 1 with fail
 rw[fS,<-hw0,<-hL]
 clear hw0 hL
 go_upto_region 33 with fail
 rw[<-hw1]
 clear hw1 cc ff
 go_wp2_with (first
  | (refine wpList_load_row rfl _ _ rfl L rfl _ (ae r') (0,0) _ HR1.out underlying49 rfl hi0 ?_)
  | (refine wpList_store_row rfl _ _ _ rfl (L + 1) (ae r') rfl rfl 49 _ HZ1.out hi0 rfl hone ?_;rw[<-HW2.out])
  | fail)
 obtain⟨d',hm,hok⟩:=HM.out
 exact bodyPost_ret (results_cell_row rfl _ _ (L + 1) 49 (ae r') (0,0) _ rfl HZ2.out underlying49 rfl hi0) rfl ⟨r',d',rfl,hm,hok,HB2.out⟩
theorem yt (O:Nat->Prop) (B:Nat) (rv:RecV) (d:RecD) (ho:d.ok) (x n:Int) (hx:x.tmod 16=8) (hn:-9223372036854775808<=n/\n<=9223372036854775807) (w:World) (hr:cS O B w rv d):
  Calls prog 33 #[.agg (ae rv),.int .u8 x,.int .i64 n] w (cK O B w):=by
 obtain⟨L,hL⟩:∃x,x=w.heap.size:=⟨_,rfl⟩
 obtain⟨w0,hw0⟩:∃z,z=(w.alloc (.cells (ae rv) 49)).alloc (.cells (ae {}) 49):=⟨_,rfl⟩
 have HB0:aa (Below w.heap.size w w0):=by rw[hw0];exact aD (af _ _) (af _ _)
 have HR0:aa (ah w0 L rv):=by rw[hw0,hL];exact (ah.box _ _).new (af _ _)
 have HZ0:aa (ah w0 (L + 1) {}):=by
  rw[hw0,hL,show w.heap.size + 1=(w.alloc (.cells (ae rv) 49)).heap.size by simp]
  exact ah.box _ _
 have HLW:=ac hL
 have HO:=ac ho
 have HNN:=ac hn
 have HRM:=ac hr
 obtain⟨r',hr'⟩:∃r,r=({rv with nonce:=(n % 18446744073709551616)}:RecV):=⟨_,rfl⟩
 obtain⟨w1,hw1⟩:∃z,z=w0.setCell ⟨L,39,none⟩ (.int .u64 (n % 18446744073709551616)):=⟨_,rfl⟩
 have HR1:aa (ah w1 L r'):=by rw[hw1,hr'];exact HR0.out.setNonce (n % 18446744073709551616)
 have HZ1:aa (ah w1 (L + 1) {}):=by rw[hw1];exact HZ0.out.other (by omega) _
 have HB1:aa (Below w.heap.size w w1):=by rw[hw1];exact HB0.out.setCell (p:=⟨L,39,none⟩) (by rw[hL];exact Nat.le_refl _) _
 obtain⟨w2,hw2⟩:∃z,z=w1.setRow (L + 1) (ae r'):=⟨_,rfl⟩
 have HZ2:aa (ah w2 (L + 1) r'):=by rw[hw2];exact HZ1.out.setRow r'
 have HB2:aa (Below w.heap.size w w2):=by rw[aa,hw2];exact below_setRow HB1.out (by omega) _
 have HM:aa (∃ d',cS O B w2 r' d'/\d'.ok):=by
  obtain⟨b,l,o,e,q1,q2,q3⟩:=HRM.out.on HB2.out
  exact⟨{d with nonce:=(n % 18446744073709551616)},⟨b,l,o,by rw[hr'];rw[e];rfl,q1,q2,q3⟩,⟨HO.out.len,HO.out.dig,HO.out.tick,HO.out.bid,by show 0<=n % 18446744073709551616/\n % 18446744073709551616<=18446744073709551615;omega,HO.out.price,HO.out.kind,HO.out.lot,HO.out.carrier,HO.out.carriers,HO.out.commit,HO.out.reveal,HO.out.scheme,HO.out.rows⟩⟩
 have hone:(ae r').all (·.oneCell')=true:=by obtain⟨d',h,_⟩:=HM.out;exact h.one
 have hi0:(prog.info? 49).map (·.size)=some (ae r').size:=by rw[aj];kernel_rfl
 have cc:=HR0.out.nonce
 have ff:=HR0.out.free 39
 have HW2:=ac hw2
 have hw:IntKind.u64.wrap n=n % 18446744073709551616:=IntKind.wrap_u64 _
 clear hr ho hr' hw2 HRM
 go_enter func33,ntmps33
 go_upto_region 1 with fail
 rw[fS,<-hw0,<-hL]
 clear hw0 hL
 go_upto_region 33 with fail
 rw[<-hw1]
 clear hw1 cc ff
 go_wp2_with (first
  | (refine wpList_load_row rfl _ _ rfl L rfl _ (ae r') (0,0) _ HR1.out underlying49 rfl hi0 ?_)
  | (refine wpList_store_row rfl _ _ _ rfl (L + 1) (ae r') rfl rfl 49 _ HZ1.out hi0 rfl hone ?_;rw[<-HW2.out])
  | fail)
 obtain⟨d',hm,hok⟩:=HM.out
 exact bodyPost_ret (results_cell_row rfl _ _ (L + 1) 49 (ae r') (0,0) _ rfl HZ2.out underlying49 rfl hi0) rfl ⟨r',d',rfl,hm,hok,HB2.out⟩
theorem yu (O:Nat->Prop) (B:Nat) (rv:RecV) (d:RecD) (ho:d.ok) (x n:Int) (hx:x.tmod 16=9) (hn:-9223372036854775808<=n/\n<=9223372036854775807) (w:World) (hr:cS O B w rv d):
  Calls prog 33 #[.agg (ae rv),.int .u8 x,.int .i64 n] w (cK O B w):=by
 obtain⟨L,hL⟩:∃x,x=w.heap.size:=⟨_,rfl⟩
 obtain⟨w0,hw0⟩:∃z,z=(w.alloc (.cells (ae rv) 49)).alloc (.cells (ae {}) 49):=⟨_,rfl⟩
 have HB0:aa (Below w.heap.size w w0):=by rw[hw0];exact aD (af _ _) (af _ _)
 have HR0:aa (ah w0 L rv):=by rw[hw0,hL];exact (ah.box _ _).new (af _ _)
 have HZ0:aa (ah w0 (L + 1) {}):=by
  rw[hw0,hL,show w.heap.size + 1=(w.alloc (.cells (ae rv) 49)).heap.size by simp]
  exact ah.box _ _
 have HLW:=ac hL
 have HO:=ac ho
 have HNN:=ac hn
 have HRM:=ac hr
 obtain⟨r',hr'⟩:∃r,r=({rv with winner:=n}:RecV):=⟨_,rfl⟩
 obtain⟨w1,hw1⟩:∃z,z=w0.setCell ⟨L,41,none⟩ (.int .i64 n):=⟨_,rfl⟩
 have HR1:aa (ah w1 L r'):=by rw[hw1,hr'];exact HR0.out.setWinner n
 have HZ1:aa (ah w1 (L + 1) {}):=by rw[hw1];exact HZ0.out.other (by omega) _
 have HB1:aa (Below w.heap.size w w1):=by rw[hw1];exact HB0.out.setCell (p:=⟨L,41,none⟩) (by rw[hL];exact Nat.le_refl _) _
 obtain⟨w2,hw2⟩:∃z,z=w1.setRow (L + 1) (ae r'):=⟨_,rfl⟩
 have HZ2:aa (ah w2 (L + 1) r'):=by rw[hw2];exact HZ1.out.setRow r'
 have HB2:aa (Below w.heap.size w w2):=by rw[aa,hw2];exact below_setRow HB1.out (by omega) _
 have HM:aa (∃ d',cS O B w2 r' d'/\d'.ok):=by
  obtain⟨b,l,o,e,q1,q2,q3⟩:=HRM.out.on HB2.out
  exact⟨{d with winner:=n},⟨b,l,o,by rw[hr'];rw[e];rfl,q1,q2,q3⟩,⟨HO.out.len,HO.out.dig,HO.out.tick,HO.out.bid,HO.out.nonce,HO.out.price,HO.out.kind,HO.out.lot,HO.out.carrier,HO.out.carriers,HO.out.commit,HO.out.reveal,HO.out.scheme,HO.out.rows⟩⟩
 have hone:(ae r').all (·.oneCell')=true:=by obtain⟨d',h,_⟩:=HM.out;exact h.one
 have hi0:(prog.info? 49).map (·.size)=some (ae r').size:=by rw[aj];kernel_rfl
 have cc:=HR0.out.winner
 have ff:=HR0.out.free 41
 have HW2:=ac hw2
 clear hr ho hr' hw2 HRM
 go_enter func33,ntmps33
 go_upto_region 1 with fail
 rw[fS,<-hw0,<-hL]
 clear hw0 hL
 go_upto_region 33 with fail
 rw[<-hw1]
 clear hw1 cc ff
 go_wp2_with (first
  | (refine wpList_load_row rfl _ _ rfl L rfl _ (ae r') (0,0) _ HR1.out underlying49 rfl hi0 ?_)
  | (refine wpList_store_row rfl _ _ _ rfl (L + 1) (ae r') rfl rfl 49 _ HZ1.out hi0 rfl hone ?_;rw[<-HW2.out])
  | fail)
 obtain⟨d',hm,hok⟩:=HM.out
 exact bodyPost_ret (results_cell_row rfl _ _ (L + 1) 49 (ae r') (0,0) _ rfl HZ2.out underlying49 rfl hi0) rfl ⟨r',d',rfl,hm,hok,HB2.out⟩
theorem vA (O:Nat->Prop) (B:Nat) (rv:RecV) (d:RecD) (ho:d.ok) (x n:Int) (hx:x.tmod 16=10) (hn:-9223372036854775808<=n/\n<=9223372036854775807) (w:World) (hr:cS O B w rv d):
  Calls prog 33 #[.agg (ae rv),.int .u8 x,.int .i64 n] w (cK O B w):=by
 obtain⟨L,hL⟩:∃x,x=w.heap.size:=⟨_,rfl⟩
 obtain⟨w0,hw0⟩:∃z,z=(w.alloc (.cells (ae rv) 49)).alloc (.cells (ae {}) 49):=⟨_,rfl⟩
 have HB0:aa (Below w.heap.size w w0):=by rw[hw0];exact aD (af _ _) (af _ _)
 have HR0:aa (ah w0 L rv):=by rw[hw0,hL];exact (ah.box _ _).new (af _ _)
 have HZ0:aa (ah w0 (L + 1) {}):=by
  rw[hw0,hL,show w.heap.size + 1=(w.alloc (.cells (ae rv) 49)).heap.size by simp]
  exact ah.box _ _
 have HLW:=ac hL
 have HO:=ac ho
 have HNN:=ac hn
 have HRM:=ac hr
 obtain⟨r',hr'⟩:∃r,r=({rv with price:=(n % 18446744073709551616)}:RecV):=⟨_,rfl⟩
 obtain⟨w1,hw1⟩:∃z,z=w0.setCell ⟨L,42,none⟩ (.int .u64 (n % 18446744073709551616)):=⟨_,rfl⟩
 have HR1:aa (ah w1 L r'):=by rw[hw1,hr'];exact HR0.out.setPrice (n % 18446744073709551616)
 have HZ1:aa (ah w1 (L + 1) {}):=by rw[hw1];exact HZ0.out.other (by omega) _
 have HB1:aa (Below w.heap.size w w1):=by rw[hw1];exact HB0.out.setCell (p:=⟨L,42,none⟩) (by rw[hL];exact Nat.le_refl _) _
 obtain⟨w2,hw2⟩:∃z,z=w1.setRow (L + 1) (ae r'):=⟨_,rfl⟩
 have HZ2:aa (ah w2 (L + 1) r'):=by rw[hw2];exact HZ1.out.setRow r'
 have HB2:aa (Below w.heap.size w w2):=by rw[aa,hw2];exact below_setRow HB1.out (by omega) _
 have HM:aa (∃ d',cS O B w2 r' d'/\d'.ok):=by
  obtain⟨b,l,o,e,q1,q2,q3⟩:=HRM.out.on HB2.out
  exact⟨{d with price:=(n % 18446744073709551616)},⟨b,l,o,by rw[hr'];rw[e];rfl,q1,q2,q3⟩,⟨HO.out.len,HO.out.dig,HO.out.tick,HO.out.bid,HO.out.nonce,by show 0<=n % 18446744073709551616/\n % 18446744073709551616<=18446744073709551615;omega,HO.out.kind,HO.out.lot,HO.out.carrier,HO.out.carriers,HO.out.commit,HO.out.reveal,HO.out.scheme,HO.out.rows⟩⟩
 have hone:(ae r').all (·.oneCell')=true:=by obtain⟨d',h,_⟩:=HM.out;exact h.one
 have hi0:(prog.info? 49).map (·.size)=some (ae r').size:=by rw[aj];kernel_rfl
 have cc:=HR0.out.price
 have ff:=HR0.out.free 42
 have HW2:=ac hw2
 have hw:IntKind.u64.wrap n=n % 18446744073709551616:=IntKind.wrap_u64 _
 clear hr ho hr' hw2 HRM
 go_enter func33,ntmps33
 go_upto_region 1 with fail
 rw[fS,<-hw0,<-hL]
 clear hw0 hL
 go_upto_region 33 with fail
 rw[<-hw1]
 clear hw1 cc ff
 go_wp2_with (first
  | (refine wpList_load_row rfl _ _ rfl L rfl _ (ae r') (0,0) _ HR1.out underlying49 rfl hi0 ?_)
  | (refine wpList_store_row rfl _ _ _ rfl (L + 1) (ae r') rfl rfl 49 _ HZ1.out hi0 rfl hone ?_;rw[<-HW2.out])
  | fail)
 obtain⟨d',hm,hok⟩:=HM.out
 exact bodyPost_ret (results_cell_row rfl _ _ (L + 1) 49 (ae r') (0,0) _ rfl HZ2.out underlying49 rfl hi0) rfl ⟨r',d',rfl,hm,hok,HB2.out⟩
theorem vB (O:Nat->Prop) (B:Nat) (rv:RecV) (d:RecD) (ho:d.ok) (x n:Int) (hx:x.tmod 16=11) (hn:-9223372036854775808<=n/\n<=9223372036854775807) (w:World) (hr:cS O B w rv d):
  Calls prog 33 #[.agg (ae rv),.int .u8 x,.int .i64 n] w (cK O B w):=by
 obtain⟨L,hL⟩:∃x,x=w.heap.size:=⟨_,rfl⟩
 obtain⟨w0,hw0⟩:∃z,z=(w.alloc (.cells (ae rv) 49)).alloc (.cells (ae {}) 49):=⟨_,rfl⟩
 have HB0:aa (Below w.heap.size w w0):=by rw[hw0];exact aD (af _ _) (af _ _)
 have HR0:aa (ah w0 L rv):=by rw[hw0,hL];exact (ah.box _ _).new (af _ _)
 have HZ0:aa (ah w0 (L + 1) {}):=by
  rw[hw0,hL,show w.heap.size + 1=(w.alloc (.cells (ae rv) 49)).heap.size by simp]
  exact ah.box _ _
 have HLW:=ac hL
 have HO:=ac ho
 have HNN:=ac hn
 have HRM:=ac hr
 obtain⟨r',hr'⟩:∃r,r=({rv with carriers:=n}:RecV):=⟨_,rfl⟩
 obtain⟨w1,hw1⟩:∃z,z=w0.setCell ⟨L,43,none⟩ (.int .i64 n):=⟨_,rfl⟩
 have HR1:aa (ah w1 L r'):=by rw[hw1,hr'];exact HR0.out.setCarriers n
 have HZ1:aa (ah w1 (L + 1) {}):=by rw[hw1];exact HZ0.out.other (by omega) _
 have HB1:aa (Below w.heap.size w w1):=by rw[hw1];exact HB0.out.setCell (p:=⟨L,43,none⟩) (by rw[hL];exact Nat.le_refl _) _
 obtain⟨w2,hw2⟩:∃z,z=w1.setRow (L + 1) (ae r'):=⟨_,rfl⟩
 have HZ2:aa (ah w2 (L + 1) r'):=by rw[hw2];exact HZ1.out.setRow r'
 have HB2:aa (Below w.heap.size w w2):=by rw[aa,hw2];exact below_setRow HB1.out (by omega) _
 have HM:aa (∃ d',cS O B w2 r' d'/\d'.ok):=by
  obtain⟨b,l,o,e,q1,q2,q3⟩:=HRM.out.on HB2.out
  exact⟨{d with carriers:=n},⟨b,l,o,by rw[hr'];rw[e];rfl,q1,q2,q3⟩,⟨HO.out.len,HO.out.dig,HO.out.tick,HO.out.bid,HO.out.nonce,HO.out.price,HO.out.kind,HO.out.lot,HO.out.carrier,HNN.out,HO.out.commit,HO.out.reveal,HO.out.scheme,HO.out.rows⟩⟩
 have hone:(ae r').all (·.oneCell')=true:=by obtain⟨d',h,_⟩:=HM.out;exact h.one
 have hi0:(prog.info? 49).map (·.size)=some (ae r').size:=by rw[aj];kernel_rfl
 have cc:=HR0.out.carriers
 have ff:=HR0.out.free 43
 have HW2:=ac hw2
 clear hr ho hr' hw2 HRM
 go_enter func33,ntmps33
 go_upto_region 1 with fail
 rw[fS,<-hw0,<-hL]
 clear hw0 hL
 go_upto_region 33 with fail
 rw[<-hw1]
 clear hw1 cc ff
 go_wp2_with (first
  | (refine wpList_load_row rfl _ _ rfl L rfl _ (ae r') (0,0) _ HR1.out underlying49 rfl hi0 ?_)
  | (refine wpList_store_row rfl _ _ _ rfl (L + 1) (ae r') rfl rfl 49 _ HZ1.out hi0 rfl hone ?_;rw[<-HW2.out])
  | fail)
 obtain⟨d',hm,hok⟩:=HM.out
 exact bodyPost_ret (results_cell_row rfl _ _ (L + 1) 49 (ae r') (0,0) _ rfl HZ2.out underlying49 rfl hi0) rfl ⟨r',d',rfl,hm,hok,HB2.out⟩
theorem vC (O:Nat->Prop) (B:Nat) (rv:RecV) (d:RecD) (ho:d.ok) (x n:Int) (hx:x.tmod 16=12) (hn:-9223372036854775808<=n/\n<=9223372036854775807) (w:World) (hr:cS O B w rv d):
  Calls prog 33 #[.agg (ae rv),.int .u8 x,.int .i64 n] w (cK O B w):=by
 obtain⟨L,hL⟩:∃x,x=w.heap.size:=⟨_,rfl⟩
 obtain⟨w0,hw0⟩:∃z,z=(w.alloc (.cells (ae rv) 49)).alloc (.cells (ae {}) 49):=⟨_,rfl⟩
 have HB0:aa (Below w.heap.size w w0):=by rw[hw0];exact aD (af _ _) (af _ _)
 have HR0:aa (ah w0 L rv):=by rw[hw0,hL];exact (ah.box _ _).new (af _ _)
 have HZ0:aa (ah w0 (L + 1) {}):=by
  rw[hw0,hL,show w.heap.size + 1=(w.alloc (.cells (ae rv) 49)).heap.size by simp]
  exact ah.box _ _
 have HLW:=ac hL
 have HO:=ac ho
 have HNN:=ac hn
 have HRM:=ac hr
 obtain⟨r',hr'⟩:∃r,r=({rv with commit:=n}:RecV):=⟨_,rfl⟩
 obtain⟨w1,hw1⟩:∃z,z=w0.setCell ⟨L,44,none⟩ (.int .i64 n):=⟨_,rfl⟩
 have HR1:aa (ah w1 L r'):=by rw[hw1,hr'];exact HR0.out.setCommit n
 have HZ1:aa (ah w1 (L + 1) {}):=by rw[hw1];exact HZ0.out.other (by omega) _
 have HB1:aa (Below w.heap.size w w1):=by rw[hw1];exact HB0.out.setCell (p:=⟨L,44,none⟩) (by rw[hL];exact Nat.le_refl _) _
 obtain⟨w2,hw2⟩:∃z,z=w1.setRow (L + 1) (ae r'):=⟨_,rfl⟩
 have HZ2:aa (ah w2 (L + 1) r'):=by rw[hw2];exact HZ1.out.setRow r'
 have HB2:aa (Below w.heap.size w w2):=by rw[aa,hw2];exact below_setRow HB1.out (by omega) _
 have HM:aa (∃ d',cS O B w2 r' d'/\d'.ok):=by
  obtain⟨b,l,o,e,q1,q2,q3⟩:=HRM.out.on HB2.out
  exact⟨{d with commit:=n},⟨b,l,o,by rw[hr'];rw[e];rfl,q1,q2,q3⟩,⟨HO.out.len,HO.out.dig,HO.out.tick,HO.out.bid,HO.out.nonce,HO.out.price,HO.out.kind,HO.out.lot,HO.out.carrier,HO.out.carriers,HNN.out,HO.out.reveal,HO.out.scheme,HO.out.rows⟩⟩
 have hone:(ae r').all (·.oneCell')=true:=by obtain⟨d',h,_⟩:=HM.out;exact h.one
 have hi0:(prog.info? 49).map (·.size)=some (ae r').size:=by rw[aj];kernel_rfl
 have cc:=HR0.out.commit
 have ff:=HR0.out.free 44
 have HW2:=ac hw2
 clear hr ho hr' hw2 HRM
 go_enter func33,ntmps33
 go_upto_region 1 with fail
 rw[fS,<-hw0,<-hL]
 clear hw0 hL
 go_upto_region 33 with fail
 rw[<-hw1]
 clear hw1 cc ff
 go_wp2_with (first
  | (refine wpList_load_row rfl _ _ rfl L rfl _ (ae r') (0,0) _ HR1.out underlying49 rfl hi0 ?_)
  | (refine wpList_store_row rfl _ _ _ rfl (L + 1) (ae r') rfl rfl 49 _ HZ1.out hi0 rfl hone ?_;rw[<-HW2.out])
  | fail)
 obtain⟨d',hm,hok⟩:=HM.out
 exact bodyPost_ret (results_cell_row rfl _ _ (L + 1) 49 (ae r') (0,0) _ rfl HZ2.out underlying49 rfl hi0) rfl ⟨r',d',rfl,hm,hok,HB2.out⟩
theorem vD (O:Nat->Prop) (B:Nat) (rv:RecV) (d:RecD) (ho:d.ok) (x n:Int) (hx:x.tmod 16=15) (hn:-9223372036854775808<=n/\n<=9223372036854775807) (w:World) (hr:cS O B w rv d):
  Calls prog 33 #[.agg (ae rv),.int .u8 x,.int .i64 n] w (cK O B w):=by
 obtain⟨L,hL⟩:∃x,x=w.heap.size:=⟨_,rfl⟩
 obtain⟨w0,hw0⟩:∃z,z=(w.alloc (.cells (ae rv) 49)).alloc (.cells (ae {}) 49):=⟨_,rfl⟩
 have HB0:aa (Below w.heap.size w w0):=by rw[hw0];exact aD (af _ _) (af _ _)
 have HR0:aa (ah w0 L rv):=by rw[hw0,hL];exact (ah.box _ _).new (af _ _)
 have HZ0:aa (ah w0 (L + 1) {}):=by
  rw[hw0,hL,show w.heap.size + 1=(w.alloc (.cells (ae rv) 49)).heap.size by simp]
  exact ah.box _ _
 have HLW:=ac hL
 have HO:=ac ho
 have HNN:=ac hn
 have HRM:=ac hr
 obtain⟨r',hr'⟩:∃r,r=({rv with scheme:=n}:RecV):=⟨_,rfl⟩
 obtain⟨w1,hw1⟩:∃z,z=w0.setCell ⟨L,46,none⟩ (.int .i64 n):=⟨_,rfl⟩
 have HR1:aa (ah w1 L r'):=by rw[hw1,hr'];exact HR0.out.setScheme n
 have HZ1:aa (ah w1 (L + 1) {}):=by rw[hw1];exact HZ0.out.other (by omega) _
 have HB1:aa (Below w.heap.size w w1):=by rw[hw1];exact HB0.out.setCell (p:=⟨L,46,none⟩) (by rw[hL];exact Nat.le_refl _) _
 obtain⟨w2,hw2⟩:∃z,z=w1.setRow (L + 1) (ae r'):=⟨_,rfl⟩
 have HZ2:aa (ah w2 (L + 1) r'):=by rw[hw2];exact HZ1.out.setRow r'
 have HB2:aa (Below w.heap.size w w2):=by rw[aa,hw2];exact below_setRow HB1.out (by omega) _
 have HM:aa (∃ d',cS O B w2 r' d'/\d'.ok):=by
  obtain⟨b,l,o,e,q1,q2,q3⟩:=HRM.out.on HB2.out
  exact⟨{d with scheme:=n},⟨b,l,o,by rw[hr'];rw[e];rfl,q1,q2,q3⟩,⟨HO.out.len,HO.out.dig,HO.out.tick,HO.out.bid,HO.out.nonce,HO.out.price,HO.out.kind,HO.out.lot,HO.out.carrier,HO.out.carriers,HO.out.commit,HO.out.reveal,HNN.out,HO.out.rows⟩⟩
 have hone:(ae r').all (·.oneCell')=true:=by obtain⟨d',h,_⟩:=HM.out;exact h.one
 have hi0:(prog.info? 49).map (·.size)=some (ae r').size:=by rw[aj];kernel_rfl
 have cc:=HR0.out.scheme
 have ff:=HR0.out.free 46
 have HW2:=ac hw2
 clear hr ho hr' hw2 HRM
 go_enter func33,ntmps33
 go_upto_region 1 with fail
 rw[fS,<-hw0,<-hL]
 clear hw0 hL
 go_upto_region 33 with fail
 rw[<-hw1]
 clear hw1 cc ff
 go_wp2_with (first
  | (refine wpList_load_row rfl _ _ rfl L rfl _ (ae r') (0,0) _ HR1.out underlying49 rfl hi0 ?_)
  | (refine wpList_store_row rfl _ _ _ rfl (L + 1) (ae r') rfl rfl 49 _ HZ1.out hi0 rfl hone ?_;rw[<-HW2.out])
  | fail)
 obtain⟨d',hm,hok⟩:=HM.out
 exact bodyPost_ret (results_cell_row rfl _ _ (L + 1) 49 (ae r') (0,0) _ rfl HZ2.out underlying49 rfl hi0) rfl ⟨r',d',rfl,hm,hok,HB2.out⟩
