/- consignlaw31.ModelPrice answers true: whatever comes, what a round came to is the second-price outcome of the bids that were opened in it, each of a carrier that had committed itself to just that; or that, refused. Of any draft, any turn, turned or not, in any memory in which errors' own variable holds what the program's text lays in it, whatever sha's tables hold. The card: the row with the one variable tied to the program's text. -/
import Derived.Test.YtfnekbfcndkjeaaGreatDoorZMpr
import Derived.Test.YtfnekbfcndkjeaaGreatDoorZShp
import Derived.Test.YtfnekbfcndkjeaaGreatDoorTie
import Derived.Test.YtfnekbfcndkjeaaGreatDoorCards
set_option maxRecDepth 100000
set_option linter.all false
namespace Go.Proofs.YtfnekbfcndkjeaaGreatDoor.modelPrice
open Go.Proofs.Tryz Go.ChangeShapes Go.WideShapes Go.ChangeAt Go.WideMaps Go.WideElems Go.ChangeMaps Go.RowKit Go.Proofs.YtfnekbfcndkjeaaGreatDoor
theorem own:ownKnob prog.godebug=none:=by kernel_rfl
theorem lh:laidOutB prog=true:=by kernel_rfl
theorem tA (os:Os) (started:os.Started) (H:Type) (enc:TypeId × Value->H):
  ReturnsInHanded {} Tryz.checked os 4 .any (fun w args=>(Rows.modelPriceSpec.pre enc prog Tryz.f4 [] false w args/\laidMetH prog gY w)/\sizedMet enc prog Tryz.f4 (OpenSpec.ofChange Rows.modelPriceSpec) false w args)
   (Rows.modelPriceSpec.post enc prog Tryz.f4 false true false false):=by
 refine returnsInHanded_of_row (C:=Tryz.checked) (s:=OpenSpec.ofChange Rows.modelPriceSpec) (F:=fun _ _ _=>0) (conds:=[]) (apart:=false) (laid:=gY) own started (by kernel_rfl) func4
  (ChangeSpec.witness_shaped (enc:=enc) (C:=Tryz.checked) (os:=os) (X:=fun w _=>laidMetH prog gY w) false (World.doorLaid prog 400 os) #[.agg #[.int .u8 0,.int .u8 0,.int .u8 0,.int .u8 0,.int .u8 0,.slice none 0 0],.agg #[.int .u8 0,.int .u8 0,.int .i16 0],.bool false] 8 rfl (World.shaped_of_RefB (by kernel_rfl) (by kernel_rfl)) (by kernel_rfl) (by kernel_rfl) (by kernel_rfl) (rH os _)) ?_
 intro W base args ds gs before hval0 hW _ _ hsz0 hL hshape _
 have hval:∀(j:Nat) t v,Tryz.f4.params[j]?=some t->args[j]?=some v->Value.okWide prog W .any base t v:=hval0
 have hsz:(DataW.weightsEach prog (Tryz.f4.params.toList++(OpenSpec.ofChange Rows.modelPriceSpec).bare.plain.varTypes prog) (ds++gs)).all (·<=reachBytes)=true:=hsz0
 have hW':DataW.Whole enc prog Tryz.f4.params.toList Rows.modelPriceSpec.vars false W args.toList ds gs before:=hW
 obtain⟨p,q,hA0,hV,rfl,hfz,hnd⟩:=hW
 have hA:DataW.TrodAll enc prog W 0 (fun _=>true) true Tryz.f4.params.toList args.toList ds p:=hA0
 rw[Tryz.params4] at hA hval hsz
 obtain⟨rfl,rfl⟩:=trodVars_none hV
 have hT:=mc hL
 obtain⟨F,kf,kk,hsh⟩:=nS hshape
 obtain⟨v0,vs0,d0,ds0,p0,q0,hargs,rfl,rfl,h0,r0⟩:=trodAll_cons hA
 obtain⟨v1,vs1,d1,ds1,p1,q1,rfl,rfl,rfl,h1,r1⟩:=trodAll_cons r0
 obtain⟨v2,vs2,d2,ds2,p2,q2,rfl,rfl,rfl,h2,r2⟩:=trodAll_cons r1
 obtain⟨rfl,rfl,rfl⟩:=trodAll_nil r2
 obtain rfl:args=#[v0,v1,v2]:=by cases args;simp_all
 obtain⟨cs0,rfl,_⟩:=fh underlying24 (hval 0 _ v0 rfl rfl)
 obtain⟨cs1,rfl,_⟩:=fh underlying27 (hval 1 _ v1 rfl rfl)
 have k0:=h0
 have k1:=h1
 have k2:=h2
 have lt0:∀x∈p0,x.block<W.heap.size:=by obtain⟨m,hm⟩:=k0;exact DataW.trod_lt m _ _ _ hm
 have lt1:∀x∈p1,x.block<W.heap.size:=by obtain⟨m,hm⟩:=k1;exact DataW.trod_lt m _ _ _ hm
 have lt2:∀x∈p2,x.block<W.heap.size:=by obtain⟨m,hm⟩:=k2;exact DataW.trod_lt m _ _ _ hm
 have hz0:∀n∈d0.weights prog 24,n<=reachBytes:=fun n hn=>by
  have:=List.all_eq_true.1 hsz n (DataW.weights_mem_each (j:=0) (t:=24) rfl rfl n hn)
  simpa using this
 obtain⟨fuel0,hf0⟩:=h0
 obtain⟨fuel1,hf1⟩:=h1
 obtain⟨dr,bv,hcd,hD0,hdr⟩:=kW hf0 hz0
 obtain rfl:cs0=dr.cells bv:=Array.toList_inj.1 hcd
 obtain⟨x0,x1,x2,hct,hx0,hx1,hx2⟩:=ma hf1
 obtain rfl:cs1=#[.int .u8 x0,.int .u8 x1,.int .i16 x2]:=Array.toList_inj.1 hct
 obtain⟨b2,rfl,rfl,rfl⟩:=open_bool underlying4 (hval 2 _ v2 rfl rfl) h2
 clear hA0 hval0
 refine (CC W dr hdr bv hD0 x0 x1 x2 hx0 hx1 hx2 b2 hT F kf kk hsh).mono fun e W' ⟨he,bel⟩=>?_
 subst he
 exact⟨_,rfl,_,_,_,[],_,[],hW',trodAll_mk1 (shut_bool underlying4 _),(trodAll_cons_mk (Below.trod lh (by kernel_rfl) (of_decide_eq_true (by kernel_rfl)) k0 bel lt0) (trodAll_cons_mk (Below.trod lh (by kernel_rfl) (of_decide_eq_true (by kernel_rfl)) k1 bel lt1) (trodAll_cons_mk (shut_bool underlying4 _) trodAll_mk0))),rfl,bel.frame _,fun h=>by cases h⟩
theorem over:Rows.modelPriceRow.holds Tryz.pinned (OpenSpec.ofChange Rows.modelPriceSpec):=
 OpenClaim.holds_of_wide 4 Tryz.f4 rfl rfl rfl rfl rfl rfl rfl ⟨rfl,rfl,rfl,rfl,rfl⟩ rfl rfl rfl rfl rfl (by kernel_rfl) func4 (by kernel_rfl)
  (of_decide_eq_true (by kernel_rfl)) (by unfold Func.isWrapper;first | (rw [if_pos (by decide +kernel)];kernel_rfl) | (rw [if_neg (by decide +kernel)];exact⟨rfl,rfl⟩))
  (fun os started H enc _=>tA os started H enc)
theorem proved:Rows.ModelPriceCardSaid:=
 Claim7.holds_tied_plain_at .later [] [.handle] true (true, "0d854bc990c0d20877250d7239623f56cd80a7e84696e5d0bc947f12e7ce1415") true
  over (fun _ h=>by cases h) (by kernel_rfl) (fun _ h=>by cases h) modelPrice_row_tie rfl ⟨rfl,rfl⟩ (by kernel_rfl) rfl
  (fun f fn hf hfn=>by
   obtain rfl : f = 4 := Option.some.inj ((show prog.funcNamed "consign/consignlaw31.ModelPrice" = some 4 by kernel_rfl).symm.trans hf) |>.symm
   obtain rfl:fn=Tryz.f4:=(Option.some.inj (func4.symm.trans hfn)).symm
   exact⟨by kernel_rfl,fun j t ht=>by
    rw[Tryz.params4] at ht
    have hm:t∈[24,27,4]:=by simpa using Array.mem_of_getElem? ht
    have hall:([24,27,4].all fun u=>!prog.wantsStandIn u)=true:=by kernel_rfl
    exact (show prog.wantsStandIn t=false by simpa using List.all_eq_true.1 hall t hm)⟩)
  (by kernel_rfl)
#print axioms proved
end Go.Proofs.YtfnekbfcndkjeaaGreatDoor.modelPrice
