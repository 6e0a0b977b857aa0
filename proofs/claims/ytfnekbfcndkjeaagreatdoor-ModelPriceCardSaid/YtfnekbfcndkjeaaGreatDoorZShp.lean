/- What the memory's shape gives: sha's tables hold words. -/
import Derived.Test.YtfnekbfcndkjeaaGreatDoorZMdk1
import Derived.Test.YtfnekbfcndkjeaaGreatDoorZErt
import Derived.Deep.DeepHandedRow
set_option maxRecDepth 100000
set_option linter.all false
namespace Go.Proofs.YtfnekbfcndkjeaaGreatDoor
open Go.Proofs.Tryz Go.RowKit Go.ChangeShapes Go.WideShapes
theorem Tryz.begFirst:((begin prog (fun _ _=>0) default).world.heap[1]?).bind Obj.row? =some (Array.replicate 8 (.int .u32 0),227):=by kernel_rfl
theorem Tryz.begRounds:((begin prog (fun _ _=>0) default).world.heap[2]?).bind Obj.row? =some (Array.replicate 64 (.int .u32 0),235):=by kernel_rfl
theorem Tryz.bldFirst:prog.buildable 227=true:=by kernel_rfl
theorem Tryz.bldRounds:prog.buildable 235=true:=by kernel_rfl
theorem Tryz.ctFirst:prog.cellTypes prog.depth 227=some (List.replicate 8 172):=by kernel_rfl
theorem Tryz.ctRounds:prog.cellTypes prog.depth 235=some (List.replicate 64 172):=by kernel_rfl
theorem vN {W:World} {v:Value} (h:Cell.ok prog W .any 0 172 v):∃z:Int,v=.int .u32 z/\0<=z/\z<=4294967295:=by
 unfold Cell.ok at h
 rw[underlying172] at h
 cases v with
 | int k z=>
  obtain⟨e,h1,h2⟩:=h
  subst e
  exact⟨z,rfl,by simpa [IntKind.min,IntKind.signed] using h1,by simpa [IntKind.max,IntKind.signed,IntKind.bits] using h2⟩
 | _=>simp at h
theorem le {W:World} {g N:Nat} {t:TypeId} {zero:Array Value} (h:W.ShapedOpen prog) (hg:g<prog.globals.size) (hb:((begin prog (fun _ _=>0) default).world.heap[g]?).bind Obj.row? =some (zero,t)) (hz:zero.size=N)
  (hbl:prog.buildable t=true) (hct:prog.cellTypes prog.depth t=some (List.replicate N 172)) (hN:0<N):
  ∃cs,W.heap[g]?=some (.cells cs t (0,0))/\cs.size=N/\∃f:Nat->Int,∀j,j<N->cs[j]?=some (.int .u32 (f j))/\0<=f j/\f j<=4294967295:=by
 obtain⟨cs,hh,hs,hr⟩:=h.1 g zero t hg hb
 obtain⟨ts,e1,_,hc⟩:=hr hbl
 obtain rfl:=Option.some.inj (hct.symm.trans e1)
 refine⟨cs,hh,hs.trans hz,?_⟩
 have each:∀j,j<N->∃z:Int,cs[j]?=some (.int .u32 z)/\0<=z/\z<=4294967295:=by
  intro j hj
  have hjs:j<cs.size:=by omega
  obtain⟨u,hu,hok⟩:=hc j cs[j] (Array.getElem?_eq_getElem hjs)
  rw[List.length_replicate,List.getElem?_replicate] at hu
  split at hu
  ·obtain rfl:=Option.some.inj hu
   obtain⟨z,hz,hb⟩:=vN hok
   exact⟨z,by rw[Array.getElem?_eq_getElem hjs,hz],hb⟩
  ·cases hu
 obtain⟨f,hf⟩:=Deep.choose_lt each
 exact⟨f,hf⟩
theorem nS {W:World} (h:W.ShapedOpen prog):∃(F:S8) (kf:Nat->Int) (kk:Array Value),cV F kf kk W:=by
 obtain⟨c0,h0,_,a,ha⟩:=le (N:=8) h (of_decide_eq_true (by kernel_rfl)) Tryz.begFirst rfl Tryz.bldFirst Tryz.ctFirst (by decide)
 obtain⟨c1,h1,s1,f,hf⟩:=le (N:=64) h (of_decide_eq_true (by kernel_rfl)) Tryz.begRounds rfl Tryz.bldRounds Tryz.ctRounds (by decide)
 refine⟨⟨a 0,a 1,a 2,a 3,a 4,a 5,a 6,a 7⟩,f,c1,⟨fun j hj=>?_,⟨_,_,h1⟩,s1,fun j hj=>(hf j hj).1,?_⟩⟩
 ·rw[aq h0]
  match j,hj with
  | 0,_=>exact (ha 0 (by omega)).1
  | 1,_=>exact (ha 1 (by omega)).1
  | 2,_=>exact (ha 2 (by omega)).1
  | 3,_=>exact (ha 3 (by omega)).1
  | 4,_=>exact (ha 4 (by omega)).1
  | 5,_=>exact (ha 5 (by omega)).1
  | 6,_=>exact (ha 6 (by omega)).1
  | 7,_=>exact (ha 7 (by omega)).1
 ·exact⟨(ha 0 (by omega)).2,(ha 1 (by omega)).2,(ha 2 (by omega)).2,(ha 3 (by omega)).2,(ha 4 (by omega)).2,(ha 5 (by omega)).2,(ha 6 (by omega)).2,(ha 7 (by omega)).2⟩
