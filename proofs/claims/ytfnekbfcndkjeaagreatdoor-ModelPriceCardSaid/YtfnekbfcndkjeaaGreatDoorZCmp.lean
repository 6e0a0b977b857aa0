/- vick.Rank's comparison: by the bid, then by the carrier. -/
import Derived.Test.YtfnekbfcndkjeaaGreatDoorZRefPlain
import Derived.Shelf.SlSortCmp.Insertion1
set_option maxHeartbeats 1000000
set_option maxRecDepth 100000
set_option linter.all false
namespace Go.Proofs.YtfnekbfcndkjeaaGreatDoor
open Go.Proofs.Tryz Go.RowKit Go.Sort
def sy (x y:Int × Int):Int:=yS (jb x.2 y.2) (jb x.1 y.1)
theorem zm (i k:Nat) (B lb lo n cap:Nat) (c1 b1 c2 b2:Int) (w:World) (hi:i<n) (hk:k<n)
  (hB:w.cell? ⟨B,0,none⟩=some (.slice (some ⟨lb,lo,none⟩) n cap))
  (h1:w.cell? ⟨lb,lo + i * 2,none⟩=some (.int .i64 c1)) (h2:w.cell? ⟨lb,lo + i * 2 + 1,none⟩=some (.int .u64 b1))
  (h3:w.cell? ⟨lb,lo + k * 2,none⟩=some (.int .i64 c2)) (h4:w.cell? ⟨lb,lo + k * 2 + 1,none⟩=some (.int .u64 b2)):
  Calls prog 79 #[.int .i64 i,.int .i64 k,.pointer (some ⟨B,0,none⟩)] w fun e w'=>
   e=.returned (.int .i64 (sy (c1,b1) (c2,b2)))/\∃q os',w'=grow (w.drewN q) os':=by
 have hiz:(i:Int)<(n:Int):=by omega
 have hkz:(k:Int)<(n:Int):=by omega
 go_enter func79,ntmps79
 go_wp2_with fail
 go_still_tail 22,(by kernel_rfl)
 still_call ((ww _ _ _).mono fun e w' ⟨he,hw⟩=>⟨he,hw.symm⟩)
 repeat still_step
 still_call ((wy _ _ _).mono fun e w' ⟨he,hw⟩=>⟨he,hw.symm⟩)
 refine wpStill_nil ?_
 change wpList _ _ _ _ _ w.drew
 clear hB h1 h2 h3 h4
 go_wp2_with fail
 refine (By (jb b1 b2) (jb c1 c2) w.heap.size _ ?_ ?_).mono ?_
 ·simp
 ·simp
 rintro e w' ⟨rfl,rfl⟩
 go_wp2
 go_ret
 refine⟨rfl,1,#[.cells #[.int .i64 (jb b1 b2),.int .i64 (jb c1 c2)] 3],?_⟩
 rw[alloc_eq_grow,drew_grow]
 rfl
