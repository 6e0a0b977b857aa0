/- A record that came in; consignref30.Turned, of whatever field. Printed by wip/gen/tls0.py. -/
import Derived.Test.YtfnekbfcndkjeaaGreatDoorZTrn2
import Derived.Test.YtfnekbfcndkjeaaGreatDoorZMop
set_option linter.all false
namespace Go.Proofs.YtfnekbfcndkjeaaGreatDoor
open Go.Proofs.Tryz Go.RowKit Go.Deep Go.ChangeShapes Go.WideShapes
theorem tu (O:Nat->Prop) (B:Nat) (rv:RecV) (d:RecD) (ho:d.ok) (x n:Int) (hx:0<=x/\x<=255) (hn:-9223372036854775808<=n/\n<=9223372036854775807) (w:World) (hr:cS O B w rv d) (hB:B<=w.heap.size) (hrows:d.barred.length + d.lots.length + d.owners.length<=1000):
  Calls prog 33 #[.agg (ae rv),.int .u8 x,.int .i64 n] w (cK O B w):=by
 have h16:x.tmod 16=x % 16:=Int.tmod_eq_emod_of_nonneg hx.1
 have hk:x % 16=0\/x % 16=1\/x % 16=2\/x % 16=3\/x % 16=4\/x % 16=5\/x % 16=6\/x % 16=7\/x % 16=8\/x % 16=9\/x % 16=10\/x % 16=11\/x % 16=12\/x % 16=13\/x % 16=14\/x % 16=15:=by omega
 rcases hk with h | h | h | h | h | h | h | h | h | h | h | h | h | h | h | h <;> rw[h] at h16
 ·exact yk O B rv d ho x n h16 hn w hr
 ·exact yl O B rv d ho x n h16 hn w hr
 ·exact ym O B rv d ho x n h16 hn w hr
 ·exact yn O B rv d ho x n h16 hn w hr
 ·exact yp O B rv d ho x n h16 hn w hr
 ·exact yv O B rv d ho x n h16 hn w hr hB hrows
 ·exact yq O B rv d ho x n h16 hn w hr
 ·exact yr O B rv d ho x n h16 hn w hr
 ·exact yt O B rv d ho x n h16 hn w hr
 ·exact yu O B rv d ho x n h16 hn w hr
 ·exact vA O B rv d ho x n h16 hn w hr
 ·exact vB O B rv d ho x n h16 hn w hr
 ·exact vC O B rv d ho x n h16 hn w hr
 ·exact vF O B rv d ho x n h16 hn w hr hB hrows
 ·exact vE O B rv d ho x n h16 hn w hr hB hrows
 ·exact vD O B rv d ho x n h16 hn w hr
section
variable {H : Type} {enc : TypeId × Value -> H} {W : World} {base : Nat} {spare : Nat -> Bool} {held : Bool}
end
