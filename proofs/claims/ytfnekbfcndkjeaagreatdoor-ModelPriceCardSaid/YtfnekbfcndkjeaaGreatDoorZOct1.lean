/- octet's small functions, walked: wide, Get. -/
import Derived.Test.YtfnekbfcndkjeaaGreatDoorZSha6
set_option maxHeartbeats 1000000
set_option linter.all false
namespace Go.Proofs.YtfnekbfcndkjeaaGreatDoor
open Go.Proofs.Tryz Go.RowKit
def ja (n:Int):Bool:=decide (1<=n) &&decide (n<=8)
theorem wt (n:Int) (w:World):Calls prog 123 #[.int .i64 n] w fun e w'=>e=.returned (.bool (ja n))/\w'=w:=by
 go_enter func123,ntmps123
 unfold ja
 by_cases h1:1<=n
 ·by_cases h2:n<=8
  ·have e1:decide (1<=n)=true:=by simpa using h1
   have e2:decide (n<=8)=true:=by simpa using h2
   go_wp2
   go_ret
   exact⟨by simp[e1,e2],rfl⟩
  ·have e1:decide (1<=n)=true:=by simpa using h1
   have e2:decide (n<=8)=false:=by simpa using h2
   go_wp2
   go_ret
   exact⟨rfl,rfl⟩
 ·have e1:decide (1<=n)=false:=by simpa using h1
  go_wp2
  go_ret
  exact⟨rfl,rfl⟩
def AV (t:ByteArray) (a n:Int):Bool:=ja n &&decide (0<=a) &&decide (a<=t.size) &&decide (n<=t.size - a)
def z5 (t:ByteArray) (a:Nat):Nat->Int
 | 0=>0
 | k + 1=>z5 t a k * 256 + bf t (a + k)
def Bn (t:ByteArray) (a n:Int):Int:=if AV t a n then z5 t a.toNat n.toNat else 0
