/- octet's small functions, walked: wide, Get. -/
import Derived.Test.YtfnekbfcndkjeaaGreatDoorSSha6
import Derived.Test.YtfnekbfcndkjeaaGreatDoorSOwnB
import Derived.Test.YtfnekbfcndkjeaaGreatDoorSAside
import Derived.Test.YtfnekbfcndkjeaaGreatDoorSShaPlain
import Derived.Laws.Bits64b
set_option linter.all false
namespace Go.Proofs.YtfnekbfcndkjeaaGreatDoor
open Go.RowKit
def wideB (n : Int) : Bool := decide (1 ≤ n) && decide (n ≤ 8)
set_option maxHeartbeats 1000000 in
theorem wide_any (n : Int) (w : World) : Calls Tryz.prog 123 #[.int .i64 n] w fun e w' => e = .returned (.bool (wideB n)) ∧ w' = w := by
  go_enter Tryz.func123, Tryz.ntmps123
  unfold wideB
  by_cases h1 : 1 ≤ n
  · by_cases h2 : n ≤ 8
    · have e1 : decide (1 ≤ n) = true := by simpa using h1
      have e2 : decide (n ≤ 8) = true := by simpa using h2
      go_wp2
      go_ret
      exact ⟨by simp [e1, e2], rfl⟩
    · have e1 : decide (1 ≤ n) = true := by simpa using h1
      have e2 : decide (n ≤ 8) = false := by simpa using h2
      go_wp2
      go_ret
      exact ⟨rfl, rfl⟩
  · have e1 : decide (1 ≤ n) = false := by simpa using h1
    go_wp2
    go_ret
    exact ⟨rfl, rfl⟩
def getOk (t : ByteArray) (a n : Int) : Bool := wideB n && decide (0 ≤ a) && decide (a ≤ t.size) && decide (n ≤ t.size - a)
def getTo (t : ByteArray) (a : Nat) : Nat → Int
  | 0 => 0
  | k + 1 => getTo t a k * 256 + byteOf t (a + k)
def getV (t : ByteArray) (a n : Int) : Int := if getOk t a n then getTo t a.toNat n.toNat else 0
end Go.Proofs.YtfnekbfcndkjeaaGreatDoor
