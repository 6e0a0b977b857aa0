/- consignref24.Same, walked. Printed by wip/gen/same.py. -/
import Derived.Test.YtfnekbfcndkjeaaGreatDoorSSame1
set_option linter.all false
namespace Go.Proofs.YtfnekbfcndkjeaaGreatDoor
open Go.RowKit
end Go.Proofs.YtfnekbfcndkjeaaGreatDoor
