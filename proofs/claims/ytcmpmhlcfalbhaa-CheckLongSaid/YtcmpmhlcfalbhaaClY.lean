/- The law CheckLong, walked (printed by gen_clw.py). -/
import Derived.Test.YtcmpmhlcfalbhaaClW
import Derived.Test.YtcmpmhlcfalbhaaClX
namespace Go.Proofs.Ytcmpmhlcfalbhaa
open Go.RowKit

theorem checkLong_walk (a b c : Int) (lp : Bool) (w : World) : Calls Try.prog 3 #[.int .i64 a, .int .i64 b, .int .i64 c, .bool lp] w fun e w' => e = .returned (.bool true) ∧ Below w.heap.size w w' := by
  cases lp with
  | false => exact checkLong_false a b c w
  | true => exact checkLong_true a b c w
end Go.Proofs.Ytcmpmhlcfalbhaa
