/- The law MintBig, its walk for any byte of the call. -/
import Derived.SizedLaws
import Derived.Test.YtefaapcekbgjoaaBig
namespace Go.Proofs.Ytefaapcekbgjoaa
open Go.RowKit
theorem big_walk_int (cut more c : Int) (w : World) (h1 : 0 ≤ c) (h2 : c ≤ 255) :
    Calls Try.prog 5 #[.int .i64 cut, .int .i64 more, .int .u8 c] w fun e w' => e = .returned (.bool true) ∧ Below w.heap.size w w' := by
  have e : c = ((UInt8.ofNat c.toNat).toNat : Int) := by rw [toNat_ofNat8]; omega
  rw [e]
  exact big_walk cut more _ w
end Go.Proofs.Ytefaapcekbgjoaa
