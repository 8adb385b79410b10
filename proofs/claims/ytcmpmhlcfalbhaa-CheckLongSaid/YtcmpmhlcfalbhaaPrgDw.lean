/- The walks of prog's code and of the function that its Decode hands to Read. -/
import Derived.Test.YtcmpmhlcfalbhaaPrgD
import Derived.Test.YtcmpmhlcfalbhaaRegK
import Derived.Test.YtcmpmhlcfalbhaaInB
import Derived.Test.YtcmpmhlcfalbhaaInsJ
namespace Go.Proofs.Ytcmpmhlcfalbhaa
open Go.RowKit

theorem fun_info : (Try.prog.info? 43).map (fun i => (i.zero, i.size, i.bytes)) = some (some (.agg #[.int .i64 0, .int .i64 0, .int .i64 0, .slice none 0 0]), 4, 48) := by kernel_rfl
theorem eFun : Elem Try.prog 24 43 4 48 := elem_of Try.underlying24 fun_info rfl (by decide)
structure At2 (w0 w : World) (g pc c : Nat) (A : Option Addr) (bs : List UInt8) (a : Nat) (p : PrgM) : Prop where
  rd : Rd w g A c bs a false 0
  blk : Blk w pc 26 #[.int .i64 p.mem, .slice p.AD p.data.length p.cD, .slice p.AF p.fs.length p.cF]
  own : PrgOwn w w0.heap.size p
  only : Only (fun b => b = g ∨ b = pc) w0 w
end Go.Proofs.Ytcmpmhlcfalbhaa
