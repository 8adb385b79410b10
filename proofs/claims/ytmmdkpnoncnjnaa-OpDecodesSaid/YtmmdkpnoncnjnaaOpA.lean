/- Contracts of the small functions of package op: two, one, shapes, calls. -/
import Derived.Test.YtmmdkpnoncnjnaaChecked
import Derived.Test.YtmmdkpnoncnjnaaBaseB
import Derived.WalkKit
import Derived.Lib.Hide
namespace Go.Proofs.Ytmmdkpnoncnjnaa
open Go.RowKit

theorem two_any (s : ByteArray) (w : World) :
    Calls Try.prog 52 #[.string s] w fun e w' => e = .returned (.agg #[.string s, .int .i64 0, .int .i64 2, .int .i64 1]) ∧ Below w.heap.size w w' := by
  go_enter Try.func52, Try.ntmps52
  go_wp2
  exact bodyPost_ret (v := .agg #[.string s, .int .i64 0, .int .i64 2, .int .i64 1]) (by simp [results, Try.results52, go_sem]) rfl
    ⟨rfl, by first | exact ((Below.refl _ _).alloc (Nat.le_refl _) _).setCell (by simp) _ | exact (Below.refl _ _).alloc (Nat.le_refl _) _⟩

theorem one_any (s : ByteArray) (w : World) :
    Calls Try.prog 53 #[.string s] w fun e w' => e = .returned (.agg #[.string s, .int .i64 0, .int .i64 1, .int .i64 1]) ∧ Below w.heap.size w w' := by
  go_enter Try.func53, Try.ntmps53
  go_wp2
  exact bodyPost_ret (v := .agg #[.string s, .int .i64 0, .int .i64 1, .int .i64 1]) (by simp [results, Try.results53, go_sem]) rfl
    ⟨rfl, by first | exact ((Below.refl _ _).alloc (Nat.le_refl _) _).setCell (by simp) _ | exact (Below.refl _ _).alloc (Nat.le_refl _) _⟩
end Go.Proofs.Ytmmdkpnoncnjnaa
