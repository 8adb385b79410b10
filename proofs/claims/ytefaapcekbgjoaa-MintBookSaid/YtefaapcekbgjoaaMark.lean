/- The contract of the law's mark. -/
import Derived.Test.YtefaapcekbgjoaaCmp
namespace Go.Proofs.Ytefaapcekbgjoaa
open Go.RowKit

def markN (i j : Nat) : Nat := if j % 3 = 0 then i % 256 else if j % 3 = 1 then i / 256 % 256 else j % 256
theorem mark_any (i j : Nat) (w : World) (hi : i ≤ 4611686018427387904) (hj : j ≤ 4611686018427387904) :
    Calls Try.prog 76 #[.int .i64 (i : Int), .int .i64 (j : Int)] w fun e w' => e = .returned (.int .u8 (markN i j : Int)) ∧ w' = w := by
  have e1 : (j : Int).tmod 3 = ((j % 3 : Nat) : Int) := by rw [Int.tmod_eq_emod_of_nonneg (by omega)]; exact (Int.natCast_emod _ _).symm
  obtain ⟨r, hr⟩ : ∃ r, j % 3 = r := ⟨_, rfl⟩
  obtain ⟨m, hm⟩ : ∃ m, markN i j = m := ⟨_, rfl⟩
  rw [hm]
  have hr3 : r < 3 := by omega
  rw [hr] at e1
  unfold markN at hm
  rw [hr] at hm
  rcases (show r = 0 ∨ r = 1 ∨ r = 2 by omega) with rfl | rfl | rfl
  · have hv : (((i : Int) % 256 : Int)) = (m : Int) := by
      rw [if_pos rfl] at hm
      omega
    have Hv := Lib.hid hv
    clear hm hr hv
    go_enter Try.func76, Try.ntmps76
    go_wp2_with fail
    go_ret
    exact ⟨by rw [← Hv.out]; rfl, rfl⟩
  · have hv : (((i : Int) / 256 % 256 : Int)) = (m : Int) := by
      rw [if_neg (by omega), if_pos rfl] at hm
      omega
    have Hv := Lib.hid hv
    clear hm hr hv
    go_enter Try.func76, Try.ntmps76
    go_wp2_with fail
    go_ret
    exact ⟨by rw [← Hv.out]; rfl, rfl⟩
  · have hv : (((j : Int) % 256 : Int)) = (m : Int) := by
      rw [if_neg (by omega), if_neg (by omega)] at hm
      omega
    have Hv := Lib.hid hv
    clear hm hr hv
    go_enter Try.func76, Try.ntmps76
    go_wp2_with fail
    go_ret
    exact ⟨by rw [← Hv.out]; rfl, rfl⟩
end Go.Proofs.Ytefaapcekbgjoaa
