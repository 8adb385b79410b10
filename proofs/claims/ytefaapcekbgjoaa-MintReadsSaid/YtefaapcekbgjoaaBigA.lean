/- Contracts of the laws' round and head. -/
import Derived.Test.YtefaapcekbgjoaaRefK
import Derived.Test.YtefaapcekbgjoaaOrder
namespace Go.Proofs.Ytefaapcekbgjoaa
open Go.RowKit

theorem round_any (a n : Int) (w : World) (hn : 0 < n) (hn2 : n ≤ 9223372036854775807) :
    Calls Try.prog 20 #[.int .i64 a, .int .i64 n] w fun e w' => e = .returned (.int .i64 (a % n)) ∧ w' = w := by
  have h0 : (n == 0) = false := by simp; omega
  have e1 := Int.emod_nonneg a (show n ≠ 0 by omega)
  have e2 := Int.emod_lt_of_pos a hn
  have e3 : a.tmod n = a % n ∨ a.tmod n = a % n - n := by
    have e3 := Int.tmod_eq_emod (a := a) (b := n)
    by_cases hc : 0 ≤ a ∨ n ∣ a
    · rw [if_pos hc] at e3; exact .inl (by omega)
    · rw [if_neg hc] at e3; exact .inr (by omega)
  by_cases hneg : a.tmod n < 0
  · have hr : Hid (a.tmod n + n = a % n) := by
      show _ = _
      rcases e3 with h | h <;> omega
    have hb1 : -n ≤ a.tmod n := by have := hr.out; omega
    clear e3
    go_enter Try.func20, Try.ntmps20
    go_wp2_with fail
    go_ret
    exact ⟨by rw [← hr.out]; rfl, rfl⟩
  · have hr : Hid (a.tmod n = a % n) := by
      show _ = _
      rcases e3 with h | h <;> omega
    clear e3
    go_enter Try.func20, Try.ntmps20
    go_wp2_with fail
    go_ret
    exact ⟨by rw [← hr.out]; rfl, rfl⟩

theorem form300 : formL 300 = [249, 1, 44] := by decide
theorem head_any (w : World) : Calls Try.prog 28 #[] w fun e w' => e = .returned (.bool true) ∧ Below w.heap.size w w' := by
  have hnum : numL [] 0 300 = ([249, 1, 44], 0) := by decide
  have Hnum := Lib.hid hnum
  clear hnum
  go_enter Try.func28, Try.ntmps28
  go_wp2_with fail
  refine (new_any _).mono ?_
  rintro e w1 ⟨rfl, rfl⟩
  go_wp2_with fail
  refine (num_any w.heap.size w.heap.size none 0 [] 0 300 _ (new_wr w) (by omega) (by simp) (by simp)).mono ?_
  rintro e w2 ⟨rfl, hpost⟩
  rw [Hnum.out] at hpost
  obtain ⟨A, c, hW, hA, hO⟩ := hpost
  have HA := Lib.hid hA
  clear hA
  have hb : Below w.heap.size w w2 := ((Below.refl _ _).alloc (Nat.le_refl _) _).trans (hO.below (by simp) fun k hk => by rintro (h | h); omega; cases h)
  clear hO
  go_wp2_with fail
  refine (done_any _ _ A c _ 0 _ hW (by decide)).mono ?_
  rintro e w3 ⟨A3, c3, rfl, hown3, hb3⟩
  have hB3 := hb.trans (hb3.mono hb.size)
  have hd : doneL ([249, 1, 44] : List UInt8) 0 = [249, 1, 44] := rfl
  rw [hd] at hown3 ⊢
  clear hd
  go_wp2_with fail
  refine (same_any ⟨A3, c3, [249, 1, 44]⟩ ⟨some ⟨w3.heap.size, 0, none⟩, 3, [249, 1, 44]⟩ _ ((Sl.of_own hown3).below ((Below.refl _ _).alloc (Nat.le_refl _) _)) ⟨RV.of_blk (Blk.new w3 5 _), fun h => by cases h⟩ (by simp) (by simp)).mono ?_
  rintro e w4 ⟨rfl, q, rfl⟩
  go_wp2_with fail
  go_ret
  exact ⟨rfl, below_drewN (hB3.alloc (by have := hB3.size; exact this) _) q⟩
end Go.Proofs.Ytefaapcekbgjoaa
