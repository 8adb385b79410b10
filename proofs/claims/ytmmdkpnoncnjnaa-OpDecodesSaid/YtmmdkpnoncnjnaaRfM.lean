/- The reference's Operand and May. -/
import Derived.Test.YtmmdkpnoncnjnaaOpEncL
namespace Go.Proofs.Ytmmdkpnoncnjnaa
open Go.RowKit

theorem nats46 (n : Nat) (h : n < 46) : n = 0 ∨ n = 1 ∨ n = 2 ∨ n = 3 ∨ n = 4 ∨ n = 5 ∨ n = 6 ∨ n = 7 ∨ n = 8 ∨ n = 9 ∨ n = 10 ∨ n = 11 ∨ n = 12 ∨ n = 13 ∨ n = 14 ∨ n = 15 ∨ n = 16 ∨ n = 17 ∨ n = 18 ∨ n = 19 ∨ n = 20 ∨ n = 21 ∨ n = 22 ∨ n = 23 ∨ n = 24 ∨ n = 25 ∨ n = 26 ∨ n = 27 ∨ n = 28 ∨ n = 29 ∨ n = 30 ∨ n = 31 ∨ n = 32 ∨ n = 33 ∨ n = 34 ∨ n = 35 ∨ n = 36 ∨ n = 37 ∨ n = 38 ∨ n = 39 ∨ n = 40 ∨ n = 41 ∨ n = 42 ∨ n = 43 ∨ n = 44 ∨ n = 45 := by omega
/-- An instruction's kind of operand, as the reference tells it. -/
def operN (n : Int) : Int := if n = 3 then 1 else if n = 5 then 6 else if n = 7 ∨ n = 8 then 2 else if n = 14 ∨ n = 15 ∨ n = 16 then 3 else if n = 17 then 4 else if n = 19 then 5 else 0
set_option maxRecDepth 100000 in
theorem refOperand_any (n : Int) (w : World) : Calls Try.prog 51 #[.int .i64 n] w fun e w' => e = .returned (.int .i64 (operN n)) ∧ w' = w := by
  have key : n = 3 ∨ n = 5 ∨ n = 7 ∨ n = 8 ∨ n = 14 ∨ n = 15 ∨ n = 16 ∨ n = 17 ∨ n = 19 ∨ (¬ n = 3 ∧ ¬ n = 5 ∧ ¬ n = 7 ∧ ¬ n = 8 ∧ ¬ n = 14 ∧ ¬ n = 15 ∧ ¬ n = 16 ∧ ¬ n = 17 ∧ ¬ n = 19) := by omega
  rcases key with rfl | rfl | rfl | rfl | rfl | rfl | rfl | rfl | rfl | ⟨h1, h2, h3, h4, h5, h6, h7, h8, h9⟩
  rotate_left 9
  · have e : operN n = 0 := by unfold operN; simp [h1, h2, h3, h4, h5, h6, h7, h8, h9]
    rw [e]
    clear e
    go_enter Try.func51, Try.ntmps51
    go_wp2_with fail
    go_ret
    exact ⟨rfl, rfl⟩
  all_goals
    go_enter Try.func51, Try.ntmps51
    go_wp2_with fail
    go_ret
    exact ⟨rfl, rfl⟩
theorem kinds_oper : ((List.range 46).all fun n => (rowAt shapeTab (n : Int)).1.2.1 == operN (n : Int)) = true := by decide +kernel
theorem oper_kind (n : Nat) (hn : n < 46) : operN (n : Int) = (rowAt shapeTab (n : Int)).1.2.1 := by
  have h := List.all_eq_true.1 kinds_oper n (List.mem_range.2 hn)
  have h' : (rowAt shapeTab (n : Int)).1.2.1 = operN (n : Int) := by simpa using h
  exact h'.symm
set_option maxRecDepth 100000 in
theorem refMay_any (kd : Nat) (a : Int) (w : World) (hk : kd ≤ 6) : Calls Try.prog 41 #[.int .i64 (kd : Int), .int .i64 a] w fun e w' => e = .returned (.bool (mayB kd a)) ∧ w' = w := by
  have key : kd = 1 ∨ kd = 2 ∨ kd = 3 ∨ kd = 4 ∨ kd = 5 ∨ kd = 6 ∨ kd = 0 := by omega
  have e0 : (a == 0) = decide (a = 0) := by by_cases h : a = 0 <;> simp [h]
  have He0 := Lib.hid e0
  clear e0
  by_cases h0 : 0 ≤ a
  case pos =>
    rcases key with rfl | rfl | rfl | rfl | rfl | rfl | rfl
    all_goals
      go_enter Try.func41, Try.ntmps41
      go_wp2_with fail
      go_ret
      exact ⟨by simp [mayB, mostL, h0, He0.out], rfl⟩
  case neg =>
    have h1 : decide (0 ≤ a) = false := by simpa using h0
    rcases key with rfl | rfl | rfl | rfl | rfl | rfl | rfl
    all_goals
      go_enter Try.func41, Try.ntmps41
      go_wp2_with fail
      go_ret
      exact ⟨by simp [mayB, mostL, h1, He0.out], rfl⟩
end Go.Proofs.Ytmmdkpnoncnjnaa
