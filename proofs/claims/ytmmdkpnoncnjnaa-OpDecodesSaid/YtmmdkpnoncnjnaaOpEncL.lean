/- What Encode is to tell, in plain Lean; the operands' own questions. -/
import Derived.Test.YtmmdkpnoncnjnaaOpOps
import Derived.Test.YtmmdkpnoncnjnaaRefB
namespace Go.Proofs.Ytmmdkpnoncnjnaa
open Go.RowKit

/-- An instruction. -/
structure Ins where
  op : Int
  a : Int
def insCells (i : Ins) : List Value := [.int .i64 i.op, .int .i64 i.a]
/-- May it be the operand of that kind? -/
def mayB (kd : Nat) (a : Int) : Bool := if kd = 0 then decide (a = 0) else if kd = 1 then true else decide (0 ≤ a) && decide (a < mostL kd)
/-- The kind of an instruction's operand. -/
def kindN (op : Int) : Nat := (rowAt shapeTab op).1.2.1.toNat
def isOp (op : Int) : Bool := (rowAt shapeTab op).2
def argL (kd : Nat) (a : Int) : List UInt8 := if kd = 0 then [] else if kd = 1 then formL (foldN a) else formL a.toNat
def insL (i : Ins) : List UInt8 := formL i.op.toNat ++ argL (kindN i.op) i.a
def encFrom : List UInt8 → List Ins → List UInt8 × Int
  | out, [] => (out, 0)
  | out, i :: l => if isOp i.op = false then ([], 111) else if mayB (kindN i.op) i.a = false then ([], 112) else encFrom (out ++ insL i) l
def encL (l : List Ins) : List UInt8 × Int := if 4096 < l.length then ([], 2) else encFrom [] l
def kindsOk : Bool := shapeTab.all fun r => decide (0 ≤ r.2.1) && decide (r.2.1 ≤ 6)
theorem kinds_ok : kindsOk = true := by decide +kernel
theorem isOp_row {op : Int} (h : isOp op = true) : ∃ n : Nat, (n : Int) = op ∧ n < 46 ∧ ∃ r, shapeTab[n]? = some r ∧ (rowAt shapeTab op).1 = r ∧ r.2.1 = (kindN op : Int) ∧ kindN op ≤ 6 := by
  unfold isOp at h
  unfold kindN
  unfold rowAt at h ⊢
  split at h
  · rename_i h0
    rw [if_pos h0]
    cases hr : shapeTab[op.toNat]? with
    | none => rw [hr] at h; cases h
    | some r =>
      rw [hr] at h
      have hl := (List.getElem?_eq_some_iff.1 hr).1
      have hk := List.all_eq_true.1 kinds_ok r (List.mem_of_getElem? hr)
      simp only [Bool.and_eq_true, decide_eq_true_eq] at hk
      refine ⟨op.toNat, by omega, by have : shapeTab.length = 46 := by decide +kernel
                                     omega, r, hr, rfl, ?_, ?_⟩
      · dsimp only; omega
      · dsimp only; omega
  · cases h
section
variable {w : World}
theorem may0_any (a : Int) : Calls Try.prog 54 #[.int .i64 a] w fun e w' => e = .returned (.bool (decide (a = 0))) ∧ w' = w := by
  go_enter Try.func54, Try.ntmps54
  go_wp2_with fail
  go_ret
  have e : (a == 0) = decide (a = 0) := by by_cases h : a = 0 <;> simp [h]
  exact ⟨by simp [e], rfl⟩
theorem may1_any (a : Int) : Calls Try.prog 57 #[.int .i64 a] w fun e w' => e = .returned (.bool true) ∧ w' = w := by
  go_enter Try.func57, Try.ntmps57
  go_wp2_with fail
  go_ret
  exact ⟨rfl, rfl⟩
theorem mayK_any (a most : Int) (p : Nat) (h : Blk w p 3 #[.int .i64 most]) : Calls Try.prog 71 #[.int .i64 a, .pointer (some ⟨p, 0, none⟩)] w fun e w' => e = .returned (.bool (decide (0 ≤ a) && decide (a < most))) ∧ w' = w := by
  have hc : w.cell? ⟨p, 0, none⟩ = some (.int .i64 most) := h.cell 0
  have hl := h.lt
  clear h
  by_cases h0 : 0 ≤ a
  · go_enter Try.func71, Try.ntmps71
    go_wp2_with fail
    go_ret
    exact ⟨by simp [h0], rfl⟩
  · go_enter Try.func71, Try.ntmps71
    go_wp2_with fail
    go_ret
    exact ⟨by rw [show decide (0 ≤ a) = false from decide_eq_false (by omega)]; simp, rfl⟩
theorem put0_any (x : Value) (a : Int) : Calls Try.prog 55 #[x, .int .i64 a] w fun e w' => e = .returned (.tuple #[]) ∧ w' = w := by
  go_enter Try.func55, Try.ntmps55
  go_wp2_with fail
  go_end0
  exact ⟨rfl, rfl⟩
end
theorem opsL_get (p : Nat → Nat) (k : Nat) (h2 : 2 ≤ k) (h6 : k ≤ 6) : (opsL p)[k * 3]? = some (mayV (p k)) ∧ (opsL p)[k * 3 + 1]? = some (fnV 39) ∧ (opsL p)[k * 3 + 2]? = some (fnV 47) := by
  have hk : k = 2 ∨ k = 3 ∨ k = 4 ∨ k = 5 ∨ k = 6 := by omega
  rcases hk with rfl | rfl | rfl | rfl | rfl <;> exact ⟨rfl, rfl, rfl⟩
end Go.Proofs.Ytmmdkpnoncnjnaa
