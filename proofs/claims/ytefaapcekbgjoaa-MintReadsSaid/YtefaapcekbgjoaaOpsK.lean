/- Several texts in one: OpOps OpEncL OpKind OpEnc. -/
import Derived.Test.YtefaapcekbgjoaaOpK
import Derived.Test.YtefaapcekbgjoaaRdK
import Derived.Test.YtefaapcekbgjoaaRegK
import Derived.Deep.RegionHeld3
import Derived.Test.YtefaapcekbgjoaaRefK
namespace Go.Proofs.Ytefaapcekbgjoaa

section
/- The walks of op's below and operands. -/
open Go.RowKit

def fnV (k : FuncId) : Value := .func (.func k) #[] #[]
/-- Most of an operand's kind: below it. -/
def mostL : Nat → Int
  | 2 => 64
  | 3 => 4096
  | 4 => 64
  | 5 => 5
  | _ => 256
end

section
/- What Encode is to tell, in plain Lean; the operands' own questions. -/
open Go.RowKit

/-- An instruction. -/
structure Ins where
  op : Int
  a : Int
def insCells (i : Ins) : List Value := [.int .i64 i.op, .int .i64 i.a]
/-- May it be the operand of that kind? -/
def mayB (kd : Nat) (a : Int) : Bool := if kd = 0 then decide (a = 0) else if kd = 1 then true else decide (0 ≤ a) && decide (a < mostL kd)
/-- The kind of an instruction's operand. -/
def kindN (op : Int) : Nat := (rowAt shapeTab op).1.2.1.toNat
def isOp (op : Int) : Bool := (rowAt shapeTab op).2
def argL (kd : Nat) (a : Int) : List UInt8 := if kd = 0 then [] else if kd = 1 then formL (foldN a) else formL a.toNat
def insL (i : Ins) : List UInt8 := formL i.op.toNat ++ argL (kindN i.op) i.a
def encFrom : List UInt8 → List Ins → List UInt8 × Int
  | out, [] => (out, 0)
  | out, i :: l => if isOp i.op = false then ([], 111) else if mayB (kindN i.op) i.a = false then ([], 112) else encFrom (out ++ insL i) l
def encL (l : List Ins) : List UInt8 × Int := if 4096 < l.length then ([], 2) else encFrom [] l
def kindsOk : Bool := shapeTab.all fun r => decide (0 ≤ r.2.1) && decide (r.2.1 ≤ 6)
theorem kinds_ok : kindsOk = true := by decide +kernel
theorem isOp_row {op : Int} (h : isOp op = true) : ∃ n : Nat, (n : Int) = op ∧ n < 46 ∧ ∃ r, shapeTab[n]? = some r ∧ (rowAt shapeTab op).1 = r ∧ r.2.1 = (kindN op : Int) ∧ kindN op ≤ 6 := by
  unfold isOp at h
  unfold kindN
  unfold rowAt at h ⊢
  split at h
  · rename_i h0
    rw [if_pos h0]
    cases hr : shapeTab[op.toNat]? with
    | none => rw [hr] at h; cases h
    | some r =>
      rw [hr] at h
      have hl := (List.getElem?_eq_some_iff.1 hr).1
      have hk := List.all_eq_true.1 kinds_ok r (List.mem_of_getElem? hr)
      simp only [Bool.and_eq_true, decide_eq_true_eq] at hk
      refine ⟨op.toNat, by omega, by have : shapeTab.length = 46 := by decide +kernel
                                     omega, r, hr, rfl, ?_, ?_⟩
      · dsimp only; omega
      · dsimp only; omega
  · cases h
section
variable {w : World}
end
end

section
/- An operand's kind: its functions in the row, and their contracts. -/
open Go.RowKit

theorem putL_room {xs ys : List UInt8} (h : xs.length + ys.length ≤ 4194304) : putL xs 0 ys = (xs ++ ys, 0) := by
  unfold putL
  rw [if_pos rfl, if_pos h]
theorem formL_le9 (u : Nat) : (formL u).length ≤ 9 := formL_le u
/-- What is taken for an operand of a kind. -/
def takeL (kd : Nat) (bs : List UInt8) (a : Nat) : Except Int (Int × Nat) :=
  if kd = 0 then .ok (0, a) else if kd = 1 then (match numberL bs a with | .ok (u, k) => .ok (unfoldN u, a + k) | .error f => .error f)
  else (match rNumL bs a with | .ok (u, k) => .ok ((u : Int), a + k) | .error f => .error f)
def TakePost (kd g c a : Nat) (A : Option Addr) (bs : List UInt8) (w : World) (e : Ending) (w' : World) : Prop :=
  match takeL kd bs a with
  | .ok (n, a2) => e = .returned (.int .i64 n) ∧ Rd w' g A c bs a2 false 0 ∧ Only (fun b => b = g) w w'
  | .error f => Fell w g A c bs f e w'
end

section
/- The walk of op's Encode. -/
open Go.RowKit
attribute [local go_sem] rowVal

theorem insCells_len (l : List Ins) : (l.flatMap insCells).length = l.length * 2 := by
  induction l with
  | nil => rfl
  | cons x l ih => rw [List.flatMap_cons, List.length_append, ih, List.length_cons]; simp [insCells]; omega
theorem insCells_get (l : List Ins) (k j : Nat) (hk : k < l.length) (hj : j < 2) : (l.flatMap insCells)[k * 2 + j]? = (insCells l[k])[j]? := by
  induction l generalizing k with
  | nil => cases hk
  | cons x l ih =>
    rw [List.flatMap_cons]
    cases k with
    | zero =>
      rw [Nat.zero_mul, Nat.zero_add, List.getElem?_append_left (by simp [insCells]; omega)]
      rfl
    | succ k =>
      rw [List.getElem?_append_right (by simp [insCells]; omega), show (k + 1) * 2 + j - (insCells x).length = k * 2 + j from by simp [insCells]; omega]
      exact ih k (by simpa using hk)
/-- An instruction's numbers are ints. -/
structure InsOk (i : Ins) : Prop where
  o1 : -9223372036854775808 ≤ i.op
  o2 : i.op ≤ 9223372036854775807
  a1 : -9223372036854775808 ≤ i.a
  a2 : i.a ≤ 9223372036854775807
def EncPost (w : World) (r : List UInt8 × Int) (e : Ending) (w' : World) : Prop :=
  ∃ A2 c2, e = .returned (.tuple #[.slice A2 r.1.length c2, .int .i64 r.2]) ∧ OwnB w' w.heap.size A2 r.1.length c2 r.1 ∧ Below w.heap.size w w'
end
end Go.Proofs.Ytefaapcekbgjoaa
