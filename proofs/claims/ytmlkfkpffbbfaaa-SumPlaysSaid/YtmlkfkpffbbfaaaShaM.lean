/- SHA-256 of a list of bytes, in plain Lean: blocks, what fills the last one up, and what may be said of both. -/
import Derived.Test.YtmlkfkpffbbfaaaShaL
namespace Go.Proofs.Ytmlkfkpffbbfaaa

/-- The state behind n blocks of l. -/
def runB (s : St8) (l : List UInt8) : Nat → St8
  | 0 => s
  | n + 1 => compress (runB s l n) ((l.drop (64 * n)).take 64)
theorem runB_append (s : St8) (l m : List UInt8) (n : Nat) (h : 64 * n ≤ l.length) : runB s (l ++ m) n = runB s l n := by
  induction n with
  | zero => rfl
  | succ n ih =>
    rw [runB, runB, ih (by omega), List.drop_append_of_le_length (by omega), List.take_append_of_le_length (by rw [List.length_drop]; omega)]
/-- A word as four bytes, the highest first. -/
def wbytes (x : UInt32) : List UInt8 := [UInt8.ofNat (x.toNat / 16777216), UInt8.ofNat (x.toNat / 65536), UInt8.ofNat (x.toNat / 256), UInt8.ofNat x.toNat]
def St8.bytes (s : St8) : List UInt8 := s.toL.flatMap wbytes
theorem length_bytes (s : St8) : s.bytes.length = 32 := rfl
/-- How many zeros are wanting. -/
def zerosN (n : Nat) : Nat := (119 - n % 64) % 64
def lenB (n : Nat) : List UInt8 := (List.range 8).map fun i => UInt8.ofNat (8 * n / 2 ^ (8 * (7 - i)))
theorem length_lenB (n : Nat) : (lenB n).length = 8 := by simp [lenB]
def tailL (n : Nat) : List UInt8 := 128 :: (List.replicate (zerosN n) 0 ++ lenB n)
theorem length_tailL (n : Nat) : (tailL n).length = 9 + zerosN n := by
  simp [tailL, length_lenB]; omega
theorem padded (n : Nat) : (n + (9 + zerosN n)) % 64 = 0 := by
  unfold zerosN; omega
/-- The digest of bytes. -/
def sha (xs : List UInt8) : List UInt8 := (runB st0 (xs ++ tailL xs.length) ((xs.length + (9 + zerosN xs.length)) / 64)).bytes
theorem length_sha (xs : List UInt8) : (sha xs).length = 32 := length_bytes _

/-! ### What a Hash holds -/
/-- The fields of a Hash to which xs were written. -/
structure HashOf (xs : List UInt8) (ws : List UInt32) (begun : Bool) (rest : List UInt8) (n : Nat) : Prop where
  n_eq : n = xs.length
  begun_eq : begun = decide (64 ≤ xs.length)
  ws_len : ws.length = 8
  ws_eq : 64 ≤ xs.length → ws = (runB st0 xs (xs.length / 64)).toL
  rest_len : rest.length = 64
  rest_eq : rest.take (xs.length % 64) = xs.drop (64 * (xs.length / 64))
theorem HashOf.state {xs : List UInt8} {ws : List UInt32} {begun : Bool} {rest : List UInt8} {n : Nat} (h : HashOf xs ws begun rest n) :
    (if begun then ws else sum0) = (runB st0 xs (xs.length / 64)).toL := by
  rw [h.begun_eq]
  by_cases hl : 64 ≤ xs.length
  · rw [if_pos (by simpa using hl)]; exact h.ws_eq hl
  · rw [if_neg (by simpa using hl), show xs.length / 64 = 0 from by omega]; rfl
theorem HashOf.zero : HashOf [] (List.replicate 8 0) false (List.replicate 64 0) 0 :=
  ⟨rfl, rfl, rfl, fun h => absurd h (by decide), rfl, rfl⟩
/-- .. a piece that doesn't fill the block up. -/
theorem HashOf.some {xs ys : List UInt8} {ws : List UInt32} {begun : Bool} {rest : List UInt8} {n : Nat} (h : HashOf xs ws begun rest n) (hy : xs.length % 64 + ys.length < 64) :
    HashOf (xs ++ ys) ws begun (rest.take (xs.length % 64) ++ (ys ++ rest.drop (xs.length % 64 + ys.length))) (n + ys.length) := by
  have e1 : (xs ++ ys).length = xs.length + ys.length := List.length_append
  have e2 : (xs.length + ys.length) / 64 = xs.length / 64 := by omega
  have e3 : (xs.length + ys.length) % 64 = xs.length % 64 + ys.length := by omega
  have e4 : decide (64 ≤ xs.length + ys.length) = decide (64 ≤ xs.length) := by
    rw [Bool.eq_iff_iff]; simp; omega
  refine ⟨by rw [e1, h.n_eq], by rw [e1, e4, h.begun_eq], h.ws_len, fun hl => ?_, ?_, ?_⟩
  · rw [e1] at hl
    rw [e1, e2, runB_append _ _ _ _ (by omega)]
    exact h.ws_eq (by omega)
  · rw [List.length_append, List.length_append, List.length_take, List.length_drop, h.rest_len]
    omega
  · rw [e1, e2, e3, List.drop_append_of_le_length (by omega), ← h.rest_eq, ← List.append_assoc, List.take_append_of_le_length (by
      rw [List.length_append, List.length_take, h.rest_len]; omega), List.take_of_length_le (by
      rw [List.length_append, List.length_take, h.rest_len]; omega)]
/-- .. one that does. -/
theorem HashOf.full {xs ys : List UInt8} {ws : List UInt32} {begun : Bool} {rest : List UInt8} {n : Nat} (h : HashOf xs ws begun rest n) (hy : xs.length % 64 + ys.length = 64) :
    HashOf (xs ++ ys) (compress (runB st0 xs (xs.length / 64)) (rest.take (xs.length % 64) ++ ys)).toL true (rest.take (xs.length % 64) ++ ys) (n + ys.length) := by
  have e1 : (xs ++ ys).length = xs.length + ys.length := List.length_append
  have e2 : (xs.length + ys.length) / 64 = xs.length / 64 + 1 := by omega
  have e3 : (xs.length + ys.length) % 64 = 0 := by omega
  refine ⟨by rw [e1, h.n_eq], by rw [e1]; simp; omega, rfl, fun _ => ?_, ?_, ?_⟩
  · rw [e1, e2, runB, runB_append _ _ _ _ (by omega), List.drop_append_of_le_length (by omega), h.rest_eq, List.take_of_length_le (by
      rw [List.length_append, List.length_drop]; omega)]
  · rw [List.length_append, List.length_take, h.rest_len]; omega
  · rw [e1, e2, e3, List.take_zero, List.drop_eq_nil_of_le (by rw [e1]; omega)]
/-- What Sum answers. -/
theorem HashOf.sha {xs : List UInt8} {ws : List UInt32} {begun : Bool} {rest : List UInt8} {n : Nat} (h : HashOf (xs ++ tailL xs.length) ws begun rest n) :
    ∃ s : St8, (if begun then ws else sum0) = s.toL ∧ s.bytes = sha xs := by
  refine ⟨_, h.state, ?_⟩
  unfold Go.Proofs.Ytmlkfkpffbbfaaa.sha
  rw [List.length_append, length_tailL]
end Go.Proofs.Ytmlkfkpffbbfaaa
