/- Numbers' forms as bytes, in plain Lean: how many bytes a number has, these, the form of chapter 1. -/
import Derived.Below
import Derived.Laws.Bits64
import Derived.Laws.Wrap64
import Derived.IntWalk
namespace Go.Proofs.Ytmmdkpnoncnjnaa

/-- The k lowest bytes of u, the highest first. -/
def beBytes (u : Nat) : Nat → List UInt8
  | 0 => []
  | k + 1 => UInt8.ofNat (u / 2 ^ (8 * k)) :: beBytes u k
/-- How many bytes u has, at most k are looked at. -/
def byteCnt (u : Nat) : Nat → Nat
  | 0 => 0
  | k + 1 => if u / 2 ^ (8 * k) = 0 then byteCnt u k else k + 1
/-- A number's form. -/
def formL (u : Nat) : List UInt8 := if u < 248 then [UInt8.ofNat u] else UInt8.ofNat (247 + byteCnt u 8) :: beBytes u (byteCnt u 8)

theorem length_beBytes (u k : Nat) : (beBytes u k).length = k := by induction k with | zero => rfl | succ k ih => simp [beBytes, ih]
theorem byteCnt_le (u k : Nat) : byteCnt u k ≤ k := by
  induction k with
  | zero => simp [byteCnt]
  | succ k ih => unfold byteCnt; split <;> omega
theorem byteCnt_pos (u k : Nat) (h : 0 < u) (hk : u < 2 ^ (8 * k)) : 0 < byteCnt u k := by
  induction k with
  | zero => simp at hk; omega
  | succ k ih =>
    unfold byteCnt
    split
    · rename_i h0
      refine ih ?_
      rcases Nat.div_eq_zero_iff.1 h0 with h1 | h1
      · have := Nat.two_pow_pos (8 * k); omega
      · exact h1
    · omega
theorem byteCnt_stop (u k : Nat) (h : ¬ u / 2 ^ (8 * k) = 0) : byteCnt u (k + 1) = k + 1 := by unfold byteCnt; rw [if_neg h]
theorem byteCnt_step (u k : Nat) (h : u / 2 ^ (8 * k) = 0) : byteCnt u (k + 1) = byteCnt u k := by conv => lhs; unfold byteCnt; rw [if_pos h]
theorem length_formL (u : Nat) : (formL u).length = if u < 248 then 1 else 1 + byteCnt u 8 := by
  unfold formL
  split
  · rfl
  · simp [length_beBytes, Nat.add_comm]
theorem formL_le (u : Nat) : (formL u).length ≤ 9 := by
  rw [length_formL]
  have := byteCnt_le u 8
  split <;> omega
theorem formL_pos (u : Nat) : 0 < (formL u).length := by
  rw [length_formL]
  split <;> omega
theorem toNat_ofNat8 (n : Nat) : (UInt8.ofNat n).toNat = n % 256 := rfl

/-- An int as a number without a sign. -/
def foldN (n : Int) : Nat := if n < 0 then (2 * (0 - (n + 1)) + 1).toNat else (2 * n).toNat
theorem foldN_lt (n : Int) (h1 : -9223372036854775808 ≤ n) (h2 : n < 9223372036854775808) : foldN n < 18446744073709551616 := by
  unfold foldN; split <;> omega
theorem xor_ones (a : Nat) (h : a < 18446744073709551616) : a ^^^ 18446744073709551615 = 18446744073709551615 - a := by
  have h1 : (BitVec.ofNat 64 a ^^^ BitVec.allOnes 64).toNat = (~~~ BitVec.ofNat 64 a).toNat := by rw [BitVec.xor_allOnes]
  rw [BitVec.toNat_xor, BitVec.toNat_not, BitVec.toNat_ofNat, BitVec.toNat_allOnes, Nat.mod_eq_of_lt (by omega)] at h1
  exact h1
theorem fold_bits (n : Int) (h1 : -9223372036854775808 ≤ n) (h2 : n < 9223372036854775808) :
    bits .xor .u64 (IntKind.u64.wrap (IntKind.u64.wrap n * 2)) (IntKind.u64.wrap (n / 9223372036854775808)) = (foldN n : Int) := by
  rw [IntKind.wrap_u64, IntKind.wrap_u64, IntKind.wrap_u64]
  by_cases h : n < 0
  · have e1 : n % 18446744073709551616 * 2 % 18446744073709551616 = ((2 * n + 18446744073709551616).toNat : Int) := by omega
    have e2 : n / 9223372036854775808 % 18446744073709551616 = ((18446744073709551615 : Nat) : Int) := by omega
    rw [e1, e2, bits_xor_u64_nat _ _ (by omega) (by omega), xor_ones _ (by omega)]
    unfold foldN
    rw [if_pos h]
    omega
  · have e1 : n % 18446744073709551616 * 2 % 18446744073709551616 = ((2 * n).toNat : Int) := by omega
    have e2 : n / 9223372036854775808 % 18446744073709551616 = ((0 : Nat) : Int) := by omega
    rw [e1, e2, bits_xor_u64_nat _ _ (by omega) (by omega), Nat.xor_zero]
    unfold foldN
    rw [if_neg h]
end Go.Proofs.Ytmmdkpnoncnjnaa
