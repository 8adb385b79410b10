/- Numbers' forms are in order as the numbers are: plain lists. -/
import Derived.Test.YtmmdkpnoncnjnaaNums
namespace Go.Proofs.Ytmmdkpnoncnjnaa

/-- Does a stand ahead of b, byte by byte, and not as its front? -/
def aheadL : List UInt8 → List UInt8 → Bool
  | a :: l, b :: m => if a = b then aheadL l m else decide (a.toNat < b.toNat)
  | _, _ => false

theorem ofNat8_inj (x y : Nat) : UInt8.ofNat x = UInt8.ofNat y ↔ x % 256 = y % 256 := by
  rw [← UInt8.toNat_inj, toNat_ofNat8, toNat_ofNat8]
theorem ahead_cons (x y : Nat) (l m : List UInt8) : aheadL (UInt8.ofNat x :: l) (UInt8.ofNat y :: m) = if x % 256 = y % 256 then aheadL l m else decide (x % 256 < y % 256) := by
  show (if UInt8.ofNat x = UInt8.ofNat y then aheadL l m else decide ((UInt8.ofNat x).toNat < (UInt8.ofNat y).toNat)) = _
  by_cases h : x % 256 = y % 256
  · rw [if_pos ((ofNat8_inj x y).2 h), if_pos h]
  · rw [if_neg (fun e => h ((ofNat8_inj x y).1 e)), if_neg h, toNat_ofNat8, toNat_ofNat8]

theorem mod_step (u k : Nat) : u % 2 ^ (8 * (k + 1)) = u / 2 ^ (8 * k) % 256 * 2 ^ (8 * k) + u % 2 ^ (8 * k) := by
  have e : 2 ^ (8 * (k + 1)) = 2 ^ (8 * k) * 256 := by rw [Nat.mul_add, Nat.pow_add]
  rw [e, Nat.mod_mul, Nat.add_comm, Nat.mul_comm]

theorem ahead_be (a b k : Nat) : aheadL (beBytes a k) (beBytes b k) = decide (a % 2 ^ (8 * k) < b % 2 ^ (8 * k)) := by
  induction k with
  | zero => simp [beBytes, aheadL, Nat.mod_one]
  | succ k ih =>
    show aheadL (UInt8.ofNat (a / 2 ^ (8 * k)) :: beBytes a k) (UInt8.ofNat (b / 2 ^ (8 * k)) :: beBytes b k) = _
    rw [ahead_cons, ih, mod_step a k, mod_step b k]
    have hp := Nat.two_pow_pos (8 * k)
    have h1 := Nat.mod_lt a hp
    have h2 := Nat.mod_lt b hp
    generalize a / 2 ^ (8 * k) % 256 = x
    generalize b / 2 ^ (8 * k) % 256 = y
    generalize a % 2 ^ (8 * k) = r at *
    generalize b % 2 ^ (8 * k) = s at *
    generalize 2 ^ (8 * k) = m at *
    by_cases h : x = y
    · subst h
      rw [if_pos rfl]
      congr 1
      exact propext ⟨fun h => by omega, fun h => by omega⟩
    · rw [if_neg h]
      congr 1
      apply propext
      rcases Nat.lt_or_gt_of_ne h with hlt | hgt
      · have : (x + 1) * m ≤ y * m := Nat.mul_le_mul_right _ hlt
        rw [Nat.add_mul] at this
        exact ⟨fun _ => by omega, fun _ => hlt⟩
      · have : (y + 1) * m ≤ x * m := Nat.mul_le_mul_right _ hgt
        rw [Nat.add_mul] at this
        exact ⟨fun h => by omega, fun h => by omega⟩

theorem byteCnt_lt (u k : Nat) (h : u < 2 ^ (8 * k)) : u < 2 ^ (8 * byteCnt u k) := by
  induction k with
  | zero => exact h
  | succ k ih =>
    unfold byteCnt
    split
    · rename_i h0
      refine ih ?_
      rcases Nat.div_eq_zero_iff.1 h0 with h1 | h1
      · have := Nat.two_pow_pos (8 * k); omega
      · exact h1
    · exact h
theorem byteCnt_ge (u k j : Nat) (h : byteCnt u k = j + 1) : 2 ^ (8 * j) ≤ u := by
  induction k with
  | zero => cases h
  | succ k ih =>
    unfold byteCnt at h
    split at h
    · exact ih h
    · rename_i h0
      obtain rfl : k = j := by omega
      rcases Nat.lt_or_ge u (2 ^ (8 * k)) with h1 | h1
      · exact absurd (Nat.div_eq_of_lt h1) h0
      · exact h1
theorem byteCnt_mono (a b : Nat) (ha : a < 2 ^ 64) (hlt : byteCnt a 8 < byteCnt b 8) : a < b := by
  obtain ⟨j, hj⟩ : ∃ j, byteCnt b 8 = j + 1 := ⟨byteCnt b 8 - 1, by omega⟩
  have h1 := byteCnt_ge b 8 j hj
  have h2 := byteCnt_lt a 8 (by exact ha)
  have h3 : 2 ^ (8 * byteCnt a 8) ≤ 2 ^ (8 * j) := Nat.pow_le_pow_right (by omega) (by omega)
  omega

/-- The forms of two unlike numbers are in order as the numbers are. -/
theorem ahead_form (a b : Nat) (ha : a < 2 ^ 64) (hb : b < 2 ^ 64) (hne : a ≠ b) : aheadL (formL a) (formL b) = decide (a < b) := by
  have ca := byteCnt_le a 8
  have cb := byteCnt_le b 8
  by_cases h1 : a < 248 <;> by_cases h2 : b < 248
  · simp only [formL, if_pos h1, if_pos h2]
    rw [ahead_cons, if_neg (by omega), Nat.mod_eq_of_lt (by omega), Nat.mod_eq_of_lt (by omega)]
  · have hp := byteCnt_pos b 8 (by omega) (by exact hb)
    simp only [formL, if_pos h1, if_neg h2]
    rw [ahead_cons, if_neg (by omega)]
    congr 1
    exact propext ⟨fun _ => by omega, fun _ => by omega⟩
  · have hp := byteCnt_pos a 8 (by omega) (by exact ha)
    simp only [formL, if_neg h1, if_pos h2]
    rw [ahead_cons, if_neg (by omega)]
    congr 1
    exact propext ⟨fun _ => by omega, fun _ => by omega⟩
  · simp only [formL, if_neg h1, if_neg h2]
    rw [ahead_cons]
    by_cases hc : byteCnt a 8 = byteCnt b 8
    · rw [hc, if_pos rfl, ahead_be]
      have l1 := byteCnt_lt a 8 (by exact ha)
      have l2 := byteCnt_lt b 8 (by exact hb)
      rw [hc] at l1
      rw [Nat.mod_eq_of_lt l1, Nat.mod_eq_of_lt l2]
    · rw [if_neg (by omega)]
      congr 1
      apply propext
      rcases Nat.lt_or_gt_of_ne hc with h | h
      · have := byteCnt_mono a b ha h
        exact ⟨fun _ => this, fun _ => by omega⟩
      · have := byteCnt_mono b a hb h
        exact ⟨fun _ => by omega, fun _ => by omega⟩
end Go.Proofs.Ytmmdkpnoncnjnaa
