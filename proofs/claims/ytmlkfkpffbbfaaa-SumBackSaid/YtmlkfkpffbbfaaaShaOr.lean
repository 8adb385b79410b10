/- The order of digests, in plain Lean: an order, and that of the texts. -/
import Derived.Test.YtmlkfkpffbbfaaaShaTx
namespace Go.Proofs.Ytmlkfkpffbbfaaa

theorem cons_compare (x y : UInt8) (a b : List UInt8) : Lib.compareBytes (x :: a) (y :: b) = if x < y then -1 else if y < x then 1 else Lib.compareBytes a b := rfl
theorem compare_swap : ∀ (a b : List UInt8), Lib.compareBytes b a = - Lib.compareBytes a b
  | [], [] => rfl
  | [], _ :: _ => rfl
  | _ :: _, [] => rfl
  | x :: a, y :: b => by
    rw [cons_compare, cons_compare, compare_swap a b]
    by_cases h : x < y
    · have h2 : ¬ y < x := fun h2 => by rw [UInt8.lt_iff_toNat_lt] at h h2; omega
      rw [if_pos h, if_neg h2, if_pos h]; rfl
    · rw [if_neg h]
      by_cases h2 : y < x
      · rw [if_pos h2, if_pos h2, if_neg h]
      · rw [if_neg h2, if_neg h2, if_neg h]
theorem compare_zero : ∀ (a b : List UInt8), Lib.compareBytes a b = 0 → a = b
  | [], [], _ => rfl
  | [], _ :: _, h => by cases h
  | _ :: _, [], h => by cases h
  | x :: a, y :: b, h => by
    rw [cons_compare] at h
    by_cases h1 : x < y
    · rw [if_pos h1] at h; cases h
    · rw [if_neg h1] at h
      by_cases h2 : y < x
      · rw [if_pos h2] at h; cases h
      · rw [if_neg h2] at h
        rw [compare_zero a b h, show x = y from UInt8.toNat_inj.1 (by rw [UInt8.lt_iff_toNat_lt] at h1 h2; omega)]
theorem compare_trans : ∀ (a b c : List UInt8), Lib.compareBytes a b < 0 → Lib.compareBytes b c < 0 → Lib.compareBytes a c < 0
  | [], [], _, h, _ => absurd h (by decide)
  | [], _ :: _, [], _, h => absurd h (by show ¬ (1 : Int) < 0; decide)
  | [], _ :: _, _ :: _, _, _ => by show (-1 : Int) < 0; decide
  | _ :: _, [], _, h, _ => absurd h (by show ¬ (1 : Int) < 0; decide)
  | _ :: _, _ :: _, [], _, h => absurd h (by show ¬ (1 : Int) < 0; decide)
  | x :: a, y :: b, z :: c, h, k => by
    rw [cons_compare] at h k ⊢
    have ih := compare_trans a b c
    simp only [UInt8.lt_iff_toNat_lt] at h k ⊢
    by_cases h1 : x.toNat < y.toNat
    · by_cases h2 : y.toNat < z.toNat
      · rw [if_pos (by omega)]; decide
      · rw [if_neg h2] at k
        by_cases h3 : z.toNat < y.toNat
        · rw [if_pos h3] at k; exact absurd k (by decide)
        · rw [if_pos (by omega)]; decide
    · rw [if_neg h1] at h
      by_cases h2 : y.toNat < x.toNat
      · rw [if_pos h2] at h; exact absurd h (by decide)
      · rw [if_neg h2] at h
        by_cases h3 : y.toNat < z.toNat
        · rw [if_pos (by omega)]; decide
        · rw [if_neg h3] at k
          by_cases h4 : z.toNat < y.toNat
          · rw [if_pos h4] at k; exact absurd k (by decide)
          · rw [if_neg h4] at k
            rw [if_neg (by omega), if_neg (by omega)]
            exact ih h k
theorem less_asymm (a b : List UInt8) (h : lessL a b = true) : lessL b a = false := by
  unfold lessL at h ⊢
  rw [decide_eq_true_iff] at h
  rw [compare_swap a b, decide_eq_false_iff_not]
  omega
theorem less_total (a b : List UInt8) (hne : a ≠ b) (h : lessL a b = false) : lessL b a = true := by
  unfold lessL at h ⊢
  rw [decide_eq_false_iff_not] at h
  rw [compare_swap a b, decide_eq_true_iff]
  have : Lib.compareBytes a b ≠ 0 := fun h0 => hne (compare_zero a b h0)
  omega
theorem less_trans (a b c : List UInt8) (h : lessL a b = true) (k : lessL b c = true) : lessL a c = true := by
  unfold lessL at h k ⊢
  rw [decide_eq_true_iff] at h k ⊢
  exact compare_trans a b c h k
theorem digit_lt (n m : Nat) (hn : n < 16) (hm : m < 16) : (digit n < digit m ↔ n < m) ∧ ((digit n == digit m) = decide (n = m)) := by
  have : ∀ n, n < 16 → ∀ m, m < 16 → (digit n < digit m ↔ n < m) ∧ ((digit n == digit m) = decide (n = m)) := by decide +kernel
  exact this n hn m hm
theorem text_less : ∀ (a b : List UInt8), a.length = b.length → Op.bytesLess (textL a) (textL b) = lessL a b
  | [], [], _ => rfl
  | [], _ :: _, h => by simp at h
  | _ :: _, [], h => by simp at h
  | x :: a, y :: b, h => by
    have ih := text_less a b (by simpa using h)
    have hx := x.toNat_lt
    have hy := y.toNat_lt
    obtain ⟨p1, p2⟩ := digit_lt (x.toNat / 16) (y.toNat / 16) (by omega) (by omega)
    obtain ⟨q1, q2⟩ := digit_lt (x.toNat % 16) (y.toNat % 16) (by omega) (by omega)
    have e : ∀ u l, textL (u :: l) = digit (u.toNat / 16) :: digit (u.toNat % 16) :: textL l := fun u l => rfl
    rw [e, e]
    unfold Op.bytesLess
    unfold Op.bytesLess
    rw [ih, p2, q2]
    unfold lessL
    rw [cons_compare]
    by_cases h1 : x.toNat < y.toNat
    · rw [if_pos (UInt8.lt_iff_toNat_lt.2 h1)]
      rcases Nat.lt_or_ge (x.toNat / 16) (y.toNat / 16) with h2 | h2
      · simp [p1.2 h2]
      · have h3 : x.toNat / 16 = y.toNat / 16 := by omega
        have h4 : x.toNat % 16 < y.toNat % 16 := by omega
        simp [h3, q1.2 h4]
    · by_cases h2 : y.toNat < x.toNat
      · rw [if_neg (fun h => h1 (UInt8.lt_iff_toNat_lt.1 h)), if_pos (UInt8.lt_iff_toNat_lt.2 h2)]
        have h3 : ¬ digit (x.toNat / 16) < digit (y.toNat / 16) := fun h => by have := p1.1 h; omega
        rcases Nat.lt_or_ge (y.toNat / 16) (x.toNat / 16) with h4 | h4
        · have h5 : ¬ x.toNat / 16 = y.toNat / 16 := by omega
          simp [h3, h5]
        · have h5 : ¬ digit (x.toNat % 16) < digit (y.toNat % 16) := fun h => by have := q1.1 h; omega
          have h6 : ¬ x.toNat % 16 = y.toNat % 16 := by omega
          simp [h3, h5, h6]
      · obtain rfl : x = y := UInt8.toNat_inj.1 (by omega)
        have h3 : ∀ u : UInt8, ¬ u < u := fun u h => by rw [UInt8.lt_iff_toNat_lt] at h; omega
        rw [if_neg (h3 x), if_neg (h3 x)]
        simp [h3]
end Go.Proofs.Ytmlkfkpffbbfaaa
