/- What the Writer put is what the Reader takes: the laws of the forms, in plain Lean. -/
import Derived.Test.YtmmdkpnoncnjnaaRdB
import Derived.Test.YtmmdkpnoncnjnaaWritesL
namespace Go.Proofs.Ytmmdkpnoncnjnaa

theorem foldl_be (l : List UInt8) : ∀ a : Nat, l.foldl (fun u (c : UInt8) => u * 256 + c.toNat) a = a * 256 ^ l.length + beNat l := by
  induction l with
  | nil => intro a; simp [beNat]
  | cons x l ih =>
    intro a
    have h2 : beNat (x :: l) = x.toNat * 256 ^ l.length + beNat l := by
      show l.foldl _ (0 * 256 + x.toNat) = _
      rw [ih, Nat.zero_mul, Nat.zero_add]
    rw [List.foldl_cons, ih, h2, List.length_cons, Nat.pow_succ, Nat.add_mul, Nat.mul_assoc, Nat.mul_comm 256, Nat.add_assoc]
theorem beNat_cons (x : UInt8) (l : List UInt8) : beNat (x :: l) = x.toNat * 256 ^ l.length + beNat l := by
  show l.foldl _ (0 * 256 + x.toNat) = _
  rw [foldl_be, Nat.zero_mul, Nat.zero_add]
theorem pow_256 (k : Nat) : (2 : Nat) ^ (8 * k) = 256 ^ k := by rw [Nat.pow_mul]
theorem beNat_be (u k : Nat) : beNat (beBytes u k) = u % 256 ^ k := by
  induction k with
  | zero => simp [beBytes, beNat, Nat.mod_one]
  | succ k ih =>
    rw [beBytes, beNat_cons, ih, length_beBytes, toNat_ofNat8, pow_256, Nat.pow_succ, Nat.mod_mul, Nat.mul_comm, Nat.add_comm]
theorem byteCnt_spec (u n : Nat) (h : u < 256 ^ n) : u < 256 ^ byteCnt u n ∧ (0 < u → 0 < byteCnt u n ∧ 0 < u / 256 ^ (byteCnt u n - 1)) := by
  induction n with
  | zero => simp [byteCnt] at h ⊢; omega
  | succ n ih =>
    by_cases h0 : u / 2 ^ (8 * n) = 0
    · rw [byteCnt_step u n h0]
      refine ih ?_
      rw [pow_256] at h0
      rcases Nat.div_eq_zero_iff.1 h0 with h1 | h1
      · have := Nat.pow_pos (n := n) (show 0 < 256 by decide); omega
      · exact h1
    · rw [byteCnt_stop u n h0]
      refine ⟨h, fun _ => ⟨by omega, ?_⟩⟩
      rw [Nat.add_sub_cancel, ← pow_256]
      exact Nat.pos_of_ne_zero h0
theorem getD_mid (pre l rest : List UInt8) (j : Nat) (h : j < l.length) : (pre ++ (l ++ rest)).getD (pre.length + j) 0 = l.getD j 0 := by
  rw [List.getD_eq_getElem?_getD, List.getD_eq_getElem?_getD, List.getElem?_append_right (by omega), Nat.add_sub_cancel_left, List.getElem?_append_left h]
/-- A number's form is read as that number. -/
theorem number_form (pre rest : List UInt8) (u : Nat) (hu : u < 18446744073709551616) : numberL (pre ++ (formL u ++ rest)) pre.length = .ok (u, (formL u).length) := by
  by_cases h : u < 248
  · have e : formL u = [UInt8.ofNat u] := by unfold formL; rw [if_pos h]
    have h0 : ((pre ++ (formL u ++ rest)).getD pre.length 0).toNat = u := by
      have := getD_mid pre (formL u) rest 0 (by rw [e]; simp)
      rw [Nat.add_zero] at this
      rw [this, e]
      show (UInt8.ofNat u).toNat = u
      rw [toNat_ofNat8]; omega
    unfold numberL
    rw [if_neg (by rw [List.length_append, List.length_append, e]; simp), h0, if_pos h, e]
    rfl
  · obtain ⟨k, hk⟩ : ∃ k, k = byteCnt u 8 := ⟨_, rfl⟩
    have hk8 : k ≤ 8 := by rw [hk]; exact byteCnt_le u 8
    have h256 : (256 : Nat) ^ 8 = 18446744073709551616 := by decide
    obtain ⟨h1, h2⟩ := byteCnt_spec u 8 (by omega)
    obtain ⟨h3, h4⟩ := h2 (by omega)
    rw [← hk] at h1 h3 h4
    have e : formL u = UInt8.ofNat (247 + k) :: beBytes u k := by unfold formL; rw [if_neg h, ← hk]
    have hl : (formL u).length = 1 + k := by rw [e, List.length_cons, length_beBytes]; omega
    have h0 : ((pre ++ (formL u ++ rest)).getD pre.length 0).toNat = 247 + k := by
      have := getD_mid pre (formL u) rest 0 (by omega)
      rw [Nat.add_zero] at this
      rw [this, e]
      show (UInt8.ofNat (247 + k)).toNat = 247 + k
      rw [toNat_ofNat8]; omega
    obtain ⟨j, rfl⟩ : ∃ j, k = j + 1 := ⟨k - 1, by omega⟩
    have h5 : ((pre ++ (formL u ++ rest)).getD (pre.length + 1) 0).toNat = u / 256 ^ j := by
      rw [getD_mid pre (formL u) rest 1 (by omega), e]
      show (UInt8.ofNat (u / 2 ^ (8 * j))).toNat = _
      rw [toNat_ofNat8, pow_256]
      have : u / 256 ^ j < 256 := by
        rw [Nat.div_lt_iff_lt_mul (Nat.pow_pos (by decide))]
        rw [Nat.pow_succ, Nat.mul_comm] at h1
        exact h1
      exact Nat.mod_eq_of_lt this
    have h6 : ((pre ++ (formL u ++ rest)).drop (pre.length + 1)).take (j + 1) = beBytes u (j + 1) := by
      have e2 : pre ++ (formL u ++ rest) = (pre ++ [UInt8.ofNat (247 + (j + 1))]) ++ (beBytes u (j + 1) ++ rest) := by rw [e]; simp
      rw [e2, List.drop_append_of_le_length (by simp), List.drop_eq_nil_of_le (by simp), List.nil_append, List.take_append_of_le_length (by rw [length_beBytes]; omega), List.take_of_length_le (by rw [length_beBytes]; omega)]
    have h7 : beNat (beBytes u (j + 1)) = u := by rw [beNat_be, Nat.mod_eq_of_lt h1]
    have hlen : (pre ++ (formL u ++ rest)).length = pre.length + (1 + (j + 1) + rest.length) := by rw [List.length_append, List.length_append, hl]
    unfold numberL
    rw [if_neg (by omega), h0, if_neg (by omega), if_neg (by omega), h5, show 247 + (j + 1) - 247 = j + 1 from by omega, h6, h7, if_neg (by
      rw [Nat.add_sub_cancel] at h4
      omega), hl]
theorem unfold_fold (n : Int) : unfoldN (foldN n) = n := by
  unfold unfoldN foldN
  split <;> split <;> omega
theorem rNum_form (pre rest : List UInt8) (u : Nat) (hu : u < 9223372036854775808) : rNumL (pre ++ (formL u ++ rest)) pre.length = .ok (u, (formL u).length) := by
  unfold rNumL
  rw [number_form pre rest u (by omega)]
  exact if_neg (by omega)
theorem rBool_form (pre rest : List UInt8) (b : Bool) : rBoolL (pre ++ (boolL b ++ rest)) pre.length = .ok b := by
  have h := getD_mid pre (boolL b) rest 0 (by simp [boolL])
  rw [Nat.add_zero] at h
  unfold rBoolL
  rw [if_neg (by simp [boolL]), h]
  cases b <;> rfl
theorem rRaw_form (pre ys rest : List UInt8) : rRawL (pre ++ (ys ++ rest)) pre.length (ys.length : Int) = .ok ys := by
  unfold rRawL
  rw [if_neg (by omega), if_neg (by rw [List.length_append, List.length_append]; omega), Int.toNat_natCast, List.drop_append_of_le_length (Nat.le_refl _), List.drop_eq_nil_of_le (Nat.le_refl _), List.nil_append,
    List.take_append_of_le_length (Nat.le_refl _), List.take_length]
theorem rBytes_form (pre ys rest : List UInt8) (h : ys.length < 9223372036854775808) : rBytesL (pre ++ ((formL ys.length ++ ys) ++ rest)) pre.length = .ok (ys, pre.length + (formL ys.length ++ ys).length) := by
  have h1 := rNum_form pre (ys ++ rest) ys.length h
  rw [← List.append_assoc (formL ys.length)] at h1
  unfold rBytesL
  rw [h1]
  dsimp only
  have e : pre ++ ((formL ys.length ++ ys) ++ rest) = (pre ++ formL ys.length) ++ (ys ++ rest) := by simp
  have hl : (pre ++ formL ys.length).length = pre.length + (formL ys.length).length := List.length_append
  rw [if_neg (by rw [List.length_append, List.length_append, List.length_append]; omega)]
  rw [e, ← hl, List.drop_append_of_le_length (Nat.le_refl _), List.drop_eq_nil_of_le (Nat.le_refl _), List.nil_append, List.take_append_of_le_length (Nat.le_refl _), List.take_length, List.length_append, List.length_append, Nat.add_assoc]
end Go.Proofs.Ytmmdkpnoncnjnaa
