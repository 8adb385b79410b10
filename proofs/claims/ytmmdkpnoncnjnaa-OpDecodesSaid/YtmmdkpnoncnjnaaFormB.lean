/- The forms there and back, and their lengths: plain laws. -/
import Derived.Test.YtmmdkpnoncnjnaaRdL
namespace Go.Proofs.Ytmmdkpnoncnjnaa
open Go.RowKit

theorem beBytes_add (k : Nat) : ∀ c u : Nat, beBytes (c * 256 ^ k + u) k = beBytes u k := by
  induction k with
  | zero => intro c u; rfl
  | succ k ih =>
    intro c u
    have hp : 0 < 256 ^ k := Nat.pow_pos (by decide)
    have e1 : (c * 256 ^ (k + 1) + u) / 256 ^ k = c * 256 + u / 256 ^ k := by
      rw [Nat.pow_succ, Nat.mul_comm (256 ^ k) 256, ← Nat.mul_assoc, Nat.add_comm, Nat.add_mul_div_right _ _ hp, Nat.add_comm]
    have e2 : beBytes (c * 256 ^ (k + 1) + u) k = beBytes u k := by
      rw [Nat.pow_succ, Nat.mul_comm (256 ^ k) 256, ← Nat.mul_assoc]
      exact ih _ _
    show UInt8.ofNat ((c * 256 ^ (k + 1) + u) / 2 ^ (8 * k)) :: beBytes (c * 256 ^ (k + 1) + u) k = UInt8.ofNat (u / 2 ^ (8 * k)) :: beBytes u k
    rw [e2, pow_256, e1]
    congr 1
    apply UInt8.toNat_inj.1
    rw [toNat_ofNat8, toNat_ofNat8]
    omega
theorem beBytes_be (l : List UInt8) : beBytes (beNat l) l.length = l := by
  induction l with
  | nil => rfl
  | cons x l ih =>
    have hp : 0 < 256 ^ l.length := Nat.pow_pos (by decide)
    have hlt := beNat_lt l
    rw [beNat_cons]
    show UInt8.ofNat ((x.toNat * 256 ^ l.length + beNat l) / 2 ^ (8 * l.length)) :: beBytes (x.toNat * 256 ^ l.length + beNat l) l.length = x :: l
    rw [beBytes_add, ih, pow_256, Nat.add_comm, Nat.add_mul_div_right _ _ hp, Nat.div_eq_of_lt hlt, Nat.zero_add]
    congr 1
    apply UInt8.toNat_inj.1
    rw [toNat_ofNat8]
    have := x.toNat_lt
    omega
theorem byteCnt_of (u m : Nat) (h1 : 256 ^ m ≤ u) (h2 : u < 256 ^ (m + 1)) : ∀ n, m + 1 ≤ n → byteCnt u n = m + 1 := by
  intro n
  induction n with
  | zero => intro h; omega
  | succ n ih =>
    intro h
    rcases Nat.lt_or_ge m n with hlt | hge
    · rw [byteCnt_step u n (by
        rw [pow_256]
        refine Nat.div_eq_of_lt (Nat.lt_of_lt_of_le h2 (Nat.pow_le_pow_right (by omega) (by omega))))]
      exact ih hlt
    · obtain rfl : n = m := by omega
      rw [byteCnt_stop u n (by
        rw [pow_256]
        intro h0
        rcases Nat.div_eq_zero_iff.1 h0 with h3 | h3
        · have := Nat.pow_pos (n := n) (show 0 < 256 by decide); omega
        · omega)]
theorem take1_drop (bs : List UInt8) (a : Nat) (h : a < bs.length) : (bs.drop a).take 1 = [bs.getD a 0] := by
  rw [List.drop_eq_getElem_cons h, List.getD_eq_getElem?_getD, List.getElem?_eq_getElem h]
  rfl
set_option maxRecDepth 100000 in
theorem number_back {bs : List UInt8} {a u k : Nat} (h : numberL bs a = .ok (u, k)) : (bs.drop a).take k = formL u := by
  have hx := (bs.getD a 0).toNat_lt
  unfold numberL at h
  split at h
  · cases h
  rename_i h0
  split at h
  · rename_i h1
    injection h with h
    injection h with e1 e2
    subst e1 e2
    rw [take1_drop bs a (by omega)]
    unfold formL
    rw [if_pos h1]
    congr 1
    apply UInt8.toNat_inj.1
    rw [toNat_ofNat8]
    omega
  split at h
  · cases h
  split at h
  · cases h
  rename_i h1 h2 h3
  injection h with h
  injection h with e1 e2
  obtain ⟨m, hm⟩ : ∃ m, (bs.getD a 0).toNat - 247 = m + 1 := ⟨(bs.getD a 0).toNat - 247 - 1, by omega⟩
  rw [hm] at e1 e2 h2 h3
  obtain ⟨l, hl⟩ : ∃ l, l = (bs.drop (a + 1)).take (m + 1) := ⟨_, rfl⟩
  have hll : l.length = m + 1 := by rw [hl, List.length_take, List.length_drop]; omega
  rw [← hl] at e1 h3
  have h4 : ¬ (bs.getD (a + 1) 0).toNat = 0 ∧ ¬ beNat l < 248 := by
    constructor
    · exact fun h => h3 (.inl h)
    · exact fun h => h3 (.inr h)
  have hbl := beNat_lt l
  rw [hll] at hbl
  have hge : 256 ^ m ≤ beNat l := by
    cases l with
    | nil => simp at hll
    | cons x t =>
      rw [beNat_cons]
      have ht : t.length = m := by simpa using hll
      have hx0 : x = bs.getD (a + 1) 0 := by
        rw [List.drop_eq_getElem_cons (by omega), List.take_succ_cons] at hl
        injection hl with h5
        rw [h5, List.getD_eq_getElem?_getD, List.getElem?_eq_getElem (by omega)]
        rfl
      have : 1 ≤ x.toNat := by rw [hx0]; omega
      rw [ht]
      have := Nat.mul_le_mul_right (256 ^ m) this
      omega
  have hcnt := byteCnt_of (beNat l) m hge hbl 8 (by omega)
  subst e1
  unfold formL
  rw [if_neg h4.2, hcnt, ← e2, List.drop_eq_getElem_cons (by omega), Nat.add_comm 1, List.take_succ_cons, ← hl]
  have e3 := beBytes_be l
  rw [hll] at e3
  rw [e3]
  congr 1
  apply UInt8.toNat_inj.1
  rw [toNat_ofNat8]
  rw [List.getD_eq_getElem?_getD, List.getElem?_eq_getElem (by omega)] at hm hx
  simp only [Option.getD_some] at hm hx
  omega
/-- A form's length: k bytes behind the first. -/
theorem form_len (l : List UInt8) (hl : 1 ≤ l.length) (h8 : l.length ≤ 8) : (formL (beNat l)).length = 1 + l.length ↔ ¬ ((l.getD 0 0).toNat = 0 ∨ beNat l < 248) := by
  rw [length_formL]
  cases l with
  | nil => simp at hl
  | cons x t =>
    have hlt := beNat_lt (x :: t)
    have hc := beNat_cons x t
    have ht := beNat_lt t
    have h64 : beNat (x :: t) < 256 ^ 8 := Nat.lt_of_lt_of_le hlt (Nat.pow_le_pow_right (by omega) h8)
    rw [List.length_cons] at hlt hl h8 ⊢
    rw [show (x :: t).getD 0 0 = x from rfl]
    by_cases h248 : beNat (x :: t) < 248
    · rw [if_pos h248]
      constructor
      · intro h; omega
      · intro h; exact absurd (.inr h248) h
    · rw [if_neg h248]
      by_cases hx : x.toNat = 0
      · rw [hx, Nat.zero_mul, Nat.zero_add] at hc
        constructor
        · intro h
          have h2 := (byteCnt_spec (beNat (x :: t)) 8 h64).2 (by omega)
          have h3 : byteCnt (beNat (x :: t)) 8 - 1 = t.length := by omega
          rw [h3, hc] at h2
          have h4 := Nat.div_eq_of_lt ht
          omega
        · intro h; exact absurd (.inl hx) h
      · have hge : 256 ^ t.length ≤ beNat (x :: t) := by
          have := Nat.mul_le_mul_right (256 ^ t.length) (show 1 ≤ x.toNat by omega)
          omega
        have := byteCnt_of (beNat (x :: t)) t.length hge hlt 8 h8
        constructor
        · intro _ h; omega
        · intro _; omega
end Go.Proofs.Ytmmdkpnoncnjnaa
