/- What was read has one form: the bytes that were read are the form of what they told. Plain laws. -/
import Derived.Test.YtefaapcekbgjoaaRunG
import Derived.Test.YtefaapcekbgjoaaBackL
namespace Go.Proofs.Ytefaapcekbgjoaa
open Go.RowKit

theorem beBytes_add (k : Nat) : ∀ c u : Nat, beBytes (c * 256 ^ k + u) k = beBytes u k := by
  induction k with
  | zero => intro c u; rfl
  | succ k ih =>
    intro c u
    have hp : 0 < 256 ^ k := Nat.pow_pos (by decide)
    have e1 : (c * 256 ^ (k + 1) + u) / 256 ^ k = c * 256 + u / 256 ^ k := by
      rw [Nat.pow_succ, Nat.mul_comm (256 ^ k) 256, ← Nat.mul_assoc, Nat.add_comm, Nat.add_mul_div_right _ _ hp, Nat.add_comm]
    have e2 : beBytes (c * 256 ^ (k + 1) + u) k = beBytes u k := by
      rw [Nat.pow_succ, Nat.mul_comm (256 ^ k) 256, ← Nat.mul_assoc]
      exact ih _ _
    show UInt8.ofNat ((c * 256 ^ (k + 1) + u) / 2 ^ (8 * k)) :: beBytes (c * 256 ^ (k + 1) + u) k = UInt8.ofNat (u / 2 ^ (8 * k)) :: beBytes u k
    rw [e2, pow_256, e1]
    congr 1
    apply UInt8.toNat_inj.1
    rw [toNat_ofNat8, toNat_ofNat8]
    omega
theorem beBytes_be (l : List UInt8) : beBytes (beNat l) l.length = l := by
  induction l with
  | nil => rfl
  | cons x l ih =>
    have hp : 0 < 256 ^ l.length := Nat.pow_pos (by decide)
    have hlt := beNat_lt l
    rw [beNat_cons]
    show UInt8.ofNat ((x.toNat * 256 ^ l.length + beNat l) / 2 ^ (8 * l.length)) :: beBytes (x.toNat * 256 ^ l.length + beNat l) l.length = x :: l
    rw [beBytes_add, ih, pow_256, Nat.add_comm, Nat.add_mul_div_right _ _ hp, Nat.div_eq_of_lt hlt, Nat.zero_add]
    congr 1
    apply UInt8.toNat_inj.1
    rw [toNat_ofNat8]
    have := x.toNat_lt
    omega
theorem byteCnt_of (u m : Nat) (h1 : 256 ^ m ≤ u) (h2 : u < 256 ^ (m + 1)) : ∀ n, m + 1 ≤ n → byteCnt u n = m + 1 := by
  intro n
  induction n with
  | zero => intro h; omega
  | succ n ih =>
    intro h
    rcases Nat.lt_or_ge m n with hlt | hge
    · rw [byteCnt_step u n (by
        rw [pow_256]
        refine Nat.div_eq_of_lt (Nat.lt_of_lt_of_le h2 (Nat.pow_le_pow_right (by omega) (by omega))))]
      exact ih hlt
    · obtain rfl : n = m := by omega
      rw [byteCnt_stop u n (by
        rw [pow_256]
        intro h0
        rcases Nat.div_eq_zero_iff.1 h0 with h3 | h3
        · have := Nat.pow_pos (n := n) (show 0 < 256 by decide); omega
        · omega)]
theorem take1_drop (bs : List UInt8) (a : Nat) (h : a < bs.length) : (bs.drop a).take 1 = [bs.getD a 0] := by
  rw [List.drop_eq_getElem_cons h, List.getD_eq_getElem?_getD, List.getElem?_eq_getElem h]
  rfl
set_option maxRecDepth 100000 in
theorem number_back {bs : List UInt8} {a u k : Nat} (h : numberL bs a = .ok (u, k)) : (bs.drop a).take k = formL u := by
  have hx := (bs.getD a 0).toNat_lt
  unfold numberL at h
  split at h
  · cases h
  rename_i h0
  split at h
  · rename_i h1
    injection h with h
    injection h with e1 e2
    subst e1 e2
    rw [take1_drop bs a (by omega)]
    unfold formL
    rw [if_pos h1]
    congr 1
    apply UInt8.toNat_inj.1
    rw [toNat_ofNat8]
    omega
  split at h
  · cases h
  split at h
  · cases h
  rename_i h1 h2 h3
  injection h with h
  injection h with e1 e2
  obtain ⟨m, hm⟩ : ∃ m, (bs.getD a 0).toNat - 247 = m + 1 := ⟨(bs.getD a 0).toNat - 247 - 1, by omega⟩
  rw [hm] at e1 e2 h2 h3
  obtain ⟨l, hl⟩ : ∃ l, l = (bs.drop (a + 1)).take (m + 1) := ⟨_, rfl⟩
  have hll : l.length = m + 1 := by rw [hl, List.length_take, List.length_drop]; omega
  rw [← hl] at e1 h3
  have h4 : ¬ (bs.getD (a + 1) 0).toNat = 0 ∧ ¬ beNat l < 248 := by
    constructor
    · exact fun h => h3 (.inl h)
    · exact fun h => h3 (.inr h)
  have hbl := beNat_lt l
  rw [hll] at hbl
  have hge : 256 ^ m ≤ beNat l := by
    cases l with
    | nil => simp at hll
    | cons x t =>
      rw [beNat_cons]
      have ht : t.length = m := by simpa using hll
      have hx0 : x = bs.getD (a + 1) 0 := by
        rw [List.drop_eq_getElem_cons (by omega), List.take_succ_cons] at hl
        injection hl with h5
        rw [h5, List.getD_eq_getElem?_getD, List.getElem?_eq_getElem (by omega)]
        rfl
      have : 1 ≤ x.toNat := by rw [hx0]; omega
      rw [ht]
      have := Nat.mul_le_mul_right (256 ^ m) this
      omega
  have hcnt := byteCnt_of (beNat l) m hge hbl 8 (by omega)
  subst e1
  unfold formL
  rw [if_neg h4.2, hcnt, ← e2, List.drop_eq_getElem_cons (by omega), Nat.add_comm 1, List.take_succ_cons, ← hl]
  have e3 := beBytes_be l
  rw [hll] at e3
  rw [e3]
  congr 1
  apply UInt8.toNat_inj.1
  rw [toNat_ofNat8]
  rw [List.getD_eq_getElem?_getD, List.getElem?_eq_getElem (by omega)] at hm hx
  simp only [Option.getD_some] at hm hx
  omega
theorem fold_unfold (u : Nat) : foldN (unfoldN u) = u := by
  unfold unfoldN foldN
  split <;> split <;> omega
theorem step_form {bs : List UInt8} {a a2 : Nat} {x y : Item} (h : Step bs a x y a2) (hl : bs.length ≤ 140737488355328) : a ≤ a2 ∧ (bs.drop a).take (a2 - a) = itemL y ∧ Okay y := by
  obtain ⟨hkk, h2, h3⟩ := h
  clear hkk
  cases h3 with
  | num hk hr ha hp =>
    rename_i u k p
    subst ha hp
    have h4 := rNum_lt hr
    refine ⟨by omega, ?_, ⟨by show 1 ≤ x.kind; omega, by show x.kind ≤ 6; omega, fun _ => by show (0 : Int) ≤ (u : Int); omega, fun h => by have : x.kind = 3 := h; omega, by show _ ≤ (u : Int); omega, by show (u : Int) ≤ _; omega, by show 0 ≤ _; omega⟩⟩
    rw [Nat.add_sub_cancel_left, number_back h4.2.2.2]
    unfold itemL
    rw [if_pos hk, Int.toNat_natCast]
  | int hk hr ha hp =>
    rename_i u k p
    subst ha hp
    have h4 := number_lt hr
    have h5 : -9223372036854775808 ≤ unfoldN u ∧ unfoldN u ≤ 9223372036854775807 := by unfold unfoldN; split <;> omega
    refine ⟨by omega, ?_, ⟨by show 1 ≤ x.kind; omega, by show x.kind ≤ 6; omega, fun h => by have : x.kind = 1 := h; omega, fun h => by have : x.kind = 3 := h; omega, h5.1, h5.2, by show 0 ≤ _; omega⟩⟩
    rw [Nat.add_sub_cancel_left, number_back hr]
    unfold itemL
    rw [if_neg (by show ¬ x.kind = 1; omega), if_pos hk, fold_unfold]
  | bool hk hr ha hv hp =>
    rename_i b v p
    subst ha hp hv
    unfold rBoolL at hr
    split at hr
    · cases hr
    rename_i h0
    split at hr
    · cases hr
    rename_i h1
    injection hr with hr
    refine ⟨by omega, ?_, ⟨by show 1 ≤ x.kind; omega, by show x.kind ≤ 6; omega, fun h => by have : x.kind = 1 := h; omega, fun _ => by cases b <;> simp, by cases b <;> simp, by cases b <;> simp, by show 0 ≤ _; omega⟩⟩
    rw [Nat.add_sub_cancel_left, take1_drop bs a (by omega)]
    unfold itemL
    rw [if_neg (by show ¬ x.kind = 1; omega), if_neg (by show ¬ x.kind = 2; omega), if_pos hk]
    unfold boolL
    congr 1
    apply UInt8.toNat_inj.1
    cases b with
    | true =>
      have : (bs.getD a 0).toNat = 1 := by simpa using hr
      rw [this]; rfl
    | false =>
      have : (bs.getD a 0).toNat ≠ 1 := by simpa using hr
      have h5 : (bs.getD a 0).toNat = 0 := by omega
      rw [h5]; rfl
  | bytes hk hr =>
    rename_i c A ys
    unfold rBytesL at hr
    split at hr
    · cases hr
    rename_i n k hn
    split at hr
    · cases hr
    rename_i h0
    injection hr with hr
    injection hr with e1 e2
    have h4 := rNum_lt hn
    have hyl : ys.length = n := by rw [← e1, List.length_take, List.length_drop]; omega
    refine ⟨by omega, ?_, ⟨by show 1 ≤ x.kind; omega, by show x.kind ≤ 6; omega, fun h => by have : x.kind = 1 := h; omega, fun h => by have : x.kind = 3 := h; omega, by show _ ≤ (0 : Int); omega, by show (0 : Int) ≤ _; omega, by show ys.length ≤ _; omega⟩⟩
    unfold itemL
    rw [if_neg (by show ¬ x.kind = 1; omega), if_neg (by show ¬ x.kind = 2; omega), if_neg (by show ¬ x.kind = 3; omega), if_neg (by show ¬ x.kind = 6; omega)]
    show _ = formL ys.length ++ ys
    rw [hyl, ← e1, ← number_back h4.2.2.2, ← e2, show a + k + n - a = k + n by omega, List.take_add, List.drop_drop]
  | raw hk hr ha =>
    rename_i c A ys
    unfold rRawL at hr
    split at hr
    · cases hr
    split at hr
    · cases hr
    rename_i h0 h1
    injection hr with hr
    rw [Int.toNat_natCast] at hr
    have hyl : ys.length = x.p.ys.length := by rw [← hr, List.length_take, List.length_drop]; omega
    refine ⟨by omega, ?_, ⟨by show 1 ≤ x.kind; omega, by show x.kind ≤ 6; omega, fun h => by have : x.kind = 1 := h; omega, fun h => by have : x.kind = 3 := h; omega, by show _ ≤ (0 : Int); omega, by show (0 : Int) ≤ _; omega, by show ys.length ≤ _; omega⟩⟩
    unfold itemL
    rw [if_neg (by show ¬ x.kind = 1; omega), if_neg (by show ¬ x.kind = 2; omega), if_neg (by show ¬ x.kind = 3; omega), if_pos hk, ha, Nat.add_sub_cancel_left]
    exact hr
theorem told_form {bs : List UInt8} {ats : Nat → Nat} {all told : List Item} (hl : bs.length ≤ 140737488355328) (h0 : ats 0 = 0) (hlen : told.length = all.length)
    (h : ∀ j, j < all.length → ∀ (h2 : j < all.length), ∃ y, told[j]? = some y ∧ Step bs (ats j) all[j] y (ats (j + 1))) : ∀ k, k ≤ all.length → formsL (told.take k) = bs.take (ats k) := by
  intro k
  induction k with
  | zero => intro _; rw [h0]; rfl
  | succ k ih =>
    intro hk
    obtain ⟨y, hy, hs⟩ := h k (by omega) (by omega)
    obtain ⟨h1, h2, _⟩ := step_form hs hl
    have hkl : k < told.length := by omega
    have hyk : told[k] = y := by rw [List.getElem?_eq_getElem hkl] at hy; injection hy
    have e : formsL (told.take (k + 1)) = formsL (told.take k) ++ itemL y := by
      unfold formsL
      rw [List.take_succ_eq_append_getElem hkl, List.flatMap_append, hyk]
      simp
    rw [e, ih (by omega), ← h2, ← List.take_add]
    congr 1
    omega
theorem told_okay {bs : List UInt8} {ats : Nat → Nat} {all told : List Item} (hl : bs.length ≤ 140737488355328) (hlen : told.length = all.length)
    (h : ∀ j, j < all.length → ∀ (h2 : j < all.length), ∃ y, told[j]? = some y ∧ Step bs (ats j) all[j] y (ats (j + 1))) : ∀ y ∈ told, Okay y := by
  intro y hy
  obtain ⟨j, hj, rfl⟩ := List.mem_iff_getElem.1 hy
  obtain ⟨y', hy', hs⟩ := h j (by omega) (by omega)
  rw [List.getElem?_eq_getElem hj] at hy'
  injection hy' with e
  rw [e]
  exact (step_form hs hl).2.2
end Go.Proofs.Ytefaapcekbgjoaa
