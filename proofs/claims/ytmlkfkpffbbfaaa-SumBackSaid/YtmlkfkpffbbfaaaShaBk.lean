/- There and back, in plain Lean: digests and their texts. -/
import Derived.Test.YtmlkfkpffbbfaaaShaPq
namespace Go.Proofs.Ytmlkfkpffbbfaaa

/-- The byte of two digits of a text. -/
def pk (s : List UInt8) (j : Nat) : UInt8 := stepB (stepB 0 (hexI (s.getD (2 * j) 0)).toNat) (hexI (s.getD (2 * j + 1) 0)).toNat
theorem parse_pairs (s : List UInt8) : ∀ j, j ≤ 32 → parseK s (2 * j) = (List.range j).map (pk s) ++ List.replicate (32 - j) 0 := by
  intro j
  induction j with
  | zero => intro _; rfl
  | succ j ih =>
    intro hj
    have h := ih (by omega)
    obtain ⟨m, hm⟩ : ∃ m, 32 - j = m + 1 := ⟨31 - j, by omega⟩
    have hm2 : 32 - (j + 1) = m := by omega
    have hl : ((List.range j).map (pk s)).length = j := by simp
    rw [hm, List.replicate_succ] at h
    have h1 : parseK s (2 * j + 1) = (List.range j).map (pk s) ++ stepB 0 (hexI (s.getD (2 * j) 0)).toNat :: List.replicate m 0 := by
      rw [parseK, h, show 2 * j / 2 = j from by omega, List.set_append_right _ _ (by omega), hl, Nat.sub_self, List.set_cons_zero, List.getD_eq_getElem?_getD, List.getElem?_append_right (by omega), hl, Nat.sub_self]
      rfl
    rw [show 2 * (j + 1) = (2 * j + 1) + 1 from by omega, parseK, h1, show (2 * j + 1) / 2 = j from by omega, List.set_append_right _ _ (by omega), hl, Nat.sub_self, List.set_cons_zero, List.getD_eq_getElem?_getD, List.getElem?_append_right (by omega), hl, Nat.sub_self,
      hm2, List.range_succ, List.map_append, List.append_assoc]
    rfl
theorem parse_all (s : List UInt8) : parseK s 64 = (List.range 32).map (pk s) := by
  have h := parse_pairs s 32 (by omega)
  simpa using h
theorem text_at (l : List UInt8) : ∀ j, (textL l)[2 * j]? = l[j]?.map (fun u => digit (u.toNat / 16)) ∧ (textL l)[2 * j + 1]? = l[j]?.map (fun u => digit (u.toNat % 16)) := by
  induction l with
  | nil => intro j; simp [textL]
  | cons u l ih =>
    intro j
    have e : textL (u :: l) = digit (u.toNat / 16) :: digit (u.toNat % 16) :: textL l := rfl
    rw [e]
    cases j with
    | zero => exact ⟨rfl, rfl⟩
    | succ j =>
      have h := ih j
      rw [show 2 * (j + 1) = 2 * j + 1 + 1 from by omega, List.getElem?_cons_succ, List.getElem?_cons_succ, List.getElem?_cons_succ]
      refine ⟨h.1, ?_⟩
      rw [show 2 * j + 1 + 1 + 1 = (2 * j + 1) + 1 + 1 from rfl, List.getElem?_cons_succ, List.getElem?_cons_succ]
      exact h.2
theorem step2 (n m : Nat) (hn : n < 16) (hm : m < 16) : stepB (stepB 0 n) m = UInt8.ofNat (16 * n + m) := by
  have : ∀ n, n < 16 → ∀ m, m < 16 → stepB (stepB 0 n) m = UInt8.ofNat (16 * n + m) := by decide +kernel
  exact this n hn m hm
/-- The digest of a digest's text is it. -/
theorem parse_text (d : List UInt8) (hd : d.length = 32) : parseV (textL d) = .tuple #[aggB d, .int .i64 0] := by
  have hl : (textL d).length = 64 := by rw [length_textL, hd]
  have hpk : ∀ j, j < 32 → some (pk (textL d) j) = d[j]? := by
    intro j hj
    have hx := List.getElem?_eq_getElem (l := d) (i := j) (by omega)
    have h := text_at d j
    rw [hx] at h ⊢
    have h8 := (d[j]'(by omega)).toNat_lt
    unfold pk
    rw [List.getD_eq_getElem?_getD, h.1, List.getD_eq_getElem?_getD, h.2]
    simp only [Option.map_some, Option.getD_some]
    rw [hexI_digit _ (by omega), hexI_digit _ (by omega), Int.toNat_natCast, Int.toNat_natCast, step2 _ _ (by omega) (by omega),
      show 16 * ((d[j]'(by omega)).toNat / 16) + (d[j]'(by omega)).toNat % 16 = (d[j]'(by omega)).toNat from by omega]
    simp
  have hp : parseK (textL d) 64 = d := by
    rw [parse_all]
    apply List.ext_getElem?
    intro j
    rcases Nat.lt_or_ge j 32 with h | h
    · rw [List.getElem?_map, List.getElem?_range h, Option.map_some, hpk j h]
    · rw [List.getElem?_eq_none (by simpa using h), List.getElem?_eq_none (by omega)]
  have hh : allHex (textL d) = true := by
    unfold allHex
    rw [List.all_eq_true]
    intro c hc
    unfold textL at hc
    rw [List.mem_flatMap] at hc
    obtain ⟨u, -, hu⟩ := hc
    have h8 := u.toNat_lt
    unfold pair at hu
    simp only [List.mem_cons, List.not_mem_nil, or_false] at hu
    rcases hu with rfl | rfl
    · rw [hexI_digit _ (by omega)]; simp; omega
    · rw [hexI_digit _ (by omega)]; simp; omega
  unfold parseV
  rw [if_pos ⟨hl, hh⟩, hp]
/-- The text of a text's digest is it. -/
theorem text_parse (s : List UInt8) (hl : s.length = 64) (hh : allHex s = true) : textL (parseK s 64) = s := by
  have hv : ∀ i, i < 64 → ∃ n : Nat, n < 16 ∧ hexI (s.getD i 0) = (n : Int) ∧ s.getD i 0 = digit n := by
    intro i hi
    have hr := hexI_range (s.getD i 0)
    have h0 : 0 ≤ hexI (s.getD i 0) := by
      unfold allHex at hh
      rw [List.all_eq_true] at hh
      have := hh (s.getD i 0) (by rw [List.getD_eq_getElem?_getD, List.getElem?_eq_getElem (by omega)]; exact List.getElem_mem _)
      simpa using this
    refine ⟨(hexI (s.getD i 0)).toNat, by omega, by omega, ?_⟩
    exact (digit_hexI _ _ (by omega)).2 (by omega)
  rw [parse_all]
  have hlen : (textL ((List.range 32).map (pk s))).length = 64 := by rw [length_textL]; simp
  apply List.ext_getElem?
  intro i
  rcases Nat.lt_or_ge i 64 with h | h
  · have ht := text_at ((List.range 32).map (pk s)) (i / 2)
    rw [List.getElem?_map, List.getElem?_range (by omega), Option.map_some, Option.map_some, Option.map_some] at ht
    obtain ⟨n, hn, h1, h2⟩ := hv (2 * (i / 2)) (by omega)
    obtain ⟨m, hm, h3, h4⟩ := hv (2 * (i / 2) + 1) (by omega)
    have hp : (pk s (i / 2)).toNat = 16 * n + m := by
      unfold pk
      rw [h1, h3, Int.toNat_natCast, Int.toNat_natCast, step2 n m hn hm, UInt8.toNat_ofNat']
      omega
    rw [hp, show (16 * n + m) / 16 = n from by omega, show (16 * n + m) % 16 = m from by omega] at ht
    have hsi : s[i]? = some (s.getD i 0) := by rw [List.getD_eq_getElem?_getD, List.getElem?_eq_getElem (by omega)]; rfl
    rw [hsi]
    rcases Nat.mod_two_eq_zero_or_one i with hm2 | hm2
    · have e : i = 2 * (i / 2) := by omega
      have h5 := ht.1
      rw [← e] at h5 h2
      rw [h5, h2]
    · have e : i = 2 * (i / 2) + 1 := by omega
      have h5 := ht.2
      rw [← e] at h5 h4
      rw [h5, h4]
  · rw [List.getElem?_eq_none (by omega), List.getElem?_eq_none (by omega)]
end Go.Proofs.Ytmlkfkpffbbfaaa
