/- What is told of bytes is written as these bytes: plain laws. -/
import Derived.Test.YtadnjfoinmeloaaPrgD
namespace Go.Proofs.Ytadnjfoinmeloaa
open Go.RowKit

theorem num_take {bs : List UInt8} {a u k : Nat} (h : rNumL bs a = .ok (u, k)) : bs.take (a + k) = bs.take a ++ formL u ∧ u < 9223372036854775808 ∧ a + k ≤ bs.length := by
  obtain ⟨h1, h2, h3, -⟩ := rNum_back h
  exact ⟨by rw [List.take_add, h1], h2, h3⟩
theorem bytes_take {bs ys : List UInt8} {a a2 : Nat} (h : rBytesL bs a = .ok (ys, a2)) : bs.take a2 = bs.take a ++ (formL ys.length ++ ys) ∧ a2 ≤ bs.length := by
  unfold rBytesL at h
  split at h
  · cases h
  · rename_i n k hn
    obtain ⟨h1, h2, h3⟩ := num_take hn
    split at h
    · cases h
    · rename_i hlt
      injection h with h
      injection h with e1 e2
      subst e1 e2
      have hl : ((bs.drop (a + k)).take n).length = n := by rw [List.length_take, List.length_drop]; omega
      rw [hl, List.take_add, h1, List.append_assoc]
      exact ⟨rfl, by omega⟩
theorem code_back {cs : List UInt8} (h : (decL cs).2 = 0) : encL (decL cs).1 = (cs, 0) := by
  rcases dec_back cs with ⟨-, h1, -⟩ | ⟨h1, -⟩
  · exact h1
  · exact absurd h h1
theorem readFun_back {bs : List UInt8} {a a2 : Nat} {f : Fun} (h : readFun bs a = .ok f a2) : bs.take a2 = bs.take a ++ funL f ∧ a2 ≤ bs.length := by
  unfold readFun at h
  split at h
  · cases h
  rename_i u1 k1 h1
  split at h
  · cases h
  rename_i u2 k2 h2
  split at h
  · cases h
  rename_i u3 k3 h3
  split at h
  · cases h
  rename_i cs a3 h4
  split at h
  · rename_i hz
    injection h with e1 e2
    subst e1 e2
    obtain ⟨t1, -, -⟩ := num_take h1
    obtain ⟨t2, -, -⟩ := num_take h2
    obtain ⟨t3, -, -⟩ := num_take h3
    obtain ⟨t4, t5⟩ := bytes_take h4
    refine ⟨?_, t5⟩
    rw [t4, t3, t2, t1]
    unfold funL codeL
    rw [code_back hz]
    simp only [Int.toNat_natCast, List.append_assoc]
  · cases h
theorem readFun_err {bs : List UInt8} {a : Nat} {f : Int} (h : readFun bs a = .fell f ∨ readFun bs a = .refused f) : f ≠ 0 := by
  unfold readFun at h
  split at h
  · rename_i hn; rcases h with h | h
    · injection h with h; subst h; exact rNumL_err hn
    · cases h
  split at h
  · rename_i hn; rcases h with h | h
    · injection h with h; subst h; exact rNumL_err hn
    · cases h
  split at h
  · rename_i hn; rcases h with h | h
    · injection h with h; subst h; exact rNumL_err hn
    · cases h
  split at h
  · rename_i hn; rcases h with h | h
    · injection h with h; subst h; exact rBytes_err hn
    · cases h
  split at h
  · rcases h with h | h <;> cases h
  · rename_i hz; rcases h with h | h
    · cases h
    · injection h with h; subst h; exact hz
theorem readFuns_back {bs : List UInt8} : ∀ (n : Nat) (fs : List Fun) (a : Nat) (gs : List Fun) (a2 : Nat), readFuns bs n fs a = .ok gs a2 → a ≤ bs.length → ∃ rest, gs = fs ++ rest ∧ rest.length = n ∧ bs.take a2 = bs.take a ++ rest.flatMap funL ∧ a2 ≤ bs.length := by
  intro n
  induction n with
  | zero =>
    intro fs a gs a2 h ha
    unfold readFuns at h
    injection h with e1 e2
    subst e1 e2
    exact ⟨[], by simp, rfl, by simp, ha⟩
  | succ n ih =>
    intro fs a gs a2 h ha
    unfold readFuns at h
    split at h
    · cases h
    · cases h
    · rename_i f a3 hf
      obtain ⟨h1, h2⟩ := readFun_back hf
      obtain ⟨rest, h3, h4, h5, h6⟩ := ih _ _ _ _ h h2
      refine ⟨f :: rest, by rw [h3, List.append_assoc]; rfl, by rw [List.length_cons, h4], ?_, h6⟩
      rw [h5, h1, List.flatMap_cons, List.append_assoc]
theorem readFuns_err {bs : List UInt8} : ∀ (n : Nat) (fs : List Fun) (a : Nat) (f : Int), readFuns bs n fs a = .fell f ∨ readFuns bs n fs a = .refused f → f ≠ 0 := by
  intro n
  induction n with
  | zero => intro fs a f h; unfold readFuns at h; rcases h with h | h <;> cases h
  | succ n ih =>
    intro fs a f h
    unfold readFuns at h
    split at h
    · rename_i hf; rcases h with h | h
      · injection h with h; subst h; exact readFun_err (.inl hf)
      · cases h
    · rename_i hf; rcases h with h | h
      · cases h
      · injection h with h; subst h; exact readFun_err (.inr hf)
    · exact ih _ _ _ h
theorem readPrg_back {bs : List UInt8} {p : Prg} {a : Nat} (h : readPrg bs = .ok p a) : bs.take a = progL p ∧ a ≤ bs.length := by
  unfold readPrg at h
  split at h
  · cases h
  rename_i t k h1
  split at h
  rotate_left
  · cases h
  rename_i ht
  subst ht
  split at h
  · cases h
  rename_i m k2 h2
  split at h
  · cases h
  rename_i d a1 h3
  split at h
  · cases h
  rename_i n k3 h4
  split at h
  · cases h
  obtain ⟨t1, -, -⟩ := num_take h1
  obtain ⟨t2, -, -⟩ := num_take h2
  obtain ⟨t3, -⟩ := bytes_take h3
  obtain ⟨t4, -, t5⟩ := num_take h4
  cases hr : readFuns bs n [] (a1 + k3) with
  | fell f => rw [hr] at h; cases h
  | refused f => rw [hr] at h; cases h
  | ok fs a2 =>
    rw [hr] at h
    injection h with e1 e2
    subst e1 e2
    obtain ⟨rest, h5, h6, h7, h8⟩ := readFuns_back _ _ _ _ _ hr t5
    rw [List.nil_append] at h5
    subst h5
    refine ⟨?_, h8⟩
    rw [h7, t4, t3, t2, t1]
    unfold progL headL
    simp only [Int.toNat_natCast, List.append_assoc, List.take_zero, List.nil_append, h6]
theorem readPrg_err {bs : List UInt8} {f : Int} (h : readPrg bs = .fell f ∨ readPrg bs = .refused f) : f ≠ 0 := by
  unfold readPrg at h
  split at h
  · rename_i hn; rcases h with h | h
    · injection h with h; subst h; exact rNumL_err hn
    · cases h
  split at h
  rotate_left
  · rcases h with h | h
    · injection h with h; omega
    · cases h
  split at h
  · rename_i hn; rcases h with h | h
    · injection h with h; subst h; exact rNumL_err hn
    · cases h
  split at h
  · rename_i hn; rcases h with h | h
    · injection h with h; subst h; exact rBytes_err hn
    · cases h
  split at h
  · rename_i hn; rcases h with h | h
    · injection h with h; subst h; exact rNumL_err hn
    · cases h
  split at h
  · rcases h with h | h
    · injection h with h; omega
    · cases h
  generalize hr : readFuns _ _ _ _ = R at h
  cases R with
  | fell f2 =>
    rcases h with h | h
    · injection h with h; subst h; exact readFuns_err _ _ _ _ (.inl hr)
    · cases h
  | refused f2 =>
    rcases h with h | h
    · cases h
    · injection h with h; subst h; exact readFuns_err _ _ _ _ (.inr hr)
  | ok fs a2 => rcases h with h | h <;> cases h
/-- All that Decode can tell. -/
theorem decP_back (bs : List UInt8) : ((decP bs).2 = 0 ∧ encP (decP bs).1 = (bs, 0) ∧ checkL (decP bs).1 = 0) ∨ ((decP bs).2 ≠ 0 ∧ (decP bs).1 = noPrg) := by
  unfold decP
  split
  · exact .inr ⟨by decide, rfl⟩
  rename_i hl
  cases hr : readPrg bs with
  | fell f => exact .inr ⟨readPrg_err (.inl hr), rfl⟩
  | refused f => exact .inr ⟨readPrg_err (.inr hr), rfl⟩
  | ok p a =>
    dsimp only
    by_cases ha : a = bs.length
    · rw [if_pos ha]
      by_cases hc : checkL p = 0
      · rw [if_pos hc]
        obtain ⟨h1, -⟩ := readPrg_back hr
        rw [ha, List.take_length] at h1
        refine .inl ⟨rfl, ?_, hc⟩
        unfold encP
        rw [if_pos hc, ← h1, if_neg hl]
      · rw [if_neg hc]; exact .inr ⟨hc, rfl⟩
    · rw [if_neg ha]; exact .inr ⟨by decide, rfl⟩
end Go.Proofs.Ytadnjfoinmeloaa
