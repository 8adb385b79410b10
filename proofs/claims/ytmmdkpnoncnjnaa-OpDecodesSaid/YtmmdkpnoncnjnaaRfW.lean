/- The reference's rows: word, Operand, Of, Sys, Named, May. -/
import Derived.Test.YtmmdkpnoncnjnaaFacts
import Derived.Test.YtmmdkpnoncnjnaaOpD
namespace Go.Proofs.Ytmmdkpnoncnjnaa
open Go.RowKit

/-- The n-th of words with a blank behind each. -/
def wordF (s : List UInt8) : Nat → Nat → Nat → Nat → List UInt8
  | 0, _, _, _ => []
  | k + 1, i, fr, n => if i < s.length then (if (s.getD i 0).toNat = 32 then (if n = 0 then (s.drop fr).take (i - fr) else wordF s k (i + 1) (i + 1) (n - 1)) else wordF s k (i + 1) fr n) else []
def wordL (s : List UInt8) (n : Nat) : List UInt8 := wordF s (s.length + 1) 0 0 n
set_option maxRecDepth 100000 in
theorem word_any (s : List UInt8) (n : Nat) (w : World) (hs : s.length ≤ 1000) (hn : n ≤ 1000) : Calls Try.prog 50 #[.string ⟨s.toArray⟩, .int .i64 (n : Int)] w fun e w' => e = .returned (.string ⟨(wordL s n).toArray⟩) ∧ w' = w := by
  obtain ⟨R, hR⟩ : ∃ R, R = wordL s n := ⟨_, rfl⟩
  rw [← hR]
  have HR := Lib.hid (show R = wordF s (s.length + 1) 0 0 n from hR)
  clear hR
  go_enter Try.func50, Try.ntmps50
  go_wp2_with fail
  go_loop [1, 5, 6] (fun vn vf vi => ∃ i fr m k : Nat, vn = .int .i64 (m : Int) ∧ vf = .int .i64 (fr : Int) ∧ vi = .int .i64 (i : Int) ∧ fr ≤ i ∧ i ≤ s.length ∧ m ≤ 1000 ∧ s.length - i < k ∧ Hid (R = wordF s k i fr m)) (fun _ _ vi => s.length - (intOf vi).toNat)
  case atStart => exact ⟨0, 0, n, s.length + 1, rfl, rfl, rfl, by omega, by omega, hn, by omega, HR⟩
  case round =>
    obtain ⟨i, fr, m, k, rfl, rfl, rfl, h1, h2, h3, h4, hk⟩ := hrel
    obtain ⟨k, rfl⟩ : ∃ k', k = k' + 1 := ⟨k - 1, by omega⟩
    have hk2 := hk.out
    unfold wordF at hk2
    by_cases hi : i < s.length
    · rw [if_pos hi] at hk2
      obtain ⟨c, hc⟩ : ∃ c, c = s.getD i 0 := ⟨_, rfl⟩
      rw [← hc] at hk2
      have hsx : ∀ w', (Instr.index 9 (.string ⟨s.toArray⟩) (.int .i64 (i : Int))).run Try.prog w' = .ok (.int .u8 (c.toNat : Int)) w' := fun w' => by
        rw [run_index_string w' _ _ _ _ Try.underlying9, dif_pos ⟨by omega, by rw [show (⟨s.toArray⟩ : ByteArray).size = s.length from by simp [ByteArray.size]]; omega⟩]
        congr 3
        rw [hc, List.getD_eq_getElem?_getD, List.getElem?_eq_getElem hi]
        rfl
      have hex : (⟨s.toArray⟩ : ByteArray).extract fr i = ⟨((s.drop fr).take (i - fr)).toArray⟩ := by
        apply ByteArray.ext
        simp
      have Hex := Lib.hid hex
      clear hc hex
      have hc8 := c.toNat_lt
      generalize c.toNat = x at *
      by_cases h32 : x = 32
      · rw [if_pos h32] at hk2
        subst h32
        by_cases hm : m = 0
        · rw [if_pos hm] at hk2
          subst hm
          have Hk2 := Lib.hid hk2
          clear hk2 hk
          go_wp2_with fail
          go_ret
          exact ⟨by rw [Hk2.out, ← Hex.out]; rfl, rfl⟩
        · rw [if_neg hm] at hk2
          have Hk2 := Lib.hid hk2
          obtain ⟨m, rfl⟩ : ∃ m', m = m' + 1 := ⟨m - 1, by omega⟩
          have g1 : ¬ ((m + 1 : Nat) : Int) = 0 := by omega
          rw [Nat.add_sub_cancel] at Hk2
          clear hk2 hk
          go_wp2_with fail
          exact ⟨⟨i + 1, i + 1, m, k, by go_num, by go_num, by go_num, by omega, by omega, by omega, by omega, Hk2⟩, by simp [intOf]; omega⟩
      · rw [if_neg h32] at hk2
        have Hk2 := Lib.hid hk2
        have g1 : ¬ (x : Int) = 32 := by omega
        clear hk2 hk
        go_wp2_with fail
        exact ⟨⟨i + 1, fr, m, k, rfl, rfl, by go_num, by omega, by omega, by omega, by omega, Hk2⟩, by simp [intOf]; omega⟩
    · rw [if_neg hi] at hk2
      have Hk2 := Lib.hid hk2
      clear hk2 hk
      go_wp2_with fail
      rw [Hk2.out]
      go_ret
      exact ⟨rfl, rfl⟩
end Go.Proofs.Ytmmdkpnoncnjnaa
