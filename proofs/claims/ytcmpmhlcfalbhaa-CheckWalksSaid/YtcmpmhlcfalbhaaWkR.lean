/- The law's round. -/
import Derived.Test.YtcmpmhlcfalbhaaChV
namespace Go.Proofs.Ytcmpmhlcfalbhaa
open Go.RowKit

theorem roundW_any (i : Int) (n k : Nat) (hk : (k : Int) = i % (n : Int)) (hn : 0 < n) (hn2 : n ≤ 9223372036854775807) (w : World) :
    Calls Try.prog 11 #[.int .i64 i, .int .i64 (n : Int)] w fun e w' => e = .returned (.int .i64 (k : Int)) ∧ w' = w := by
  have h1 := Int.emod_nonneg i (b := (n : Int)) (by omega)
  have h2 := Int.emod_lt_of_pos i (b := (n : Int)) (by omega)
  have H3 := Lib.hid hk
  obtain ⟨t, ht⟩ : ∃ t, t = i.tmod (n : Int) := ⟨_, rfl⟩
  have htm := Int.tmod_add_mul_tdiv i (n : Int)
  have hlo : -(n : Int) < t ∧ t < n := by
    rw [ht]
    have := Int.lt_tmod_of_pos i (b := (n : Int)) (by omega)
    have := Int.tmod_lt_of_pos i (b := (n : Int)) (by omega)
    omega
  have hfin : (if t < 0 then t + (n : Int) else t) = i % (n : Int) := by
    have h : t = i - (n : Int) * i.tdiv n := by rw [ht]; omega
    by_cases h0 : t < 0
    · rw [if_pos h0]
      have : (t + (n : Int)) % (n : Int) = i % (n : Int) := by
        rw [h, Int.add_emod_right, Int.sub_mul_emod_self_left]
      rw [← this, Int.emod_eq_of_lt (by omega) (by omega)]
    · rw [if_neg h0]
      have : t % (n : Int) = i % (n : Int) := by rw [h, Int.sub_mul_emod_self_left]
      rw [← this, Int.emod_eq_of_lt (by omega) (by omega)]
  have Hfin := Lib.hid hfin
  have Ht := Lib.hid ht
  have hnn : ((n : Int) == 0) = false := by rw [beq_eq_false_iff_ne]; omega
  have hrem : i.tmod (n : Int) = t := ht.symm
  obtain ⟨hlo1, hlo2⟩ := hlo
  have hnpos : (1 : Int) ≤ n := by omega
  clear hfin ht htm h1 h2 hk
  by_cases h0 : t < 0
  · rw [if_pos h0] at Hfin
    go_enter Try.func11, Try.ntmps11
    go_wp2_with fail
    go_ret
    exact ⟨by rw [H3.out, ← Hfin.out]; rfl, rfl⟩
  · rw [if_neg h0] at Hfin
    go_enter Try.func11, Try.ntmps11
    go_wp2_with fail
    go_ret
    exact ⟨by rw [H3.out, ← Hfin.out]; rfl, rfl⟩
theorem RV.takeR {w : World} {A : Option Addr} {vs : List Value} (h : RV w A vs) (n : Nat) : RV w A (vs.take n) := by
  rcases h with h | ⟨b, off, hA, hb, hc⟩
  · subst h; exact .inl (by simp)
  · exact .inr ⟨b, off, hA, hb, fun j u hu => by
      rw [List.getElem?_take] at hu
      split at hu
      · exact hc j u hu
      · cases hu⟩
end Go.Proofs.Ytcmpmhlcfalbhaa
