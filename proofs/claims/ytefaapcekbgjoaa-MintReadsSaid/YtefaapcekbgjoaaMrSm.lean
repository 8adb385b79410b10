/- Same, of slices that read as bytes. -/
import Derived.Test.YtefaapcekbgjoaaRefK
namespace Go.Proofs.Ytefaapcekbgjoaa
open Go.RowKit

set_option maxRecDepth 100000 in
set_option maxHeartbeats 1000000 in
theorem same_rv (A A' : Option Addr) (c c' : Nat) (xs ys : List UInt8) (w : World) (hr : RV w A (xs.map bv)) (hr' : RV w A' (ys.map bv)) (hl : xs.length ≤ 9223372036854775807) (hm : ys.length ≤ 9223372036854775807) :
    Calls Try.prog 14 #[.slice A xs.length c, .slice A' ys.length c'] w (QuietRet w (.bool (xs == ys))) := by
  by_cases hlen : xs.length = ys.length
  · have hne : ((xs.length : Int) != (ys.length : Int)) = false := by simp [hlen]
    have Hlen := Lib.hid hlen
    clear hlen
    go_enter Try.func14, Try.ntmps14
    go_wp2_with fail
    go_loopw [5] (fun i wr => ∃ k n : Nat, k ≤ xs.length ∧ i = .int .i64 k ∧ Hid (wr = w.drewN n) ∧ Hid (xs.take k = ys.take k)) (fun i _ => xs.length - (intOf i).toNat)
    case atStart => exact ⟨0, 0, Nat.zero_le _, rfl, rfl, rfl⟩
    case round =>
      obtain ⟨k, n, hk, rfl, hwr, HT⟩ := hrel
      have e := hwr.out
      subst e
      clear hwr hne
      by_cases hlt : k < xs.length
      · have hlt' : k < ys.length := by have := Hlen.out; omega
        obtain ⟨b, off, rfl, hb, hc⟩ := hr.byte hlt
        obtain ⟨b', off', rfl, hb', hc'⟩ := hr'.byte hlt'
        by_cases heq : xs[k] = ys[k]
        · have ht : ((xs[k].toNat : Int) != (ys[k].toNat : Int)) = false := by simp [heq]
          have HT2 : Hid (xs.take (k + 1) = ys.take (k + 1)) := take_eq_step xs ys k hlt hlt' HT.out heq
          clear heq
          have hl1 : (k : Int) < xs.length := by omega
          have hl2 : (k : Int) < ys.length := by omega
          go_wp2_with fail
          go_quiet (fail)
          go_wp2_with fail
          exact ⟨⟨k + 1, n + nq, by omega, by go_num, rfl, HT2⟩, by simp [intOf]; omega⟩
        · have ht : ((xs[k].toNat : Int) != (ys[k].toNat : Int)) = true := by
            rw [bne_iff_ne]; intro h; exact heq (UInt8.toNat_inj.1 (by omega))
          have hl1 : (k : Int) < xs.length := by omega
          have hl2 : (k : Int) < ys.length := by omega
          have hres : Hid ((xs == ys) = false) := by
            show (xs == ys) = false
            rw [beq_eq_false_iff_ne]
            rintro rfl
            exact heq rfl
          clear heq
          go_wp2_with fail
          go_quiet (fail)
          go_wp2_with fail
          go_ret
          exact ⟨by show _ = Ending.returned (.bool (xs == ys)); rw [hres.out]; rfl, n + nq, by rw [World.drewN_drewN]⟩
      · go_wp2_with fail
        go_ret
        have hres : (xs == ys) = true := by
          rw [beq_iff_eq]
          have h1 := HT.out
          have h2 := Hlen.out
          rw [List.take_of_length_le (by omega), List.take_of_length_le (by omega)] at h1
          exact h1
        exact ⟨by show _ = Ending.returned (.bool (xs == ys)); rw [hres]; rfl, n, rfl⟩
  · have hne : ((xs.length : Int) != (ys.length : Int)) = true := by rw [bne_iff_ne]; omega
    have hres : (xs == ys) = false := by
      rw [beq_eq_false_iff_ne]
      rintro rfl
      exact hlen rfl
    have Hres := Lib.hid hres
    clear hlen hres
    go_enter Try.func14, Try.ntmps14
    go_wp2_with fail
    go_ret
    exact ⟨by show _ = Ending.returned (.bool (xs == ys)); rw [Hres.out]; rfl, 0, rfl⟩
end Go.Proofs.Ytefaapcekbgjoaa
