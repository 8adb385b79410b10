/- The walks of through's second closure and of MintThrows' closure. -/
import Derived.Test.YtefaapcekbgjoaaThrD
namespace Go.Proofs.Ytefaapcekbgjoaa
open Go.RowKit

set_option maxRecDepth 100000 in
/-- A fault among the numbers: ended by it. -/
theorem thr2_fault (g c n pr p5 p7 p8 p9 p10 : Nat) (A : Option Addr) (bs : List UInt8) (w : World) (h : Rd w g A c bs 0 false 0) (hl : bs.length ≤ 140737488351232) (hF : numsF bs n 0 ≠ 0) (hn : n ≤ 1000)
    (hr : w.cell? ⟨pr, 0, none⟩ = some (.int .i64 (n : Int))) (hgr : pr ≠ g) :
    Calls Try.prog 59 #[.pointer (some ⟨g, 0, none⟩), .pointer (some ⟨pr, 0, none⟩), .pointer (some ⟨p5, 0, none⟩), .pointer (some ⟨p7, 0, none⟩), .pointer (some ⟨p8, 0, none⟩), .pointer (some ⟨p9, 0, none⟩), .pointer (some ⟨p10, 0, none⟩)] w (FellF w g A c bs (numsF bs n 0) (fun b => b = g)) := by
  have H := Lib.hid h
  have hrl : pr < w.heap.size := block_lt_of_cell hr
  clear h
  go_enter Try.func59, Try.ntmps59
  go_wp2_with fail
  go_loopw [8] (fun i wr => ∃ (j a : Nat), j ≤ n ∧ i = .int .i64 j ∧ Rd wr g A c bs a false 0 ∧ Hid (numsF bs n 0 = numsF bs (n - j) a) ∧ Only (fun b => b = g) w wr) (fun i _ => n - (intOf i).toNat)
  case atStart => exact ⟨0, 0, Nat.zero_le _, rfl, H.out, Lib.hid rfl, Only.refl _ _⟩
  case round =>
    rename World => w1
    obtain ⟨j, a, hj, rfl, hrd, hnum, hO⟩ := hrel
    have hr1 : w1.cell? ⟨pr, 0, none⟩ = some (.int .i64 (n : Int)) := by rw [(ocell hO).1 _ _ hrl hgr]; exact hr
    have hrl1 := block_lt_of_cell hr1
    have Hrd := Lib.hid hrd
    have HO := Lib.hid hO
    clear hrd hO
    by_cases hlt : j < n
    · have g1 : (j : Int) < (n : Int) := by omega
      have hc := rNum_any g c a A bs w1 Hrd.out hl
      obtain ⟨q, hq⟩ : ∃ q, n - j = q + 1 := ⟨n - j - 1, by omega⟩
      have hq2 : n - (j + 1) = q := by omega
      have hnum2 := hnum.out
      rw [hq, numsF_succ] at hnum2
      cases hr : rNumL bs a with
      | error f2 =>
        rw [hr] at hc hnum2
        dsimp only at hc hnum2
        have hf2 := rNumL_err hr
        have e : numsF bs n 0 = f2 := hnum2
        have E := Lib.hid e
        have Hc := Lib.hid hc
        clear hc hnum2 hr e hnum hf2
        go_wp2_with fail
        refine Hc.out.mono ?_
        rintro e w5 ⟨rfl, hrd5, ho5⟩
        have hO5 := Lib.hid (HO.out.trans ho5)
        rw [← E.out] at hrd5
        have Hrd5 := Lib.hid hrd5
        clear hrd5 ho5 Hc
        go_wp2_with fail
        exact ⟨rfl, rfl, Hrd5.out, hO5.out⟩
      | ok p =>
        obtain ⟨u, k⟩ := p
        rw [hr] at hc hnum2
        dsimp only at hc hnum2
        have Hn2 := Lib.hid hnum2
        have Hc := Lib.hid hc
        clear hc hnum2 hr hnum
        go_wp2_with fail
        refine Hc.out.mono ?_
        rintro e w5 ⟨rfl, hrd5, ho5⟩
        have hO5 := Lib.hid (HO.out.trans ho5)
        have Hrd5 := Lib.hid hrd5
        clear hrd5 ho5 Hc
        go_wp2_with fail
        exact ⟨⟨j + 1, a + k, by omega, by go_num, Hrd5.out, by rw [hq2]; exact Hn2, hO5.out⟩, by simp [intOf]; omega⟩
    · obtain rfl : j = n := by omega
      exfalso
      have hn0 := hnum.out
      rw [Nat.sub_self] at hn0
      exact hF (by rw [hn0]; rfl)
set_option maxRecDepth 100000 in
theorem mthr_fault (g c n pr : Nat) (A : Option Addr) (bs : List UInt8) (w : World) (h : Rd w g A c bs 0 false 0) (hl : bs.length ≤ 140737488351232) (hF : numsF bs n 0 ≠ 0) (hn : n ≤ 1000)
    (hr : w.cell? ⟨pr, 0, none⟩ = some (.int .i64 (n : Int))) (hgr : pr ≠ g) :
    Calls Try.prog 31 #[.pointer (some ⟨g, 0, none⟩), .pointer (some ⟨pr, 0, none⟩)] w (FellF w g A c bs (numsF bs n 0) (fun b => b = g)) := by
  have H := Lib.hid h
  have hrl : pr < w.heap.size := block_lt_of_cell hr
  clear h
  go_enter Try.func31, Try.ntmps31
  go_wp2_with fail
  go_loopw [3] (fun i wr => ∃ (j a : Nat), j ≤ n ∧ i = .int .i64 j ∧ Rd wr g A c bs a false 0 ∧ Hid (numsF bs n 0 = numsF bs (n - j) a) ∧ Only (fun b => b = g) w wr) (fun i _ => n - (intOf i).toNat)
  case atStart => exact ⟨0, 0, Nat.zero_le _, rfl, H.out, Lib.hid rfl, Only.refl _ _⟩
  case round =>
    rename World => w1
    obtain ⟨j, a, hj, rfl, hrd, hnum, hO⟩ := hrel
    have hr1 : w1.cell? ⟨pr, 0, none⟩ = some (.int .i64 (n : Int)) := by rw [(ocell hO).1 _ _ hrl hgr]; exact hr
    have hrl1 := block_lt_of_cell hr1
    have Hrd := Lib.hid hrd
    have HO := Lib.hid hO
    clear hrd hO
    by_cases hlt : j < n
    · have g1 : (j : Int) < (n : Int) := by omega
      have hc := rNum_any g c a A bs w1 Hrd.out hl
      obtain ⟨q, hq⟩ : ∃ q, n - j = q + 1 := ⟨n - j - 1, by omega⟩
      have hq2 : n - (j + 1) = q := by omega
      have hnum2 := hnum.out
      rw [hq, numsF_succ] at hnum2
      cases hr : rNumL bs a with
      | error f2 =>
        rw [hr] at hc hnum2
        dsimp only at hc hnum2
        have hf2 := rNumL_err hr
        have e : numsF bs n 0 = f2 := hnum2
        have E := Lib.hid e
        have Hc := Lib.hid hc
        clear hc hnum2 hr e hnum hf2
        go_wp2_with fail
        refine Hc.out.mono ?_
        rintro e w5 ⟨rfl, hrd5, ho5⟩
        have hO5 := Lib.hid (HO.out.trans ho5)
        rw [← E.out] at hrd5
        have Hrd5 := Lib.hid hrd5
        clear hrd5 ho5 Hc
        go_wp2_with fail
        exact ⟨rfl, rfl, Hrd5.out, hO5.out⟩
      | ok p =>
        obtain ⟨u, k⟩ := p
        rw [hr] at hc hnum2
        dsimp only at hc hnum2
        have Hn2 := Lib.hid hnum2
        have Hc := Lib.hid hc
        clear hc hnum2 hr hnum
        go_wp2_with fail
        refine Hc.out.mono ?_
        rintro e w5 ⟨rfl, hrd5, ho5⟩
        have hO5 := Lib.hid (HO.out.trans ho5)
        have Hrd5 := Lib.hid hrd5
        clear hrd5 ho5 Hc
        go_wp2_with fail
        exact ⟨⟨j + 1, a + k, by omega, by go_num, Hrd5.out, by rw [hq2]; exact Hn2, hO5.out⟩, by simp [intOf]; omega⟩
    · obtain rfl : j = n := by omega
      exfalso
      have hn0 := hnum.out
      rw [Nat.sub_self] at hn0
      exact hF (by rw [hn0]; rfl)
set_option maxRecDepth 100000 in
set_option maxHeartbeats 1000000 in
/-- No fault among the numbers: all that is left is taken. -/
theorem mthr_ok (g c n pr : Nat) (A : Option Addr) (bs : List UInt8) (w : World) (h : Rd w g A c bs 0 false 0) (hl : bs.length ≤ 140737488351232) (hF : numsF bs n 0 = 0) (hn : n ≤ 1000)
    (hr : w.cell? ⟨pr, 0, none⟩ = some (.int .i64 (n : Int))) (hgr : pr ≠ g) :
    Calls Try.prog 31 #[.pointer (some ⟨g, 0, none⟩), .pointer (some ⟨pr, 0, none⟩)] w fun e w' => e = .returned (.tuple #[]) ∧ Rd w' g A c bs bs.length false 0 ∧ Only (fun b => b = g) w w' := by
  have H := Lib.hid h
  have hrl : pr < w.heap.size := block_lt_of_cell hr
  clear h
  go_enter Try.func31, Try.ntmps31
  go_wp2_with fail
  go_loopw [3] (fun i wr => ∃ (j a : Nat), j ≤ n ∧ i = .int .i64 j ∧ Rd wr g A c bs a false 0 ∧ Hid (numsF bs n 0 = numsF bs (n - j) a) ∧ Only (fun b => b = g) w wr) (fun i _ => n - (intOf i).toNat)
  case atStart => exact ⟨0, 0, Nat.zero_le _, rfl, H.out, Lib.hid rfl, Only.refl _ _⟩
  case round =>
    rename World => w1
    obtain ⟨j, a, hj, rfl, hrd, hnum, hO⟩ := hrel
    have hr1 : w1.cell? ⟨pr, 0, none⟩ = some (.int .i64 (n : Int)) := by rw [(ocell hO).1 _ _ hrl hgr]; exact hr
    have hrl1 := block_lt_of_cell hr1
    have Hrd := Lib.hid hrd
    have HO := Lib.hid hO
    clear hrd hO
    by_cases hlt : j < n
    · have g1 : (j : Int) < (n : Int) := by omega
      have hc := rNum_any g c a A bs w1 Hrd.out hl
      obtain ⟨q, hq⟩ : ∃ q, n - j = q + 1 := ⟨n - j - 1, by omega⟩
      have hq2 : n - (j + 1) = q := by omega
      have hnum2 := hnum.out
      rw [hq, numsF_succ] at hnum2
      cases hr : rNumL bs a with
      | error f2 =>
        rw [hr] at hc hnum2
        dsimp only at hc hnum2
        have hf2 := rNumL_err hr
        exact absurd (hnum2 ▸ hF : f2 = 0) hf2
      | ok p =>
        obtain ⟨u, k⟩ := p
        rw [hr] at hc hnum2
        dsimp only at hc hnum2
        have Hn2 := Lib.hid hnum2
        have Hc := Lib.hid hc
        clear hc hnum2 hr hnum
        go_wp2_with fail
        refine Hc.out.mono ?_
        rintro e w5 ⟨rfl, hrd5, ho5⟩
        have hO5 := Lib.hid (HO.out.trans ho5)
        have Hrd5 := Lib.hid hrd5
        clear hrd5 ho5 Hc
        go_wp2_with fail
        exact ⟨⟨j + 1, a + k, by omega, by go_num, Hrd5.out, by rw [hq2]; exact Hn2, hO5.out⟩, by simp [intOf]; omega⟩
    · obtain rfl : j = n := by omega
      have hle := Hrd.out.le
      have hlf := rLeft_any g c a A bs w1 Hrd.out hl
      have Hlf := Lib.hid hlf
      clear hlf hnum
      go_wp2_with fail
      refine Hlf.out.mono ?_
      rintro e w2 ⟨rfl, m, hw2⟩
      have hb2 : Below w1.heap.size w1 w2 := by rw [hw2]; exact below_drewN (Below.refl _ _) m
      have hraw := rRaw_any g c a ((bs.length - a : Nat) : Int) A bs w2 (Hrd.out.below hb2) hl
      rw [show rRawL bs a ((bs.length - a : Nat) : Int) = .ok (bs.drop a) from by
        unfold rRawL
        rw [if_neg (by omega), if_neg (by omega), Int.toNat_natCast, List.take_of_length_le (by rw [List.length_drop]; omega)]] at hraw
      dsimp only at hraw
      rw [Int.toNat_natCast, show a + (bs.length - a) = bs.length from by omega] at hraw
      have Hraw := Lib.hid hraw
      have HO2 := Lib.hid (HO.out.trans (Only.of_fresh (S := fun b => b = g) hb2))
      clear hraw hb2 hw2 Hlf
      go_wp2_with fail
      refine Hraw.out.mono ?_
      rintro e w3 ⟨A3, c3, rfl, hown3, hrd3, ho3⟩
      have Hrd3 := Lib.hid hrd3
      have HO3 := Lib.hid (HO2.out.trans ho3)
      clear hown3 hrd3 ho3 Hraw
      go_wp2_with fail
      go_end0
      exact ⟨rfl, Hrd3.out, HO3.out⟩
end Go.Proofs.Ytefaapcekbgjoaa
