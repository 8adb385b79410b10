/- Numbers read, then a fault: what that ends with; the closures of MintCatches. -/
import Derived.Test.YtefaapcekbgjoaaOver
namespace Go.Proofs.Ytefaapcekbgjoaa
open Go.RowKit

/-- The first fault of n numbers from a place on; 0: none. -/
def numsF (bs : List UInt8) : Nat → Nat → Int
  | 0, _ => 0
  | n + 1, a => match rNumL bs a with
    | .ok (_, k) => numsF bs n (a + k)
    | .error f => f
theorem numsF_succ (bs : List UInt8) (n a : Nat) : numsF bs (n + 1) a = match rNumL bs a with
    | .ok (_, k) => numsF bs n (a + k)
    | .error f => f := rfl
def faultF (bs : List UInt8) (n : Nat) (f : Int) : Int := if numsF bs n 0 = 0 then f else numsF bs n 0
theorem numL_err {bs : List UInt8} {a : Nat} {f : Int} (h : numberL bs a = .error f) : f ≠ 0 := by
  unfold numberL at h
  repeat' split at h
  all_goals first | (injection h with h; omega) | cases h
theorem rNumL_err {bs : List UInt8} {a : Nat} {f : Int} (h : rNumL bs a = .error f) : f ≠ 0 := by
  unfold rNumL at h
  split at h
  · rename_i hn; injection h with h; subst h; exact numL_err hn
  · split at h
    · injection h with h; omega
    · cases h
/-- Ended by its own fault. -/
def FellF (w : World) (g : Nat) (A : Option Addr) (c : Nat) (bs : List UInt8) (f : Int) (S : Nat → Prop) (e : Ending) (w' : World) : Prop :=
  e = .panicked [endedE g] ∧ (∃ at_, Rd w' g A c bs at_ true f) ∧ Only S w w'
set_option maxRecDepth 100000 in
theorem catch1_any (g c n pr pf : Nat) (A : Option Addr) (bs : List UInt8) (f : Int) (w : World) (h : Rd w g A c bs 0 false 0) (hl : bs.length ≤ 140737488351232) (hf : f ≠ 0) (hn : n ≤ 1000)
    (hr : w.cell? ⟨pr, 0, none⟩ = some (.int .i64 (n : Int))) (hpf : w.cell? ⟨pf, 0, none⟩ = some (.int .i64 f)) (hgr : pr ≠ g) (hgf : pf ≠ g) :
    Calls Try.prog 40 #[.pointer (some ⟨g, 0, none⟩), .pointer (some ⟨pr, 0, none⟩), .pointer (some ⟨pf, 0, none⟩)] w (FellF w g A c bs (faultF bs n f) (fun b => b = g)) := by
  have H := Lib.hid h
  have hrl : pr < w.heap.size := block_lt_of_cell hr
  have hfl : pf < w.heap.size := block_lt_of_cell hpf
  clear h
  go_enter Try.func40, Try.ntmps40
  go_wp2_with fail
  go_loopw [4] (fun i wr => ∃ (j a : Nat), j ≤ n ∧ i = .int .i64 j ∧ Rd wr g A c bs a false 0 ∧ Hid (numsF bs n 0 = numsF bs (n - j) a) ∧ Only (fun b => b = g) w wr) (fun i _ => n - (intOf i).toNat)
  case atStart => exact ⟨0, 0, Nat.zero_le _, rfl, H.out, Lib.hid rfl, Only.refl _ _⟩
  case round =>
    rename World => w1
    obtain ⟨j, a, hj, rfl, hrd, hnum, hO⟩ := hrel
    have hr1 : w1.cell? ⟨pr, 0, none⟩ = some (.int .i64 (n : Int)) := by rw [(ocell hO).1 _ _ hrl hgr]; exact hr
    have hf1 : w1.cell? ⟨pf, 0, none⟩ = some (.int .i64 f) := by rw [(ocell hO).1 _ _ hfl hgf]; exact hpf
    have hrl1 := block_lt_of_cell hr1
    have hfl1 := block_lt_of_cell hf1
    have Hrd := Lib.hid hrd
    have HO := Lib.hid hO
    clear hrd hO
    by_cases hlt : j < n
    · have g1 : (j : Int) < (n : Int) := by omega
      have hc := rNum_any g c a A bs w1 Hrd.out hl
      obtain ⟨q, hq⟩ : ∃ q, n - j = q + 1 := ⟨n - j - 1, by omega⟩
      have hq2 : n - (j + 1) = q := by omega
      have hnum2 := hnum.out
      rw [hq, numsF_succ] at hnum2
      cases hr : rNumL bs a with
      | error f2 =>
        rw [hr] at hc hnum2
        dsimp only at hc hnum2
        have hf2 := rNumL_err hr
        have e : faultF bs n f = f2 := by unfold faultF; rw [hnum2, if_neg hf2]
        have E := Lib.hid e
        have Hc := Lib.hid hc
        clear hc hnum2 hr e hnum hf2
        go_wp2_with fail
        refine Hc.out.mono ?_
        rintro e w5 ⟨rfl, hrd5, ho5⟩
        have hO5 := Lib.hid (HO.out.trans ho5)
        rw [← E.out] at hrd5
        have Hrd5 := Lib.hid hrd5
        clear hrd5 ho5 Hc
        go_wp2_with fail
        exact ⟨rfl, rfl, Hrd5.out, hO5.out⟩
      | ok p =>
        obtain ⟨u, k⟩ := p
        rw [hr] at hc hnum2
        dsimp only at hc hnum2
        have Hn2 := Lib.hid hnum2
        have Hc := Lib.hid hc
        clear hc hnum2 hr hnum
        go_wp2_with fail
        refine Hc.out.mono ?_
        rintro e w5 ⟨rfl, hrd5, ho5⟩
        have hO5 := Lib.hid (HO.out.trans ho5)
        have Hrd5 := Lib.hid hrd5
        clear hrd5 ho5 Hc
        go_wp2_with fail
        exact ⟨⟨j + 1, a + k, by omega, by go_num, Hrd5.out, by rw [hq2]; exact Hn2, hO5.out⟩, by simp [intOf]; omega⟩
    · obtain rfl : j = n := by omega
      have hn0 := hnum.out
      rw [Nat.sub_self] at hn0
      have e : faultF bs j f = f := by unfold faultF; rw [if_pos (by rw [hn0]; rfl)]
      have E := Lib.hid e
      clear e hn0 hnum
      have hc := fail_any g c a A bs f hf w1 Hrd.out
      have Hc := Lib.hid hc
      clear hc
      go_wp2_with fail
      refine Hc.out.mono ?_
      rintro e w5 ⟨rfl, hrd5, ho5⟩
      have hO5 := Lib.hid (HO.out.trans ho5)
      rw [← E.out] at hrd5
      have Hrd5 := Lib.hid hrd5
      clear hrd5 ho5 Hc
      go_wp2_with fail
      exact ⟨rfl, rfl, Hrd5.out, hO5.out⟩
set_option maxRecDepth 100000 in
/-- A deferred recover. -/
theorem recover_any (g : Nat) (w : World) :
    CallsD Try.prog 73 #[] (.panicking [endedE g]) w fun e u' w' => e = .returned (.tuple #[]) ∧ u' = .panicking [{ endedE g with recovered := true }] ∧ w' = w := by
  refine callsD_of_wpS Try.func73 rfl fun c₀ cs hu => ?_
  simp only [Try.ntmps73]
  apply wpS_region
  simp [wpOpsS, go_sem, recoverD, hu, Exit.thenS, endedE]
  exact ⟨rfl, _, rfl, _, results_none rfl _ _ _, rfl, rfl, rfl⟩
set_option maxRecDepth 100000 in
theorem caught1_any (g c n pq pr pf : Nat) (A : Option Addr) (bs : List UInt8) (f : Int) (w : World) (h : Rd w g A c bs 0 false 0) (hl : bs.length ≤ 140737488351232) (hf : f ≠ 0) (hn : n ≤ 1000)
    (hr : w.cell? ⟨pr, 0, none⟩ = some (.int .i64 (n : Int))) (hpf : w.cell? ⟨pf, 0, none⟩ = some (.int .i64 f)) (hq : w.cell? ⟨pq, 0, none⟩ = some (.pointer (some ⟨g, 0, none⟩))) (hgr : pr ≠ g) (hgf : pf ≠ g) (hgq : pq ≠ g) :
    Calls Try.prog 72 #[.pointer (some ⟨pr, 0, none⟩), .pointer (some ⟨pq, 0, none⟩), .pointer (some ⟨pf, 0, none⟩)] w fun e w' => e = .returned (.tuple #[]) ∧ (∃ at_, Rd w' g A c bs at_ true (faultF bs n f)) ∧ Only (fun b => b = g) w w' := by
  have H := Lib.hid h
  have hrl : pr < w.heap.size := block_lt_of_cell hr
  have hfl : pf < w.heap.size := block_lt_of_cell hpf
  have hql : pq < w.heap.size := block_lt_of_cell hq
  clear h
  go_enter_defers Try.func72, Try.ntmps72
  go_wp2_with fail
  go_loopw [3] (fun i wr => ∃ (j a : Nat), j ≤ n ∧ i = .int .i64 j ∧ Rd wr g A c bs a false 0 ∧ Hid (numsF bs n 0 = numsF bs (n - j) a) ∧ Only (fun b => b = g) w wr) (fun i _ => n - (intOf i).toNat)
  case atStart => exact ⟨0, 0, Nat.zero_le _, rfl, H.out, Lib.hid rfl, Only.refl _ _⟩
  case round =>
    rename World => w1
    obtain ⟨j, a, hj, rfl, hrd, hnum, hO⟩ := hrel
    have hr1 : w1.cell? ⟨pr, 0, none⟩ = some (.int .i64 (n : Int)) := by rw [(ocell hO).1 _ _ hrl hgr]; exact hr
    have hf1 : w1.cell? ⟨pf, 0, none⟩ = some (.int .i64 f) := by rw [(ocell hO).1 _ _ hfl hgf]; exact hpf
    have hq1 : w1.cell? ⟨pq, 0, none⟩ = some (.pointer (some ⟨g, 0, none⟩)) := by rw [(ocell hO).1 _ _ hql hgq]; exact hq
    have hql1 := block_lt_of_cell hq1
    have hrl1 := block_lt_of_cell hr1
    have hfl1 := block_lt_of_cell hf1
    have Hrd := Lib.hid hrd
    have HO := Lib.hid hO
    clear hrd hO
    by_cases hlt : j < n
    · have g1 : (j : Int) < (n : Int) := by omega
      have hc := rNum_any g c a A bs w1 Hrd.out hl
      obtain ⟨q, hq⟩ : ∃ q, n - j = q + 1 := ⟨n - j - 1, by omega⟩
      have hq2 : n - (j + 1) = q := by omega
      have hnum2 := hnum.out
      rw [hq, numsF_succ] at hnum2
      cases hr : rNumL bs a with
      | error f2 =>
        rw [hr] at hc hnum2
        dsimp only at hc hnum2
        have hf2 := rNumL_err hr
        have e : faultF bs n f = f2 := by unfold faultF; rw [hnum2, if_neg hf2]
        have E := Lib.hid e
        have Hc := Lib.hid hc
        clear hc hnum2 hr e hnum hf2
        go_wp2_with fail
        refine Hc.out.mono ?_
        rintro e w5 ⟨rfl, hrd5, ho5⟩
        have hO5 := Lib.hid (HO.out.trans ho5)
        rw [← E.out] at hrd5
        have Hrd5 := Lib.hid hrd5
        clear hrd5 ho5 Hc
        go_wp2_with fail
        refine leaves_cons (f := 73) (args := #[]) (by simp) (by simp [go_sem]) ?_
        refine (recover_any g w5).mono ?_
        rintro e u' w6 ⟨rfl, rfl, rfl⟩
        exact ⟨.tuple #[], results_none rfl _ _ _, rfl, Hrd5.out, hO5.out⟩
      | ok p =>
        obtain ⟨u, k⟩ := p
        rw [hr] at hc hnum2
        dsimp only at hc hnum2
        have Hn2 := Lib.hid hnum2
        have Hc := Lib.hid hc
        clear hc hnum2 hr hnum
        go_wp2_with fail
        refine Hc.out.mono ?_
        rintro e w5 ⟨rfl, hrd5, ho5⟩
        have hO5 := Lib.hid (HO.out.trans ho5)
        have Hrd5 := Lib.hid hrd5
        clear hrd5 ho5 Hc
        go_wp2_with fail
        exact ⟨⟨j + 1, a + k, by omega, by go_num, Hrd5.out, by rw [hq2]; exact Hn2, hO5.out⟩, by simp [intOf]; omega⟩
    · obtain rfl : j = n := by omega
      have hn0 := hnum.out
      rw [Nat.sub_self] at hn0
      have e : faultF bs j f = f := by unfold faultF; rw [if_pos (by rw [hn0]; rfl)]
      have E := Lib.hid e
      clear e hn0 hnum
      have hc := fail_any g c a A bs f hf w1 Hrd.out
      have Hc := Lib.hid hc
      clear hc
      go_wp2_with fail
      refine Hc.out.mono ?_
      rintro e w5 ⟨rfl, hrd5, ho5⟩
      have hO5 := Lib.hid (HO.out.trans ho5)
      rw [← E.out] at hrd5
      have Hrd5 := Lib.hid hrd5
      clear hrd5 ho5 Hc
      go_wp2_with fail
      refine leaves_cons (f := 73) (args := #[]) (by simp) (by simp [go_sem]) ?_
      refine (recover_any g w5).mono ?_
      rintro e u' w6 ⟨rfl, rfl, rfl⟩
      exact ⟨.tuple #[], results_none rfl _ _ _, rfl, Hrd5.out, hO5.out⟩
end Go.Proofs.Ytefaapcekbgjoaa
