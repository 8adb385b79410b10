/- The reference's Sys, Named, SysNamed; the law's shape. -/
import Derived.Test.YtmmdkpnoncnjnaaRfTab
namespace Go.Proofs.Ytmmdkpnoncnjnaa
open Go.RowKit
attribute [local go_sem] rowVal

set_option maxRecDepth 100000 in
theorem refSys_out (op : Int) (w : World) (h : op < 0 ∨ 5 ≤ op) : Calls Try.prog 29 #[.int .i64 op] w (OfPost w callTab op) := by
  have e : rowAt callTab op = (([], 0, 0, 0), false) := by
    unfold rowAt
    split
    · rw [List.getElem?_eq_none (by have : callTab.length = 5 := by decide +kernel
                                    omega)]
    · rfl
  have He := Lib.hid e
  clear e
  rcases h with h | h
  · go_enter Try.func29, Try.ntmps29
    go_wp2_with fail
    refine bodyPost_ret (v := .tuple #[rowVal ([], 0, 0, 0), .bool false]) ?_ rfl ⟨by rw [He.out], (Below.refl _ _).alloc (Nat.le_refl _) _⟩
    simp [results, Try.results29, go_sem]
  · have h0 : decide (op < 0) = false := decide_eq_false (by omega)
    go_enter Try.func29, Try.ntmps29
    go_wp2_with fail
    refine bodyPost_ret (v := .tuple #[rowVal ([], 0, 0, 0), .bool false]) ?_ rfl ⟨by rw [He.out], (Below.refl _ _).alloc (Nat.le_refl _) _⟩
    simp [results, Try.results29, go_sem]
set_option maxRecDepth 100000 in
set_option maxHeartbeats 1000000 in
theorem refSys_in (n : Nat) (w : World) (h : n < 5) : Calls Try.prog 29 #[.int .i64 (n : Int)] w (OfPost w callTab (n : Int)) := by
  have hw := calls_word n h
  obtain ⟨nm, hnm⟩ : ∃ nm, (rowAt callTab (n : Int)).1.1 = nm := ⟨_, rfl⟩
  rw [hnm] at hw
  have hword := fun w => word_any callsL n w (by decide) (by omega)
  rw [hw] at hword
  have Hword := Lib.hid hword
  have Hnm := Lib.hid hnm
  clear hw hword hnm
  have hk : n = 0 ∨ n = 1 ∨ n = 2 ∨ n = 3 ∨ n = 4 := by omega
  clear h
  rcases hk with rfl | rfl | rfl | rfl | rfl
  · go_enter Try.func29, Try.ntmps29
    go_wp2_with fail
    refine (Hword.out _).mono ?_
    rintro e w1 ⟨rfl, rfl⟩
    go_wp2_with fail
    refine bodyPost_ret (v := .tuple #[.agg #[.string ⟨nm.toArray⟩, .int .i64 0, .int .i64 3, .int .i64 1], .bool true]) ?_ rfl ⟨?_, ((Below.refl _ _).alloc (Nat.le_refl _) _).alloc (by simp) _⟩
    · simp [results, Try.results29, go_sem]
    · rw [row_mk Hnm.out (show _ = (0 : Int) by decide +kernel) (show _ = (3, 1) by decide +kernel) (by decide +kernel)]; rfl
  · go_enter Try.func29, Try.ntmps29
    go_wp2_with fail
    refine (Hword.out _).mono ?_
    rintro e w1 ⟨rfl, rfl⟩
    go_wp2_with fail
    refine bodyPost_ret (v := .tuple #[.agg #[.string ⟨nm.toArray⟩, .int .i64 0, .int .i64 3, .int .i64 1], .bool true]) ?_ rfl ⟨?_, ((Below.refl _ _).alloc (Nat.le_refl _) _).alloc (by simp) _⟩
    · simp [results, Try.results29, go_sem]
    · rw [row_mk Hnm.out (show _ = (0 : Int) by decide +kernel) (show _ = (3, 1) by decide +kernel) (by decide +kernel)]; rfl
  · go_enter Try.func29, Try.ntmps29
    go_wp2_with fail
    refine (Hword.out _).mono ?_
    rintro e w1 ⟨rfl, rfl⟩
    go_wp2_with fail
    refine bodyPost_ret (v := .tuple #[.agg #[.string ⟨nm.toArray⟩, .int .i64 0, .int .i64 3, .int .i64 1], .bool true]) ?_ rfl ⟨?_, ((Below.refl _ _).alloc (Nat.le_refl _) _).alloc (by simp) _⟩
    · simp [results, Try.results29, go_sem]
    · rw [row_mk Hnm.out (show _ = (0 : Int) by decide +kernel) (show _ = (3, 1) by decide +kernel) (by decide +kernel)]; rfl
  · go_enter Try.func29, Try.ntmps29
    go_wp2_with fail
    refine (Hword.out _).mono ?_
    rintro e w1 ⟨rfl, rfl⟩
    go_wp2_with fail
    refine bodyPost_ret (v := .tuple #[.agg #[.string ⟨nm.toArray⟩, .int .i64 0, .int .i64 4, .int .i64 1], .bool true]) ?_ rfl ⟨?_, ((Below.refl _ _).alloc (Nat.le_refl _) _).alloc (by simp) _⟩
    · simp [results, Try.results29, go_sem]
    · rw [row_mk Hnm.out (show _ = (0 : Int) by decide +kernel) (show _ = (4, 1) by decide +kernel) (by decide +kernel)]; rfl
  · go_enter Try.func29, Try.ntmps29
    go_wp2_with fail
    refine (Hword.out _).mono ?_
    rintro e w1 ⟨rfl, rfl⟩
    go_wp2_with fail
    refine bodyPost_ret (v := .tuple #[.agg #[.string ⟨nm.toArray⟩, .int .i64 0, .int .i64 1, .int .i64 1], .bool true]) ?_ rfl ⟨?_, ((Below.refl _ _).alloc (Nat.le_refl _) _).alloc (by simp) _⟩
    · simp [results, Try.results29, go_sem]
    · rw [row_mk Hnm.out (show _ = (0 : Int) by decide +kernel) (show _ = (1, 1) by decide +kernel) (by decide +kernel)]; rfl
theorem refSys_any (op : Int) (w : World) : Calls Try.prog 29 #[.int .i64 op] w (OfPost w callTab op) := by
  by_cases h : op < 0 ∨ 5 ≤ op
  · exact refSys_out op w h
  · obtain ⟨n, rfl⟩ := Int.eq_ofNat_of_zero_le (show 0 ≤ op by omega)
    exact refSys_in n w (by omega)
set_option maxRecDepth 100000 in
theorem refNamed_any (name : ByteArray) (w : World) : Calls Try.prog 31 #[.string name] w fun e w' => e = .returned (.tuple #[.int .i64 (placeFrom name.toList shapeTab 0).1, .bool (placeFrom name.toList shapeTab 0).2]) ∧ w' = w := by
  have hlen : shapeTab.length = 46 := by decide +kernel
  have Hlen := Lib.hid hlen
  obtain ⟨R, hR⟩ : ∃ R, R = placeFrom name.toList shapeTab 0 := ⟨_, rfl⟩
  rw [← hR]
  have HR := Lib.hid (show R = placeFrom name.toList (shapeTab.drop 0) 0 from hR)
  clear hR hlen
  go_enter Try.func31, Try.ntmps31
  go_wp2_with fail
  go_loop [4] (fun i => ∃ k : Nat, k ≤ 46 ∧ i = .int .i64 k ∧ Hid (R = placeFrom name.toList (shapeTab.drop k) k)) (fun i => 46 - (intOf i).toNat)
  case atStart => exact ⟨0, Nat.zero_le _, rfl, HR⟩
  case round =>
    obtain ⟨k, hk, rfl, HP⟩ := hrel
    by_cases hlt : k < 46
    · have hkl : k < shapeTab.length := by rw [Hlen.out]; exact hlt
      have hword := word_any namesL k w (by decide) (by omega)
      have hrow : (rowAt shapeTab (k : Int)).1 = shapeTab[k] := by
        unfold rowAt
        rw [if_pos (by omega), Int.toNat_natCast, List.getElem?_eq_getElem hkl]
      rw [names_word k hlt, hrow] at hword
      have Hword := Lib.hid hword
      have Hmiss := Lib.hid (placeFrom_miss name.toList shapeTab k hkl)
      have Hhit := Lib.hid (placeFrom_hit name.toList shapeTab k hkl)
      clear hword hrow
      generalize shapeTab[k].1 = l at *
      go_wp2_with fail
      refine Hword.out.mono ?_
      rintro e w1 ⟨rfl, rfl⟩
      cases he : (l == name.toList) with
      | true =>
        go_wp2_with fail
        go_ret2
        exact ⟨by rw [HP.out, Hhit.out he]; rfl, rfl⟩
      | false =>
        go_wp2_with fail
        exact ⟨⟨k + 1, by omega, by go_num, by show R = _; rw [HP.out, Hmiss.out he]⟩, by simp [intOf]; omega⟩
    · go_wp2_with fail
      go_ret2
      exact ⟨by rw [HP.out, placeFrom_end _ _ _ (by rw [Hlen.out]; exact hlt)]; rfl, rfl⟩
set_option maxRecDepth 100000 in
theorem refSysNamed_any (name : ByteArray) (w : World) : Calls Try.prog 32 #[.string name] w fun e w' => e = .returned (.tuple #[.int .i64 (placeFrom name.toList callTab 0).1, .bool (placeFrom name.toList callTab 0).2]) ∧ w' = w := by
  have hlen : callTab.length = 5 := by decide +kernel
  have Hlen := Lib.hid hlen
  obtain ⟨R, hR⟩ : ∃ R, R = placeFrom name.toList callTab 0 := ⟨_, rfl⟩
  rw [← hR]
  have HR := Lib.hid (show R = placeFrom name.toList (callTab.drop 0) 0 from hR)
  clear hR hlen
  go_enter Try.func32, Try.ntmps32
  go_wp2_with fail
  go_loop [4] (fun i => ∃ k : Nat, k ≤ 5 ∧ i = .int .i64 k ∧ Hid (R = placeFrom name.toList (callTab.drop k) k)) (fun i => 5 - (intOf i).toNat)
  case atStart => exact ⟨0, Nat.zero_le _, rfl, HR⟩
  case round =>
    obtain ⟨k, hk, rfl, HP⟩ := hrel
    by_cases hlt : k < 5
    · have hkl : k < callTab.length := by rw [Hlen.out]; exact hlt
      have hword := word_any callsL k w (by decide) (by omega)
      have hrow : (rowAt callTab (k : Int)).1 = callTab[k] := by
        unfold rowAt
        rw [if_pos (by omega), Int.toNat_natCast, List.getElem?_eq_getElem hkl]
      rw [calls_word k hlt, hrow] at hword
      have Hword := Lib.hid hword
      have Hmiss := Lib.hid (placeFrom_miss name.toList callTab k hkl)
      have Hhit := Lib.hid (placeFrom_hit name.toList callTab k hkl)
      clear hword hrow
      generalize callTab[k].1 = l at *
      go_wp2_with fail
      refine Hword.out.mono ?_
      rintro e w1 ⟨rfl, rfl⟩
      cases he : (l == name.toList) with
      | true =>
        go_wp2_with fail
        go_ret2
        exact ⟨by rw [HP.out, Hhit.out he]; rfl, rfl⟩
      | false =>
        go_wp2_with fail
        exact ⟨⟨k + 1, by omega, by go_num, by show R = _; rw [HP.out, Hmiss.out he]⟩, by simp [intOf]; omega⟩
    · go_wp2_with fail
      go_ret2
      exact ⟨by rw [HP.out, placeFrom_end _ _ _ (by rw [Hlen.out]; exact hlt)]; rfl, rfl⟩
set_option maxRecDepth 100000 in
theorem shape_same (s : ByteArray) (a b c : Int) (w : World) : Calls Try.prog 30 #[.agg #[.string s, .int .i64 a, .int .i64 b, .int .i64 c], .agg #[.string s, .int .i64 a, .int .i64 b, .int .i64 c]] w fun e w' => e = .returned (.bool true) ∧ Below w.heap.size w w' := by
  go_enter Try.func30, Try.ntmps30
  go_wp2_with fail
  go_ret
  exact ⟨rfl, ((Below.refl _ _).alloc (Nat.le_refl _) _).alloc (by simp) _⟩
end Go.Proofs.Ytmmdkpnoncnjnaa
