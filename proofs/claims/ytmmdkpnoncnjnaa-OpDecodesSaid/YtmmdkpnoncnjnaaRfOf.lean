/- The reference's Of, Sys. -/
import Derived.Test.YtmmdkpnoncnjnaaRfW
import Derived.Test.YtmmdkpnoncnjnaaRfM
namespace Go.Proofs.Ytmmdkpnoncnjnaa
open Go.RowKit
attribute [local go_sem] rowVal

def namesL : List UInt8 := [110, 111, 112, 32, 104, 97, 108, 116, 32, 97, 98, 111, 114, 116, 32, 110, 117, 109, 32, 112, 111, 112, 32, 99, 111, 112, 121, 32, 115, 119, 97, 112, 32, 103, 101, 116, 32, 115, 101, 116, 32, 108, 111, 97, 100, 32, 115, 116, 111, 114, 101, 32, 108, 111, 97, 100, 56, 32, 115, 116, 111, 114, 101, 56, 32, 115, 105, 122, 101, 32, 106, 117, 109, 112, 32, 122, 101, 114, 111, 32, 110, 111, 116, 122, 101, 114, 111, 32, 99, 97, 108, 108, 32, 114, 101, 116, 32, 115, 121, 115, 32, 97, 100, 100, 32, 115, 117, 98, 32, 109, 117, 108, 32, 100, 105, 118, 32, 114, 101, 109, 32, 97, 110, 100, 32, 111, 114, 32, 120, 111, 114, 32, 115, 104, 108, 32, 115, 104, 114, 32, 117, 115, 104, 114, 32, 101, 113, 32, 108, 116, 32, 117, 108, 116, 32, 110, 101, 103, 32, 110, 111, 116, 32, 102, 97, 100, 100, 32, 102, 115, 117, 98, 32, 102, 109, 117, 108, 32, 102, 100, 105, 118, 32, 102, 101, 113, 32, 102, 108, 116, 32, 102, 110, 101, 103, 32, 102, 114, 111, 111, 116, 32, 116, 111, 102, 32, 116, 111, 105, 32]
def callsL : List UInt8 := [111, 112, 101, 110, 32, 114, 101, 97, 100, 32, 119, 114, 105, 116, 101, 32, 108, 105, 115, 116, 32, 99, 108, 111, 115, 101, 32]
theorem names_words : ((List.range 46).all fun n => wordL namesL n == (rowAt shapeTab (n : Int)).1.1) = true := by decide +kernel
theorem calls_words : ((List.range 5).all fun n => wordL callsL n == (rowAt callTab (n : Int)).1.1) = true := by decide +kernel
theorem names_word (n : Nat) (hn : n < 46) : wordL namesL n = (rowAt shapeTab (n : Int)).1.1 := by
  have h := List.all_eq_true.1 names_words n (List.mem_range.2 hn)
  simpa using h
theorem calls_word (n : Nat) (hn : n < 5) : wordL callsL n = (rowAt callTab (n : Int)).1.1 := by
  have h := List.all_eq_true.1 calls_words n (List.mem_range.2 hn)
  simpa using h
def OfPost (w : World) (t : List (List UInt8 × Int × Int × Int)) (op : Int) (e : Ending) (w' : World) : Prop := e = .returned (.tuple #[rowVal (rowAt t op).1, .bool (rowAt t op).2]) ∧ Below w.heap.size w w'
set_option maxRecDepth 100000 in
theorem refOf_out (op : Int) (w : World) (h : op < 0 ∨ 46 ≤ op) : Calls Try.prog 28 #[.int .i64 op] w (OfPost w shapeTab op) := by
  have e : rowAt shapeTab op = (([], 0, 0, 0), false) := by
    unfold rowAt
    split
    · rw [List.getElem?_eq_none (by have : shapeTab.length = 46 := by decide +kernel
                                    omega)]
    · rfl
  have He := Lib.hid e
  clear e
  rcases h with h | h
  · go_enter Try.func28, Try.ntmps28
    go_wp2_with fail
    refine bodyPost_ret (v := .tuple #[rowVal ([], 0, 0, 0), .bool false]) ?_ rfl ⟨by rw [He.out], (Below.refl _ _).alloc (Nat.le_refl _) _⟩
    simp [results, Try.results28, go_sem]
  · have h0 : decide (op < 0) = false := decide_eq_false (by omega)
    go_enter Try.func28, Try.ntmps28
    go_wp2_with fail
    refine bodyPost_ret (v := .tuple #[rowVal ([], 0, 0, 0), .bool false]) ?_ rfl ⟨by rw [He.out], (Below.refl _ _).alloc (Nat.le_refl _) _⟩
    simp [results, Try.results28, go_sem]
theorem row_mk {r : (List UInt8 × Int × Int × Int) × Bool} {nm : List UInt8} {o t g : Int} (h1 : r.1.1 = nm) (h2 : r.1.2.1 = o) (h3 : r.1.2.2 = (t, g)) (h4 : r.2 = true) : r = ((nm, o, t, g), true) := by
  obtain ⟨⟨a, b, c, d⟩, e⟩ := r
  simp only at h1 h2 h3 h4
  injection h3 with h5 h6
  subst h1 h2 h4 h5 h6
  rfl
set_option maxRecDepth 100000 in
set_option maxHeartbeats 8000000 in
theorem refOf_in (n : Nat) (w : World) (h : n < 46) : Calls Try.prog 28 #[.int .i64 (n : Int)] w (OfPost w shapeTab (n : Int)) := by
  have hw := names_word n h
  have ho := oper_kind n h
  obtain ⟨nm, hnm⟩ : ∃ nm, (rowAt shapeTab (n : Int)).1.1 = nm := ⟨_, rfl⟩
  obtain ⟨o, hoo⟩ : ∃ o, (rowAt shapeTab (n : Int)).1.2.1 = o := ⟨_, rfl⟩
  rw [hnm] at hw
  rw [hoo] at ho
  have hword := fun w => word_any namesL n w (by decide) (by omega)
  have hoper := fun w => refOperand_any (n : Int) w
  rw [hw] at hword
  rw [ho] at hoper
  have Hword := Lib.hid hword
  have Hoper := Lib.hid hoper
  have Hnm := Lib.hid hnm
  have Hoo := Lib.hid hoo
  clear hw ho hword hoper hnm hoo
  have hk := nats46 n h
  clear h
  rcases hk with rfl | rfl | rfl | rfl | rfl | rfl | rfl | rfl | rfl | rfl | rfl | rfl | rfl | rfl | rfl | rfl | rfl | rfl | rfl | rfl | rfl | rfl | rfl | rfl | rfl | rfl | rfl | rfl | rfl | rfl | rfl | rfl | rfl | rfl | rfl | rfl | rfl | rfl | rfl | rfl | rfl | rfl | rfl | rfl | rfl | rfl
  · go_enter Try.func28, Try.ntmps28
    go_wp2_with fail
    refine (Hword.out _).mono ?_
    rintro e w1 ⟨rfl, rfl⟩
    go_wp2_with fail
    refine (Hoper.out _).mono ?_
    rintro e w1 ⟨rfl, rfl⟩
    go_wp2_with fail
    refine bodyPost_ret (v := .tuple #[.agg #[.string ⟨nm.toArray⟩, .int .i64 o, .int .i64 (0), .int .i64 (0)], .bool true]) ?_ rfl ⟨?_, ((Below.refl _ _).alloc (Nat.le_refl _) _).alloc (by simp) _⟩
    · simp [results, Try.results28, go_sem]
    · rw [row_mk Hnm.out Hoo.out (show _ = (0, 0) by decide +kernel) (by decide +kernel)]; rfl
  · go_enter Try.func28, Try.ntmps28
    go_wp2_with fail
    refine (Hword.out _).mono ?_
    rintro e w1 ⟨rfl, rfl⟩
    go_wp2_with fail
    refine (Hoper.out _).mono ?_
    rintro e w1 ⟨rfl, rfl⟩
    go_wp2_with fail
    refine bodyPost_ret (v := .tuple #[.agg #[.string ⟨nm.toArray⟩, .int .i64 o, .int .i64 (1), .int .i64 (0)], .bool true]) ?_ rfl ⟨?_, ((Below.refl _ _).alloc (Nat.le_refl _) _).alloc (by simp) _⟩
    · simp [results, Try.results28, go_sem]
    · rw [row_mk Hnm.out Hoo.out (show _ = (1, 0) by decide +kernel) (by decide +kernel)]; rfl
  · go_enter Try.func28, Try.ntmps28
    go_wp2_with fail
    refine (Hword.out _).mono ?_
    rintro e w1 ⟨rfl, rfl⟩
    go_wp2_with fail
    refine (Hoper.out _).mono ?_
    rintro e w1 ⟨rfl, rfl⟩
    go_wp2_with fail
    refine bodyPost_ret (v := .tuple #[.agg #[.string ⟨nm.toArray⟩, .int .i64 o, .int .i64 (1), .int .i64 (0)], .bool true]) ?_ rfl ⟨?_, ((Below.refl _ _).alloc (Nat.le_refl _) _).alloc (by simp) _⟩
    · simp [results, Try.results28, go_sem]
    · rw [row_mk Hnm.out Hoo.out (show _ = (1, 0) by decide +kernel) (by decide +kernel)]; rfl
  · go_enter Try.func28, Try.ntmps28
    go_wp2_with fail
    refine (Hword.out _).mono ?_
    rintro e w1 ⟨rfl, rfl⟩
    go_wp2_with fail
    refine (Hoper.out _).mono ?_
    rintro e w1 ⟨rfl, rfl⟩
    go_wp2_with fail
    refine bodyPost_ret (v := .tuple #[.agg #[.string ⟨nm.toArray⟩, .int .i64 o, .int .i64 (0), .int .i64 (1)], .bool true]) ?_ rfl ⟨?_, ((Below.refl _ _).alloc (Nat.le_refl _) _).alloc (by simp) _⟩
    · simp [results, Try.results28, go_sem]
    · rw [row_mk Hnm.out Hoo.out (show _ = (0, 1) by decide +kernel) (by decide +kernel)]; rfl
  · go_enter Try.func28, Try.ntmps28
    go_wp2_with fail
    refine (Hword.out _).mono ?_
    rintro e w1 ⟨rfl, rfl⟩
    go_wp2_with fail
    refine (Hoper.out _).mono ?_
    rintro e w1 ⟨rfl, rfl⟩
    go_wp2_with fail
    refine bodyPost_ret (v := .tuple #[.agg #[.string ⟨nm.toArray⟩, .int .i64 o, .int .i64 (1), .int .i64 (0)], .bool true]) ?_ rfl ⟨?_, ((Below.refl _ _).alloc (Nat.le_refl _) _).alloc (by simp) _⟩
    · simp [results, Try.results28, go_sem]
    · rw [row_mk Hnm.out Hoo.out (show _ = (1, 0) by decide +kernel) (by decide +kernel)]; rfl
  · go_enter Try.func28, Try.ntmps28
    go_wp2_with fail
    refine (Hword.out _).mono ?_
    rintro e w1 ⟨rfl, rfl⟩
    go_wp2_with fail
    refine (Hoper.out _).mono ?_
    rintro e w1 ⟨rfl, rfl⟩
    go_wp2_with fail
    refine bodyPost_ret (v := .tuple #[.agg #[.string ⟨nm.toArray⟩, .int .i64 o, .int .i64 (0), .int .i64 (1)], .bool true]) ?_ rfl ⟨?_, ((Below.refl _ _).alloc (Nat.le_refl _) _).alloc (by simp) _⟩
    · simp [results, Try.results28, go_sem]
    · rw [row_mk Hnm.out Hoo.out (show _ = (0, 1) by decide +kernel) (by decide +kernel)]; rfl
  · go_enter Try.func28, Try.ntmps28
    go_wp2_with fail
    refine (Hword.out _).mono ?_
    rintro e w1 ⟨rfl, rfl⟩
    go_wp2_with fail
    refine (Hoper.out _).mono ?_
    rintro e w1 ⟨rfl, rfl⟩
    go_wp2_with fail
    refine bodyPost_ret (v := .tuple #[.agg #[.string ⟨nm.toArray⟩, .int .i64 o, .int .i64 (2), .int .i64 (2)], .bool true]) ?_ rfl ⟨?_, ((Below.refl _ _).alloc (Nat.le_refl _) _).alloc (by simp) _⟩
    · simp [results, Try.results28, go_sem]
    · rw [row_mk Hnm.out Hoo.out (show _ = (2, 2) by decide +kernel) (by decide +kernel)]; rfl
  · go_enter Try.func28, Try.ntmps28
    go_wp2_with fail
    refine (Hword.out _).mono ?_
    rintro e w1 ⟨rfl, rfl⟩
    go_wp2_with fail
    refine (Hoper.out _).mono ?_
    rintro e w1 ⟨rfl, rfl⟩
    go_wp2_with fail
    refine bodyPost_ret (v := .tuple #[.agg #[.string ⟨nm.toArray⟩, .int .i64 o, .int .i64 (0), .int .i64 (1)], .bool true]) ?_ rfl ⟨?_, ((Below.refl _ _).alloc (Nat.le_refl _) _).alloc (by simp) _⟩
    · simp [results, Try.results28, go_sem]
    · rw [row_mk Hnm.out Hoo.out (show _ = (0, 1) by decide +kernel) (by decide +kernel)]; rfl
  · go_enter Try.func28, Try.ntmps28
    go_wp2_with fail
    refine (Hword.out _).mono ?_
    rintro e w1 ⟨rfl, rfl⟩
    go_wp2_with fail
    refine (Hoper.out _).mono ?_
    rintro e w1 ⟨rfl, rfl⟩
    go_wp2_with fail
    refine bodyPost_ret (v := .tuple #[.agg #[.string ⟨nm.toArray⟩, .int .i64 o, .int .i64 (1), .int .i64 (0)], .bool true]) ?_ rfl ⟨?_, ((Below.refl _ _).alloc (Nat.le_refl _) _).alloc (by simp) _⟩
    · simp [results, Try.results28, go_sem]
    · rw [row_mk Hnm.out Hoo.out (show _ = (1, 0) by decide +kernel) (by decide +kernel)]; rfl
  · go_enter Try.func28, Try.ntmps28
    go_wp2_with fail
    refine (Hword.out _).mono ?_
    rintro e w1 ⟨rfl, rfl⟩
    go_wp2_with fail
    refine (Hoper.out _).mono ?_
    rintro e w1 ⟨rfl, rfl⟩
    go_wp2_with fail
    refine bodyPost_ret (v := .tuple #[.agg #[.string ⟨nm.toArray⟩, .int .i64 o, .int .i64 (1), .int .i64 (1)], .bool true]) ?_ rfl ⟨?_, ((Below.refl _ _).alloc (Nat.le_refl _) _).alloc (by simp) _⟩
    · simp [results, Try.results28, go_sem]
    · rw [row_mk Hnm.out Hoo.out (show _ = (1, 1) by decide +kernel) (by decide +kernel)]; rfl
  · go_enter Try.func28, Try.ntmps28
    go_wp2_with fail
    refine (Hword.out _).mono ?_
    rintro e w1 ⟨rfl, rfl⟩
    go_wp2_with fail
    refine (Hoper.out _).mono ?_
    rintro e w1 ⟨rfl, rfl⟩
    go_wp2_with fail
    refine bodyPost_ret (v := .tuple #[.agg #[.string ⟨nm.toArray⟩, .int .i64 o, .int .i64 (2), .int .i64 (0)], .bool true]) ?_ rfl ⟨?_, ((Below.refl _ _).alloc (Nat.le_refl _) _).alloc (by simp) _⟩
    · simp [results, Try.results28, go_sem]
    · rw [row_mk Hnm.out Hoo.out (show _ = (2, 0) by decide +kernel) (by decide +kernel)]; rfl
  · go_enter Try.func28, Try.ntmps28
    go_wp2_with fail
    refine (Hword.out _).mono ?_
    rintro e w1 ⟨rfl, rfl⟩
    go_wp2_with fail
    refine (Hoper.out _).mono ?_
    rintro e w1 ⟨rfl, rfl⟩
    go_wp2_with fail
    refine bodyPost_ret (v := .tuple #[.agg #[.string ⟨nm.toArray⟩, .int .i64 o, .int .i64 (1), .int .i64 (1)], .bool true]) ?_ rfl ⟨?_, ((Below.refl _ _).alloc (Nat.le_refl _) _).alloc (by simp) _⟩
    · simp [results, Try.results28, go_sem]
    · rw [row_mk Hnm.out Hoo.out (show _ = (1, 1) by decide +kernel) (by decide +kernel)]; rfl
  · go_enter Try.func28, Try.ntmps28
    go_wp2_with fail
    refine (Hword.out _).mono ?_
    rintro e w1 ⟨rfl, rfl⟩
    go_wp2_with fail
    refine (Hoper.out _).mono ?_
    rintro e w1 ⟨rfl, rfl⟩
    go_wp2_with fail
    refine bodyPost_ret (v := .tuple #[.agg #[.string ⟨nm.toArray⟩, .int .i64 o, .int .i64 (2), .int .i64 (0)], .bool true]) ?_ rfl ⟨?_, ((Below.refl _ _).alloc (Nat.le_refl _) _).alloc (by simp) _⟩
    · simp [results, Try.results28, go_sem]
    · rw [row_mk Hnm.out Hoo.out (show _ = (2, 0) by decide +kernel) (by decide +kernel)]; rfl
  · go_enter Try.func28, Try.ntmps28
    go_wp2_with fail
    refine (Hword.out _).mono ?_
    rintro e w1 ⟨rfl, rfl⟩
    go_wp2_with fail
    refine (Hoper.out _).mono ?_
    rintro e w1 ⟨rfl, rfl⟩
    go_wp2_with fail
    refine bodyPost_ret (v := .tuple #[.agg #[.string ⟨nm.toArray⟩, .int .i64 o, .int .i64 (0), .int .i64 (1)], .bool true]) ?_ rfl ⟨?_, ((Below.refl _ _).alloc (Nat.le_refl _) _).alloc (by simp) _⟩
    · simp [results, Try.results28, go_sem]
    · rw [row_mk Hnm.out Hoo.out (show _ = (0, 1) by decide +kernel) (by decide +kernel)]; rfl
  · go_enter Try.func28, Try.ntmps28
    go_wp2_with fail
    refine (Hword.out _).mono ?_
    rintro e w1 ⟨rfl, rfl⟩
    go_wp2_with fail
    refine (Hoper.out _).mono ?_
    rintro e w1 ⟨rfl, rfl⟩
    go_wp2_with fail
    refine bodyPost_ret (v := .tuple #[.agg #[.string ⟨nm.toArray⟩, .int .i64 o, .int .i64 (0), .int .i64 (0)], .bool true]) ?_ rfl ⟨?_, ((Below.refl _ _).alloc (Nat.le_refl _) _).alloc (by simp) _⟩
    · simp [results, Try.results28, go_sem]
    · rw [row_mk Hnm.out Hoo.out (show _ = (0, 0) by decide +kernel) (by decide +kernel)]; rfl
  · go_enter Try.func28, Try.ntmps28
    go_wp2_with fail
    refine (Hword.out _).mono ?_
    rintro e w1 ⟨rfl, rfl⟩
    go_wp2_with fail
    refine (Hoper.out _).mono ?_
    rintro e w1 ⟨rfl, rfl⟩
    go_wp2_with fail
    refine bodyPost_ret (v := .tuple #[.agg #[.string ⟨nm.toArray⟩, .int .i64 o, .int .i64 (1), .int .i64 (0)], .bool true]) ?_ rfl ⟨?_, ((Below.refl _ _).alloc (Nat.le_refl _) _).alloc (by simp) _⟩
    · simp [results, Try.results28, go_sem]
    · rw [row_mk Hnm.out Hoo.out (show _ = (1, 0) by decide +kernel) (by decide +kernel)]; rfl
  · go_enter Try.func28, Try.ntmps28
    go_wp2_with fail
    refine (Hword.out _).mono ?_
    rintro e w1 ⟨rfl, rfl⟩
    go_wp2_with fail
    refine (Hoper.out _).mono ?_
    rintro e w1 ⟨rfl, rfl⟩
    go_wp2_with fail
    refine bodyPost_ret (v := .tuple #[.agg #[.string ⟨nm.toArray⟩, .int .i64 o, .int .i64 (1), .int .i64 (0)], .bool true]) ?_ rfl ⟨?_, ((Below.refl _ _).alloc (Nat.le_refl _) _).alloc (by simp) _⟩
    · simp [results, Try.results28, go_sem]
    · rw [row_mk Hnm.out Hoo.out (show _ = (1, 0) by decide +kernel) (by decide +kernel)]; rfl
  · go_enter Try.func28, Try.ntmps28
    go_wp2_with fail
    refine (Hword.out _).mono ?_
    rintro e w1 ⟨rfl, rfl⟩
    go_wp2_with fail
    refine (Hoper.out _).mono ?_
    rintro e w1 ⟨rfl, rfl⟩
    go_wp2_with fail
    refine bodyPost_ret (v := .tuple #[.agg #[.string ⟨nm.toArray⟩, .int .i64 o, .int .i64 (-1), .int .i64 (-1)], .bool true]) ?_ rfl ⟨?_, ((Below.refl _ _).alloc (Nat.le_refl _) _).alloc (by simp) _⟩
    · simp [results, Try.results28, go_sem]
    · rw [row_mk Hnm.out Hoo.out (show _ = (-1, -1) by decide +kernel) (by decide +kernel)]; rfl
  · go_enter Try.func28, Try.ntmps28
    go_wp2_with fail
    refine (Hword.out _).mono ?_
    rintro e w1 ⟨rfl, rfl⟩
    go_wp2_with fail
    refine (Hoper.out _).mono ?_
    rintro e w1 ⟨rfl, rfl⟩
    go_wp2_with fail
    refine bodyPost_ret (v := .tuple #[.agg #[.string ⟨nm.toArray⟩, .int .i64 o, .int .i64 (-1), .int .i64 (0)], .bool true]) ?_ rfl ⟨?_, ((Below.refl _ _).alloc (Nat.le_refl _) _).alloc (by simp) _⟩
    · simp [results, Try.results28, go_sem]
    · rw [row_mk Hnm.out Hoo.out (show _ = (-1, 0) by decide +kernel) (by decide +kernel)]; rfl
  · go_enter Try.func28, Try.ntmps28
    go_wp2_with fail
    refine (Hword.out _).mono ?_
    rintro e w1 ⟨rfl, rfl⟩
    go_wp2_with fail
    refine (Hoper.out _).mono ?_
    rintro e w1 ⟨rfl, rfl⟩
    go_wp2_with fail
    refine bodyPost_ret (v := .tuple #[.agg #[.string ⟨nm.toArray⟩, .int .i64 o, .int .i64 (-1), .int .i64 (1)], .bool true]) ?_ rfl ⟨?_, ((Below.refl _ _).alloc (Nat.le_refl _) _).alloc (by simp) _⟩
    · simp [results, Try.results28, go_sem]
    · rw [row_mk Hnm.out Hoo.out (show _ = (-1, 1) by decide +kernel) (by decide +kernel)]; rfl
  · go_enter Try.func28, Try.ntmps28
    go_wp2_with fail
    refine (Hword.out _).mono ?_
    rintro e w1 ⟨rfl, rfl⟩
    go_wp2_with fail
    refine (Hoper.out _).mono ?_
    rintro e w1 ⟨rfl, rfl⟩
    go_wp2_with fail
    refine bodyPost_ret (v := .tuple #[.agg #[.string ⟨nm.toArray⟩, .int .i64 o, .int .i64 (2), .int .i64 (1)], .bool true]) ?_ rfl ⟨?_, ((Below.refl _ _).alloc (Nat.le_refl _) _).alloc (by simp) _⟩
    · simp [results, Try.results28, go_sem]
    · rw [row_mk Hnm.out Hoo.out (show _ = (2, 1) by decide +kernel) (by decide +kernel)]; rfl
  · go_enter Try.func28, Try.ntmps28
    go_wp2_with fail
    refine (Hword.out _).mono ?_
    rintro e w1 ⟨rfl, rfl⟩
    go_wp2_with fail
    refine (Hoper.out _).mono ?_
    rintro e w1 ⟨rfl, rfl⟩
    go_wp2_with fail
    refine bodyPost_ret (v := .tuple #[.agg #[.string ⟨nm.toArray⟩, .int .i64 o, .int .i64 (2), .int .i64 (1)], .bool true]) ?_ rfl ⟨?_, ((Below.refl _ _).alloc (Nat.le_refl _) _).alloc (by simp) _⟩
    · simp [results, Try.results28, go_sem]
    · rw [row_mk Hnm.out Hoo.out (show _ = (2, 1) by decide +kernel) (by decide +kernel)]; rfl
  · go_enter Try.func28, Try.ntmps28
    go_wp2_with fail
    refine (Hword.out _).mono ?_
    rintro e w1 ⟨rfl, rfl⟩
    go_wp2_with fail
    refine (Hoper.out _).mono ?_
    rintro e w1 ⟨rfl, rfl⟩
    go_wp2_with fail
    refine bodyPost_ret (v := .tuple #[.agg #[.string ⟨nm.toArray⟩, .int .i64 o, .int .i64 (2), .int .i64 (1)], .bool true]) ?_ rfl ⟨?_, ((Below.refl _ _).alloc (Nat.le_refl _) _).alloc (by simp) _⟩
    · simp [results, Try.results28, go_sem]
    · rw [row_mk Hnm.out Hoo.out (show _ = (2, 1) by decide +kernel) (by decide +kernel)]; rfl
  · go_enter Try.func28, Try.ntmps28
    go_wp2_with fail
    refine (Hword.out _).mono ?_
    rintro e w1 ⟨rfl, rfl⟩
    go_wp2_with fail
    refine (Hoper.out _).mono ?_
    rintro e w1 ⟨rfl, rfl⟩
    go_wp2_with fail
    refine bodyPost_ret (v := .tuple #[.agg #[.string ⟨nm.toArray⟩, .int .i64 o, .int .i64 (2), .int .i64 (1)], .bool true]) ?_ rfl ⟨?_, ((Below.refl _ _).alloc (Nat.le_refl _) _).alloc (by simp) _⟩
    · simp [results, Try.results28, go_sem]
    · rw [row_mk Hnm.out Hoo.out (show _ = (2, 1) by decide +kernel) (by decide +kernel)]; rfl
  · go_enter Try.func28, Try.ntmps28
    go_wp2_with fail
    refine (Hword.out _).mono ?_
    rintro e w1 ⟨rfl, rfl⟩
    go_wp2_with fail
    refine (Hoper.out _).mono ?_
    rintro e w1 ⟨rfl, rfl⟩
    go_wp2_with fail
    refine bodyPost_ret (v := .tuple #[.agg #[.string ⟨nm.toArray⟩, .int .i64 o, .int .i64 (2), .int .i64 (1)], .bool true]) ?_ rfl ⟨?_, ((Below.refl _ _).alloc (Nat.le_refl _) _).alloc (by simp) _⟩
    · simp [results, Try.results28, go_sem]
    · rw [row_mk Hnm.out Hoo.out (show _ = (2, 1) by decide +kernel) (by decide +kernel)]; rfl
  · go_enter Try.func28, Try.ntmps28
    go_wp2_with fail
    refine (Hword.out _).mono ?_
    rintro e w1 ⟨rfl, rfl⟩
    go_wp2_with fail
    refine (Hoper.out _).mono ?_
    rintro e w1 ⟨rfl, rfl⟩
    go_wp2_with fail
    refine bodyPost_ret (v := .tuple #[.agg #[.string ⟨nm.toArray⟩, .int .i64 o, .int .i64 (2), .int .i64 (1)], .bool true]) ?_ rfl ⟨?_, ((Below.refl _ _).alloc (Nat.le_refl _) _).alloc (by simp) _⟩
    · simp [results, Try.results28, go_sem]
    · rw [row_mk Hnm.out Hoo.out (show _ = (2, 1) by decide +kernel) (by decide +kernel)]; rfl
  · go_enter Try.func28, Try.ntmps28
    go_wp2_with fail
    refine (Hword.out _).mono ?_
    rintro e w1 ⟨rfl, rfl⟩
    go_wp2_with fail
    refine (Hoper.out _).mono ?_
    rintro e w1 ⟨rfl, rfl⟩
    go_wp2_with fail
    refine bodyPost_ret (v := .tuple #[.agg #[.string ⟨nm.toArray⟩, .int .i64 o, .int .i64 (2), .int .i64 (1)], .bool true]) ?_ rfl ⟨?_, ((Below.refl _ _).alloc (Nat.le_refl _) _).alloc (by simp) _⟩
    · simp [results, Try.results28, go_sem]
    · rw [row_mk Hnm.out Hoo.out (show _ = (2, 1) by decide +kernel) (by decide +kernel)]; rfl
  · go_enter Try.func28, Try.ntmps28
    go_wp2_with fail
    refine (Hword.out _).mono ?_
    rintro e w1 ⟨rfl, rfl⟩
    go_wp2_with fail
    refine (Hoper.out _).mono ?_
    rintro e w1 ⟨rfl, rfl⟩
    go_wp2_with fail
    refine bodyPost_ret (v := .tuple #[.agg #[.string ⟨nm.toArray⟩, .int .i64 o, .int .i64 (2), .int .i64 (1)], .bool true]) ?_ rfl ⟨?_, ((Below.refl _ _).alloc (Nat.le_refl _) _).alloc (by simp) _⟩
    · simp [results, Try.results28, go_sem]
    · rw [row_mk Hnm.out Hoo.out (show _ = (2, 1) by decide +kernel) (by decide +kernel)]; rfl
  · go_enter Try.func28, Try.ntmps28
    go_wp2_with fail
    refine (Hword.out _).mono ?_
    rintro e w1 ⟨rfl, rfl⟩
    go_wp2_with fail
    refine (Hoper.out _).mono ?_
    rintro e w1 ⟨rfl, rfl⟩
    go_wp2_with fail
    refine bodyPost_ret (v := .tuple #[.agg #[.string ⟨nm.toArray⟩, .int .i64 o, .int .i64 (2), .int .i64 (1)], .bool true]) ?_ rfl ⟨?_, ((Below.refl _ _).alloc (Nat.le_refl _) _).alloc (by simp) _⟩
    · simp [results, Try.results28, go_sem]
    · rw [row_mk Hnm.out Hoo.out (show _ = (2, 1) by decide +kernel) (by decide +kernel)]; rfl
  · go_enter Try.func28, Try.ntmps28
    go_wp2_with fail
    refine (Hword.out _).mono ?_
    rintro e w1 ⟨rfl, rfl⟩
    go_wp2_with fail
    refine (Hoper.out _).mono ?_
    rintro e w1 ⟨rfl, rfl⟩
    go_wp2_with fail
    refine bodyPost_ret (v := .tuple #[.agg #[.string ⟨nm.toArray⟩, .int .i64 o, .int .i64 (2), .int .i64 (1)], .bool true]) ?_ rfl ⟨?_, ((Below.refl _ _).alloc (Nat.le_refl _) _).alloc (by simp) _⟩
    · simp [results, Try.results28, go_sem]
    · rw [row_mk Hnm.out Hoo.out (show _ = (2, 1) by decide +kernel) (by decide +kernel)]; rfl
  · go_enter Try.func28, Try.ntmps28
    go_wp2_with fail
    refine (Hword.out _).mono ?_
    rintro e w1 ⟨rfl, rfl⟩
    go_wp2_with fail
    refine (Hoper.out _).mono ?_
    rintro e w1 ⟨rfl, rfl⟩
    go_wp2_with fail
    refine bodyPost_ret (v := .tuple #[.agg #[.string ⟨nm.toArray⟩, .int .i64 o, .int .i64 (2), .int .i64 (1)], .bool true]) ?_ rfl ⟨?_, ((Below.refl _ _).alloc (Nat.le_refl _) _).alloc (by simp) _⟩
    · simp [results, Try.results28, go_sem]
    · rw [row_mk Hnm.out Hoo.out (show _ = (2, 1) by decide +kernel) (by decide +kernel)]; rfl
  · go_enter Try.func28, Try.ntmps28
    go_wp2_with fail
    refine (Hword.out _).mono ?_
    rintro e w1 ⟨rfl, rfl⟩
    go_wp2_with fail
    refine (Hoper.out _).mono ?_
    rintro e w1 ⟨rfl, rfl⟩
    go_wp2_with fail
    refine bodyPost_ret (v := .tuple #[.agg #[.string ⟨nm.toArray⟩, .int .i64 o, .int .i64 (2), .int .i64 (1)], .bool true]) ?_ rfl ⟨?_, ((Below.refl _ _).alloc (Nat.le_refl _) _).alloc (by simp) _⟩
    · simp [results, Try.results28, go_sem]
    · rw [row_mk Hnm.out Hoo.out (show _ = (2, 1) by decide +kernel) (by decide +kernel)]; rfl
  · go_enter Try.func28, Try.ntmps28
    go_wp2_with fail
    refine (Hword.out _).mono ?_
    rintro e w1 ⟨rfl, rfl⟩
    go_wp2_with fail
    refine (Hoper.out _).mono ?_
    rintro e w1 ⟨rfl, rfl⟩
    go_wp2_with fail
    refine bodyPost_ret (v := .tuple #[.agg #[.string ⟨nm.toArray⟩, .int .i64 o, .int .i64 (2), .int .i64 (1)], .bool true]) ?_ rfl ⟨?_, ((Below.refl _ _).alloc (Nat.le_refl _) _).alloc (by simp) _⟩
    · simp [results, Try.results28, go_sem]
    · rw [row_mk Hnm.out Hoo.out (show _ = (2, 1) by decide +kernel) (by decide +kernel)]; rfl
  · go_enter Try.func28, Try.ntmps28
    go_wp2_with fail
    refine (Hword.out _).mono ?_
    rintro e w1 ⟨rfl, rfl⟩
    go_wp2_with fail
    refine (Hoper.out _).mono ?_
    rintro e w1 ⟨rfl, rfl⟩
    go_wp2_with fail
    refine bodyPost_ret (v := .tuple #[.agg #[.string ⟨nm.toArray⟩, .int .i64 o, .int .i64 (2), .int .i64 (1)], .bool true]) ?_ rfl ⟨?_, ((Below.refl _ _).alloc (Nat.le_refl _) _).alloc (by simp) _⟩
    · simp [results, Try.results28, go_sem]
    · rw [row_mk Hnm.out Hoo.out (show _ = (2, 1) by decide +kernel) (by decide +kernel)]; rfl
  · go_enter Try.func28, Try.ntmps28
    go_wp2_with fail
    refine (Hword.out _).mono ?_
    rintro e w1 ⟨rfl, rfl⟩
    go_wp2_with fail
    refine (Hoper.out _).mono ?_
    rintro e w1 ⟨rfl, rfl⟩
    go_wp2_with fail
    refine bodyPost_ret (v := .tuple #[.agg #[.string ⟨nm.toArray⟩, .int .i64 o, .int .i64 (1), .int .i64 (1)], .bool true]) ?_ rfl ⟨?_, ((Below.refl _ _).alloc (Nat.le_refl _) _).alloc (by simp) _⟩
    · simp [results, Try.results28, go_sem]
    · rw [row_mk Hnm.out Hoo.out (show _ = (1, 1) by decide +kernel) (by decide +kernel)]; rfl
  · go_enter Try.func28, Try.ntmps28
    go_wp2_with fail
    refine (Hword.out _).mono ?_
    rintro e w1 ⟨rfl, rfl⟩
    go_wp2_with fail
    refine (Hoper.out _).mono ?_
    rintro e w1 ⟨rfl, rfl⟩
    go_wp2_with fail
    refine bodyPost_ret (v := .tuple #[.agg #[.string ⟨nm.toArray⟩, .int .i64 o, .int .i64 (1), .int .i64 (1)], .bool true]) ?_ rfl ⟨?_, ((Below.refl _ _).alloc (Nat.le_refl _) _).alloc (by simp) _⟩
    · simp [results, Try.results28, go_sem]
    · rw [row_mk Hnm.out Hoo.out (show _ = (1, 1) by decide +kernel) (by decide +kernel)]; rfl
  · go_enter Try.func28, Try.ntmps28
    go_wp2_with fail
    refine (Hword.out _).mono ?_
    rintro e w1 ⟨rfl, rfl⟩
    go_wp2_with fail
    refine (Hoper.out _).mono ?_
    rintro e w1 ⟨rfl, rfl⟩
    go_wp2_with fail
    refine bodyPost_ret (v := .tuple #[.agg #[.string ⟨nm.toArray⟩, .int .i64 o, .int .i64 (2), .int .i64 (1)], .bool true]) ?_ rfl ⟨?_, ((Below.refl _ _).alloc (Nat.le_refl _) _).alloc (by simp) _⟩
    · simp [results, Try.results28, go_sem]
    · rw [row_mk Hnm.out Hoo.out (show _ = (2, 1) by decide +kernel) (by decide +kernel)]; rfl
  · go_enter Try.func28, Try.ntmps28
    go_wp2_with fail
    refine (Hword.out _).mono ?_
    rintro e w1 ⟨rfl, rfl⟩
    go_wp2_with fail
    refine (Hoper.out _).mono ?_
    rintro e w1 ⟨rfl, rfl⟩
    go_wp2_with fail
    refine bodyPost_ret (v := .tuple #[.agg #[.string ⟨nm.toArray⟩, .int .i64 o, .int .i64 (2), .int .i64 (1)], .bool true]) ?_ rfl ⟨?_, ((Below.refl _ _).alloc (Nat.le_refl _) _).alloc (by simp) _⟩
    · simp [results, Try.results28, go_sem]
    · rw [row_mk Hnm.out Hoo.out (show _ = (2, 1) by decide +kernel) (by decide +kernel)]; rfl
  · go_enter Try.func28, Try.ntmps28
    go_wp2_with fail
    refine (Hword.out _).mono ?_
    rintro e w1 ⟨rfl, rfl⟩
    go_wp2_with fail
    refine (Hoper.out _).mono ?_
    rintro e w1 ⟨rfl, rfl⟩
    go_wp2_with fail
    refine bodyPost_ret (v := .tuple #[.agg #[.string ⟨nm.toArray⟩, .int .i64 o, .int .i64 (2), .int .i64 (1)], .bool true]) ?_ rfl ⟨?_, ((Below.refl _ _).alloc (Nat.le_refl _) _).alloc (by simp) _⟩
    · simp [results, Try.results28, go_sem]
    · rw [row_mk Hnm.out Hoo.out (show _ = (2, 1) by decide +kernel) (by decide +kernel)]; rfl
  · go_enter Try.func28, Try.ntmps28
    go_wp2_with fail
    refine (Hword.out _).mono ?_
    rintro e w1 ⟨rfl, rfl⟩
    go_wp2_with fail
    refine (Hoper.out _).mono ?_
    rintro e w1 ⟨rfl, rfl⟩
    go_wp2_with fail
    refine bodyPost_ret (v := .tuple #[.agg #[.string ⟨nm.toArray⟩, .int .i64 o, .int .i64 (2), .int .i64 (1)], .bool true]) ?_ rfl ⟨?_, ((Below.refl _ _).alloc (Nat.le_refl _) _).alloc (by simp) _⟩
    · simp [results, Try.results28, go_sem]
    · rw [row_mk Hnm.out Hoo.out (show _ = (2, 1) by decide +kernel) (by decide +kernel)]; rfl
  · go_enter Try.func28, Try.ntmps28
    go_wp2_with fail
    refine (Hword.out _).mono ?_
    rintro e w1 ⟨rfl, rfl⟩
    go_wp2_with fail
    refine (Hoper.out _).mono ?_
    rintro e w1 ⟨rfl, rfl⟩
    go_wp2_with fail
    refine bodyPost_ret (v := .tuple #[.agg #[.string ⟨nm.toArray⟩, .int .i64 o, .int .i64 (2), .int .i64 (1)], .bool true]) ?_ rfl ⟨?_, ((Below.refl _ _).alloc (Nat.le_refl _) _).alloc (by simp) _⟩
    · simp [results, Try.results28, go_sem]
    · rw [row_mk Hnm.out Hoo.out (show _ = (2, 1) by decide +kernel) (by decide +kernel)]; rfl
  · go_enter Try.func28, Try.ntmps28
    go_wp2_with fail
    refine (Hword.out _).mono ?_
    rintro e w1 ⟨rfl, rfl⟩
    go_wp2_with fail
    refine (Hoper.out _).mono ?_
    rintro e w1 ⟨rfl, rfl⟩
    go_wp2_with fail
    refine bodyPost_ret (v := .tuple #[.agg #[.string ⟨nm.toArray⟩, .int .i64 o, .int .i64 (2), .int .i64 (1)], .bool true]) ?_ rfl ⟨?_, ((Below.refl _ _).alloc (Nat.le_refl _) _).alloc (by simp) _⟩
    · simp [results, Try.results28, go_sem]
    · rw [row_mk Hnm.out Hoo.out (show _ = (2, 1) by decide +kernel) (by decide +kernel)]; rfl
  · go_enter Try.func28, Try.ntmps28
    go_wp2_with fail
    refine (Hword.out _).mono ?_
    rintro e w1 ⟨rfl, rfl⟩
    go_wp2_with fail
    refine (Hoper.out _).mono ?_
    rintro e w1 ⟨rfl, rfl⟩
    go_wp2_with fail
    refine bodyPost_ret (v := .tuple #[.agg #[.string ⟨nm.toArray⟩, .int .i64 o, .int .i64 (1), .int .i64 (1)], .bool true]) ?_ rfl ⟨?_, ((Below.refl _ _).alloc (Nat.le_refl _) _).alloc (by simp) _⟩
    · simp [results, Try.results28, go_sem]
    · rw [row_mk Hnm.out Hoo.out (show _ = (1, 1) by decide +kernel) (by decide +kernel)]; rfl
  · go_enter Try.func28, Try.ntmps28
    go_wp2_with fail
    refine (Hword.out _).mono ?_
    rintro e w1 ⟨rfl, rfl⟩
    go_wp2_with fail
    refine (Hoper.out _).mono ?_
    rintro e w1 ⟨rfl, rfl⟩
    go_wp2_with fail
    refine bodyPost_ret (v := .tuple #[.agg #[.string ⟨nm.toArray⟩, .int .i64 o, .int .i64 (1), .int .i64 (1)], .bool true]) ?_ rfl ⟨?_, ((Below.refl _ _).alloc (Nat.le_refl _) _).alloc (by simp) _⟩
    · simp [results, Try.results28, go_sem]
    · rw [row_mk Hnm.out Hoo.out (show _ = (1, 1) by decide +kernel) (by decide +kernel)]; rfl
  · go_enter Try.func28, Try.ntmps28
    go_wp2_with fail
    refine (Hword.out _).mono ?_
    rintro e w1 ⟨rfl, rfl⟩
    go_wp2_with fail
    refine (Hoper.out _).mono ?_
    rintro e w1 ⟨rfl, rfl⟩
    go_wp2_with fail
    refine bodyPost_ret (v := .tuple #[.agg #[.string ⟨nm.toArray⟩, .int .i64 o, .int .i64 (1), .int .i64 (1)], .bool true]) ?_ rfl ⟨?_, ((Below.refl _ _).alloc (Nat.le_refl _) _).alloc (by simp) _⟩
    · simp [results, Try.results28, go_sem]
    · rw [row_mk Hnm.out Hoo.out (show _ = (1, 1) by decide +kernel) (by decide +kernel)]; rfl
  · go_enter Try.func28, Try.ntmps28
    go_wp2_with fail
    refine (Hword.out _).mono ?_
    rintro e w1 ⟨rfl, rfl⟩
    go_wp2_with fail
    refine (Hoper.out _).mono ?_
    rintro e w1 ⟨rfl, rfl⟩
    go_wp2_with fail
    refine bodyPost_ret (v := .tuple #[.agg #[.string ⟨nm.toArray⟩, .int .i64 o, .int .i64 (1), .int .i64 (1)], .bool true]) ?_ rfl ⟨?_, ((Below.refl _ _).alloc (Nat.le_refl _) _).alloc (by simp) _⟩
    · simp [results, Try.results28, go_sem]
    · rw [row_mk Hnm.out Hoo.out (show _ = (1, 1) by decide +kernel) (by decide +kernel)]; rfl
theorem refOf_any (op : Int) (w : World) : Calls Try.prog 28 #[.int .i64 op] w (OfPost w shapeTab op) := by
  by_cases h : op < 0 ∨ 46 ≤ op
  · exact refOf_out op w h
  · obtain ⟨n, rfl⟩ := Int.eq_ofNat_of_zero_le (show 0 ≤ op by omega)
    exact refOf_in n w (by omega)
end Go.Proofs.Ytmmdkpnoncnjnaa
