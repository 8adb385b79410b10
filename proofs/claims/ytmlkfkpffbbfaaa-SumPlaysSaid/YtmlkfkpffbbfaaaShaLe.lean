/- Less of the program and of the reference. -/
import Derived.Test.YtmlkfkpffbbfaaaShaKn
import Derived.Test.YtmlkfkpffbbfaaaBEq
import Derived.Test.YtmlkfkpffbbfaaaInB
namespace Go.Proofs.Ytmlkfkpffbbfaaa
open Go.RowKit

theorem run_allDig (g : Nat) (w : World) : (Instr.sliceAt 28 (.pointer (some ⟨g, 0, none⟩)) none none none).run Try.prog w = .ok (.slice (some ⟨g, 0, none⟩) 32 32) w := by
  have ha : Try.prog.underlying 28 = some (.array (Try.prog.arrayLen 28) (Try.prog.elem 28)) := by kernel_rfl
  have hl : Try.prog.arrayLen 28 = 32 := by kernel_rfl
  have hs : (sizeOf (Try.prog.elem 28)).run Try.prog w = .ok 1 w := by kernel_rfl
  rw [run_sliceAt_array_all w _ _ ha, hs, Result.andThen_ok, hl]
  rfl
theorem compare_any (xs ys : List UInt8) (A1 A2 : Option Addr) (c1 c2 : Nat) (w : World) (h1 : RV w A1 (xs.map bv)) (h2 : RV w A2 (ys.map bv)) :
    Calls Try.prog 40 #[.slice A1 xs.length c1, .slice A2 ys.length c2] w fun e w' => e = .returned (.int .i64 (Lib.compareBytes xs ys)) ∧ w' = w := by
  have hx := run_callFunc_extern (P := Try.prog) (f := 48) Try.func48 (by kernel_rfl) (by kernel_rfl) (by kernel_rfl) (e := Extern.BytealgCompare.compare) (by kernel_rfl) #[.slice A1 xs.length c1, .slice A2 ys.length c2] w
  rw [run_compareB h1 h2, Result.andThen_ok] at hx
  clear h1 h2
  go_enter Try.func40, Try.ntmps40
  go_wp2_with fail
  go_ret
  exact ⟨rfl, rfl⟩
/-- The order of digests. -/
def lessL (a b : List UInt8) : Bool := decide (Lib.compareBytes a b < 0)
theorem less_any (a b : List UInt8) (ha : a.length = 32) (hb : b.length = 32) (w : World) :
    Calls Try.prog 26 #[aggB a, aggB b] w fun e w' => e = .returned (.bool (lessL a b)) ∧ Below w.heap.size w w' := by
  have hsl := run_allDig
  have Ha := Lib.hid ha
  have Hb := Lib.hid hb
  clear ha hb
  go_enter Try.func26, Try.ntmps26
  go_wp2_with (first
    | (refine wpList_at 2 rfl ?_; refine wpList_boxB rfl 28 (.tmp 0) rfl (a.map bv) rfl ?_; intro w1 hblk1 hb1 hz1)
    | (refine wpList_at 3 rfl ?_; refine wpList_boxB rfl 28 (.tmp 1) rfl (b.map bv) rfl ?_; intro w2 hblk2 hb2 hz2))
  have hcmp : ∀ n, Calls Try.prog 40 #[.slice (some ⟨w.heap.size, 0, none⟩) 32 32, .slice (some ⟨w.heap.size + 1, 0, none⟩) 32 32] (w2.drewN n) fun e w' => e = .returned (.int .i64 (Lib.compareBytes a b)) ∧ w' = w2.drewN n := fun n => by
    have hb1 := hblk1.below hb2 hblk1.lt
    have h1 : RV w2 (some ⟨w.heap.size, 0, none⟩) (a.map bv) := RV.of_blk hb1
    have h2 : RV w2 (some ⟨w1.heap.size, 0, none⟩) (b.map bv) := RV.of_blk hblk2
    have h := compare_any a b _ _ 32 32 (w2.drewN n) h1 h2
    rw [Ha.out, Hb.out, hz1] at h
    exact h
  have hB2 : Below w.heap.size w w2 := hb1.trans (hb2.mono hb1.size)
  clear hblk1 hblk2 hb1 hb2 hz1 hz2
  go_quiet (exact Calls.quiet_of_same (hcmp _))
  go_wp2_with fail
  go_ret
  exact ⟨rfl, below_drewN hB2 _⟩

/-! ### The reference's -/
theorem compare_same (k : Nat) : ∀ (a b : List UInt8), k ≤ a.length → k ≤ b.length → a.take k = b.take k → Lib.compareBytes a b = Lib.compareBytes (a.drop k) (b.drop k) := by
  induction k with
  | zero => intro a b _ _ _; rfl
  | succ k ih =>
    intro a b ha hb h
    cases a with
    | nil => simp at ha
    | cons x a =>
      cases b with
      | nil => simp at hb
      | cons y b =>
        simp only [List.take_succ_cons, List.cons.injEq] at h
        obtain ⟨rfl, h⟩ := h
        simp only [List.length_cons] at ha hb
        rw [List.drop_succ_cons, List.drop_succ_cons, ← ih a b (by omega) (by omega) h,
          show Lib.compareBytes (x :: a) (x :: b) = if x < x then -1 else if x < x then 1 else Lib.compareBytes a b from rfl, if_neg (UInt8.lt_irrefl x), if_neg (UInt8.lt_irrefl x)]
theorem compare_self : ∀ (a : List UInt8), Lib.compareBytes a a = 0
  | [] => rfl
  | x :: a => by
    unfold Lib.compareBytes
    rw [if_neg (UInt8.lt_irrefl x), if_neg (UInt8.lt_irrefl x)]
    exact compare_self a
theorem less_at (a b : List UInt8) (k : Nat) {x y : UInt8} (hx : a[k]? = some x) (hy : b[k]? = some y) (h : a.take k = b.take k) (hne : x ≠ y) : lessL a b = decide (x.toNat < y.toNat) := by
  obtain ⟨ha, rfl⟩ := List.getElem?_eq_some_iff.1 hx
  obtain ⟨hb, rfl⟩ := List.getElem?_eq_some_iff.1 hy
  unfold lessL
  rw [compare_same k a b (by omega) (by omega) h, List.drop_eq_getElem_cons ha, List.drop_eq_getElem_cons hb]
  unfold Lib.compareBytes
  rw [Bool.eq_iff_iff, decide_eq_true_iff, decide_eq_true_iff]
  by_cases h1 : a[k] < b[k]
  · rw [if_pos h1]
    have := UInt8.lt_iff_toNat_lt.1 h1
    constructor <;> intro _ <;> omega
  · have h2 : b[k] < a[k] := UInt8.lt_of_le_of_ne (UInt8.not_lt.1 h1) (Ne.symm hne)
    rw [if_neg h1, if_pos h2]
    have := UInt8.lt_iff_toNat_lt.1 h2
    constructor <;> intro _ <;> omega
theorem less_self (a : List UInt8) : lessL a a = false := by
  unfold lessL
  rw [compare_self]; rfl
theorem take_same (a b : List UInt8) (k : Nat) {x : UInt8} (hx : a[k]? = some x) (hy : b[k]? = some x) (h : a.take k = b.take k) : a.take (k + 1) = b.take (k + 1) := by
  obtain ⟨ha, he⟩ := List.getElem?_eq_some_iff.1 hx
  obtain ⟨hb, he2⟩ := List.getElem?_eq_some_iff.1 hy
  rw [List.take_succ_eq_append_getElem ha, List.take_succ_eq_append_getElem hb, h, he, he2]
set_option maxHeartbeats 1000000 in
theorem refLess_any (a b : List UInt8) (ha : a.length = 32) (hb : b.length = 32) (w : World) :
    Calls Try.prog 27 #[aggB a, aggB b] w fun e w' => e = .returned (.bool (lessL a b)) ∧ Below w.heap.size w w' := by
  have Ha := Lib.hid ha
  have Hb := Lib.hid hb
  clear ha hb
  go_enter Try.func27, Try.ntmps27
  go_wp2_with (first
    | (refine wpList_at 2 rfl ?_; refine wpList_boxB rfl 31 (.tmp 0) rfl (a.map bv) rfl ?_; intro w1 hblk1 hb1 hz1)
    | (refine wpList_at 3 rfl ?_; refine wpList_boxB rfl 31 (.tmp 1) rfl (b.map bv) rfl ?_; intro w2 hblk2 hb2 hz2))
  have hB2 : Below w.heap.size w w2 := hb1.trans (hb2.mono hb1.size)
  have hb1w := hblk1.below hb2 (by omega)
  rw [hz1] at hblk2
  have H1 := Lib.hid hb1w
  have H2 := Lib.hid hblk2
  clear hblk1 hblk2 hb1 hb2 hz1 hz2 hb1w
  go_loopw [5] (fun i wr => ∃ k : Nat, k ≤ 32 ∧ i = .int .i64 k ∧ a.take k = b.take k ∧ ∃ m, wr = w2.drewN m) (fun i _ => 32 - (intOf i).toNat)
  case atStart => exact ⟨0, by omega, rfl, rfl, 0, rfl⟩
  case round =>
    obtain ⟨k, hk, rfl, htk, m, rfl⟩ := hrel
    by_cases hlt : k < 32
    · have g1 : (k : Int) < 32 := by omega
      have hka : k < a.length := by rw [Ha.out]; exact hlt
      have hkb : k < b.length := by rw [Hb.out]; exact hlt
      obtain ⟨x, hx⟩ : ∃ x, a[k]? = some x := ⟨_, List.getElem?_eq_getElem hka⟩
      obtain ⟨y, hy⟩ : ∃ y, b[k]? = some y := ⟨_, List.getElem?_eq_getElem hkb⟩
      have c1 : w2.cell? ⟨w.heap.size, k, none⟩ = some (.int .u8 (x.toNat : Int)) := by rw [H1.out.at_, List.getElem?_map, hx]; rfl
      have c2 : w2.cell? ⟨w.heap.size + 1, k, none⟩ = some (.int .u8 (y.toNat : Int)) := by rw [H2.out.at_, List.getElem?_map, hy]; rfl
      have Htk := Lib.hid htk
      have Hx := Lib.hid hx
      have Hy := Lib.hid hy
      clear htk hx hy hka hkb
      by_cases hxy : x = y
      · have hd : ((x.toNat : Int) != (y.toNat : Int)) = false := by rw [hxy]; simp
        have Hxy := Lib.hid hxy
        clear hxy
        go_wp2_with fail
        go_quiet (fail)
        go_wp2_with fail
        refine ⟨⟨k + 1, by omega, by go_num, take_same a b k Hx.out (by rw [Hxy.out]; exact Hy.out) Htk.out, _, rfl⟩, by simp [intOf]; omega⟩
      · have hd : ((x.toNat : Int) != (y.toNat : Int)) = true := by
          rw [bne_iff_ne]
          intro h
          exact hxy (UInt8.toNat_inj.1 (by omega))
        have Hxy := Lib.hid hxy
        clear hxy
        have hless := less_at a b k Hx.out Hy.out Htk.out Hxy.out
        have Hless := Lib.hid hless
        clear hless
        go_wp2_with fail
        go_quiet (fail)
        go_wp2_with fail
        refine region_quiet (fun w' => ∃ j, w' = w2.drewN j) (by kernel_rfl) (by kernel_rfl) ⟨m + nq + 1, by rw [World.drewN_drewN]; rfl⟩ ?_
        repeat (go_big_quiet_step (fail))
        refine wpQuiet_nil ?_
        rintro _ ⟨j, rfl⟩
        go_wp2_with fail
        go_ret
        exact ⟨by rw [Hless.out]; rfl, below_drewN hB2 _⟩
    · obtain rfl : k = 32 := by omega
      rw [List.take_of_length_le (by rw [Ha.out]; omega), List.take_of_length_le (by rw [Hb.out]; omega)] at htk
      have Htk := Lib.hid htk
      clear htk
      go_wp2_with fail
      go_ret
      exact ⟨by rw [Htk.out, less_self]; rfl, below_drewN hB2 _⟩
end Go.Proofs.Ytmlkfkpffbbfaaa
