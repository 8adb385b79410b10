/- The walks of the law's right and rights. -/
import Derived.Test.YtefaapcekbgjoaaWrites
import Derived.Test.YtefaapcekbgjoaaRdD
namespace Go.Proofs.Ytefaapcekbgjoaa
open Go.RowKit

/-- As it may be put. -/
def rightI (x : Item) : Item :=
  if isB x = true then
    if x.kind = 1 ∧ x.n < 0 then ⟨x.kind, -(x.n + 1), x.p⟩
    else if x.kind = 3 then ⟨x.kind, x.n % 2, x.p⟩
    else x
  else ⟨2, x.n, ⟨none, 0, []⟩⟩
theorem and_one (n : Int) : bits .and .i64 n 1 = n % 2 := by
  have h : bits .and .i64 n 1 = IntKind.i64.wrap (((BitVec.ofInt 64 n) &&& (BitVec.ofInt 64 1)).toNat : Int) := rfl
  have h1 : (BitVec.ofInt 64 1).toNat = 1 := by decide
  have h2 : ((BitVec.ofInt 64 n) &&& (BitVec.ofInt 64 1)).toNat = ((n % 18446744073709551616).toNat) % 2 := by
    rw [BitVec.toNat_and, h1, Nat.and_one_is_mod, BitVec.toNat_ofInt]
    rfl
  rw [h, h2]
  simp only [IntKind.wrap_i64]
  omega
/-- The two variables that right makes. -/
theorem right_facts (x : Item) (w w2 : World) (hb2 : Below ((w.alloc (.cells #[.int .i64 x.kind, .int .i64 x.n, .slice x.p.A x.p.ys.length x.p.c] 30)).alloc (.cells #[.int .i64 0, .int .i64 0, .slice none 0 0] 30)).heap.size
      ((w.alloc (.cells #[.int .i64 x.kind, .int .i64 x.n, .slice x.p.A x.p.ys.length x.p.c] 30)).alloc (.cells #[.int .i64 0, .int .i64 0, .slice none 0 0] 30)) w2) :
    Blk w2 w.heap.size 30 #[.int .i64 x.kind, .int .i64 x.n, .slice x.p.A x.p.ys.length x.p.c] ∧ Blk w2 (w.heap.size + 1) 30 #[.int .i64 0, .int .i64 0, .slice none 0 0] ∧ w.heap.size + 2 ≤ w2.heap.size ∧ Below w.heap.size w w2 := by
  have h1 := (Blk.new w 30 #[.int .i64 x.kind, .int .i64 x.n, .slice x.p.A x.p.ys.length x.p.c]).alloc (.cells #[.int .i64 0, .int .i64 0, .slice none 0 0] 30)
  have h2 := Blk.new (w.alloc (.cells #[.int .i64 x.kind, .int .i64 x.n, .slice x.p.A x.p.ys.length x.p.c] 30)) 30 #[.int .i64 0, .int .i64 0, .slice none 0 0]
  rw [World.size_alloc] at h2
  have hz := hb2.size
  simp only [World.size_alloc] at hz
  exact ⟨h1.below hb2 (by simp; omega), h2.below hb2 (by simp), by omega, (((Below.refl _ _).alloc (Nat.le_refl _) _).alloc (by simp) _).trans (hb2.mono (by simp; omega))⟩
set_option maxRecDepth 100000 in
set_option maxHeartbeats 1000000 in
theorem right_any (x : Item) (w : World) (hl : x.p.ys.length ≤ 9223372036854775807) (h1 : -9223372036854775808 ≤ x.n) (h2 : x.n ≤ 9223372036854775807) :
    Calls Try.prog 74 #[x.val] w fun e w' => e = .returned (rightI x).val ∧ Below w.heap.size w w' := by
  have hb0 : ∀ o1 o2, Below w.heap.size w ((w.alloc o1).alloc o2) := fun o1 o2 => ((Below.refl _ _).alloc (Nat.le_refl _) o1).alloc (by simp) o2
  have Hb0 := Lib.hid hb0
  clear hb0
  by_cases hB : isB x = true
  · have hk := isB_kind hB
    have HB := Lib.hid hB
    by_cases hneg : x.kind = 1 ∧ x.n < 0
    · have e : rightI x = ⟨x.kind, -(x.n + 1), x.p⟩ := by unfold rightI; rw [if_pos hB, if_pos hneg]
      have He := Lib.hid e
      obtain ⟨q1, q2⟩ := hneg
      have g1 : (x.kind == 1) = true := by rw [beq_iff_eq]; exact q1
      have g3 : (x.kind == 3) = false := by rw [beq_eq_false_iff_ne]; omega
      clear e hB hk q1
      go_enter Try.func74, Try.ntmps74
      go_wp2_with fail
      refine (is_yes x _ HB.out).mono ?_
      rintro e w2 ⟨rfl, hb2⟩
      obtain ⟨hx1, hx2, hz, hB2⟩ := right_facts x w w2 hb2
      have a0 : w2.cell? ⟨w.heap.size, 0, none⟩ = some (.int .i64 x.kind) := hx1.cell 0
      have a1 : w2.cell? ⟨w.heap.size, 1, none⟩ = some (.int .i64 x.n) := hx1.cell 1
      have a2 : w2.cell? ⟨w.heap.size, 2, none⟩ = some (.slice x.p.A x.p.ys.length x.p.c) := hx1.cell 2
      have b0 : w2.cell? ⟨w.heap.size + 1, 0, none⟩ = some (.int .i64 0) := hx2.cell 0
      have b1 : w2.cell? ⟨w.heap.size + 1, 1, none⟩ = some (.int .i64 0) := hx2.cell 1
      have b2 : w2.cell? ⟨w.heap.size + 1, 2, none⟩ = some (.slice none 0 0) := hx2.cell 2
      have fa0 := hx1.frozen 0
      have fa1 := hx1.frozen 1
      have fa2 := hx1.frozen 2
      have fb0 := hx2.frozen 0
      have fb1 := hx2.frozen 1
      have fb2 := hx2.frozen 2
      have HB2 := Lib.hid hB2
      clear hb2 hx1 hx2 hB2
      go_wp2_with fail
      refine bodyPost_ret (v := .agg #[.int .i64 x.kind, .int .i64 (-(x.n + 1)), .slice x.p.A x.p.ys.length x.p.c]) (by simp [results, Try.results74, go_sem, *]) rfl ⟨by rw [He.out], ?_⟩
      repeat (first | with_reducible exact HB2.out | with_reducible refine Below.setCell ?_ (by dsimp only; omega) _)
    · by_cases h3 : x.kind = 3
      · have e : rightI x = ⟨x.kind, x.n % 2, x.p⟩ := by unfold rightI; rw [if_pos hB, if_neg hneg, if_pos h3]
        have He := Lib.hid e
        have g1 : (x.kind == 1) = false := by rw [beq_eq_false_iff_ne]; omega
        have g3 : (x.kind == 3) = true := by rw [beq_iff_eq]; exact h3
        have hand := and_one x.n
        clear e hB hk h3 hneg
        go_enter Try.func74, Try.ntmps74
        go_wp2_with fail
        refine (is_yes x _ HB.out).mono ?_
        rintro e w2 ⟨rfl, hb2⟩
        obtain ⟨hx1, hx2, hz, hB2⟩ := right_facts x w w2 hb2
        have a0 : w2.cell? ⟨w.heap.size, 0, none⟩ = some (.int .i64 x.kind) := hx1.cell 0
        have a1 : w2.cell? ⟨w.heap.size, 1, none⟩ = some (.int .i64 x.n) := hx1.cell 1
        have a2 : w2.cell? ⟨w.heap.size, 2, none⟩ = some (.slice x.p.A x.p.ys.length x.p.c) := hx1.cell 2
        have b0 : w2.cell? ⟨w.heap.size + 1, 0, none⟩ = some (.int .i64 0) := hx2.cell 0
        have b1 : w2.cell? ⟨w.heap.size + 1, 1, none⟩ = some (.int .i64 0) := hx2.cell 1
        have b2 : w2.cell? ⟨w.heap.size + 1, 2, none⟩ = some (.slice none 0 0) := hx2.cell 2
        have fa0 := hx1.frozen 0
        have fa1 := hx1.frozen 1
        have fa2 := hx1.frozen 2
        have fb0 := hx2.frozen 0
        have fb1 := hx2.frozen 1
        have fb2 := hx2.frozen 2
        have HB2 := Lib.hid hB2
        clear hb2 hx1 hx2 hB2
        go_wp2_with fail
        refine bodyPost_ret (v := .agg #[.int .i64 x.kind, .int .i64 (x.n % 2), .slice x.p.A x.p.ys.length x.p.c]) (by simp [results, Try.results74, go_sem, *]) rfl ⟨by rw [He.out], ?_⟩
        repeat (first | with_reducible exact HB2.out | with_reducible refine Below.setCell ?_ (by dsimp only; omega) _)
      · have e : rightI x = x := by unfold rightI; rw [if_pos hB, if_neg hneg, if_neg h3]
        have He := Lib.hid e
        have g3 : (x.kind == 3) = false := by rw [beq_eq_false_iff_ne]; exact h3
        by_cases h1k : x.kind = 1
        · have g1 : (x.kind == 1) = true := by rw [beq_iff_eq]; exact h1k
          have hn : ¬ x.n < 0 := fun h => hneg ⟨h1k, h⟩
          clear e hB hk h3 hneg h1k
          go_enter Try.func74, Try.ntmps74
          go_wp2_with fail
          refine (is_yes x _ HB.out).mono ?_
          rintro e w2 ⟨rfl, hb2⟩
          obtain ⟨hx1, hx2, hz, hB2⟩ := right_facts x w w2 hb2
          have a0 : w2.cell? ⟨w.heap.size, 0, none⟩ = some (.int .i64 x.kind) := hx1.cell 0
          have a1 : w2.cell? ⟨w.heap.size, 1, none⟩ = some (.int .i64 x.n) := hx1.cell 1
          have a2 : w2.cell? ⟨w.heap.size, 2, none⟩ = some (.slice x.p.A x.p.ys.length x.p.c) := hx1.cell 2
          have b0 : w2.cell? ⟨w.heap.size + 1, 0, none⟩ = some (.int .i64 0) := hx2.cell 0
          have b1 : w2.cell? ⟨w.heap.size + 1, 1, none⟩ = some (.int .i64 0) := hx2.cell 1
          have b2 : w2.cell? ⟨w.heap.size + 1, 2, none⟩ = some (.slice none 0 0) := hx2.cell 2
          have fa0 := hx1.frozen 0
          have fa1 := hx1.frozen 1
          have fa2 := hx1.frozen 2
          have fb0 := hx2.frozen 0
          have fb1 := hx2.frozen 1
          have fb2 := hx2.frozen 2
          have HB2 := Lib.hid hB2
          clear hb2 hx1 hx2 hB2
          go_wp2_with fail
          refine bodyPost_ret (v := .agg #[.int .i64 x.kind, .int .i64 x.n, .slice x.p.A x.p.ys.length x.p.c]) (by simp [results, Try.results74, go_sem, *]) rfl ⟨by rw [He.out], ?_⟩
          repeat (first | with_reducible exact HB2.out | with_reducible refine Below.setCell ?_ (by dsimp only; omega) _)
        · have g1 : (x.kind == 1) = false := by rw [beq_eq_false_iff_ne]; exact h1k
          clear e hB hk h3 hneg h1k
          go_enter Try.func74, Try.ntmps74
          go_wp2_with fail
          refine (is_yes x _ HB.out).mono ?_
          rintro e w2 ⟨rfl, hb2⟩
          obtain ⟨hx1, hx2, hz, hB2⟩ := right_facts x w w2 hb2
          have a0 : w2.cell? ⟨w.heap.size, 0, none⟩ = some (.int .i64 x.kind) := hx1.cell 0
          have a1 : w2.cell? ⟨w.heap.size, 1, none⟩ = some (.int .i64 x.n) := hx1.cell 1
          have a2 : w2.cell? ⟨w.heap.size, 2, none⟩ = some (.slice x.p.A x.p.ys.length x.p.c) := hx1.cell 2
          have b0 : w2.cell? ⟨w.heap.size + 1, 0, none⟩ = some (.int .i64 0) := hx2.cell 0
          have b1 : w2.cell? ⟨w.heap.size + 1, 1, none⟩ = some (.int .i64 0) := hx2.cell 1
          have b2 : w2.cell? ⟨w.heap.size + 1, 2, none⟩ = some (.slice none 0 0) := hx2.cell 2
          have fa0 := hx1.frozen 0
          have fa1 := hx1.frozen 1
          have fa2 := hx1.frozen 2
          have fb0 := hx2.frozen 0
          have fb1 := hx2.frozen 1
          have fb2 := hx2.frozen 2
          have HB2 := Lib.hid hB2
          clear hb2 hx1 hx2 hB2
          go_wp2_with fail
          refine bodyPost_ret (v := .agg #[.int .i64 x.kind, .int .i64 x.n, .slice x.p.A x.p.ys.length x.p.c]) (by simp [results, Try.results74, go_sem, *]) rfl ⟨by rw [He.out], ?_⟩
          repeat (first | with_reducible exact HB2.out | with_reducible refine Below.setCell ?_ (by dsimp only; omega) _)
  · have e : rightI x = ⟨2, x.n, ⟨none, 0, []⟩⟩ := by unfold rightI; rw [if_neg hB]
    have He := Lib.hid e
    have hB2 : isB x = false := by simpa using hB
    have HB := Lib.hid hB2
    clear e hB hB2
    go_enter Try.func74, Try.ntmps74
    go_wp2_with fail
    refine (is_no x _ HB.out hl).mono ?_
    rintro e w2 ⟨rfl, hb2⟩
    obtain ⟨hx1, hx2, hz, hB2⟩ := right_facts x w w2 hb2
    have a0 : w2.cell? ⟨w.heap.size, 0, none⟩ = some (.int .i64 x.kind) := hx1.cell 0
    have a1 : w2.cell? ⟨w.heap.size, 1, none⟩ = some (.int .i64 x.n) := hx1.cell 1
    have a2 : w2.cell? ⟨w.heap.size, 2, none⟩ = some (.slice x.p.A x.p.ys.length x.p.c) := hx1.cell 2
    have b0 : w2.cell? ⟨w.heap.size + 1, 0, none⟩ = some (.int .i64 0) := hx2.cell 0
    have b1 : w2.cell? ⟨w.heap.size + 1, 1, none⟩ = some (.int .i64 0) := hx2.cell 1
    have b2 : w2.cell? ⟨w.heap.size + 1, 2, none⟩ = some (.slice none 0 0) := hx2.cell 2
    have fa0 := hx1.frozen 0
    have fa1 := hx1.frozen 1
    have fa2 := hx1.frozen 2
    have fb0 := hx2.frozen 0
    have fb1 := hx2.frozen 1
    have fb2 := hx2.frozen 2
    have HB2 := Lib.hid hB2
    clear hb2 hx1 hx2 hB2
    go_wp2_with fail
    refine bodyPost_ret (v := .agg #[.int .i64 2, .int .i64 x.n, .slice none 0 0]) (by simp [results, Try.results74, go_sem, *]) rfl ⟨by rw [He.out]; rfl, ?_⟩
    repeat (first | with_reducible exact HB2.out | with_reducible refine Below.setCell ?_ (by dsimp only; omega) _)
end Go.Proofs.Ytefaapcekbgjoaa
