/- The walk of the law ProgChecks. -/
import Derived.Test.YtadnjfoinmeloaaPrgKn
import Derived.Test.YtadnjfoinmeloaaPrgKp
import Derived.Test.YtadnjfoinmeloaaPrgC
namespace Go.Proofs.Ytadnjfoinmeloaa
open Go.RowKit

set_option maxRecDepth 100000 in
set_option maxHeartbeats 2000000 in
theorem progChecks_walk (p : PrgM) (w : World) (hp : PrgAt w p) :
    Calls Try.prog 3 #[.agg #[.int .i64 p.mem, .slice p.AD p.data.length p.cD, .slice p.AF p.fs.length p.cF]] w fun e w' => e = .returned (.bool true) ∧ Below w.heap.size w w' := by
  have Hp := Lib.hid hp
  clear hp
  obtain ⟨w1, hw1⟩ : ∃ w1, w1 = w.alloc (.cells #[.int .i64 p.mem, .slice p.AD p.data.length p.cD, .slice p.AF p.fs.length p.cF] 25) := ⟨_, rfl⟩
  have hb1 : Below w.heap.size w w1 := by rw [hw1]; exact (Below.refl _ _).alloc (Nat.le_refl _) _
  have hX1 : Blk w1 w.heap.size 25 #[.int .i64 p.mem, .slice p.AD p.data.length p.cD, .slice p.AF p.fs.length p.cF] := by rw [hw1]; exact Blk.new w _ _
  have Hb1 := Lib.hid hb1
  have HX1 := Lib.hid hX1
  have Hw1 := Lib.hid hw1
  clear hb1 hX1 hw1
  go_enter Try.func3, Try.ntmps3
  go_wp2_with fail
  rw [← Hw1.out]
  refine (knownP_any _).mono ?_
  rintro e w2 ⟨rfl, hb2⟩
  have hX2 := HX1.out.below hb2 HX1.out.lt
  have Hb2 := Lib.hid (Hb1.out.trans (hb2.mono Hb1.out.size))
  have hxl := hX2.lt
  have x0 : w2.cell? ⟨w.heap.size, 0, none⟩ = some (.int .i64 p.mem) := hX2.cell 0
  have x1 : w2.cell? ⟨w.heap.size, 1, none⟩ = some (.slice p.AD p.data.length p.cD) := hX2.cell 1
  have x2 : w2.cell? ⟨w.heap.size, 2, none⟩ = some (.slice p.AF p.fs.length p.cF) := hX2.cell 2
  have HX2 := Lib.hid hX2
  clear hb2 hX2 HX1
  have Hlend := Lib.hid (lendPrg_any p w2 (Hp.out.below Hb2.out))
  go_wp2_with fail
  refine Hlend.out.mono ?_
  intro e w3 hpost
  obtain ⟨q, gd, gf, rfl, hL, hb3⟩ := hpost
  obtain ⟨w4, hw4⟩ : ∃ w4, w4 = w3.alloc (.cells #[.int .i64 q.mem, .slice q.AD q.data.length q.cD, .slice q.AF q.fs.length q.cF] 25) := ⟨_, rfl⟩
  have hb34 : Below w3.heap.size w3 w4 := by rw [hw4]; exact (Below.refl _ _).alloc (Nat.le_refl _) _
  have hY4 : Blk w4 w3.heap.size 25 #[.int .i64 q.mem, .slice q.AD q.data.length q.cD, .slice q.AF q.fs.length q.cF] := by rw [hw4]; exact Blk.new w3 _ _
  have hX4 := (HX2.out.below hb3 hxl).below hb34 (HX2.out.below hb3 hxl).lt
  have hL4 := hL.below hb34
  have hB4 := (Hb2.out.trans (hb3.mono Hb2.out.size)).trans (hb34.mono (Hb2.out.trans (hb3.mono Hb2.out.size)).size)
  have HX4 := Lib.hid hX4
  have HY4 := Lib.hid hY4
  have HL4 := Lib.hid hL4
  have HB4 := Lib.hid hB4
  have Hw4 := Lib.hid hw4
  clear hL hb3 hw4 hb34 hY4 hX4 hL4 hB4 Hlend x0 x1 x2
  go_wp2_with fail
  rw [← Hw4.out]
  have hxl4 := HX4.out.lt
  have hyl4 := HY4.out.lt
  have d0 : ∀ x : BW w4.heap.size w4, x.w.cell? ⟨w.heap.size, 0, none⟩ = some (.int .i64 p.mem) := fun x => (x.blk HX4.out hxl4).cell 0
  have d1 : ∀ x : BW w4.heap.size w4, x.w.cell? ⟨w.heap.size, 1, none⟩ = some (.slice p.AD p.data.length p.cD) := fun x => (x.blk HX4.out hxl4).cell 1
  have d2 : ∀ x : BW w4.heap.size w4, x.w.cell? ⟨w.heap.size, 2, none⟩ = some (.slice p.AF p.fs.length p.cF) := fun x => (x.blk HX4.out hxl4).cell 2
  have g0 : ∀ x : BW w4.heap.size w4, x.w.cell? ⟨w3.heap.size, 0, none⟩ = some (.int .i64 q.mem) := fun x => (x.blk HY4.out hyl4).cell 0
  have g1 : ∀ x : BW w4.heap.size w4, x.w.cell? ⟨w3.heap.size, 1, none⟩ = some (.slice q.AD q.data.length q.cD) := fun x => (x.blk HY4.out hyl4).cell 1
  have g2 : ∀ x : BW w4.heap.size w4, x.w.cell? ⟨w3.heap.size, 2, none⟩ = some (.slice q.AF q.fs.length q.cF) := fun x => (x.blk HY4.out hyl4).cell 2
  have Hkp : Hid (∀ x : BW w4.heap.size w4, Calls Try.prog 15 #[q.val, p.val] x.w fun e w' => e = .returned (.bool true) ∧ Below x.w.heap.size x.w w') := Lib.hid fun x => keptPrg_any p q _ gd gf x.w (HL4.out.below x.h) ((Hp.out.below HB4.out).below x.h)
  obtain ⟨C, hC⟩ : ∃ C, C = checkL p.plain := ⟨_, rfl⟩
  have hc1 : ∀ x : BW w4.heap.size w4, Calls Try.prog 13 #[q.val] x.w fun e w' => e = .returned (.int .i64 C) ∧ Below x.w.heap.size x.w w' := fun x => by
    have h := check_any q x.w (HL4.out.at_ Hp.out |>.below x.h)
    rwa [HL4.out.same, ← hC] at h
  have hc2 : ∀ x : BW w4.heap.size w4, Calls Try.prog 14 #[p.val] x.w fun e w' => e = .returned (.int .i64 C) ∧ Below x.w.heap.size x.w w' := fun x => by
    have h := refCheck_any p x.w ((Hp.out.below HB4.out).below x.h)
    rwa [← hC] at h
  have Hc1 := Lib.hid hc1
  have Hc2 := Lib.hid hc2
  clear hc1 hc2 hC
  refine region_inB w4.heap.size w4 (Below.refl _ _) (by kernel_rfl) (by kernel_rfl) ?_
  repeat (go_big_quiet_step (with_reducible first | exact Calls.inBat _ (Hc1.out _) (Nat.le_refl _) | exact Calls.inBat _ (Hc2.out _) (Nat.le_refl _) | exact Calls.inBat _ (Hkp.out _) (Nat.le_refl _)))
  refine wpQuiet_nil ?_
  intro w9 hb9
  have HF9 := Lib.hid (HB4.out.trans (hb9.mono HB4.out.size))
  clear hb9
  go_wp2_with fail
  go_ret
  exact ⟨rfl, HF9.out⟩
end Go.Proofs.Ytadnjfoinmeloaa
