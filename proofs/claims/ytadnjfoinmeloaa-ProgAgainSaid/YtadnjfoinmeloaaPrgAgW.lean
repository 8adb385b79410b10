/- The walk of the law ProgAgain. -/
import Derived.Test.YtadnjfoinmeloaaPrgKn
import Derived.Test.YtadnjfoinmeloaaPrgRt
import Derived.Test.YtadnjfoinmeloaaPrgMu
import Derived.Test.YtadnjfoinmeloaaPrgRs
import Derived.Test.YtadnjfoinmeloaaPrgEw
import Derived.Test.YtadnjfoinmeloaaInP
import Derived.Test.YtadnjfoinmeloaaInB
namespace Go.Proofs.Ytadnjfoinmeloaa
open Go.RowKit

set_option maxRecDepth 100000 in
set_option maxHeartbeats 8000000 in
theorem progAgain_walk (p : PrgM) (a1 a2 : Int) (w : World) (hp : PrgAt w p) (hb2 : -9223372036854775808 ≤ a2 ∧ a2 ≤ 9223372036854775807) :
    Calls Try.prog 8 #[.agg #[.int .i64 p.mem, .slice p.AD p.data.length p.cD, .slice p.AF p.fs.length p.cF], .int .i64 a1, .int .i64 a2] w fun e w' => e = .returned (.bool true) ∧ Below w.heap.size w w' := by
  have Hp := Lib.hid hp
  have Ha2 := Lib.hid hb2
  clear hp hb2
  obtain ⟨w1, hw1⟩ : ∃ w1, w1 = w.alloc (.cells #[.int .i64 p.mem, .slice p.AD p.data.length p.cD, .slice p.AF p.fs.length p.cF] 25) := ⟨_, rfl⟩
  have hb1 : Below w.heap.size w w1 := by rw [hw1]; exact (Below.refl _ _).alloc (Nat.le_refl _) _
  have hX1 : Blk w1 w.heap.size 25 #[.int .i64 p.mem, .slice p.AD p.data.length p.cD, .slice p.AF p.fs.length p.cF] := by rw [hw1]; exact Blk.new w _ _
  obtain ⟨gx, hgx⟩ : ∃ g, g = w.heap.size := ⟨_, rfl⟩
  rw [← hgx] at hX1
  have Hb1 := Lib.hid hb1
  have HX1 := Lib.hid hX1
  have Hw1 := Lib.hid hw1
  have Hgx := Lib.hid hgx
  clear hb1 hX1 hw1 hgx
  go_enter Try.func8, Try.ntmps8
  go_wp2_with fail
  rw [← Hw1.out, ← Hgx.out]
  refine (knownP_any _).mono ?_
  rintro e w2 ⟨rfl, hb2⟩
  have Hb2 := Lib.hid (Hb1.out.trans (hb2.mono Hb1.out.size))
  have HX2 := Lib.hid (HX1.out.below hb2 HX1.out.lt)
  have hgx2 : gx < w2.heap.size := HX2.out.lt
  have x0 : w2.cell? ⟨gx, 0, none⟩ = some (.int .i64 p.mem) := HX2.out.cell 0
  have x1 : w2.cell? ⟨gx, 1, none⟩ = some (.slice p.AD p.data.length p.cD) := HX2.out.cell 1
  have x2 : w2.cell? ⟨gx, 2, none⟩ = some (.slice p.AF p.fs.length p.cF) := HX2.out.cell 2
  have xl := HX2.out.lt
  have Htw := Lib.hid (refTwin_any p w2 (Hp.out.below Hb2.out))
  clear hb2 HX1 Hb1 Hw1
  go_wp2_with fail
  refine Htw.out.mono ?_
  rintro e w3 ⟨q, rfl, hpl, hmine, hb3⟩
  obtain ⟨w4, hw4⟩ : ∃ w4, w4 = w3.alloc (.cells #[.int .i64 q.mem, .slice q.AD q.data.length q.cD, .slice q.AF q.fs.length q.cF] 25) := ⟨_, rfl⟩
  obtain ⟨gm, hgm⟩ : ∃ g, g = w3.heap.size := ⟨_, rfl⟩
  have hb34 : Below w3.heap.size w3 w4 := by rw [hw4]; exact (Below.refl _ _).alloc (Nat.le_refl _) _
  have hM4 : Blk w4 gm 25 #[.int .i64 q.mem, .slice q.AD q.data.length q.cD, .slice q.AF q.fs.length q.cF] := by rw [hw4, hgm]; exact Blk.new w3 _ _
  have hb24 := hb3.trans (hb34.mono hb3.size)
  have HB4 := Lib.hid (Hb2.out.trans (hb24.mono Hb2.out.size))
  have HX4 := Lib.hid (HX2.out.below hb24 hgx2)
  have HBox4 := Lib.hid hM4
  have HMine4 := Lib.hid (hmine.below hb34)
  have HRows := Lib.hid (show (∀ b, q.AD.map (·.block) = some b → b < gm) ∧ (∀ b, q.AF.map (·.block) = some b → b < gm) ∧ (∀ f ∈ q.fs, ∀ b, f.A.map (·.block) = some b → b < gm) from
    ⟨fun b e => by have := (Own.row hmine.data b e).2; omega, fun b e => by have := (Own.row hmine.funs b e).2; omega, fun f hf b e => by have := (hmine.row.lt f hf b e).2; omega⟩)
  have HOk := Lib.hid (show PrgOk q.plain from by rw [hpl]; exact Hp.out.ok)
  have HAt4 := Lib.hid (HMine4.out.at_ HOk.out)
  have Hw4 := Lib.hid hw4
  have Hgm := Lib.hid hgm
  have hgmx : gx < gm := by have := hb3.size; omega
  clear hpl hmine hb3 hw4 hgm hb34 hM4 hb24 Htw x0 x1 x2 xl HX2
  have Hck := Lib.hid (check_any q w4 HAt4.out)
  go_wp2_with (refine wpList_at 26 rfl ?_; refine wp_stop ?_)
  try refine ⟨?_⟩
  rw [← Hw4.out, ← Hgm.out]
  go_wp2_with fail
  refine Hck.out.mono ?_
  rintro e w5 ⟨rfl, hb5⟩
  have HB5 := Lib.hid (HB4.out.trans (hb5.mono HB4.out.size))
  have HX5 := Lib.hid (HX4.out.below hb5 HX4.out.lt)
  have HBox5 := Lib.hid (HBox4.out.below hb5 HBox4.out.lt)
  have HMine5 := Lib.hid (HMine4.out.below hb5)
  have m0 : w5.cell? ⟨gm, 0, none⟩ = some (.int .i64 q.mem) := HBox5.out.cell 0
  have m1 : w5.cell? ⟨gm, 1, none⟩ = some (.slice q.AD q.data.length q.cD) := HBox5.out.cell 1
  have m2 : w5.cell? ⟨gm, 2, none⟩ = some (.slice q.AF q.fs.length q.cF) := HBox5.out.cell 2
  have ml := HBox5.out.lt
  have Hen := Lib.hid (pEncode_any q w5 (HMine5.out.at_ HOk.out))
  clear hb5 Hck HX4 HBox4 HMine4 HAt4 HB4
  go_wp2_with fail
  refine Hen.out.mono ?_
  rintro e w6 ⟨A6, c6, rfl, -, hb6⟩
  have HB6 := Lib.hid (HB5.out.trans (hb6.mono HB5.out.size))
  have HX6 := Lib.hid (HX5.out.below hb6 HX5.out.lt)
  have HBox6 := Lib.hid (HBox5.out.below hb6 HBox5.out.lt)
  have HMine6 := Lib.hid (HMine5.out.below hb6)
  clear m0 m1 m2 ml
  have m0 : w6.cell? ⟨gm, 0, none⟩ = some (.int .i64 q.mem) := HBox6.out.cell 0
  have m1 : w6.cell? ⟨gm, 1, none⟩ = some (.slice q.AD q.data.length q.cD) := HBox6.out.cell 1
  have m2 : w6.cell? ⟨gm, 2, none⟩ = some (.slice q.AF q.fs.length q.cF) := HBox6.out.cell 2
  have ml := HBox6.out.lt
  have x0 : w6.cell? ⟨gx, 0, none⟩ = some (.int .i64 p.mem) := HX6.out.cell 0
  have x1 : w6.cell? ⟨gx, 1, none⟩ = some (.slice p.AD p.data.length p.cD) := HX6.out.cell 1
  have x2 : w6.cell? ⟨gx, 2, none⟩ = some (.slice p.AF p.fs.length p.cF) := HX6.out.cell 2
  have xl := HX6.out.lt
  have Hsm := Lib.hid (sameP_any q p w6 (HMine6.out.at_ HOk.out) (Hp.out.below HB6.out))
  clear hb6 Hen HX5 HBox5 HMine5 HB5
  go_wp2_with fail
  refine Hsm.out.mono ?_
  rintro e w7 ⟨rfl, hb7⟩
  have HB := Lib.hid (HB6.out.trans (hb7.mono HB6.out.size))
  have HX := Lib.hid (HX6.out.below hb7 HX6.out.lt)
  have HBox := Lib.hid (HBox6.out.below hb7 HBox6.out.lt)
  have HMine := Lib.hid (HMine6.out.below hb7)
  clear m0 m1 m2 ml x0 x1 x2 xl hb7 Hsm HX6 HBox6 HMine6 HB6
  have m0 : w7.cell? ⟨gm, 0, none⟩ = some (.int .i64 q.mem) := HBox.out.cell 0
  have m1 : w7.cell? ⟨gm, 1, none⟩ = some (.slice q.AD q.data.length q.cD) := HBox.out.cell 1
  have m2 : w7.cell? ⟨gm, 2, none⟩ = some (.slice q.AF q.fs.length q.cF) := HBox.out.cell 2
  have ml := HBox.out.lt
  have hfl : q.fs.length ≤ 2932031007402 := by have h := HOk.out.flen; change (q.fs.map FunM.plain).length ≤ _ at h; rwa [List.length_map] at h
  have hdl : q.data.length ≤ 140737488351232 := HOk.out.dlen
  by_cases hm : q.fs.length = 0
  · have g1 : ¬ (0 : Int) < (q.fs.length : Int) := by omega
    obtain ⟨q1, hq1⟩ : ∃ q1, q1 = q := ⟨q, rfl⟩
    have HVm : Hid (PrgMine w7 w2.heap.size q1) := by rw [hq1]; exact HMine
    have HVok : Hid (PrgOk q1.plain) := by rw [hq1]; exact HOk
    have HVv : Hid (q1.val = q.val) := Lib.hid (by rw [hq1])
    have HVbox := HBox
    have HVx := HX
    have HVb := HB
    clear hm hq1 m0 m1 m2 ml
    have m0 : w7.cell? ⟨gm, 0, none⟩ = some (.int .i64 q.mem) := HVbox.out.cell 0
    have m1 : w7.cell? ⟨gm, 1, none⟩ = some (.slice q.AD q.data.length q.cD) := HVbox.out.cell 1
    have m2 : w7.cell? ⟨gm, 2, none⟩ = some (.slice q.AF q.fs.length q.cF) := HVbox.out.cell 2
    have ml := HVbox.out.lt
    by_cases hd : q.data.length = 0
    · have d1 : ¬ (0 : Int) < (q.data.length : Int) := by omega
      clear hd m0 m1 m2 ml
      have Htw2 := Lib.hid (show Calls Try.prog 24 #[q.val] w7 (TwinPost w7 q1) from by rw [← HVv.out]; exact refTwin_any q1 w7 (HVm.out.at_ HVok.out))
      have m0 : w7.cell? ⟨gm, 0, none⟩ = some (.int .i64 q.mem) := HVbox.out.cell 0
      have m1 : w7.cell? ⟨gm, 1, none⟩ = some (.slice q.AD q.data.length q.cD) := HVbox.out.cell 1
      have m2 : w7.cell? ⟨gm, 2, none⟩ = some (.slice q.AF q.fs.length q.cF) := HVbox.out.cell 2
      have ml := HVbox.out.lt
      go_wp2_with fail
      refine Htw2.out.mono ?_
      rintro e w9 ⟨o, rfl, hpl, hmine, hb9⟩
      obtain ⟨w10, hw10⟩ : ∃ w10, w10 = w9.alloc (.cells #[.int .i64 o.mem, .slice o.AD o.data.length o.cD, .slice o.AF o.fs.length o.cF] 25) := ⟨_, rfl⟩
      obtain ⟨go, hgo⟩ : ∃ g, g = w9.heap.size := ⟨_, rfl⟩
      have hb910 : Below w9.heap.size w9 w10 := by rw [hw10]; exact (Below.refl _ _).alloc (Nat.le_refl _) _
      have hb10 := hb9.trans (hb910.mono hb9.size)
      have HBoxo := Lib.hid (show Blk w10 go 25 #[.int .i64 o.mem, .slice o.AD o.data.length o.cD, .slice o.AF o.fs.length o.cF] from by rw [hw10, hgo]; exact Blk.new w9 _ _)
      have HBoxm := Lib.hid (HVbox.out.below hb10 HVbox.out.lt)
      have HX10 := Lib.hid (HVx.out.below hb10 HVx.out.lt)
      have HB10 := Lib.hid (HVb.out.trans (hb10.mono HVb.out.size))
      have HAm := Lib.hid ((HVm.out.below hb10).at_ HVok.out)
      have HAo := Lib.hid ((hmine.below hb910).at_ (by rw [hpl]; exact HVok.out))
      have Hpl := Lib.hid hpl
      have Hw10 := Lib.hid hw10
      have Hgo := Lib.hid hgo
      clear hpl hmine hb9 hw10 hgo hb910 hb10 Htw2 m0 m1 m2 ml
      obtain ⟨E, hE⟩ : ∃ E, E = encP q1.plain := ⟨_, rfl⟩
      have hEc : E.1.length ≤ 1048576 ∧ (E.2 = 0 ∨ E.1 = []) := by
        rw [hE]
        refine ⟨?_, encP_snd _⟩
        unfold encP
        split
        · split
          · simp
          · dsimp only; omega
        · simp
      have Hen := Lib.hid (show Calls Try.prog 16 #[q.val] w10 (EncPost w10 E) from by rw [← HVv.out, hE]; exact pEncode_any q1 w10 HAm.out)
      have HE := Lib.hid hE
      clear hE
      have m0 : w10.cell? ⟨gm, 0, none⟩ = some (.int .i64 q.mem) := HBoxm.out.cell 0
      have m1 : w10.cell? ⟨gm, 1, none⟩ = some (.slice q.AD q.data.length q.cD) := HBoxm.out.cell 1
      have m2 : w10.cell? ⟨gm, 2, none⟩ = some (.slice q.AF q.fs.length q.cF) := HBoxm.out.cell 2
      have ml := HBoxm.out.lt
      go_wp2_with (refine wpList_at 95 rfl ?_; refine wp_stop ?_)
      try refine ⟨?_⟩
      rw [← Hw10.out, ← Hgo.out]
      go_wp2_with fail
      refine Hen.out.mono ?_
      rintro e w11 ⟨A11, c11, rfl, hown11, hb11⟩
      have HBoxo1 := Lib.hid (HBoxo.out.below hb11 HBoxo.out.lt)
      have HBoxm1 := Lib.hid (HBoxm.out.below hb11 HBoxm.out.lt)
      have HX11 := Lib.hid (HX10.out.below hb11 HX10.out.lt)
      have HB11 := Lib.hid (HB10.out.trans (hb11.mono HB10.out.size))
      have HAm1 := Lib.hid (HAm.out.below hb11)
      have HAo1 := Lib.hid (HAo.out.below hb11)
      have Hown11 := Lib.hid hown11
      clear hown11 hb11 Hen m0 m1 m2 ml
      have o0 : w11.cell? ⟨go, 0, none⟩ = some (.int .i64 o.mem) := HBoxo1.out.cell 0
      have o1 : w11.cell? ⟨go, 1, none⟩ = some (.slice o.AD o.data.length o.cD) := HBoxo1.out.cell 1
      have o2 : w11.cell? ⟨go, 2, none⟩ = some (.slice o.AF o.fs.length o.cF) := HBoxo1.out.cell 2
      have ol := HBoxo1.out.lt
      have Hen := Lib.hid (show Calls Try.prog 16 #[o.val] w11 (EncPost w11 E) from by rw [HE.out, ← Hpl.out]; exact pEncode_any o w11 HAo1.out)
      go_wp2_with fail
      refine Hen.out.mono ?_
      rintro e w12 ⟨A12, c12, rfl, hown12, hb12⟩
      have HBoxo2 := Lib.hid (HBoxo1.out.below hb12 HBoxo1.out.lt)
      have HBoxm2 := Lib.hid (HBoxm1.out.below hb12 HBoxm1.out.lt)
      have HX12 := Lib.hid (HX11.out.below hb12 HX11.out.lt)
      have HB12 := Lib.hid (HB11.out.trans (hb12.mono HB11.out.size))
      have HAm2 := Lib.hid (HAm1.out.below hb12)
      have HAo2 := Lib.hid (HAo1.out.below hb12)
      have Hown112 := Lib.hid (Own.below Hown11.out hb12 (Nat.le_refl _))
      have Hsl12 := Lib.hid (Sl.of_own hown12)
      have hz11 := hb12.size
      obtain ⟨X, F⟩ := E
      dsimp only at Hown112 Hsl12 hEc ⊢
      clear hown12 hb12 Hen o0 o1 o2 ol Hown11
      have Hp12 := Lib.hid (Hp.out.below HB12.out)
      have lm := HBoxm2.out.lt
      have lo := HBoxo2.out.lt
      have lx := HX12.out.lt
      have m0 : ∀ x : BW w12.heap.size w12, x.w.cell? ⟨gm, 0, none⟩ = some (.int .i64 q.mem) := fun x => (x.blk HBoxm2.out lm).cell 0
      have m1 : ∀ x : BW w12.heap.size w12, x.w.cell? ⟨gm, 1, none⟩ = some (.slice q.AD q.data.length q.cD) := fun x => (x.blk HBoxm2.out lm).cell 1
      have m2 : ∀ x : BW w12.heap.size w12, x.w.cell? ⟨gm, 2, none⟩ = some (.slice q.AF q.fs.length q.cF) := fun x => (x.blk HBoxm2.out lm).cell 2
      have o0 : ∀ x : BW w12.heap.size w12, x.w.cell? ⟨go, 0, none⟩ = some (.int .i64 o.mem) := fun x => (x.blk HBoxo2.out lo).cell 0
      have o1 : ∀ x : BW w12.heap.size w12, x.w.cell? ⟨go, 1, none⟩ = some (.slice o.AD o.data.length o.cD) := fun x => (x.blk HBoxo2.out lo).cell 1
      have o2 : ∀ x : BW w12.heap.size w12, x.w.cell? ⟨go, 2, none⟩ = some (.slice o.AF o.fs.length o.cF) := fun x => (x.blk HBoxo2.out lo).cell 2
      have x0 : ∀ x : BW w12.heap.size w12, x.w.cell? ⟨gx, 0, none⟩ = some (.int .i64 p.mem) := fun x => (x.blk HX12.out lx).cell 0
      have x1 : ∀ x : BW w12.heap.size w12, x.w.cell? ⟨gx, 1, none⟩ = some (.slice p.AD p.data.length p.cD) := fun x => (x.blk HX12.out lx).cell 1
      have x2 : ∀ x : BW w12.heap.size w12, x.w.cell? ⟨gx, 2, none⟩ = some (.slice p.AF p.fs.length p.cF) := fun x => (x.blk HX12.out lx).cell 2
      have v1 : ∀ x : BW w12.heap.size w12, (convert 22 9 (.slice A11 X.length c11)).run Try.prog x.w = .ok (.string ⟨X.toArray⟩) x.w := fun x => run_bytesStr (c := c11) (((Sl.of_own Hown112.out).below x.h).rv) Try.underlying22 Try.underlying5 Try.underlying9
      have v2 : ∀ x : BW w12.heap.size w12, (convert 22 9 (.slice A12 X.length c12)).run Try.prog x.w = .ok (.string ⟨X.toArray⟩) x.w := fun x => run_bytesStr (c := c12) ((Hsl12.out.below x.h).rv) Try.underlying22 Try.underlying5 Try.underlying9
      obtain ⟨C, hC⟩ : ∃ C, C = checkL q1.plain := ⟨_, rfl⟩
      obtain ⟨S, hS⟩ : ∃ S, S = sameP q1.plain p.plain := ⟨_, rfl⟩
      have Hc1 : Hid (∀ x : BW w12.heap.size w12, Calls Try.prog 13 #[q.val] x.w fun e w' => e = .returned (.int .i64 C) ∧ Below x.w.heap.size x.w w') := Lib.hid fun x => by
        rw [← HVv.out, hC]; exact check_any q1 x.w (HAm2.out.below x.h)
      have Hc2 : Hid (∀ x : BW w12.heap.size w12, Calls Try.prog 13 #[o.val] x.w fun e w' => e = .returned (.int .i64 C) ∧ Below x.w.heap.size x.w w') := Lib.hid fun x => by
        rw [hC, ← Hpl.out]; exact check_any o x.w (HAo2.out.below x.h)
      have Hs1 : Hid (∀ x : BW w12.heap.size w12, Calls Try.prog 25 #[q.val, p.val] x.w fun e w' => e = .returned (.bool S) ∧ Below x.w.heap.size x.w w') := Lib.hid fun x => by
        rw [← HVv.out, hS]; exact sameP_any q1 p x.w (HAm2.out.below x.h) (Hp12.out.below x.h)
      have Hs2 : Hid (∀ x : BW w12.heap.size w12, Calls Try.prog 21 #[o.val, p.val] x.w fun e w' => e = .returned (.bool S) ∧ Below x.w.heap.size x.w w') := Lib.hid fun x => by
        rw [hS, ← Hpl.out]; exact refSameP_any o p x.w (HAo2.out.below x.h) (Hp12.out.below x.h)
      clear hC hS
      go_wp2_with fail
      refine region_inB w12.heap.size w12 (Below.refl _ _) (by kernel_rfl) (by kernel_rfl) ?_
      repeat (go_big_quiet_step (with_reducible first | exact Calls.inBat _ (Hc1.out _) (Nat.le_refl _) | exact Calls.inBat _ (Hc2.out _) (Nat.le_refl _) | exact Calls.inBat _ (Hs1.out _) (Nat.le_refl _) | exact Calls.inBat _ (Hs2.out _) (Nat.le_refl _)))
      refine wpQuiet_nil ?_
      intro w13 hb13
      have HB13 := Lib.hid (HB12.out.trans (hb13.mono HB12.out.size))
      have Hown13 := Lib.hid (Own.below Hown112.out hb13 (Nat.le_refl _))
      have hz13 := hb13.size
      clear hb13 m0 m1 m2 o0 o1 o2 x0 x1 x2 v1 v2 Hc1 Hc2 Hs1 Hs2
      have Hdc := Lib.hid (decodeP_any A11 c11 X w13 (Sl.of_own Hown13.out) (by omega))
      go_wp2_with fail
      refine Hdc.out.mono ?_
      rintro e w14 ⟨d14, -, rfl, -, hb14⟩
      have HB14 := Lib.hid (HB13.out.trans (hb14.mono HB13.out.size))
      have Hown14 := Lib.hid (Own.below Hown13.out hb14 (Nat.le_refl _))
      have hz14 := hb14.size
      clear hb14 Hdc
      by_cases hX0 : X.length = 0
      · have gX : ((X.length : Int) == 0) = true := by rw [hX0]; rfl
        clear hX0
        go_wp2_with fail
        go_ret
        exact ⟨rfl, HB14.out⟩
      have gX : ((X.length : Int) == 0) = false := by rw [beq_eq_false_iff_ne]; omega
      obtain ⟨kk, hkk⟩ := Int.eq_ofNat_of_zero_le (Int.emod_nonneg a1 (b := (X.length : Int)) (by omega))
      have hkk2 : kk < X.length := by have := Int.emod_lt_of_pos a1 (b := (X.length : Int)) (by omega); omega
      have Hin2 := Lib.hid (inP_any a1 X.length kk hkk.symm (by omega) (by omega) w14)
      obtain ⟨ga, hAa, hga1, hga2⟩ := own_some Hown14.out (by omega)
      subst hAa
      have hclen : kk < (X.map bv).length := by rw [List.length_map]; exact hkk2
      obtain ⟨y0, yf0, -⟩ := own_at Hown14.out kk hclen
      rw [List.getElem_map] at y0
      have hxor : ∃ u : UInt8, Value.int .u8 (bits .xor .u8 (X[kk].toNat : Int) 1) = bv u := by
        have h : bits .xor .u8 (X[kk].toNat : Int) 1 = IntKind.u8.wrap (((BitVec.ofInt 8 (X[kk].toNat : Int)) ^^^ (BitVec.ofInt 8 1)).toNat : Int) := rfl
        rw [h, IntKind.wrap_u8]
        exact u8_of _ (by omega) (by omega)
      obtain ⟨uu, huu⟩ := hxor
      have Huu := Lib.hid huu
      generalize X[kk] = xk at *
      replace y0 : w14.cell? ⟨ga, kk, none⟩ = some (.int .u8 (xk.toNat : Int)) := y0
      clear hX0 hkk hclen huu
      go_wp2_with fail
      refine Hin2.out.mono ?_
      rintro e w15 ⟨rfl, hw15⟩
      subst hw15
      go_wp2_with (refine wpList_at 149 rfl ?_; refine wp_stop ?_)
      try refine ⟨?_⟩
      rw [Huu.out]
      obtain ⟨Y, hY⟩ : ∃ Y, Y = X.set kk uu := ⟨_, rfl⟩
      have hYl : Y.length = X.length := by rw [hY, List.length_set]
      obtain ⟨w16, hw16⟩ : ∃ w16, w16 = w15.setCell ⟨ga, kk, none⟩ (bv uu) := ⟨_, rfl⟩
      have hown16 : OwnB w16 w10.heap.size (some ⟨ga, 0, none⟩) X.length c11 Y := by
        rw [hw16]
        show Own _ _ _ 1 _ _ _ (Y.map bv)
        rw [hY, List.map_set]
        exact own_set Hown14.out kk (bv uu)
      have hO16 : Only (fun b => b = ga) w15 w16 := by rw [hw16]; exact (Only.refl (fun b => b = ga) w15).setCell (p := ⟨ga, kk, none⟩) (.inl rfl) _
      obtain ⟨w17, hw17⟩ : ∃ w17, w17 = w16.alloc (.cells #[] 5) := ⟨_, rfl⟩
      have hb67 : Below w16.heap.size w16 w17 := by rw [hw17]; exact (Below.refl _ _).alloc (Nat.le_refl _) _
      have ho17 : Own w17 w16.heap.size 5 1 (some ⟨w16.heap.size, 0, none⟩) 0 0 [] := by rw [hw17]; exact Own.lit w16 5 1 0 #[] (Nat.le_refl _) (Nat.zero_le _) rfl
      have hz16 : w16.heap.size = w15.heap.size := by rw [hw16]; simp
      have hwB : w.heap.size ≤ ga := by have := HB10.out.size; omega
      have HB16 := Lib.hid (show Below w.heap.size w w16 from HB14.out.trans ((hO16.below (B := w.heap.size) HB14.out.size (by intro k hk e; omega)).mono (Nat.le_refl _)))
      have hown17 := Own.below hown16 hb67 (Nat.le_refl _)
      rw [← hw16, ← hz16]
      rw [← hw17]
      refine wpList_app rfl (.tmp 147) (.tmp 148) eByte rfl rfl ho17 (m := X.length) (c' := c11) (us := Y.map bv) rfl (RV.of_own hown17) (by rw [List.length_map, hYl, Nat.mul_one]) (map_bv_one _) (by unfold maxLen; omega) (by omega) hb67.size (fun e => by cases e) ?_
      intro A18 c18 w18 hown18 hg18 hA18
      have hb78 : Below w16.heap.size w17 w18 := (Below.refl w16.heap.size w17).grown hg18 hb67.size fun q hq => by injection hq with hq; exact Nat.le_of_eq hq
      rw [Nat.zero_add, List.nil_append] at hown18
      have hb68 := hb67.trans hb78
      have HB18 := Lib.hid (HB16.out.trans (hb68.mono HB16.out.size))
      have hown18' : OwnB w18 w16.heap.size A18 Y.length c18 Y := by rw [hYl]; exact hown18
      have hown168 : OwnB w18 w10.heap.size (some ⟨ga, 0, none⟩) Y.length c11 Y := by rw [hYl]; exact Own.below hown16 hb68 (Nat.le_refl _)
      have Hc18 := Lib.hid hown18'
      have Ha18 := Lib.hid hown168
      rw [← hYl]
      have hYn : Y.length ≤ 200000000000000 := by omega
      clear hown18 hown18' hown168 hg18 hA18 hb78 hb68 hown16 hown17 ho17 hO16 hb67 hw16 hw17 hz16 hY hYl y0 yf0 Hown14 Hin2 Huu
      simp only [Nat.zero_add]
      obtain ⟨D, hD⟩ : ∃ D, D = decP Y := ⟨_, rfl⟩
      have HD := Lib.hid hD
      clear hD
      have Hdc := Lib.hid (show Calls Try.prog 19 #[.slice (some ⟨ga, 0, none⟩) Y.length c11] w18 (DecPPost w18 D) from by rw [HD.out]; exact decodeP_any _ c11 Y w18 (Sl.of_own Ha18.out) hYn)
      go_wp2_with fail
      refine Hdc.out.mono ?_
      rintro e w19 ⟨d1, hd1, rfl, hw19, hb19⟩
      obtain ⟨w20, hw20⟩ : ∃ w20, w20 = w19.alloc (.cells #[.int .i64 d1.mem, .slice d1.AD d1.data.length d1.cD, .slice d1.AF d1.fs.length d1.cF] 25) := ⟨_, rfl⟩
      obtain ⟨g1', hg1'⟩ : ∃ g, g = w19.heap.size := ⟨_, rfl⟩
      have hb190 : Below w19.heap.size w19 w20 := by rw [hw20]; exact (Below.refl _ _).alloc (Nat.le_refl _) _
      have hb20 := hb19.trans (hb190.mono hb19.size)
      have HD1b := Lib.hid (show Blk w20 g1' 25 #[.int .i64 d1.mem, .slice d1.AD d1.data.length d1.cD, .slice d1.AF d1.fs.length d1.cF] from by rw [hw20, hg1']; exact Blk.new w19 _ _)
      have HB20 := Lib.hid (HB18.out.trans (hb20.mono HB18.out.size))
      have Hd1 := Lib.hid (hw19.at_.below hb190)
      have Hd1p := Lib.hid hd1
      have Hc20 := Lib.hid (Own.below Hc18.out hb20 (Nat.le_refl _))
      have Hw20 := Lib.hid hw20
      have Hg1' := Lib.hid hg1'
      clear hd1 hw19 hb19 hw20 hg1' hb190 hb20 Hdc
      have Hdc := Lib.hid (show Calls Try.prog 19 #[.slice A18 Y.length c18] w20 (DecPPost w20 D) from by rw [HD.out]; exact decodeP_any _ c18 Y w20 (Sl.of_own Hc20.out) hYn)
      go_wp2_with (refine wpList_at 157 rfl ?_; refine wp_stop ?_)
      try refine ⟨?_⟩
      rw [← Hw20.out, ← Hg1'.out]
      go_wp2_with fail
      refine Hdc.out.mono ?_
      rintro e w21 ⟨d2, hd2, rfl, hw21, hb21⟩
      obtain ⟨w22, hw22⟩ : ∃ w22, w22 = w21.alloc (.cells #[.int .i64 d2.mem, .slice d2.AD d2.data.length d2.cD, .slice d2.AF d2.fs.length d2.cF] 25) := ⟨_, rfl⟩
      obtain ⟨g2', hg2'⟩ : ∃ g, g = w21.heap.size := ⟨_, rfl⟩
      have hb212 : Below w21.heap.size w21 w22 := by rw [hw22]; exact (Below.refl _ _).alloc (Nat.le_refl _) _
      have hb22 := hb21.trans (hb212.mono hb21.size)
      have HD2b := Lib.hid (show Blk w22 g2' 25 #[.int .i64 d2.mem, .slice d2.AD d2.data.length d2.cD, .slice d2.AF d2.fs.length d2.cF] from by rw [hw22, hg2']; exact Blk.new w21 _ _)
      have HD1c := Lib.hid (HD1b.out.below hb22 HD1b.out.lt)
      have HB22 := Lib.hid (HB20.out.trans (hb22.mono HB20.out.size))
      have hsm := refSameP_any d1 d2 w22 (Hd1.out.below hb22) (hw21.at_.below hb212)
      rw [Hd1p.out, hd2, (sameP_iff _ _).2 rfl] at hsm
      have Hsm := Lib.hid hsm
      have Hw22 := Lib.hid hw22
      have Hg2' := Lib.hid hg2'
      clear hd2 hw21 hb21 hw22 hg2' hb212 hb22 Hdc hsm
      have s0 : w22.cell? ⟨g1', 0, none⟩ = some (.int .i64 d1.mem) := HD1c.out.cell 0
      have s1 : w22.cell? ⟨g1', 1, none⟩ = some (.slice d1.AD d1.data.length d1.cD) := HD1c.out.cell 1
      have s2 : w22.cell? ⟨g1', 2, none⟩ = some (.slice d1.AF d1.fs.length d1.cF) := HD1c.out.cell 2
      have sl := HD1c.out.lt
      have t0 : w22.cell? ⟨g2', 0, none⟩ = some (.int .i64 d2.mem) := HD2b.out.cell 0
      have t1 : w22.cell? ⟨g2', 1, none⟩ = some (.slice d2.AD d2.data.length d2.cD) := HD2b.out.cell 1
      have t2 : w22.cell? ⟨g2', 2, none⟩ = some (.slice d2.AF d2.fs.length d2.cF) := HD2b.out.cell 2
      have tl := HD2b.out.lt
      go_wp2_with (refine wpList_at 160 rfl ?_; refine wp_stop ?_)
      try refine ⟨?_⟩
      rw [← Hw22.out, ← Hg2'.out]
      go_wp2_with fail
      refine Hsm.out.mono ?_
      rintro e w23 ⟨rfl, hb23⟩
      have HF := Lib.hid (HB22.out.trans (hb23.mono HB22.out.size))
      clear hb23 Hsm
      go_wp2_with fail
      go_ret
      exact ⟨rfl, HF.out⟩
    have d1 : (0 : Int) < (q.data.length : Int) := by omega
    have hdv : q1.AD = q.AD ∧ q1.data.length = q.data.length ∧ q1.cD = q.cD := by
      have h := HVv.out
      simp only [PrgM.val, Value.agg.injEq, Array.mk.injEq, List.cons.injEq, Value.slice.injEq, Value.int.injEq, and_true, true_and] at h
      exact ⟨h.2.1.1, h.2.1.2.1, h.2.1.2.2⟩
    obtain ⟨gd, hAD, hgd1, hgd2⟩ := own_some HVm.out.data (by rw [hdv.2.1]; omega)
    have hdat := HVm.out.data
    rw [hAD] at hdat
    have hdl0 : 0 < (q1.data.map bv).length := by rw [List.length_map, hdv.2.1]; omega
    obtain ⟨z0, zf0, -⟩ := own_at hdat 0 hdl0
    rw [List.getElem_map] at z0
    have hADq : q.AD = some ⟨gd, 0, none⟩ := by rw [← hdv.1, hAD]
    rw [hADq] at m1
    generalize q1.data[0]'(by rw [← List.length_map (f := bv)]; exact hdl0) = xk at *
    replace z0 : w7.cell? ⟨gd, 0, none⟩ = some (.int .u8 (xk.toNat : Int)) := z0
    have HAD := Lib.hid hAD
    have HADq := Lib.hid hADq
    clear hd hdv hdat hdl0 hAD hADq
    obtain ⟨uu, huu⟩ := u8_of (IntKind.u8.wrap ((xk.toNat : Int) + 1)) (by rw [IntKind.wrap_u8]; omega) (by rw [IntKind.wrap_u8]; omega)
    have Huu2 := Lib.hid huu
    rw [IntKind.wrap_u8] at huu
    have Huu3 := Lib.hid huu
    clear huu
    have hgdm : gd < gm := HRows.out.1 gd (by rw [HADq.out]; rfl)
    go_wp2_with fail
    go_region
    first | rw [Huu3.out] | rw [Huu2.out]
    obtain ⟨q2, hval, hok, hmn⟩ := mine_data HVm.out HVok.out gd HAD.out 0 uu
    obtain ⟨v2, hv2⟩ : ∃ v2, v2 = (w7.setCell ⟨gd, 0, none⟩ (bv uu)).drew := ⟨_, rfl⟩
    rw [← hv2]
    have hO2 : Only (fun b => b = gd) w7 v2 := by rw [hv2]; exact ((Only.refl (fun b => b = gd) w7).setCell (p := ⟨gd, 0, none⟩) (.inl rfl) _).drew
    have hbd2 : Below (w7.setCell ⟨gd, 0, none⟩ (bv uu)).heap.size (w7.setCell ⟨gd, 0, none⟩ (bv uu)) v2 := by rw [hv2]; exact below_drewN (Below.refl _ _) 1
    have HVm2 := Lib.hid (hmn.below hbd2)
    have HVok2 := Lib.hid hok
    have HVv2 : Hid (q2.val = q.val) := Lib.hid (hval.trans HVv.out)
    have HVbox2 := Lib.hid (HVbox.out.only hO2 (by omega))
    have HVx2 := Lib.hid (HVx.out.only hO2 (by omega))
    have HVb2 := Lib.hid (HVb.out.trans ((hO2.below (B := w.heap.size) HVb.out.size (by have := Hgx.out; intro k hk e; omega)).mono (Nat.le_refl _)))
    clear hval hok hmn hv2 hO2 hbd2 Huu2 Huu3 z0 zf0 m0 m1 m2 ml HVm HVok HVv HVbox HVx HVb HAD
    have HVm := HVm2
    have HVok := HVok2
    have HVv := HVv2
    have HVbox := HVbox2
    have HVx := HVx2
    have HVb := HVb2
    clear HVm2 HVok2 HVv2 HVbox2 HVx2 HVb2
    have Htw2 := Lib.hid (show Calls Try.prog 24 #[q.val] v2 (TwinPost v2 q2) from by rw [← HVv.out]; exact refTwin_any q2 v2 (HVm.out.at_ HVok.out))
    have m0 : v2.cell? ⟨gm, 0, none⟩ = some (.int .i64 q.mem) := HVbox.out.cell 0
    have m1 : v2.cell? ⟨gm, 1, none⟩ = some (.slice q.AD q.data.length q.cD) := HVbox.out.cell 1
    have m2 : v2.cell? ⟨gm, 2, none⟩ = some (.slice q.AF q.fs.length q.cF) := HVbox.out.cell 2
    have ml := HVbox.out.lt
    go_wp2_with fail
    refine Htw2.out.mono ?_
    rintro e w9 ⟨o, rfl, hpl, hmine, hb9⟩
    obtain ⟨w10, hw10⟩ : ∃ w10, w10 = w9.alloc (.cells #[.int .i64 o.mem, .slice o.AD o.data.length o.cD, .slice o.AF o.fs.length o.cF] 25) := ⟨_, rfl⟩
    obtain ⟨go, hgo⟩ : ∃ g, g = w9.heap.size := ⟨_, rfl⟩
    have hb910 : Below w9.heap.size w9 w10 := by rw [hw10]; exact (Below.refl _ _).alloc (Nat.le_refl _) _
    have hb10 := hb9.trans (hb910.mono hb9.size)
    have HBoxo := Lib.hid (show Blk w10 go 25 #[.int .i64 o.mem, .slice o.AD o.data.length o.cD, .slice o.AF o.fs.length o.cF] from by rw [hw10, hgo]; exact Blk.new w9 _ _)
    have HBoxm := Lib.hid (HVbox.out.below hb10 HVbox.out.lt)
    have HX10 := Lib.hid (HVx.out.below hb10 HVx.out.lt)
    have HB10 := Lib.hid (HVb.out.trans (hb10.mono HVb.out.size))
    have HAm := Lib.hid ((HVm.out.below hb10).at_ HVok.out)
    have HAo := Lib.hid ((hmine.below hb910).at_ (by rw [hpl]; exact HVok.out))
    have Hpl := Lib.hid hpl
    have Hw10 := Lib.hid hw10
    have Hgo := Lib.hid hgo
    clear hpl hmine hb9 hw10 hgo hb910 hb10 Htw2 m0 m1 m2 ml
    obtain ⟨E, hE⟩ : ∃ E, E = encP q2.plain := ⟨_, rfl⟩
    have hEc : E.1.length ≤ 1048576 ∧ (E.2 = 0 ∨ E.1 = []) := by
      rw [hE]
      refine ⟨?_, encP_snd _⟩
      unfold encP
      split
      · split
        · simp
        · dsimp only; omega
      · simp
    have Hen := Lib.hid (show Calls Try.prog 16 #[q.val] w10 (EncPost w10 E) from by rw [← HVv.out, hE]; exact pEncode_any q2 w10 HAm.out)
    have HE := Lib.hid hE
    clear hE
    have m0 : w10.cell? ⟨gm, 0, none⟩ = some (.int .i64 q.mem) := HBoxm.out.cell 0
    have m1 : w10.cell? ⟨gm, 1, none⟩ = some (.slice q.AD q.data.length q.cD) := HBoxm.out.cell 1
    have m2 : w10.cell? ⟨gm, 2, none⟩ = some (.slice q.AF q.fs.length q.cF) := HBoxm.out.cell 2
    have ml := HBoxm.out.lt
    go_wp2_with (refine wpList_at 95 rfl ?_; refine wp_stop ?_)
    try refine ⟨?_⟩
    rw [← Hw10.out, ← Hgo.out]
    go_wp2_with fail
    refine Hen.out.mono ?_
    rintro e w11 ⟨A11, c11, rfl, hown11, hb11⟩
    have HBoxo1 := Lib.hid (HBoxo.out.below hb11 HBoxo.out.lt)
    have HBoxm1 := Lib.hid (HBoxm.out.below hb11 HBoxm.out.lt)
    have HX11 := Lib.hid (HX10.out.below hb11 HX10.out.lt)
    have HB11 := Lib.hid (HB10.out.trans (hb11.mono HB10.out.size))
    have HAm1 := Lib.hid (HAm.out.below hb11)
    have HAo1 := Lib.hid (HAo.out.below hb11)
    have Hown11 := Lib.hid hown11
    clear hown11 hb11 Hen m0 m1 m2 ml
    have o0 : w11.cell? ⟨go, 0, none⟩ = some (.int .i64 o.mem) := HBoxo1.out.cell 0
    have o1 : w11.cell? ⟨go, 1, none⟩ = some (.slice o.AD o.data.length o.cD) := HBoxo1.out.cell 1
    have o2 : w11.cell? ⟨go, 2, none⟩ = some (.slice o.AF o.fs.length o.cF) := HBoxo1.out.cell 2
    have ol := HBoxo1.out.lt
    have Hen := Lib.hid (show Calls Try.prog 16 #[o.val] w11 (EncPost w11 E) from by rw [HE.out, ← Hpl.out]; exact pEncode_any o w11 HAo1.out)
    go_wp2_with fail
    refine Hen.out.mono ?_
    rintro e w12 ⟨A12, c12, rfl, hown12, hb12⟩
    have HBoxo2 := Lib.hid (HBoxo1.out.below hb12 HBoxo1.out.lt)
    have HBoxm2 := Lib.hid (HBoxm1.out.below hb12 HBoxm1.out.lt)
    have HX12 := Lib.hid (HX11.out.below hb12 HX11.out.lt)
    have HB12 := Lib.hid (HB11.out.trans (hb12.mono HB11.out.size))
    have HAm2 := Lib.hid (HAm1.out.below hb12)
    have HAo2 := Lib.hid (HAo1.out.below hb12)
    have Hown112 := Lib.hid (Own.below Hown11.out hb12 (Nat.le_refl _))
    have Hsl12 := Lib.hid (Sl.of_own hown12)
    have hz11 := hb12.size
    obtain ⟨X, F⟩ := E
    dsimp only at Hown112 Hsl12 hEc ⊢
    clear hown12 hb12 Hen o0 o1 o2 ol Hown11
    have Hp12 := Lib.hid (Hp.out.below HB12.out)
    have lm := HBoxm2.out.lt
    have lo := HBoxo2.out.lt
    have lx := HX12.out.lt
    have m0 : ∀ x : BW w12.heap.size w12, x.w.cell? ⟨gm, 0, none⟩ = some (.int .i64 q.mem) := fun x => (x.blk HBoxm2.out lm).cell 0
    have m1 : ∀ x : BW w12.heap.size w12, x.w.cell? ⟨gm, 1, none⟩ = some (.slice q.AD q.data.length q.cD) := fun x => (x.blk HBoxm2.out lm).cell 1
    have m2 : ∀ x : BW w12.heap.size w12, x.w.cell? ⟨gm, 2, none⟩ = some (.slice q.AF q.fs.length q.cF) := fun x => (x.blk HBoxm2.out lm).cell 2
    have o0 : ∀ x : BW w12.heap.size w12, x.w.cell? ⟨go, 0, none⟩ = some (.int .i64 o.mem) := fun x => (x.blk HBoxo2.out lo).cell 0
    have o1 : ∀ x : BW w12.heap.size w12, x.w.cell? ⟨go, 1, none⟩ = some (.slice o.AD o.data.length o.cD) := fun x => (x.blk HBoxo2.out lo).cell 1
    have o2 : ∀ x : BW w12.heap.size w12, x.w.cell? ⟨go, 2, none⟩ = some (.slice o.AF o.fs.length o.cF) := fun x => (x.blk HBoxo2.out lo).cell 2
    have x0 : ∀ x : BW w12.heap.size w12, x.w.cell? ⟨gx, 0, none⟩ = some (.int .i64 p.mem) := fun x => (x.blk HX12.out lx).cell 0
    have x1 : ∀ x : BW w12.heap.size w12, x.w.cell? ⟨gx, 1, none⟩ = some (.slice p.AD p.data.length p.cD) := fun x => (x.blk HX12.out lx).cell 1
    have x2 : ∀ x : BW w12.heap.size w12, x.w.cell? ⟨gx, 2, none⟩ = some (.slice p.AF p.fs.length p.cF) := fun x => (x.blk HX12.out lx).cell 2
    have v1 : ∀ x : BW w12.heap.size w12, (convert 22 9 (.slice A11 X.length c11)).run Try.prog x.w = .ok (.string ⟨X.toArray⟩) x.w := fun x => run_bytesStr (c := c11) (((Sl.of_own Hown112.out).below x.h).rv) Try.underlying22 Try.underlying5 Try.underlying9
    have v2 : ∀ x : BW w12.heap.size w12, (convert 22 9 (.slice A12 X.length c12)).run Try.prog x.w = .ok (.string ⟨X.toArray⟩) x.w := fun x => run_bytesStr (c := c12) ((Hsl12.out.below x.h).rv) Try.underlying22 Try.underlying5 Try.underlying9
    obtain ⟨C, hC⟩ : ∃ C, C = checkL q2.plain := ⟨_, rfl⟩
    obtain ⟨S, hS⟩ : ∃ S, S = sameP q2.plain p.plain := ⟨_, rfl⟩
    have Hc1 : Hid (∀ x : BW w12.heap.size w12, Calls Try.prog 13 #[q.val] x.w fun e w' => e = .returned (.int .i64 C) ∧ Below x.w.heap.size x.w w') := Lib.hid fun x => by
      rw [← HVv.out, hC]; exact check_any q2 x.w (HAm2.out.below x.h)
    have Hc2 : Hid (∀ x : BW w12.heap.size w12, Calls Try.prog 13 #[o.val] x.w fun e w' => e = .returned (.int .i64 C) ∧ Below x.w.heap.size x.w w') := Lib.hid fun x => by
      rw [hC, ← Hpl.out]; exact check_any o x.w (HAo2.out.below x.h)
    have Hs1 : Hid (∀ x : BW w12.heap.size w12, Calls Try.prog 25 #[q.val, p.val] x.w fun e w' => e = .returned (.bool S) ∧ Below x.w.heap.size x.w w') := Lib.hid fun x => by
      rw [← HVv.out, hS]; exact sameP_any q2 p x.w (HAm2.out.below x.h) (Hp12.out.below x.h)
    have Hs2 : Hid (∀ x : BW w12.heap.size w12, Calls Try.prog 21 #[o.val, p.val] x.w fun e w' => e = .returned (.bool S) ∧ Below x.w.heap.size x.w w') := Lib.hid fun x => by
      rw [hS, ← Hpl.out]; exact refSameP_any o p x.w (HAo2.out.below x.h) (Hp12.out.below x.h)
    clear hC hS
    go_wp2_with fail
    refine region_inB w12.heap.size w12 (Below.refl _ _) (by kernel_rfl) (by kernel_rfl) ?_
    repeat (go_big_quiet_step (with_reducible first | exact Calls.inBat _ (Hc1.out _) (Nat.le_refl _) | exact Calls.inBat _ (Hc2.out _) (Nat.le_refl _) | exact Calls.inBat _ (Hs1.out _) (Nat.le_refl _) | exact Calls.inBat _ (Hs2.out _) (Nat.le_refl _)))
    refine wpQuiet_nil ?_
    intro w13 hb13
    have HB13 := Lib.hid (HB12.out.trans (hb13.mono HB12.out.size))
    have Hown13 := Lib.hid (Own.below Hown112.out hb13 (Nat.le_refl _))
    have hz13 := hb13.size
    clear hb13 m0 m1 m2 o0 o1 o2 x0 x1 x2 v1 v2 Hc1 Hc2 Hs1 Hs2
    have Hdc := Lib.hid (decodeP_any A11 c11 X w13 (Sl.of_own Hown13.out) (by omega))
    go_wp2_with fail
    refine Hdc.out.mono ?_
    rintro e w14 ⟨d14, -, rfl, -, hb14⟩
    have HB14 := Lib.hid (HB13.out.trans (hb14.mono HB13.out.size))
    have Hown14 := Lib.hid (Own.below Hown13.out hb14 (Nat.le_refl _))
    have hz14 := hb14.size
    clear hb14 Hdc
    by_cases hX0 : X.length = 0
    · have gX : ((X.length : Int) == 0) = true := by rw [hX0]; rfl
      clear hX0
      go_wp2_with fail
      go_ret
      exact ⟨rfl, HB14.out⟩
    have gX : ((X.length : Int) == 0) = false := by rw [beq_eq_false_iff_ne]; omega
    obtain ⟨kk, hkk⟩ := Int.eq_ofNat_of_zero_le (Int.emod_nonneg a1 (b := (X.length : Int)) (by omega))
    have hkk2 : kk < X.length := by have := Int.emod_lt_of_pos a1 (b := (X.length : Int)) (by omega); omega
    have Hin2 := Lib.hid (inP_any a1 X.length kk hkk.symm (by omega) (by omega) w14)
    obtain ⟨ga, hAa, hga1, hga2⟩ := own_some Hown14.out (by omega)
    subst hAa
    have hclen : kk < (X.map bv).length := by rw [List.length_map]; exact hkk2
    obtain ⟨y0, yf0, -⟩ := own_at Hown14.out kk hclen
    rw [List.getElem_map] at y0
    have hxor : ∃ u : UInt8, Value.int .u8 (bits .xor .u8 (X[kk].toNat : Int) 1) = bv u := by
      have h : bits .xor .u8 (X[kk].toNat : Int) 1 = IntKind.u8.wrap (((BitVec.ofInt 8 (X[kk].toNat : Int)) ^^^ (BitVec.ofInt 8 1)).toNat : Int) := rfl
      rw [h, IntKind.wrap_u8]
      exact u8_of _ (by omega) (by omega)
    obtain ⟨uu, huu⟩ := hxor
    have Huu := Lib.hid huu
    generalize X[kk] = xk at *
    replace y0 : w14.cell? ⟨ga, kk, none⟩ = some (.int .u8 (xk.toNat : Int)) := y0
    clear hX0 hkk hclen huu
    go_wp2_with fail
    refine Hin2.out.mono ?_
    rintro e w15 ⟨rfl, hw15⟩
    subst hw15
    go_wp2_with (refine wpList_at 149 rfl ?_; refine wp_stop ?_)
    try refine ⟨?_⟩
    rw [Huu.out]
    obtain ⟨Y, hY⟩ : ∃ Y, Y = X.set kk uu := ⟨_, rfl⟩
    have hYl : Y.length = X.length := by rw [hY, List.length_set]
    obtain ⟨w16, hw16⟩ : ∃ w16, w16 = w15.setCell ⟨ga, kk, none⟩ (bv uu) := ⟨_, rfl⟩
    have hown16 : OwnB w16 w10.heap.size (some ⟨ga, 0, none⟩) X.length c11 Y := by
      rw [hw16]
      show Own _ _ _ 1 _ _ _ (Y.map bv)
      rw [hY, List.map_set]
      exact own_set Hown14.out kk (bv uu)
    have hO16 : Only (fun b => b = ga) w15 w16 := by rw [hw16]; exact (Only.refl (fun b => b = ga) w15).setCell (p := ⟨ga, kk, none⟩) (.inl rfl) _
    obtain ⟨w17, hw17⟩ : ∃ w17, w17 = w16.alloc (.cells #[] 5) := ⟨_, rfl⟩
    have hb67 : Below w16.heap.size w16 w17 := by rw [hw17]; exact (Below.refl _ _).alloc (Nat.le_refl _) _
    have ho17 : Own w17 w16.heap.size 5 1 (some ⟨w16.heap.size, 0, none⟩) 0 0 [] := by rw [hw17]; exact Own.lit w16 5 1 0 #[] (Nat.le_refl _) (Nat.zero_le _) rfl
    have hz16 : w16.heap.size = w15.heap.size := by rw [hw16]; simp
    have hwB : w.heap.size ≤ ga := by have := HB10.out.size; omega
    have HB16 := Lib.hid (show Below w.heap.size w w16 from HB14.out.trans ((hO16.below (B := w.heap.size) HB14.out.size (by intro k hk e; omega)).mono (Nat.le_refl _)))
    have hown17 := Own.below hown16 hb67 (Nat.le_refl _)
    rw [← hw16, ← hz16]
    rw [← hw17]
    refine wpList_app rfl (.tmp 147) (.tmp 148) eByte rfl rfl ho17 (m := X.length) (c' := c11) (us := Y.map bv) rfl (RV.of_own hown17) (by rw [List.length_map, hYl, Nat.mul_one]) (map_bv_one _) (by unfold maxLen; omega) (by omega) hb67.size (fun e => by cases e) ?_
    intro A18 c18 w18 hown18 hg18 hA18
    have hb78 : Below w16.heap.size w17 w18 := (Below.refl w16.heap.size w17).grown hg18 hb67.size fun q hq => by injection hq with hq; exact Nat.le_of_eq hq
    rw [Nat.zero_add, List.nil_append] at hown18
    have hb68 := hb67.trans hb78
    have HB18 := Lib.hid (HB16.out.trans (hb68.mono HB16.out.size))
    have hown18' : OwnB w18 w16.heap.size A18 Y.length c18 Y := by rw [hYl]; exact hown18
    have hown168 : OwnB w18 w10.heap.size (some ⟨ga, 0, none⟩) Y.length c11 Y := by rw [hYl]; exact Own.below hown16 hb68 (Nat.le_refl _)
    have Hc18 := Lib.hid hown18'
    have Ha18 := Lib.hid hown168
    rw [← hYl]
    have hYn : Y.length ≤ 200000000000000 := by omega
    clear hown18 hown18' hown168 hg18 hA18 hb78 hb68 hown16 hown17 ho17 hO16 hb67 hw16 hw17 hz16 hY hYl y0 yf0 Hown14 Hin2 Huu
    simp only [Nat.zero_add]
    obtain ⟨D, hD⟩ : ∃ D, D = decP Y := ⟨_, rfl⟩
    have HD := Lib.hid hD
    clear hD
    have Hdc := Lib.hid (show Calls Try.prog 19 #[.slice (some ⟨ga, 0, none⟩) Y.length c11] w18 (DecPPost w18 D) from by rw [HD.out]; exact decodeP_any _ c11 Y w18 (Sl.of_own Ha18.out) hYn)
    go_wp2_with fail
    refine Hdc.out.mono ?_
    rintro e w19 ⟨d1, hd1, rfl, hw19, hb19⟩
    obtain ⟨w20, hw20⟩ : ∃ w20, w20 = w19.alloc (.cells #[.int .i64 d1.mem, .slice d1.AD d1.data.length d1.cD, .slice d1.AF d1.fs.length d1.cF] 25) := ⟨_, rfl⟩
    obtain ⟨g1', hg1'⟩ : ∃ g, g = w19.heap.size := ⟨_, rfl⟩
    have hb190 : Below w19.heap.size w19 w20 := by rw [hw20]; exact (Below.refl _ _).alloc (Nat.le_refl _) _
    have hb20 := hb19.trans (hb190.mono hb19.size)
    have HD1b := Lib.hid (show Blk w20 g1' 25 #[.int .i64 d1.mem, .slice d1.AD d1.data.length d1.cD, .slice d1.AF d1.fs.length d1.cF] from by rw [hw20, hg1']; exact Blk.new w19 _ _)
    have HB20 := Lib.hid (HB18.out.trans (hb20.mono HB18.out.size))
    have Hd1 := Lib.hid (hw19.at_.below hb190)
    have Hd1p := Lib.hid hd1
    have Hc20 := Lib.hid (Own.below Hc18.out hb20 (Nat.le_refl _))
    have Hw20 := Lib.hid hw20
    have Hg1' := Lib.hid hg1'
    clear hd1 hw19 hb19 hw20 hg1' hb190 hb20 Hdc
    have Hdc := Lib.hid (show Calls Try.prog 19 #[.slice A18 Y.length c18] w20 (DecPPost w20 D) from by rw [HD.out]; exact decodeP_any _ c18 Y w20 (Sl.of_own Hc20.out) hYn)
    go_wp2_with (refine wpList_at 157 rfl ?_; refine wp_stop ?_)
    try refine ⟨?_⟩
    rw [← Hw20.out, ← Hg1'.out]
    go_wp2_with fail
    refine Hdc.out.mono ?_
    rintro e w21 ⟨d2, hd2, rfl, hw21, hb21⟩
    obtain ⟨w22, hw22⟩ : ∃ w22, w22 = w21.alloc (.cells #[.int .i64 d2.mem, .slice d2.AD d2.data.length d2.cD, .slice d2.AF d2.fs.length d2.cF] 25) := ⟨_, rfl⟩
    obtain ⟨g2', hg2'⟩ : ∃ g, g = w21.heap.size := ⟨_, rfl⟩
    have hb212 : Below w21.heap.size w21 w22 := by rw [hw22]; exact (Below.refl _ _).alloc (Nat.le_refl _) _
    have hb22 := hb21.trans (hb212.mono hb21.size)
    have HD2b := Lib.hid (show Blk w22 g2' 25 #[.int .i64 d2.mem, .slice d2.AD d2.data.length d2.cD, .slice d2.AF d2.fs.length d2.cF] from by rw [hw22, hg2']; exact Blk.new w21 _ _)
    have HD1c := Lib.hid (HD1b.out.below hb22 HD1b.out.lt)
    have HB22 := Lib.hid (HB20.out.trans (hb22.mono HB20.out.size))
    have hsm := refSameP_any d1 d2 w22 (Hd1.out.below hb22) (hw21.at_.below hb212)
    rw [Hd1p.out, hd2, (sameP_iff _ _).2 rfl] at hsm
    have Hsm := Lib.hid hsm
    have Hw22 := Lib.hid hw22
    have Hg2' := Lib.hid hg2'
    clear hd2 hw21 hb21 hw22 hg2' hb212 hb22 Hdc hsm
    have s0 : w22.cell? ⟨g1', 0, none⟩ = some (.int .i64 d1.mem) := HD1c.out.cell 0
    have s1 : w22.cell? ⟨g1', 1, none⟩ = some (.slice d1.AD d1.data.length d1.cD) := HD1c.out.cell 1
    have s2 : w22.cell? ⟨g1', 2, none⟩ = some (.slice d1.AF d1.fs.length d1.cF) := HD1c.out.cell 2
    have sl := HD1c.out.lt
    have t0 : w22.cell? ⟨g2', 0, none⟩ = some (.int .i64 d2.mem) := HD2b.out.cell 0
    have t1 : w22.cell? ⟨g2', 1, none⟩ = some (.slice d2.AD d2.data.length d2.cD) := HD2b.out.cell 1
    have t2 : w22.cell? ⟨g2', 2, none⟩ = some (.slice d2.AF d2.fs.length d2.cF) := HD2b.out.cell 2
    have tl := HD2b.out.lt
    go_wp2_with (refine wpList_at 160 rfl ?_; refine wp_stop ?_)
    try refine ⟨?_⟩
    rw [← Hw22.out, ← Hg2'.out]
    go_wp2_with fail
    refine Hsm.out.mono ?_
    rintro e w23 ⟨rfl, hb23⟩
    have HF := Lib.hid (HB22.out.trans (hb23.mono HB22.out.size))
    clear hb23 Hsm
    go_wp2_with fail
    go_ret
    exact ⟨rfl, HF.out⟩
  obtain ⟨i, hi⟩ := Int.eq_ofNat_of_zero_le (Int.emod_nonneg a1 (b := (q.fs.length : Int)) (by omega))
  have hi2 : i < q.fs.length := by have := Int.emod_lt_of_pos a1 (b := (q.fs.length : Int)) (by omega); omega
  have g1 : (0 : Int) < (q.fs.length : Int) := by omega
  have Hin := Lib.hid (inP_any a1 q.fs.length i hi.symm (by omega) (by omega) w7)
  obtain ⟨f, hf⟩ : ∃ f, q.fs[i]? = some f := ⟨_, List.getElem?_eq_getElem hi2⟩
  obtain ⟨gf, hAF, hgf1, hgf2⟩ := own_some HMine.out.funs (by omega)
  have HAF := Lib.hid hAF
  have hgfm : gf < gm := HRows.out.2.1 gf (by rw [hAF]; rfl)
  rw [hAF] at m2
  have hfm := List.mem_of_getElem? hf
  have hcl : f.code.length ≤ 8796093021952 := (HOk.out.fs f.plain (List.mem_map.2 ⟨f, hfm, rfl⟩)).2.1
  have hfn := HMine.out.funs
  rw [hAF] at hfn
  have hget : ∀ j, j < 4 → (q.fs.flatMap funCells)[i * 4 + j]? = (funCells f)[j]? := fun j hj => by
    rw [funCells_get q.fs i j hi2 hj]
    rw [List.getElem?_eq_getElem hi2] at hf
    injection hf with hf
    rw [hf]
  have hcell : ∀ j (u : Value), (funCells f)[j]? = some u → j < 4 → w7.cell? ⟨gf, i * 4 + j, none⟩ = some u ∧ w7.frozen? ⟨gf, i * 4 + j, none⟩ = false := fun j u hu hj => by
    have h1 := hget j hj
    rw [hu] at h1
    obtain ⟨h2, h3⟩ := List.getElem?_eq_some_iff.1 h1
    obtain ⟨h4, h5, -⟩ := own_at hfn (i * 4 + j) h2
    rw [h3] at h4
    exact ⟨h4, h5⟩
  have n2 := (hcell 2 _ rfl (by omega)).1
  have nf2 := (hcell 2 _ rfl (by omega)).2
  have n3 := (hcell 3 _ rfl (by omega)).1
  have Hf := Lib.hid hf
  have Hfm := Lib.hid hfm
  clear hi hf hAF hfn hget hcell hfm hm
  go_wp2_with fail
  refine Hin.out.mono ?_
  rintro e w8 ⟨rfl, hw8⟩
  subst hw8
  by_cases hc0 : f.code.length = 0
  · have g2 : ¬ (0 : Int) < (f.code.length : Int) := by omega
    obtain ⟨q0, hq0⟩ : ∃ q0, q0 = q := ⟨q, rfl⟩
    have HUm : Hid (PrgMine w8 w2.heap.size q0) := by rw [hq0]; exact HMine
    have HUok : Hid (PrgOk q0.plain) := by rw [hq0]; exact HOk
    have HUv : Hid (q0.val = q.val) := Lib.hid (by rw [hq0])
    have HUf : Hid (q0.fs[i]? = some f) := by rw [hq0]; exact Hf
    have HUa : Hid (q0.AF = some ⟨gf, 0, none⟩) := by rw [hq0]; exact HAF
    have HUbox := HBox
    have HUx := HX
    have HUb := HB
    clear hc0 hq0
    go_wp2_with fail
    go_region
    have hwr : -9223372036854775808 ≤ wrap64 (1 - f.results) ∧ wrap64 (1 - f.results) ≤ 9223372036854775807 := by unfold wrap64; omega
    obtain ⟨rr, hrr⟩ : ∃ r, r = wrap64 (1 - f.results) := ⟨_, rfl⟩
    rw [← hrr] at hwr ⊢
    obtain ⟨q1, hval, hok, hmn⟩ := mine_res HUm.out HUok.out i _ HUf.out gf HUa.out rr hwr
    obtain ⟨v1, hv1⟩ : ∃ v1, v1 = (w8.setCell ⟨gf, i * 4 + 2, none⟩ (.int .i64 rr)).drew := ⟨_, rfl⟩
    rw [← hv1]
    have hO1 : Only (fun b => b = gf) w8 v1 := by rw [hv1]; exact ((Only.refl (fun b => b = gf) w8).setCell (p := ⟨gf, i * 4 + 2, none⟩) (.inl rfl) _).drew
    have hbd1 : Below (w8.setCell ⟨gf, i * 4 + 2, none⟩ (.int .i64 rr)).heap.size (w8.setCell ⟨gf, i * 4 + 2, none⟩ (.int .i64 rr)) v1 := by rw [hv1]; exact below_drewN (Below.refl _ _) 1
    have HVm := Lib.hid (hmn.below hbd1)
    have HVok := Lib.hid hok
    have HVv : Hid (q1.val = q.val) := Lib.hid (hval.trans HUv.out)
    have HVbox := Lib.hid (HUbox.out.only hO1 (by omega))
    have HVx := Lib.hid (HUx.out.only hO1 (by omega))
    have HVb := Lib.hid (HUb.out.trans ((hO1.below (B := w.heap.size) HUb.out.size (by have := Hgx.out; intro k hk e; omega)).mono (Nat.le_refl _)))
    clear hval hok hmn hv1 hO1 hbd1 hrr hwr n2 nf2 n3 m0 m1 m2 ml HUm HUok HUv HUbox HUx HUb HUf HUa Hf Hfm
    have m0 : v1.cell? ⟨gm, 0, none⟩ = some (.int .i64 q.mem) := HVbox.out.cell 0
    have m1 : v1.cell? ⟨gm, 1, none⟩ = some (.slice q.AD q.data.length q.cD) := HVbox.out.cell 1
    have m2 : v1.cell? ⟨gm, 2, none⟩ = some (.slice q.AF q.fs.length q.cF) := HVbox.out.cell 2
    have ml := HVbox.out.lt
    by_cases hd : q.data.length = 0
    · have d1 : ¬ (0 : Int) < (q.data.length : Int) := by omega
      clear hd m0 m1 m2 ml
      have Htw2 := Lib.hid (show Calls Try.prog 24 #[q.val] v1 (TwinPost v1 q1) from by rw [← HVv.out]; exact refTwin_any q1 v1 (HVm.out.at_ HVok.out))
      have m0 : v1.cell? ⟨gm, 0, none⟩ = some (.int .i64 q.mem) := HVbox.out.cell 0
      have m1 : v1.cell? ⟨gm, 1, none⟩ = some (.slice q.AD q.data.length q.cD) := HVbox.out.cell 1
      have m2 : v1.cell? ⟨gm, 2, none⟩ = some (.slice q.AF q.fs.length q.cF) := HVbox.out.cell 2
      have ml := HVbox.out.lt
      go_wp2_with fail
      refine Htw2.out.mono ?_
      rintro e w9 ⟨o, rfl, hpl, hmine, hb9⟩
      obtain ⟨w10, hw10⟩ : ∃ w10, w10 = w9.alloc (.cells #[.int .i64 o.mem, .slice o.AD o.data.length o.cD, .slice o.AF o.fs.length o.cF] 25) := ⟨_, rfl⟩
      obtain ⟨go, hgo⟩ : ∃ g, g = w9.heap.size := ⟨_, rfl⟩
      have hb910 : Below w9.heap.size w9 w10 := by rw [hw10]; exact (Below.refl _ _).alloc (Nat.le_refl _) _
      have hb10 := hb9.trans (hb910.mono hb9.size)
      have HBoxo := Lib.hid (show Blk w10 go 25 #[.int .i64 o.mem, .slice o.AD o.data.length o.cD, .slice o.AF o.fs.length o.cF] from by rw [hw10, hgo]; exact Blk.new w9 _ _)
      have HBoxm := Lib.hid (HVbox.out.below hb10 HVbox.out.lt)
      have HX10 := Lib.hid (HVx.out.below hb10 HVx.out.lt)
      have HB10 := Lib.hid (HVb.out.trans (hb10.mono HVb.out.size))
      have HAm := Lib.hid ((HVm.out.below hb10).at_ HVok.out)
      have HAo := Lib.hid ((hmine.below hb910).at_ (by rw [hpl]; exact HVok.out))
      have Hpl := Lib.hid hpl
      have Hw10 := Lib.hid hw10
      have Hgo := Lib.hid hgo
      clear hpl hmine hb9 hw10 hgo hb910 hb10 Htw2 m0 m1 m2 ml
      obtain ⟨E, hE⟩ : ∃ E, E = encP q1.plain := ⟨_, rfl⟩
      have hEc : E.1.length ≤ 1048576 ∧ (E.2 = 0 ∨ E.1 = []) := by
        rw [hE]
        refine ⟨?_, encP_snd _⟩
        unfold encP
        split
        · split
          · simp
          · dsimp only; omega
        · simp
      have Hen := Lib.hid (show Calls Try.prog 16 #[q.val] w10 (EncPost w10 E) from by rw [← HVv.out, hE]; exact pEncode_any q1 w10 HAm.out)
      have HE := Lib.hid hE
      clear hE
      have m0 : w10.cell? ⟨gm, 0, none⟩ = some (.int .i64 q.mem) := HBoxm.out.cell 0
      have m1 : w10.cell? ⟨gm, 1, none⟩ = some (.slice q.AD q.data.length q.cD) := HBoxm.out.cell 1
      have m2 : w10.cell? ⟨gm, 2, none⟩ = some (.slice q.AF q.fs.length q.cF) := HBoxm.out.cell 2
      have ml := HBoxm.out.lt
      go_wp2_with (refine wpList_at 95 rfl ?_; refine wp_stop ?_)
      try refine ⟨?_⟩
      rw [← Hw10.out, ← Hgo.out]
      go_wp2_with fail
      refine Hen.out.mono ?_
      rintro e w11 ⟨A11, c11, rfl, hown11, hb11⟩
      have HBoxo1 := Lib.hid (HBoxo.out.below hb11 HBoxo.out.lt)
      have HBoxm1 := Lib.hid (HBoxm.out.below hb11 HBoxm.out.lt)
      have HX11 := Lib.hid (HX10.out.below hb11 HX10.out.lt)
      have HB11 := Lib.hid (HB10.out.trans (hb11.mono HB10.out.size))
      have HAm1 := Lib.hid (HAm.out.below hb11)
      have HAo1 := Lib.hid (HAo.out.below hb11)
      have Hown11 := Lib.hid hown11
      clear hown11 hb11 Hen m0 m1 m2 ml
      have o0 : w11.cell? ⟨go, 0, none⟩ = some (.int .i64 o.mem) := HBoxo1.out.cell 0
      have o1 : w11.cell? ⟨go, 1, none⟩ = some (.slice o.AD o.data.length o.cD) := HBoxo1.out.cell 1
      have o2 : w11.cell? ⟨go, 2, none⟩ = some (.slice o.AF o.fs.length o.cF) := HBoxo1.out.cell 2
      have ol := HBoxo1.out.lt
      have Hen := Lib.hid (show Calls Try.prog 16 #[o.val] w11 (EncPost w11 E) from by rw [HE.out, ← Hpl.out]; exact pEncode_any o w11 HAo1.out)
      go_wp2_with fail
      refine Hen.out.mono ?_
      rintro e w12 ⟨A12, c12, rfl, hown12, hb12⟩
      have HBoxo2 := Lib.hid (HBoxo1.out.below hb12 HBoxo1.out.lt)
      have HBoxm2 := Lib.hid (HBoxm1.out.below hb12 HBoxm1.out.lt)
      have HX12 := Lib.hid (HX11.out.below hb12 HX11.out.lt)
      have HB12 := Lib.hid (HB11.out.trans (hb12.mono HB11.out.size))
      have HAm2 := Lib.hid (HAm1.out.below hb12)
      have HAo2 := Lib.hid (HAo1.out.below hb12)
      have Hown112 := Lib.hid (Own.below Hown11.out hb12 (Nat.le_refl _))
      have Hsl12 := Lib.hid (Sl.of_own hown12)
      have hz11 := hb12.size
      obtain ⟨X, F⟩ := E
      dsimp only at Hown112 Hsl12 hEc ⊢
      clear hown12 hb12 Hen o0 o1 o2 ol Hown11
      have Hp12 := Lib.hid (Hp.out.below HB12.out)
      have lm := HBoxm2.out.lt
      have lo := HBoxo2.out.lt
      have lx := HX12.out.lt
      have m0 : ∀ x : BW w12.heap.size w12, x.w.cell? ⟨gm, 0, none⟩ = some (.int .i64 q.mem) := fun x => (x.blk HBoxm2.out lm).cell 0
      have m1 : ∀ x : BW w12.heap.size w12, x.w.cell? ⟨gm, 1, none⟩ = some (.slice q.AD q.data.length q.cD) := fun x => (x.blk HBoxm2.out lm).cell 1
      have m2 : ∀ x : BW w12.heap.size w12, x.w.cell? ⟨gm, 2, none⟩ = some (.slice q.AF q.fs.length q.cF) := fun x => (x.blk HBoxm2.out lm).cell 2
      have o0 : ∀ x : BW w12.heap.size w12, x.w.cell? ⟨go, 0, none⟩ = some (.int .i64 o.mem) := fun x => (x.blk HBoxo2.out lo).cell 0
      have o1 : ∀ x : BW w12.heap.size w12, x.w.cell? ⟨go, 1, none⟩ = some (.slice o.AD o.data.length o.cD) := fun x => (x.blk HBoxo2.out lo).cell 1
      have o2 : ∀ x : BW w12.heap.size w12, x.w.cell? ⟨go, 2, none⟩ = some (.slice o.AF o.fs.length o.cF) := fun x => (x.blk HBoxo2.out lo).cell 2
      have x0 : ∀ x : BW w12.heap.size w12, x.w.cell? ⟨gx, 0, none⟩ = some (.int .i64 p.mem) := fun x => (x.blk HX12.out lx).cell 0
      have x1 : ∀ x : BW w12.heap.size w12, x.w.cell? ⟨gx, 1, none⟩ = some (.slice p.AD p.data.length p.cD) := fun x => (x.blk HX12.out lx).cell 1
      have x2 : ∀ x : BW w12.heap.size w12, x.w.cell? ⟨gx, 2, none⟩ = some (.slice p.AF p.fs.length p.cF) := fun x => (x.blk HX12.out lx).cell 2
      have v1 : ∀ x : BW w12.heap.size w12, (convert 22 9 (.slice A11 X.length c11)).run Try.prog x.w = .ok (.string ⟨X.toArray⟩) x.w := fun x => run_bytesStr (c := c11) (((Sl.of_own Hown112.out).below x.h).rv) Try.underlying22 Try.underlying5 Try.underlying9
      have v2 : ∀ x : BW w12.heap.size w12, (convert 22 9 (.slice A12 X.length c12)).run Try.prog x.w = .ok (.string ⟨X.toArray⟩) x.w := fun x => run_bytesStr (c := c12) ((Hsl12.out.below x.h).rv) Try.underlying22 Try.underlying5 Try.underlying9
      obtain ⟨C, hC⟩ : ∃ C, C = checkL q1.plain := ⟨_, rfl⟩
      obtain ⟨S, hS⟩ : ∃ S, S = sameP q1.plain p.plain := ⟨_, rfl⟩
      have Hc1 : Hid (∀ x : BW w12.heap.size w12, Calls Try.prog 13 #[q.val] x.w fun e w' => e = .returned (.int .i64 C) ∧ Below x.w.heap.size x.w w') := Lib.hid fun x => by
        rw [← HVv.out, hC]; exact check_any q1 x.w (HAm2.out.below x.h)
      have Hc2 : Hid (∀ x : BW w12.heap.size w12, Calls Try.prog 13 #[o.val] x.w fun e w' => e = .returned (.int .i64 C) ∧ Below x.w.heap.size x.w w') := Lib.hid fun x => by
        rw [hC, ← Hpl.out]; exact check_any o x.w (HAo2.out.below x.h)
      have Hs1 : Hid (∀ x : BW w12.heap.size w12, Calls Try.prog 25 #[q.val, p.val] x.w fun e w' => e = .returned (.bool S) ∧ Below x.w.heap.size x.w w') := Lib.hid fun x => by
        rw [← HVv.out, hS]; exact sameP_any q1 p x.w (HAm2.out.below x.h) (Hp12.out.below x.h)
      have Hs2 : Hid (∀ x : BW w12.heap.size w12, Calls Try.prog 21 #[o.val, p.val] x.w fun e w' => e = .returned (.bool S) ∧ Below x.w.heap.size x.w w') := Lib.hid fun x => by
        rw [hS, ← Hpl.out]; exact refSameP_any o p x.w (HAo2.out.below x.h) (Hp12.out.below x.h)
      clear hC hS
      go_wp2_with fail
      refine region_inB w12.heap.size w12 (Below.refl _ _) (by kernel_rfl) (by kernel_rfl) ?_
      repeat (go_big_quiet_step (with_reducible first | exact Calls.inBat _ (Hc1.out _) (Nat.le_refl _) | exact Calls.inBat _ (Hc2.out _) (Nat.le_refl _) | exact Calls.inBat _ (Hs1.out _) (Nat.le_refl _) | exact Calls.inBat _ (Hs2.out _) (Nat.le_refl _)))
      refine wpQuiet_nil ?_
      intro w13 hb13
      have HB13 := Lib.hid (HB12.out.trans (hb13.mono HB12.out.size))
      have Hown13 := Lib.hid (Own.below Hown112.out hb13 (Nat.le_refl _))
      have hz13 := hb13.size
      clear hb13 m0 m1 m2 o0 o1 o2 x0 x1 x2 v1 v2 Hc1 Hc2 Hs1 Hs2
      have Hdc := Lib.hid (decodeP_any A11 c11 X w13 (Sl.of_own Hown13.out) (by omega))
      go_wp2_with fail
      refine Hdc.out.mono ?_
      rintro e w14 ⟨d14, -, rfl, -, hb14⟩
      have HB14 := Lib.hid (HB13.out.trans (hb14.mono HB13.out.size))
      have Hown14 := Lib.hid (Own.below Hown13.out hb14 (Nat.le_refl _))
      have hz14 := hb14.size
      clear hb14 Hdc
      by_cases hX0 : X.length = 0
      · have gX : ((X.length : Int) == 0) = true := by rw [hX0]; rfl
        clear hX0
        go_wp2_with fail
        go_ret
        exact ⟨rfl, HB14.out⟩
      have gX : ((X.length : Int) == 0) = false := by rw [beq_eq_false_iff_ne]; omega
      obtain ⟨kk, hkk⟩ := Int.eq_ofNat_of_zero_le (Int.emod_nonneg a1 (b := (X.length : Int)) (by omega))
      have hkk2 : kk < X.length := by have := Int.emod_lt_of_pos a1 (b := (X.length : Int)) (by omega); omega
      have Hin2 := Lib.hid (inP_any a1 X.length kk hkk.symm (by omega) (by omega) w14)
      obtain ⟨ga, hAa, hga1, hga2⟩ := own_some Hown14.out (by omega)
      subst hAa
      have hclen : kk < (X.map bv).length := by rw [List.length_map]; exact hkk2
      obtain ⟨y0, yf0, -⟩ := own_at Hown14.out kk hclen
      rw [List.getElem_map] at y0
      have hxor : ∃ u : UInt8, Value.int .u8 (bits .xor .u8 (X[kk].toNat : Int) 1) = bv u := by
        have h : bits .xor .u8 (X[kk].toNat : Int) 1 = IntKind.u8.wrap (((BitVec.ofInt 8 (X[kk].toNat : Int)) ^^^ (BitVec.ofInt 8 1)).toNat : Int) := rfl
        rw [h, IntKind.wrap_u8]
        exact u8_of _ (by omega) (by omega)
      obtain ⟨uu, huu⟩ := hxor
      have Huu := Lib.hid huu
      generalize X[kk] = xk at *
      replace y0 : w14.cell? ⟨ga, kk, none⟩ = some (.int .u8 (xk.toNat : Int)) := y0
      clear hX0 hkk hclen huu
      go_wp2_with fail
      refine Hin2.out.mono ?_
      rintro e w15 ⟨rfl, hw15⟩
      subst hw15
      go_wp2_with (refine wpList_at 149 rfl ?_; refine wp_stop ?_)
      try refine ⟨?_⟩
      rw [Huu.out]
      obtain ⟨Y, hY⟩ : ∃ Y, Y = X.set kk uu := ⟨_, rfl⟩
      have hYl : Y.length = X.length := by rw [hY, List.length_set]
      obtain ⟨w16, hw16⟩ : ∃ w16, w16 = w15.setCell ⟨ga, kk, none⟩ (bv uu) := ⟨_, rfl⟩
      have hown16 : OwnB w16 w10.heap.size (some ⟨ga, 0, none⟩) X.length c11 Y := by
        rw [hw16]
        show Own _ _ _ 1 _ _ _ (Y.map bv)
        rw [hY, List.map_set]
        exact own_set Hown14.out kk (bv uu)
      have hO16 : Only (fun b => b = ga) w15 w16 := by rw [hw16]; exact (Only.refl (fun b => b = ga) w15).setCell (p := ⟨ga, kk, none⟩) (.inl rfl) _
      obtain ⟨w17, hw17⟩ : ∃ w17, w17 = w16.alloc (.cells #[] 5) := ⟨_, rfl⟩
      have hb67 : Below w16.heap.size w16 w17 := by rw [hw17]; exact (Below.refl _ _).alloc (Nat.le_refl _) _
      have ho17 : Own w17 w16.heap.size 5 1 (some ⟨w16.heap.size, 0, none⟩) 0 0 [] := by rw [hw17]; exact Own.lit w16 5 1 0 #[] (Nat.le_refl _) (Nat.zero_le _) rfl
      have hz16 : w16.heap.size = w15.heap.size := by rw [hw16]; simp
      have hwB : w.heap.size ≤ ga := by have := HB10.out.size; omega
      have HB16 := Lib.hid (show Below w.heap.size w w16 from HB14.out.trans ((hO16.below (B := w.heap.size) HB14.out.size (by intro k hk e; omega)).mono (Nat.le_refl _)))
      have hown17 := Own.below hown16 hb67 (Nat.le_refl _)
      rw [← hw16, ← hz16]
      rw [← hw17]
      refine wpList_app rfl (.tmp 147) (.tmp 148) eByte rfl rfl ho17 (m := X.length) (c' := c11) (us := Y.map bv) rfl (RV.of_own hown17) (by rw [List.length_map, hYl, Nat.mul_one]) (map_bv_one _) (by unfold maxLen; omega) (by omega) hb67.size (fun e => by cases e) ?_
      intro A18 c18 w18 hown18 hg18 hA18
      have hb78 : Below w16.heap.size w17 w18 := (Below.refl w16.heap.size w17).grown hg18 hb67.size fun q hq => by injection hq with hq; exact Nat.le_of_eq hq
      rw [Nat.zero_add, List.nil_append] at hown18
      have hb68 := hb67.trans hb78
      have HB18 := Lib.hid (HB16.out.trans (hb68.mono HB16.out.size))
      have hown18' : OwnB w18 w16.heap.size A18 Y.length c18 Y := by rw [hYl]; exact hown18
      have hown168 : OwnB w18 w10.heap.size (some ⟨ga, 0, none⟩) Y.length c11 Y := by rw [hYl]; exact Own.below hown16 hb68 (Nat.le_refl _)
      have Hc18 := Lib.hid hown18'
      have Ha18 := Lib.hid hown168
      rw [← hYl]
      have hYn : Y.length ≤ 200000000000000 := by omega
      clear hown18 hown18' hown168 hg18 hA18 hb78 hb68 hown16 hown17 ho17 hO16 hb67 hw16 hw17 hz16 hY hYl y0 yf0 Hown14 Hin2 Huu
      simp only [Nat.zero_add]
      obtain ⟨D, hD⟩ : ∃ D, D = decP Y := ⟨_, rfl⟩
      have HD := Lib.hid hD
      clear hD
      have Hdc := Lib.hid (show Calls Try.prog 19 #[.slice (some ⟨ga, 0, none⟩) Y.length c11] w18 (DecPPost w18 D) from by rw [HD.out]; exact decodeP_any _ c11 Y w18 (Sl.of_own Ha18.out) hYn)
      go_wp2_with fail
      refine Hdc.out.mono ?_
      rintro e w19 ⟨d1, hd1, rfl, hw19, hb19⟩
      obtain ⟨w20, hw20⟩ : ∃ w20, w20 = w19.alloc (.cells #[.int .i64 d1.mem, .slice d1.AD d1.data.length d1.cD, .slice d1.AF d1.fs.length d1.cF] 25) := ⟨_, rfl⟩
      obtain ⟨g1', hg1'⟩ : ∃ g, g = w19.heap.size := ⟨_, rfl⟩
      have hb190 : Below w19.heap.size w19 w20 := by rw [hw20]; exact (Below.refl _ _).alloc (Nat.le_refl _) _
      have hb20 := hb19.trans (hb190.mono hb19.size)
      have HD1b := Lib.hid (show Blk w20 g1' 25 #[.int .i64 d1.mem, .slice d1.AD d1.data.length d1.cD, .slice d1.AF d1.fs.length d1.cF] from by rw [hw20, hg1']; exact Blk.new w19 _ _)
      have HB20 := Lib.hid (HB18.out.trans (hb20.mono HB18.out.size))
      have Hd1 := Lib.hid (hw19.at_.below hb190)
      have Hd1p := Lib.hid hd1
      have Hc20 := Lib.hid (Own.below Hc18.out hb20 (Nat.le_refl _))
      have Hw20 := Lib.hid hw20
      have Hg1' := Lib.hid hg1'
      clear hd1 hw19 hb19 hw20 hg1' hb190 hb20 Hdc
      have Hdc := Lib.hid (show Calls Try.prog 19 #[.slice A18 Y.length c18] w20 (DecPPost w20 D) from by rw [HD.out]; exact decodeP_any _ c18 Y w20 (Sl.of_own Hc20.out) hYn)
      go_wp2_with (refine wpList_at 157 rfl ?_; refine wp_stop ?_)
      try refine ⟨?_⟩
      rw [← Hw20.out, ← Hg1'.out]
      go_wp2_with fail
      refine Hdc.out.mono ?_
      rintro e w21 ⟨d2, hd2, rfl, hw21, hb21⟩
      obtain ⟨w22, hw22⟩ : ∃ w22, w22 = w21.alloc (.cells #[.int .i64 d2.mem, .slice d2.AD d2.data.length d2.cD, .slice d2.AF d2.fs.length d2.cF] 25) := ⟨_, rfl⟩
      obtain ⟨g2', hg2'⟩ : ∃ g, g = w21.heap.size := ⟨_, rfl⟩
      have hb212 : Below w21.heap.size w21 w22 := by rw [hw22]; exact (Below.refl _ _).alloc (Nat.le_refl _) _
      have hb22 := hb21.trans (hb212.mono hb21.size)
      have HD2b := Lib.hid (show Blk w22 g2' 25 #[.int .i64 d2.mem, .slice d2.AD d2.data.length d2.cD, .slice d2.AF d2.fs.length d2.cF] from by rw [hw22, hg2']; exact Blk.new w21 _ _)
      have HD1c := Lib.hid (HD1b.out.below hb22 HD1b.out.lt)
      have HB22 := Lib.hid (HB20.out.trans (hb22.mono HB20.out.size))
      have hsm := refSameP_any d1 d2 w22 (Hd1.out.below hb22) (hw21.at_.below hb212)
      rw [Hd1p.out, hd2, (sameP_iff _ _).2 rfl] at hsm
      have Hsm := Lib.hid hsm
      have Hw22 := Lib.hid hw22
      have Hg2' := Lib.hid hg2'
      clear hd2 hw21 hb21 hw22 hg2' hb212 hb22 Hdc hsm
      have s0 : w22.cell? ⟨g1', 0, none⟩ = some (.int .i64 d1.mem) := HD1c.out.cell 0
      have s1 : w22.cell? ⟨g1', 1, none⟩ = some (.slice d1.AD d1.data.length d1.cD) := HD1c.out.cell 1
      have s2 : w22.cell? ⟨g1', 2, none⟩ = some (.slice d1.AF d1.fs.length d1.cF) := HD1c.out.cell 2
      have sl := HD1c.out.lt
      have t0 : w22.cell? ⟨g2', 0, none⟩ = some (.int .i64 d2.mem) := HD2b.out.cell 0
      have t1 : w22.cell? ⟨g2', 1, none⟩ = some (.slice d2.AD d2.data.length d2.cD) := HD2b.out.cell 1
      have t2 : w22.cell? ⟨g2', 2, none⟩ = some (.slice d2.AF d2.fs.length d2.cF) := HD2b.out.cell 2
      have tl := HD2b.out.lt
      go_wp2_with (refine wpList_at 160 rfl ?_; refine wp_stop ?_)
      try refine ⟨?_⟩
      rw [← Hw22.out, ← Hg2'.out]
      go_wp2_with fail
      refine Hsm.out.mono ?_
      rintro e w23 ⟨rfl, hb23⟩
      have HF := Lib.hid (HB22.out.trans (hb23.mono HB22.out.size))
      clear hb23 Hsm
      go_wp2_with fail
      go_ret
      exact ⟨rfl, HF.out⟩
    have d1 : (0 : Int) < (q.data.length : Int) := by omega
    have hdv : q1.AD = q.AD ∧ q1.data.length = q.data.length ∧ q1.cD = q.cD := by
      have h := HVv.out
      simp only [PrgM.val, Value.agg.injEq, Array.mk.injEq, List.cons.injEq, Value.slice.injEq, Value.int.injEq, and_true, true_and] at h
      exact ⟨h.2.1.1, h.2.1.2.1, h.2.1.2.2⟩
    obtain ⟨gd, hAD, hgd1, hgd2⟩ := own_some HVm.out.data (by rw [hdv.2.1]; omega)
    have hdat := HVm.out.data
    rw [hAD] at hdat
    have hdl0 : 0 < (q1.data.map bv).length := by rw [List.length_map, hdv.2.1]; omega
    obtain ⟨z0, zf0, -⟩ := own_at hdat 0 hdl0
    rw [List.getElem_map] at z0
    have hADq : q.AD = some ⟨gd, 0, none⟩ := by rw [← hdv.1, hAD]
    rw [hADq] at m1
    generalize q1.data[0]'(by rw [← List.length_map (f := bv)]; exact hdl0) = xk at *
    replace z0 : v1.cell? ⟨gd, 0, none⟩ = some (.int .u8 (xk.toNat : Int)) := z0
    have HAD := Lib.hid hAD
    have HADq := Lib.hid hADq
    clear hd hdv hdat hdl0 hAD hADq
    obtain ⟨uu, huu⟩ := u8_of (IntKind.u8.wrap ((xk.toNat : Int) + 1)) (by rw [IntKind.wrap_u8]; omega) (by rw [IntKind.wrap_u8]; omega)
    have Huu2 := Lib.hid huu
    rw [IntKind.wrap_u8] at huu
    have Huu3 := Lib.hid huu
    clear huu
    have hgdm : gd < gm := HRows.out.1 gd (by rw [HADq.out]; rfl)
    go_wp2_with fail
    go_region
    first | rw [Huu3.out] | rw [Huu2.out]
    obtain ⟨q2, hval, hok, hmn⟩ := mine_data HVm.out HVok.out gd HAD.out 0 uu
    obtain ⟨v2, hv2⟩ : ∃ v2, v2 = (v1.setCell ⟨gd, 0, none⟩ (bv uu)).drew := ⟨_, rfl⟩
    rw [← hv2]
    have hO2 : Only (fun b => b = gd) v1 v2 := by rw [hv2]; exact ((Only.refl (fun b => b = gd) v1).setCell (p := ⟨gd, 0, none⟩) (.inl rfl) _).drew
    have hbd2 : Below (v1.setCell ⟨gd, 0, none⟩ (bv uu)).heap.size (v1.setCell ⟨gd, 0, none⟩ (bv uu)) v2 := by rw [hv2]; exact below_drewN (Below.refl _ _) 1
    have HVm2 := Lib.hid (hmn.below hbd2)
    have HVok2 := Lib.hid hok
    have HVv2 : Hid (q2.val = q.val) := Lib.hid (hval.trans HVv.out)
    have HVbox2 := Lib.hid (HVbox.out.only hO2 (by omega))
    have HVx2 := Lib.hid (HVx.out.only hO2 (by omega))
    have HVb2 := Lib.hid (HVb.out.trans ((hO2.below (B := w.heap.size) HVb.out.size (by have := Hgx.out; intro k hk e; omega)).mono (Nat.le_refl _)))
    clear hval hok hmn hv2 hO2 hbd2 Huu2 Huu3 z0 zf0 m0 m1 m2 ml HVm HVok HVv HVbox HVx HVb HAD
    have HVm := HVm2
    have HVok := HVok2
    have HVv := HVv2
    have HVbox := HVbox2
    have HVx := HVx2
    have HVb := HVb2
    clear HVm2 HVok2 HVv2 HVbox2 HVx2 HVb2
    have Htw2 := Lib.hid (show Calls Try.prog 24 #[q.val] v2 (TwinPost v2 q2) from by rw [← HVv.out]; exact refTwin_any q2 v2 (HVm.out.at_ HVok.out))
    have m0 : v2.cell? ⟨gm, 0, none⟩ = some (.int .i64 q.mem) := HVbox.out.cell 0
    have m1 : v2.cell? ⟨gm, 1, none⟩ = some (.slice q.AD q.data.length q.cD) := HVbox.out.cell 1
    have m2 : v2.cell? ⟨gm, 2, none⟩ = some (.slice q.AF q.fs.length q.cF) := HVbox.out.cell 2
    have ml := HVbox.out.lt
    go_wp2_with fail
    refine Htw2.out.mono ?_
    rintro e w9 ⟨o, rfl, hpl, hmine, hb9⟩
    obtain ⟨w10, hw10⟩ : ∃ w10, w10 = w9.alloc (.cells #[.int .i64 o.mem, .slice o.AD o.data.length o.cD, .slice o.AF o.fs.length o.cF] 25) := ⟨_, rfl⟩
    obtain ⟨go, hgo⟩ : ∃ g, g = w9.heap.size := ⟨_, rfl⟩
    have hb910 : Below w9.heap.size w9 w10 := by rw [hw10]; exact (Below.refl _ _).alloc (Nat.le_refl _) _
    have hb10 := hb9.trans (hb910.mono hb9.size)
    have HBoxo := Lib.hid (show Blk w10 go 25 #[.int .i64 o.mem, .slice o.AD o.data.length o.cD, .slice o.AF o.fs.length o.cF] from by rw [hw10, hgo]; exact Blk.new w9 _ _)
    have HBoxm := Lib.hid (HVbox.out.below hb10 HVbox.out.lt)
    have HX10 := Lib.hid (HVx.out.below hb10 HVx.out.lt)
    have HB10 := Lib.hid (HVb.out.trans (hb10.mono HVb.out.size))
    have HAm := Lib.hid ((HVm.out.below hb10).at_ HVok.out)
    have HAo := Lib.hid ((hmine.below hb910).at_ (by rw [hpl]; exact HVok.out))
    have Hpl := Lib.hid hpl
    have Hw10 := Lib.hid hw10
    have Hgo := Lib.hid hgo
    clear hpl hmine hb9 hw10 hgo hb910 hb10 Htw2 m0 m1 m2 ml
    obtain ⟨E, hE⟩ : ∃ E, E = encP q2.plain := ⟨_, rfl⟩
    have hEc : E.1.length ≤ 1048576 ∧ (E.2 = 0 ∨ E.1 = []) := by
      rw [hE]
      refine ⟨?_, encP_snd _⟩
      unfold encP
      split
      · split
        · simp
        · dsimp only; omega
      · simp
    have Hen := Lib.hid (show Calls Try.prog 16 #[q.val] w10 (EncPost w10 E) from by rw [← HVv.out, hE]; exact pEncode_any q2 w10 HAm.out)
    have HE := Lib.hid hE
    clear hE
    have m0 : w10.cell? ⟨gm, 0, none⟩ = some (.int .i64 q.mem) := HBoxm.out.cell 0
    have m1 : w10.cell? ⟨gm, 1, none⟩ = some (.slice q.AD q.data.length q.cD) := HBoxm.out.cell 1
    have m2 : w10.cell? ⟨gm, 2, none⟩ = some (.slice q.AF q.fs.length q.cF) := HBoxm.out.cell 2
    have ml := HBoxm.out.lt
    go_wp2_with (refine wpList_at 95 rfl ?_; refine wp_stop ?_)
    try refine ⟨?_⟩
    rw [← Hw10.out, ← Hgo.out]
    go_wp2_with fail
    refine Hen.out.mono ?_
    rintro e w11 ⟨A11, c11, rfl, hown11, hb11⟩
    have HBoxo1 := Lib.hid (HBoxo.out.below hb11 HBoxo.out.lt)
    have HBoxm1 := Lib.hid (HBoxm.out.below hb11 HBoxm.out.lt)
    have HX11 := Lib.hid (HX10.out.below hb11 HX10.out.lt)
    have HB11 := Lib.hid (HB10.out.trans (hb11.mono HB10.out.size))
    have HAm1 := Lib.hid (HAm.out.below hb11)
    have HAo1 := Lib.hid (HAo.out.below hb11)
    have Hown11 := Lib.hid hown11
    clear hown11 hb11 Hen m0 m1 m2 ml
    have o0 : w11.cell? ⟨go, 0, none⟩ = some (.int .i64 o.mem) := HBoxo1.out.cell 0
    have o1 : w11.cell? ⟨go, 1, none⟩ = some (.slice o.AD o.data.length o.cD) := HBoxo1.out.cell 1
    have o2 : w11.cell? ⟨go, 2, none⟩ = some (.slice o.AF o.fs.length o.cF) := HBoxo1.out.cell 2
    have ol := HBoxo1.out.lt
    have Hen := Lib.hid (show Calls Try.prog 16 #[o.val] w11 (EncPost w11 E) from by rw [HE.out, ← Hpl.out]; exact pEncode_any o w11 HAo1.out)
    go_wp2_with fail
    refine Hen.out.mono ?_
    rintro e w12 ⟨A12, c12, rfl, hown12, hb12⟩
    have HBoxo2 := Lib.hid (HBoxo1.out.below hb12 HBoxo1.out.lt)
    have HBoxm2 := Lib.hid (HBoxm1.out.below hb12 HBoxm1.out.lt)
    have HX12 := Lib.hid (HX11.out.below hb12 HX11.out.lt)
    have HB12 := Lib.hid (HB11.out.trans (hb12.mono HB11.out.size))
    have HAm2 := Lib.hid (HAm1.out.below hb12)
    have HAo2 := Lib.hid (HAo1.out.below hb12)
    have Hown112 := Lib.hid (Own.below Hown11.out hb12 (Nat.le_refl _))
    have Hsl12 := Lib.hid (Sl.of_own hown12)
    have hz11 := hb12.size
    obtain ⟨X, F⟩ := E
    dsimp only at Hown112 Hsl12 hEc ⊢
    clear hown12 hb12 Hen o0 o1 o2 ol Hown11
    have Hp12 := Lib.hid (Hp.out.below HB12.out)
    have lm := HBoxm2.out.lt
    have lo := HBoxo2.out.lt
    have lx := HX12.out.lt
    have m0 : ∀ x : BW w12.heap.size w12, x.w.cell? ⟨gm, 0, none⟩ = some (.int .i64 q.mem) := fun x => (x.blk HBoxm2.out lm).cell 0
    have m1 : ∀ x : BW w12.heap.size w12, x.w.cell? ⟨gm, 1, none⟩ = some (.slice q.AD q.data.length q.cD) := fun x => (x.blk HBoxm2.out lm).cell 1
    have m2 : ∀ x : BW w12.heap.size w12, x.w.cell? ⟨gm, 2, none⟩ = some (.slice q.AF q.fs.length q.cF) := fun x => (x.blk HBoxm2.out lm).cell 2
    have o0 : ∀ x : BW w12.heap.size w12, x.w.cell? ⟨go, 0, none⟩ = some (.int .i64 o.mem) := fun x => (x.blk HBoxo2.out lo).cell 0
    have o1 : ∀ x : BW w12.heap.size w12, x.w.cell? ⟨go, 1, none⟩ = some (.slice o.AD o.data.length o.cD) := fun x => (x.blk HBoxo2.out lo).cell 1
    have o2 : ∀ x : BW w12.heap.size w12, x.w.cell? ⟨go, 2, none⟩ = some (.slice o.AF o.fs.length o.cF) := fun x => (x.blk HBoxo2.out lo).cell 2
    have x0 : ∀ x : BW w12.heap.size w12, x.w.cell? ⟨gx, 0, none⟩ = some (.int .i64 p.mem) := fun x => (x.blk HX12.out lx).cell 0
    have x1 : ∀ x : BW w12.heap.size w12, x.w.cell? ⟨gx, 1, none⟩ = some (.slice p.AD p.data.length p.cD) := fun x => (x.blk HX12.out lx).cell 1
    have x2 : ∀ x : BW w12.heap.size w12, x.w.cell? ⟨gx, 2, none⟩ = some (.slice p.AF p.fs.length p.cF) := fun x => (x.blk HX12.out lx).cell 2
    have v1 : ∀ x : BW w12.heap.size w12, (convert 22 9 (.slice A11 X.length c11)).run Try.prog x.w = .ok (.string ⟨X.toArray⟩) x.w := fun x => run_bytesStr (c := c11) (((Sl.of_own Hown112.out).below x.h).rv) Try.underlying22 Try.underlying5 Try.underlying9
    have v2 : ∀ x : BW w12.heap.size w12, (convert 22 9 (.slice A12 X.length c12)).run Try.prog x.w = .ok (.string ⟨X.toArray⟩) x.w := fun x => run_bytesStr (c := c12) ((Hsl12.out.below x.h).rv) Try.underlying22 Try.underlying5 Try.underlying9
    obtain ⟨C, hC⟩ : ∃ C, C = checkL q2.plain := ⟨_, rfl⟩
    obtain ⟨S, hS⟩ : ∃ S, S = sameP q2.plain p.plain := ⟨_, rfl⟩
    have Hc1 : Hid (∀ x : BW w12.heap.size w12, Calls Try.prog 13 #[q.val] x.w fun e w' => e = .returned (.int .i64 C) ∧ Below x.w.heap.size x.w w') := Lib.hid fun x => by
      rw [← HVv.out, hC]; exact check_any q2 x.w (HAm2.out.below x.h)
    have Hc2 : Hid (∀ x : BW w12.heap.size w12, Calls Try.prog 13 #[o.val] x.w fun e w' => e = .returned (.int .i64 C) ∧ Below x.w.heap.size x.w w') := Lib.hid fun x => by
      rw [hC, ← Hpl.out]; exact check_any o x.w (HAo2.out.below x.h)
    have Hs1 : Hid (∀ x : BW w12.heap.size w12, Calls Try.prog 25 #[q.val, p.val] x.w fun e w' => e = .returned (.bool S) ∧ Below x.w.heap.size x.w w') := Lib.hid fun x => by
      rw [← HVv.out, hS]; exact sameP_any q2 p x.w (HAm2.out.below x.h) (Hp12.out.below x.h)
    have Hs2 : Hid (∀ x : BW w12.heap.size w12, Calls Try.prog 21 #[o.val, p.val] x.w fun e w' => e = .returned (.bool S) ∧ Below x.w.heap.size x.w w') := Lib.hid fun x => by
      rw [hS, ← Hpl.out]; exact refSameP_any o p x.w (HAo2.out.below x.h) (Hp12.out.below x.h)
    clear hC hS
    go_wp2_with fail
    refine region_inB w12.heap.size w12 (Below.refl _ _) (by kernel_rfl) (by kernel_rfl) ?_
    repeat (go_big_quiet_step (with_reducible first | exact Calls.inBat _ (Hc1.out _) (Nat.le_refl _) | exact Calls.inBat _ (Hc2.out _) (Nat.le_refl _) | exact Calls.inBat _ (Hs1.out _) (Nat.le_refl _) | exact Calls.inBat _ (Hs2.out _) (Nat.le_refl _)))
    refine wpQuiet_nil ?_
    intro w13 hb13
    have HB13 := Lib.hid (HB12.out.trans (hb13.mono HB12.out.size))
    have Hown13 := Lib.hid (Own.below Hown112.out hb13 (Nat.le_refl _))
    have hz13 := hb13.size
    clear hb13 m0 m1 m2 o0 o1 o2 x0 x1 x2 v1 v2 Hc1 Hc2 Hs1 Hs2
    have Hdc := Lib.hid (decodeP_any A11 c11 X w13 (Sl.of_own Hown13.out) (by omega))
    go_wp2_with fail
    refine Hdc.out.mono ?_
    rintro e w14 ⟨d14, -, rfl, -, hb14⟩
    have HB14 := Lib.hid (HB13.out.trans (hb14.mono HB13.out.size))
    have Hown14 := Lib.hid (Own.below Hown13.out hb14 (Nat.le_refl _))
    have hz14 := hb14.size
    clear hb14 Hdc
    by_cases hX0 : X.length = 0
    · have gX : ((X.length : Int) == 0) = true := by rw [hX0]; rfl
      clear hX0
      go_wp2_with fail
      go_ret
      exact ⟨rfl, HB14.out⟩
    have gX : ((X.length : Int) == 0) = false := by rw [beq_eq_false_iff_ne]; omega
    obtain ⟨kk, hkk⟩ := Int.eq_ofNat_of_zero_le (Int.emod_nonneg a1 (b := (X.length : Int)) (by omega))
    have hkk2 : kk < X.length := by have := Int.emod_lt_of_pos a1 (b := (X.length : Int)) (by omega); omega
    have Hin2 := Lib.hid (inP_any a1 X.length kk hkk.symm (by omega) (by omega) w14)
    obtain ⟨ga, hAa, hga1, hga2⟩ := own_some Hown14.out (by omega)
    subst hAa
    have hclen : kk < (X.map bv).length := by rw [List.length_map]; exact hkk2
    obtain ⟨y0, yf0, -⟩ := own_at Hown14.out kk hclen
    rw [List.getElem_map] at y0
    have hxor : ∃ u : UInt8, Value.int .u8 (bits .xor .u8 (X[kk].toNat : Int) 1) = bv u := by
      have h : bits .xor .u8 (X[kk].toNat : Int) 1 = IntKind.u8.wrap (((BitVec.ofInt 8 (X[kk].toNat : Int)) ^^^ (BitVec.ofInt 8 1)).toNat : Int) := rfl
      rw [h, IntKind.wrap_u8]
      exact u8_of _ (by omega) (by omega)
    obtain ⟨uu, huu⟩ := hxor
    have Huu := Lib.hid huu
    generalize X[kk] = xk at *
    replace y0 : w14.cell? ⟨ga, kk, none⟩ = some (.int .u8 (xk.toNat : Int)) := y0
    clear hX0 hkk hclen huu
    go_wp2_with fail
    refine Hin2.out.mono ?_
    rintro e w15 ⟨rfl, hw15⟩
    subst hw15
    go_wp2_with (refine wpList_at 149 rfl ?_; refine wp_stop ?_)
    try refine ⟨?_⟩
    rw [Huu.out]
    obtain ⟨Y, hY⟩ : ∃ Y, Y = X.set kk uu := ⟨_, rfl⟩
    have hYl : Y.length = X.length := by rw [hY, List.length_set]
    obtain ⟨w16, hw16⟩ : ∃ w16, w16 = w15.setCell ⟨ga, kk, none⟩ (bv uu) := ⟨_, rfl⟩
    have hown16 : OwnB w16 w10.heap.size (some ⟨ga, 0, none⟩) X.length c11 Y := by
      rw [hw16]
      show Own _ _ _ 1 _ _ _ (Y.map bv)
      rw [hY, List.map_set]
      exact own_set Hown14.out kk (bv uu)
    have hO16 : Only (fun b => b = ga) w15 w16 := by rw [hw16]; exact (Only.refl (fun b => b = ga) w15).setCell (p := ⟨ga, kk, none⟩) (.inl rfl) _
    obtain ⟨w17, hw17⟩ : ∃ w17, w17 = w16.alloc (.cells #[] 5) := ⟨_, rfl⟩
    have hb67 : Below w16.heap.size w16 w17 := by rw [hw17]; exact (Below.refl _ _).alloc (Nat.le_refl _) _
    have ho17 : Own w17 w16.heap.size 5 1 (some ⟨w16.heap.size, 0, none⟩) 0 0 [] := by rw [hw17]; exact Own.lit w16 5 1 0 #[] (Nat.le_refl _) (Nat.zero_le _) rfl
    have hz16 : w16.heap.size = w15.heap.size := by rw [hw16]; simp
    have hwB : w.heap.size ≤ ga := by have := HB10.out.size; omega
    have HB16 := Lib.hid (show Below w.heap.size w w16 from HB14.out.trans ((hO16.below (B := w.heap.size) HB14.out.size (by intro k hk e; omega)).mono (Nat.le_refl _)))
    have hown17 := Own.below hown16 hb67 (Nat.le_refl _)
    rw [← hw16, ← hz16]
    rw [← hw17]
    refine wpList_app rfl (.tmp 147) (.tmp 148) eByte rfl rfl ho17 (m := X.length) (c' := c11) (us := Y.map bv) rfl (RV.of_own hown17) (by rw [List.length_map, hYl, Nat.mul_one]) (map_bv_one _) (by unfold maxLen; omega) (by omega) hb67.size (fun e => by cases e) ?_
    intro A18 c18 w18 hown18 hg18 hA18
    have hb78 : Below w16.heap.size w17 w18 := (Below.refl w16.heap.size w17).grown hg18 hb67.size fun q hq => by injection hq with hq; exact Nat.le_of_eq hq
    rw [Nat.zero_add, List.nil_append] at hown18
    have hb68 := hb67.trans hb78
    have HB18 := Lib.hid (HB16.out.trans (hb68.mono HB16.out.size))
    have hown18' : OwnB w18 w16.heap.size A18 Y.length c18 Y := by rw [hYl]; exact hown18
    have hown168 : OwnB w18 w10.heap.size (some ⟨ga, 0, none⟩) Y.length c11 Y := by rw [hYl]; exact Own.below hown16 hb68 (Nat.le_refl _)
    have Hc18 := Lib.hid hown18'
    have Ha18 := Lib.hid hown168
    rw [← hYl]
    have hYn : Y.length ≤ 200000000000000 := by omega
    clear hown18 hown18' hown168 hg18 hA18 hb78 hb68 hown16 hown17 ho17 hO16 hb67 hw16 hw17 hz16 hY hYl y0 yf0 Hown14 Hin2 Huu
    simp only [Nat.zero_add]
    obtain ⟨D, hD⟩ : ∃ D, D = decP Y := ⟨_, rfl⟩
    have HD := Lib.hid hD
    clear hD
    have Hdc := Lib.hid (show Calls Try.prog 19 #[.slice (some ⟨ga, 0, none⟩) Y.length c11] w18 (DecPPost w18 D) from by rw [HD.out]; exact decodeP_any _ c11 Y w18 (Sl.of_own Ha18.out) hYn)
    go_wp2_with fail
    refine Hdc.out.mono ?_
    rintro e w19 ⟨d1, hd1, rfl, hw19, hb19⟩
    obtain ⟨w20, hw20⟩ : ∃ w20, w20 = w19.alloc (.cells #[.int .i64 d1.mem, .slice d1.AD d1.data.length d1.cD, .slice d1.AF d1.fs.length d1.cF] 25) := ⟨_, rfl⟩
    obtain ⟨g1', hg1'⟩ : ∃ g, g = w19.heap.size := ⟨_, rfl⟩
    have hb190 : Below w19.heap.size w19 w20 := by rw [hw20]; exact (Below.refl _ _).alloc (Nat.le_refl _) _
    have hb20 := hb19.trans (hb190.mono hb19.size)
    have HD1b := Lib.hid (show Blk w20 g1' 25 #[.int .i64 d1.mem, .slice d1.AD d1.data.length d1.cD, .slice d1.AF d1.fs.length d1.cF] from by rw [hw20, hg1']; exact Blk.new w19 _ _)
    have HB20 := Lib.hid (HB18.out.trans (hb20.mono HB18.out.size))
    have Hd1 := Lib.hid (hw19.at_.below hb190)
    have Hd1p := Lib.hid hd1
    have Hc20 := Lib.hid (Own.below Hc18.out hb20 (Nat.le_refl _))
    have Hw20 := Lib.hid hw20
    have Hg1' := Lib.hid hg1'
    clear hd1 hw19 hb19 hw20 hg1' hb190 hb20 Hdc
    have Hdc := Lib.hid (show Calls Try.prog 19 #[.slice A18 Y.length c18] w20 (DecPPost w20 D) from by rw [HD.out]; exact decodeP_any _ c18 Y w20 (Sl.of_own Hc20.out) hYn)
    go_wp2_with (refine wpList_at 157 rfl ?_; refine wp_stop ?_)
    try refine ⟨?_⟩
    rw [← Hw20.out, ← Hg1'.out]
    go_wp2_with fail
    refine Hdc.out.mono ?_
    rintro e w21 ⟨d2, hd2, rfl, hw21, hb21⟩
    obtain ⟨w22, hw22⟩ : ∃ w22, w22 = w21.alloc (.cells #[.int .i64 d2.mem, .slice d2.AD d2.data.length d2.cD, .slice d2.AF d2.fs.length d2.cF] 25) := ⟨_, rfl⟩
    obtain ⟨g2', hg2'⟩ : ∃ g, g = w21.heap.size := ⟨_, rfl⟩
    have hb212 : Below w21.heap.size w21 w22 := by rw [hw22]; exact (Below.refl _ _).alloc (Nat.le_refl _) _
    have hb22 := hb21.trans (hb212.mono hb21.size)
    have HD2b := Lib.hid (show Blk w22 g2' 25 #[.int .i64 d2.mem, .slice d2.AD d2.data.length d2.cD, .slice d2.AF d2.fs.length d2.cF] from by rw [hw22, hg2']; exact Blk.new w21 _ _)
    have HD1c := Lib.hid (HD1b.out.below hb22 HD1b.out.lt)
    have HB22 := Lib.hid (HB20.out.trans (hb22.mono HB20.out.size))
    have hsm := refSameP_any d1 d2 w22 (Hd1.out.below hb22) (hw21.at_.below hb212)
    rw [Hd1p.out, hd2, (sameP_iff _ _).2 rfl] at hsm
    have Hsm := Lib.hid hsm
    have Hw22 := Lib.hid hw22
    have Hg2' := Lib.hid hg2'
    clear hd2 hw21 hb21 hw22 hg2' hb212 hb22 Hdc hsm
    have s0 : w22.cell? ⟨g1', 0, none⟩ = some (.int .i64 d1.mem) := HD1c.out.cell 0
    have s1 : w22.cell? ⟨g1', 1, none⟩ = some (.slice d1.AD d1.data.length d1.cD) := HD1c.out.cell 1
    have s2 : w22.cell? ⟨g1', 2, none⟩ = some (.slice d1.AF d1.fs.length d1.cF) := HD1c.out.cell 2
    have sl := HD1c.out.lt
    have t0 : w22.cell? ⟨g2', 0, none⟩ = some (.int .i64 d2.mem) := HD2b.out.cell 0
    have t1 : w22.cell? ⟨g2', 1, none⟩ = some (.slice d2.AD d2.data.length d2.cD) := HD2b.out.cell 1
    have t2 : w22.cell? ⟨g2', 2, none⟩ = some (.slice d2.AF d2.fs.length d2.cF) := HD2b.out.cell 2
    have tl := HD2b.out.lt
    go_wp2_with (refine wpList_at 160 rfl ?_; refine wp_stop ?_)
    try refine ⟨?_⟩
    rw [← Hw22.out, ← Hg2'.out]
    go_wp2_with fail
    refine Hsm.out.mono ?_
    rintro e w23 ⟨rfl, hb23⟩
    have HF := Lib.hid (HB22.out.trans (hb23.mono HB22.out.size))
    clear hb23 Hsm
    go_wp2_with fail
    go_ret
    exact ⟨rfl, HF.out⟩
  have g2 : (0 : Int) < (f.code.length : Int) := by omega
  obtain ⟨kk, hkk⟩ := Int.eq_ofNat_of_zero_le (Int.emod_nonneg a2 (b := (f.code.length : Int)) (by omega))
  have hkk2 : kk < f.code.length := by have := Int.emod_lt_of_pos a2 (b := (f.code.length : Int)) (by omega); omega
  have Hin2 := Lib.hid (inP_any a2 f.code.length kk hkk.symm (by omega) (by omega) w8)
  have hcode := HMine.out.row.code f Hfm.out
  obtain ⟨gc, hfA, hgc1, hgc2⟩ := own_some hcode (by omega)
  have hgcm : gc < gm := HRows.out.2.2 f Hfm.out gc (by rw [hfA]; rfl)
  have hgfc : gf ≠ gc := fun e => own_ne HMine.out.funs hcode (by decide) gf (by rw [HAF.out]; rfl) (by rw [hfA, e]; rfl)
  have hcode2 := hcode
  rw [hfA] at hcode2 n3
  have hl0 : kk * 2 < (f.code.flatMap insCells).length := by rw [insCells_len]; omega
  have hl1 : kk * 2 + 1 < (f.code.flatMap insCells).length := by rw [insCells_len]; omega
  obtain ⟨i0, if0, -⟩ := own_at hcode2 (kk * 2) hl0
  obtain ⟨i1, if1, -⟩ := own_at hcode2 (kk * 2 + 1) hl1
  generalize (f.code.flatMap insCells)[kk * 2] = z0 at *
  generalize (f.code.flatMap insCells)[kk * 2 + 1] = z1 at *
  obtain ⟨q0, hval, hf0, hok, hmn⟩ := mine_code HMine.out HOk.out i f Hf.out gc hfA kk hkk2 ⟨3, a2⟩ ⟨of_decide_eq_true rfl, of_decide_eq_true rfl, Ha2.out.1, Ha2.out.2⟩
  have HMn := Lib.hid hmn
  have HUok := Lib.hid hok
  have HUv := Lib.hid hval
  have HUf := Lib.hid hf0
  have HUa : Hid (q0.AF = some ⟨gf, 0, none⟩) := by
    have h := hval
    simp only [PrgM.val, Value.agg.injEq, Array.mk.injEq, List.cons.injEq, Value.slice.injEq, Value.int.injEq, and_true, true_and] at h
    exact Lib.hid (h.2.2.1.trans HAF.out)
  clear hc0 hkk hcode hcode2 hl0 hl1 hfA hval hf0 hok hmn
  go_wp2_with fail
  refine Hin2.out.mono ?_
  rintro e w9 ⟨rfl, hw9⟩
  subst hw9
  go_wp2_with fail
  obtain ⟨u1, hu1⟩ : ∃ u, u = (w9.setCell ⟨gc, kk * 2, none⟩ (.int .i64 3)).setCell ⟨gc, kk * 2 + 1, none⟩ (.int .i64 a2) := ⟨_, rfl⟩
  rw [← hu1]
  have hOu : Only (fun b => b = gc) w9 u1 := by rw [hu1]; exact ((Only.refl (fun b => b = gc) w9).setCell (p := ⟨gc, kk * 2, none⟩) (.inl rfl) _).setCell (p := ⟨gc, kk * 2 + 1, none⟩) (.inl rfl) _
  have HUm : Hid (PrgMine u1 w2.heap.size q0) := by rw [hu1]; exact HMn
  have HUbox := Lib.hid (HBox.out.only hOu (by omega))
  have HUx := Lib.hid (HX.out.only hOu (by omega))
  have HUb := Lib.hid (HB.out.trans ((hOu.below (B := w.heap.size) HB.out.size (by have := Hgx.out; intro k hk e; omega)).mono (Nat.le_refl _)))
  have n2' : u1.cell? ⟨gf, i * 4 + 2, none⟩ = some (.int .i64 f.results) := by rw [hOu.cell hgf2 hgfc]; exact n2
  have nf2' : u1.frozen? ⟨gf, i * 4 + 2, none⟩ = false := by rw [hOu.frozen hgf2 hgfc]; exact nf2
  have n2 := n2'
  have nf2 := nf2'
  have hgfu : gf < u1.heap.size := by have := hOu.size; omega
  clear n2' nf2' hu1 hOu HMn i0 if0 i1 if1 m0 m1 m2 ml Hin2
  have m0 : u1.cell? ⟨gm, 0, none⟩ = some (.int .i64 q.mem) := HUbox.out.cell 0
  have m1 : u1.cell? ⟨gm, 1, none⟩ = some (.slice q.AD q.data.length q.cD) := HUbox.out.cell 1
  have m2 : u1.cell? ⟨gm, 2, none⟩ = some (.slice q.AF q.fs.length q.cF) := HUbox.out.cell 2
  have ml := HUbox.out.lt
  rw [HAF.out] at m2
  go_region
  have hwr : -9223372036854775808 ≤ wrap64 (1 - f.results) ∧ wrap64 (1 - f.results) ≤ 9223372036854775807 := by unfold wrap64; omega
  obtain ⟨rr, hrr⟩ : ∃ r, r = wrap64 (1 - f.results) := ⟨_, rfl⟩
  rw [← hrr] at hwr ⊢
  obtain ⟨q1, hval, hok, hmn⟩ := mine_res HUm.out HUok.out i _ HUf.out gf HUa.out rr hwr
  obtain ⟨v1, hv1⟩ : ∃ v1, v1 = (u1.setCell ⟨gf, i * 4 + 2, none⟩ (.int .i64 rr)).drew := ⟨_, rfl⟩
  rw [← hv1]
  have hO1 : Only (fun b => b = gf) u1 v1 := by rw [hv1]; exact ((Only.refl (fun b => b = gf) u1).setCell (p := ⟨gf, i * 4 + 2, none⟩) (.inl rfl) _).drew
  have hbd1 : Below (u1.setCell ⟨gf, i * 4 + 2, none⟩ (.int .i64 rr)).heap.size (u1.setCell ⟨gf, i * 4 + 2, none⟩ (.int .i64 rr)) v1 := by rw [hv1]; exact below_drewN (Below.refl _ _) 1
  have HVm := Lib.hid (hmn.below hbd1)
  have HVok := Lib.hid hok
  have HVv : Hid (q1.val = q.val) := Lib.hid (hval.trans HUv.out)
  have HVbox := Lib.hid (HUbox.out.only hO1 (by omega))
  have HVx := Lib.hid (HUx.out.only hO1 (by omega))
  have HVb := Lib.hid (HUb.out.trans ((hO1.below (B := w.heap.size) HUb.out.size (by have := Hgx.out; intro k hk e; omega)).mono (Nat.le_refl _)))
  clear hval hok hmn hv1 hO1 hbd1 hrr hwr n2 nf2 n3 m0 m1 m2 ml HUm HUok HUv HUbox HUx HUb HUf HUa Hf Hfm
  have m0 : v1.cell? ⟨gm, 0, none⟩ = some (.int .i64 q.mem) := HVbox.out.cell 0
  have m1 : v1.cell? ⟨gm, 1, none⟩ = some (.slice q.AD q.data.length q.cD) := HVbox.out.cell 1
  have m2 : v1.cell? ⟨gm, 2, none⟩ = some (.slice q.AF q.fs.length q.cF) := HVbox.out.cell 2
  have ml := HVbox.out.lt
  by_cases hd : q.data.length = 0
  · have d1 : ¬ (0 : Int) < (q.data.length : Int) := by omega
    clear hd m0 m1 m2 ml
    have Htw2 := Lib.hid (show Calls Try.prog 24 #[q.val] v1 (TwinPost v1 q1) from by rw [← HVv.out]; exact refTwin_any q1 v1 (HVm.out.at_ HVok.out))
    have m0 : v1.cell? ⟨gm, 0, none⟩ = some (.int .i64 q.mem) := HVbox.out.cell 0
    have m1 : v1.cell? ⟨gm, 1, none⟩ = some (.slice q.AD q.data.length q.cD) := HVbox.out.cell 1
    have m2 : v1.cell? ⟨gm, 2, none⟩ = some (.slice q.AF q.fs.length q.cF) := HVbox.out.cell 2
    have ml := HVbox.out.lt
    go_wp2_with fail
    refine Htw2.out.mono ?_
    rintro e w9 ⟨o, rfl, hpl, hmine, hb9⟩
    obtain ⟨w10, hw10⟩ : ∃ w10, w10 = w9.alloc (.cells #[.int .i64 o.mem, .slice o.AD o.data.length o.cD, .slice o.AF o.fs.length o.cF] 25) := ⟨_, rfl⟩
    obtain ⟨go, hgo⟩ : ∃ g, g = w9.heap.size := ⟨_, rfl⟩
    have hb910 : Below w9.heap.size w9 w10 := by rw [hw10]; exact (Below.refl _ _).alloc (Nat.le_refl _) _
    have hb10 := hb9.trans (hb910.mono hb9.size)
    have HBoxo := Lib.hid (show Blk w10 go 25 #[.int .i64 o.mem, .slice o.AD o.data.length o.cD, .slice o.AF o.fs.length o.cF] from by rw [hw10, hgo]; exact Blk.new w9 _ _)
    have HBoxm := Lib.hid (HVbox.out.below hb10 HVbox.out.lt)
    have HX10 := Lib.hid (HVx.out.below hb10 HVx.out.lt)
    have HB10 := Lib.hid (HVb.out.trans (hb10.mono HVb.out.size))
    have HAm := Lib.hid ((HVm.out.below hb10).at_ HVok.out)
    have HAo := Lib.hid ((hmine.below hb910).at_ (by rw [hpl]; exact HVok.out))
    have Hpl := Lib.hid hpl
    have Hw10 := Lib.hid hw10
    have Hgo := Lib.hid hgo
    clear hpl hmine hb9 hw10 hgo hb910 hb10 Htw2 m0 m1 m2 ml
    obtain ⟨E, hE⟩ : ∃ E, E = encP q1.plain := ⟨_, rfl⟩
    have hEc : E.1.length ≤ 1048576 ∧ (E.2 = 0 ∨ E.1 = []) := by
      rw [hE]
      refine ⟨?_, encP_snd _⟩
      unfold encP
      split
      · split
        · simp
        · dsimp only; omega
      · simp
    have Hen := Lib.hid (show Calls Try.prog 16 #[q.val] w10 (EncPost w10 E) from by rw [← HVv.out, hE]; exact pEncode_any q1 w10 HAm.out)
    have HE := Lib.hid hE
    clear hE
    have m0 : w10.cell? ⟨gm, 0, none⟩ = some (.int .i64 q.mem) := HBoxm.out.cell 0
    have m1 : w10.cell? ⟨gm, 1, none⟩ = some (.slice q.AD q.data.length q.cD) := HBoxm.out.cell 1
    have m2 : w10.cell? ⟨gm, 2, none⟩ = some (.slice q.AF q.fs.length q.cF) := HBoxm.out.cell 2
    have ml := HBoxm.out.lt
    go_wp2_with (refine wpList_at 95 rfl ?_; refine wp_stop ?_)
    try refine ⟨?_⟩
    rw [← Hw10.out, ← Hgo.out]
    go_wp2_with fail
    refine Hen.out.mono ?_
    rintro e w11 ⟨A11, c11, rfl, hown11, hb11⟩
    have HBoxo1 := Lib.hid (HBoxo.out.below hb11 HBoxo.out.lt)
    have HBoxm1 := Lib.hid (HBoxm.out.below hb11 HBoxm.out.lt)
    have HX11 := Lib.hid (HX10.out.below hb11 HX10.out.lt)
    have HB11 := Lib.hid (HB10.out.trans (hb11.mono HB10.out.size))
    have HAm1 := Lib.hid (HAm.out.below hb11)
    have HAo1 := Lib.hid (HAo.out.below hb11)
    have Hown11 := Lib.hid hown11
    clear hown11 hb11 Hen m0 m1 m2 ml
    have o0 : w11.cell? ⟨go, 0, none⟩ = some (.int .i64 o.mem) := HBoxo1.out.cell 0
    have o1 : w11.cell? ⟨go, 1, none⟩ = some (.slice o.AD o.data.length o.cD) := HBoxo1.out.cell 1
    have o2 : w11.cell? ⟨go, 2, none⟩ = some (.slice o.AF o.fs.length o.cF) := HBoxo1.out.cell 2
    have ol := HBoxo1.out.lt
    have Hen := Lib.hid (show Calls Try.prog 16 #[o.val] w11 (EncPost w11 E) from by rw [HE.out, ← Hpl.out]; exact pEncode_any o w11 HAo1.out)
    go_wp2_with fail
    refine Hen.out.mono ?_
    rintro e w12 ⟨A12, c12, rfl, hown12, hb12⟩
    have HBoxo2 := Lib.hid (HBoxo1.out.below hb12 HBoxo1.out.lt)
    have HBoxm2 := Lib.hid (HBoxm1.out.below hb12 HBoxm1.out.lt)
    have HX12 := Lib.hid (HX11.out.below hb12 HX11.out.lt)
    have HB12 := Lib.hid (HB11.out.trans (hb12.mono HB11.out.size))
    have HAm2 := Lib.hid (HAm1.out.below hb12)
    have HAo2 := Lib.hid (HAo1.out.below hb12)
    have Hown112 := Lib.hid (Own.below Hown11.out hb12 (Nat.le_refl _))
    have Hsl12 := Lib.hid (Sl.of_own hown12)
    have hz11 := hb12.size
    obtain ⟨X, F⟩ := E
    dsimp only at Hown112 Hsl12 hEc ⊢
    clear hown12 hb12 Hen o0 o1 o2 ol Hown11
    have Hp12 := Lib.hid (Hp.out.below HB12.out)
    have lm := HBoxm2.out.lt
    have lo := HBoxo2.out.lt
    have lx := HX12.out.lt
    have m0 : ∀ x : BW w12.heap.size w12, x.w.cell? ⟨gm, 0, none⟩ = some (.int .i64 q.mem) := fun x => (x.blk HBoxm2.out lm).cell 0
    have m1 : ∀ x : BW w12.heap.size w12, x.w.cell? ⟨gm, 1, none⟩ = some (.slice q.AD q.data.length q.cD) := fun x => (x.blk HBoxm2.out lm).cell 1
    have m2 : ∀ x : BW w12.heap.size w12, x.w.cell? ⟨gm, 2, none⟩ = some (.slice q.AF q.fs.length q.cF) := fun x => (x.blk HBoxm2.out lm).cell 2
    have o0 : ∀ x : BW w12.heap.size w12, x.w.cell? ⟨go, 0, none⟩ = some (.int .i64 o.mem) := fun x => (x.blk HBoxo2.out lo).cell 0
    have o1 : ∀ x : BW w12.heap.size w12, x.w.cell? ⟨go, 1, none⟩ = some (.slice o.AD o.data.length o.cD) := fun x => (x.blk HBoxo2.out lo).cell 1
    have o2 : ∀ x : BW w12.heap.size w12, x.w.cell? ⟨go, 2, none⟩ = some (.slice o.AF o.fs.length o.cF) := fun x => (x.blk HBoxo2.out lo).cell 2
    have x0 : ∀ x : BW w12.heap.size w12, x.w.cell? ⟨gx, 0, none⟩ = some (.int .i64 p.mem) := fun x => (x.blk HX12.out lx).cell 0
    have x1 : ∀ x : BW w12.heap.size w12, x.w.cell? ⟨gx, 1, none⟩ = some (.slice p.AD p.data.length p.cD) := fun x => (x.blk HX12.out lx).cell 1
    have x2 : ∀ x : BW w12.heap.size w12, x.w.cell? ⟨gx, 2, none⟩ = some (.slice p.AF p.fs.length p.cF) := fun x => (x.blk HX12.out lx).cell 2
    have v1 : ∀ x : BW w12.heap.size w12, (convert 22 9 (.slice A11 X.length c11)).run Try.prog x.w = .ok (.string ⟨X.toArray⟩) x.w := fun x => run_bytesStr (c := c11) (((Sl.of_own Hown112.out).below x.h).rv) Try.underlying22 Try.underlying5 Try.underlying9
    have v2 : ∀ x : BW w12.heap.size w12, (convert 22 9 (.slice A12 X.length c12)).run Try.prog x.w = .ok (.string ⟨X.toArray⟩) x.w := fun x => run_bytesStr (c := c12) ((Hsl12.out.below x.h).rv) Try.underlying22 Try.underlying5 Try.underlying9
    obtain ⟨C, hC⟩ : ∃ C, C = checkL q1.plain := ⟨_, rfl⟩
    obtain ⟨S, hS⟩ : ∃ S, S = sameP q1.plain p.plain := ⟨_, rfl⟩
    have Hc1 : Hid (∀ x : BW w12.heap.size w12, Calls Try.prog 13 #[q.val] x.w fun e w' => e = .returned (.int .i64 C) ∧ Below x.w.heap.size x.w w') := Lib.hid fun x => by
      rw [← HVv.out, hC]; exact check_any q1 x.w (HAm2.out.below x.h)
    have Hc2 : Hid (∀ x : BW w12.heap.size w12, Calls Try.prog 13 #[o.val] x.w fun e w' => e = .returned (.int .i64 C) ∧ Below x.w.heap.size x.w w') := Lib.hid fun x => by
      rw [hC, ← Hpl.out]; exact check_any o x.w (HAo2.out.below x.h)
    have Hs1 : Hid (∀ x : BW w12.heap.size w12, Calls Try.prog 25 #[q.val, p.val] x.w fun e w' => e = .returned (.bool S) ∧ Below x.w.heap.size x.w w') := Lib.hid fun x => by
      rw [← HVv.out, hS]; exact sameP_any q1 p x.w (HAm2.out.below x.h) (Hp12.out.below x.h)
    have Hs2 : Hid (∀ x : BW w12.heap.size w12, Calls Try.prog 21 #[o.val, p.val] x.w fun e w' => e = .returned (.bool S) ∧ Below x.w.heap.size x.w w') := Lib.hid fun x => by
      rw [hS, ← Hpl.out]; exact refSameP_any o p x.w (HAo2.out.below x.h) (Hp12.out.below x.h)
    clear hC hS
    go_wp2_with fail
    refine region_inB w12.heap.size w12 (Below.refl _ _) (by kernel_rfl) (by kernel_rfl) ?_
    repeat (go_big_quiet_step (with_reducible first | exact Calls.inBat _ (Hc1.out _) (Nat.le_refl _) | exact Calls.inBat _ (Hc2.out _) (Nat.le_refl _) | exact Calls.inBat _ (Hs1.out _) (Nat.le_refl _) | exact Calls.inBat _ (Hs2.out _) (Nat.le_refl _)))
    refine wpQuiet_nil ?_
    intro w13 hb13
    have HB13 := Lib.hid (HB12.out.trans (hb13.mono HB12.out.size))
    have Hown13 := Lib.hid (Own.below Hown112.out hb13 (Nat.le_refl _))
    have hz13 := hb13.size
    clear hb13 m0 m1 m2 o0 o1 o2 x0 x1 x2 v1 v2 Hc1 Hc2 Hs1 Hs2
    have Hdc := Lib.hid (decodeP_any A11 c11 X w13 (Sl.of_own Hown13.out) (by omega))
    go_wp2_with fail
    refine Hdc.out.mono ?_
    rintro e w14 ⟨d14, -, rfl, -, hb14⟩
    have HB14 := Lib.hid (HB13.out.trans (hb14.mono HB13.out.size))
    have Hown14 := Lib.hid (Own.below Hown13.out hb14 (Nat.le_refl _))
    have hz14 := hb14.size
    clear hb14 Hdc
    by_cases hX0 : X.length = 0
    · have gX : ((X.length : Int) == 0) = true := by rw [hX0]; rfl
      clear hX0
      go_wp2_with fail
      go_ret
      exact ⟨rfl, HB14.out⟩
    have gX : ((X.length : Int) == 0) = false := by rw [beq_eq_false_iff_ne]; omega
    obtain ⟨kk, hkk⟩ := Int.eq_ofNat_of_zero_le (Int.emod_nonneg a1 (b := (X.length : Int)) (by omega))
    have hkk2 : kk < X.length := by have := Int.emod_lt_of_pos a1 (b := (X.length : Int)) (by omega); omega
    have Hin2 := Lib.hid (inP_any a1 X.length kk hkk.symm (by omega) (by omega) w14)
    obtain ⟨ga, hAa, hga1, hga2⟩ := own_some Hown14.out (by omega)
    subst hAa
    have hclen : kk < (X.map bv).length := by rw [List.length_map]; exact hkk2
    obtain ⟨y0, yf0, -⟩ := own_at Hown14.out kk hclen
    rw [List.getElem_map] at y0
    have hxor : ∃ u : UInt8, Value.int .u8 (bits .xor .u8 (X[kk].toNat : Int) 1) = bv u := by
      have h : bits .xor .u8 (X[kk].toNat : Int) 1 = IntKind.u8.wrap (((BitVec.ofInt 8 (X[kk].toNat : Int)) ^^^ (BitVec.ofInt 8 1)).toNat : Int) := rfl
      rw [h, IntKind.wrap_u8]
      exact u8_of _ (by omega) (by omega)
    obtain ⟨uu, huu⟩ := hxor
    have Huu := Lib.hid huu
    generalize X[kk] = xk at *
    replace y0 : w14.cell? ⟨ga, kk, none⟩ = some (.int .u8 (xk.toNat : Int)) := y0
    clear hX0 hkk hclen huu
    go_wp2_with fail
    refine Hin2.out.mono ?_
    rintro e w15 ⟨rfl, hw15⟩
    subst hw15
    go_wp2_with (refine wpList_at 149 rfl ?_; refine wp_stop ?_)
    try refine ⟨?_⟩
    rw [Huu.out]
    obtain ⟨Y, hY⟩ : ∃ Y, Y = X.set kk uu := ⟨_, rfl⟩
    have hYl : Y.length = X.length := by rw [hY, List.length_set]
    obtain ⟨w16, hw16⟩ : ∃ w16, w16 = w15.setCell ⟨ga, kk, none⟩ (bv uu) := ⟨_, rfl⟩
    have hown16 : OwnB w16 w10.heap.size (some ⟨ga, 0, none⟩) X.length c11 Y := by
      rw [hw16]
      show Own _ _ _ 1 _ _ _ (Y.map bv)
      rw [hY, List.map_set]
      exact own_set Hown14.out kk (bv uu)
    have hO16 : Only (fun b => b = ga) w15 w16 := by rw [hw16]; exact (Only.refl (fun b => b = ga) w15).setCell (p := ⟨ga, kk, none⟩) (.inl rfl) _
    obtain ⟨w17, hw17⟩ : ∃ w17, w17 = w16.alloc (.cells #[] 5) := ⟨_, rfl⟩
    have hb67 : Below w16.heap.size w16 w17 := by rw [hw17]; exact (Below.refl _ _).alloc (Nat.le_refl _) _
    have ho17 : Own w17 w16.heap.size 5 1 (some ⟨w16.heap.size, 0, none⟩) 0 0 [] := by rw [hw17]; exact Own.lit w16 5 1 0 #[] (Nat.le_refl _) (Nat.zero_le _) rfl
    have hz16 : w16.heap.size = w15.heap.size := by rw [hw16]; simp
    have hwB : w.heap.size ≤ ga := by have := HB10.out.size; omega
    have HB16 := Lib.hid (show Below w.heap.size w w16 from HB14.out.trans ((hO16.below (B := w.heap.size) HB14.out.size (by intro k hk e; omega)).mono (Nat.le_refl _)))
    have hown17 := Own.below hown16 hb67 (Nat.le_refl _)
    rw [← hw16, ← hz16]
    rw [← hw17]
    refine wpList_app rfl (.tmp 147) (.tmp 148) eByte rfl rfl ho17 (m := X.length) (c' := c11) (us := Y.map bv) rfl (RV.of_own hown17) (by rw [List.length_map, hYl, Nat.mul_one]) (map_bv_one _) (by unfold maxLen; omega) (by omega) hb67.size (fun e => by cases e) ?_
    intro A18 c18 w18 hown18 hg18 hA18
    have hb78 : Below w16.heap.size w17 w18 := (Below.refl w16.heap.size w17).grown hg18 hb67.size fun q hq => by injection hq with hq; exact Nat.le_of_eq hq
    rw [Nat.zero_add, List.nil_append] at hown18
    have hb68 := hb67.trans hb78
    have HB18 := Lib.hid (HB16.out.trans (hb68.mono HB16.out.size))
    have hown18' : OwnB w18 w16.heap.size A18 Y.length c18 Y := by rw [hYl]; exact hown18
    have hown168 : OwnB w18 w10.heap.size (some ⟨ga, 0, none⟩) Y.length c11 Y := by rw [hYl]; exact Own.below hown16 hb68 (Nat.le_refl _)
    have Hc18 := Lib.hid hown18'
    have Ha18 := Lib.hid hown168
    rw [← hYl]
    have hYn : Y.length ≤ 200000000000000 := by omega
    clear hown18 hown18' hown168 hg18 hA18 hb78 hb68 hown16 hown17 ho17 hO16 hb67 hw16 hw17 hz16 hY hYl y0 yf0 Hown14 Hin2 Huu
    simp only [Nat.zero_add]
    obtain ⟨D, hD⟩ : ∃ D, D = decP Y := ⟨_, rfl⟩
    have HD := Lib.hid hD
    clear hD
    have Hdc := Lib.hid (show Calls Try.prog 19 #[.slice (some ⟨ga, 0, none⟩) Y.length c11] w18 (DecPPost w18 D) from by rw [HD.out]; exact decodeP_any _ c11 Y w18 (Sl.of_own Ha18.out) hYn)
    go_wp2_with fail
    refine Hdc.out.mono ?_
    rintro e w19 ⟨d1, hd1, rfl, hw19, hb19⟩
    obtain ⟨w20, hw20⟩ : ∃ w20, w20 = w19.alloc (.cells #[.int .i64 d1.mem, .slice d1.AD d1.data.length d1.cD, .slice d1.AF d1.fs.length d1.cF] 25) := ⟨_, rfl⟩
    obtain ⟨g1', hg1'⟩ : ∃ g, g = w19.heap.size := ⟨_, rfl⟩
    have hb190 : Below w19.heap.size w19 w20 := by rw [hw20]; exact (Below.refl _ _).alloc (Nat.le_refl _) _
    have hb20 := hb19.trans (hb190.mono hb19.size)
    have HD1b := Lib.hid (show Blk w20 g1' 25 #[.int .i64 d1.mem, .slice d1.AD d1.data.length d1.cD, .slice d1.AF d1.fs.length d1.cF] from by rw [hw20, hg1']; exact Blk.new w19 _ _)
    have HB20 := Lib.hid (HB18.out.trans (hb20.mono HB18.out.size))
    have Hd1 := Lib.hid (hw19.at_.below hb190)
    have Hd1p := Lib.hid hd1
    have Hc20 := Lib.hid (Own.below Hc18.out hb20 (Nat.le_refl _))
    have Hw20 := Lib.hid hw20
    have Hg1' := Lib.hid hg1'
    clear hd1 hw19 hb19 hw20 hg1' hb190 hb20 Hdc
    have Hdc := Lib.hid (show Calls Try.prog 19 #[.slice A18 Y.length c18] w20 (DecPPost w20 D) from by rw [HD.out]; exact decodeP_any _ c18 Y w20 (Sl.of_own Hc20.out) hYn)
    go_wp2_with (refine wpList_at 157 rfl ?_; refine wp_stop ?_)
    try refine ⟨?_⟩
    rw [← Hw20.out, ← Hg1'.out]
    go_wp2_with fail
    refine Hdc.out.mono ?_
    rintro e w21 ⟨d2, hd2, rfl, hw21, hb21⟩
    obtain ⟨w22, hw22⟩ : ∃ w22, w22 = w21.alloc (.cells #[.int .i64 d2.mem, .slice d2.AD d2.data.length d2.cD, .slice d2.AF d2.fs.length d2.cF] 25) := ⟨_, rfl⟩
    obtain ⟨g2', hg2'⟩ : ∃ g, g = w21.heap.size := ⟨_, rfl⟩
    have hb212 : Below w21.heap.size w21 w22 := by rw [hw22]; exact (Below.refl _ _).alloc (Nat.le_refl _) _
    have hb22 := hb21.trans (hb212.mono hb21.size)
    have HD2b := Lib.hid (show Blk w22 g2' 25 #[.int .i64 d2.mem, .slice d2.AD d2.data.length d2.cD, .slice d2.AF d2.fs.length d2.cF] from by rw [hw22, hg2']; exact Blk.new w21 _ _)
    have HD1c := Lib.hid (HD1b.out.below hb22 HD1b.out.lt)
    have HB22 := Lib.hid (HB20.out.trans (hb22.mono HB20.out.size))
    have hsm := refSameP_any d1 d2 w22 (Hd1.out.below hb22) (hw21.at_.below hb212)
    rw [Hd1p.out, hd2, (sameP_iff _ _).2 rfl] at hsm
    have Hsm := Lib.hid hsm
    have Hw22 := Lib.hid hw22
    have Hg2' := Lib.hid hg2'
    clear hd2 hw21 hb21 hw22 hg2' hb212 hb22 Hdc hsm
    have s0 : w22.cell? ⟨g1', 0, none⟩ = some (.int .i64 d1.mem) := HD1c.out.cell 0
    have s1 : w22.cell? ⟨g1', 1, none⟩ = some (.slice d1.AD d1.data.length d1.cD) := HD1c.out.cell 1
    have s2 : w22.cell? ⟨g1', 2, none⟩ = some (.slice d1.AF d1.fs.length d1.cF) := HD1c.out.cell 2
    have sl := HD1c.out.lt
    have t0 : w22.cell? ⟨g2', 0, none⟩ = some (.int .i64 d2.mem) := HD2b.out.cell 0
    have t1 : w22.cell? ⟨g2', 1, none⟩ = some (.slice d2.AD d2.data.length d2.cD) := HD2b.out.cell 1
    have t2 : w22.cell? ⟨g2', 2, none⟩ = some (.slice d2.AF d2.fs.length d2.cF) := HD2b.out.cell 2
    have tl := HD2b.out.lt
    go_wp2_with (refine wpList_at 160 rfl ?_; refine wp_stop ?_)
    try refine ⟨?_⟩
    rw [← Hw22.out, ← Hg2'.out]
    go_wp2_with fail
    refine Hsm.out.mono ?_
    rintro e w23 ⟨rfl, hb23⟩
    have HF := Lib.hid (HB22.out.trans (hb23.mono HB22.out.size))
    clear hb23 Hsm
    go_wp2_with fail
    go_ret
    exact ⟨rfl, HF.out⟩
  have d1 : (0 : Int) < (q.data.length : Int) := by omega
  have hdv : q1.AD = q.AD ∧ q1.data.length = q.data.length ∧ q1.cD = q.cD := by
    have h := HVv.out
    simp only [PrgM.val, Value.agg.injEq, Array.mk.injEq, List.cons.injEq, Value.slice.injEq, Value.int.injEq, and_true, true_and] at h
    exact ⟨h.2.1.1, h.2.1.2.1, h.2.1.2.2⟩
  obtain ⟨gd, hAD, hgd1, hgd2⟩ := own_some HVm.out.data (by rw [hdv.2.1]; omega)
  have hdat := HVm.out.data
  rw [hAD] at hdat
  have hdl0 : 0 < (q1.data.map bv).length := by rw [List.length_map, hdv.2.1]; omega
  obtain ⟨z0, zf0, -⟩ := own_at hdat 0 hdl0
  rw [List.getElem_map] at z0
  have hADq : q.AD = some ⟨gd, 0, none⟩ := by rw [← hdv.1, hAD]
  rw [hADq] at m1
  generalize q1.data[0]'(by rw [← List.length_map (f := bv)]; exact hdl0) = xk at *
  replace z0 : v1.cell? ⟨gd, 0, none⟩ = some (.int .u8 (xk.toNat : Int)) := z0
  have HAD := Lib.hid hAD
  have HADq := Lib.hid hADq
  clear hd hdv hdat hdl0 hAD hADq
  obtain ⟨uu, huu⟩ := u8_of (IntKind.u8.wrap ((xk.toNat : Int) + 1)) (by rw [IntKind.wrap_u8]; omega) (by rw [IntKind.wrap_u8]; omega)
  have Huu2 := Lib.hid huu
  rw [IntKind.wrap_u8] at huu
  have Huu3 := Lib.hid huu
  clear huu
  have hgdm : gd < gm := HRows.out.1 gd (by rw [HADq.out]; rfl)
  go_wp2_with fail
  go_region
  first | rw [Huu3.out] | rw [Huu2.out]
  obtain ⟨q2, hval, hok, hmn⟩ := mine_data HVm.out HVok.out gd HAD.out 0 uu
  obtain ⟨v2, hv2⟩ : ∃ v2, v2 = (v1.setCell ⟨gd, 0, none⟩ (bv uu)).drew := ⟨_, rfl⟩
  rw [← hv2]
  have hO2 : Only (fun b => b = gd) v1 v2 := by rw [hv2]; exact ((Only.refl (fun b => b = gd) v1).setCell (p := ⟨gd, 0, none⟩) (.inl rfl) _).drew
  have hbd2 : Below (v1.setCell ⟨gd, 0, none⟩ (bv uu)).heap.size (v1.setCell ⟨gd, 0, none⟩ (bv uu)) v2 := by rw [hv2]; exact below_drewN (Below.refl _ _) 1
  have HVm2 := Lib.hid (hmn.below hbd2)
  have HVok2 := Lib.hid hok
  have HVv2 : Hid (q2.val = q.val) := Lib.hid (hval.trans HVv.out)
  have HVbox2 := Lib.hid (HVbox.out.only hO2 (by omega))
  have HVx2 := Lib.hid (HVx.out.only hO2 (by omega))
  have HVb2 := Lib.hid (HVb.out.trans ((hO2.below (B := w.heap.size) HVb.out.size (by have := Hgx.out; intro k hk e; omega)).mono (Nat.le_refl _)))
  clear hval hok hmn hv2 hO2 hbd2 Huu2 Huu3 z0 zf0 m0 m1 m2 ml HVm HVok HVv HVbox HVx HVb HAD
  have HVm := HVm2
  have HVok := HVok2
  have HVv := HVv2
  have HVbox := HVbox2
  have HVx := HVx2
  have HVb := HVb2
  clear HVm2 HVok2 HVv2 HVbox2 HVx2 HVb2
  have Htw2 := Lib.hid (show Calls Try.prog 24 #[q.val] v2 (TwinPost v2 q2) from by rw [← HVv.out]; exact refTwin_any q2 v2 (HVm.out.at_ HVok.out))
  have m0 : v2.cell? ⟨gm, 0, none⟩ = some (.int .i64 q.mem) := HVbox.out.cell 0
  have m1 : v2.cell? ⟨gm, 1, none⟩ = some (.slice q.AD q.data.length q.cD) := HVbox.out.cell 1
  have m2 : v2.cell? ⟨gm, 2, none⟩ = some (.slice q.AF q.fs.length q.cF) := HVbox.out.cell 2
  have ml := HVbox.out.lt
  go_wp2_with fail
  refine Htw2.out.mono ?_
  rintro e w9 ⟨o, rfl, hpl, hmine, hb9⟩
  obtain ⟨w10, hw10⟩ : ∃ w10, w10 = w9.alloc (.cells #[.int .i64 o.mem, .slice o.AD o.data.length o.cD, .slice o.AF o.fs.length o.cF] 25) := ⟨_, rfl⟩
  obtain ⟨go, hgo⟩ : ∃ g, g = w9.heap.size := ⟨_, rfl⟩
  have hb910 : Below w9.heap.size w9 w10 := by rw [hw10]; exact (Below.refl _ _).alloc (Nat.le_refl _) _
  have hb10 := hb9.trans (hb910.mono hb9.size)
  have HBoxo := Lib.hid (show Blk w10 go 25 #[.int .i64 o.mem, .slice o.AD o.data.length o.cD, .slice o.AF o.fs.length o.cF] from by rw [hw10, hgo]; exact Blk.new w9 _ _)
  have HBoxm := Lib.hid (HVbox.out.below hb10 HVbox.out.lt)
  have HX10 := Lib.hid (HVx.out.below hb10 HVx.out.lt)
  have HB10 := Lib.hid (HVb.out.trans (hb10.mono HVb.out.size))
  have HAm := Lib.hid ((HVm.out.below hb10).at_ HVok.out)
  have HAo := Lib.hid ((hmine.below hb910).at_ (by rw [hpl]; exact HVok.out))
  have Hpl := Lib.hid hpl
  have Hw10 := Lib.hid hw10
  have Hgo := Lib.hid hgo
  clear hpl hmine hb9 hw10 hgo hb910 hb10 Htw2 m0 m1 m2 ml
  obtain ⟨E, hE⟩ : ∃ E, E = encP q2.plain := ⟨_, rfl⟩
  have hEc : E.1.length ≤ 1048576 ∧ (E.2 = 0 ∨ E.1 = []) := by
    rw [hE]
    refine ⟨?_, encP_snd _⟩
    unfold encP
    split
    · split
      · simp
      · dsimp only; omega
    · simp
  have Hen := Lib.hid (show Calls Try.prog 16 #[q.val] w10 (EncPost w10 E) from by rw [← HVv.out, hE]; exact pEncode_any q2 w10 HAm.out)
  have HE := Lib.hid hE
  clear hE
  have m0 : w10.cell? ⟨gm, 0, none⟩ = some (.int .i64 q.mem) := HBoxm.out.cell 0
  have m1 : w10.cell? ⟨gm, 1, none⟩ = some (.slice q.AD q.data.length q.cD) := HBoxm.out.cell 1
  have m2 : w10.cell? ⟨gm, 2, none⟩ = some (.slice q.AF q.fs.length q.cF) := HBoxm.out.cell 2
  have ml := HBoxm.out.lt
  go_wp2_with (refine wpList_at 95 rfl ?_; refine wp_stop ?_)
  try refine ⟨?_⟩
  rw [← Hw10.out, ← Hgo.out]
  go_wp2_with fail
  refine Hen.out.mono ?_
  rintro e w11 ⟨A11, c11, rfl, hown11, hb11⟩
  have HBoxo1 := Lib.hid (HBoxo.out.below hb11 HBoxo.out.lt)
  have HBoxm1 := Lib.hid (HBoxm.out.below hb11 HBoxm.out.lt)
  have HX11 := Lib.hid (HX10.out.below hb11 HX10.out.lt)
  have HB11 := Lib.hid (HB10.out.trans (hb11.mono HB10.out.size))
  have HAm1 := Lib.hid (HAm.out.below hb11)
  have HAo1 := Lib.hid (HAo.out.below hb11)
  have Hown11 := Lib.hid hown11
  clear hown11 hb11 Hen m0 m1 m2 ml
  have o0 : w11.cell? ⟨go, 0, none⟩ = some (.int .i64 o.mem) := HBoxo1.out.cell 0
  have o1 : w11.cell? ⟨go, 1, none⟩ = some (.slice o.AD o.data.length o.cD) := HBoxo1.out.cell 1
  have o2 : w11.cell? ⟨go, 2, none⟩ = some (.slice o.AF o.fs.length o.cF) := HBoxo1.out.cell 2
  have ol := HBoxo1.out.lt
  have Hen := Lib.hid (show Calls Try.prog 16 #[o.val] w11 (EncPost w11 E) from by rw [HE.out, ← Hpl.out]; exact pEncode_any o w11 HAo1.out)
  go_wp2_with fail
  refine Hen.out.mono ?_
  rintro e w12 ⟨A12, c12, rfl, hown12, hb12⟩
  have HBoxo2 := Lib.hid (HBoxo1.out.below hb12 HBoxo1.out.lt)
  have HBoxm2 := Lib.hid (HBoxm1.out.below hb12 HBoxm1.out.lt)
  have HX12 := Lib.hid (HX11.out.below hb12 HX11.out.lt)
  have HB12 := Lib.hid (HB11.out.trans (hb12.mono HB11.out.size))
  have HAm2 := Lib.hid (HAm1.out.below hb12)
  have HAo2 := Lib.hid (HAo1.out.below hb12)
  have Hown112 := Lib.hid (Own.below Hown11.out hb12 (Nat.le_refl _))
  have Hsl12 := Lib.hid (Sl.of_own hown12)
  have hz11 := hb12.size
  obtain ⟨X, F⟩ := E
  dsimp only at Hown112 Hsl12 hEc ⊢
  clear hown12 hb12 Hen o0 o1 o2 ol Hown11
  have Hp12 := Lib.hid (Hp.out.below HB12.out)
  have lm := HBoxm2.out.lt
  have lo := HBoxo2.out.lt
  have lx := HX12.out.lt
  have m0 : ∀ x : BW w12.heap.size w12, x.w.cell? ⟨gm, 0, none⟩ = some (.int .i64 q.mem) := fun x => (x.blk HBoxm2.out lm).cell 0
  have m1 : ∀ x : BW w12.heap.size w12, x.w.cell? ⟨gm, 1, none⟩ = some (.slice q.AD q.data.length q.cD) := fun x => (x.blk HBoxm2.out lm).cell 1
  have m2 : ∀ x : BW w12.heap.size w12, x.w.cell? ⟨gm, 2, none⟩ = some (.slice q.AF q.fs.length q.cF) := fun x => (x.blk HBoxm2.out lm).cell 2
  have o0 : ∀ x : BW w12.heap.size w12, x.w.cell? ⟨go, 0, none⟩ = some (.int .i64 o.mem) := fun x => (x.blk HBoxo2.out lo).cell 0
  have o1 : ∀ x : BW w12.heap.size w12, x.w.cell? ⟨go, 1, none⟩ = some (.slice o.AD o.data.length o.cD) := fun x => (x.blk HBoxo2.out lo).cell 1
  have o2 : ∀ x : BW w12.heap.size w12, x.w.cell? ⟨go, 2, none⟩ = some (.slice o.AF o.fs.length o.cF) := fun x => (x.blk HBoxo2.out lo).cell 2
  have x0 : ∀ x : BW w12.heap.size w12, x.w.cell? ⟨gx, 0, none⟩ = some (.int .i64 p.mem) := fun x => (x.blk HX12.out lx).cell 0
  have x1 : ∀ x : BW w12.heap.size w12, x.w.cell? ⟨gx, 1, none⟩ = some (.slice p.AD p.data.length p.cD) := fun x => (x.blk HX12.out lx).cell 1
  have x2 : ∀ x : BW w12.heap.size w12, x.w.cell? ⟨gx, 2, none⟩ = some (.slice p.AF p.fs.length p.cF) := fun x => (x.blk HX12.out lx).cell 2
  have v1 : ∀ x : BW w12.heap.size w12, (convert 22 9 (.slice A11 X.length c11)).run Try.prog x.w = .ok (.string ⟨X.toArray⟩) x.w := fun x => run_bytesStr (c := c11) (((Sl.of_own Hown112.out).below x.h).rv) Try.underlying22 Try.underlying5 Try.underlying9
  have v2 : ∀ x : BW w12.heap.size w12, (convert 22 9 (.slice A12 X.length c12)).run Try.prog x.w = .ok (.string ⟨X.toArray⟩) x.w := fun x => run_bytesStr (c := c12) ((Hsl12.out.below x.h).rv) Try.underlying22 Try.underlying5 Try.underlying9
  obtain ⟨C, hC⟩ : ∃ C, C = checkL q2.plain := ⟨_, rfl⟩
  obtain ⟨S, hS⟩ : ∃ S, S = sameP q2.plain p.plain := ⟨_, rfl⟩
  have Hc1 : Hid (∀ x : BW w12.heap.size w12, Calls Try.prog 13 #[q.val] x.w fun e w' => e = .returned (.int .i64 C) ∧ Below x.w.heap.size x.w w') := Lib.hid fun x => by
    rw [← HVv.out, hC]; exact check_any q2 x.w (HAm2.out.below x.h)
  have Hc2 : Hid (∀ x : BW w12.heap.size w12, Calls Try.prog 13 #[o.val] x.w fun e w' => e = .returned (.int .i64 C) ∧ Below x.w.heap.size x.w w') := Lib.hid fun x => by
    rw [hC, ← Hpl.out]; exact check_any o x.w (HAo2.out.below x.h)
  have Hs1 : Hid (∀ x : BW w12.heap.size w12, Calls Try.prog 25 #[q.val, p.val] x.w fun e w' => e = .returned (.bool S) ∧ Below x.w.heap.size x.w w') := Lib.hid fun x => by
    rw [← HVv.out, hS]; exact sameP_any q2 p x.w (HAm2.out.below x.h) (Hp12.out.below x.h)
  have Hs2 : Hid (∀ x : BW w12.heap.size w12, Calls Try.prog 21 #[o.val, p.val] x.w fun e w' => e = .returned (.bool S) ∧ Below x.w.heap.size x.w w') := Lib.hid fun x => by
    rw [hS, ← Hpl.out]; exact refSameP_any o p x.w (HAo2.out.below x.h) (Hp12.out.below x.h)
  clear hC hS
  go_wp2_with fail
  refine region_inB w12.heap.size w12 (Below.refl _ _) (by kernel_rfl) (by kernel_rfl) ?_
  repeat (go_big_quiet_step (with_reducible first | exact Calls.inBat _ (Hc1.out _) (Nat.le_refl _) | exact Calls.inBat _ (Hc2.out _) (Nat.le_refl _) | exact Calls.inBat _ (Hs1.out _) (Nat.le_refl _) | exact Calls.inBat _ (Hs2.out _) (Nat.le_refl _)))
  refine wpQuiet_nil ?_
  intro w13 hb13
  have HB13 := Lib.hid (HB12.out.trans (hb13.mono HB12.out.size))
  have Hown13 := Lib.hid (Own.below Hown112.out hb13 (Nat.le_refl _))
  have hz13 := hb13.size
  clear hb13 m0 m1 m2 o0 o1 o2 x0 x1 x2 v1 v2 Hc1 Hc2 Hs1 Hs2
  have Hdc := Lib.hid (decodeP_any A11 c11 X w13 (Sl.of_own Hown13.out) (by omega))
  go_wp2_with fail
  refine Hdc.out.mono ?_
  rintro e w14 ⟨d14, -, rfl, -, hb14⟩
  have HB14 := Lib.hid (HB13.out.trans (hb14.mono HB13.out.size))
  have Hown14 := Lib.hid (Own.below Hown13.out hb14 (Nat.le_refl _))
  have hz14 := hb14.size
  clear hb14 Hdc
  by_cases hX0 : X.length = 0
  · have gX : ((X.length : Int) == 0) = true := by rw [hX0]; rfl
    clear hX0
    go_wp2_with fail
    go_ret
    exact ⟨rfl, HB14.out⟩
  have gX : ((X.length : Int) == 0) = false := by rw [beq_eq_false_iff_ne]; omega
  obtain ⟨kk, hkk⟩ := Int.eq_ofNat_of_zero_le (Int.emod_nonneg a1 (b := (X.length : Int)) (by omega))
  have hkk2 : kk < X.length := by have := Int.emod_lt_of_pos a1 (b := (X.length : Int)) (by omega); omega
  have Hin2 := Lib.hid (inP_any a1 X.length kk hkk.symm (by omega) (by omega) w14)
  obtain ⟨ga, hAa, hga1, hga2⟩ := own_some Hown14.out (by omega)
  subst hAa
  have hclen : kk < (X.map bv).length := by rw [List.length_map]; exact hkk2
  obtain ⟨y0, yf0, -⟩ := own_at Hown14.out kk hclen
  rw [List.getElem_map] at y0
  have hxor : ∃ u : UInt8, Value.int .u8 (bits .xor .u8 (X[kk].toNat : Int) 1) = bv u := by
    have h : bits .xor .u8 (X[kk].toNat : Int) 1 = IntKind.u8.wrap (((BitVec.ofInt 8 (X[kk].toNat : Int)) ^^^ (BitVec.ofInt 8 1)).toNat : Int) := rfl
    rw [h, IntKind.wrap_u8]
    exact u8_of _ (by omega) (by omega)
  obtain ⟨uu, huu⟩ := hxor
  have Huu := Lib.hid huu
  generalize X[kk] = xk at *
  replace y0 : w14.cell? ⟨ga, kk, none⟩ = some (.int .u8 (xk.toNat : Int)) := y0
  clear hX0 hkk hclen huu
  go_wp2_with fail
  refine Hin2.out.mono ?_
  rintro e w15 ⟨rfl, hw15⟩
  subst hw15
  go_wp2_with (refine wpList_at 149 rfl ?_; refine wp_stop ?_)
  try refine ⟨?_⟩
  rw [Huu.out]
  obtain ⟨Y, hY⟩ : ∃ Y, Y = X.set kk uu := ⟨_, rfl⟩
  have hYl : Y.length = X.length := by rw [hY, List.length_set]
  obtain ⟨w16, hw16⟩ : ∃ w16, w16 = w15.setCell ⟨ga, kk, none⟩ (bv uu) := ⟨_, rfl⟩
  have hown16 : OwnB w16 w10.heap.size (some ⟨ga, 0, none⟩) X.length c11 Y := by
    rw [hw16]
    show Own _ _ _ 1 _ _ _ (Y.map bv)
    rw [hY, List.map_set]
    exact own_set Hown14.out kk (bv uu)
  have hO16 : Only (fun b => b = ga) w15 w16 := by rw [hw16]; exact (Only.refl (fun b => b = ga) w15).setCell (p := ⟨ga, kk, none⟩) (.inl rfl) _
  obtain ⟨w17, hw17⟩ : ∃ w17, w17 = w16.alloc (.cells #[] 5) := ⟨_, rfl⟩
  have hb67 : Below w16.heap.size w16 w17 := by rw [hw17]; exact (Below.refl _ _).alloc (Nat.le_refl _) _
  have ho17 : Own w17 w16.heap.size 5 1 (some ⟨w16.heap.size, 0, none⟩) 0 0 [] := by rw [hw17]; exact Own.lit w16 5 1 0 #[] (Nat.le_refl _) (Nat.zero_le _) rfl
  have hz16 : w16.heap.size = w15.heap.size := by rw [hw16]; simp
  have hwB : w.heap.size ≤ ga := by have := HB10.out.size; omega
  have HB16 := Lib.hid (show Below w.heap.size w w16 from HB14.out.trans ((hO16.below (B := w.heap.size) HB14.out.size (by intro k hk e; omega)).mono (Nat.le_refl _)))
  have hown17 := Own.below hown16 hb67 (Nat.le_refl _)
  rw [← hw16, ← hz16]
  rw [← hw17]
  refine wpList_app rfl (.tmp 147) (.tmp 148) eByte rfl rfl ho17 (m := X.length) (c' := c11) (us := Y.map bv) rfl (RV.of_own hown17) (by rw [List.length_map, hYl, Nat.mul_one]) (map_bv_one _) (by unfold maxLen; omega) (by omega) hb67.size (fun e => by cases e) ?_
  intro A18 c18 w18 hown18 hg18 hA18
  have hb78 : Below w16.heap.size w17 w18 := (Below.refl w16.heap.size w17).grown hg18 hb67.size fun q hq => by injection hq with hq; exact Nat.le_of_eq hq
  rw [Nat.zero_add, List.nil_append] at hown18
  have hb68 := hb67.trans hb78
  have HB18 := Lib.hid (HB16.out.trans (hb68.mono HB16.out.size))
  have hown18' : OwnB w18 w16.heap.size A18 Y.length c18 Y := by rw [hYl]; exact hown18
  have hown168 : OwnB w18 w10.heap.size (some ⟨ga, 0, none⟩) Y.length c11 Y := by rw [hYl]; exact Own.below hown16 hb68 (Nat.le_refl _)
  have Hc18 := Lib.hid hown18'
  have Ha18 := Lib.hid hown168
  rw [← hYl]
  have hYn : Y.length ≤ 200000000000000 := by omega
  clear hown18 hown18' hown168 hg18 hA18 hb78 hb68 hown16 hown17 ho17 hO16 hb67 hw16 hw17 hz16 hY hYl y0 yf0 Hown14 Hin2 Huu
  simp only [Nat.zero_add]
  obtain ⟨D, hD⟩ : ∃ D, D = decP Y := ⟨_, rfl⟩
  have HD := Lib.hid hD
  clear hD
  have Hdc := Lib.hid (show Calls Try.prog 19 #[.slice (some ⟨ga, 0, none⟩) Y.length c11] w18 (DecPPost w18 D) from by rw [HD.out]; exact decodeP_any _ c11 Y w18 (Sl.of_own Ha18.out) hYn)
  go_wp2_with fail
  refine Hdc.out.mono ?_
  rintro e w19 ⟨d1, hd1, rfl, hw19, hb19⟩
  obtain ⟨w20, hw20⟩ : ∃ w20, w20 = w19.alloc (.cells #[.int .i64 d1.mem, .slice d1.AD d1.data.length d1.cD, .slice d1.AF d1.fs.length d1.cF] 25) := ⟨_, rfl⟩
  obtain ⟨g1', hg1'⟩ : ∃ g, g = w19.heap.size := ⟨_, rfl⟩
  have hb190 : Below w19.heap.size w19 w20 := by rw [hw20]; exact (Below.refl _ _).alloc (Nat.le_refl _) _
  have hb20 := hb19.trans (hb190.mono hb19.size)
  have HD1b := Lib.hid (show Blk w20 g1' 25 #[.int .i64 d1.mem, .slice d1.AD d1.data.length d1.cD, .slice d1.AF d1.fs.length d1.cF] from by rw [hw20, hg1']; exact Blk.new w19 _ _)
  have HB20 := Lib.hid (HB18.out.trans (hb20.mono HB18.out.size))
  have Hd1 := Lib.hid (hw19.at_.below hb190)
  have Hd1p := Lib.hid hd1
  have Hc20 := Lib.hid (Own.below Hc18.out hb20 (Nat.le_refl _))
  have Hw20 := Lib.hid hw20
  have Hg1' := Lib.hid hg1'
  clear hd1 hw19 hb19 hw20 hg1' hb190 hb20 Hdc
  have Hdc := Lib.hid (show Calls Try.prog 19 #[.slice A18 Y.length c18] w20 (DecPPost w20 D) from by rw [HD.out]; exact decodeP_any _ c18 Y w20 (Sl.of_own Hc20.out) hYn)
  go_wp2_with (refine wpList_at 157 rfl ?_; refine wp_stop ?_)
  try refine ⟨?_⟩
  rw [← Hw20.out, ← Hg1'.out]
  go_wp2_with fail
  refine Hdc.out.mono ?_
  rintro e w21 ⟨d2, hd2, rfl, hw21, hb21⟩
  obtain ⟨w22, hw22⟩ : ∃ w22, w22 = w21.alloc (.cells #[.int .i64 d2.mem, .slice d2.AD d2.data.length d2.cD, .slice d2.AF d2.fs.length d2.cF] 25) := ⟨_, rfl⟩
  obtain ⟨g2', hg2'⟩ : ∃ g, g = w21.heap.size := ⟨_, rfl⟩
  have hb212 : Below w21.heap.size w21 w22 := by rw [hw22]; exact (Below.refl _ _).alloc (Nat.le_refl _) _
  have hb22 := hb21.trans (hb212.mono hb21.size)
  have HD2b := Lib.hid (show Blk w22 g2' 25 #[.int .i64 d2.mem, .slice d2.AD d2.data.length d2.cD, .slice d2.AF d2.fs.length d2.cF] from by rw [hw22, hg2']; exact Blk.new w21 _ _)
  have HD1c := Lib.hid (HD1b.out.below hb22 HD1b.out.lt)
  have HB22 := Lib.hid (HB20.out.trans (hb22.mono HB20.out.size))
  have hsm := refSameP_any d1 d2 w22 (Hd1.out.below hb22) (hw21.at_.below hb212)
  rw [Hd1p.out, hd2, (sameP_iff _ _).2 rfl] at hsm
  have Hsm := Lib.hid hsm
  have Hw22 := Lib.hid hw22
  have Hg2' := Lib.hid hg2'
  clear hd2 hw21 hb21 hw22 hg2' hb212 hb22 Hdc hsm
  have s0 : w22.cell? ⟨g1', 0, none⟩ = some (.int .i64 d1.mem) := HD1c.out.cell 0
  have s1 : w22.cell? ⟨g1', 1, none⟩ = some (.slice d1.AD d1.data.length d1.cD) := HD1c.out.cell 1
  have s2 : w22.cell? ⟨g1', 2, none⟩ = some (.slice d1.AF d1.fs.length d1.cF) := HD1c.out.cell 2
  have sl := HD1c.out.lt
  have t0 : w22.cell? ⟨g2', 0, none⟩ = some (.int .i64 d2.mem) := HD2b.out.cell 0
  have t1 : w22.cell? ⟨g2', 1, none⟩ = some (.slice d2.AD d2.data.length d2.cD) := HD2b.out.cell 1
  have t2 : w22.cell? ⟨g2', 2, none⟩ = some (.slice d2.AF d2.fs.length d2.cF) := HD2b.out.cell 2
  have tl := HD2b.out.lt
  go_wp2_with (refine wpList_at 160 rfl ?_; refine wp_stop ?_)
  try refine ⟨?_⟩
  rw [← Hw22.out, ← Hg2'.out]
  go_wp2_with fail
  refine Hsm.out.mono ?_
  rintro e w23 ⟨rfl, hb23⟩
  have HF := Lib.hid (HB22.out.trans (hb23.mono HB22.out.size))
  clear hb23 Hsm
  go_wp2_with fail
  go_ret
  exact ⟨rfl, HF.out⟩
end Go.Proofs.Ytadnjfoinmeloaa
