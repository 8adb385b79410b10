/- The walk of the law ProgEncodes. -/
import Derived.Test.YtadnjfoinmeloaaPrgKn
import Derived.Test.YtadnjfoinmeloaaPrgKp
import Derived.Test.YtadnjfoinmeloaaPrgEw
import Derived.Test.YtadnjfoinmeloaaPrgRe
namespace Go.Proofs.Ytadnjfoinmeloaa
open Go.RowKit

set_option maxRecDepth 100000 in
set_option maxHeartbeats 2000000 in
theorem progEncodes_walk (p : PrgM) (w : World) (hp : PrgAt w p) :
    Calls Try.prog 4 #[.agg #[.int .i64 p.mem, .slice p.AD p.data.length p.cD, .slice p.AF p.fs.length p.cF]] w fun e w' => e = .returned (.bool true) ∧ Below w.heap.size w w' := by
  have Hp := Lib.hid hp
  clear hp
  obtain ⟨w1, hw1⟩ : ∃ w1, w1 = w.alloc (.cells #[.int .i64 p.mem, .slice p.AD p.data.length p.cD, .slice p.AF p.fs.length p.cF] 25) := ⟨_, rfl⟩
  have hb1 : Below w.heap.size w w1 := by rw [hw1]; exact (Below.refl _ _).alloc (Nat.le_refl _) _
  have hX1 : Blk w1 w.heap.size 25 #[.int .i64 p.mem, .slice p.AD p.data.length p.cD, .slice p.AF p.fs.length p.cF] := by rw [hw1]; exact Blk.new w _ _
  have Hb1 := Lib.hid hb1
  have HX1 := Lib.hid hX1
  have Hw1 := Lib.hid hw1
  clear hb1 hX1 hw1
  go_enter Try.func4, Try.ntmps4
  go_wp2_with fail
  rw [← Hw1.out]
  refine (knownP_any _).mono ?_
  rintro e w2 ⟨rfl, hb2⟩
  have hX2 := HX1.out.below hb2 HX1.out.lt
  have Hb2 := Lib.hid (Hb1.out.trans (hb2.mono Hb1.out.size))
  have hxl := hX2.lt
  have x0 : w2.cell? ⟨w.heap.size, 0, none⟩ = some (.int .i64 p.mem) := hX2.cell 0
  have x1 : w2.cell? ⟨w.heap.size, 1, none⟩ = some (.slice p.AD p.data.length p.cD) := hX2.cell 1
  have x2 : w2.cell? ⟨w.heap.size, 2, none⟩ = some (.slice p.AF p.fs.length p.cF) := hX2.cell 2
  have HX2 := Lib.hid hX2
  clear hb2 hX2 HX1
  have Hlend := Lib.hid (lendPrg_any p w2 (Hp.out.below Hb2.out))
  go_wp2_with fail
  refine Hlend.out.mono ?_
  intro e w3 hpost
  obtain ⟨q, gd, gf, rfl, hL, hb3⟩ := hpost
  obtain ⟨w4, hw4⟩ : ∃ w4, w4 = w3.alloc (.cells #[.int .i64 q.mem, .slice q.AD q.data.length q.cD, .slice q.AF q.fs.length q.cF] 25) := ⟨_, rfl⟩
  have hb34 : Below w3.heap.size w3 w4 := by rw [hw4]; exact (Below.refl _ _).alloc (Nat.le_refl _) _
  have hY4 : Blk w4 w3.heap.size 25 #[.int .i64 q.mem, .slice q.AD q.data.length q.cD, .slice q.AF q.fs.length q.cF] := by rw [hw4]; exact Blk.new w3 _ _
  have hX4 := (HX2.out.below hb3 hxl).below hb34 (HX2.out.below hb3 hxl).lt
  have hL4 := hL.below hb34
  have hB4 := (Hb2.out.trans (hb3.mono Hb2.out.size)).trans (hb34.mono (Hb2.out.trans (hb3.mono Hb2.out.size)).size)
  have HX4 := Lib.hid hX4
  have HY4 := Lib.hid hY4
  have HL4 := Lib.hid hL4
  have HB4 := Lib.hid hB4
  have Hw4 := Lib.hid hw4
  clear hL hb3 hw4 hb34 hY4 hX4 hL4 hB4 Hlend x0 x1 x2
  obtain ⟨E, hE⟩ : ∃ E, E = encP p.plain := ⟨_, rfl⟩
  have hen := pEncode_any q w4 (HL4.out.at_ Hp.out)
  rw [HL4.out.same, ← hE] at hen
  have Hen := Lib.hid hen
  have HE := Lib.hid hE
  have hxl4 := HX4.out.lt
  have hyl4 := HY4.out.lt
  have d0 : w4.cell? ⟨w3.heap.size, 0, none⟩ = some (.int .i64 q.mem) := HY4.out.cell 0
  have d1 : w4.cell? ⟨w3.heap.size, 1, none⟩ = some (.slice q.AD q.data.length q.cD) := HY4.out.cell 1
  have d2 : w4.cell? ⟨w3.heap.size, 2, none⟩ = some (.slice q.AF q.fs.length q.cF) := HY4.out.cell 2
  clear hen hE
  go_wp2_with (refine wpList_at 13 rfl ?_; refine wp_stop ?_)
  refine ⟨?_⟩
  rw [← Hw4.out]
  go_wp2_with fail
  refine Hen.out.mono ?_
  intro e w5 hpost
  obtain ⟨A5, c5, rfl, hown5, hb5⟩ := hpost
  dsimp only at hown5 ⊢
  have HB5 := Lib.hid (HB4.out.trans (hb5.mono HB4.out.size))
  have HX5 := Lib.hid (HX4.out.below hb5 hxl4)
  have HY5 := Lib.hid (HY4.out.below hb5 hyl4)
  have HL5 := Lib.hid (HL4.out.below hb5)
  have Hs5 := Lib.hid (Sl.of_own hown5)
  have hxl5 := HX5.out.lt
  have d0 : w5.cell? ⟨w.heap.size, 0, none⟩ = some (.int .i64 p.mem) := HX5.out.cell 0
  have d1 : w5.cell? ⟨w.heap.size, 1, none⟩ = some (.slice p.AD p.data.length p.cD) := HX5.out.cell 1
  have d2 : w5.cell? ⟨w.heap.size, 2, none⟩ = some (.slice p.AF p.fs.length p.cF) := HX5.out.cell 2
  have hre := refEncodeP_any p w5 (Hp.out.below HB5.out)
  rw [← HE.out] at hre
  have Hre := Lib.hid hre
  clear hre hown5 hb5 Hen
  go_wp2_with fail
  refine Hre.out.mono ?_
  intro e w6 hpost
  obtain ⟨A6, c6, rfl, hown6, hb6⟩ := hpost
  dsimp only at hown6 ⊢
  have HB6 := Lib.hid (HB5.out.trans (hb6.mono HB5.out.size))
  have HX6 := Lib.hid (HX5.out.below hb6 hxl5)
  have HY6 := Lib.hid (HY5.out.below hb6 HY5.out.lt)
  have HL6 := Lib.hid (HL5.out.below hb6)
  have Hs6 := Lib.hid (Sl.of_own hown6)
  have Hs56 := Lib.hid (Hs5.out.below hb6)
  have hxl6 := HX6.out.lt
  have hyl6 := HY6.out.lt
  have d0 : w6.cell? ⟨w.heap.size, 0, none⟩ = some (.int .i64 p.mem) := HX6.out.cell 0
  have d1 : w6.cell? ⟨w.heap.size, 1, none⟩ = some (.slice p.AD p.data.length p.cD) := HX6.out.cell 1
  have d2 : w6.cell? ⟨w.heap.size, 2, none⟩ = some (.slice p.AF p.fs.length p.cF) := HX6.out.cell 2
  have g0 : w6.cell? ⟨w3.heap.size, 0, none⟩ = some (.int .i64 q.mem) := HY6.out.cell 0
  have g1 : w6.cell? ⟨w3.heap.size, 1, none⟩ = some (.slice q.AD q.data.length q.cD) := HY6.out.cell 1
  have g2 : w6.cell? ⟨w3.heap.size, 2, none⟩ = some (.slice q.AF q.fs.length q.cF) := HY6.out.cell 2
  have Hkp := Lib.hid (keptPrg_any p q _ gd gf w6 HL6.out (Hp.out.below HB6.out))
  obtain ⟨X, F⟩ := E
  dsimp only at Hs6 Hs56 ⊢
  clear hown6 hb6 Hre HE
  go_wp2_with (first
    | (refine wpList_at 23 rfl ?_; refine wpList_bytesStrG rfl (.tmp 22) (A := A5) (c := c5) (ys := X) rfl rfl Hs56.out.rv Try.underlying22 Try.underlying5 Try.underlying9 ?_)
    | (refine wpList_at 25 rfl ?_; refine wpList_bytesStrG rfl (.tmp 24) (A := A6) (c := c6) (ys := X) rfl rfl Hs6.out.rv Try.underlying22 Try.underlying5 Try.underlying9 ?_))
  refine Hkp.out.mono ?_
  rintro e w9 ⟨rfl, hb9⟩
  have HF9 := Lib.hid (HB6.out.trans (hb9.mono HB6.out.size))
  clear hb9
  go_wp2_with fail
  go_ret
  exact ⟨rfl, HF9.out⟩
end Go.Proofs.Ytadnjfoinmeloaa
