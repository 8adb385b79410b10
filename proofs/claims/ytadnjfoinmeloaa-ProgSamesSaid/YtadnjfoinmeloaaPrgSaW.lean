/- The walk of the law ProgSames. -/
import Derived.Test.YtadnjfoinmeloaaPrgKn
import Derived.Test.YtadnjfoinmeloaaPrgKp
import Derived.Test.YtadnjfoinmeloaaPrgTw
namespace Go.Proofs.Ytadnjfoinmeloaa
open Go.RowKit

set_option maxRecDepth 100000 in
set_option maxHeartbeats 4000000 in
theorem progSames_walk (p q : PrgM) (w : World) (hp : PrgAt w p) (hq : PrgAt w q) :
    Calls Try.prog 9 #[.agg #[.int .i64 p.mem, .slice p.AD p.data.length p.cD, .slice p.AF p.fs.length p.cF], .agg #[.int .i64 q.mem, .slice q.AD q.data.length q.cD, .slice q.AF q.fs.length q.cF]] w fun e w' => e = .returned (.bool true) ∧ Below w.heap.size w w' := by
  have Hp := Lib.hid hp
  have Hq := Lib.hid hq
  clear hp hq
  obtain ⟨w1, hw1⟩ : ∃ w1, w1 = (w.alloc (.cells #[.int .i64 p.mem, .slice p.AD p.data.length p.cD, .slice p.AF p.fs.length p.cF] 25)).alloc (.cells #[.int .i64 q.mem, .slice q.AD q.data.length q.cD, .slice q.AF q.fs.length q.cF] 25) := ⟨_, rfl⟩
  have hb1 : Below w.heap.size w w1 := by rw [hw1]; exact ((Below.refl _ _).alloc (Nat.le_refl _) _).alloc (by simp) _
  have hX1 : Blk w1 w.heap.size 25 #[.int .i64 p.mem, .slice p.AD p.data.length p.cD, .slice p.AF p.fs.length p.cF] := by rw [hw1]; exact (Blk.new w _ _).alloc _
  have hY1 : Blk w1 (w.heap.size + 1) 25 #[.int .i64 q.mem, .slice q.AD q.data.length q.cD, .slice q.AF q.fs.length q.cF] := by
    rw [hw1]
    have h := Blk.new (w.alloc (.cells #[.int .i64 p.mem, .slice p.AD p.data.length p.cD, .slice p.AF p.fs.length p.cF] 25)) 25 #[.int .i64 q.mem, .slice q.AD q.data.length q.cD, .slice q.AF q.fs.length q.cF]
    rw [World.size_alloc] at h
    exact h
  have Hb1 := Lib.hid hb1
  have HX1 := Lib.hid hX1
  have HY1 := Lib.hid hY1
  have Hw1 := Lib.hid hw1
  clear hb1 hX1 hY1 hw1
  go_enter Try.func9, Try.ntmps9
  go_wp2_with fail
  rw [← Hw1.out]
  refine (knownP_any _).mono ?_
  rintro e w2 ⟨rfl, hb2⟩
  have Hb2 := Lib.hid (Hb1.out.trans (hb2.mono Hb1.out.size))
  have HX2 := Lib.hid (HX1.out.below hb2 HX1.out.lt)
  have HY2 := Lib.hid (HY1.out.below hb2 HY1.out.lt)
  have x0 : w2.cell? ⟨w.heap.size, 0, none⟩ = some (.int .i64 p.mem) := HX2.out.cell 0
  have x1 : w2.cell? ⟨w.heap.size, 1, none⟩ = some (.slice p.AD p.data.length p.cD) := HX2.out.cell 1
  have x2 : w2.cell? ⟨w.heap.size, 2, none⟩ = some (.slice p.AF p.fs.length p.cF) := HX2.out.cell 2
  have xl := HX2.out.lt
  have Hlend := Lib.hid (lendPrg_any p w2 (Hp.out.below Hb2.out))
  clear hb2 HX1 HY1
  go_wp2_with fail
  refine Hlend.out.mono ?_
  intro e w3 hpost
  obtain ⟨a, gd, gf, rfl, hL, hb3⟩ := hpost
  obtain ⟨w4, hw4⟩ : ∃ w4, w4 = w3.alloc (.cells #[.int .i64 a.mem, .slice a.AD a.data.length a.cD, .slice a.AF a.fs.length a.cF] 25) := ⟨_, rfl⟩
  have hb34 : Below w3.heap.size w3 w4 := by rw [hw4]; exact (Below.refl _ _).alloc (Nat.le_refl _) _
  have hb24 := hb3.trans (hb34.mono hb3.size)
  have HA4 : Hid (Blk w4 w3.heap.size 25 #[.int .i64 a.mem, .slice a.AD a.data.length a.cD, .slice a.AF a.fs.length a.cF]) := by rw [hw4]; exact Lib.hid (Blk.new w3 _ _)
  have HX4 := Lib.hid (HX2.out.below hb24 xl)
  have HY4 := Lib.hid (HY2.out.below hb24 HY2.out.lt)
  have HL4 := Lib.hid (hL.below hb34)
  have HB4 := Lib.hid (Hb2.out.trans (hb24.mono Hb2.out.size))
  have Hw4 := Lib.hid hw4
  clear hL hb3 hw4 hb34 hb24 Hlend x0 x1 x2 xl
  have y0 : w4.cell? ⟨w.heap.size + 1, 0, none⟩ = some (.int .i64 q.mem) := HY4.out.cell 0
  have y1 : w4.cell? ⟨w.heap.size + 1, 1, none⟩ = some (.slice q.AD q.data.length q.cD) := HY4.out.cell 1
  have y2 : w4.cell? ⟨w.heap.size + 1, 2, none⟩ = some (.slice q.AF q.fs.length q.cF) := HY4.out.cell 2
  have yl := HY4.out.lt
  have Hlend := Lib.hid (lendPrg_any q w4 (Hq.out.below HB4.out))
  go_wp2_with (refine wpList_at 12 rfl ?_; refine wp_stop ?_)
  refine ⟨?_⟩
  rw [← Hw4.out]
  go_wp2_with fail
  refine Hlend.out.mono ?_
  intro e w5 hpost
  obtain ⟨b, gd', gf', rfl, hM, hb5⟩ := hpost
  obtain ⟨w6, hw6⟩ : ∃ w6, w6 = w5.alloc (.cells #[.int .i64 b.mem, .slice b.AD b.data.length b.cD, .slice b.AF b.fs.length b.cF] 25) := ⟨_, rfl⟩
  have hb56 : Below w5.heap.size w5 w6 := by rw [hw6]; exact (Below.refl _ _).alloc (Nat.le_refl _) _
  have hb46 := hb5.trans (hb56.mono hb5.size)
  have HB6b : Hid (Blk w6 w5.heap.size 25 #[.int .i64 b.mem, .slice b.AD b.data.length b.cD, .slice b.AF b.fs.length b.cF]) := by rw [hw6]; exact Lib.hid (Blk.new w5 _ _)
  have HX6 := Lib.hid (HX4.out.below hb46 HX4.out.lt)
  have HY6 := Lib.hid (HY4.out.below hb46 yl)
  have HA6 := Lib.hid (HA4.out.below hb46 HA4.out.lt)
  have HL6 := Lib.hid (HL4.out.below (hb46))
  have HM6 := Lib.hid (hM.below hb56)
  have HB6 := Lib.hid (HB4.out.trans (hb46.mono HB4.out.size))
  have Hw6 := Lib.hid hw6
  clear hM hb5 hw6 hb56 hb46 Hlend y0 y1 y2 yl HX2 HY2 HX4 HY4 HA4 HL4
  have a0 : w6.cell? ⟨w3.heap.size, 0, none⟩ = some (.int .i64 a.mem) := HA6.out.cell 0
  have a1 : w6.cell? ⟨w3.heap.size, 1, none⟩ = some (.slice a.AD a.data.length a.cD) := HA6.out.cell 1
  have a2 : w6.cell? ⟨w3.heap.size, 2, none⟩ = some (.slice a.AF a.fs.length a.cF) := HA6.out.cell 2
  have al := HA6.out.lt
  have Htw := Lib.hid (twin_any a w6 (HL6.out.at_ Hp.out))
  go_wp2_with (refine wpList_at 14 rfl ?_; refine wp_stop ?_)
  refine ⟨?_⟩
  rw [← Hw6.out]
  go_wp2_with fail
  refine Htw.out.mono ?_
  intro e w7 hpost
  obtain ⟨t, rfl, hsame, hT, hb7⟩ := hpost
  obtain ⟨w8, hw8⟩ : ∃ w8, w8 = w7.alloc (.cells #[.int .i64 t.mem, .slice t.AD t.data.length t.cD, .slice t.AF t.fs.length t.cF] 25) := ⟨_, rfl⟩
  have hb78 : Below w7.heap.size w7 w8 := by rw [hw8]; exact (Below.refl _ _).alloc (Nat.le_refl _) _
  have hb68 := hb7.trans (hb78.mono hb7.size)
  have HT8b : Hid (Blk w8 w7.heap.size 25 #[.int .i64 t.mem, .slice t.AD t.data.length t.cD, .slice t.AF t.fs.length t.cF]) := by rw [hw8]; exact Lib.hid (Blk.new w7 _ _)
  have HX8 := Lib.hid (HX6.out.below hb68 HX6.out.lt)
  have HY8 := Lib.hid (HY6.out.below hb68 HY6.out.lt)
  have HA8 := Lib.hid (HA6.out.below hb68 HA6.out.lt)
  have HB8b := Lib.hid (HB6b.out.below hb68 HB6b.out.lt)
  have HL8 := Lib.hid (HL6.out.below hb68)
  have HM8 := Lib.hid (HM6.out.below hb68)
  have hpok := Hp.out.ok
  have htp : t.plain = p.plain := hsame.trans HL6.out.same
  have HT8 := Lib.hid ((hT.at_ (by rw [htp]; exact hpok)).below hb78)
  have HB8 := Lib.hid (HB6.out.trans (hb68.mono HB6.out.size))
  have Hw8 := Lib.hid hw8
  have Htp := Lib.hid htp
  clear hT hsame hpok htp hb7 hw8 hb78 hb68 Htw a0 a1 a2 al HX6 HY6 HA6 HB6b
  go_wp2_with (refine wpList_at 16 rfl ?_; refine wp_stop ?_)
  rw [← Hw8.out]
  have Hp8 := Lib.hid (Hp.out.below HB8.out)
  have Hq8 := Lib.hid (Hq.out.below HB8.out)
  have Ha8 := Lib.hid (HL8.out.at_ Hp.out)
  have Hb8 := Lib.hid (HM8.out.at_ Hq.out)
  have xl := HX8.out.lt
  have yl := HY8.out.lt
  have al := HA8.out.lt
  have bl := HB8b.out.lt
  have tl := HT8b.out.lt
  have c0 : ∀ x : BW w8.heap.size w8, x.w.cell? ⟨w.heap.size, 0, none⟩ = some (.int .i64 p.mem) := fun x => (x.blk HX8.out xl).cell 0
  have c1 : ∀ x : BW w8.heap.size w8, x.w.cell? ⟨w.heap.size, 1, none⟩ = some (.slice p.AD p.data.length p.cD) := fun x => (x.blk HX8.out xl).cell 1
  have c2 : ∀ x : BW w8.heap.size w8, x.w.cell? ⟨w.heap.size, 2, none⟩ = some (.slice p.AF p.fs.length p.cF) := fun x => (x.blk HX8.out xl).cell 2
  have d0 : ∀ x : BW w8.heap.size w8, x.w.cell? ⟨w.heap.size + 1, 0, none⟩ = some (.int .i64 q.mem) := fun x => (x.blk HY8.out yl).cell 0
  have d1 : ∀ x : BW w8.heap.size w8, x.w.cell? ⟨w.heap.size + 1, 1, none⟩ = some (.slice q.AD q.data.length q.cD) := fun x => (x.blk HY8.out yl).cell 1
  have d2 : ∀ x : BW w8.heap.size w8, x.w.cell? ⟨w.heap.size + 1, 2, none⟩ = some (.slice q.AF q.fs.length q.cF) := fun x => (x.blk HY8.out yl).cell 2
  have f0 : ∀ x : BW w8.heap.size w8, x.w.cell? ⟨w3.heap.size, 0, none⟩ = some (.int .i64 a.mem) := fun x => (x.blk HA8.out al).cell 0
  have f1 : ∀ x : BW w8.heap.size w8, x.w.cell? ⟨w3.heap.size, 1, none⟩ = some (.slice a.AD a.data.length a.cD) := fun x => (x.blk HA8.out al).cell 1
  have f2 : ∀ x : BW w8.heap.size w8, x.w.cell? ⟨w3.heap.size, 2, none⟩ = some (.slice a.AF a.fs.length a.cF) := fun x => (x.blk HA8.out al).cell 2
  have g0 : ∀ x : BW w8.heap.size w8, x.w.cell? ⟨w5.heap.size, 0, none⟩ = some (.int .i64 b.mem) := fun x => (x.blk HB8b.out bl).cell 0
  have g1 : ∀ x : BW w8.heap.size w8, x.w.cell? ⟨w5.heap.size, 1, none⟩ = some (.slice b.AD b.data.length b.cD) := fun x => (x.blk HB8b.out bl).cell 1
  have g2 : ∀ x : BW w8.heap.size w8, x.w.cell? ⟨w5.heap.size, 2, none⟩ = some (.slice b.AF b.fs.length b.cF) := fun x => (x.blk HB8b.out bl).cell 2
  have h0 : ∀ x : BW w8.heap.size w8, x.w.cell? ⟨w7.heap.size, 0, none⟩ = some (.int .i64 t.mem) := fun x => (x.blk HT8b.out tl).cell 0
  have h1 : ∀ x : BW w8.heap.size w8, x.w.cell? ⟨w7.heap.size, 1, none⟩ = some (.slice t.AD t.data.length t.cD) := fun x => (x.blk HT8b.out tl).cell 1
  have h2 : ∀ x : BW w8.heap.size w8, x.w.cell? ⟨w7.heap.size, 2, none⟩ = some (.slice t.AF t.fs.length t.cF) := fun x => (x.blk HT8b.out tl).cell 2
  obtain ⟨S, hS⟩ : ∃ S, S = sameP p.plain q.plain := ⟨_, rfl⟩
  have hS' : sameP q.plain p.plain = S := by
    rw [hS]
    cases h1 : sameP p.plain q.plain with
    | true => rw [← (sameP_iff _ _).1 h1]; exact (sameP_iff _ _).2 rfl
    | false =>
      cases h2 : sameP q.plain p.plain with
      | false => rfl
      | true => rw [(sameP_iff _ _).1 h2, (sameP_iff _ _).2 rfl] at h1; cases h1
  have Hab : Hid (∀ x : BW w8.heap.size w8, Calls Try.prog 25 #[a.val, b.val] x.w fun e w' => e = .returned (.bool S) ∧ Below x.w.heap.size x.w w') := Lib.hid fun x => by
    have h := sameP_any a b x.w (Ha8.out.below x.h) (Hb8.out.below x.h)
    rwa [HL8.out.same, HM8.out.same, ← hS] at h
  have Hba : Hid (∀ x : BW w8.heap.size w8, Calls Try.prog 25 #[b.val, a.val] x.w fun e w' => e = .returned (.bool S) ∧ Below x.w.heap.size x.w w') := Lib.hid fun x => by
    have h := sameP_any b a x.w (Hb8.out.below x.h) (Ha8.out.below x.h)
    rwa [HL8.out.same, HM8.out.same, hS'] at h
  have Hpq : Hid (∀ x : BW w8.heap.size w8, Calls Try.prog 21 #[p.val, q.val] x.w fun e w' => e = .returned (.bool S) ∧ Below x.w.heap.size x.w w') := Lib.hid fun x => by
    have h := refSameP_any p q x.w (Hp8.out.below x.h) (Hq8.out.below x.h)
    rwa [← hS] at h
  have Hat : Hid (∀ x : BW w8.heap.size w8, Calls Try.prog 25 #[a.val, t.val] x.w fun e w' => e = .returned (.bool true) ∧ Below x.w.heap.size x.w w') := Lib.hid fun x => by
    have h := sameP_any a t x.w (Ha8.out.below x.h) (HT8.out.below x.h)
    rwa [HL8.out.same, Htp.out, (sameP_iff _ _).2 rfl] at h
  have Htq : Hid (∀ x : BW w8.heap.size w8, Calls Try.prog 21 #[t.val, p.val] x.w fun e w' => e = .returned (.bool true) ∧ Below x.w.heap.size x.w w') := Lib.hid fun x => by
    have h := refSameP_any t p x.w (HT8.out.below x.h) (Hp8.out.below x.h)
    rwa [Htp.out, (sameP_iff _ _).2 rfl] at h
  have Hk1 : Hid (∀ x : BW w8.heap.size w8, Calls Try.prog 15 #[a.val, p.val] x.w fun e w' => e = .returned (.bool true) ∧ Below x.w.heap.size x.w w') := Lib.hid fun x => keptPrg_any p a _ gd gf x.w (HL8.out.below x.h) (Hp8.out.below x.h)
  have Hk2 : Hid (∀ x : BW w8.heap.size w8, Calls Try.prog 15 #[b.val, q.val] x.w fun e w' => e = .returned (.bool true) ∧ Below x.w.heap.size x.w w') := Lib.hid fun x => keptPrg_any q b _ gd' gf' x.w (HM8.out.below x.h) (Hq8.out.below x.h)
  clear hS hS'
  refine region_inB w8.heap.size w8 (Below.refl _ _) (by kernel_rfl) (by kernel_rfl) ?_
  repeat (go_big_quiet_step (with_reducible first | exact Calls.inBat _ (Hab.out _) (Nat.le_refl _) | exact Calls.inBat _ (Hba.out _) (Nat.le_refl _) | exact Calls.inBat _ (Hpq.out _) (Nat.le_refl _) | exact Calls.inBat _ (Hat.out _) (Nat.le_refl _) | exact Calls.inBat _ (Htq.out _) (Nat.le_refl _) | exact Calls.inBat _ (Hk1.out _) (Nat.le_refl _) | exact Calls.inBat _ (Hk2.out _) (Nat.le_refl _)))
  refine wpQuiet_nil ?_
  intro w9 hb9
  have HF9 := Lib.hid (HB8.out.trans (hb9.mono HB8.out.size))
  clear hb9
  go_wp2_with fail
  go_ret
  exact ⟨rfl, HF9.out⟩
end Go.Proofs.Ytadnjfoinmeloaa
