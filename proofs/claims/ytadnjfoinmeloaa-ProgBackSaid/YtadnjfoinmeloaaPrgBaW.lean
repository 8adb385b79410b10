/- The walk of the law ProgBack (printed by gen_pback.py). -/
import Derived.Test.YtadnjfoinmeloaaPrgKn
import Derived.Test.YtadnjfoinmeloaaPrgRs
import Derived.Test.YtadnjfoinmeloaaPrgFL
import Derived.Test.YtadnjfoinmeloaaInB
namespace Go.Proofs.Ytadnjfoinmeloaa
open Go.RowKit

theorem encP_cases (p : Prg) : (¬ checkL p = 0 ∧ encP p = ([], checkL p)) ∨ (checkL p = 0 ∧ encP p = ([], 2)) ∨ (checkL p = 0 ∧ encP p = (progL p, 0) ∧ (progL p).length ≤ 1048576) := by
  unfold encP
  by_cases hc : checkL p = 0
  · rw [if_pos hc]
    by_cases hl : 1048576 < (progL p).length
    · rw [if_pos hl]; exact .inr (.inl ⟨hc, rfl⟩)
    · rw [if_neg hl]; exact .inr (.inr ⟨hc, rfl, by omega⟩)
  · rw [if_neg hc]; exact .inl ⟨hc, rfl⟩
theorem PrgAt.okI {w : World} {p : PrgM} (h : PrgAt w p) : ∀ f ∈ p.plain.fs, ∀ i ∈ f.code, InsOk i := by
  intro f hf i hi
  obtain ⟨g, hg, rfl⟩ := List.mem_map.1 hf
  exact (h.funs g hg).ok i hi
set_option maxRecDepth 100000 in
set_option maxHeartbeats 4000000 in
theorem progBack_walk (p q : PrgM) (w : World) (hp : PrgAt w p) (hq : PrgAt w q) :
    Calls Try.prog 6 #[p.val, q.val] w fun e w' => e = .returned (.bool true) ∧ Below w.heap.size w w' := by
  have hpok := hp.okI
  have hqok := hq.okI
  have hcp := encP_cases p.plain
  have hfq : ∃ Y F, encP q.plain = (Y, F) ∧ (F = 0 ∨ (¬ F = 0 ∧ Y = [])) := by
    refine ⟨_, _, rfl, ?_⟩
    rcases encP_snd q.plain with h | h
    · exact .inl h
    · by_cases hz : (encP q.plain).2 = 0
      · exact .inl hz
      · exact .inr ⟨hz, h⟩
  obtain ⟨Y, F, hencq, hF⟩ := hfq
  have Hp := Lib.hid hp
  have Hq := Lib.hid hq
  have Hpok := Lib.hid hpok
  have Hqok := Lib.hid hqok
  have Hcp := Lib.hid hcp
  have Hencq := Lib.hid hencq
  have HF := Lib.hid hF
  clear hp hq hpok hqok hcp hencq hF
  obtain ⟨w0, hw0⟩ : ∃ w0, w0 = (w.alloc (.cells #[.int .i64 p.mem, .slice p.AD p.data.length p.cD, .slice p.AF p.fs.length p.cF] 25)).alloc (.cells #[.int .i64 q.mem, .slice q.AD q.data.length q.cD, .slice q.AF q.fs.length q.cF] 25) := ⟨_, rfl⟩
  have hb0 : Below w.heap.size w w0 := by rw [hw0]; exact ((Below.refl _ _).alloc (Nat.le_refl _) _).alloc (by simp) _
  have hA0 : Blk w0 w.heap.size 25 #[.int .i64 p.mem, .slice p.AD p.data.length p.cD, .slice p.AF p.fs.length p.cF] := by rw [hw0]; exact (Blk.new w _ _).alloc _
  have hB0 : Blk w0 (w.heap.size + 1) 25 #[.int .i64 q.mem, .slice q.AD q.data.length q.cD, .slice q.AF q.fs.length q.cF] := by
    rw [hw0]
    have h := Blk.new (w.alloc (.cells #[.int .i64 p.mem, .slice p.AD p.data.length p.cD, .slice p.AF p.fs.length p.cF] 25)) 25 #[.int .i64 q.mem, .slice q.AD q.data.length q.cD, .slice q.AF q.fs.length q.cF]
    rw [World.size_alloc] at h
    exact h
  have Hw0 := Lib.hid hw0
  have Hb0 := Lib.hid hb0
  have HA0 := Lib.hid hA0
  have HB0 := Lib.hid hB0
  clear hw0 hb0 hA0 hB0
  go_enter Try.func6, Try.ntmps6
  go_wp2_with fail
  rw [← Hw0.out]
  refine (knownP_any _).mono ?_
  rintro e w1 ⟨rfl, hb1⟩
  clear Hw0
  have Hb1 := Lib.hid (Hb0.out.trans (hb1.mono Hb0.out.size))
  have HA1 := Lib.hid (HA0.out.below hb1 HA0.out.lt)
  have HB1 := Lib.hid (HB0.out.below hb1 HB0.out.lt)
  clear hb1 HA0 HB0 Hb0
  have a0 : w1.cell? ⟨w.heap.size, 0, none⟩ = some (.int .i64 p.mem) := HA1.out.cell 0
  have b0 : w1.cell? ⟨w.heap.size + 1, 0, none⟩ = some (.int .i64 q.mem) := HB1.out.cell 0
  have a1 : w1.cell? ⟨w.heap.size, 1, none⟩ = some (.slice p.AD p.data.length p.cD) := HA1.out.cell 1
  have b1 : w1.cell? ⟨w.heap.size + 1, 1, none⟩ = some (.slice q.AD q.data.length q.cD) := HB1.out.cell 1
  have a2 : w1.cell? ⟨w.heap.size, 2, none⟩ = some (.slice p.AF p.fs.length p.cF) := HA1.out.cell 2
  have b2 : w1.cell? ⟨w.heap.size + 1, 2, none⟩ = some (.slice q.AF q.fs.length q.cF) := HB1.out.cell 2
  have la := HA1.out.lt
  have lb := HB1.out.lt
  have hen := pEncode_any p w1 (Hp.out.below Hb1.out)
  obtain ⟨X, E, hXE⟩ : ∃ X E, encP p.plain = (X, E) := ⟨_, _, rfl⟩
  rw [hXE] at hen
  have Hen := Lib.hid hen
  have HXE := Lib.hid hXE
  clear hen hXE
  go_wp2_with fail
  refine Hen.out.mono ?_
  intro e w2 hpost
  obtain ⟨A2, c2, rfl, hown2, hb2⟩ := hpost
  dsimp only at hown2 ⊢
  have HO2 := Lib.hid (Sl.of_own hown2)
  clear hown2 Hen
  have Hb2 := Lib.hid (Hb1.out.trans (hb2.mono Hb1.out.size))
  have HA2 := Lib.hid (HA1.out.below hb2 HA1.out.lt)
  have HB2 := Lib.hid (HB1.out.below hb2 HB1.out.lt)
  clear a0 a1 a2 b0 b1 b2 la lb
  clear hb2 HA1 HB1 Hb1
  have a0 : w2.cell? ⟨w.heap.size, 0, none⟩ = some (.int .i64 p.mem) := HA2.out.cell 0
  have b0 : w2.cell? ⟨w.heap.size + 1, 0, none⟩ = some (.int .i64 q.mem) := HB2.out.cell 0
  have a1 : w2.cell? ⟨w.heap.size, 1, none⟩ = some (.slice p.AD p.data.length p.cD) := HA2.out.cell 1
  have b1 : w2.cell? ⟨w.heap.size + 1, 1, none⟩ = some (.slice q.AD q.data.length q.cD) := HB2.out.cell 1
  have a2 : w2.cell? ⟨w.heap.size, 2, none⟩ = some (.slice p.AF p.fs.length p.cF) := HA2.out.cell 2
  have b2 : w2.cell? ⟨w.heap.size + 1, 2, none⟩ = some (.slice q.AF q.fs.length q.cF) := HB2.out.cell 2
  have la := HA2.out.lt
  have lb := HB2.out.lt
  have hen := pEncode_any q w2 (Hq.out.below Hb2.out)
  rw [Hencq.out] at hen
  have Hen := Lib.hid hen
  clear hen
  go_wp2_with fail
  refine Hen.out.mono ?_
  intro e w3 hpost
  obtain ⟨A3, c3, rfl, hown3, hb3⟩ := hpost
  dsimp only at hown3 ⊢
  have HX3 := Lib.hid (HO2.out.below hb3)
  have HY3 := Lib.hid (Sl.of_own hown3)
  clear hown3 Hen HO2
  have Hb3 := Lib.hid (Hb2.out.trans (hb3.mono Hb2.out.size))
  have HA3 := Lib.hid (HA2.out.below hb3 HA2.out.lt)
  have HB3 := Lib.hid (HB2.out.below hb3 HB2.out.lt)
  clear a0 a1 a2 b0 b1 b2 la lb
  clear hb3 HA2 HB2 Hb2
  have a0 : w3.cell? ⟨w.heap.size, 0, none⟩ = some (.int .i64 p.mem) := HA3.out.cell 0
  have b0 : w3.cell? ⟨w.heap.size + 1, 0, none⟩ = some (.int .i64 q.mem) := HB3.out.cell 0
  have a1 : w3.cell? ⟨w.heap.size, 1, none⟩ = some (.slice p.AD p.data.length p.cD) := HA3.out.cell 1
  have b1 : w3.cell? ⟨w.heap.size + 1, 1, none⟩ = some (.slice q.AD q.data.length q.cD) := HB3.out.cell 1
  have a2 : w3.cell? ⟨w.heap.size, 2, none⟩ = some (.slice p.AF p.fs.length p.cF) := HA3.out.cell 2
  have b2 : w3.cell? ⟨w.heap.size + 1, 2, none⟩ = some (.slice q.AF q.fs.length q.cF) := HB3.out.cell 2
  have la := HA3.out.lt
  have lb := HB3.out.lt
  rcases Hcp.out with ⟨hC, hXE⟩ | ⟨hC, hXE⟩ | ⟨hC, hXE, hXl⟩
  · rw [HXE.out] at hXE
    injection hXE with e1 e2
    subst e1
    obtain ⟨C, hCe⟩ : ∃ C, C = checkL p.plain := ⟨_, rfl⟩
    rw [← hCe] at hC e2
    subst e2
    have hC0 := hC
    have c1' : (E == 0) = false := by simpa using hC0
    have c2' : (E != 0) = true := by simpa using hC0
    have hC := hCe.symm
    have HCe := Lib.hid hCe
    clear hCe
    rcases HF.out with hF0 | ⟨hF0, hY⟩
    · subst hF0
      have hck := check_any p w3 (Hp.out.below Hb3.out)
      rw [hC] at hck
      have Hck := Lib.hid hck
      clear hck
      clear hC
      go_wp2_with fail
      refine Hck.out.mono ?_
      rintro e w4 ⟨rfl, hb4⟩
      clear Hck
      have Hb4 := Lib.hid (Hb3.out.trans (hb4.mono Hb3.out.size))
      have HA4 := Lib.hid (HA3.out.below hb4 HA3.out.lt)
      have HB4 := Lib.hid (HB3.out.below hb4 HB3.out.lt)
      clear a0 a1 a2 b0 b1 b2 la lb
      clear hb4 HA3 HB3 Hb3
      have a0 : w4.cell? ⟨w.heap.size, 0, none⟩ = some (.int .i64 p.mem) := HA4.out.cell 0
      have b0 : w4.cell? ⟨w.heap.size + 1, 0, none⟩ = some (.int .i64 q.mem) := HB4.out.cell 0
      have a1 : w4.cell? ⟨w.heap.size, 1, none⟩ = some (.slice p.AD p.data.length p.cD) := HA4.out.cell 1
      have b1 : w4.cell? ⟨w.heap.size + 1, 1, none⟩ = some (.slice q.AD q.data.length q.cD) := HB4.out.cell 1
      have a2 : w4.cell? ⟨w.heap.size, 2, none⟩ = some (.slice p.AF p.fs.length p.cF) := HA4.out.cell 2
      have b2 : w4.cell? ⟨w.heap.size + 1, 2, none⟩ = some (.slice q.AF q.fs.length q.cF) := HB4.out.cell 2
      have la := HA4.out.lt
      have lb := HB4.out.lt
      have hC := HCe.out.symm
      have hck := check_any p w4 (Hp.out.below Hb4.out)
      rw [hC] at hck
      have Hck := Lib.hid hck
      clear hck
      go_wp2_with fail
      refine Hck.out.mono ?_
      rintro e w5 ⟨rfl, hb5⟩
      clear Hck
      have Hb5 := Lib.hid (Hb4.out.trans (hb5.mono Hb4.out.size))
      have HA5 := Lib.hid (HA4.out.below hb5 HA4.out.lt)
      have HB5 := Lib.hid (HB4.out.below hb5 HB4.out.lt)
      clear a0 a1 a2 b0 b1 b2 la lb
      clear hb5 HA4 HB4 Hb4
      have a0 : w5.cell? ⟨w.heap.size, 0, none⟩ = some (.int .i64 p.mem) := HA5.out.cell 0
      have b0 : w5.cell? ⟨w.heap.size + 1, 0, none⟩ = some (.int .i64 q.mem) := HB5.out.cell 0
      have a1 : w5.cell? ⟨w.heap.size, 1, none⟩ = some (.slice p.AD p.data.length p.cD) := HA5.out.cell 1
      have b1 : w5.cell? ⟨w.heap.size + 1, 1, none⟩ = some (.slice q.AD q.data.length q.cD) := HB5.out.cell 1
      have a2 : w5.cell? ⟨w.heap.size, 2, none⟩ = some (.slice p.AF p.fs.length p.cF) := HA5.out.cell 2
      have b2 : w5.cell? ⟨w.heap.size + 1, 2, none⟩ = some (.slice q.AF q.fs.length q.cF) := HB5.out.cell 2
      have la := HA5.out.lt
      have lb := HB5.out.lt
      have hC := HCe.out.symm
      have hck := check_any p w5 (Hp.out.below Hb5.out)
      rw [hC] at hck
      have Hck := Lib.hid hck
      clear hck
      go_wp2_with fail
      refine Hck.out.mono ?_
      rintro e w6 ⟨rfl, hb6⟩
      clear Hck
      have Hb6 := Lib.hid (Hb5.out.trans (hb6.mono Hb5.out.size))
      have HA6 := Lib.hid (HA5.out.below hb6 HA5.out.lt)
      have HB6 := Lib.hid (HB5.out.below hb6 HB5.out.lt)
      clear a0 a1 a2 b0 b1 b2 la lb
      clear hb6 HA5 HB5 Hb5
      have a0 : w6.cell? ⟨w.heap.size, 0, none⟩ = some (.int .i64 p.mem) := HA6.out.cell 0
      have b0 : w6.cell? ⟨w.heap.size + 1, 0, none⟩ = some (.int .i64 q.mem) := HB6.out.cell 0
      have a1 : w6.cell? ⟨w.heap.size, 1, none⟩ = some (.slice p.AD p.data.length p.cD) := HA6.out.cell 1
      have b1 : w6.cell? ⟨w.heap.size + 1, 1, none⟩ = some (.slice q.AD q.data.length q.cD) := HB6.out.cell 1
      have a2 : w6.cell? ⟨w.heap.size, 2, none⟩ = some (.slice p.AF p.fs.length p.cF) := HA6.out.cell 2
      have b2 : w6.cell? ⟨w.heap.size + 1, 2, none⟩ = some (.slice q.AF q.fs.length q.cF) := HB6.out.cell 2
      have la := HA6.out.lt
      have lb := HB6.out.lt
      go_wp2_with fail
      go_ret
      exact ⟨rfl, Hb6.out⟩
    · subst hY
      have f1 : (F == 0) = false := by simpa using hF0
      have f2 : (F != 0) = true := by simpa using hF0
      have hck := check_any p w3 (Hp.out.below Hb3.out)
      rw [hC] at hck
      have Hck := Lib.hid hck
      clear hck
      clear hC
      go_wp2_with fail
      refine Hck.out.mono ?_
      rintro e w4 ⟨rfl, hb4⟩
      clear Hck
      have Hb4 := Lib.hid (Hb3.out.trans (hb4.mono Hb3.out.size))
      have HA4 := Lib.hid (HA3.out.below hb4 HA3.out.lt)
      have HB4 := Lib.hid (HB3.out.below hb4 HB3.out.lt)
      clear a0 a1 a2 b0 b1 b2 la lb
      clear hb4 HA3 HB3 Hb3
      have a0 : w4.cell? ⟨w.heap.size, 0, none⟩ = some (.int .i64 p.mem) := HA4.out.cell 0
      have b0 : w4.cell? ⟨w.heap.size + 1, 0, none⟩ = some (.int .i64 q.mem) := HB4.out.cell 0
      have a1 : w4.cell? ⟨w.heap.size, 1, none⟩ = some (.slice p.AD p.data.length p.cD) := HA4.out.cell 1
      have b1 : w4.cell? ⟨w.heap.size + 1, 1, none⟩ = some (.slice q.AD q.data.length q.cD) := HB4.out.cell 1
      have a2 : w4.cell? ⟨w.heap.size, 2, none⟩ = some (.slice p.AF p.fs.length p.cF) := HA4.out.cell 2
      have b2 : w4.cell? ⟨w.heap.size + 1, 2, none⟩ = some (.slice q.AF q.fs.length q.cF) := HB4.out.cell 2
      have la := HA4.out.lt
      have lb := HB4.out.lt
      have hC := HCe.out.symm
      have hck := check_any p w4 (Hp.out.below Hb4.out)
      rw [hC] at hck
      have Hck := Lib.hid hck
      clear hck
      go_wp2_with fail
      refine Hck.out.mono ?_
      rintro e w5 ⟨rfl, hb5⟩
      clear Hck
      have Hb5 := Lib.hid (Hb4.out.trans (hb5.mono Hb4.out.size))
      have HA5 := Lib.hid (HA4.out.below hb5 HA4.out.lt)
      have HB5 := Lib.hid (HB4.out.below hb5 HB4.out.lt)
      clear a0 a1 a2 b0 b1 b2 la lb
      clear hb5 HA4 HB4 Hb4
      have a0 : w5.cell? ⟨w.heap.size, 0, none⟩ = some (.int .i64 p.mem) := HA5.out.cell 0
      have b0 : w5.cell? ⟨w.heap.size + 1, 0, none⟩ = some (.int .i64 q.mem) := HB5.out.cell 0
      have a1 : w5.cell? ⟨w.heap.size, 1, none⟩ = some (.slice p.AD p.data.length p.cD) := HA5.out.cell 1
      have b1 : w5.cell? ⟨w.heap.size + 1, 1, none⟩ = some (.slice q.AD q.data.length q.cD) := HB5.out.cell 1
      have a2 : w5.cell? ⟨w.heap.size, 2, none⟩ = some (.slice p.AF p.fs.length p.cF) := HA5.out.cell 2
      have b2 : w5.cell? ⟨w.heap.size + 1, 2, none⟩ = some (.slice q.AF q.fs.length q.cF) := HB5.out.cell 2
      have la := HA5.out.lt
      have lb := HB5.out.lt
      have hC := HCe.out.symm
      have hck := check_any p w5 (Hp.out.below Hb5.out)
      rw [hC] at hck
      have Hck := Lib.hid hck
      clear hck
      go_wp2_with fail
      refine Hck.out.mono ?_
      rintro e w6 ⟨rfl, hb6⟩
      clear Hck
      have Hb6 := Lib.hid (Hb5.out.trans (hb6.mono Hb5.out.size))
      have HA6 := Lib.hid (HA5.out.below hb6 HA5.out.lt)
      have HB6 := Lib.hid (HB5.out.below hb6 HB5.out.lt)
      clear a0 a1 a2 b0 b1 b2 la lb
      clear hb6 HA5 HB5 Hb5
      have a0 : w6.cell? ⟨w.heap.size, 0, none⟩ = some (.int .i64 p.mem) := HA6.out.cell 0
      have b0 : w6.cell? ⟨w.heap.size + 1, 0, none⟩ = some (.int .i64 q.mem) := HB6.out.cell 0
      have a1 : w6.cell? ⟨w.heap.size, 1, none⟩ = some (.slice p.AD p.data.length p.cD) := HA6.out.cell 1
      have b1 : w6.cell? ⟨w.heap.size + 1, 1, none⟩ = some (.slice q.AD q.data.length q.cD) := HB6.out.cell 1
      have a2 : w6.cell? ⟨w.heap.size, 2, none⟩ = some (.slice p.AF p.fs.length p.cF) := HA6.out.cell 2
      have b2 : w6.cell? ⟨w.heap.size + 1, 2, none⟩ = some (.slice q.AF q.fs.length q.cF) := HB6.out.cell 2
      have la := HA6.out.lt
      have lb := HB6.out.lt
      go_wp2_with fail
      go_ret
      exact ⟨rfl, Hb6.out⟩
  · rw [HXE.out] at hXE
    injection hXE with e1 e2
    subst e1 e2
    have HCe := Lib.hid hC
    rcases HF.out with hF0 | ⟨hF0, hY⟩
    · subst hF0
      have hck := check_any p w3 (Hp.out.below Hb3.out)
      rw [hC] at hck
      have Hck := Lib.hid hck
      clear hck
      clear hC
      go_wp2_with fail
      refine Hck.out.mono ?_
      rintro e w4 ⟨rfl, hb4⟩
      clear Hck
      have Hb4 := Lib.hid (Hb3.out.trans (hb4.mono Hb3.out.size))
      have HA4 := Lib.hid (HA3.out.below hb4 HA3.out.lt)
      have HB4 := Lib.hid (HB3.out.below hb4 HB3.out.lt)
      clear a0 a1 a2 b0 b1 b2 la lb
      clear hb4 HA3 HB3 Hb3
      have a0 : w4.cell? ⟨w.heap.size, 0, none⟩ = some (.int .i64 p.mem) := HA4.out.cell 0
      have b0 : w4.cell? ⟨w.heap.size + 1, 0, none⟩ = some (.int .i64 q.mem) := HB4.out.cell 0
      have a1 : w4.cell? ⟨w.heap.size, 1, none⟩ = some (.slice p.AD p.data.length p.cD) := HA4.out.cell 1
      have b1 : w4.cell? ⟨w.heap.size + 1, 1, none⟩ = some (.slice q.AD q.data.length q.cD) := HB4.out.cell 1
      have a2 : w4.cell? ⟨w.heap.size, 2, none⟩ = some (.slice p.AF p.fs.length p.cF) := HA4.out.cell 2
      have b2 : w4.cell? ⟨w.heap.size + 1, 2, none⟩ = some (.slice q.AF q.fs.length q.cF) := HB4.out.cell 2
      have la := HA4.out.lt
      have lb := HB4.out.lt
      have hC := HCe.out
      have hck := check_any p w4 (Hp.out.below Hb4.out)
      rw [hC] at hck
      have Hck := Lib.hid hck
      clear hck
      clear hC
      go_wp2_with fail
      refine Hck.out.mono ?_
      rintro e w5 ⟨rfl, hb5⟩
      clear Hck
      have Hb5 := Lib.hid (Hb4.out.trans (hb5.mono Hb4.out.size))
      have HA5 := Lib.hid (HA4.out.below hb5 HA4.out.lt)
      have HB5 := Lib.hid (HB4.out.below hb5 HB4.out.lt)
      clear a0 a1 a2 b0 b1 b2 la lb
      clear hb5 HA4 HB4 Hb4
      have a0 : w5.cell? ⟨w.heap.size, 0, none⟩ = some (.int .i64 p.mem) := HA5.out.cell 0
      have b0 : w5.cell? ⟨w.heap.size + 1, 0, none⟩ = some (.int .i64 q.mem) := HB5.out.cell 0
      have a1 : w5.cell? ⟨w.heap.size, 1, none⟩ = some (.slice p.AD p.data.length p.cD) := HA5.out.cell 1
      have b1 : w5.cell? ⟨w.heap.size + 1, 1, none⟩ = some (.slice q.AD q.data.length q.cD) := HB5.out.cell 1
      have a2 : w5.cell? ⟨w.heap.size, 2, none⟩ = some (.slice p.AF p.fs.length p.cF) := HA5.out.cell 2
      have b2 : w5.cell? ⟨w.heap.size + 1, 2, none⟩ = some (.slice q.AF q.fs.length q.cF) := HB5.out.cell 2
      have la := HA5.out.lt
      have lb := HB5.out.lt
      go_wp2_with fail
      go_ret
      exact ⟨rfl, Hb5.out⟩
    · subst hY
      have f1 : (F == 0) = false := by simpa using hF0
      have f2 : (F != 0) = true := by simpa using hF0
      have hck := check_any p w3 (Hp.out.below Hb3.out)
      rw [hC] at hck
      have Hck := Lib.hid hck
      clear hck
      clear hC
      go_wp2_with fail
      refine Hck.out.mono ?_
      rintro e w4 ⟨rfl, hb4⟩
      clear Hck
      have Hb4 := Lib.hid (Hb3.out.trans (hb4.mono Hb3.out.size))
      have HA4 := Lib.hid (HA3.out.below hb4 HA3.out.lt)
      have HB4 := Lib.hid (HB3.out.below hb4 HB3.out.lt)
      clear a0 a1 a2 b0 b1 b2 la lb
      clear hb4 HA3 HB3 Hb3
      have a0 : w4.cell? ⟨w.heap.size, 0, none⟩ = some (.int .i64 p.mem) := HA4.out.cell 0
      have b0 : w4.cell? ⟨w.heap.size + 1, 0, none⟩ = some (.int .i64 q.mem) := HB4.out.cell 0
      have a1 : w4.cell? ⟨w.heap.size, 1, none⟩ = some (.slice p.AD p.data.length p.cD) := HA4.out.cell 1
      have b1 : w4.cell? ⟨w.heap.size + 1, 1, none⟩ = some (.slice q.AD q.data.length q.cD) := HB4.out.cell 1
      have a2 : w4.cell? ⟨w.heap.size, 2, none⟩ = some (.slice p.AF p.fs.length p.cF) := HA4.out.cell 2
      have b2 : w4.cell? ⟨w.heap.size + 1, 2, none⟩ = some (.slice q.AF q.fs.length q.cF) := HB4.out.cell 2
      have la := HA4.out.lt
      have lb := HB4.out.lt
      have hC := HCe.out
      have hck := check_any p w4 (Hp.out.below Hb4.out)
      rw [hC] at hck
      have Hck := Lib.hid hck
      clear hck
      clear hC
      go_wp2_with fail
      refine Hck.out.mono ?_
      rintro e w5 ⟨rfl, hb5⟩
      clear Hck
      have Hb5 := Lib.hid (Hb4.out.trans (hb5.mono Hb4.out.size))
      have HA5 := Lib.hid (HA4.out.below hb5 HA4.out.lt)
      have HB5 := Lib.hid (HB4.out.below hb5 HB4.out.lt)
      clear a0 a1 a2 b0 b1 b2 la lb
      clear hb5 HA4 HB4 Hb4
      have a0 : w5.cell? ⟨w.heap.size, 0, none⟩ = some (.int .i64 p.mem) := HA5.out.cell 0
      have b0 : w5.cell? ⟨w.heap.size + 1, 0, none⟩ = some (.int .i64 q.mem) := HB5.out.cell 0
      have a1 : w5.cell? ⟨w.heap.size, 1, none⟩ = some (.slice p.AD p.data.length p.cD) := HA5.out.cell 1
      have b1 : w5.cell? ⟨w.heap.size + 1, 1, none⟩ = some (.slice q.AD q.data.length q.cD) := HB5.out.cell 1
      have a2 : w5.cell? ⟨w.heap.size, 2, none⟩ = some (.slice p.AF p.fs.length p.cF) := HA5.out.cell 2
      have b2 : w5.cell? ⟨w.heap.size + 1, 2, none⟩ = some (.slice q.AF q.fs.length q.cF) := HB5.out.cell 2
      have la := HA5.out.lt
      have lb := HB5.out.lt
      go_wp2_with fail
      go_ret
      exact ⟨rfl, Hb5.out⟩
  · have hd : decP X = (p.plain, 0) := by
      rw [HXE.out] at hXE
      exact decP_enc Hpok.out (by rw [HXE.out, (Prod.mk.inj hXE).2])
    rw [HXE.out] at hXE
    injection hXE with e1 e2
    subst e1 e2
    have HCe := Lib.hid hC
    have Hd := Lib.hid hd
    have hXI : ¬ (1048576 : Int) < ((progL p.plain).length : Int) := by omega
    clear hd
    generalize progL p.plain = X at *
    rcases HF.out with hF0 | ⟨hF0, hY⟩
    · subst hF0
      have hck := check_any p w3 (Hp.out.below Hb3.out)
      rw [hC] at hck
      have Hck := Lib.hid hck
      clear hck
      clear hC
      go_wp2_with fail
      refine Hck.out.mono ?_
      rintro e w4 ⟨rfl, hb4⟩
      clear Hck
      have HX4 := Lib.hid (HX3.out.below hb4)
      have HY4 := Lib.hid (HY3.out.below hb4)
      have Hb4 := Lib.hid (Hb3.out.trans (hb4.mono Hb3.out.size))
      have HA4 := Lib.hid (HA3.out.below hb4 HA3.out.lt)
      have HB4 := Lib.hid (HB3.out.below hb4 HB3.out.lt)
      clear a0 a1 a2 b0 b1 b2 la lb
      clear hb4 HA3 HB3 Hb3
      have a0 : w4.cell? ⟨w.heap.size, 0, none⟩ = some (.int .i64 p.mem) := HA4.out.cell 0
      have b0 : w4.cell? ⟨w.heap.size + 1, 0, none⟩ = some (.int .i64 q.mem) := HB4.out.cell 0
      have a1 : w4.cell? ⟨w.heap.size, 1, none⟩ = some (.slice p.AD p.data.length p.cD) := HA4.out.cell 1
      have b1 : w4.cell? ⟨w.heap.size + 1, 1, none⟩ = some (.slice q.AD q.data.length q.cD) := HB4.out.cell 1
      have a2 : w4.cell? ⟨w.heap.size, 2, none⟩ = some (.slice p.AF p.fs.length p.cF) := HA4.out.cell 2
      have b2 : w4.cell? ⟨w.heap.size + 1, 2, none⟩ = some (.slice q.AF q.fs.length q.cF) := HB4.out.cell 2
      have la := HA4.out.lt
      have lb := HB4.out.lt
      have hC := HCe.out
      have hck := check_any p w4 (Hp.out.below Hb4.out)
      rw [hC] at hck
      have Hck := Lib.hid hck
      clear hck
      clear hC
      go_wp2_with fail
      refine Hck.out.mono ?_
      rintro e w5 ⟨rfl, hb5⟩
      clear Hck
      have HX5 := Lib.hid (HX4.out.below hb5)
      have HY5 := Lib.hid (HY4.out.below hb5)
      have Hb5 := Lib.hid (Hb4.out.trans (hb5.mono Hb4.out.size))
      have HA5 := Lib.hid (HA4.out.below hb5 HA4.out.lt)
      have HB5 := Lib.hid (HB4.out.below hb5 HB4.out.lt)
      clear a0 a1 a2 b0 b1 b2 la lb
      clear hb5 HA4 HB4 Hb4
      have a0 : w5.cell? ⟨w.heap.size, 0, none⟩ = some (.int .i64 p.mem) := HA5.out.cell 0
      have b0 : w5.cell? ⟨w.heap.size + 1, 0, none⟩ = some (.int .i64 q.mem) := HB5.out.cell 0
      have a1 : w5.cell? ⟨w.heap.size, 1, none⟩ = some (.slice p.AD p.data.length p.cD) := HA5.out.cell 1
      have b1 : w5.cell? ⟨w.heap.size + 1, 1, none⟩ = some (.slice q.AD q.data.length q.cD) := HB5.out.cell 1
      have a2 : w5.cell? ⟨w.heap.size, 2, none⟩ = some (.slice p.AF p.fs.length p.cF) := HA5.out.cell 2
      have b2 : w5.cell? ⟨w.heap.size + 1, 2, none⟩ = some (.slice q.AF q.fs.length q.cF) := HB5.out.cell 2
      have la := HA5.out.lt
      have lb := HB5.out.lt
      have hde := decodeP_any A2 c2 X w5 HX5.out (by omega)
      rw [Hd.out] at hde
      have Hde := Lib.hid hde
      clear hde
      go_wp2_with fail
      refine Hde.out.mono ?_
      intro e w6 hpost
      obtain ⟨pm, hpm, rfl, hown6, hb6⟩ := hpost
      dsimp only at hpm ⊢
      have HX6 := Lib.hid (HX5.out.below hb6)
      have HY6 := Lib.hid (HY5.out.below hb6)
      have Hat6 := Lib.hid hown6.at_
      have Hpm := Lib.hid hpm
      clear hown6 hpm Hde
      have Hb6 := Lib.hid (Hb5.out.trans (hb6.mono Hb5.out.size))
      have HA6 := Lib.hid (HA5.out.below hb6 HA5.out.lt)
      have HB6 := Lib.hid (HB5.out.below hb6 HB5.out.lt)
      clear a0 a1 a2 b0 b1 b2 la lb
      clear hb6 HA5 HB5 Hb5
      have a0 : w6.cell? ⟨w.heap.size, 0, none⟩ = some (.int .i64 p.mem) := HA6.out.cell 0
      have b0 : w6.cell? ⟨w.heap.size + 1, 0, none⟩ = some (.int .i64 q.mem) := HB6.out.cell 0
      have a1 : w6.cell? ⟨w.heap.size, 1, none⟩ = some (.slice p.AD p.data.length p.cD) := HA6.out.cell 1
      have b1 : w6.cell? ⟨w.heap.size + 1, 1, none⟩ = some (.slice q.AD q.data.length q.cD) := HB6.out.cell 1
      have a2 : w6.cell? ⟨w.heap.size, 2, none⟩ = some (.slice p.AF p.fs.length p.cF) := HA6.out.cell 2
      have b2 : w6.cell? ⟨w.heap.size + 1, 2, none⟩ = some (.slice q.AF q.fs.length q.cF) := HB6.out.cell 2
      have la := HA6.out.lt
      have lb := HB6.out.lt
      go_wp2_with fail
      obtain ⟨w7, hw7⟩ : ∃ w7, w7 = w6.alloc (.cells #[.int .i64 pm.mem, .slice pm.AD pm.data.length pm.cD, .slice pm.AF pm.fs.length pm.cF] 25) := ⟨_, rfl⟩
      rw [← hw7]
      have hb7 : Below w6.heap.size w6 w7 := by rw [hw7]; exact (Below.refl _ _).alloc (Nat.le_refl _) _
      have HX7 := Lib.hid (HX6.out.below hb7)
      have HY7 := Lib.hid (HY6.out.below hb7)
      have hsm := refSameP_any pm p w7 (Hat6.out.below hb7) (Hp.out.below (Hb6.out.trans (hb7.mono Hb6.out.size)))
      rw [Hpm.out, show sameP p.plain p.plain = true from (sameP_iff _ _).2 rfl] at hsm
      have Hsm := Lib.hid hsm
      clear hsm hw7
      have Hb7 := Lib.hid (Hb6.out.trans (hb7.mono Hb6.out.size))
      have HA7 := Lib.hid (HA6.out.below hb7 HA6.out.lt)
      have HB7 := Lib.hid (HB6.out.below hb7 HB6.out.lt)
      clear a0 a1 a2 b0 b1 b2 la lb
      clear hb7 HA6 HB6 Hb6
      have a0 : w7.cell? ⟨w.heap.size, 0, none⟩ = some (.int .i64 p.mem) := HA7.out.cell 0
      have b0 : w7.cell? ⟨w.heap.size + 1, 0, none⟩ = some (.int .i64 q.mem) := HB7.out.cell 0
      have a1 : w7.cell? ⟨w.heap.size, 1, none⟩ = some (.slice p.AD p.data.length p.cD) := HA7.out.cell 1
      have b1 : w7.cell? ⟨w.heap.size + 1, 1, none⟩ = some (.slice q.AD q.data.length q.cD) := HB7.out.cell 1
      have a2 : w7.cell? ⟨w.heap.size, 2, none⟩ = some (.slice p.AF p.fs.length p.cF) := HA7.out.cell 2
      have b2 : w7.cell? ⟨w.heap.size + 1, 2, none⟩ = some (.slice q.AF q.fs.length q.cF) := HB7.out.cell 2
      have la := HA7.out.lt
      have lb := HB7.out.lt
      refine Hsm.out.mono ?_
      rintro e w8 ⟨rfl, hb8⟩
      have HX8 := Lib.hid (HX7.out.below hb8)
      have HY8 := Lib.hid (HY7.out.below hb8)
      clear Hsm
      have Hb8 := Lib.hid (Hb7.out.trans (hb8.mono Hb7.out.size))
      have HA8 := Lib.hid (HA7.out.below hb8 HA7.out.lt)
      have HB8 := Lib.hid (HB7.out.below hb8 HB7.out.lt)
      clear a0 a1 a2 b0 b1 b2 la lb
      clear hb8 HA7 HB7 Hb7
      have a0 : w8.cell? ⟨w.heap.size, 0, none⟩ = some (.int .i64 p.mem) := HA8.out.cell 0
      have b0 : w8.cell? ⟨w.heap.size + 1, 0, none⟩ = some (.int .i64 q.mem) := HB8.out.cell 0
      have a1 : w8.cell? ⟨w.heap.size, 1, none⟩ = some (.slice p.AD p.data.length p.cD) := HA8.out.cell 1
      have b1 : w8.cell? ⟨w.heap.size + 1, 1, none⟩ = some (.slice q.AD q.data.length q.cD) := HB8.out.cell 1
      have a2 : w8.cell? ⟨w.heap.size, 2, none⟩ = some (.slice p.AF p.fs.length p.cF) := HA8.out.cell 2
      have b2 : w8.cell? ⟨w.heap.size + 1, 2, none⟩ = some (.slice q.AF q.fs.length q.cF) := HB8.out.cell 2
      have la := HA8.out.lt
      have lb := HB8.out.lt
      have d0 : ∀ x : BW w8.heap.size w8, x.w.cell? ⟨w.heap.size, 0, none⟩ = some (.int .i64 p.mem) := fun x => (x.blk HA8.out la).cell 0
      have g0 : ∀ x : BW w8.heap.size w8, x.w.cell? ⟨w.heap.size + 1, 0, none⟩ = some (.int .i64 q.mem) := fun x => (x.blk HB8.out lb).cell 0
      have d1 : ∀ x : BW w8.heap.size w8, x.w.cell? ⟨w.heap.size, 1, none⟩ = some (.slice p.AD p.data.length p.cD) := fun x => (x.blk HA8.out la).cell 1
      have g1 : ∀ x : BW w8.heap.size w8, x.w.cell? ⟨w.heap.size + 1, 1, none⟩ = some (.slice q.AD q.data.length q.cD) := fun x => (x.blk HB8.out lb).cell 1
      have d2 : ∀ x : BW w8.heap.size w8, x.w.cell? ⟨w.heap.size, 2, none⟩ = some (.slice p.AF p.fs.length p.cF) := fun x => (x.blk HA8.out la).cell 2
      have g2 : ∀ x : BW w8.heap.size w8, x.w.cell? ⟨w.heap.size + 1, 2, none⟩ = some (.slice q.AF q.fs.length q.cF) := fun x => (x.blk HB8.out lb).cell 2
      have v1 : ∀ x : BW w8.heap.size w8, (convert 22 9 (.slice A2 X.length c2)).run Try.prog x.w = .ok (.string ⟨X.toArray⟩) x.w := fun x => run_bytesStr (c := c2) (HX8.out.below x.h).rv Try.underlying22 Try.underlying5 Try.underlying9
      have v2 : ∀ x : BW w8.heap.size w8, (convert 22 9 (.slice A3 Y.length c3)).run Try.prog x.w = .ok (.string ⟨Y.toArray⟩) x.w := fun x => run_bytesStr (c := c3) (HY8.out.below x.h).rv Try.underlying22 Try.underlying5 Try.underlying9
      have hdq := decP_enc Hqok.out Hencq.out
      have hsm : ∀ x : BW w8.heap.size w8, Calls Try.prog 21 #[p.val, q.val] x.w fun e w' => e = .returned (.bool (sameP p.plain q.plain)) ∧ Below x.w.heap.size x.w w' := fun x => refSameP_any p q x.w ((Hp.out.below Hb8.out).below x.h) ((Hq.out.below Hb8.out).below x.h)
      obtain ⟨S, hS⟩ : ∃ S, S = sameP p.plain q.plain := ⟨_, rfl⟩
      rw [← hS] at hsm
      have Hsm := Lib.hid hsm
      by_cases hXY : X = Y
      · have hpq : p.plain = q.plain := by rw [hXY] at Hd; exact (Prod.mk.inj (Hd.out.symm.trans hdq)).1
        have hSt : S = true := by rw [hS]; exact (sameP_iff _ _).2 hpq
        subst hXY
        clear hdq hsm hS hpq
        subst hSt
        go_wp2_with fail
        refine region_inB w8.heap.size w8 (Below.refl _ _) (by kernel_rfl) (by kernel_rfl) ?_
        repeat (go_big_quiet_step (with_reducible exact Calls.inBat _ (Hsm.out _) (Nat.le_refl _)))
        refine wpQuiet_nil ?_
        intro w9 hb9
        have HF9 := Lib.hid (Hb8.out.trans (hb9.mono Hb8.out.size))
        clear hb9
        go_wp2_with fail
        go_ret
        exact ⟨rfl, HF9.out⟩
      · have hSf : S = false := by
          rw [hS]
          cases hs : sameP p.plain q.plain with
          | false => rfl
          | true =>
            have hpq := (sameP_iff _ _).1 hs
            rw [← hpq, HXE.out] at Hencq
            exact absurd (Prod.mk.inj Hencq.out).1 hXY
        clear hdq hsm hS
        subst hSf
        have hXY2 : (X == Y) = false := by simpa using hXY
        go_wp2_with fail
        refine region_inB w8.heap.size w8 (Below.refl _ _) (by kernel_rfl) (by kernel_rfl) ?_
        repeat (go_big_quiet_step (with_reducible exact Calls.inBat _ (Hsm.out _) (Nat.le_refl _)))
        refine wpQuiet_nil ?_
        intro w9 hb9
        have HF9 := Lib.hid (Hb8.out.trans (hb9.mono Hb8.out.size))
        clear hb9
        go_wp2_with fail
        go_ret
        exact ⟨rfl, HF9.out⟩
    · subst hY
      have f1 : (F == 0) = false := by simpa using hF0
      have f2 : (F != 0) = true := by simpa using hF0
      have hck := check_any p w3 (Hp.out.below Hb3.out)
      rw [hC] at hck
      have Hck := Lib.hid hck
      clear hck
      clear hC
      go_wp2_with fail
      refine Hck.out.mono ?_
      rintro e w4 ⟨rfl, hb4⟩
      clear Hck
      have HX4 := Lib.hid (HX3.out.below hb4)
      have HY4 := Lib.hid (HY3.out.below hb4)
      have Hb4 := Lib.hid (Hb3.out.trans (hb4.mono Hb3.out.size))
      have HA4 := Lib.hid (HA3.out.below hb4 HA3.out.lt)
      have HB4 := Lib.hid (HB3.out.below hb4 HB3.out.lt)
      clear a0 a1 a2 b0 b1 b2 la lb
      clear hb4 HA3 HB3 Hb3
      have a0 : w4.cell? ⟨w.heap.size, 0, none⟩ = some (.int .i64 p.mem) := HA4.out.cell 0
      have b0 : w4.cell? ⟨w.heap.size + 1, 0, none⟩ = some (.int .i64 q.mem) := HB4.out.cell 0
      have a1 : w4.cell? ⟨w.heap.size, 1, none⟩ = some (.slice p.AD p.data.length p.cD) := HA4.out.cell 1
      have b1 : w4.cell? ⟨w.heap.size + 1, 1, none⟩ = some (.slice q.AD q.data.length q.cD) := HB4.out.cell 1
      have a2 : w4.cell? ⟨w.heap.size, 2, none⟩ = some (.slice p.AF p.fs.length p.cF) := HA4.out.cell 2
      have b2 : w4.cell? ⟨w.heap.size + 1, 2, none⟩ = some (.slice q.AF q.fs.length q.cF) := HB4.out.cell 2
      have la := HA4.out.lt
      have lb := HB4.out.lt
      have hC := HCe.out
      have hck := check_any p w4 (Hp.out.below Hb4.out)
      rw [hC] at hck
      have Hck := Lib.hid hck
      clear hck
      clear hC
      go_wp2_with fail
      refine Hck.out.mono ?_
      rintro e w5 ⟨rfl, hb5⟩
      clear Hck
      have HX5 := Lib.hid (HX4.out.below hb5)
      have HY5 := Lib.hid (HY4.out.below hb5)
      have Hb5 := Lib.hid (Hb4.out.trans (hb5.mono Hb4.out.size))
      have HA5 := Lib.hid (HA4.out.below hb5 HA4.out.lt)
      have HB5 := Lib.hid (HB4.out.below hb5 HB4.out.lt)
      clear a0 a1 a2 b0 b1 b2 la lb
      clear hb5 HA4 HB4 Hb4
      have a0 : w5.cell? ⟨w.heap.size, 0, none⟩ = some (.int .i64 p.mem) := HA5.out.cell 0
      have b0 : w5.cell? ⟨w.heap.size + 1, 0, none⟩ = some (.int .i64 q.mem) := HB5.out.cell 0
      have a1 : w5.cell? ⟨w.heap.size, 1, none⟩ = some (.slice p.AD p.data.length p.cD) := HA5.out.cell 1
      have b1 : w5.cell? ⟨w.heap.size + 1, 1, none⟩ = some (.slice q.AD q.data.length q.cD) := HB5.out.cell 1
      have a2 : w5.cell? ⟨w.heap.size, 2, none⟩ = some (.slice p.AF p.fs.length p.cF) := HA5.out.cell 2
      have b2 : w5.cell? ⟨w.heap.size + 1, 2, none⟩ = some (.slice q.AF q.fs.length q.cF) := HB5.out.cell 2
      have la := HA5.out.lt
      have lb := HB5.out.lt
      have hde := decodeP_any A2 c2 X w5 HX5.out (by omega)
      rw [Hd.out] at hde
      have Hde := Lib.hid hde
      clear hde
      go_wp2_with fail
      refine Hde.out.mono ?_
      intro e w6 hpost
      obtain ⟨pm, hpm, rfl, hown6, hb6⟩ := hpost
      dsimp only at hpm ⊢
      have HX6 := Lib.hid (HX5.out.below hb6)
      have HY6 := Lib.hid (HY5.out.below hb6)
      have Hat6 := Lib.hid hown6.at_
      have Hpm := Lib.hid hpm
      clear hown6 hpm Hde
      have Hb6 := Lib.hid (Hb5.out.trans (hb6.mono Hb5.out.size))
      have HA6 := Lib.hid (HA5.out.below hb6 HA5.out.lt)
      have HB6 := Lib.hid (HB5.out.below hb6 HB5.out.lt)
      clear a0 a1 a2 b0 b1 b2 la lb
      clear hb6 HA5 HB5 Hb5
      have a0 : w6.cell? ⟨w.heap.size, 0, none⟩ = some (.int .i64 p.mem) := HA6.out.cell 0
      have b0 : w6.cell? ⟨w.heap.size + 1, 0, none⟩ = some (.int .i64 q.mem) := HB6.out.cell 0
      have a1 : w6.cell? ⟨w.heap.size, 1, none⟩ = some (.slice p.AD p.data.length p.cD) := HA6.out.cell 1
      have b1 : w6.cell? ⟨w.heap.size + 1, 1, none⟩ = some (.slice q.AD q.data.length q.cD) := HB6.out.cell 1
      have a2 : w6.cell? ⟨w.heap.size, 2, none⟩ = some (.slice p.AF p.fs.length p.cF) := HA6.out.cell 2
      have b2 : w6.cell? ⟨w.heap.size + 1, 2, none⟩ = some (.slice q.AF q.fs.length q.cF) := HB6.out.cell 2
      have la := HA6.out.lt
      have lb := HB6.out.lt
      go_wp2_with fail
      obtain ⟨w7, hw7⟩ : ∃ w7, w7 = w6.alloc (.cells #[.int .i64 pm.mem, .slice pm.AD pm.data.length pm.cD, .slice pm.AF pm.fs.length pm.cF] 25) := ⟨_, rfl⟩
      rw [← hw7]
      have hb7 : Below w6.heap.size w6 w7 := by rw [hw7]; exact (Below.refl _ _).alloc (Nat.le_refl _) _
      have HX7 := Lib.hid (HX6.out.below hb7)
      have HY7 := Lib.hid (HY6.out.below hb7)
      have hsm := refSameP_any pm p w7 (Hat6.out.below hb7) (Hp.out.below (Hb6.out.trans (hb7.mono Hb6.out.size)))
      rw [Hpm.out, show sameP p.plain p.plain = true from (sameP_iff _ _).2 rfl] at hsm
      have Hsm := Lib.hid hsm
      clear hsm hw7
      have Hb7 := Lib.hid (Hb6.out.trans (hb7.mono Hb6.out.size))
      have HA7 := Lib.hid (HA6.out.below hb7 HA6.out.lt)
      have HB7 := Lib.hid (HB6.out.below hb7 HB6.out.lt)
      clear a0 a1 a2 b0 b1 b2 la lb
      clear hb7 HA6 HB6 Hb6
      have a0 : w7.cell? ⟨w.heap.size, 0, none⟩ = some (.int .i64 p.mem) := HA7.out.cell 0
      have b0 : w7.cell? ⟨w.heap.size + 1, 0, none⟩ = some (.int .i64 q.mem) := HB7.out.cell 0
      have a1 : w7.cell? ⟨w.heap.size, 1, none⟩ = some (.slice p.AD p.data.length p.cD) := HA7.out.cell 1
      have b1 : w7.cell? ⟨w.heap.size + 1, 1, none⟩ = some (.slice q.AD q.data.length q.cD) := HB7.out.cell 1
      have a2 : w7.cell? ⟨w.heap.size, 2, none⟩ = some (.slice p.AF p.fs.length p.cF) := HA7.out.cell 2
      have b2 : w7.cell? ⟨w.heap.size + 1, 2, none⟩ = some (.slice q.AF q.fs.length q.cF) := HB7.out.cell 2
      have la := HA7.out.lt
      have lb := HB7.out.lt
      refine Hsm.out.mono ?_
      rintro e w8 ⟨rfl, hb8⟩
      have HX8 := Lib.hid (HX7.out.below hb8)
      have HY8 := Lib.hid (HY7.out.below hb8)
      clear Hsm
      have Hb8 := Lib.hid (Hb7.out.trans (hb8.mono Hb7.out.size))
      have HA8 := Lib.hid (HA7.out.below hb8 HA7.out.lt)
      have HB8 := Lib.hid (HB7.out.below hb8 HB7.out.lt)
      clear a0 a1 a2 b0 b1 b2 la lb
      clear hb8 HA7 HB7 Hb7
      have a0 : w8.cell? ⟨w.heap.size, 0, none⟩ = some (.int .i64 p.mem) := HA8.out.cell 0
      have b0 : w8.cell? ⟨w.heap.size + 1, 0, none⟩ = some (.int .i64 q.mem) := HB8.out.cell 0
      have a1 : w8.cell? ⟨w.heap.size, 1, none⟩ = some (.slice p.AD p.data.length p.cD) := HA8.out.cell 1
      have b1 : w8.cell? ⟨w.heap.size + 1, 1, none⟩ = some (.slice q.AD q.data.length q.cD) := HB8.out.cell 1
      have a2 : w8.cell? ⟨w.heap.size, 2, none⟩ = some (.slice p.AF p.fs.length p.cF) := HA8.out.cell 2
      have b2 : w8.cell? ⟨w.heap.size + 1, 2, none⟩ = some (.slice q.AF q.fs.length q.cF) := HB8.out.cell 2
      have la := HA8.out.lt
      have lb := HB8.out.lt
      have d0 : ∀ x : BW w8.heap.size w8, x.w.cell? ⟨w.heap.size, 0, none⟩ = some (.int .i64 p.mem) := fun x => (x.blk HA8.out la).cell 0
      have g0 : ∀ x : BW w8.heap.size w8, x.w.cell? ⟨w.heap.size + 1, 0, none⟩ = some (.int .i64 q.mem) := fun x => (x.blk HB8.out lb).cell 0
      have d1 : ∀ x : BW w8.heap.size w8, x.w.cell? ⟨w.heap.size, 1, none⟩ = some (.slice p.AD p.data.length p.cD) := fun x => (x.blk HA8.out la).cell 1
      have g1 : ∀ x : BW w8.heap.size w8, x.w.cell? ⟨w.heap.size + 1, 1, none⟩ = some (.slice q.AD q.data.length q.cD) := fun x => (x.blk HB8.out lb).cell 1
      have d2 : ∀ x : BW w8.heap.size w8, x.w.cell? ⟨w.heap.size, 2, none⟩ = some (.slice p.AF p.fs.length p.cF) := fun x => (x.blk HA8.out la).cell 2
      have g2 : ∀ x : BW w8.heap.size w8, x.w.cell? ⟨w.heap.size + 1, 2, none⟩ = some (.slice q.AF q.fs.length q.cF) := fun x => (x.blk HB8.out lb).cell 2
      go_wp2_with fail
      refine region_inB w8.heap.size w8 (Below.refl _ _) (by kernel_rfl) (by kernel_rfl) ?_
      repeat (go_big_quiet_step (fail))
      refine wpQuiet_nil ?_
      intro w9 hb9
      have HF9 := Lib.hid (Hb8.out.trans (hb9.mono Hb8.out.size))
      clear hb9
      go_wp2_with fail
      go_ret
      exact ⟨rfl, HF9.out⟩
end Go.Proofs.Ytadnjfoinmeloaa
