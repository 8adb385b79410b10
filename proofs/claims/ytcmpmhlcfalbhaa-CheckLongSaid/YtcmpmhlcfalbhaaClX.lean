/- The law CheckLong, walked, where the last function begins with a loop (printed by gen_clw.py). -/
import Derived.Test.YtcmpmhlcfalbhaaClV
namespace Go.Proofs.Ytcmpmhlcfalbhaa
open Go.RowKit

set_option maxRecDepth 100000 in
set_option maxHeartbeats 20000000 in
theorem checkLong_true (a b c : Int) (w : World) : Calls Try.prog 3 #[.int .i64 a, .int .i64 b, .int .i64 c, .bool true] w fun e w' => e = .returned (.bool true) ∧ Below w.heap.size w w' := by
  have ha0 := Int.emod_nonneg a (show ((64 : Nat) : Int) ≠ 0 by decide)
  have ha1 := Int.emod_lt_of_pos a (show (0 : Int) < ((64 : Nat) : Int) by decide)
  have hb0 := Int.emod_nonneg b (show ((4093 : Nat) : Int) ≠ 0 by decide)
  have hb1 := Int.emod_lt_of_pos b (show (0 : Int) < ((4093 : Nat) : Int) by decide)
  have hc0 := Int.emod_nonneg c (show ((60 : Nat) : Int) ≠ 0 by decide)
  have hc1 := Int.emod_lt_of_pos c (show (0 : Int) < ((60 : Nat) : Int) by decide)
  obtain ⟨ka, hka⟩ : ∃ k : Nat, (k : Int) = a % ((64 : Nat) : Int) := ⟨(a % ((64 : Nat) : Int)).toNat, by omega⟩
  obtain ⟨kb, hkb⟩ : ∃ k : Nat, (k : Int) = b % ((4093 : Nat) : Int) := ⟨(b % ((4093 : Nat) : Int)).toNat, by omega⟩
  obtain ⟨L, hL⟩ : ∃ k : Nat, (k : Int) = c % ((60 : Nat) : Int) := ⟨(c % ((60 : Nat) : Int)).toNat, by omega⟩
  obtain ⟨F, hF⟩ : ∃ F : Nat, F = 1 + ka := ⟨_, rfl⟩
  obtain ⟨C, hC⟩ : ∃ C : Nat, C = 4 + kb := ⟨_, rfl⟩
  have Hra := Lib.hid (fun w' => roundL_any a 64 ka hka (by decide) (by decide) w')
  have Hrb := Lib.hid (fun w' => roundL_any b 4093 kb hkb (by decide) (by decide) w')
  have Hrc := Lib.hid (fun w' => roundL_any c 60 L hL (by decide) (by decide) w')
  have HF := Lib.hid (show 1 ≤ F ∧ F ≤ 64 from ⟨by omega, by omega⟩)
  have hFb : F ≤ 64 := by omega
  have hCb : C ≤ 4096 := by omega
  have HC := Lib.hid (show 4 ≤ C ∧ C ≤ 4096 from ⟨by omega, by omega⟩)
  have HL := Lib.hid (show L ≤ 59 from by omega)
  have eF : IntKind.i64.wrap (1 + (ka : Int)) = (F : Int) := by rw [IntKind.wrap_i64]; omega
  have eC : IntKind.i64.wrap (4 + (kb : Int)) = (C : Int) := by rw [IntKind.wrap_i64]; omega
  obtain ⟨FC, hFC⟩ : ∃ x : Int, x = (F : Int) * (C : Int) := ⟨_, rfl⟩
  obtain ⟨FL, hFL⟩ : ∃ x : Int, x = (F : Int) * (1 + (L : Int)) := ⟨_, rfl⟩
  have bFC : 0 ≤ FC ∧ FC ≤ 64 * 4096 := by
    rw [hFC]
    exact ⟨Int.mul_nonneg (by omega) (by omega), Int.le_trans (Int.mul_le_mul_of_nonneg_right (show (F : Int) ≤ 64 by omega) (by omega)) (Int.mul_le_mul_of_nonneg_left (show (C : Int) ≤ 4096 by omega) (by omega))⟩
  have bFL : 0 ≤ FL ∧ FL ≤ 64 * 64 := by
    rw [hFL]
    exact ⟨Int.mul_nonneg (by omega) (by omega), Int.le_trans (Int.mul_le_mul_of_nonneg_right (show (F : Int) ≤ 64 by omega) (by omega)) (Int.mul_le_mul_of_nonneg_left (show 1 + (L : Int) ≤ 64 by omega) (by omega))⟩
  have m1 : IntKind.i64.wrap ((F : Int) * (C : Int)) = FC := by rw [← hFC, IntKind.wrap_i64]; omega
  have m2 : IntKind.i64.wrap (1 + (L : Int)) = 1 + (L : Int) := by rw [IntKind.wrap_i64]; omega
  have m3 : IntKind.i64.wrap ((F : Int) * (1 + (L : Int))) = FL := by rw [← hFL, IntKind.wrap_i64]; omega
  have m4 : IntKind.i64.wrap (FL + 1) = FL + 1 := by rw [IntKind.wrap_i64]; omega
  have HFC := Lib.hid hFC
  have HFL := Lib.hid hFL
  obtain ⟨f1, hf1⟩ : ∃ n : Nat, n = F - 1 := ⟨_, rfl⟩
  obtain ⟨c1, hc1'⟩ : ∃ n : Nat, n = C - 1 := ⟨_, rfl⟩
  obtain ⟨c2, hc2'⟩ : ∃ n : Nat, n = C - 2 := ⟨_, rfl⟩
  obtain ⟨c3, hc3'⟩ : ∃ n : Nat, n = C - 3 := ⟨_, rfl⟩
  have s1 : (F : Int) - 1 = (f1 : Int) := by omega
  have s2 : (C : Int) - 1 = (c1 : Int) := by omega
  have s3 : (C : Int) - 2 = (c2 : Int) := by omega
  have s4 : (C : Int) - 3 = (c3 : Int) := by omega
  have v1 : IntKind.i64.wrap (f1 : Int) = (f1 : Int) := by rw [IntKind.wrap_i64]; omega
  have v2 : IntKind.i64.wrap (c1 : Int) = (c1 : Int) := by rw [IntKind.wrap_i64]; omega
  have v3 : IntKind.i64.wrap (c2 : Int) = (c2 : Int) := by rw [IntKind.wrap_i64]; omega
  have v4 : IntKind.i64.wrap (c3 : Int) = (c3 : Int) := by rw [IntKind.wrap_i64]; omega
  have Hn := Lib.hid (show F = f1 + 1 ∧ C = c1 + 1 ∧ C = c2 + 2 ∧ C = c3 + 3 from ⟨by omega, by omega, by omega, by omega⟩)
  clear ha0 ha1 hb0 hb1 hc0 hc1 hka hkb hL hF hC hFC hFL bFC bFL hf1 hc1' hc2' hc3'
  go_enter Try.func3, Try.ntmps3
  go_wp2_with fail
  refine (Hra.out _).mono ?_
  rintro e w' ⟨rfl, hww⟩
  obtain rfl : w = w' := hww.symm
  go_wp2_with fail
  refine (Hrb.out _).mono ?_
  rintro e w' ⟨rfl, hww⟩
  obtain rfl : w = w' := hww.symm
  go_wp2_with fail
  refine (Hrc.out _).mono ?_
  rintro e w' ⟨rfl, hww⟩
  obtain rfl : w = w' := hww.symm
  go_wp2_with fail
  refine (chained13_any F C (L : Int) true _ HF.out.1 HF.out.2 HC.out.1 HC.out.2).mono ?_
  rintro e w1 ⟨p, rfl, hpl, hmn, hb1⟩
  have Hpl := Lib.hid hpl
  have hok0 : PrgOk p.plain := by rw [hpl]; exact okC HF.out.2 HC.out.2 (by omega) (by have := HL.out; omega)
  have hpn : p.fs.length = F := by
    have h1 : p.plain.fs.length = F := by rw [hpl]; exact prgG_len
    unfold PrgM.plain at h1
    rwa [List.length_map] at h1
  obtain ⟨w2, hw2⟩ : ∃ w', w' = w1.alloc (.cells #[.int .i64 p.mem, .slice p.AD p.data.length p.cD, .slice p.AF p.fs.length p.cF] 26) := ⟨_, rfl⟩
  obtain ⟨gx, hgx⟩ : ∃ g, g = w1.heap.size := ⟨_, rfl⟩
  have hb12 : Below w1.heap.size w1 w2 := by rw [hw2]; exact (Below.refl _ _).alloc (Nat.le_refl _) _
  have hX2 : Blk w2 gx 26 #[.int .i64 p.mem, .slice p.AD p.data.length p.cD, .slice p.AF p.fs.length p.cF] := by rw [hw2, hgx]; exact Blk.new _ _ _
  have HB2 := Lib.hid (hb1.trans (hb12.mono hb1.size))
  have HMn2 := Lib.hid (hmn.below hb12)
  have HX2 := Lib.hid hX2
  have Hw2 := Lib.hid hw2
  have Hgx := Lib.hid hgx
  have Hpn := Lib.hid hpn
  have Hok0 := Lib.hid hok0
  have Hwx := Lib.hid (show w.heap.size ≤ gx from by rw [hgx]; exact hb1.size)
  have x0 : w2.cell? ⟨gx, 0, none⟩ = some (.int .i64 p.mem) := hX2.cell 0
  have x1 : w2.cell? ⟨gx, 1, none⟩ = some (.slice p.AD p.data.length p.cD) := hX2.cell 1
  have x2 : w2.cell? ⟨gx, 2, none⟩ = some (.slice p.AF p.fs.length p.cF) := hX2.cell 2
  have xl := hX2.lt
  clear hpl hok0 hpn hw2 hgx hb12 hX2 hb1 hmn Hra Hrb Hrc
  go_upto_region 5 with (fail)
  rw [← Hw2.out, ← Hgx.out]
  clear Hw2 Hgx
  have HRn := Lib.hid (run_any p w2 (HMn2.out.at_ Hok0.out))
  go_wp2_with fail
  refine HRn.out.mono ?_
  rintro e w3 ⟨hb3, ⟨x, hx, rfl⟩ | ⟨hs, tops, lps, live, ce, co, HRr, LR, AH, cH, AT, cT, AL, cL, gL, hok, hM, hLv, rfl⟩⟩
  · exact absurd (factsC (lp := true) (L := (L : Int)) HF.out.1 HF.out.2 HC.out.1 HC.out.2 (by omega) (by have := HL.out; omega)) (fun k => by rw [Hpl.out] at hx; exact bad_facts hx k)
  · rw [Hpl.out] at hok
    obtain ⟨rfl, rfl, rfl, rfl, rfl, rfl⟩ := hok.unique (factsC (lp := true) (L := (L : Int)) HF.out.1 HF.out.2 HC.out.1 HC.out.2 (by omega) (by have := HL.out; omega))
    rw [← HFL.out, ← HFC.out]
    simp only [List.length_map, List.length_range, List.length_replicate]
    rw [if_pos trivial]
    have hhl : (hsC F C true).length = F := by simp
    have hll : (lpsC F true).length = F := by simp
    obtain ⟨bh, -, hAH, -, hbh, -, -⟩ := rows_at hM.hh hM.sh hM.oh (f := 0) (by rw [hhl]; exact HF.out.1)
    obtain ⟨bl, -, hAL, -, hbl, -, -⟩ := rows_at hM.hl hM.sl hM.ol (f := 0) (by rw [hll]; exact HF.out.1)
    obtain ⟨bt, hAT, -, hbt, -⟩ := own_pos hM.ot (by simp; exact HF.out.1)
    have HAH := Lib.hid hAH
    have HAL := Lib.hid hAL
    have HAT := Lib.hid hAT
    rw [hAH, hAL, hAT]
    obtain ⟨w4, hw4⟩ : ∃ w4, w4 = (w3.alloc (.cells #[.slice (some ⟨bh, 0, none⟩) F cH, .slice (some ⟨bt, 0, none⟩) F cT, .slice (some ⟨bl, 0, none⟩) F cL, .slice (some ⟨gL, 0, none⟩) F F, .int .i64 (FL + 1), .int .i64 (-1)] 32)).alloc (.cells #[.int .i64 0, .int .i64 0, .int .i64 0] 37) := ⟨_, rfl⟩
    obtain ⟨gG, hgG⟩ : ∃ g, g = w3.heap.size + 1 := ⟨_, rfl⟩
    obtain ⟨gF, hgF⟩ : ∃ g, g = w3.heap.size := ⟨_, rfl⟩
    have hb4 : Below w3.heap.size w3 w4 := by rw [hw4]; exact ((Below.refl _ _).alloc (Nat.le_refl _) _).alloc (by simp) _
    have hF4 : Blk w4 gF 32 #[.slice (some ⟨bh, 0, none⟩) F cH, .slice (some ⟨bt, 0, none⟩) F cT, .slice (some ⟨bl, 0, none⟩) F cL, .slice (some ⟨gL, 0, none⟩) F F, .int .i64 (FL + 1), .int .i64 (-1)] := by rw [hw4, hgF]; exact (Blk.new w3 _ _).alloc _
    have hG4 : Blk w4 gG 37 #[.int .i64 0, .int .i64 0, .int .i64 0] := by rw [hw4, hgG]; exact Blk.new2 _ _ _ _
    have hb24 : Below w2.heap.size w2 w4 := hb3.trans (hb4.mono hb3.size)
    have HX4 := Lib.hid (HX2.out.below hb24 HX2.out.lt)
    have HMn4 := Lib.hid (HMn2.out.below hb24)
    have HB4 := Lib.hid (HB2.out.trans (hb24.mono HB2.out.size))
    have HM4 := Lib.hid (hM.below hb4)
    have HL4 := Lib.hid (Own.below hLv hb4 (Nat.le_refl _))
    have HF4 := Lib.hid hF4
    have HG4 := Lib.hid hG4
    have Hw4 := Lib.hid hw4
    have HgG := Lib.hid hgG
    have HgF := Lib.hid hgF
    have Hwg := Lib.hid (show w.heap.size ≤ gG from by rw [hgG]; have := HB2.out.size; have := hb3.size; omega)
    have f0 : w4.cell? ⟨gF, 0, none⟩ = some (.slice (some ⟨bh, 0, none⟩) F cH) := hF4.cell 0
    have f1' : w4.cell? ⟨gF, 1, none⟩ = some (.slice (some ⟨bt, 0, none⟩) F cT) := hF4.cell 1
    have f2 : w4.cell? ⟨gF, 2, none⟩ = some (.slice (some ⟨bl, 0, none⟩) F cL) := hF4.cell 2
    have f3 : w4.cell? ⟨gF, 3, none⟩ = some (.slice (some ⟨gL, 0, none⟩) F F) := hF4.cell 3
    have f4 : w4.cell? ⟨gF, 4, none⟩ = some (.int .i64 (FL + 1)) := hF4.cell 4
    have f5 : w4.cell? ⟨gF, 5, none⟩ = some (.int .i64 (-1)) := hF4.cell 5
    have fl := hF4.lt
    have g0 : w4.cell? ⟨gG, 0, none⟩ = some (.int .i64 0) := hG4.cell 0
    have gl := hG4.lt
    clear hb3 hM hLv hAH hAL hAT hbh hbl hbt hw4 hgG hgF hb4 hF4 hG4 hb24 hok hhl hll x0 x1 x2 xl HX2 HMn2 HB2 HRn
    dsimp only [faultV]
    go_upto_region 6 with (fail)
    rw [← Hw4.out, ← HgG.out, ← HgF.out]
    clear Hw4 HgG HgF
    as_aux_lemma =>
    go_wp2_with fail
    clear f0 f1' f2 f3 f4 f5 fl g0 gl m1 m2 m3 m4
    go_loopw [13] (fun iv wr => ∃ i : Nat, i ≤ F ∧ iv = .int .i64 (i : Int) ∧ Below w4.heap.size w4 wr) (fun iv _ => F - (intOf iv).toNat)
    case atStart => exact ⟨0, Nat.zero_le _, rfl, Below.refl _ _⟩
    case round =>
      rename World => wr
      obtain ⟨i, hi, rfl, hB⟩ := hrel
      have HB := Lib.hid hB
      by_cases hlt : i < F
      · as_aux_lemma =>
        have g1 : (i : Int) < (F : Int) := by omega
        have hMr := HM4.out.below hB
        have hFr := HF4.out.below hB HF4.out.lt
        have hLr := Own.below HL4.out hB (Nat.le_refl _)
        obtain ⟨bp, r, hA, -, hbh, hc, hO⟩ := rows_at hMr.hh hMr.sh hMr.oh (f := i) (by simpa using hlt)
        rw [HAH.out] at hA
        injection hA with hA
        injection hA with e1 e2
        subst e1
        obtain ⟨bq, r2, hA2, -, hbl, hc2, hO2⟩ := rows_at hMr.hl hMr.sl hMr.ol (f := i) (by simpa using hlt)
        rw [HAL.out] at hA2
        injection hA2 with hA2
        injection hA2 with e1 e2
        subst e1
        obtain ⟨br, hA3, -, hbt, hct⟩ := own_pos hMr.ot (by simp; exact HF.out.1)
        rw [HAT.out] at hA3
        injection hA3 with hA3
        injection hA3 with e1 e2
        subst e1
        have ht0 := hct i (.int .i64 1) (by rw [List.getElem?_map, List.getElem?_replicate, if_pos hlt]; rfl)
        have hl0 := OwnL.at_ hLr i (by simpa using hlt)
        rw [List.getElem_replicate] at hl0
        have hll := (OwnL.room hLr i (by simpa using hlt)).2
        rw [hsC_get hlt, show (hRow F C true i).length = C from by simp [hRow]] at hc hO
        obtain ⟨rh, hrA, -, hrl⟩ := own_some hO (by have := HC.out; omega)
        rw [hrA] at hc
        rw [lps_len hlt] at hc2 hO2
        have f0 : wr.cell? ⟨gF, 0, none⟩ = some (.slice (some ⟨bh, 0, none⟩) F cH) := hFr.cell 0
        have f1' : wr.cell? ⟨gF, 1, none⟩ = some (.slice (some ⟨bt, 0, none⟩) F cT) := hFr.cell 1
        have f2 : wr.cell? ⟨gF, 2, none⟩ = some (.slice (some ⟨bl, 0, none⟩) F cL) := hFr.cell 2
        have f3 : wr.cell? ⟨gF, 3, none⟩ = some (.slice (some ⟨gL, 0, none⟩) F F) := hFr.cell 3
        have fl := hFr.lt
        have HO := Lib.hid (show OwnI wr w2.heap.size (some ⟨rh, 0, none⟩) C r.c (hRow F C true i) from by rw [← hrA]; exact hO)
        have HFr := Lib.hid hFr
        have Hc := Lib.hid (show wr.cell? ⟨bh, i, none⟩ = some (.slice (some ⟨rh, 0, none⟩) C r.c) ∧ bh < wr.heap.size from ⟨hc, hbh⟩)
        have HO2 := Lib.hid hO2
        clear hB hMr hFr hLr hO hrA hct hO2 hrl
        by_cases hlast : i + 1 = F
        · have g5 : ((i : Int) == (f1 : Int)) = true := by simp; have := Hn.out; omega
          rw [if_pos ⟨rfl, hlast⟩] at hc2 HO2
          rw [show ([0, 1] : List Int).length = 2 from rfl] at hc2 HO2
          obtain ⟨wA, hwA⟩ : ∃ w', w' = wr.alloc (.cells #[.int .i64 0, .int .i64 1] 3) := ⟨_, rfl⟩
          have hbA : Below wr.heap.size wr wA := by rw [hwA]; exact (Below.refl _ _).alloc (Nat.le_refl _) _
          have HSi := Lib.hid (sameInts13_any r2.A (some ⟨wr.heap.size, 0, none⟩) r2.c 2 [0, 1] [0, 1] wA (RV.of_own (Own.below HO2.out hbA (Nat.le_refl _))) (by rw [hwA]; exact RV.of_blk (Blk.new wr _ #[.int .i64 0, .int .i64 1])) (by unfold maxLen; decide))
          rw [show (([0, 1] : List Int) == [0, 1]) = true from rfl, hwA] at HSi
          have HbA := Lib.hid (show Below wr.heap.size wr (wr.alloc (.cells #[.int .i64 0, .int .i64 1] 3)) from by rw [← hwA]; exact hbA)
          have Hlast := Lib.hid hlast
          clear hwA hbA
          go_wp2_with fail
          refine HSi.out.mono ?_
          rintro e w7 ⟨rfl, hb7⟩
          have HB7 := Lib.hid (HbA.out.trans (hb7.mono HbA.out.size))
          clear hb7 f0 f1' f2 f3 fl ht0 hl0 hll hc hc2
          go_wp2_with fail
          go_loopw [15] (fun kv wz => ∃ k : Nat, k ≤ C ∧ kv = .int .i64 (k : Int) ∧ Below wr.heap.size wr wz) (fun kv _ => C - (intOf kv).toNat)
          case atStart => exact ⟨0, Nat.zero_le _, rfl, HB7.out⟩
          case round =>
            as_aux_lemma =>
            rename World => wz
            obtain ⟨k, hk, rfl, hBz⟩ := hrel
            have HBz := Lib.hid hBz
            by_cases hltk : k < C
            · have g2 : (k : Int) < (C : Int) := by omega
              have hOz := Own.below HO.out hBz (Nat.le_refl _)
              have hFz := HFr.out.below hBz HFr.out.lt
              have hz0 := OwnI.at_ hOz k (by simpa [hRow] using hltk)
              have hzl := (OwnI.room hOz k (by simpa [hRow] using hltk)).2
              rw [(List.getElem?_eq_some_iff.1 (hRow_get (F := F) (i := i) (lp := true) hltk)).2] at hz0
              have hd : wz.cell? ⟨bh, i, none⟩ = some (.slice (some ⟨rh, 0, none⟩) C r.c) := ((bcell hBz).1 _ _ Hc.out.2).trans Hc.out.1
              have hdl : bh < wz.heap.size := Nat.lt_of_lt_of_le Hc.out.2 hBz.size
              have z0 : wz.cell? ⟨gF, 0, none⟩ = some (.slice (some ⟨bh, 0, none⟩) F cH) := hFz.cell 0
              have zl := hFz.lt
              clear hOz hFz hBz
              by_cases hkc : k = c1
              · have h1 : hAt F C true i k = 1 := by unfold hAt; rw [if_pos (.inl (by have := Hn.out; omega))]
                rw [h1] at hz0
                have k1 : ((k : Int) == (c1 : Int)) = true := by rw [hkc]; exact beq_self_eq_true _
                clear h1 hkc
                go_wp2_with fail
                exact ⟨⟨k + 1, by omega, by first | rfl | go_num, HBz.out⟩, by simp [intOf]; omega⟩
              · have k1 : ((k : Int) == (c1 : Int)) = false := by simp; omega
                by_cases hk1 : k = 1
                · have h1 : hAt F C true i k = 1 := by unfold hAt; rw [if_pos (.inr ⟨rfl, Hlast.out, hk1⟩)]
                  rw [h1] at hz0
                  have k2 : ((k : Int) == 1) = true := by simp; omega
                  clear h1
                  subst hk1
                  go_wp2_with fail
                  exact ⟨⟨1 + 1, by omega, by first | rfl | go_num, HBz.out⟩, by simp [intOf]; omega⟩
                · have k2 : ((k : Int) == 1) = false := by simp; omega
                  have h1 : hAt F C true i k = 0 := by unfold hAt; rw [if_neg (fun h => by have := Hn.out; rcases h with h | h; exact hkc (by omega); exact hk1 h.2.2)]
                  rw [h1] at hz0
                  clear h1
                  go_wp2_with fail
                  exact ⟨⟨k + 1, by omega, by first | rfl | go_num, HBz.out⟩, by simp [intOf]; omega⟩
            · have g2 : ¬ (k : Int) < (C : Int) := by omega
              clear hBz
              go_wp2_with fail
              exact ⟨⟨i + 1, by omega, by first | rfl | go_num, HB.out.trans (HBz.out.mono HB.out.size)⟩, by simp [intOf]; omega⟩
        · have g5 : ((i : Int) == (f1 : Int)) = false := by simp; have := Hn.out; omega
          rw [if_neg (fun h => hlast h.2), List.length_nil] at hc2
          go_wp2_with fail
          clear f0 f1' f2 f3 fl ht0 hl0 hll hc hc2
          go_loopw [15] (fun kv wz => ∃ k : Nat, k ≤ C ∧ kv = .int .i64 (k : Int) ∧ Below wr.heap.size wr wz) (fun kv _ => C - (intOf kv).toNat)
          case atStart => exact ⟨0, Nat.zero_le _, rfl, Below.refl _ _⟩
          case round =>
            as_aux_lemma =>
            rename World => wz
            obtain ⟨k, hk, rfl, hBz⟩ := hrel
            have HBz := Lib.hid hBz
            by_cases hltk : k < C
            · have g2 : (k : Int) < (C : Int) := by omega
              have hOz := Own.below HO.out hBz (Nat.le_refl _)
              have hFz := HFr.out.below hBz HFr.out.lt
              have hz0 := OwnI.at_ hOz k (by simpa [hRow] using hltk)
              have hzl := (OwnI.room hOz k (by simpa [hRow] using hltk)).2
              rw [(List.getElem?_eq_some_iff.1 (hRow_get (F := F) (i := i) (lp := true) hltk)).2] at hz0
              have hd : wz.cell? ⟨bh, i, none⟩ = some (.slice (some ⟨rh, 0, none⟩) C r.c) := ((bcell hBz).1 _ _ Hc.out.2).trans Hc.out.1
              have hdl : bh < wz.heap.size := Nat.lt_of_lt_of_le Hc.out.2 hBz.size
              have z0 : wz.cell? ⟨gF, 0, none⟩ = some (.slice (some ⟨bh, 0, none⟩) F cH) := hFz.cell 0
              have zl := hFz.lt
              clear hOz hFz hBz
              by_cases hkc : k = c1
              · have h1 : hAt F C true i k = 1 := by unfold hAt; rw [if_pos (.inl (by have := Hn.out; omega))]
                rw [h1] at hz0
                have k1 : ((k : Int) == (c1 : Int)) = true := by rw [hkc]; exact beq_self_eq_true _
                clear h1 hkc
                go_wp2_with fail
                exact ⟨⟨k + 1, by omega, by first | rfl | go_num, HBz.out⟩, by simp [intOf]; omega⟩
              · have k1 : ((k : Int) == (c1 : Int)) = false := by simp; omega
                have h1 : hAt F C true i k = 0 := by unfold hAt; rw [if_neg (fun h => by have := Hn.out; rcases h with h | h; exact hkc (by omega); exact hlast h.2.1)]
                rw [h1] at hz0
                clear h1
                go_wp2_with fail
                exact ⟨⟨k + 1, by omega, by first | rfl | go_num, HBz.out⟩, by simp [intOf]; omega⟩
            · have g2 : ¬ (k : Int) < (C : Int) := by omega
              clear hBz
              go_wp2_with fail
              exact ⟨⟨i + 1, by omega, by first | rfl | go_num, HB.out.trans (HBz.out.mono HB.out.size)⟩, by simp [intOf]; omega⟩
      · have g1 : ¬ (i : Int) < (F : Int) := by omega
        clear hB
        have g1 : ¬ (i : Int) < (F : Int) := by omega
        have HBr := Lib.hid (HB4.out.trans (HB.out.mono HB4.out.size))
        have HMr := Lib.hid (HMn4.out.below HB.out)
        have hXr := HX4.out.below HB.out HX4.out.lt
        have hGr := HG4.out.below HB.out HG4.out.lt
        have HXr := Lib.hid hXr
        have HGr := Lib.hid hGr
        have hPr : PrgAt wr p := HMr.out.at_ Hok0.out
        obtain ⟨g, hgf⟩ : ∃ g, p.fs[f1]? = some g := ⟨_, List.getElem?_eq_getElem (by rw [Hpn.out]; have := Hn.out; omega)⟩
        have hgp : g.plain = ⟨0, (L : Int), 1, (List.range C).map (insC F C true f1)⟩ := by
          have h1 : (p.plain.fs)[f1]? = some g.plain := by unfold PrgM.plain; rw [List.getElem?_map, hgf]; rfl
          rw [Hpl.out, prgG_fn (by have := Hn.out; omega)] at h1
          exact (Option.some.inj h1).symm
        have hgc : g.code = (List.range C).map (insC F C true f1) := congrArg Fun.code hgp
        have hgl : g.code.length = C := by rw [hgc]; simp
        have hga : g.args = 0 ∧ g.locals = (L : Int) ∧ g.results = 1 := ⟨congrArg Fun.args hgp, congrArg Fun.locals hgp, congrArg Fun.results hgp⟩
        obtain ⟨b0, off0, hA, hb0, -, -, -, q3, -, hFl⟩ := hPr.fn hgf
        have hcode := HMr.out.row.code g (List.mem_of_getElem? hgf)
        obtain ⟨gc, hgA, -, hgcl⟩ := own_some hcode (by rw [hgl]; have := HC.out; omega)
        rw [hgA, hgl] at q3 hcode
        have x2 : wr.cell? ⟨gx, 2, none⟩ = some (.slice (some ⟨b0, off0, none⟩) p.fs.length p.cF) := by rw [← hA]; exact hXr.cell 2
        have xl := hXr.lt
        have hf1 : (f1 : Int) < (p.fs.length : Int) := by omega
        have hc3 : c3 < C := by have := Hn.out; omega
        have hc2' : c2 < C := by have := Hn.out; omega
        obtain ⟨⟨p0, k0⟩, ⟨p1, k1⟩, kf0, kf1, -⟩ := own_insAt (ls := g.code) hcode c3 (by rw [hgl]; exact hc3)
        obtain ⟨q1, hq1v, hq1p, hq1f, hok1, hm1⟩ := mine_codeC HMr.out Hok0.out f1 g hgf gc hgA c3 (by rw [hgl]; exact hc3) ⟨14, (C : Int)⟩ ⟨of_decide_eq_true rfl, of_decide_eq_true rfl, by dsimp only; omega, by dsimp only; omega⟩
        have hq1P : q1.plain = prgG F C (L : Int) (insT F C) := by
          rw [hq1p, hga.1, hga.2.1, hga.2.2, hgc, Hpl.out]
          exact prgG_set (by have := Hn.out; omega) hc3 (by unfold insT; rw [if_pos (by have := Hn.out; omega)]) (fun j m hj hm h => by unfold insT; rw [if_neg (fun h2 => h (by have := Hn.out; omega))])
        have hcx : gc ≠ gx := own_blk_ne hcode hXr (by decide) gc rfl
        have hcG : gc ≠ gG := own_blk_ne hcode hGr (by decide) gc rfl
        obtain ⟨w6, hw6⟩ : ∃ w', w' = (wr.setCell ⟨gc, c3 * 2, none⟩ (.int .i64 14)).setCell ⟨gc, c3 * 2 + 1, none⟩ (.int .i64 (C : Int)) := ⟨_, rfl⟩
        rw [← hw6] at hm1
        have hO6 : Only (fun b => b = gc) wr w6 := by rw [hw6]; exact ((Only.refl (fun b => b = gc) wr).setCell (p := ⟨gc, c3 * 2, none⟩) (.inl rfl) _).setCell (p := ⟨gc, c3 * 2 + 1, none⟩) (.inl rfl) _
        have hgcw : w.heap.size ≤ gc := (Own.row hcode gc rfl).1
        have HX6 := Lib.hid (hXr.only hO6 (fun e => hcx e.symm))
        have HG6 := Lib.hid (hGr.only hO6 (fun e => hcG e.symm))
        have HB6 := Lib.hid (HBr.out.trans (hO6.below (B := w.heap.size) HBr.out.size fun b hb e => by omega))
        have HM6 := Lib.hid hm1
        have Hok1 := Lib.hid hok1
        have Hq1v := Lib.hid hq1v
        have Hq1P := Lib.hid hq1P
        have Hq1f := Lib.hid hq1f
        have Hgf := Lib.hid (show g.code.length = C ∧ g.A = some ⟨gc, 0, none⟩ ∧ g.args = 0 ∧ g.locals = (L : Int) ∧ g.results = 1 ∧ g.code = (List.range C).map (insC F C true f1) from ⟨hgl, hgA, hga.1, hga.2.1, hga.2.2, hgc⟩)
        have Hw6 := Lib.hid hw6
        have Hgw := Lib.hid hgcw
        have b3 : (c3 : Int) < (C : Int) := by omega
        have b2 : (c2 : Int) < (C : Int) := by omega
        clear hXr hGr hPr hgf hgp hgc hgl hga hA hcode hgA hq1v hq1p hq1f hok1 hm1 hq1P hcx hcG hw6 hO6 hgcw HMr HXr HGr HBr
        go_upto_region 29 with (fail)
        rw [← Hw6.out]
        clear Hw6 x2 xl q3 k0 k1 kf0 kf1
        have hX6 := HX6.out
        have x0 : w6.cell? ⟨gx, 0, none⟩ = some (.int .i64 p.mem) := hX6.cell 0
        have x1 : w6.cell? ⟨gx, 1, none⟩ = some (.slice p.AD p.data.length p.cD) := hX6.cell 1
        have x2 : w6.cell? ⟨gx, 2, none⟩ = some (.slice p.AF p.fs.length p.cF) := hX6.cell 2
        have xl := hX6.lt
        have HR6 := Lib.hid (show Calls Try.prog 13 #[.agg #[.int .i64 p.mem, .slice p.AD p.data.length p.cD, .slice p.AF p.fs.length p.cF]] w6 (RunPost q1.plain w6) from by rw [show .agg #[.int .i64 p.mem, .slice p.AD p.data.length p.cD, .slice p.AF p.fs.length p.cF] = q1.val from Hq1v.out.symm]; exact run_any q1 w6 (HM6.out.at_ Hok1.out))
        clear hX6
        go_wp2_with fail
        refine HR6.out.mono ?_
        rintro e w7 ⟨hb7, hres⟩
        have hG7 := HG6.out.below hb7 HG6.out.lt
        have HX7 := Lib.hid (HX6.out.below hb7 HX6.out.lt)
        have HM7 := Lib.hid (HM6.out.below hb7)
        have HB7 := Lib.hid (HB6.out.trans (hb7.mono HB6.out.size))
        have g0 : w7.cell? ⟨gG, 0, none⟩ = some (.int .i64 0) := hG7.cell 0
        have g1' : w7.cell? ⟨gG, 1, none⟩ = some (.int .i64 0) := hG7.cell 1
        have g2' : w7.cell? ⟨gG, 2, none⟩ = some (.int .i64 0) := hG7.cell 2
        have gf0 := hG7.frozen 0
        have gf1 := hG7.frozen 1
        have gf2 := hG7.frozen 2
        have gl := hG7.lt
        have HG7 := Lib.hid hG7
        clear hb7 hG7 x0 x1 x2 xl HR6 HX6 HM6 HB6 HG6
        obtain ⟨er, ff, nn, vF, rfl⟩ : ∃ (er ff nn : Int) (vF : Value), e = .returned (.tuple #[vF, .agg #[.int .i64 er, .int .i64 ff, .int .i64 nn]]) := by
          rcases hres with ⟨x, -, rfl⟩ | ⟨hs, tops, lps, live, ce, co, -, -, -, -, -, -, -, -, -, -, -, -, rfl⟩
          · exact ⟨x.1, x.2.1, x.2.2, _, rfl⟩
          · exact ⟨0, 0, 0, _, rfl⟩
        clear hres
        by_cases hC4 : C = 4096
        · have c4 : ((C : Int) == 4096) = true := by rw [hC4]; rfl
          have HC4 := Lib.hid hC4
          clear hC4
          as_aux_lemma =>
          obtain ⟨w8, hw8⟩ : ∃ w', w' = ((w7.setCell ⟨gG, 0, none⟩ (.int .i64 er)).setCell ⟨gG, 1, none⟩ (.int .i64 ff)).setCell ⟨gG, 2, none⟩ (.int .i64 nn) := ⟨_, rfl⟩
          have hOw8 : Only (fun b => b = gG) w7 w8 := by rw [hw8]; exact (((Only.refl (fun b => b = gG) w7).setCell (p := ⟨gG, 0, none⟩) (.inl rfl) _).setCell (p := ⟨gG, 1, none⟩) (.inl rfl) _).setCell (p := ⟨gG, 2, none⟩) (.inl rfl) _
          have hgGw8 : Blk w8 gG 37 #[.int .i64 er, .int .i64 ff, .int .i64 nn] := by rw [hw8]; exact ((HG7.out.set_ 0 _).set_ 1 _).set_ 2 _
          have hGx : gG ≠ gx := blk_ne HG7.out HX7.out (by decide)
          have hX8 := HX7.out.only hOw8 (fun e => hGx e.symm)
          have HM8 := Lib.hid (mine_blk HM7.out HG7.out (by decide) (by decide) (by decide) hOw8)
          have HB8 := Lib.hid (HB7.out.trans (hOw8.below (B := w.heap.size) HB7.out.size fun b hb e => by have := Hwg.out; omega))
          obtain ⟨w9, hw9⟩ : ∃ w', w' = w8.alloc (.cells #[.int .i64 131, .int .i64 (f1 : Int), .int .i64 (c3 : Int)] 37) := ⟨_, rfl⟩
          obtain ⟨gW, hgW⟩ : ∃ g, g = w8.heap.size := ⟨_, rfl⟩
          have hb9 : Below w8.heap.size w8 w9 := by rw [hw9]; exact (Below.refl _ _).alloc (Nat.le_refl _) _
          have hW9 : Blk w9 gW 37 #[.int .i64 131, .int .i64 (f1 : Int), .int .i64 (c3 : Int)] := by rw [hw9, hgW]; exact Blk.new _ _ _
          have hG9 := hgGw8.below hb9 hgGw8.lt
          have hWG : gW ≠ gG := fun e => by have := hgGw8.lt; omega
          have hWx : gW ≠ gx := blk_ne hW9 (hX8.below hb9 hX8.lt) (by decide)
          have HWw := Lib.hid (show w.heap.size ≤ gW from by rw [hgW]; exact HB8.out.size)
          have HX9 := Lib.hid (hX8.below hb9 hX8.lt)
          have HM9 := Lib.hid (HM8.out.below hb9)
          have HB9 := Lib.hid (HB8.out.trans (hb9.mono HB8.out.size))
          have HG9 := Lib.hid hG9
          have HW9 := Lib.hid hW9
          have Hw8 := Lib.hid hw8
          have Hw9 := Lib.hid hw9
          have HgW := Lib.hid hgW
          have Hne := Lib.hid (show gG ≠ gx ∧ gW ≠ gG ∧ gW ≠ gx from ⟨hGx, hWG, hWx⟩)
          clear hgGw8 hOw8 hX8 hb9 hW9 hG9 hw8 hw9 hgW hGx hWG hWx HX7 HM7 HB7 HG7 HM8 HB8
          go_upto_region 30 with (fail)
          rw [← Hw8.out]
          clear Hw8 g0 g1' g2' gf0 gf1 gf2 gl
          go_upto_region 31 with (fail)
          rw [← Hw9.out, ← HgW.out]
          clear Hw9 HgW
          have u0 : w9.cell? ⟨gW, 0, none⟩ = some (.int .i64 131) := HW9.out.cell 0
          have u1 : w9.cell? ⟨gW, 1, none⟩ = some (.int .i64 (f1 : Int)) := HW9.out.cell 1
          have u2 : w9.cell? ⟨gW, 2, none⟩ = some (.int .i64 (c3 : Int)) := HW9.out.cell 2
          have ul := HW9.out.lt
          have uf0 := HW9.out.frozen 0
          have uf1 := HW9.out.frozen 1
          have uf2 := HW9.out.frozen 2
          obtain ⟨w10, hw10⟩ : ∃ w', w' = ((w9.setCell ⟨gW, 0, none⟩ (.int .i64 112)).setCell ⟨gW, 1, none⟩ (.int .i64 0)).setCell ⟨gW, 2, none⟩ (.int .i64 0) := ⟨_, rfl⟩
          have hOw10 : Only (fun b => b = gW) w9 w10 := by rw [hw10]; exact (((Only.refl (fun b => b = gW) w9).setCell (p := ⟨gW, 0, none⟩) (.inl rfl) _).setCell (p := ⟨gW, 1, none⟩) (.inl rfl) _).setCell (p := ⟨gW, 2, none⟩) (.inl rfl) _
          have hgWw10 : Blk w10 gW 37 #[.int .i64 112, .int .i64 0, .int .i64 0] := by rw [hw10]; exact ((HW9.out.set_ 0 _).set_ 1 _).set_ 2 _
          have HX10 := Lib.hid (HX9.out.only hOw10 (fun e => Hne.out.2.2 e.symm))
          have HG10 := Lib.hid (HG9.out.only hOw10 (fun e => Hne.out.2.1 e.symm))
          have HM10 := Lib.hid (mine_blk HM9.out HW9.out (by decide) (by decide) (by decide) hOw10)
          have HB10 := Lib.hid (HB9.out.trans (hOw10.below (B := w.heap.size) HB9.out.size fun b hb e => by have := HWw.out; omega))
          have HW10 := Lib.hid hgWw10
          have Hw10 := Lib.hid hw10
          clear hgWw10 hOw10 hw10 HX9 HG9 HM9 HB9 HW9
          go_upto_region 33 with (fail)
          rw [← Hw10.out]
          clear Hw10 u0 u1 u2 ul uf0 uf1 uf2
          obtain ⟨hfl, hfA, hf0, hf1', hf2, hfc⟩ := Hgf.out
          have hcodeB := HM10.out.row.code _ (List.mem_of_getElem? Hq1f.out)
          dsimp only at hcodeB
          rw [List.length_set, hfl, hfA] at hcodeB
          obtain ⟨⟨p0, k0⟩, ⟨p1, k1⟩, kf0, kf1, kl⟩ := own_insAt (ls := g.code.set c3 ⟨14, (C : Int)⟩) hcodeB c3 (by rw [List.length_set, hfl]; exact hc3)
          obtain ⟨q2, hq2v, hq2p, hq2f, hok2, hm2⟩ := mine_codeC HM10.out Hok1.out f1 _ Hq1f.out gc hfA c3 (by dsimp only; rw [List.length_set, hfl]; exact hc3) ⟨0, 0⟩ ⟨of_decide_eq_true rfl, of_decide_eq_true rfl, of_decide_eq_true rfl, of_decide_eq_true rfl⟩
          dsimp only at hq2p hq2f
          rw [List.set_set] at hq2p hq2f
          obtain ⟨w11, hw11⟩ : ∃ w', w' = (w10.setCell ⟨gc, c3 * 2, none⟩ (.int .i64 0)).setCell ⟨gc, c3 * 2 + 1, none⟩ (.int .i64 0) := ⟨_, rfl⟩
          rw [← hw11] at hm2
          have hO11 : Only (fun b => b = gc) w10 w11 := by rw [hw11]; exact ((Only.refl (fun b => b = gc) w10).setCell (p := ⟨gc, c3 * 2, none⟩) (.inl rfl) _).setCell (p := ⟨gc, c3 * 2 + 1, none⟩) (.inl rfl) _
          have hcx : gc ≠ gx := own_blk_ne hcodeB HX10.out (by decide) gc rfl
          have hcG : gc ≠ gG := own_blk_ne hcodeB HG10.out (by decide) gc rfl
          have hcW : gc ≠ gW := own_blk_ne hcodeB HW10.out (by decide) gc rfl
          have HX11 := Lib.hid (HX10.out.only hO11 (fun e => hcx e.symm))
          have HG11 := Lib.hid (HG10.out.only hO11 (fun e => hcG e.symm))
          have HW11 := Lib.hid (HW10.out.only hO11 (fun e => hcW e.symm))
          have HB11 := Lib.hid (HB10.out.trans (hO11.below (B := w.heap.size) HB10.out.size fun b hb e => by have := Hgw.out; omega))
          have HM11 := Lib.hid hm2
          have Hok2 := Lib.hid hok2
          have Hq2v := Lib.hid (hq2v.trans Hq1v.out)
          have Hq2p := Lib.hid hq2p
          have Hq2f := Lib.hid hq2f
          have Hw11 := Lib.hid hw11
          have Hcs := Lib.hid (show gc ≠ gx ∧ gc ≠ gG ∧ gc ≠ gW from ⟨hcx, hcG, hcW⟩)
          clear hfl hfA hf0 hf1' hf2 hfc hcodeB hq2v hq2p hq2f hok2 hm2 hw11 hO11 hcx hcG hcW HM10 HB10 HX10 HG10 HW10
          go_upto_region 36 with (fail)
          rw [← Hw11.out]
          clear Hw11 k0 k1 kf0 kf1 kl 
          have hC5 : ¬ C = 4 := by have := HC4.out; omega
          have c5 : ((C : Int) == 4) = false := by simp; omega
          have HC5 := Lib.hid hC5
          clear hC5
          have hq2P : q2.plain = prgC F C (L : Int) true := by
            rw [Hq2p.out, Hq1P.out]
            obtain ⟨hfl, hfA, hf0, hf1', hf2, hfc⟩ := Hgf.out
            have hn := Hn.out
            have h4 := HC.out
            rw [hf0, hf1', hf2, hfc]
            have h1 := prgG_set (F := F) (C := C) (L := (L : Int)) (ins := insT F C) (ins' := insC F C true) (i := f1) (k := c3) (x := ⟨0, 0⟩) (by omega) hc3 (by unfold insC; rw [if_neg (fun h => by have := h.2.2; have := HC5.out; omega), if_neg (fun h => by have := h.2.2; have := HC5.out; omega), if_neg (by omega), if_neg (by omega)]) (fun j m hj hm h => by unfold insT; rw [if_neg (fun h2 => h (by omega))])
            refine Eq.trans ?_ h1
            congr 1
            congr 2
            refine List.ext_getElem? fun k => ?_
            by_cases hk : k < C
            · by_cases e : k = c3
              · rw [e, List.getElem?_set_self (by simp; exact hc3), List.getElem?_set_self (by simp; exact hc3)]
              · rw [List.getElem?_set_ne (Ne.symm e), List.getElem?_set_ne (Ne.symm e), List.getElem?_map, List.getElem?_map, List.getElem?_range hk]
                show some _ = some _
                unfold insT
                rw [if_neg (by omega)]
            · rw [List.getElem?_eq_none (by simp; omega), List.getElem?_eq_none (by simp; omega)]
          obtain ⟨hfl, hfA, hf0, hf1', hf2, hfc⟩ := Hgf.out
          have hcodeC := HM11.out.row.code _ (List.mem_of_getElem? Hq2f.out)
          dsimp only at hcodeC
          rw [List.length_set, hfl, hfA] at hcodeC
          obtain ⟨⟨p0, k0⟩, ⟨p1, k1⟩, kf0, kf1, kl⟩ := own_insAt (ls := g.code.set c3 ⟨0, 0⟩) hcodeC c2 (by rw [List.length_set, hfl]; exact hc2')
          obtain ⟨q3, hq3v, hq3p, hq3f, hok3, hm3⟩ := mine_codeC HM11.out Hok2.out f1 _ Hq2f.out gc hfA c2 (by dsimp only; rw [List.length_set, hfl]; exact hc2') ⟨17, (F : Int)⟩ ⟨of_decide_eq_true rfl, of_decide_eq_true rfl, by dsimp only; omega, by dsimp only; omega⟩
          have hq3P : q3.plain = prgG F C (L : Int) (insK F C true) := by
            have hcd : g.code.set c3 ⟨0, 0⟩ = (List.range C).map (insC F C true f1) := by
              have h1 : (q2.plain.fs)[f1]? = some ⟨g.args, g.locals, g.results, g.code.set c3 ⟨0, 0⟩⟩ := by unfold PrgM.plain; rw [List.getElem?_map, Hq2f.out]; rfl
              rw [hq2P, prgG_fn (by have := Hn.out; omega)] at h1
              exact (congrArg Fun.code (Option.some.inj h1)).symm
            rw [hq3p, hq2P]
            dsimp only
            rw [hf0, hf1', hf2, hcd]
            exact prgG_set (by have := Hn.out; omega) hc2' (by unfold insK; rw [if_pos (by have := Hn.out; omega)]) (fun j m hj hm h => by unfold insK; rw [if_neg (fun h2 => h (by have := Hn.out; omega))])
          obtain ⟨w12, hw12⟩ : ∃ w', w' = (w11.setCell ⟨gc, c2 * 2, none⟩ (.int .i64 17)).setCell ⟨gc, c2 * 2 + 1, none⟩ (.int .i64 (F : Int)) := ⟨_, rfl⟩
          rw [← hw12] at hm3
          have hO12 : Only (fun b => b = gc) w11 w12 := by rw [hw12]; exact ((Only.refl (fun b => b = gc) w11).setCell (p := ⟨gc, c2 * 2, none⟩) (.inl rfl) _).setCell (p := ⟨gc, c2 * 2 + 1, none⟩) (.inl rfl) _
          have HX12 := Lib.hid (HX11.out.only hO12 (fun e => Hcs.out.1 e.symm))
          have HG12 := Lib.hid (HG11.out.only hO12 (fun e => Hcs.out.2.1 e.symm))
          have HW12 := Lib.hid (HW11.out.only hO12 (fun e => Hcs.out.2.2 e.symm))
          have HB12 := Lib.hid (HB11.out.trans (hO12.below (B := w.heap.size) HB11.out.size fun b hb e => by have := Hgw.out; omega))
          have Hw12 := Lib.hid hw12
          have Hq3P := Lib.hid hq3P
          have HR12 := Lib.hid (show Calls Try.prog 13 #[.agg #[.int .i64 p.mem, .slice p.AD p.data.length p.cD, .slice p.AF p.fs.length p.cF]] w12 (RunPost q3.plain w12) from by rw [show .agg #[.int .i64 p.mem, .slice p.AD p.data.length p.cD, .slice p.AF p.fs.length p.cF] = q3.val from (hq3v.trans Hq2v.out).symm]; exact run_any q3 w12 (hm3.at_ hok3))
          clear hq2P hfl hfA hf0 hf1' hf2 hfc hcodeC hq3v hq3p hq3f hok3 hm3 hq3P hw12 hO12 HX11 HG11 HW11 HB11 HM11
          go_upto_region 39 with (fail)
          rw [← Hw12.out]
          clear Hw12 k0 k1 kf0 kf1 kl
          have x0 : w12.cell? ⟨gx, 0, none⟩ = some (.int .i64 p.mem) := HX12.out.cell 0
          have x1 : w12.cell? ⟨gx, 1, none⟩ = some (.slice p.AD p.data.length p.cD) := HX12.out.cell 1
          have x2 : w12.cell? ⟨gx, 2, none⟩ = some (.slice p.AF p.fs.length p.cF) := HX12.out.cell 2
          have xl := HX12.out.lt
          go_wp2_with fail
          refine HR12.out.mono ?_
          rintro e w13 ⟨hb13, hres⟩
          have HG13 := Lib.hid (HG12.out.below hb13 HG12.out.lt)
          have HW13 := Lib.hid (HW12.out.below hb13 HW12.out.lt)
          have HB13 := Lib.hid (HB12.out.trans (hb13.mono HB12.out.size))
          clear hb13 x0 x1 x2 xl HX12 HG12 HW12 HB12 HR12
          rcases hres with ⟨x, hx, rfl⟩ | ⟨hs, tops, lps, live, ce, co, -, -, -, -, -, -, -, -, -, hok, -, -, -⟩
          · rw [Hq3P.out] at hx
            have hxe := hx.unique (badK HF.out.1 HF.out.2 HC.out.1 HC.out.2 (by omega) (by have := HL.out; omega))
            clear hx
            dsimp only [faultV]
            have g0 := HG13.out.cell 0
            have g1' := HG13.out.cell 1
            have g2' := HG13.out.cell 2
            have gf0 := HG13.out.frozen 0
            have gf1 := HG13.out.frozen 1
            have gf2 := HG13.out.frozen 2
            have gl := HG13.out.lt
            by_cases hF6 : F = 64
            · rw [if_pos hF6] at hxe
              subst hxe
              have c6 : ((F : Int) == 64) = true := by rw [hF6]; rfl
              clear hF6
              obtain ⟨w14, hw14⟩ : ∃ w', w' = ((w13.setCell ⟨gG, 0, none⟩ (.int .i64 112)).setCell ⟨gG, 1, none⟩ (.int .i64 0)).setCell ⟨gG, 2, none⟩ (.int .i64 0) := ⟨_, rfl⟩
              have hOw14 : Only (fun b => b = gG) w13 w14 := by rw [hw14]; exact (((Only.refl (fun b => b = gG) w13).setCell (p := ⟨gG, 0, none⟩) (.inl rfl) _).setCell (p := ⟨gG, 1, none⟩) (.inl rfl) _).setCell (p := ⟨gG, 2, none⟩) (.inl rfl) _
              have hgGw14 : Blk w14 gG 37 #[.int .i64 112, .int .i64 0, .int .i64 0] := by rw [hw14]; exact ((HG13.out.set_ 0 _).set_ 1 _).set_ 2 _
              have HW14 := Lib.hid (HW13.out.only hOw14 (fun e => Hne.out.2.1 e))
              have HB14 := Lib.hid (HB13.out.trans (hOw14.below (B := w.heap.size) HB13.out.size fun b hb e => by have := Hwg.out; omega))
              have HG14 := Lib.hid hgGw14
              have Hw14 := Lib.hid hw14
              clear hgGw14 hOw14 hw14 HG13 HW13 HB13
              go_upto_region 40 with (fail)
              rw [← Hw14.out]
              clear Hw14 g0 g1' g2' gf0 gf1 gf2 gl
              have u0 := HW14.out.cell 0
              have u1 := HW14.out.cell 1
              have u2 := HW14.out.cell 2
              have uf0 := HW14.out.frozen 0
              have uf1 := HW14.out.frozen 1
              have uf2 := HW14.out.frozen 2
              have ul := HW14.out.lt
              obtain ⟨w15, hw15⟩ : ∃ w', w' = ((w14.setCell ⟨gW, 0, none⟩ (.int .i64 133)).setCell ⟨gW, 1, none⟩ (.int .i64 (f1 : Int))).setCell ⟨gW, 2, none⟩ (.int .i64 (c2 : Int)) := ⟨_, rfl⟩
              have hOw15 : Only (fun b => b = gW) w14 w15 := by rw [hw15]; exact (((Only.refl (fun b => b = gW) w14).setCell (p := ⟨gW, 0, none⟩) (.inl rfl) _).setCell (p := ⟨gW, 1, none⟩) (.inl rfl) _).setCell (p := ⟨gW, 2, none⟩) (.inl rfl) _
              have hgWw15 : Blk w15 gW 37 #[.int .i64 133, .int .i64 (f1 : Int), .int .i64 (c2 : Int)] := by rw [hw15]; exact ((HW14.out.set_ 0 _).set_ 1 _).set_ 2 _
              have HG15 := Lib.hid (HG14.out.only hOw15 (fun e => Hne.out.2.1 e.symm))
              have HB15 := Lib.hid (HB14.out.trans (hOw15.below (B := w.heap.size) HB14.out.size fun b hb e => by have := HWw.out; omega))
              have HW15 := Lib.hid hgWw15
              have Hw15 := Lib.hid hw15
              clear hgWw15 hOw15 hw15 HG14 HW14 HB14
              go_upto_region 41 with (fail)
              rw [← Hw15.out]
              clear Hw15 u0 u1 u2 uf0 uf1 uf2 ul
              have u0 : w15.cell? ⟨gW, 0, none⟩ = some (.int .i64 133) := HW15.out.cell 0
              have u1 : w15.cell? ⟨gW, 1, none⟩ = some (.int .i64 (f1 : Int)) := HW15.out.cell 1
              have u2 : w15.cell? ⟨gW, 2, none⟩ = some (.int .i64 (c2 : Int)) := HW15.out.cell 2
              have uf0 := HW15.out.frozen 0
              have uf1 := HW15.out.frozen 1
              have uf2 := HW15.out.frozen 2
              have ul := HW15.out.lt
              obtain ⟨w16, hw16⟩ : ∃ w', w' = ((w15.setCell ⟨gW, 0, none⟩ (.int .i64 112)).setCell ⟨gW, 1, none⟩ (.int .i64 0)).setCell ⟨gW, 2, none⟩ (.int .i64 0) := ⟨_, rfl⟩
              have hOw16 : Only (fun b => b = gW) w15 w16 := by rw [hw16]; exact (((Only.refl (fun b => b = gW) w15).setCell (p := ⟨gW, 0, none⟩) (.inl rfl) _).setCell (p := ⟨gW, 1, none⟩) (.inl rfl) _).setCell (p := ⟨gW, 2, none⟩) (.inl rfl) _
              have hgWw16 : Blk w16 gW 37 #[.int .i64 112, .int .i64 0, .int .i64 0] := by rw [hw16]; exact ((HW15.out.set_ 0 _).set_ 1 _).set_ 2 _
              have HG16 := Lib.hid (HG15.out.only hOw16 (fun e => Hne.out.2.1 e.symm))
              have HB16 := Lib.hid (HB15.out.trans (hOw16.below (B := w.heap.size) HB15.out.size fun b hb e => by have := HWw.out; omega))
              have HW16 := Lib.hid hgWw16
              have Hw16 := Lib.hid hw16
              clear hgWw16 hOw16 hw16 HG15 HW15 HB15
              go_upto_region 43 with (fail)
              rw [← Hw16.out]
              clear Hw16 u0 u1 u2 uf0 uf1 uf2 ul
              have d0 : w16.cell? ⟨gG, 0, none⟩ = some (.int .i64 112) := HG16.out.cell 0
              have d1 : w16.cell? ⟨gG, 1, none⟩ = some (.int .i64 0) := HG16.out.cell 1
              have d2 : w16.cell? ⟨gG, 2, none⟩ = some (.int .i64 0) := HG16.out.cell 2
              have dl := HG16.out.lt
              have e0 : w16.cell? ⟨gW, 0, none⟩ = some (.int .i64 112) := HW16.out.cell 0
              have e1 : w16.cell? ⟨gW, 1, none⟩ = some (.int .i64 0) := HW16.out.cell 1
              have e2 : w16.cell? ⟨gW, 2, none⟩ = some (.int .i64 0) := HW16.out.cell 2
              have el := HW16.out.lt
              go_wp2_with fail
              refine (head13_any _).mono ?_
              rintro e w17 ⟨rfl, hb17⟩
              have HB17 := Lib.hid (HB16.out.trans (hb17.mono HB16.out.size))
              clear hb17
              go_wp2_with fail
              go_ret
              exact ⟨rfl, HB17.out⟩
            · rw [if_neg hF6] at hxe
              rw [show ((F - 1 : Nat) : Int) = (f1 : Int) from by have := Hn.out; omega, show ((C - 2 : Nat) : Int) = (c2 : Int) from by have := Hn.out; omega] at hxe
              subst hxe
              have c6 : ((F : Int) == 64) = false := by simp; omega
              clear hF6
              obtain ⟨w14, hw14⟩ : ∃ w', w' = ((w13.setCell ⟨gG, 0, none⟩ (.int .i64 133)).setCell ⟨gG, 1, none⟩ (.int .i64 (f1 : Int))).setCell ⟨gG, 2, none⟩ (.int .i64 (c2 : Int)) := ⟨_, rfl⟩
              have hOw14 : Only (fun b => b = gG) w13 w14 := by rw [hw14]; exact (((Only.refl (fun b => b = gG) w13).setCell (p := ⟨gG, 0, none⟩) (.inl rfl) _).setCell (p := ⟨gG, 1, none⟩) (.inl rfl) _).setCell (p := ⟨gG, 2, none⟩) (.inl rfl) _
              have hgGw14 : Blk w14 gG 37 #[.int .i64 133, .int .i64 (f1 : Int), .int .i64 (c2 : Int)] := by rw [hw14]; exact ((HG13.out.set_ 0 _).set_ 1 _).set_ 2 _
              have HW14 := Lib.hid (HW13.out.only hOw14 (fun e => Hne.out.2.1 e))
              have HB14 := Lib.hid (HB13.out.trans (hOw14.below (B := w.heap.size) HB13.out.size fun b hb e => by have := Hwg.out; omega))
              have HG14 := Lib.hid hgGw14
              have Hw14 := Lib.hid hw14
              clear hgGw14 hOw14 hw14 HG13 HW13 HB13
              go_upto_region 40 with (fail)
              rw [← Hw14.out]
              clear Hw14 g0 g1' g2' gf0 gf1 gf2 gl
              have u0 := HW14.out.cell 0
              have u1 := HW14.out.cell 1
              have u2 := HW14.out.cell 2
              have uf0 := HW14.out.frozen 0
              have uf1 := HW14.out.frozen 1
              have uf2 := HW14.out.frozen 2
              have ul := HW14.out.lt
              obtain ⟨w15, hw15⟩ : ∃ w', w' = ((w14.setCell ⟨gW, 0, none⟩ (.int .i64 133)).setCell ⟨gW, 1, none⟩ (.int .i64 (f1 : Int))).setCell ⟨gW, 2, none⟩ (.int .i64 (c2 : Int)) := ⟨_, rfl⟩
              have hOw15 : Only (fun b => b = gW) w14 w15 := by rw [hw15]; exact (((Only.refl (fun b => b = gW) w14).setCell (p := ⟨gW, 0, none⟩) (.inl rfl) _).setCell (p := ⟨gW, 1, none⟩) (.inl rfl) _).setCell (p := ⟨gW, 2, none⟩) (.inl rfl) _
              have hgWw15 : Blk w15 gW 37 #[.int .i64 133, .int .i64 (f1 : Int), .int .i64 (c2 : Int)] := by rw [hw15]; exact ((HW14.out.set_ 0 _).set_ 1 _).set_ 2 _
              have HG15 := Lib.hid (HG14.out.only hOw15 (fun e => Hne.out.2.1 e.symm))
              have HB15 := Lib.hid (HB14.out.trans (hOw15.below (B := w.heap.size) HB14.out.size fun b hb e => by have := HWw.out; omega))
              have HW15 := Lib.hid hgWw15
              have Hw15 := Lib.hid hw15
              clear hgWw15 hOw15 hw15 HG14 HW14 HB14
              go_upto_region 41 with (fail)
              rw [← Hw15.out]
              clear Hw15 u0 u1 u2 uf0 uf1 uf2 ul
              have d0 : w15.cell? ⟨gG, 0, none⟩ = some (.int .i64 133) := HG15.out.cell 0
              have d1 : w15.cell? ⟨gG, 1, none⟩ = some (.int .i64 (f1 : Int)) := HG15.out.cell 1
              have d2 : w15.cell? ⟨gG, 2, none⟩ = some (.int .i64 (c2 : Int)) := HG15.out.cell 2
              have dl := HG15.out.lt
              have e0 : w15.cell? ⟨gW, 0, none⟩ = some (.int .i64 133) := HW15.out.cell 0
              have e1 : w15.cell? ⟨gW, 1, none⟩ = some (.int .i64 (f1 : Int)) := HW15.out.cell 1
              have e2 : w15.cell? ⟨gW, 2, none⟩ = some (.int .i64 (c2 : Int)) := HW15.out.cell 2
              have el := HW15.out.lt
              go_wp2_with fail
              refine (head13_any _).mono ?_
              rintro e w17 ⟨rfl, hb17⟩
              have HB17 := Lib.hid (HB15.out.trans (hb17.mono HB15.out.size))
              clear hb17
              go_wp2_with fail
              go_ret
              exact ⟨rfl, HB17.out⟩
          · rw [Hq3P.out] at hok
            exact (bad_facts (badK HF.out.1 HF.out.2 HC.out.1 HC.out.2 (by omega) (by have := HL.out; omega)) hok).elim
        · have c4 : ((C : Int) == 4096) = false := by simp; omega
          have HC4 := Lib.hid hC4
          clear hC4
          as_aux_lemma =>
          obtain ⟨w8, hw8⟩ : ∃ w', w' = ((w7.setCell ⟨gG, 0, none⟩ (.int .i64 er)).setCell ⟨gG, 1, none⟩ (.int .i64 ff)).setCell ⟨gG, 2, none⟩ (.int .i64 nn) := ⟨_, rfl⟩
          have hOw8 : Only (fun b => b = gG) w7 w8 := by rw [hw8]; exact (((Only.refl (fun b => b = gG) w7).setCell (p := ⟨gG, 0, none⟩) (.inl rfl) _).setCell (p := ⟨gG, 1, none⟩) (.inl rfl) _).setCell (p := ⟨gG, 2, none⟩) (.inl rfl) _
          have hgGw8 : Blk w8 gG 37 #[.int .i64 er, .int .i64 ff, .int .i64 nn] := by rw [hw8]; exact ((HG7.out.set_ 0 _).set_ 1 _).set_ 2 _
          have hGx : gG ≠ gx := blk_ne HG7.out HX7.out (by decide)
          have hX8 := HX7.out.only hOw8 (fun e => hGx e.symm)
          have HM8 := Lib.hid (mine_blk HM7.out HG7.out (by decide) (by decide) (by decide) hOw8)
          have HB8 := Lib.hid (HB7.out.trans (hOw8.below (B := w.heap.size) HB7.out.size fun b hb e => by have := Hwg.out; omega))
          obtain ⟨w9, hw9⟩ : ∃ w', w' = w8.alloc (.cells #[.int .i64 131, .int .i64 (f1 : Int), .int .i64 (c3 : Int)] 37) := ⟨_, rfl⟩
          obtain ⟨gW, hgW⟩ : ∃ g, g = w8.heap.size := ⟨_, rfl⟩
          have hb9 : Below w8.heap.size w8 w9 := by rw [hw9]; exact (Below.refl _ _).alloc (Nat.le_refl _) _
          have hW9 : Blk w9 gW 37 #[.int .i64 131, .int .i64 (f1 : Int), .int .i64 (c3 : Int)] := by rw [hw9, hgW]; exact Blk.new _ _ _
          have hG9 := hgGw8.below hb9 hgGw8.lt
          have hWG : gW ≠ gG := fun e => by have := hgGw8.lt; omega
          have hWx : gW ≠ gx := blk_ne hW9 (hX8.below hb9 hX8.lt) (by decide)
          have HWw := Lib.hid (show w.heap.size ≤ gW from by rw [hgW]; exact HB8.out.size)
          have HX9 := Lib.hid (hX8.below hb9 hX8.lt)
          have HM9 := Lib.hid (HM8.out.below hb9)
          have HB9 := Lib.hid (HB8.out.trans (hb9.mono HB8.out.size))
          have HG9 := Lib.hid hG9
          have HW9 := Lib.hid hW9
          have Hw8 := Lib.hid hw8
          have Hw9 := Lib.hid hw9
          have HgW := Lib.hid hgW
          have Hne := Lib.hid (show gG ≠ gx ∧ gW ≠ gG ∧ gW ≠ gx from ⟨hGx, hWG, hWx⟩)
          clear hgGw8 hOw8 hX8 hb9 hW9 hG9 hw8 hw9 hgW hGx hWG hWx HX7 HM7 HB7 HG7 HM8 HB8
          go_upto_region 30 with (fail)
          rw [← Hw8.out]
          clear Hw8 g0 g1' g2' gf0 gf1 gf2 gl
          go_upto_region 31 with (fail)
          rw [← Hw9.out, ← HgW.out]
          clear Hw9 HgW
          have u0 : w9.cell? ⟨gW, 0, none⟩ = some (.int .i64 131) := HW9.out.cell 0
          have u1 : w9.cell? ⟨gW, 1, none⟩ = some (.int .i64 (f1 : Int)) := HW9.out.cell 1
          have u2 : w9.cell? ⟨gW, 2, none⟩ = some (.int .i64 (c3 : Int)) := HW9.out.cell 2
          have ul := HW9.out.lt
          obtain ⟨w10, hw10⟩ : ∃ w', w' = w9 := ⟨_, rfl⟩
          rw [← hw10] at HX9 HG9 HM9 HB9 HW9 u0 u1 u2 ul ⊢
          clear hw10
          have HX10 := HX9
          have HG10 := HG9
          have HM10 := HM9
          have HB10 := HB9
          have HW10 := HW9
          clear u0 u1 u2 ul
          obtain ⟨hfl, hfA, hf0, hf1', hf2, hfc⟩ := Hgf.out
          have hcodeB := HM10.out.row.code _ (List.mem_of_getElem? Hq1f.out)
          dsimp only at hcodeB
          rw [List.length_set, hfl, hfA] at hcodeB
          obtain ⟨⟨p0, k0⟩, ⟨p1, k1⟩, kf0, kf1, kl⟩ := own_insAt (ls := g.code.set c3 ⟨14, (C : Int)⟩) hcodeB c3 (by rw [List.length_set, hfl]; exact hc3)
          obtain ⟨q2, hq2v, hq2p, hq2f, hok2, hm2⟩ := mine_codeC HM10.out Hok1.out f1 _ Hq1f.out gc hfA c3 (by dsimp only; rw [List.length_set, hfl]; exact hc3) ⟨0, 0⟩ ⟨of_decide_eq_true rfl, of_decide_eq_true rfl, of_decide_eq_true rfl, of_decide_eq_true rfl⟩
          dsimp only at hq2p hq2f
          rw [List.set_set] at hq2p hq2f
          obtain ⟨w11, hw11⟩ : ∃ w', w' = (w10.setCell ⟨gc, c3 * 2, none⟩ (.int .i64 0)).setCell ⟨gc, c3 * 2 + 1, none⟩ (.int .i64 0) := ⟨_, rfl⟩
          rw [← hw11] at hm2
          have hO11 : Only (fun b => b = gc) w10 w11 := by rw [hw11]; exact ((Only.refl (fun b => b = gc) w10).setCell (p := ⟨gc, c3 * 2, none⟩) (.inl rfl) _).setCell (p := ⟨gc, c3 * 2 + 1, none⟩) (.inl rfl) _
          have hcx : gc ≠ gx := own_blk_ne hcodeB HX10.out (by decide) gc rfl
          have hcG : gc ≠ gG := own_blk_ne hcodeB HG10.out (by decide) gc rfl
          have hcW : gc ≠ gW := own_blk_ne hcodeB HW10.out (by decide) gc rfl
          have HX11 := Lib.hid (HX10.out.only hO11 (fun e => hcx e.symm))
          have HG11 := Lib.hid (HG10.out.only hO11 (fun e => hcG e.symm))
          have HW11 := Lib.hid (HW10.out.only hO11 (fun e => hcW e.symm))
          have HB11 := Lib.hid (HB10.out.trans (hO11.below (B := w.heap.size) HB10.out.size fun b hb e => by have := Hgw.out; omega))
          have HM11 := Lib.hid hm2
          have Hok2 := Lib.hid hok2
          have Hq2v := Lib.hid (hq2v.trans Hq1v.out)
          have Hq2p := Lib.hid hq2p
          have Hq2f := Lib.hid hq2f
          have Hw11 := Lib.hid hw11
          have Hcs := Lib.hid (show gc ≠ gx ∧ gc ≠ gG ∧ gc ≠ gW from ⟨hcx, hcG, hcW⟩)
          clear hfl hfA hf0 hf1' hf2 hfc hcodeB hq2v hq2p hq2f hok2 hm2 hw11 hO11 hcx hcG hcW HM10 HB10 HX10 HG10 HW10
          go_upto_region 36 with (fail)
          rw [← Hw11.out]
          clear Hw11 k0 k1 kf0 kf1 kl 
          by_cases hC5 : C = 4
          · have c5 : ((C : Int) == 4) = true := by rw [hC5]; rfl
            clear hC5
            go_wp2_with fail
            refine (head13_any _).mono ?_
            rintro e w12 ⟨rfl, hb12⟩
            have HB12 := Lib.hid (HB11.out.trans (hb12.mono HB11.out.size))
            clear hb12
            go_wp2_with fail
            go_ret
            exact ⟨rfl, HB12.out⟩
          · have c5 : ((C : Int) == 4) = false := by simp; omega
            have HC5 := Lib.hid hC5
            clear hC5
            have hq2P : q2.plain = prgC F C (L : Int) true := by
              rw [Hq2p.out, Hq1P.out]
              obtain ⟨hfl, hfA, hf0, hf1', hf2, hfc⟩ := Hgf.out
              have hn := Hn.out
              have h4 := HC.out
              rw [hf0, hf1', hf2, hfc]
              have h1 := prgG_set (F := F) (C := C) (L := (L : Int)) (ins := insT F C) (ins' := insC F C true) (i := f1) (k := c3) (x := ⟨0, 0⟩) (by omega) hc3 (by unfold insC; rw [if_neg (fun h => by have := h.2.2; have := HC5.out; omega), if_neg (fun h => by have := h.2.2; have := HC5.out; omega), if_neg (by omega), if_neg (by omega)]) (fun j m hj hm h => by unfold insT; rw [if_neg (fun h2 => h (by omega))])
              refine Eq.trans ?_ h1
              congr 1
              congr 2
              refine List.ext_getElem? fun k => ?_
              by_cases hk : k < C
              · by_cases e : k = c3
                · rw [e, List.getElem?_set_self (by simp; exact hc3), List.getElem?_set_self (by simp; exact hc3)]
                · rw [List.getElem?_set_ne (Ne.symm e), List.getElem?_set_ne (Ne.symm e), List.getElem?_map, List.getElem?_map, List.getElem?_range hk]
                  show some _ = some _
                  unfold insT
                  rw [if_neg (by omega)]
              · rw [List.getElem?_eq_none (by simp; omega), List.getElem?_eq_none (by simp; omega)]
            obtain ⟨hfl, hfA, hf0, hf1', hf2, hfc⟩ := Hgf.out
            have hcodeC := HM11.out.row.code _ (List.mem_of_getElem? Hq2f.out)
            dsimp only at hcodeC
            rw [List.length_set, hfl, hfA] at hcodeC
            obtain ⟨⟨p0, k0⟩, ⟨p1, k1⟩, kf0, kf1, kl⟩ := own_insAt (ls := g.code.set c3 ⟨0, 0⟩) hcodeC c2 (by rw [List.length_set, hfl]; exact hc2')
            obtain ⟨q3, hq3v, hq3p, hq3f, hok3, hm3⟩ := mine_codeC HM11.out Hok2.out f1 _ Hq2f.out gc hfA c2 (by dsimp only; rw [List.length_set, hfl]; exact hc2') ⟨17, (F : Int)⟩ ⟨of_decide_eq_true rfl, of_decide_eq_true rfl, by dsimp only; omega, by dsimp only; omega⟩
            have hq3P : q3.plain = prgG F C (L : Int) (insK F C true) := by
              have hcd : g.code.set c3 ⟨0, 0⟩ = (List.range C).map (insC F C true f1) := by
                have h1 : (q2.plain.fs)[f1]? = some ⟨g.args, g.locals, g.results, g.code.set c3 ⟨0, 0⟩⟩ := by unfold PrgM.plain; rw [List.getElem?_map, Hq2f.out]; rfl
                rw [hq2P, prgG_fn (by have := Hn.out; omega)] at h1
                exact (congrArg Fun.code (Option.some.inj h1)).symm
              rw [hq3p, hq2P]
              dsimp only
              rw [hf0, hf1', hf2, hcd]
              exact prgG_set (by have := Hn.out; omega) hc2' (by unfold insK; rw [if_pos (by have := Hn.out; omega)]) (fun j m hj hm h => by unfold insK; rw [if_neg (fun h2 => h (by have := Hn.out; omega))])
            obtain ⟨w12, hw12⟩ : ∃ w', w' = (w11.setCell ⟨gc, c2 * 2, none⟩ (.int .i64 17)).setCell ⟨gc, c2 * 2 + 1, none⟩ (.int .i64 (F : Int)) := ⟨_, rfl⟩
            rw [← hw12] at hm3
            have hO12 : Only (fun b => b = gc) w11 w12 := by rw [hw12]; exact ((Only.refl (fun b => b = gc) w11).setCell (p := ⟨gc, c2 * 2, none⟩) (.inl rfl) _).setCell (p := ⟨gc, c2 * 2 + 1, none⟩) (.inl rfl) _
            have HX12 := Lib.hid (HX11.out.only hO12 (fun e => Hcs.out.1 e.symm))
            have HG12 := Lib.hid (HG11.out.only hO12 (fun e => Hcs.out.2.1 e.symm))
            have HW12 := Lib.hid (HW11.out.only hO12 (fun e => Hcs.out.2.2 e.symm))
            have HB12 := Lib.hid (HB11.out.trans (hO12.below (B := w.heap.size) HB11.out.size fun b hb e => by have := Hgw.out; omega))
            have Hw12 := Lib.hid hw12
            have Hq3P := Lib.hid hq3P
            have HR12 := Lib.hid (show Calls Try.prog 13 #[.agg #[.int .i64 p.mem, .slice p.AD p.data.length p.cD, .slice p.AF p.fs.length p.cF]] w12 (RunPost q3.plain w12) from by rw [show .agg #[.int .i64 p.mem, .slice p.AD p.data.length p.cD, .slice p.AF p.fs.length p.cF] = q3.val from (hq3v.trans Hq2v.out).symm]; exact run_any q3 w12 (hm3.at_ hok3))
            clear hq2P hfl hfA hf0 hf1' hf2 hfc hcodeC hq3v hq3p hq3f hok3 hm3 hq3P hw12 hO12 HX11 HG11 HW11 HB11 HM11
            go_upto_region 39 with (fail)
            rw [← Hw12.out]
            clear Hw12 k0 k1 kf0 kf1 kl
            have x0 : w12.cell? ⟨gx, 0, none⟩ = some (.int .i64 p.mem) := HX12.out.cell 0
            have x1 : w12.cell? ⟨gx, 1, none⟩ = some (.slice p.AD p.data.length p.cD) := HX12.out.cell 1
            have x2 : w12.cell? ⟨gx, 2, none⟩ = some (.slice p.AF p.fs.length p.cF) := HX12.out.cell 2
            have xl := HX12.out.lt
            go_wp2_with fail
            refine HR12.out.mono ?_
            rintro e w13 ⟨hb13, hres⟩
            have HG13 := Lib.hid (HG12.out.below hb13 HG12.out.lt)
            have HW13 := Lib.hid (HW12.out.below hb13 HW12.out.lt)
            have HB13 := Lib.hid (HB12.out.trans (hb13.mono HB12.out.size))
            clear hb13 x0 x1 x2 xl HX12 HG12 HW12 HB12 HR12
            rcases hres with ⟨x, hx, rfl⟩ | ⟨hs, tops, lps, live, ce, co, -, -, -, -, -, -, -, -, -, hok, -, -, -⟩
            · rw [Hq3P.out] at hx
              have hxe := hx.unique (badK HF.out.1 HF.out.2 HC.out.1 HC.out.2 (by omega) (by have := HL.out; omega))
              clear hx
              dsimp only [faultV]
              have g0 := HG13.out.cell 0
              have g1' := HG13.out.cell 1
              have g2' := HG13.out.cell 2
              have gf0 := HG13.out.frozen 0
              have gf1 := HG13.out.frozen 1
              have gf2 := HG13.out.frozen 2
              have gl := HG13.out.lt
              by_cases hF6 : F = 64
              · rw [if_pos hF6] at hxe
                subst hxe
                have c6 : ((F : Int) == 64) = true := by rw [hF6]; rfl
                clear hF6
                obtain ⟨w14, hw14⟩ : ∃ w', w' = ((w13.setCell ⟨gG, 0, none⟩ (.int .i64 112)).setCell ⟨gG, 1, none⟩ (.int .i64 0)).setCell ⟨gG, 2, none⟩ (.int .i64 0) := ⟨_, rfl⟩
                have hOw14 : Only (fun b => b = gG) w13 w14 := by rw [hw14]; exact (((Only.refl (fun b => b = gG) w13).setCell (p := ⟨gG, 0, none⟩) (.inl rfl) _).setCell (p := ⟨gG, 1, none⟩) (.inl rfl) _).setCell (p := ⟨gG, 2, none⟩) (.inl rfl) _
                have hgGw14 : Blk w14 gG 37 #[.int .i64 112, .int .i64 0, .int .i64 0] := by rw [hw14]; exact ((HG13.out.set_ 0 _).set_ 1 _).set_ 2 _
                have HW14 := Lib.hid (HW13.out.only hOw14 (fun e => Hne.out.2.1 e))
                have HB14 := Lib.hid (HB13.out.trans (hOw14.below (B := w.heap.size) HB13.out.size fun b hb e => by have := Hwg.out; omega))
                have HG14 := Lib.hid hgGw14
                have Hw14 := Lib.hid hw14
                clear hgGw14 hOw14 hw14 HG13 HW13 HB13
                go_upto_region 40 with (fail)
                rw [← Hw14.out]
                clear Hw14 g0 g1' g2' gf0 gf1 gf2 gl
                have u0 := HW14.out.cell 0
                have u1 := HW14.out.cell 1
                have u2 := HW14.out.cell 2
                have uf0 := HW14.out.frozen 0
                have uf1 := HW14.out.frozen 1
                have uf2 := HW14.out.frozen 2
                have ul := HW14.out.lt
                obtain ⟨w15, hw15⟩ : ∃ w', w' = ((w14.setCell ⟨gW, 0, none⟩ (.int .i64 133)).setCell ⟨gW, 1, none⟩ (.int .i64 (f1 : Int))).setCell ⟨gW, 2, none⟩ (.int .i64 (c2 : Int)) := ⟨_, rfl⟩
                have hOw15 : Only (fun b => b = gW) w14 w15 := by rw [hw15]; exact (((Only.refl (fun b => b = gW) w14).setCell (p := ⟨gW, 0, none⟩) (.inl rfl) _).setCell (p := ⟨gW, 1, none⟩) (.inl rfl) _).setCell (p := ⟨gW, 2, none⟩) (.inl rfl) _
                have hgWw15 : Blk w15 gW 37 #[.int .i64 133, .int .i64 (f1 : Int), .int .i64 (c2 : Int)] := by rw [hw15]; exact ((HW14.out.set_ 0 _).set_ 1 _).set_ 2 _
                have HG15 := Lib.hid (HG14.out.only hOw15 (fun e => Hne.out.2.1 e.symm))
                have HB15 := Lib.hid (HB14.out.trans (hOw15.below (B := w.heap.size) HB14.out.size fun b hb e => by have := HWw.out; omega))
                have HW15 := Lib.hid hgWw15
                have Hw15 := Lib.hid hw15
                clear hgWw15 hOw15 hw15 HG14 HW14 HB14
                go_upto_region 41 with (fail)
                rw [← Hw15.out]
                clear Hw15 u0 u1 u2 uf0 uf1 uf2 ul
                have u0 : w15.cell? ⟨gW, 0, none⟩ = some (.int .i64 133) := HW15.out.cell 0
                have u1 : w15.cell? ⟨gW, 1, none⟩ = some (.int .i64 (f1 : Int)) := HW15.out.cell 1
                have u2 : w15.cell? ⟨gW, 2, none⟩ = some (.int .i64 (c2 : Int)) := HW15.out.cell 2
                have uf0 := HW15.out.frozen 0
                have uf1 := HW15.out.frozen 1
                have uf2 := HW15.out.frozen 2
                have ul := HW15.out.lt
                obtain ⟨w16, hw16⟩ : ∃ w', w' = ((w15.setCell ⟨gW, 0, none⟩ (.int .i64 112)).setCell ⟨gW, 1, none⟩ (.int .i64 0)).setCell ⟨gW, 2, none⟩ (.int .i64 0) := ⟨_, rfl⟩
                have hOw16 : Only (fun b => b = gW) w15 w16 := by rw [hw16]; exact (((Only.refl (fun b => b = gW) w15).setCell (p := ⟨gW, 0, none⟩) (.inl rfl) _).setCell (p := ⟨gW, 1, none⟩) (.inl rfl) _).setCell (p := ⟨gW, 2, none⟩) (.inl rfl) _
                have hgWw16 : Blk w16 gW 37 #[.int .i64 112, .int .i64 0, .int .i64 0] := by rw [hw16]; exact ((HW15.out.set_ 0 _).set_ 1 _).set_ 2 _
                have HG16 := Lib.hid (HG15.out.only hOw16 (fun e => Hne.out.2.1 e.symm))
                have HB16 := Lib.hid (HB15.out.trans (hOw16.below (B := w.heap.size) HB15.out.size fun b hb e => by have := HWw.out; omega))
                have HW16 := Lib.hid hgWw16
                have Hw16 := Lib.hid hw16
                clear hgWw16 hOw16 hw16 HG15 HW15 HB15
                go_upto_region 43 with (fail)
                rw [← Hw16.out]
                clear Hw16 u0 u1 u2 uf0 uf1 uf2 ul
                have d0 : w16.cell? ⟨gG, 0, none⟩ = some (.int .i64 112) := HG16.out.cell 0
                have d1 : w16.cell? ⟨gG, 1, none⟩ = some (.int .i64 0) := HG16.out.cell 1
                have d2 : w16.cell? ⟨gG, 2, none⟩ = some (.int .i64 0) := HG16.out.cell 2
                have dl := HG16.out.lt
                have e0 : w16.cell? ⟨gW, 0, none⟩ = some (.int .i64 112) := HW16.out.cell 0
                have e1 : w16.cell? ⟨gW, 1, none⟩ = some (.int .i64 0) := HW16.out.cell 1
                have e2 : w16.cell? ⟨gW, 2, none⟩ = some (.int .i64 0) := HW16.out.cell 2
                have el := HW16.out.lt
                go_wp2_with fail
                refine (head13_any _).mono ?_
                rintro e w17 ⟨rfl, hb17⟩
                have HB17 := Lib.hid (HB16.out.trans (hb17.mono HB16.out.size))
                clear hb17
                go_wp2_with fail
                go_ret
                exact ⟨rfl, HB17.out⟩
              · rw [if_neg hF6] at hxe
                rw [show ((F - 1 : Nat) : Int) = (f1 : Int) from by have := Hn.out; omega, show ((C - 2 : Nat) : Int) = (c2 : Int) from by have := Hn.out; omega] at hxe
                subst hxe
                have c6 : ((F : Int) == 64) = false := by simp; omega
                clear hF6
                obtain ⟨w14, hw14⟩ : ∃ w', w' = ((w13.setCell ⟨gG, 0, none⟩ (.int .i64 133)).setCell ⟨gG, 1, none⟩ (.int .i64 (f1 : Int))).setCell ⟨gG, 2, none⟩ (.int .i64 (c2 : Int)) := ⟨_, rfl⟩
                have hOw14 : Only (fun b => b = gG) w13 w14 := by rw [hw14]; exact (((Only.refl (fun b => b = gG) w13).setCell (p := ⟨gG, 0, none⟩) (.inl rfl) _).setCell (p := ⟨gG, 1, none⟩) (.inl rfl) _).setCell (p := ⟨gG, 2, none⟩) (.inl rfl) _
                have hgGw14 : Blk w14 gG 37 #[.int .i64 133, .int .i64 (f1 : Int), .int .i64 (c2 : Int)] := by rw [hw14]; exact ((HG13.out.set_ 0 _).set_ 1 _).set_ 2 _
                have HW14 := Lib.hid (HW13.out.only hOw14 (fun e => Hne.out.2.1 e))
                have HB14 := Lib.hid (HB13.out.trans (hOw14.below (B := w.heap.size) HB13.out.size fun b hb e => by have := Hwg.out; omega))
                have HG14 := Lib.hid hgGw14
                have Hw14 := Lib.hid hw14
                clear hgGw14 hOw14 hw14 HG13 HW13 HB13
                go_upto_region 40 with (fail)
                rw [← Hw14.out]
                clear Hw14 g0 g1' g2' gf0 gf1 gf2 gl
                have u0 := HW14.out.cell 0
                have u1 := HW14.out.cell 1
                have u2 := HW14.out.cell 2
                have uf0 := HW14.out.frozen 0
                have uf1 := HW14.out.frozen 1
                have uf2 := HW14.out.frozen 2
                have ul := HW14.out.lt
                obtain ⟨w15, hw15⟩ : ∃ w', w' = ((w14.setCell ⟨gW, 0, none⟩ (.int .i64 133)).setCell ⟨gW, 1, none⟩ (.int .i64 (f1 : Int))).setCell ⟨gW, 2, none⟩ (.int .i64 (c2 : Int)) := ⟨_, rfl⟩
                have hOw15 : Only (fun b => b = gW) w14 w15 := by rw [hw15]; exact (((Only.refl (fun b => b = gW) w14).setCell (p := ⟨gW, 0, none⟩) (.inl rfl) _).setCell (p := ⟨gW, 1, none⟩) (.inl rfl) _).setCell (p := ⟨gW, 2, none⟩) (.inl rfl) _
                have hgWw15 : Blk w15 gW 37 #[.int .i64 133, .int .i64 (f1 : Int), .int .i64 (c2 : Int)] := by rw [hw15]; exact ((HW14.out.set_ 0 _).set_ 1 _).set_ 2 _
                have HG15 := Lib.hid (HG14.out.only hOw15 (fun e => Hne.out.2.1 e.symm))
                have HB15 := Lib.hid (HB14.out.trans (hOw15.below (B := w.heap.size) HB14.out.size fun b hb e => by have := HWw.out; omega))
                have HW15 := Lib.hid hgWw15
                have Hw15 := Lib.hid hw15
                clear hgWw15 hOw15 hw15 HG14 HW14 HB14
                go_upto_region 41 with (fail)
                rw [← Hw15.out]
                clear Hw15 u0 u1 u2 uf0 uf1 uf2 ul
                have d0 : w15.cell? ⟨gG, 0, none⟩ = some (.int .i64 133) := HG15.out.cell 0
                have d1 : w15.cell? ⟨gG, 1, none⟩ = some (.int .i64 (f1 : Int)) := HG15.out.cell 1
                have d2 : w15.cell? ⟨gG, 2, none⟩ = some (.int .i64 (c2 : Int)) := HG15.out.cell 2
                have dl := HG15.out.lt
                have e0 : w15.cell? ⟨gW, 0, none⟩ = some (.int .i64 133) := HW15.out.cell 0
                have e1 : w15.cell? ⟨gW, 1, none⟩ = some (.int .i64 (f1 : Int)) := HW15.out.cell 1
                have e2 : w15.cell? ⟨gW, 2, none⟩ = some (.int .i64 (c2 : Int)) := HW15.out.cell 2
                have el := HW15.out.lt
                go_wp2_with fail
                refine (head13_any _).mono ?_
                rintro e w17 ⟨rfl, hb17⟩
                have HB17 := Lib.hid (HB15.out.trans (hb17.mono HB15.out.size))
                clear hb17
                go_wp2_with fail
                go_ret
                exact ⟨rfl, HB17.out⟩
            · rw [Hq3P.out] at hok
              exact (bad_facts (badK HF.out.1 HF.out.2 HC.out.1 HC.out.2 (by omega) (by have := HL.out; omega)) hok).elim
end Go.Proofs.Ytcmpmhlcfalbhaa
