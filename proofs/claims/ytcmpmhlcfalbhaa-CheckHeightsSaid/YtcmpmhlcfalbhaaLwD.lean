/- The law CheckHeights, walked (printed by gen_lwd.py). -/
import Derived.Test.YtcmpmhlcfalbhaaLwC
namespace Go.Proofs.Ytcmpmhlcfalbhaa
open Go.RowKit

theorem BadAt.ne {P : Prg} {x : Int × Int × Int} (h : BadAt P x) : x.1 ≠ 0 := by
  rcases h with ⟨h1, e⟩ | ⟨-, -, e⟩ | ⟨-, h1⟩ | ⟨-, -, f, n, er, -, -, -, he, e⟩
  · rw [e]; exact h1
  · rw [e]; decide
  · exact firstP_ne h1
  · rw [e]; exact he
set_option maxRecDepth 100000 in
set_option maxHeartbeats 4000000 in
theorem checkHeights_walk (p : PrgM) (w : World) (hp : PrgAt w p) : Calls Try.prog 7 #[p.val] w fun e w' => e = .returned (.bool true) ∧ Below w.heap.size w w' := by
  obtain ⟨w1, hw1⟩ : ∃ w1, w1 = w.alloc (.cells #[.int .i64 p.mem, .slice p.AD p.data.length p.cD, .slice p.AF p.fs.length p.cF] 26) := ⟨_, rfl⟩
  have hb1 : Below w.heap.size w w1 := by rw [hw1]; exact (Below.refl _ _).alloc (Nat.le_refl _) _
  obtain ⟨gx, hgx⟩ : ∃ g, g = w.heap.size := ⟨_, rfl⟩
  have hX : Blk w1 gx 26 #[.int .i64 p.mem, .slice p.AD p.data.length p.cD, .slice p.AF p.fs.length p.cF] := by rw [hw1, hgx]; exact Blk.new _ _ _
  have HX := Lib.hid hX
  have HP1 := Lib.hid (hp.below hb1)
  have HB1 := Lib.hid hb1
  have Hw1 := Lib.hid hw1
  have Hgx := Lib.hid hgx
  have HA := Lib.hid (all13_any p w1 (hp.below hb1))
  have x0 : w1.cell? ⟨gx, 0, none⟩ = some (.int .i64 p.mem) := hX.cell 0
  have x1 : w1.cell? ⟨gx, 1, none⟩ = some (.slice p.AD p.data.length p.cD) := hX.cell 1
  have x2 : w1.cell? ⟨gx, 2, none⟩ = some (.slice p.AF p.fs.length p.cF) := hX.cell 2
  have xl := hX.lt
  clear hp hb1 hX hw1 hgx
  go_enter Try.func7, Try.ntmps7
  go_upto_region 1 with (fail)
  rw [← Hw1.out, ← Hgx.out]
  clear Hw1 Hgx
  go_wp2_with fail
  refine HA.out.mono ?_
  rintro e w2 ⟨⟨x, rfl⟩, hb2⟩
  have Hb2 := Lib.hid (HB1.out.trans (hb2.mono HB1.out.size))
  have hX2 := HX.out.below hb2 HX.out.lt
  have y0 : w2.cell? ⟨gx, 0, none⟩ = some (.int .i64 p.mem) := hX2.cell 0
  have y1 : w2.cell? ⟨gx, 1, none⟩ = some (.slice p.AD p.data.length p.cD) := hX2.cell 1
  have y2 : w2.cell? ⟨gx, 2, none⟩ = some (.slice p.AF p.fs.length p.cF) := hX2.cell 2
  have yl := hX2.lt
  have HX2 := Lib.hid hX2
  have HP2 := Lib.hid (HP1.out.below hb2)
  clear hb2 hX2 x0 x1 x2 xl HA
  by_cases hx : 4000 < x
  · go_wp2_with fail
    refine (head13_any w2).mono ?_
    rintro e w3 ⟨rfl, hb3⟩
    have HB3 := Lib.hid (Hb2.out.trans (hb3.mono Hb2.out.size))
    clear hb3
    go_wp2_with fail
    go_ret
    exact ⟨rfl, HB3.out⟩
  · have HR := Lib.hid (run_any p w2 HP2.out)
    go_wp2_with fail
    refine HR.out.mono ?_
    rintro e w3 ⟨hb3, ⟨x, hx, rfl⟩ | ⟨hs, tops, lps, live, ce, co, HRr, LR, AH, cH, AT, cT, AL, cL, gL, hok, hM, hL, rfl⟩⟩
    · obtain ⟨er, ff, nn⟩ := x
      have her := hx.ne
      dsimp only at her
      have her2 : (er != 0) = true := by simpa using her
      have HB3 := Lib.hid (Hb2.out.trans (hb3.mono Hb2.out.size))
      have Hz := Lib.hid hb3.size
      clear hb3 hx y0 y1 y2 yl HR
      dsimp only [zFacts, faultV]
      go_wp2_with fail
      refine (head13_any _).mono ?_
      rintro e w4 ⟨rfl, hb4⟩
      have HB4 := Lib.hid (show Below w.heap.size w w4 from (((HB3.out.alloc HB3.out.size _).alloc (by have := HB3.out.size; simp; omega) _)).trans (hb4.mono (by have := HB3.out.size; simp; omega)))
      clear hb4
      go_wp2_with fail
      go_ret
      exact ⟨rfl, HB4.out⟩
    · have hnl : p.plain.fs.length = p.fs.length := by simp [PrgM.plain]
      obtain ⟨n, hn⟩ : ∃ n, n = p.fs.length := ⟨_, rfl⟩
      have hhl : hs.length = n := by rw [hok.lh, hnl, hn]
      have htl : tops.length = n := by rw [hok.lt, hnl, hn]
      obtain ⟨nl, hnl2⟩ : ∃ x, x = lps.length := ⟨_, rfl⟩
      obtain ⟨nv, hnv⟩ : ∃ x, x = live.length := ⟨_, rfl⟩
      have hn64 : 1 ≤ n ∧ n ≤ 64 := by have := good_many hok.lead.chk; rw [hnl, ← hn] at this; exact this
      rw [hhl, htl, ← hnl2, ← hnv]
      rw [← hn] at y2
      obtain ⟨bh, -, hAH, -, hbh, -, -⟩ := rows_at hM.hh hM.sh hM.oh (f := 0) (by omega)
      obtain ⟨bt, hAT, -, hbt, hct⟩ := own_pos hM.ot (by omega)
      have HAH := Lib.hid hAH
      have HAT := Lib.hid hAT
      rw [hAH, hAT]
      obtain ⟨gF, hgF⟩ : ∃ g, g = w3.heap.size := ⟨_, rfl⟩
      obtain ⟨w4, hw4⟩ : ∃ w4, w4 = (w3.alloc (.cells #[.slice (some ⟨bh, 0, none⟩) n cH, .slice (some ⟨bt, 0, none⟩) n cT, .slice AL nl cL, .slice (some ⟨gL, 0, none⟩) nv nv, .int .i64 ce, .int .i64 co] 32)).alloc (.cells #[.int .i64 0, .int .i64 0, .int .i64 0] 37) := ⟨_, rfl⟩
      have hb4 : Below w3.heap.size w3 w4 := by rw [hw4]; exact ((Below.refl _ _).alloc (Nat.le_refl _) _).alloc (by simp) _
      have hF4 : Blk w4 gF 32 #[.slice (some ⟨bh, 0, none⟩) n cH, .slice (some ⟨bt, 0, none⟩) n cT, .slice AL nl cL, .slice (some ⟨gL, 0, none⟩) nv nv, .int .i64 ce, .int .i64 co] := by rw [hw4, hgF]; exact (Blk.new w3 _ _).alloc _
      obtain ⟨gG, hgG⟩ : ∃ g, g = w3.heap.size + 1 := ⟨_, rfl⟩
      have hG4 : Blk w4 gG 37 #[.int .i64 0, .int .i64 0, .int .i64 0] := by rw [hw4, hgG]; exact Blk.new2 _ _ _ _
      have HgG := Lib.hid hgG
      have g0 : w4.cell? ⟨gG, 0, none⟩ = some (.int .i64 0) := hG4.cell 0
      have gl := hG4.lt
      have hX4 := (HX2.out.below hb3 HX2.out.lt).below hb4 (HX2.out.below hb3 HX2.out.lt).lt
      have hM4 := hM.below hb4
      have HB4 := Lib.hid (show Below w.heap.size w w4 from (Hb2.out.trans (hb3.mono Hb2.out.size)).trans (hb4.mono (Nat.le_trans Hb2.out.size hb3.size)))
      have HP4 := Lib.hid ((HP2.out.below hb3).below hb4)
      have HF4 := Lib.hid hF4
      have HX4 := Lib.hid hX4
      have HM4 := Lib.hid hM4
      have HgF := Lib.hid hgF
      have Hw4 := Lib.hid hw4
      have Hn := Lib.hid hn
      have Hok := Lib.hid hok
      have Hhl := Lib.hid hhl
      have Htl := Lib.hid htl
      have Hnl := Lib.hid hnl
      have f0 : w4.cell? ⟨gF, 0, none⟩ = some (.slice (some ⟨bh, 0, none⟩) n cH) := hF4.cell 0
      have f1 : w4.cell? ⟨gF, 1, none⟩ = some (.slice (some ⟨bt, 0, none⟩) n cT) := hF4.cell 1
      have fl := hF4.lt
      have y04 : w4.cell? ⟨gx, 0, none⟩ = some (.int .i64 p.mem) := hX4.cell 0
      have y14 : w4.cell? ⟨gx, 1, none⟩ = some (.slice p.AD p.data.length p.cD) := hX4.cell 1
      have y24 : w4.cell? ⟨gx, 2, none⟩ = some (.slice p.AF n p.cF) := by rw [hn]; exact hX4.cell 2
      have yl4 := hX4.lt
      clear hG4 hgG hb3 hb4 hF4 hX4 hM4 hgF hw4 hn hok hhl htl hnl hM hL hbh hct hbt hAH hAT hnl2 hnv y0 y1 y2 yl HR
      dsimp only [faultV]
      go_upto_region 4 with (fail)
      rw [← Hw4.out, ← HgG.out, ← HgF.out]
      clear Hw4 HgF HgG
      go_wp2_with fail
      go_loopw [5] (fun i wr => ∃ f : Nat, f ≤ n ∧ i = .int .i64 (f : Int) ∧ Below w4.heap.size w4 wr) (fun i _ => n - (intOf i).toNat)
      case atStart => exact ⟨0, Nat.zero_le _, rfl, Below.refl _ _⟩
      case round =>
        rename World => wr
        obtain ⟨f, hf, rfl, hB⟩ := hrel
        have HB := Lib.hid hB
        have hXr := HX4.out.below hB HX4.out.lt
        have hFr := HF4.out.below hB HF4.out.lt
        have x0 : wr.cell? ⟨gx, 0, none⟩ = some (.int .i64 p.mem) := hXr.cell 0
        have x1 : wr.cell? ⟨gx, 1, none⟩ = some (.slice p.AD p.data.length p.cD) := hXr.cell 1
        have x2 : wr.cell? ⟨gx, 2, none⟩ = some (.slice p.AF n p.cF) := by rw [Hn.out]; exact hXr.cell 2
        have xl := hXr.lt
        have q0 : wr.cell? ⟨gF, 0, none⟩ = some (.slice (some ⟨bh, 0, none⟩) n cH) := hFr.cell 0
        have q1 : wr.cell? ⟨gF, 1, none⟩ = some (.slice (some ⟨bt, 0, none⟩) n cT) := hFr.cell 1
        have ql := hFr.lt
        by_cases hlt : f < n
        · have g1 : (f : Int) < (n : Int) := by omega
          have hMr := HM4.out.below hB
          have hfs : f < hs.length := by rw [Hhl.out]; exact hlt
          have hfP : f < p.plain.fs.length := by rw [Hnl.out, ← Hn.out]; exact hlt
          obtain ⟨b, r, hA, -, hb, hc, hO⟩ := rows_at hMr.hh hMr.sh hMr.oh hfs
          rw [HAH.out] at hA
          injection hA with hA
          injection hA with e1 e2
          subst e1
          obtain ⟨b2, hA2, -, hb2, hc2⟩ := own_pos hMr.ot (by rw [Htl.out]; omega)
          rw [HAT.out] at hA2
          injection hA2 with hA2
          injection hA2 with e3 e4
          subst e3
          obtain ⟨top, htop⟩ : ∃ t, t = tops.getD f 0 := ⟨_, rfl⟩
          have hct := hc2 f (.int .i64 top) (by rw [List.getElem?_map, List.getElem?_eq_getElem (by rw [Htl.out]; exact hlt), htop, getD_get (by rw [Htl.out]; exact hlt)]; rfl)
          obtain ⟨h, hh⟩ : ∃ h, h = hs.getD f [] := ⟨_, rfl⟩
          rw [← hh] at hc hO
          have HAg := Lib.hid (agrees_any p f h top r.A r.c wr.drew (((HP4.out.below hB).below (Below.refl _ wr).drew)) Hok.out.good (by rw [← Hn.out]; exact hlt) (by rw [hh]; exact Hok.out.fin f hfP) (by rw [hh, htop]; exact Hok.out.top f hfP) (RV.of_own (Own.below hO ((Below.refl _ wr).drew) (Nat.le_refl _))))
          rw [show p.val = .agg #[.int .i64 p.mem, .slice p.AD p.data.length p.cD, .slice p.AF n p.cF] from by rw [Hn.out]] at HAg
          clear hMr hXr hFr hO hc2 hB htop hh
          go_upto_region 11 with (fail)
          obtain ⟨SC, hSCd⟩ : ∃ S : World → Prop, S = fun w' => (w'.cell? ⟨gx, 0, none⟩ = some (.int .i64 p.mem) ∧ w'.cell? ⟨gx, 1, none⟩ = some (.slice p.AD p.data.length p.cD) ∧ w'.cell? ⟨gx, 2, none⟩ = some (.slice p.AF n p.cF) ∧ gx < w'.heap.size) ∧ (w'.cell? ⟨gF, 0, none⟩ = some (.slice (some ⟨bh, 0, none⟩) n cH) ∧ w'.cell? ⟨gF, 1, none⟩ = some (.slice (some ⟨bt, 0, none⟩) n cT) ∧ gF < w'.heap.size) ∧ (w'.cell? ⟨bh, f, none⟩ = some (.slice r.A h.length r.c) ∧ bh < w'.heap.size) ∧ (w'.cell? ⟨bt, f, none⟩ = some (.int .i64 top) ∧ bt < w'.heap.size) := ⟨_, rfl⟩
          have hSC : SC wr.drew := by rw [hSCd]; exact ⟨⟨x0, x1, x2, xl⟩, ⟨q0, q1, ql⟩, ⟨hc, hb⟩, ⟨hct, hb2⟩⟩
          have HSC := Lib.hid (show SC wr.drew from hSC)
          have HSd := Lib.hid hSCd
          clear hSC hSCd
          refine region_heldT 14 SC (by kernel_rfl) (by decide) ?_
          refine HeadW.takeA 0 (v := .agg #[.int .i64 p.mem, .slice p.AD p.data.length p.cD, .slice p.AF n p.cF]) rfl (by kernel_rfl) rfl (by decide) (fun _ _ _ hL => seqB_ready hL.1) (by kernel_rfl) (by kernel_rfl) (fun _ _ _ h => h) HSC.out (.inl ⟨by kernel_rfl, by intro w hSw; rw [HSd.out] at hSw; obtain ⟨⟨e0, e1, e2, l0⟩, ⟨e3, e4, l1⟩, ⟨e5, l2⟩, ⟨e6, l3⟩⟩ := hSw; go_simp⟩) ?_
          simp only [Act.put, List.setIfInBounds_toArray]
          refine HeadW.takeA 1 (v := .int .i64 (f : Int)) rfl (by kernel_rfl) rfl (by decide) (fun _ _ _ hL => seqB_ready hL.1) (by kernel_rfl) (by kernel_rfl) (fun _ _ _ h => h) HSC.out (.inl ⟨by kernel_rfl, by intro w hSw; rw [HSd.out] at hSw; obtain ⟨⟨e0, e1, e2, l0⟩, ⟨e3, e4, l1⟩, ⟨e5, l2⟩, ⟨e6, l3⟩⟩ := hSw; go_simp⟩) ?_
          simp only [Act.put]
          refine HeadW.takeA 2 (v := .pointer (some ⟨gF, 0, none⟩)) rfl (by kernel_rfl) rfl (by decide) (fun _ _ _ hL => seqB_ready hL.1) (by kernel_rfl) (by kernel_rfl) (fun _ _ _ h => h) HSC.out (.inl ⟨by kernel_rfl, by intro w hSw; rw [HSd.out] at hSw; obtain ⟨⟨e0, e1, e2, l0⟩, ⟨e3, e4, l1⟩, ⟨e5, l2⟩, ⟨e6, l3⟩⟩ := hSw; go_simp⟩) ?_
          simp only [Act.put]
          refine HeadW.takeA 3 (v := .slice (some ⟨bh, 0, none⟩) n cH) rfl (by kernel_rfl) rfl (by decide) (fun _ _ _ hL => seqB_ready hL.1) (by kernel_rfl) (by kernel_rfl) (fun _ _ _ h => h) HSC.out (.inl ⟨by kernel_rfl, by intro w hSw; rw [HSd.out] at hSw; obtain ⟨⟨e0, e1, e2, l0⟩, ⟨e3, e4, l1⟩, ⟨e5, l2⟩, ⟨e6, l3⟩⟩ := hSw; go_simp⟩) ?_
          simp only [Act.put]
          refine HeadW.takeA 4 (v := .int .i64 (f : Int)) rfl (by kernel_rfl) rfl (by decide) (fun _ _ _ hL => seqB_ready hL.1) (by kernel_rfl) (by kernel_rfl) (fun _ _ _ h => h) HSC.out (.inl ⟨by kernel_rfl, by intro w hSw; rw [HSd.out] at hSw; obtain ⟨⟨e0, e1, e2, l0⟩, ⟨e3, e4, l1⟩, ⟨e5, l2⟩, ⟨e6, l3⟩⟩ := hSw; go_simp⟩) ?_
          simp only [Act.put]
          refine HeadW.takeA 5 (v := .pointer (some ⟨bh, f, none⟩)) rfl (by kernel_rfl) rfl (by decide) (fun _ _ _ hL => seqB_ready hL.1) (by kernel_rfl) (by kernel_rfl) (fun _ _ _ h => h) HSC.out (.inl ⟨by kernel_rfl, by intro w hSw; rw [HSd.out] at hSw; obtain ⟨⟨e0, e1, e2, l0⟩, ⟨e3, e4, l1⟩, ⟨e5, l2⟩, ⟨e6, l3⟩⟩ := hSw; go_simp⟩) ?_
          simp only [Act.put]
          refine HeadW.takeA 6 (v := .slice r.A h.length r.c) rfl (by kernel_rfl) rfl (by decide) (fun _ _ _ hL => seqB_ready hL.1) (by kernel_rfl) (by kernel_rfl) (fun _ _ _ h => h) HSC.out (.inl ⟨by kernel_rfl, by intro w hSw; rw [HSd.out] at hSw; obtain ⟨⟨e0, e1, e2, l0⟩, ⟨e3, e4, l1⟩, ⟨e5, l2⟩, ⟨e6, l3⟩⟩ := hSw; go_simp⟩) ?_
          simp only [Act.put]
          refine HeadW.takeA 7 (v := .pointer (some ⟨gF, 1, none⟩)) rfl (by kernel_rfl) rfl (by decide) (fun _ _ _ hL => seqB_ready hL.1) (by kernel_rfl) (by kernel_rfl) (fun _ _ _ h => h) HSC.out (.inl ⟨by kernel_rfl, by intro w hSw; rw [HSd.out] at hSw; obtain ⟨⟨e0, e1, e2, l0⟩, ⟨e3, e4, l1⟩, ⟨e5, l2⟩, ⟨e6, l3⟩⟩ := hSw; go_simp⟩) ?_
          simp only [Act.put]
          refine HeadW.takeA 8 (v := .slice (some ⟨bt, 0, none⟩) n cT) rfl (by kernel_rfl) rfl (by decide) (fun _ _ _ hL => seqB_ready hL.1) (by kernel_rfl) (by kernel_rfl) (fun _ _ _ h => h) HSC.out (.inl ⟨by kernel_rfl, by intro w hSw; rw [HSd.out] at hSw; obtain ⟨⟨e0, e1, e2, l0⟩, ⟨e3, e4, l1⟩, ⟨e5, l2⟩, ⟨e6, l3⟩⟩ := hSw; go_simp⟩) ?_
          simp only [Act.put]
          refine HeadW.takeA 9 (v := .int .i64 (f : Int)) rfl (by kernel_rfl) rfl (by decide) (fun _ _ _ hL => seqB_ready hL.1) (by kernel_rfl) (by kernel_rfl) (fun _ _ _ h => h) HSC.out (.inl ⟨by kernel_rfl, by intro w hSw; rw [HSd.out] at hSw; obtain ⟨⟨e0, e1, e2, l0⟩, ⟨e3, e4, l1⟩, ⟨e5, l2⟩, ⟨e6, l3⟩⟩ := hSw; go_simp⟩) ?_
          simp only [Act.put]
          refine HeadW.takeA 10 (v := .pointer (some ⟨bt, f, none⟩)) rfl (by kernel_rfl) rfl (by decide) (fun _ _ _ hL => seqB_ready hL.1) (by kernel_rfl) (by kernel_rfl) (fun _ _ _ h => h) HSC.out (.inl ⟨by kernel_rfl, by intro w hSw; rw [HSd.out] at hSw; obtain ⟨⟨e0, e1, e2, l0⟩, ⟨e3, e4, l1⟩, ⟨e5, l2⟩, ⟨e6, l3⟩⟩ := hSw; go_simp⟩) ?_
          simp only [Act.put]
          refine HeadW.takeA 11 (v := .int .i64 top) rfl (by kernel_rfl) rfl (by decide) (fun _ _ _ hL => seqB_ready hL.1) (by kernel_rfl) (by kernel_rfl) (fun _ _ _ h => h) HSC.out (.inl ⟨by kernel_rfl, by intro w hSw; rw [HSd.out] at hSw; obtain ⟨⟨e0, e1, e2, l0⟩, ⟨e3, e4, l1⟩, ⟨e5, l2⟩, ⟨e6, l3⟩⟩ := hSw; go_simp⟩) ?_
          simp only [Act.put]
          refine headW_one 12 rfl (by decide) (by kernel_rfl) (by kernel_rfl) fun K hK => ?_
          go_simp
          refine HAg.out.mono ?_
          rintro e w5 ⟨rfl, hb5⟩
          have hb5' : Below wr.heap.size wr w5 := (Below.refl _ wr).drew.trans hb5
          have hSC2 : SC w5 := by
            have h := HSC.out
            rw [HSd.out] at h ⊢
            obtain ⟨⟨e0, e1, e2, l0⟩, ⟨e3, e4, l1⟩, ⟨e5, l2⟩, ⟨e6, l3⟩⟩ := h
            obtain ⟨hc, -⟩ := bcell hb5'
            have hz := hb5'.size
            exact ⟨⟨(hc _ _ l0).trans e0, (hc _ _ l0).trans e1, (hc _ _ l0).trans e2, by omega⟩, ⟨(hc _ _ l1).trans e3, (hc _ _ l1).trans e4, by omega⟩, ⟨(hc _ _ l2).trans e5, by omega⟩, ⟨(hc _ _ l3).trans e6, by omega⟩⟩
          have HB5 := Lib.hid (show Below w4.heap.size w4 w5 from HB.out.trans (hb5'.mono HB.out.size))
          refine hK.out _ _ hSC2 (fun hHeld => ?_)
          clear hK K hHeld hb5 hb5'
          refine headW_one 13 rfl (by decide) (by kernel_rfl) (by kernel_rfl) fun K hK => ?_
          go_simp
          refine hK.out _ _ hSC2 (fun hHeld => ?_)
          clear hK K hHeld
          refine fun hInv => ⟨by kernel_rfl, ?_⟩
          clear hInv
          simp only [List.drop_succ_cons, List.drop_zero]
          clear HSC HSd hSC2 SC
          go_wp2_with fail
          refine ⟨⟨f + 1, by omega, rfl, HB5.out⟩, ?_⟩
          simp [intOf]; omega
        · obtain rfl : f = n := by omega
          clear hXr hFr hB
          go_wp2_with fail
          refine (head13_any wr).mono ?_
          rintro e w5 ⟨rfl, hb5⟩
          have HB5 := Lib.hid (show Below w.heap.size w w5 from (HB4.out.trans (HB.out.mono HB4.out.size)).trans (hb5.mono (Nat.le_trans HB4.out.size HB.out.size)))
          clear hb5
          go_wp2_with fail
          go_ret
          exact ⟨rfl, HB5.out⟩
end Go.Proofs.Ytcmpmhlcfalbhaa
