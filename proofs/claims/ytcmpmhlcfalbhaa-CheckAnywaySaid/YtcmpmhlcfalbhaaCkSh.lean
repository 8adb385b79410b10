/- The law's round and shaped (printed by gen_cksh.py). -/
import Derived.Test.YtcmpmhlcfalbhaaLwPa
import Derived.Test.YtcmpmhlcfalbhaaPrgC
namespace Go.Proofs.Ytcmpmhlcfalbhaa
open Go.RowKit

theorem round13_any (i : Int) (n k : Nat) (hk : (k : Int) = i % (n : Int)) (hn : 0 < n) (hn2 : n ≤ 9223372036854775807) (w : World) :
    Calls Try.prog 11 #[.int .i64 i, .int .i64 (n : Int)] w fun e w' => e = .returned (.int .i64 (k : Int)) ∧ w' = w := by
  have h1 := Int.emod_nonneg i (b := (n : Int)) (by omega)
  have h2 := Int.emod_lt_of_pos i (b := (n : Int)) (by omega)
  have H3 := Lib.hid hk
  obtain ⟨t, ht⟩ : ∃ t, t = i.tmod (n : Int) := ⟨_, rfl⟩
  have htm := Int.tmod_add_mul_tdiv i (n : Int)
  have hlo : -(n : Int) < t ∧ t < n := by
    rw [ht]
    have := Int.lt_tmod_of_pos i (b := (n : Int)) (by omega)
    have := Int.tmod_lt_of_pos i (b := (n : Int)) (by omega)
    omega
  have hfin : (if t < 0 then t + (n : Int) else t) = i % (n : Int) := by
    have h : t = i - (n : Int) * i.tdiv n := by rw [ht]; omega
    by_cases h0 : t < 0
    · rw [if_pos h0]
      have : (t + (n : Int)) % (n : Int) = i % (n : Int) := by
        rw [h, Int.add_emod_right, Int.sub_mul_emod_self_left]
      rw [← this, Int.emod_eq_of_lt (by omega) (by omega)]
    · rw [if_neg h0]
      have : t % (n : Int) = i % (n : Int) := by rw [h, Int.sub_mul_emod_self_left]
      rw [← this, Int.emod_eq_of_lt (by omega) (by omega)]
  have Hfin := Lib.hid hfin
  have Ht := Lib.hid ht
  have hnn : ((n : Int) == 0) = false := by rw [beq_eq_false_iff_ne]; omega
  have hrem : i.tmod (n : Int) = t := ht.symm
  obtain ⟨hlo1, hlo2⟩ := hlo
  have hnpos : (1 : Int) ≤ n := by omega
  clear hfin ht htm h1 h2 hk
  by_cases h0 : t < 0
  · rw [if_pos h0] at Hfin
    go_enter Try.func11, Try.ntmps11
    go_wp2_with fail
    go_ret
    exact ⟨by rw [H3.out, ← Hfin.out]; rfl, rfl⟩
  · rw [if_neg h0] at Hfin
    go_enter Try.func11, Try.ntmps11
    go_wp2_with fail
    go_ret
    exact ⟨by rw [H3.out, ← Hfin.out]; rfl, rfl⟩
abbrev Shaped (P : Prg) : Prop := Lead P ∧ firstP P P.fs 0 = none
def ShapedPost (P : Prg) (w : World) (e : Ending) (w' : World) : Prop := (∃ b, e = .returned (.bool b) ∧ (b = true ↔ Shaped P)) ∧ Below w.heap.size w w'
set_option maxRecDepth 100000 in
set_option maxHeartbeats 4000000 in
theorem shaped13_any (p : PrgM) (w : World) (h : PrgAt w p) : Calls Try.prog 27 #[p.val] w (ShapedPost p.plain w) := by
  obtain ⟨w1, hw1⟩ : ∃ w1, w1 = w.alloc (.cells #[.int .i64 p.mem, .slice p.AD p.data.length p.cD, .slice p.AF p.fs.length p.cF] 26) := ⟨_, rfl⟩
  have hb1 : Below w.heap.size w w1 := by rw [hw1]; exact (Below.refl _ _).alloc (Nat.le_refl _) _
  obtain ⟨gx, hgx⟩ : ∃ g, g = w.heap.size := ⟨_, rfl⟩
  have hX : Blk w1 gx 26 #[.int .i64 p.mem, .slice p.AD p.data.length p.cD, .slice p.AF p.fs.length p.cF] := by rw [hw1, hgx]; exact Blk.new _ _ _
  obtain ⟨ch, hch⟩ : ∃ x, x = checkL p.plain := ⟨_, rfl⟩
  have hfl : p.fs.length ≤ 2932031007402 := h.flen
  have HCk := Lib.hid (refCheck_any p w1 (h.below hb1))
  rw [← hch] at HCk
  have Hch := Lib.hid hch
  have HX := Lib.hid hX
  have HB1 := Lib.hid hb1
  have Hw1 := Lib.hid hw1
  have Hgx := Lib.hid hgx
  have HP := Lib.hid (h.below hb1)
  have x0 : w1.cell? ⟨gx, 0, none⟩ = some (.int .i64 p.mem) := hX.cell 0
  have x1 : w1.cell? ⟨gx, 1, none⟩ = some (.slice p.AD p.data.length p.cD) := hX.cell 1
  have x2 : w1.cell? ⟨gx, 2, none⟩ = some (.slice p.AF p.fs.length p.cF) := hX.cell 2
  have xl := hX.lt
  clear h hw1 hb1 hX hgx hch
  by_cases hc : ch = 0
  · subst hc
    obtain ⟨g, hg⟩ : ∃ g, p.fs[0]? = some g := by
      have h1 := (good_many Hch.out.symm).1
      have h3 : p.plain.fs.length = p.fs.length := by unfold PrgM.plain; rw [List.length_map]
      have h2 : 0 < p.fs.length := by omega
      exact ⟨_, List.getElem?_eq_getElem h2⟩
    obtain ⟨b0, off0, hA, hb0, q0, q1, q2, q3, hF, hFl⟩ := HP.out.fn hg
    have Hag := Lib.hid (show p.plain.args 0 = g.args ∧ p.plain.results 0 = g.results from ⟨PrgM.args_plain (f := 0) hg, PrgM.results_plain (f := 0) hg⟩)
    have HA := Lib.hid hA
    have Hg := Lib.hid hg
    rw [Nat.zero_mul, Nat.add_zero] at q0 q2
    rw [hA] at x2
    clear hg hA q1 q3 hF
    by_cases ha : g.args = 0
    · have ha1 : (g.args == 0) = true := by simpa using ha
      have ha2 : (g.args != 0) = false := by simpa using ha
      by_cases hr : g.results = 1
      · have HLd := Lib.hid (show Lead p.plain from ⟨Hch.out.symm, by rw [Hag.out.1]; exact ha, by rw [Hag.out.2]; exact hr⟩)
        rw [ha] at q0
        rw [hr] at q2
        clear ha ha1 ha2 hr
        go_enter Try.func27, Try.ntmps27
        go_upto_region 1 with (fail)
        rw [← Hw1.out, ← Hgx.out]
        clear Hw1
        go_wp2_with fail
        have HCk2 := HCk.out
        rw [show p.val = .agg #[.int .i64 p.mem, .slice p.AD p.data.length p.cD, .slice (some ⟨b0, off0, none⟩) p.fs.length p.cF] from by show Value.agg #[.int .i64 p.mem, .slice p.AD p.data.length p.cD, .slice p.AF p.fs.length p.cF] = _; rw [HA.out]] at HCk2
        refine HCk2.mono ?_
        clear HCk2
        rintro e w6 ⟨rfl, hb6⟩
        have HBN := Lib.hid hb6
        obtain ⟨hc6, -⟩ := bcell hb6
        have hz6 := hb6.size
        have x06 := (hc6 _ _ xl).trans x0
        have x16 := (hc6 _ _ xl).trans x1
        have x26 := (hc6 _ _ xl).trans x2
        have xl6 : gx < w6.heap.size := Nat.lt_of_lt_of_le xl hz6
        have q06 := (hc6 _ _ hb0).trans q0
        have hb06 : b0 < w6.heap.size := Nat.lt_of_lt_of_le hb0 hz6
        have q26 := (hc6 _ _ hb0).trans q2
        clear hc6 hz6 hb6
        obtain ⟨R, hR⟩ : ∃ R, R = firstP p.plain p.plain.fs 0 := ⟨_, rfl⟩
        have HR := Lib.hid (show R = firstP p.plain ((p.fs.drop 0).map FunM.plain) 0 from hR)
        have HRe := Lib.hid hR
        have HXw := Lib.hid (HX.out.below HBN.out HX.out.lt)
        have HPw := Lib.hid (HP.out.below HBN.out)
        have HBw := Lib.hid (HB1.out.trans (HBN.out.mono HB1.out.size))
        clear x0 x1 x2 xl q0 q2 hR HCk
        go_wp2_with fail
        clear x06 x16 x26 xl6 q06 q26 hb06 HBN
        go_loopw [3] (fun i wr => ∃ k : Nat, k ≤ p.fs.length ∧ i = .int .i64 k ∧ Hid (R = firstP p.plain ((p.fs.drop k).map FunM.plain) k) ∧ Below w6.heap.size w6 wr) (fun i _ => p.fs.length - (intOf i).toNat)
        case atStart => exact ⟨0, Nat.zero_le _, rfl, HR, Below.refl _ _⟩
        case round =>
          rename World => w2
          clear HR
          obtain ⟨k, hk, rfl, HR, hB⟩ := hrel
          have HX2 := Lib.hid (HXw.out.below hB HXw.out.lt)
          have HP2 := Lib.hid (HPw.out.below hB)
          have HB2 := Lib.hid (HBw.out.trans (hB.mono HBw.out.size))
          have HB12 := Lib.hid hB
          clear hB
          have x2 : w2.cell? ⟨gx, 2, none⟩ = some (.slice (some ⟨b0, off0, none⟩) p.fs.length p.cF) := by rw [← HA.out]; exact HX2.out.cell 2
          have xl := HX2.out.lt
          by_cases hlt : k < p.fs.length
          · have g1 : (k : Int) < (p.fs.length : Int) := by omega
            obtain ⟨gk, hgk⟩ : ∃ g, p.fs[k]? = some g := ⟨_, List.getElem?_eq_getElem hlt⟩
            obtain ⟨b, off, hA2, hb, p0, p1, p2, p3, hF, hFl⟩ := HP2.out.fn hgk
            have hdr : p.fs.drop k = gk :: p.fs.drop (k + 1) := by rw [List.drop_eq_getElem_cons hlt]; congr 1; exact (List.getElem?_eq_some_iff.1 hgk).2
            have HR2 := Lib.hid (show R = joinF (firstI (badOp p.plain gk.plain) (gk.code.drop 0) 0) k (firstP p.plain ((p.fs.drop (k + 1)).map FunM.plain) (k + 1)) from by rw [HR.out, hdr]; rfl)
            have hcl := hF.len
            have hpl : p.plain.fs.length = p.fs.length := by unfold PrgM.plain; rw [List.length_map]
            have Hpl := Lib.hid hpl
            have hAe := HA.out.symm.trans hA2
            injection hAe with hAe
            injection hAe with e1 e2
            subst e1 e2
            have HF := Lib.hid hF
            have HG := Lib.hid hgk
            clear HR hdr hgk hF hpl hA2
            obtain ⟨ga, gl, gr, gA, gc, gcode⟩ := gk
            dsimp only at p0 p1 p2 p3 hcl
            go_wp2_with fail
            clear x2 xl p0 p1 p2 p3
            go_loopw [5] (fun i wr => ∃ j : Nat, j ≤ gcode.length ∧ i = .int .i64 j ∧ Hid (R = joinF (firstI (badOp p.plain (FunM.plain ⟨ga, gl, gr, gA, gc, gcode⟩)) (gcode.drop j) j) k (firstP p.plain ((p.fs.drop (k + 1)).map FunM.plain) (k + 1))) ∧ Below w2.heap.size w2 wr) (fun i _ => gcode.length - (intOf i).toNat)
            case atStart => exact ⟨0, Nat.zero_le _, rfl, HR2, Below.refl _ _⟩
            case round =>
              rename World => w4
              clear HR2
              obtain ⟨j, hj, rfl, HR, hB⟩ := hrel
              have HX4 := Lib.hid (HX2.out.below hB HX2.out.lt)
              have HFn4 := Lib.hid (HF.out.below hB)
              have HB4 := Lib.hid (HB2.out.trans (hB.mono HB2.out.size))
              have HB14 := Lib.hid (HB12.out.trans (hB.mono HB12.out.size))
              have HB34 := Lib.hid hB
              clear hB
              by_cases hlt2 : j < gcode.length
              · have g2 : (j : Int) < (gcode.length : Int) := by omega
                obtain ⟨i, hi⟩ : ∃ i, gcode[j]? = some i := ⟨_, List.getElem?_eq_getElem hlt2⟩
                obtain ⟨b2, off2, hA2, hb2, r0, r1, hio, hjl⟩ := HFn4.out.ins hi
                dsimp only at hA2
                subst hA2
                have hdr : gcode.drop j = i :: gcode.drop (j + 1) := by rw [List.drop_eq_getElem_cons hlt2]; congr 1; exact (List.getElem?_eq_some_iff.1 hi).2
                have hbc := badOp_cases p.plain (FunM.plain ⟨ga, gl, gr, some ⟨b2, off2, none⟩, gc, gcode⟩) i
                have hR2 := HR.out
                rw [hdr] at hR2
                unfold firstI at hR2
                generalize badOp p.plain (FunM.plain ⟨ga, gl, gr, some ⟨b2, off2, none⟩, gc, gcode⟩) i = E at *
                have HR2 := Lib.hid hR2
                rw [Hpl.out, show (FunM.plain ⟨ga, gl, gr, some ⟨b2, off2, none⟩, gc, gcode⟩).code.length = gcode.length from rfl, show (FunM.plain ⟨ga, gl, gr, some ⟨b2, off2, none⟩, gc, gcode⟩).locals = gl from rfl] at hbc
                clear HR hR2 hdr hi hio
                obtain ⟨op, a⟩ := i
                dsimp only at r0 r1 hbc
                obtain ⟨b3, off3, hA2, hb3, q0, q1, q2, q3, hF, hFl3⟩ := (HP2.out.below HB34.out).fn HG.out
                dsimp only at q0 q1 q2 q3
                have x2 : w4.cell? ⟨gx, 2, none⟩ = some (.slice (some ⟨b0, off0, none⟩) p.fs.length p.cF) := by rw [← HA.out]; exact HX4.out.cell 2
                have xl := HX4.out.lt
                have hAe := HA.out.symm.trans hA2
                injection hAe with hAe
                injection hAe with e1 e2
                subst e1 e2
                clear hF hA2
                have hret : E ≠ 0 → ∃ b, Ending.returned (.bool false) = .returned (.bool b) ∧ (b = true ↔ Shaped p.plain) := fun hE => ⟨false, rfl, (fun k => by cases k), (fun k => by
                  have h1 := HR2.out
                  rw [if_neg hE, HRe.out, k.2] at h1
                  cases h1)⟩
                have Hret := Lib.hid hret
                clear hret
                rcases hbc with ⟨hop, hbad, hE⟩ | ⟨hop, hbad, hE⟩ | ⟨hop, hbad, hE⟩ | ⟨hop, hbad, hE⟩ | ⟨hop, hbad, hE⟩ | ⟨hop, hbad, hE⟩ | ⟨o1, o2, o3, o4, o5, o6, hE⟩
                · rcases hop with rfl | rfl | rfl
                  all_goals
                    have HQ := Lib.hid (Hret.out (by rw [hE]; decide))
                    clear Hret
                    go_wp2_with fail
                    go_ret
                    exact ⟨HQ.out, HB4.out⟩
                · rcases hop with rfl | rfl | rfl
                  all_goals
                    have HR3 := Lib.hid (show R = joinF (firstI (badOp p.plain (FunM.plain ⟨ga, gl, gr, some ⟨b2, off2, none⟩, gc, gcode⟩)) (gcode.drop (j + 1)) (j + 1)) k (firstP p.plain ((p.fs.drop (k + 1)).map FunM.plain) (k + 1)) from by rw [HR2.out, hE, if_pos rfl])
                    go_wp2_with fail
                    exact ⟨⟨j + 1, by omega, by go_num, HR3, HB34.out⟩, by simp [intOf]; omega⟩
                · rcases hop with rfl | rfl
                  all_goals
                    have HQ := Lib.hid (Hret.out (by rw [hE]; decide))
                    clear Hret
                    go_wp2_with fail
                    go_ret
                    exact ⟨HQ.out, HB4.out⟩
                · rcases hop with rfl | rfl
                  all_goals
                    have HR3 := Lib.hid (show R = joinF (firstI (badOp p.plain (FunM.plain ⟨ga, gl, gr, some ⟨b2, off2, none⟩, gc, gcode⟩)) (gcode.drop (j + 1)) (j + 1)) k (firstP p.plain ((p.fs.drop (k + 1)).map FunM.plain) (k + 1)) from by rw [HR2.out, hE, if_pos rfl])
                    go_wp2_with fail
                    exact ⟨⟨j + 1, by omega, by go_num, HR3, HB34.out⟩, by simp [intOf]; omega⟩
                · subst hop
                  have HQ := Lib.hid (Hret.out (by rw [hE]; decide))
                  clear Hret
                  go_wp2_with fail
                  go_ret
                  exact ⟨HQ.out, HB4.out⟩
                · subst hop
                  have HR3 := Lib.hid (show R = joinF (firstI (badOp p.plain (FunM.plain ⟨ga, gl, gr, some ⟨b2, off2, none⟩, gc, gcode⟩)) (gcode.drop (j + 1)) (j + 1)) k (firstP p.plain ((p.fs.drop (k + 1)).map FunM.plain) (k + 1)) from by rw [HR2.out, hE, if_pos rfl])
                  go_wp2_with fail
                  exact ⟨⟨j + 1, by omega, by go_num, HR3, HB34.out⟩, by simp [intOf]; omega⟩
                · have HR3 := Lib.hid (show R = joinF (firstI (badOp p.plain (FunM.plain ⟨ga, gl, gr, some ⟨b2, off2, none⟩, gc, gcode⟩)) (gcode.drop (j + 1)) (j + 1)) k (firstP p.plain ((p.fs.drop (k + 1)).map FunM.plain) (k + 1)) from by rw [HR2.out, hE, if_pos rfl])
                  go_wp2_with fail
                  exact ⟨⟨j + 1, by omega, by go_num, HR3, HB34.out⟩, by simp [intOf]; omega⟩
              · obtain rfl : j = gcode.length := by omega
                have HR3 := Lib.hid (show R = firstP p.plain ((p.fs.drop (k + 1)).map FunM.plain) ((k + 1 : Nat)) from by rw [HR.out, List.drop_length]; rfl)
                clear HR
                go_wp2_with fail
                exact ⟨⟨k + 1, by omega, by go_num, HR3, HB14.out⟩, by simp [intOf]; omega⟩
          · obtain rfl : k = p.fs.length := by omega
            have HR3 := Lib.hid (show firstP p.plain p.plain.fs 0 = none from by rw [← HRe.out, HR.out, List.drop_length]; rfl)
            clear HR
            go_wp2_with fail
            go_ret
            exact ⟨⟨true, rfl, ⟨fun _ => ⟨HLd.out, HR3.out⟩, fun _ => rfl⟩⟩, HB2.out⟩
      · have hr1 : (g.results == 1) = false := by simpa using hr
        have hr2 : (g.results != 1) = true := by simpa using hr
        have Hno := Lib.hid (show ¬ Shaped p.plain from fun k => hr (by rw [← Hag.out.2]; exact k.1.results))
        generalize g.results = rs at *
        rw [ha] at q0
        clear ha ha1 ha2 hr
        go_enter Try.func27, Try.ntmps27
        go_upto_region 1 with (fail)
        rw [← Hw1.out, ← Hgx.out]
        clear Hw1
        go_wp2_with fail
        have HCk2 := HCk.out
        rw [show p.val = .agg #[.int .i64 p.mem, .slice p.AD p.data.length p.cD, .slice (some ⟨b0, off0, none⟩) p.fs.length p.cF] from by show Value.agg #[.int .i64 p.mem, .slice p.AD p.data.length p.cD, .slice p.AF p.fs.length p.cF] = _; rw [HA.out]] at HCk2
        refine HCk2.mono ?_
        clear HCk2
        rintro e w6 ⟨rfl, hb6⟩
        have HBN := Lib.hid hb6
        obtain ⟨hc6, -⟩ := bcell hb6
        have hz6 := hb6.size
        have x06 := (hc6 _ _ xl).trans x0
        have x16 := (hc6 _ _ xl).trans x1
        have x26 := (hc6 _ _ xl).trans x2
        have xl6 : gx < w6.heap.size := Nat.lt_of_lt_of_le xl hz6
        have q06 := (hc6 _ _ hb0).trans q0
        have hb06 : b0 < w6.heap.size := Nat.lt_of_lt_of_le hb0 hz6
        have q26 := (hc6 _ _ hb0).trans q2
        clear hc6 hz6 hb6
        go_wp2_with fail
        go_ret
        exact ⟨⟨false, rfl, ⟨(fun k => by cases k), (fun k => absurd k Hno.out)⟩⟩, HB1.out.trans (HBN.out.mono HB1.out.size)⟩
    · have ha1 : (g.args == 0) = false := by simpa using ha
      have ha2 : (g.args != 0) = true := by simpa using ha
      have Hno := Lib.hid (show ¬ Shaped p.plain from fun k => ha (by rw [← Hag.out.1]; exact k.1.args))
      generalize g.args = ag at *
      clear q2
      go_enter Try.func27, Try.ntmps27
      go_upto_region 1 with (fail)
      rw [← Hw1.out, ← Hgx.out]
      clear Hw1
      go_wp2_with fail
      have HCk2 := HCk.out
      rw [show p.val = .agg #[.int .i64 p.mem, .slice p.AD p.data.length p.cD, .slice (some ⟨b0, off0, none⟩) p.fs.length p.cF] from by show Value.agg #[.int .i64 p.mem, .slice p.AD p.data.length p.cD, .slice p.AF p.fs.length p.cF] = _; rw [HA.out]] at HCk2
      refine HCk2.mono ?_
      clear HCk2
      rintro e w6 ⟨rfl, hb6⟩
      have HBN := Lib.hid hb6
      obtain ⟨hc6, -⟩ := bcell hb6
      have hz6 := hb6.size
      have x06 := (hc6 _ _ xl).trans x0
      have x16 := (hc6 _ _ xl).trans x1
      have x26 := (hc6 _ _ xl).trans x2
      have xl6 : gx < w6.heap.size := Nat.lt_of_lt_of_le xl hz6
      have q06 := (hc6 _ _ hb0).trans q0
      have hb06 : b0 < w6.heap.size := Nat.lt_of_lt_of_le hb0 hz6
      clear hc6 hz6 hb6
      go_wp2_with fail
      go_ret
      exact ⟨⟨false, rfl, ⟨(fun k => by cases k), (fun k => absurd k Hno.out)⟩⟩, HB1.out.trans (HBN.out.mono HB1.out.size)⟩
  · have hc1 : (ch == 0) = false := by simpa using hc
    have hc2 : (ch != 0) = true := by simpa using hc
    have Hno := Lib.hid (show ¬ Shaped p.plain from fun k => hc (Hch.out.trans k.1.chk))
    go_enter Try.func27, Try.ntmps27
    go_upto_region 1 with (fail)
    rw [← Hw1.out, ← Hgx.out]
    clear Hw1
    go_wp2_with fail
    have HCk2 := HCk.out
    rw [show p.val = .agg #[.int .i64 p.mem, .slice p.AD p.data.length p.cD, .slice p.AF p.fs.length p.cF] from rfl] at HCk2
    refine HCk2.mono ?_
    clear HCk2
    rintro e w6 ⟨rfl, hb6⟩
    have HBN := Lib.hid hb6
    obtain ⟨hc6, -⟩ := bcell hb6
    have hz6 := hb6.size
    have x06 := (hc6 _ _ xl).trans x0
    have x16 := (hc6 _ _ xl).trans x1
    have x26 := (hc6 _ _ xl).trans x2
    have xl6 : gx < w6.heap.size := Nat.lt_of_lt_of_le xl hz6
    clear hc6 hz6 hb6
    go_wp2_with fail
    go_ret
    exact ⟨⟨false, rfl, ⟨(fun k => by cases k), (fun k => absurd k Hno.out)⟩⟩, HB1.out.trans (HBN.out.mono HB1.out.size)⟩
end Go.Proofs.Ytcmpmhlcfalbhaa
