/- The walk of prog's Encode. -/
import Derived.Test.YtadnjfoinmeloaaPrgE
import Derived.Test.YtadnjfoinmeloaaPrgC
import Derived.Test.YtadnjfoinmeloaaWS
namespace Go.Proofs.Ytadnjfoinmeloaa
open Go.RowKit

theorem RV.under {w w3 wk : World} {A : Option Addr} {vs : List Value} {gw : Nat} (h : RV w A vs) (hb : Below w.heap.size w w3) (ho : Only (fun b => b = gw) w3 wk) (hg : w.heap.size ≤ gw) : RV wk A vs := by
  refine (h.below hb).only ho fun hn b o e hbg => ?_
  obtain ⟨b2, o2, e2, h2, -⟩ := h.at_ (List.length_pos_iff.2 hn)
  rw [e2] at e
  injection e with e
  injection e with e3 _ _
  omega
set_option maxRecDepth 100000 in
set_option maxHeartbeats 4000000 in
theorem pEncode_any (p : PrgM) (w : World) (h : PrgAt w p) : Calls Try.prog 16 #[p.val] w (EncPost w (encP p.plain)) := by
  have hck := fun w1 (h1 : PrgAt w1 p) => check_any p w1 h1
  obtain ⟨C, hC⟩ : ∃ C, C = checkL p.plain := ⟨_, rfl⟩
  rw [← hC] at hck
  have HC := Lib.hid hC
  have Hck := Lib.hid hck
  clear hC hck
  obtain ⟨R, hR⟩ : ∃ R, R = encP p.plain := ⟨_, rfl⟩
  rw [← hR]
  have HR := Lib.hid hR
  clear hR
  obtain ⟨mem, AD, cD, data, AF, cF, fs⟩ := p
  have H := Lib.hid h
  have hdl : data.length ≤ 140737488351232 := h.dlen
  have hfl : fs.length ≤ 2932031007402 := h.flen
  clear h
  go_enter Try.func16, Try.ntmps16
  go_wp2_with fail
  obtain ⟨w1, hw1⟩ : ∃ w1, w1 = w.alloc (.cells #[.int .i64 mem, .slice AD data.length cD, .slice AF fs.length cF] 25) := ⟨_, rfl⟩
  rw [← hw1]
  have hb1 : Below w.heap.size w w1 := by rw [hw1]; exact (Below.refl _ _).alloc (Nat.le_refl _) _
  have hX1 : Blk w1 w.heap.size 25 #[.int .i64 mem, .slice AD data.length cD, .slice AF fs.length cF] := by rw [hw1]; exact Blk.new _ _ _
  have hz1 := hX1.lt
  have Hb1 := Lib.hid hb1
  have HX1 := Lib.hid hX1
  clear hw1 hb1 hX1
  refine (Hck.out w1 (H.out.below Hb1.out)).mono ?_
  rintro e w2 ⟨rfl, hb12⟩
  have hz12 := hb12.size
  have HB2 := Lib.hid (Hb1.out.trans (hb12.mono (by omega)))
  have HX2 := Lib.hid (HX1.out.below hb12 hz1)
  clear hb12 Hck
  by_cases hc0 : C = 0
  · have hok := (checkL_ok _).1 (HC.out.symm.trans hc0)
    obtain ⟨hbh, hgf⟩ := hok
    have hhl := headL_le hbh
    have hbn := badH_not hbh
    simp only [PrgM.plain, List.length_map] at hbn
    obtain ⟨b1, b2, b3, b4, b5⟩ := hbn
    have Hgf := Lib.hid (show ∀ f ∈ fs, GoodF f.plain from fun f hf => hgf _ (List.mem_map.2 ⟨f, hf, rfl⟩))
    have hR2 : R = if 1048576 < (progL (PrgM.plain ⟨mem, AD, cD, data, AF, cF, fs⟩)).length then ([], 2) else (progL (PrgM.plain ⟨mem, AD, cD, data, AF, cF, fs⟩), 0) := by
      rw [HR.out]
      unfold encP
      rw [if_pos (HC.out.symm.trans hc0)]
    have HR2 := Lib.hid hR2
    subst hc0
    clear hR2 hbh hgf HR
    go_wp2_with fail
    refine (new_ws w2).mono ?_
    rintro e w3 ⟨rfl, hws3, hb23, hz3⟩
    obtain ⟨gw, hgw⟩ : ∃ gw, gw = w2.heap.size := ⟨_, rfl⟩
    rw [← hgw] at hws3 ⊢
    have hgw1 : w2.heap.size ≤ gw := by omega
    have hgw2 : gw ≤ w2.heap.size := by omega
    have hz23 : w2.heap.size < w3.heap.size := by omega
    have HB3 := Lib.hid (HB2.out.trans (hb23.mono HB2.out.size))
    have hX3 := HX2.out.below hb23 (by omega)
    have HW3 := Lib.hid (hws3.less (L := fun b => b = w.heap.size) fun b hb => by omega)
    have HX3 := Lib.hid hX3
    clear hws3 hb23 hX3 HX2 hgw hz3
    go_wp2_with fail
    refine (num_ws HW3.out 2 (by decide) (by decide) (by simp)).mono ?_
    rintro e w4 ⟨rfl, hws4, hk4⟩
    have hX4 := hk4.blk HX3.out rfl
    have x0 : w4.cell? ⟨w.heap.size, 0, none⟩ = some (.int .i64 mem) := hX4.cell 0
    have hxl := hX4.lt
    have HX4 := Lib.hid hX4
    have HW4 := Lib.hid hws4
    clear hws4 hk4 hX4 HW3 HX3
    go_wp2_with fail
    refine (num_ws HW4.out mem (by omega) (by omega) (by simp only [List.length_append, List.length_nil]; have := formL_le (Int.toNat 2); omega)).mono ?_
    rintro e w5 ⟨rfl, hws5, hk5⟩
    have hX5 := hk5.blk HX4.out rfl
    have x1 : w5.cell? ⟨w.heap.size, 1, none⟩ = some (.slice AD data.length cD) := hX5.cell 1
    have hxl5 := hX5.lt
    have HX5 := Lib.hid hX5
    have HW5 := Lib.hid hws5
    clear hws5 hk5 hX5 HW4 HX4 x0 hxl
    go_wp2_with fail
    have hd5 : Sl w5 ⟨AD, cD, data⟩ := ⟨RV.under H.out.data.rv HB3.out HW5.out.only (by have := HB2.out.size; omega), H.out.data.nil⟩
    refine (bytes_ws HW5.out (Below.refl _ _) ⟨AD, cD, data⟩ hd5 (fun b o h0 e => .inr (by
      obtain ⟨b2, o2, e2, h2, -⟩ := H.out.data.rv.at_ (by rw [List.length_map]; exact h0)
      have e3 := e.symm.trans e2
      injection e3 with e3
      injection e3 with e3 _ _
      have := HB2.out.size
      omega)) (by simp only [List.length_append, List.length_nil]; have := formL_le (Int.toNat 2); have := formL_le mem.toNat; omega)).mono ?_
    rintro e w6 ⟨rfl, hws6, hk6⟩
    have hX6 := hk6.blk HX5.out rfl
    have x2 : w6.cell? ⟨w.heap.size, 2, none⟩ = some (.slice AF fs.length cF) := hX6.cell 2
    have hxl6 := hX6.lt
    have HX6 := Lib.hid hX6
    have HW6 := Lib.hid hws6
    clear hws6 hk6 hX6 HW5 HX5 x1 hxl5 hd5
    go_wp2_with fail
    refine (num_ws HW6.out (fs.length : Int) (by omega) (by omega) (by simp only [List.length_append, List.length_nil]; have := formL_le (Int.toNat 2); have := formL_le mem.toNat; have := formL_le data.length; omega)).mono ?_
    rintro e w7 ⟨rfl, hws7, hk7⟩
    have hX7 := hk7.blk HX6.out rfl
    have x2' : w7.cell? ⟨w.heap.size, 2, none⟩ = some (.slice AF fs.length cF) := hX7.cell 2
    have hxl7 := hX7.lt
    have hXe : [] ++ formL (Int.toNat 2) ++ formL mem.toNat ++ (formL data.length ++ data) ++ formL (Int.toNat (fs.length : Int)) = headL (PrgM.plain ⟨mem, AD, cD, data, AF, cF, fs⟩) := by
      unfold headL
      simp only [PrgM.plain, List.length_map, Int.toNat_natCast, List.nil_append]
      rfl
    rw [hXe] at hws7
    have HX7 := Lib.hid hX7
    have HW7 := Lib.hid hws7
    obtain ⟨P, hP⟩ : ∃ P, P = PrgM.plain ⟨mem, AD, cD, data, AF, cF, fs⟩ := ⟨_, rfl⟩
    have hPf : P.fs = fs.map FunM.plain := by rw [hP]; rfl
    rw [← hP] at HW7 HR2 hhl
    have HP0 : Hid (progL P = headL P ++ ((fs.drop 0).map FunM.plain).flatMap funL) := Lib.hid (by unfold progL; rw [hPf]; rfl)
    clear hws7 hk7 hX7 HW6 HX6 x2 hxl6 hXe hP hPf
    go_wp2_with fail
    go_loopw [36] (fun i wr => ∃ (k : Nat) (X : List UInt8), k ≤ fs.length ∧ i = .int .i64 k ∧ WS w3 wr gw (fun b => b = w.heap.size) X ∧ X.length ≤ 65572 + 40996 * k ∧ Hid (progL P = X ++ ((fs.drop k).map FunM.plain).flatMap funL)) (fun i _ => fs.length - (intOf i).toNat)
    case atStart => exact ⟨0, headL P, Nat.zero_le _, rfl, HW7.out, by omega, HP0⟩
    case round =>
      rename World => v0
      obtain ⟨k, X, hk, rfl, hws, hXl, hPX⟩ := hrel
      have hO := hws.only
      have hzv := hO.size
      have HW := Lib.hid hws
      have HO := Lib.hid hO
      clear hws hO
      by_cases hlt : k < fs.length
      · have g2 : (k : Int) < (fs.length : Int) := by omega
        have hrf := RV.under H.out.rv HB3.out HO.out (by have := HB2.out.size; omega)
        obtain ⟨b, off, hA, hb, hc⟩ := hrf.at_ (by rw [funCells_len]; dsimp only; omega)
        dsimp only at hA
        subst hA
        obtain ⟨q0, q1, q2, q3⟩ := fun_cells hc k hlt
        have hF := H.out.funs _ (List.getElem_mem hlt)
        have hG := Hgf.out _ (List.getElem_mem hlt)
        have hdr : fs.drop k = fs[k] :: fs.drop (k + 1) := List.drop_eq_getElem_cons hlt
        rw [hdr, List.map_cons, List.flatMap_cons, ← List.append_assoc] at hPX
        dsimp only at q0 q1 q2 q3 hF
        obtain ⟨f, hf⟩ : ∃ f : FunM, f = fs[k] := ⟨_, rfl⟩
        rw [← hf] at q0 q1 q2 q3 hF hG hPX
        have hfu := funL_le hG
        have hcl := codeL_le hG
        obtain ⟨fa, fl, fr, FA, fc, fcode⟩ := f
        dsimp only at q0 q1 q2 q3
        have hbn := badF_not hG.bad
        simp only [FunM.plain] at hbn
        obtain ⟨f1, f2, f3, f4, f5, f6, f7, f8⟩ := hbn
        have HF := Lib.hid hF
        have HG := Lib.hid hG
        clear hF hG hrf hc hdr hf
        go_wp2_with fail
        obtain ⟨v1, hv1⟩ : ∃ v1, v1 = v0.alloc (.cells #[.int .i64 fa, .int .i64 fl, .int .i64 fr, .slice FA fcode.length fc] 50) := ⟨_, rfl⟩
        rw [← hv1]
        have hb01 : Below v0.heap.size v0 v1 := by rw [hv1]; exact (Below.refl _ _).alloc (Nat.le_refl _) _
        have hF1 : Blk v1 v0.heap.size 50 #[.int .i64 fa, .int .i64 fl, .int .i64 fr, .slice FA fcode.length fc] := by rw [hv1]; exact Blk.new _ _ _
        have hw1 := HW.out.more hb01 (fun x => x = v0.heap.size) (fun x hx => by have := hF1.lt; omega)
        have HW1 := Lib.hid hw1
        have HF1 := Lib.hid hF1
        clear hv1 hb01 hF1 hw1 q0 q1 q2 q3
        refine (num_ws HW1.out fa (by omega) (by omega) (by omega)).mono ?_
        rintro e v2 ⟨rfl, hws2, hk2⟩
        have hF2 := hk2.blk HF1.out (.inr rfl)
        have y1 : v2.cell? ⟨v0.heap.size, 1, none⟩ = some (.int .i64 fl) := hF2.cell 1
        have hyl2 := hF2.lt
        have HF2 := Lib.hid hF2
        have HW2 := Lib.hid hws2
        clear hws2 hk2 hF2 HW1 HF1
        go_wp2_with fail
        have hfa := formL_le fa.toNat
        refine (num_ws HW2.out fl (by omega) (by omega) (by rw [List.length_append]; omega)).mono ?_
        rintro e v3 ⟨rfl, hws3, hk3⟩
        have hF3 := hk3.blk HF2.out (.inr rfl)
        have y2 : v3.cell? ⟨v0.heap.size, 2, none⟩ = some (.int .i64 fr) := hF3.cell 2
        have hyl3 := hF3.lt
        have HF3 := Lib.hid hF3
        have HW3 := Lib.hid hws3
        clear hws3 hk3 hF3 HW2 HF2 y1 hyl2
        go_wp2_with fail
        have hfl2 := formL_le fl.toNat
        refine (num_ws HW3.out fr (by omega) (by omega) (by rw [List.length_append, List.length_append]; omega)).mono ?_
        rintro e v4 ⟨rfl, hws4, hk4⟩
        have hF4 := hk4.blk HF3.out (.inr rfl)
        have y3 : v4.cell? ⟨v0.heap.size, 3, none⟩ = some (.slice FA fcode.length fc) := hF4.cell 3
        have hyl4 := hF4.lt
        have HW4 := Lib.hid hws4
        have hfr := formL_le fr.toNat
        have hrc := RV.under HF.out.rv HB3.out hws4.only (by have := HB2.out.size; omega)
        have henc := encode_any FA fc fcode v4 hrc HF.out.ok (by have := HF.out.len; unfold maxLen; dsimp only at this; omega)
        have hee : encL fcode = (codeL (FunM.plain ⟨fa, fl, fr, FA, fc, fcode⟩), 0) := by
          have := HG.out.enc
          unfold codeL
          rw [← this]
          rfl
        rw [hee] at henc
        have Henc := Lib.hid henc
        have hzv4 := hws4.only.size
        have hfue : funL (FunM.plain ⟨fa, fl, fr, FA, fc, fcode⟩) = formL fa.toNat ++ formL fl.toNat ++ formL fr.toNat ++ (formL (codeL (FunM.plain ⟨fa, fl, fr, FA, fc, fcode⟩)).length ++ codeL (FunM.plain ⟨fa, fl, fr, FA, fc, fcode⟩)) := rfl
        have Hfue := Lib.hid hfue
        generalize codeL (FunM.plain ⟨fa, fl, fr, FA, fc, fcode⟩) = cs at *
        generalize funL (FunM.plain ⟨fa, fl, fr, FA, fc, fcode⟩) = fu at *
        clear hws4 hk4 hF4 HW3 HF3 y2 hyl3 hrc henc hee hfue
        go_wp2_with fail
        refine Henc.out.mono ?_
        intro e v5 hpost
        obtain ⟨A5, c5, rfl, hown5, hb45⟩ := hpost
        try dsimp only at hown5
        have hbs := bytes_ws HW4.out hb45 ⟨A5, c5, cs⟩ (Sl.of_own hown5) (fun b o h0 e => .inl (Own.lt hown5 b o e).1) (by dsimp only; rw [List.length_append, List.length_append, List.length_append]; omega)
        have Hbs := Lib.hid hbs
        clear hown5 hb45 hbs Henc
        go_wp2_with fail
        refine Hbs.out.mono ?_
        rintro e v6 ⟨rfl, hws6, hk6⟩
        have hXe : X ++ formL fa.toNat ++ formL fl.toNat ++ formL fr.toNat ++ (formL cs.length ++ cs) = X ++ fu := by
          rw [Hfue.out]
          simp only [List.append_assoc]
        try dsimp only at hws6
        rw [hXe] at hws6
        have HW6 := Lib.hid (hws6.less (L := fun b => b = w.heap.size) fun b hb => .inl hb)
        clear hws6 hk6 hXe Hbs HW4 y3 hyl4
        go_wp2_with fail
        exact ⟨⟨k + 1, X ++ fu, by omega, by go_num, HW6.out, by rw [List.length_append]; omega, hPX⟩, by simp [intOf]; omega⟩
      · have hPe : progL P = X := by rw [hPX.out, List.drop_eq_nil_of_le (by omega)]; simp
        have hds := done_ws HW.out (by omega)
        have Hds := Lib.hid hds
        have HBv := Lib.hid (HB3.out.trans (HO.out.below (B := w.heap.size) (by have := HB3.out.size; omega) fun x hx e => by have := HB2.out.size; omega))
        have HRx : Hid (R = if 1048576 < X.length then ([], 2) else (X, 0)) := Lib.hid (by rw [HR2.out, hPe])
        clear hds hPe hPX HR2
        go_wp2_with fail
        refine Hds.out.mono ?_
        intro e v1 hpost
        obtain ⟨A1, c1, rfl, hown1, hb1⟩ := hpost
        have HB1 := Lib.hid (HBv.out.trans (hb1.mono HBv.out.size))
        have hown1' := hown1.mono HBv.out.size
        have Hown1 := Lib.hid hown1'
        clear hown1 hown1' hb1 Hds
        by_cases hbig : 1048576 < X.length
        · have g3 : (1048576 : Int) < (X.length : Int) := by omega
          have HRn : Hid (R = ([], 2)) := Lib.hid (by rw [HRx.out, if_pos hbig])
          clear HRx
          go_wp2_with fail
          go_ret2
          rw [HRn.out]
          exact ⟨none, 0, rfl, Own.nil _ _ _ _, HB1.out⟩
        · have g3 : ¬ (1048576 : Int) < (X.length : Int) := by omega
          have HRn : Hid (R = (X, 0)) := Lib.hid (by rw [HRx.out, if_neg hbig])
          clear HRx
          go_wp2_with fail
          go_ret2
          rw [HRn.out]
          exact ⟨A1, c1, rfl, Hown1.out, HB1.out⟩
  · have HRn : Hid (R = ([], C)) := Lib.hid (by rw [HR.out]; unfold encP; rw [if_neg (fun e => hc0 (HC.out.trans e)), HC.out])
    clear HR
    go_wp2_with fail
    go_ret2
    rw [HRn.out]
    exact ⟨none, 0, rfl, Own.nil _ _ _ _, HB2.out⟩
end Go.Proofs.Ytadnjfoinmeloaa
