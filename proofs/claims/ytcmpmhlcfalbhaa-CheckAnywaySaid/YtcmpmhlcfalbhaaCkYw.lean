/- The law CheckAnyway, walked (printed by gen_ckyw.py). -/
import Derived.Test.YtcmpmhlcfalbhaaCkTr
import Derived.Test.YtcmpmhlcfalbhaaChRM
namespace Go.Proofs.Ytcmpmhlcfalbhaa
open Go.RowKit

theorem bad_ne {P : Prg} {x : Int × Int × Int} (h : BadAt P x) : x.1 ≠ 0 := by
  rcases h with ⟨h1, e⟩ | ⟨-, -, e⟩ | ⟨-, h1⟩ | ⟨-, -, f, n, er, -, -, -, he, e⟩
  · rw [e]; exact h1
  · rw [e]; decide
  · exact firstP_ne h1
  · rw [e]; exact he
theorem bad_unfit {P : Prg} {x : Int × Int × Int} (h : BadAt P x) (hs : Shaped P) : ¬ ∀ g : Nat, g < P.fs.length → ∃ k, HFin P g k := by
  intro hall
  rcases h with ⟨h1, -⟩ | ⟨-, h1, -⟩ | ⟨-, h1⟩ | ⟨hl, -, f, n, er, hf, -, hr, -, -⟩
  · exact h1 hs.1.chk
  · rcases h1 with h1 | h1
    · exact h1 hs.1.args
    · exact h1 hs.1.results
  · rw [hs.2] at h1; cases h1
  · obtain ⟨k, hk⟩ := hall f hf
    have := fin_runs hk hl.chk (len_pos hl.chk hf) hr
    cases this
set_option maxRecDepth 100000 in
set_option maxHeartbeats 4000000 in
theorem checkAnyway_walk (p : PrgM) (A : Option Addr) (c : Nat) (ts : List Int) (w : World) (hp : PrgAt w p) (hr : RV w A (ts.map iv)) (htl : ts.length ≤ 9223372036854775807) :
    Calls Try.prog 8 #[p.val, .slice A ts.length c] w fun e w' => e = .returned (.bool true) ∧ Below w.heap.size w w' := by
  have hfl : p.fs.length ≤ 2932031007402 := hp.flen
  obtain ⟨w1, hw1⟩ : ∃ w1, w1 = w.alloc (.cells #[.int .i64 p.mem, .slice p.AD p.data.length p.cD, .slice p.AF p.fs.length p.cF] 26) := ⟨_, rfl⟩
  have hb1 : Below w.heap.size w w1 := by rw [hw1]; exact (Below.refl _ _).alloc (Nat.le_refl _) _
  obtain ⟨gx, hgx⟩ : ∃ g, g = w.heap.size := ⟨_, rfl⟩
  have hX : Blk w1 gx 26 #[.int .i64 p.mem, .slice p.AD p.data.length p.cD, .slice p.AF p.fs.length p.cF] := by rw [hw1, hgx]; exact Blk.new _ _ _
  have HX := Lib.hid hX
  have HP1 := Lib.hid (hp.below hb1)
  have HB1 := Lib.hid hb1
  have Hw1 := Lib.hid hw1
  have Hgx := Lib.hid hgx
  have HTs := Lib.hid (hr.below hb1)
  have HA := Lib.hid (all13_any p w1 (hp.below hb1))
  have x0 : w1.cell? ⟨gx, 0, none⟩ = some (.int .i64 p.mem) := hX.cell 0
  have x1 : w1.cell? ⟨gx, 1, none⟩ = some (.slice p.AD p.data.length p.cD) := hX.cell 1
  have x2 : w1.cell? ⟨gx, 2, none⟩ = some (.slice p.AF p.fs.length p.cF) := hX.cell 2
  have xl := hX.lt
  clear hp hb1 hX hw1 hgx hr
  go_enter Try.func8, Try.ntmps8
  go_upto_region 1 with (fail)
  rw [← Hw1.out, ← Hgx.out]
  clear Hw1 Hgx
  go_wp2_with fail
  refine HA.out.mono ?_
  rintro e w2 ⟨⟨x, rfl⟩, hb2⟩
  have Hb2 := Lib.hid (HB1.out.trans (hb2.mono HB1.out.size))
  have hX2 := HX.out.below hb2 HX.out.lt
  have y0 : w2.cell? ⟨gx, 0, none⟩ = some (.int .i64 p.mem) := hX2.cell 0
  have y1 : w2.cell? ⟨gx, 1, none⟩ = some (.slice p.AD p.data.length p.cD) := hX2.cell 1
  have y2 : w2.cell? ⟨gx, 2, none⟩ = some (.slice p.AF p.fs.length p.cF) := hX2.cell 2
  have yl := hX2.lt
  have HX2 := Lib.hid hX2
  have HP2 := Lib.hid (HP1.out.below hb2)
  have HT2 := Lib.hid (HTs.out.below hb2)
  clear hb2 hX2 x0 x1 x2 xl HA HTs
  by_cases hx : 4000 < x
  · go_wp2_with fail
    refine (head13_any w2).mono ?_
    rintro e w3 ⟨rfl, hb3⟩
    have HB3 := Lib.hid (Hb2.out.trans (hb3.mono Hb2.out.size))
    clear hb3
    go_wp2_with fail
    go_ret
    exact ⟨rfl, HB3.out⟩
  · have HR := Lib.hid (run_any p w2 HP2.out)
    go_wp2_with fail
    refine HR.out.mono ?_
    rintro e w3 ⟨hb3, ⟨x, hx, rfl⟩ | ⟨hs, tops, lps, live, ce, co, HRr, LR, AH, cH, AT, cT, AL, cL, gL, hok, hM, hL, rfl⟩⟩
    · as_aux_lemma =>
      obtain ⟨er, ff, nn⟩ := x
      have her := bad_ne hx
      dsimp only at her
      have her1 : (er == 0) = false := by simpa using her
      have her2 : (er != 0) = true := by simpa using her
      have Hbad := Lib.hid hx
      dsimp only [zFacts, faultV]
      obtain ⟨w4, hw4⟩ : ∃ w4, w4 = (w3.alloc (.cells #[.slice none 0 0, .slice none 0 0, .slice none 0 0, .slice none 0 0, .int .i64 0, .int .i64 0] 32)).alloc (.cells #[.int .i64 er, .int .i64 ff, .int .i64 nn] 37) := ⟨_, rfl⟩
      obtain ⟨gG, hgG⟩ : ∃ g, g = w3.heap.size + 1 := ⟨_, rfl⟩
      obtain ⟨gF, hgF⟩ : ∃ g, g = w3.heap.size := ⟨_, rfl⟩
      have hb4 : Below w3.heap.size w3 w4 := by rw [hw4]; exact ((Below.refl _ _).alloc (Nat.le_refl _) _).alloc (by simp) _
      have hG4 : Blk w4 gG 37 #[.int .i64 er, .int .i64 ff, .int .i64 nn] := by rw [hw4, hgG]; exact Blk.new2 _ _ _ _
      have hX4 := (HX2.out.below hb3 HX2.out.lt).below hb4 (HX2.out.below hb3 HX2.out.lt).lt
      have HB4 := Lib.hid (show Below w.heap.size w w4 from (Hb2.out.trans (hb3.mono Hb2.out.size)).trans (hb4.mono (Nat.le_trans Hb2.out.size hb3.size)))
      have HP4 := Lib.hid ((HP2.out.below hb3).below hb4)
      have HT4 := Lib.hid ((HT2.out.below hb3).below hb4)
      have HSh := Lib.hid (shaped13_any p w4 HP4.out)
      have HX4 := Lib.hid hX4
      have HG4 := Lib.hid hG4
      have Hw4 := Lib.hid hw4
      have HgG := Lib.hid hgG
      have HgF := Lib.hid hgF
      have y04 : w4.cell? ⟨gx, 0, none⟩ = some (.int .i64 p.mem) := hX4.cell 0
      have y14 : w4.cell? ⟨gx, 1, none⟩ = some (.slice p.AD p.data.length p.cD) := hX4.cell 1
      have y24 : w4.cell? ⟨gx, 2, none⟩ = some (.slice p.AF p.fs.length p.cF) := hX4.cell 2
      have yl4 := hX4.lt
      clear hb3 hb4 hG4 hX4 hw4 hgG hgF hx y0 y1 y2 yl HR her
      go_upto_region 4 with (fail)
      rw [← Hw4.out, ← HgG.out, ← HgF.out]
      clear Hw4 HgG HgF
      go_wp2_with fail
      refine HSh.out.mono ?_
      rintro e w5 ⟨⟨b, rfl, hbS⟩, hb5⟩
      have HB5 := Lib.hid (HB4.out.trans (hb5.mono HB4.out.size))
      have hG5 := HG4.out.below hb5 HG4.out.lt
      have HX5 := Lib.hid (HX4.out.below hb5 HX4.out.lt)
      have HP5 := Lib.hid (HP4.out.below hb5)
      have HT5 := Lib.hid (HT4.out.below hb5)
      have HG5 := Lib.hid hG5
      clear HX4 HP4 HT4 HG4 hb5 y04 y14 y24 yl4 HSh
      cases b with
      | false =>
        have g0 : w5.cell? ⟨gG, 0, none⟩ = some (.int .i64 er) := hG5.cell 0
        have gl := hG5.lt
        clear hG5 hbS
        go_wp2_with fail
        refine (head13_any _).mono ?_
        rintro e w6 ⟨rfl, hb6⟩
        have HB6 := Lib.hid (HB5.out.trans (hb6.mono HB5.out.size))
        clear hb6
        go_wp2_with fail
        go_ret
        exact ⟨rfl, HB6.out⟩
      | true =>
        have Hsh := Lib.hid (hbS.1 rfl)
        have HGd := Lib.hid (show Good p.plain from ⟨(hbS.1 rfl).1.chk, (hbS.1 rfl).2⟩)
        clear hbS hG5
        go_wp2_with fail
        go_loopw [7, 8] (fun okv i wr => ∃ (f : Nat) (ok : Bool), f ≤ p.fs.length ∧ i = .int .i64 (f : Int) ∧ okv = .bool ok ∧ Hid (ok = true → ∀ g : Nat, g < f → ∃ k, HFin p.plain g k) ∧ Below w5.heap.size w5 wr) (fun _ i _ => p.fs.length - (intOf i).toNat)
        case atStart => exact ⟨0, true, Nat.zero_le _, rfl, rfl, Lib.hid (fun _ g hg => by omega), Below.refl _ _⟩
        case round =>
          rename World => wr
          obtain ⟨f, ok, hf, rfl, rfl, HO, hB⟩ := hrel
          have HB := Lib.hid hB
          have hXr := HX5.out.below hB HX5.out.lt
          have hGr := HG5.out.below hB HG5.out.lt
          have x0 : wr.cell? ⟨gx, 0, none⟩ = some (.int .i64 p.mem) := hXr.cell 0
          have x1 : wr.cell? ⟨gx, 1, none⟩ = some (.slice p.AD p.data.length p.cD) := hXr.cell 1
          have x2 : wr.cell? ⟨gx, 2, none⟩ = some (.slice p.AF p.fs.length p.cF) := hXr.cell 2
          have xl := hXr.lt
          have g0 : wr.cell? ⟨gG, 0, none⟩ = some (.int .i64 er) := hGr.cell 0
          have gl := hGr.lt
          by_cases hlt : f < p.fs.length
          · have g1 : (f : Int) < (p.fs.length : Int) := by omega
            have HTr := Lib.hid (tried13_any p f A c ts wr (HP5.out.below hB) HGd.out hlt (HT5.out.below hB) htl)
            clear hXr hGr hB g0 gl
            go_wp2_with fail
            refine HTr.out.mono ?_
            rintro e w6 ⟨hb6, hres⟩
            have HB6 := Lib.hid (HB.out.trans (hb6.mono HB.out.size))
            have hG6 := HG5.out.below HB6.out HG5.out.lt
            have g0 : w6.cell? ⟨gG, 0, none⟩ = some (.int .i64 er) := hG6.cell 0
            have gl := hG6.lt
            clear x0 x1 x2 xl hG6 hb6 HTr
            rcases hres with ⟨h, A2, c2, rfl, hF, -⟩ | ⟨rfl, -⟩
            · have HOn := Lib.hid (show ok = true → ∀ g : Nat, g < f + 1 → ∃ k, HFin p.plain g k from fun e g hg => by
                by_cases hgf : g = f
                · subst hgf; exact ⟨h, hF⟩
                · exact HO.out e g (by omega))
              clear hF
              cases ok with
              | true =>
                have HOm := Lib.hid (HOn.out rfl)
                clear HOn
                go_wp2_with fail
                refine ⟨⟨f + 1, true, by omega, by first | rfl | go_num, rfl, Lib.hid (by first | exact HOm.out | exact fun _ => HOm.out), HB6.out⟩, by simp [intOf]; omega⟩
              | false =>
                go_wp2_with fail
                refine ⟨⟨f + 1, false, by omega, by first | rfl | go_num, rfl, Lib.hid (fun e => by cases e), HB6.out⟩, by simp [intOf]; omega⟩
            · cases ok with
              | true =>
                go_wp2_with fail
                refine ⟨⟨f + 1, false, by omega, by first | rfl | go_num, rfl, Lib.hid (fun e => by cases e), HB6.out⟩, by simp [intOf]; omega⟩
              | false =>
                go_wp2_with fail
                refine ⟨⟨f + 1, false, by omega, by first | rfl | go_num, rfl, Lib.hid (fun e => by cases e), HB6.out⟩, by simp [intOf]; omega⟩
          · have g1 : ¬ (f : Int) < (p.fs.length : Int) := by omega
            obtain rfl : ok = false := by
              cases ok with
              | false => rfl
              | true =>
                refine absurd (fun g hg => ?_) (bad_unfit Hbad.out Hsh.out)
                refine HO.out rfl g ?_
                have e : p.plain.fs.length = p.fs.length := by simp [PrgM.plain]
                omega
            clear hXr hGr hB HO
            go_wp2_with fail
            refine (head13_any _).mono ?_
            rintro e w6 ⟨rfl, hb6⟩
            have HB6 := Lib.hid (HB5.out.trans ((HB.out.trans (hb6.mono HB.out.size)).mono HB5.out.size))
            clear hb6
            go_wp2_with fail
            go_ret
            exact ⟨rfl, HB6.out⟩
    · as_aux_lemma =>
      have hnl : p.plain.fs.length = p.fs.length := by simp [PrgM.plain]
      have hhl : hs.length = p.fs.length := by rw [hok.lh, hnl]
      have hn64 : 1 ≤ p.fs.length ∧ p.fs.length ≤ 64 := by have := good_many hok.lead.chk; rw [hnl] at this; exact this
      obtain ⟨bh, -, hAH, -, hbh, -, -⟩ := rows_at hM.hh hM.sh hM.oh (f := 0) (by omega)
      have HAH := Lib.hid hAH
      rw [hhl, hAH]
      generalize tops.length = nt
      generalize lps.length = nl
      have hLv : live.length = live.length := rfl
      generalize hnv : live.length = nv at *
      obtain ⟨w4, hw4⟩ : ∃ w4, w4 = (w3.alloc (.cells #[.slice (some ⟨bh, 0, none⟩) p.fs.length cH, .slice AT nt cT, .slice AL nl cL, .slice (some ⟨gL, 0, none⟩) nv nv, .int .i64 ce, .int .i64 co] 32)).alloc (.cells #[.int .i64 0, .int .i64 0, .int .i64 0] 37) := ⟨_, rfl⟩
      obtain ⟨gG, hgG⟩ : ∃ g, g = w3.heap.size + 1 := ⟨_, rfl⟩
      obtain ⟨gF, hgF⟩ : ∃ g, g = w3.heap.size := ⟨_, rfl⟩
      have hF4 : Blk w4 gF 32 #[.slice (some ⟨bh, 0, none⟩) p.fs.length cH, .slice AT nt cT, .slice AL nl cL, .slice (some ⟨gL, 0, none⟩) nv nv, .int .i64 ce, .int .i64 co] := by rw [hw4, hgF]; exact (Blk.new w3 _ _).alloc _
      have hb4 : Below w3.heap.size w3 w4 := by rw [hw4]; exact ((Below.refl _ _).alloc (Nat.le_refl _) _).alloc (by simp) _
      have hG4 : Blk w4 gG 37 #[.int .i64 0, .int .i64 0, .int .i64 0] := by rw [hw4, hgG]; exact Blk.new2 _ _ _ _
      have hX4 := (HX2.out.below hb3 HX2.out.lt).below hb4 (HX2.out.below hb3 HX2.out.lt).lt
      have HB4 := Lib.hid (show Below w.heap.size w w4 from (Hb2.out.trans (hb3.mono Hb2.out.size)).trans (hb4.mono (Nat.le_trans Hb2.out.size hb3.size)))
      have HP4 := Lib.hid ((HP2.out.below hb3).below hb4)
      have HT4 := Lib.hid ((HT2.out.below hb3).below hb4)
      have HSh := Lib.hid (shaped13_any p w4 HP4.out)
      have HX4 := Lib.hid hX4
      have HG4 := Lib.hid hG4
      have Hw4 := Lib.hid hw4
      have HgG := Lib.hid hgG
      have HgF := Lib.hid hgF
      have y04 : w4.cell? ⟨gx, 0, none⟩ = some (.int .i64 p.mem) := hX4.cell 0
      have y14 : w4.cell? ⟨gx, 1, none⟩ = some (.slice p.AD p.data.length p.cD) := hX4.cell 1
      have y24 : w4.cell? ⟨gx, 2, none⟩ = some (.slice p.AF p.fs.length p.cF) := hX4.cell 2
      have yl4 := hX4.lt
      have HF4 := Lib.hid hF4
      have HM4 := Lib.hid (hM.below hb4)
      have Hok := Lib.hid hok
      have Hhl := Lib.hid hhl
      have Hnl := Lib.hid hnl
      clear hb3 hb4 hG4 hX4 hF4 hw4 hgG hgF hok hhl hnl hM hL hbh hAH hLv hnv y0 y1 y2 yl HR
      dsimp only [faultV]
      go_upto_region 4 with (fail)
      rw [← Hw4.out, ← HgG.out, ← HgF.out]
      clear Hw4 HgG HgF
      go_wp2_with fail
      refine HSh.out.mono ?_
      rintro e w5 ⟨⟨b, rfl, hbS⟩, hb5⟩
      obtain rfl : b = true := hbS.2 ⟨Hok.out.lead, Hok.out.good.ops⟩
      have HB5 := Lib.hid (HB4.out.trans (hb5.mono HB4.out.size))
      have HG5 := Lib.hid (HG4.out.below hb5 HG4.out.lt)
      have HF5 := Lib.hid (HF4.out.below hb5 HF4.out.lt)
      have HX5 := Lib.hid (HX4.out.below hb5 HX4.out.lt)
      have HP5 := Lib.hid (HP4.out.below hb5)
      have HT5 := Lib.hid (HT4.out.below hb5)
      have HM5 := Lib.hid (HM4.out.below hb5)
      clear HX4 HP4 HT4 HG4 HF4 HM4 hb5 hbS y04 y14 y24 yl4 HSh
      go_wp2_with fail
      go_loopw [7, 8] (fun okv i wr => ∃ f : Nat, f ≤ p.fs.length ∧ i = .int .i64 (f : Int) ∧ okv = .bool true ∧ Below w5.heap.size w5 wr) (fun _ i _ => p.fs.length - (intOf i).toNat)
      case atStart => exact ⟨0, Nat.zero_le _, rfl, rfl, Below.refl _ _⟩
      case round =>
        rename World => wr
        obtain ⟨f, hf, rfl, rfl, hB⟩ := hrel
        have HB := Lib.hid hB
        have hXr := HX5.out.below hB HX5.out.lt
        have hGr := HG5.out.below hB HG5.out.lt
        have x0 : wr.cell? ⟨gx, 0, none⟩ = some (.int .i64 p.mem) := hXr.cell 0
        have x1 : wr.cell? ⟨gx, 1, none⟩ = some (.slice p.AD p.data.length p.cD) := hXr.cell 1
        have x2 : wr.cell? ⟨gx, 2, none⟩ = some (.slice p.AF p.fs.length p.cF) := hXr.cell 2
        have xl := hXr.lt
        have g0 : wr.cell? ⟨gG, 0, none⟩ = some (.int .i64 0) := hGr.cell 0
        have gl := hGr.lt
        by_cases hlt : f < p.fs.length
        · have g1 : (f : Int) < (p.fs.length : Int) := by omega
          have g2 : ¬ (p.fs.length : Int) ≤ (f : Int) := by omega
          have HTr := Lib.hid (tried13_any p f A c ts wr (HP5.out.below hB) Hok.out.good hlt (HT5.out.below hB) htl)
          clear hXr hGr hB g0 gl
          go_wp2_with fail
          refine HTr.out.mono ?_
          rintro e w6 ⟨hb6, hres⟩
          have HB6 := Lib.hid (HB.out.trans (hb6.mono HB.out.size))
          have hG6 := HG5.out.below HB6.out HG5.out.lt
          have hF6 := HF5.out.below HB6.out HF5.out.lt
          have g0 : w6.cell? ⟨gG, 0, none⟩ = some (.int .i64 0) := hG6.cell 0
          have gl := hG6.lt
          have f0 : w6.cell? ⟨gF, 0, none⟩ = some (.slice (some ⟨bh, 0, none⟩) p.fs.length cH) := hF6.cell 0
          have fl := hF6.lt
          have hM6 := HM5.out.below HB6.out
          have hfs : f < hs.length := by rw [Hhl.out]; exact hlt
          have hfP : f < p.plain.fs.length := by rw [Hnl.out]; exact hlt
          obtain ⟨b, r, hA, -, hb, hc, hO⟩ := rows_at hM6.hh hM6.sh hM6.oh hfs
          rw [HAH.out] at hA
          injection hA with hA
          injection hA with e1 e2
          subst e1
          have hFk := Hok.out.fin f hfP
          clear x0 x1 x2 xl hG6 hF6 hb6 hM6 hfs HTr
          rcases hres with ⟨h, A2, c2, rfl, hF, hRV⟩ | ⟨rfl, hno⟩
          · have hhe : h = hs.getD f [] := hF.unique hFk Hok.out.lead.chk
            rw [← hhe] at hc hO
            have hhl2 : h.length ≤ maxLen := by rw [hF.len]; have := good_len Hok.out.good f; unfold maxLen; omega
            have HSi := Lib.hid (sameInts13_any A2 r.A c2 r.c h h w6 hRV (RV.of_own hO) hhl2)
            rw [show (h == h) = true from by simp] at HSi
            clear hF hFk hhe hO hRV hhl2
            go_wp2_with fail
            refine HSi.out.mono ?_
            rintro e w7 ⟨rfl, hb7⟩
            have HB7 := Lib.hid (HB6.out.trans (hb7.mono HB6.out.size))
            clear hb7
            go_wp2_with fail
            refine ⟨⟨f + 1, by omega, by first | rfl | go_num, rfl, HB7.out⟩, by simp [intOf]; omega⟩
          · exact absurd hFk (hno _)
        · have g1 : ¬ (f : Int) < (p.fs.length : Int) := by omega
          clear hXr hGr hB
          go_wp2_with fail
          refine (head13_any _).mono ?_
          rintro e w6 ⟨rfl, hb6⟩
          have HB6 := Lib.hid (HB5.out.trans ((HB.out.trans (hb6.mono HB.out.size)).mono HB5.out.size))
          clear hb6
          go_wp2_with fail
          go_ret
          exact ⟨rfl, HB6.out⟩
end Go.Proofs.Ytcmpmhlcfalbhaa
