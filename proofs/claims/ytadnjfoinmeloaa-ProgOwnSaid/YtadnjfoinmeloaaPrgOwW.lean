/- The walk of the law ProgOwn (printed by gen_prown.py). -/
import Derived.Test.YtadnjfoinmeloaaPrgKn
import Derived.Test.YtadnjfoinmeloaaPrgRt
import Derived.Test.YtadnjfoinmeloaaPrgTw
import Derived.Test.YtadnjfoinmeloaaPrgRs
import Derived.Test.YtadnjfoinmeloaaPrgEw
import Derived.Test.YtadnjfoinmeloaaKeptP
import Derived.Test.YtadnjfoinmeloaaPrgGr
import Derived.Test.YtadnjfoinmeloaaPrgSp
import Derived.Test.YtadnjfoinmeloaaPrgOl
namespace Go.Proofs.Ytadnjfoinmeloaa
open Go.RowKit

set_option maxRecDepth 100000 in
set_option maxHeartbeats 8000000 in
theorem progOwn_walk (p : PrgM) (w : World) (hp : PrgAt w p) : Calls Try.prog 10 #[.agg #[.int .i64 p.mem, .slice p.AD p.data.length p.cD, .slice p.AF p.fs.length p.cF]] w fun e w' => e = .returned (.bool true) ∧ Below w.heap.size w w' := by
  have Hp := Lib.hid hp
  clear hp
  obtain ⟨w1, hw1⟩ : ∃ w1, w1 = w.alloc (.cells #[.int .i64 p.mem, .slice p.AD p.data.length p.cD, .slice p.AF p.fs.length p.cF] 25) := ⟨_, rfl⟩
  have hb1 : Below w.heap.size w w1 := by rw [hw1]; exact (Below.refl _ _).alloc (Nat.le_refl _) _
  obtain ⟨gx, hgx⟩ : ∃ g, g = w.heap.size := ⟨_, rfl⟩
  have hX1 : Blk w1 gx 25 #[.int .i64 p.mem, .slice p.AD p.data.length p.cD, .slice p.AF p.fs.length p.cF] := by rw [hw1, hgx]; exact Blk.new w _ _
  have HB := Lib.hid hb1
  have HX := Lib.hid hX1
  have Hw1 := Lib.hid hw1
  have Hgx := Lib.hid hgx
  clear hb1 hX1 hw1 hgx
  go_enter Try.func10, Try.ntmps10
  go_wp2_with fail
  rw [← Hw1.out, ← Hgx.out]
  refine (knownP_any _).mono ?_
  rintro e w2 ⟨rfl, hb2⟩
  have HB_ := Lib.hid (HB.out.trans (hb2.mono HB.out.size))
  have HX_ := Lib.hid (HX.out.below hb2 HX.out.lt)
  clear HB HX
  have HB := HB_
  have HX := HX_
  clear HB_ HX_
  have x0 : w2.cell? ⟨gx, 0, none⟩ = some (.int .i64 p.mem) := HX.out.cell 0
  have x1 : w2.cell? ⟨gx, 1, none⟩ = some (.slice p.AD p.data.length p.cD) := HX.out.cell 1
  have x2 : w2.cell? ⟨gx, 2, none⟩ = some (.slice p.AF p.fs.length p.cF) := HX.out.cell 2
  have xl := HX.out.lt
  obtain ⟨ys, E, hen⟩ : ∃ ys E, encP p.plain = (ys, E) := ⟨_, _, rfl⟩
  have hec := pEncode_any p w2 (Hp.out.below HB.out)
  rw [hen] at hec
  have Hec := Lib.hid hec
  have Hen := Lib.hid hen
  have hgx2 : gx < w2.heap.size := xl
  clear hen hec hb2 Hw1
  go_wp2_with fail
  refine Hec.out.mono ?_
  rintro e w3 ⟨A3, c3, rfl, hown3, hb3⟩
  dsimp only at hown3 ⊢
  have hgx3 : gx < w3.heap.size := Nat.lt_of_lt_of_le hgx2 hb3.size
  clear x0 x1 x2 xl
  have HB_ := Lib.hid (HB.out.trans (hb3.mono HB.out.size))
  have HX_ := Lib.hid (HX.out.below hb3 HX.out.lt)
  clear HB HX
  have HB := HB_
  have HX := HX_
  clear HB_ HX_
  have HY := Lib.hid hown3
  clear hown3 hb3 Hec
  by_cases hE : E = 0
  case neg =>
    have f1 : (E == 0) = false := by simpa using hE
    have f2 : (E != 0) = true := by rw [bne, f1]; rfl
    have x0 : w3.cell? ⟨gx, 0, none⟩ = some (.int .i64 p.mem) := HX.out.cell 0
    have x1 : w3.cell? ⟨gx, 1, none⟩ = some (.slice p.AD p.data.length p.cD) := HX.out.cell 1
    have x2 : w3.cell? ⟨gx, 2, none⟩ = some (.slice p.AF p.fs.length p.cF) := HX.out.cell 2
    have xl := HX.out.lt
    have Htw := Lib.hid (twin_any p w3 (Hp.out.below HB.out))
    clear hE HY
    go_wp2_with fail
    refine Htw.out.mono ?_
    rintro e w4 ⟨t, rfl, htl, htm, hb4⟩
    have hz34 := hb4.size
    clear x0 x1 x2 xl
    have HB_ := Lib.hid (HB.out.trans (hb4.mono HB.out.size))
    have HX_ := Lib.hid (HX.out.below hb4 HX.out.lt)
    clear HB HX
    have HB := HB_
    have HX := HX_
    clear HB_ HX_
    have HT := Lib.hid htm
    have Htop := Lib.hid (show (∀ b, t.AD.map (·.block) = some b → b < w4.heap.size) ∧ (∀ b, t.AF.map (·.block) = some b → b < w4.heap.size) ∧ (∀ f ∈ t.fs, ∀ b, f.A.map (·.block) = some b → b < w4.heap.size) from
      ⟨fun b e => (Own.row htm.data b e).2, fun b e => (Own.row htm.funs b e).2, fun f hf b e => (htm.row.lt f hf b e).2⟩)
    have Htl := Lib.hid htl
    clear htm htl hb4 Htw
    obtain ⟨w5, hw5⟩ : ∃ v, v = w4.alloc (.cells #[.int .i64 t.mem, .slice t.AD t.data.length t.cD, .slice t.AF t.fs.length t.cF] 25) := ⟨_, rfl⟩
    obtain ⟨gt, hgt⟩ : ∃ g, g = w4.heap.size := ⟨_, rfl⟩
    have hbx : Below w4.heap.size w4 w5 := by rw [hw5]; exact (Below.refl _ _).alloc (Nat.le_refl _) _
    have HBt := Lib.hid (show Blk w5 gt 25 #[.int .i64 t.mem, .slice t.AD t.data.length t.cD, .slice t.AF t.fs.length t.cF] from by rw [hw5, hgt]; exact Blk.new w4 _ _)
    have HB_ := Lib.hid (HB.out.trans (hbx.mono HB.out.size))
    have HX_ := Lib.hid (HX.out.below hbx HX.out.lt)
    have HT_ := Lib.hid (HT.out.below hbx)
    clear HB HX HT
    have HB := HB_
    have HX := HX_
    have HT := HT_
    clear HB_ HX_ HT_
    have Hbsw5 := Lib.hid (show gt < w5.heap.size from HBt.out.lt)
    have Hw5 := Lib.hid hw5
    have Hgt := Lib.hid hgt
    clear hw5 hgt hbx
    have x0 : w5.cell? ⟨gx, 0, none⟩ = some (.int .i64 p.mem) := HX.out.cell 0
    have x1 : w5.cell? ⟨gx, 1, none⟩ = some (.slice p.AD p.data.length p.cD) := HX.out.cell 1
    have x2 : w5.cell? ⟨gx, 2, none⟩ = some (.slice p.AF p.fs.length p.cF) := HX.out.cell 2
    have xl := HX.out.lt
    have Htw := Lib.hid (twin_any p w5 (Hp.out.below HB.out))
    go_wp2_with (refine wpList_at 33 rfl ?_; refine wp_stop ?_)
    try refine ⟨?_⟩
    rw [← Hw5.out, ← Hgt.out]
    go_wp2_with fail
    refine Htw.out.mono ?_
    rintro e w6 ⟨u, rfl, hul, hum, hb6⟩
    have hz56 := hb6.size
    clear x0 x1 x2 xl
    have HB_ := Lib.hid (HB.out.trans (hb6.mono HB.out.size))
    have HX_ := Lib.hid (HX.out.below hb6 HX.out.lt)
    have HT_ := Lib.hid (HT.out.below hb6)
    have HBt_ := Lib.hid (HBt.out.below hb6 HBt.out.lt)
    clear HB HX HT HBt
    have HB := HB_
    have HX := HX_
    have HT := HT_
    have HBt := HBt_
    clear HB_ HX_ HT_ HBt_
    have HU := Lib.hid hum
    have Hul := Lib.hid hul
    clear hum hul hb6 Htw Hw5
    obtain ⟨w7, hw7⟩ : ∃ v, v = w6.alloc (.cells #[.int .i64 u.mem, .slice u.AD u.data.length u.cD, .slice u.AF u.fs.length u.cF] 25) := ⟨_, rfl⟩
    obtain ⟨gu, hgu⟩ : ∃ g, g = w6.heap.size := ⟨_, rfl⟩
    have hbx : Below w6.heap.size w6 w7 := by rw [hw7]; exact (Below.refl _ _).alloc (Nat.le_refl _) _
    have HBu := Lib.hid (show Blk w7 gu 25 #[.int .i64 u.mem, .slice u.AD u.data.length u.cD, .slice u.AF u.fs.length u.cF] from by rw [hw7, hgu]; exact Blk.new w6 _ _)
    have HB_ := Lib.hid (HB.out.trans (hbx.mono HB.out.size))
    have HX_ := Lib.hid (HX.out.below hbx HX.out.lt)
    have HT_ := Lib.hid (HT.out.below hbx)
    have HBt_ := Lib.hid (HBt.out.below hbx HBt.out.lt)
    have HU_ := Lib.hid (HU.out.below hbx)
    clear HB HX HT HBt HU
    have HB := HB_
    have HX := HX_
    have HT := HT_
    have HBt := HBt_
    have HU := HU_
    clear HB_ HX_ HT_ HBt_ HU_
    have Hbsw7 := Lib.hid (show gu < w7.heap.size from HBu.out.lt)
    have Hw7 := Lib.hid hw7
    have Hgu := Lib.hid hgu
    clear hw7 hgu hbx
    have x0 : w7.cell? ⟨gx, 0, none⟩ = some (.int .i64 p.mem) := HX.out.cell 0
    have x1 : w7.cell? ⟨gx, 1, none⟩ = some (.slice p.AD p.data.length p.cD) := HX.out.cell 1
    have x2 : w7.cell? ⟨gx, 2, none⟩ = some (.slice p.AF p.fs.length p.cF) := HX.out.cell 2
    have xl := HX.out.lt
    have t0 : w7.cell? ⟨gt, 0, none⟩ = some (.int .i64 t.mem) := HBt.out.cell 0
    have t1 : w7.cell? ⟨gt, 1, none⟩ = some (.slice t.AD t.data.length t.cD) := HBt.out.cell 1
    have t2 : w7.cell? ⟨gt, 2, none⟩ = some (.slice t.AF t.fs.length t.cF) := HBt.out.cell 2
    have tl := HBt.out.lt
    have u0 : w7.cell? ⟨gu, 0, none⟩ = some (.int .i64 u.mem) := HBu.out.cell 0
    have u1 : w7.cell? ⟨gu, 1, none⟩ = some (.slice u.AD u.data.length u.cD) := HBu.out.cell 1
    have u2 : w7.cell? ⟨gu, 2, none⟩ = some (.slice u.AF u.fs.length u.cF) := HBu.out.cell 2
    have ul := HBu.out.lt
    have HokT := Lib.hid (show PrgOk t.plain from by rw [Htl.out]; exact Hp.out.ok)
    have HokU := Lib.hid (show PrgOk u.plain from by rw [Hul.out]; exact Hp.out.ok)
    have hsm := refSameP_any t p w7 (HT.out.at_ HokT.out) (Hp.out.below HB.out)
    rw [(sameP_iff _ _).2 Htl.out] at hsm
    have Hsm := Lib.hid hsm
    clear hsm
    go_wp2_with (refine wpList_at 35 rfl ?_; refine wp_stop ?_)
    try refine ⟨?_⟩
    rw [← Hw7.out, ← Hgu.out]
    go_wp2_with fail
    refine Hsm.out.mono ?_
    rintro e w8 ⟨rfl, hb8⟩
    have hz78 := hb8.size
    clear x0 x1 x2 xl t0 t1 t2 tl u0 u1 u2 ul
    have HB_ := Lib.hid (HB.out.trans (hb8.mono HB.out.size))
    have HX_ := Lib.hid (HX.out.below hb8 HX.out.lt)
    have HT_ := Lib.hid (HT.out.below hb8)
    have HBt_ := Lib.hid (HBt.out.below hb8 HBt.out.lt)
    have HU_ := Lib.hid (HU.out.below hb8)
    have HBu_ := Lib.hid (HBu.out.below hb8 HBu.out.lt)
    clear HB HX HT HBt HU HBu
    have HB := HB_
    have HX := HX_
    have HT := HT_
    have HBt := HBt_
    have HU := HU_
    have HBu := HBu_
    clear HB_ HX_ HT_ HBt_ HU_ HBu_
    have x0 : w8.cell? ⟨gx, 0, none⟩ = some (.int .i64 p.mem) := HX.out.cell 0
    have x1 : w8.cell? ⟨gx, 1, none⟩ = some (.slice p.AD p.data.length p.cD) := HX.out.cell 1
    have x2 : w8.cell? ⟨gx, 2, none⟩ = some (.slice p.AF p.fs.length p.cF) := HX.out.cell 2
    have xl := HX.out.lt
    have u0 : w8.cell? ⟨gu, 0, none⟩ = some (.int .i64 u.mem) := HBu.out.cell 0
    have u1 : w8.cell? ⟨gu, 1, none⟩ = some (.slice u.AD u.data.length u.cD) := HBu.out.cell 1
    have u2 : w8.cell? ⟨gu, 2, none⟩ = some (.slice u.AF u.fs.length u.cF) := HBu.out.cell 2
    have ul := HBu.out.lt
    have hsm := refSameP_any u p w8 (HU.out.at_ HokU.out) (Hp.out.below HB.out)
    rw [(sameP_iff _ _).2 Hul.out] at hsm
    clear Hsm hb8 Hw7
    have Hsm := Lib.hid hsm
    clear hsm
    go_wp2_with fail
    refine Hsm.out.mono ?_
    rintro e w9 ⟨rfl, hb9⟩
    have hz89 := hb9.size
    clear x0 x1 x2 xl u0 u1 u2 ul
    have HB_ := Lib.hid (HB.out.trans (hb9.mono HB.out.size))
    have HX_ := Lib.hid (HX.out.below hb9 HX.out.lt)
    have HT_ := Lib.hid (HT.out.below hb9)
    have HBt_ := Lib.hid (HBt.out.below hb9 HBt.out.lt)
    have HU_ := Lib.hid (HU.out.below hb9)
    have HBu_ := Lib.hid (HBu.out.below hb9 HBu.out.lt)
    clear HB HX HT HBt HU HBu
    have HB := HB_
    have HX := HX_
    have HT := HT_
    have HBt := HBt_
    have HU := HU_
    have HBu := HBu_
    clear HB_ HX_ HT_ HBt_ HU_ HBu_
    have x0 : w9.cell? ⟨gx, 0, none⟩ = some (.int .i64 p.mem) := HX.out.cell 0
    have x1 : w9.cell? ⟨gx, 1, none⟩ = some (.slice p.AD p.data.length p.cD) := HX.out.cell 1
    have x2 : w9.cell? ⟨gx, 2, none⟩ = some (.slice p.AF p.fs.length p.cF) := HX.out.cell 2
    have xl := HX.out.lt
    have Htw := Lib.hid (refTwin_any p w9 (Hp.out.below HB.out))
    clear Hsm hb9
    go_wp2_with fail
    refine Htw.out.mono ?_
    rintro e w10 ⟨z, rfl, hvl, hvm, hb10⟩
    have hz910 := hb10.size
    clear x0 x1 x2 xl
    have HB_ := Lib.hid (HB.out.trans (hb10.mono HB.out.size))
    have HX_ := Lib.hid (HX.out.below hb10 HX.out.lt)
    have HT_ := Lib.hid (HT.out.below hb10)
    have HBt_ := Lib.hid (HBt.out.below hb10 HBt.out.lt)
    have HU_ := Lib.hid (HU.out.below hb10)
    have HBu_ := Lib.hid (HBu.out.below hb10 HBu.out.lt)
    clear HB HX HT HBt HU HBu
    have HB := HB_
    have HX := HX_
    have HT := HT_
    have HBt := HBt_
    have HU := HU_
    have HBu := HBu_
    clear HB_ HX_ HT_ HBt_ HU_ HBu_
    have HV := Lib.hid hvm
    have Hvl := Lib.hid hvl
    clear hvm hvl hb10 Htw
    obtain ⟨w11, hw11⟩ : ∃ v, v = w10.alloc (.cells #[.int .i64 z.mem, .slice z.AD z.data.length z.cD, .slice z.AF z.fs.length z.cF] 25) := ⟨_, rfl⟩
    obtain ⟨gv, hgv⟩ : ∃ g, g = w10.heap.size := ⟨_, rfl⟩
    have hbx : Below w10.heap.size w10 w11 := by rw [hw11]; exact (Below.refl _ _).alloc (Nat.le_refl _) _
    have HBv := Lib.hid (show Blk w11 gv 25 #[.int .i64 z.mem, .slice z.AD z.data.length z.cD, .slice z.AF z.fs.length z.cF] from by rw [hw11, hgv]; exact Blk.new w10 _ _)
    have HB_ := Lib.hid (HB.out.trans (hbx.mono HB.out.size))
    have HX_ := Lib.hid (HX.out.below hbx HX.out.lt)
    have HT_ := Lib.hid (HT.out.below hbx)
    have HBt_ := Lib.hid (HBt.out.below hbx HBt.out.lt)
    have HU_ := Lib.hid (HU.out.below hbx)
    have HBu_ := Lib.hid (HBu.out.below hbx HBu.out.lt)
    have HV_ := Lib.hid (HV.out.below hbx)
    clear HB HX HT HBt HU HBu HV
    have HB := HB_
    have HX := HX_
    have HT := HT_
    have HBt := HBt_
    have HU := HU_
    have HBu := HBu_
    have HV := HV_
    clear HB_ HX_ HT_ HBt_ HU_ HBu_ HV_
    have Hbsw11 := Lib.hid (show gv < w11.heap.size from HBv.out.lt)
    have Hw11 := Lib.hid hw11
    have Hgv := Lib.hid hgv
    clear hw11 hgv hbx
    have t0 : w11.cell? ⟨gt, 0, none⟩ = some (.int .i64 t.mem) := HBt.out.cell 0
    have t1 : w11.cell? ⟨gt, 1, none⟩ = some (.slice t.AD t.data.length t.cD) := HBt.out.cell 1
    have t2 : w11.cell? ⟨gt, 2, none⟩ = some (.slice t.AF t.fs.length t.cF) := HBt.out.cell 2
    have tl := HBt.out.lt
    have hgt : gt ≤ w11.heap.size := Nat.le_of_lt HBt.out.lt
    have Hsp := Lib.hid (spoil_any t w11 w3.heap.size gt HT.out HokT.out (by rw [Hgt.out]; exact Htop.out.1) (by rw [Hgt.out]; exact Htop.out.2.1) (by rw [Hgt.out]; exact Htop.out.2.2) hgt)
    go_wp2_with (refine wpList_at 47 rfl ?_; refine wp_stop ?_)
    try refine ⟨?_⟩
    rw [← Hw11.out, ← Hgv.out]
    go_wp2_with fail
    refine Hsp.out.mono ?_
    rintro e w12 ⟨rfl, hO⟩
    have q1 := Hgx.out
    have q2 := Hgt.out
    have q3 := Hgu.out
    have q4 := Hgv.out
    have q5 := Hbsw5.out
    have q6 := Hbsw7.out
    have q7 := Hbsw11.out
    have hgtu := HBt.out.lt
    have HB12 := Lib.hid (HB.out.trans (hO.below (B := w.heap.size) HB.out.size (fun k hk e => by omega)))
    have HX12 := Lib.hid (HX.out.only hO (fun e => by omega))
    have HBu12 := Lib.hid (HBu.out.only hO (fun e => by omega))
    have HBv12 := Lib.hid (HBv.out.only hO (fun e => by omega))
    have HU12 := Lib.hid (HU.out.only hO (fun b h1 h2 e => by omega))
    have HV12 := Lib.hid (HV.out.only hO (fun b h1 h2 e => by omega))
    clear q1 q2 q3 q4 q5 q6 q7 hgtu
    clear t0 t1 t2 tl
    clear HB HX HBt HBu HBv HT HU HV hO Hsp Hw11
    have x0 : w12.cell? ⟨gx, 0, none⟩ = some (.int .i64 p.mem) := HX12.out.cell 0
    have x1 : w12.cell? ⟨gx, 1, none⟩ = some (.slice p.AD p.data.length p.cD) := HX12.out.cell 1
    have x2 : w12.cell? ⟨gx, 2, none⟩ = some (.slice p.AF p.fs.length p.cF) := HX12.out.cell 2
    have xl := HX12.out.lt
    have v0 : w12.cell? ⟨gv, 0, none⟩ = some (.int .i64 z.mem) := HBv12.out.cell 0
    have v1 : w12.cell? ⟨gv, 1, none⟩ = some (.slice z.AD z.data.length z.cD) := HBv12.out.cell 1
    have v2 : w12.cell? ⟨gv, 2, none⟩ = some (.slice z.AF z.fs.length z.cF) := HBv12.out.cell 2
    have vl := HBv12.out.lt
    have HokV := Lib.hid (show PrgOk z.plain from by rw [Hvl.out]; exact Hp.out.ok)
    have hsm := refSameP_any p z w12 (Hp.out.below HB12.out) (HV12.out.at_ HokV.out)
    rw [(sameP_iff _ _).2 Hvl.out.symm] at hsm
    have Hsm := Lib.hid hsm
    clear hsm
    go_wp2_with fail
    refine Hsm.out.mono ?_
    rintro e w13 ⟨rfl, hb13⟩
    clear x0 x1 x2 xl v0 v1 v2 vl
    have HB12_ := Lib.hid (HB12.out.trans (hb13.mono HB12.out.size))
    have HBu12_ := Lib.hid (HBu12.out.below hb13 HBu12.out.lt)
    have HBv12_ := Lib.hid (HBv12.out.below hb13 HBv12.out.lt)
    have HU12_ := Lib.hid (HU12.out.below hb13)
    have HV12_ := Lib.hid (HV12.out.below hb13)
    clear HB12 HBu12 HBv12 HU12 HV12
    have HB12 := HB12_
    have HBu12 := HBu12_
    have HBv12 := HBv12_
    have HU12 := HU12_
    have HV12 := HV12_
    clear HB12_ HBu12_ HBv12_ HU12_ HV12_
    have u0 : w13.cell? ⟨gu, 0, none⟩ = some (.int .i64 u.mem) := HBu12.out.cell 0
    have u1 : w13.cell? ⟨gu, 1, none⟩ = some (.slice u.AD u.data.length u.cD) := HBu12.out.cell 1
    have u2 : w13.cell? ⟨gu, 2, none⟩ = some (.slice u.AF u.fs.length u.cF) := HBu12.out.cell 2
    have ul := HBu12.out.lt
    have v0 : w13.cell? ⟨gv, 0, none⟩ = some (.int .i64 z.mem) := HBv12.out.cell 0
    have v1 : w13.cell? ⟨gv, 1, none⟩ = some (.slice z.AD z.data.length z.cD) := HBv12.out.cell 1
    have v2 : w13.cell? ⟨gv, 2, none⟩ = some (.slice z.AF z.fs.length z.cF) := HBv12.out.cell 2
    have vl := HBv12.out.lt
    have hsm := refSameP_any u z w13 (HU12.out.at_ HokU.out) (HV12.out.at_ HokV.out)
    rw [(sameP_iff _ _).2 (Hul.out.trans Hvl.out.symm)] at hsm
    clear Hsm hb13
    have Hsm := Lib.hid hsm
    clear hsm
    go_wp2_with fail
    refine Hsm.out.mono ?_
    rintro e w14 ⟨rfl, hb14⟩
    have HF := Lib.hid (HB12.out.trans (hb14.mono HB12.out.size))
    clear hb14 Hsm
    go_wp2_with fail
    go_ret
    exact ⟨rfl, HF.out⟩
  subst hE
  have hok := Hp.out.okI2
  obtain ⟨hck, -, hyl⟩ := encP_ok Hen.out
  have Hdec := Lib.hid (decP_enc hok Hen.out)
  have Hck := Lib.hid hck
  have Hle := Lib.hid (lendP_any ys A3 c3 w3 (RV.of_own HY.out) (by omega))
  clear hok hck
  go_wp2_with fail
  refine Hle.out.mono ?_
  rintro e w4 ⟨rfl, hmine, hb4⟩
  obtain ⟨gl, hgl⟩ : ∃ g, g = w3.heap.size := ⟨_, rfl⟩
  rw [← hgl] at hmine ⊢
  have HB_ := Lib.hid (HB.out.trans (hb4.mono HB.out.size))
  have HX_ := Lib.hid (HX.out.below hb4 HX.out.lt)
  have HY_ := Lib.hid (Own.below HY.out hb4 (Nat.le_refl _))
  clear HB HX HY
  have HB := HB_
  have HX := HX_
  have HY := HY_
  clear HB_ HX_ HY_
  have HL := Lib.hid hmine
  have Hgl := Lib.hid hgl
  obtain ⟨B, hBB⟩ : ∃ B, B = w4.heap.size := ⟨_, rfl⟩
  have HS0 := Lib.hid (show PSt w4 w4 B p.plain [] none 0 0 from by rw [hBB]; exact PSt.nil w4 _)
  have HBB := Lib.hid hBB
  have hglB : gl < B := by rw [hBB]; exact hmine.lt
  have hgxB : gx < B := by rw [hBB]; exact HX.out.lt
  clear hmine hgl hb4 hBB Hle
  go_wp2_with fail
  go_loopw [9, 10] (fun v i wr => ∃ (k : Nat) (l : List PrgM) (L : Option Addr) (cL : Nat), k ≤ 3 ∧ i = .int .i64 k ∧ v = .slice L l.length cL ∧ PSt w4 wr B p.plain l L cL k) (fun _ i _ => 3 - (intOf i).toNat)
  case atStart => exact ⟨0, [], none, 0, Nat.zero_le _, rfl, rfl, HS0.out⟩
  case round =>
    rename World => w5
    clear HS0
    obtain ⟨k, l, L, cL, hk, rfl, rfl, hS⟩ := hrel
    by_cases hk3 : k < 3
    · have g1 : (k : Int) < 3 := by omega
      have HS := Lib.hid hS
      have hbel := hS.bel
      have HB5 := Lib.hid (HB.out.trans (hbel.mono HB.out.size))
      have HL5 := Lib.hid (HL.out.below hbel HL.out.lt)
      have hdc := decodeP_any (some ⟨gl, 0, none⟩) (ys.length + 5) ys w5 (lentP_sl HL5.out) (by omega)
      rw [Hdec.out] at hdc
      have Hdc := Lib.hid hdc
      have hBz5 : B ≤ w5.heap.size := by rw [HBB.out]; exact hbel.size
      clear hS hbel hdc
      go_wp2_with fail
      refine Hdc.out.mono ?_
      rintro e w6 ⟨x, hxl, rfl, hxo, hb6⟩
      dsimp only at hxl ⊢
      have hz56 := hb6.size
      obtain ⟨v0, hv0⟩ : ∃ v0, v0 = w6.alloc (.cells #[.int .i64 x.mem, .slice x.AD x.data.length x.cD, .slice x.AF x.fs.length x.cF] 25) := ⟨_, rfl⟩
      obtain ⟨gb, hgb⟩ : ∃ g, g = w6.heap.size := ⟨_, rfl⟩
      have hb60 : Below w6.heap.size w6 v0 := by rw [hv0]; exact (Below.refl _ _).alloc (Nat.le_refl _) _
      have hX0 : Blk v0 gb 25 #[.int .i64 x.mem, .slice x.AD x.data.length x.cD, .slice x.AF x.fs.length x.cF] := by rw [hv0, hgb]; exact Blk.new w6 _ _
      have hb50 := hb6.trans (hb60.mono hz56)
      have hz60 := hb60.size
      have HXo := Lib.hid ((hxo.below hb60).mine)
      have Hxl := Lib.hid hxl
      have HokX := Lib.hid (show PrgOk x.plain from by rw [hxl]; exact Hp.out.ok)
      have hgbl := hX0.lt
      have Hb50 := Lib.hid hb50
      have Hv0 := Lib.hid hv0
      have Hgb := Lib.hid hgb
      have Hc0 := Lib.hid (fun (w' : World) (h : Below v0.heap.size v0 w') => show w'.cell? ⟨gb, 0, none⟩ = some (.int .i64 x.mem) from (hX0.below h hgbl).cell 0)
      have Hc1 := Lib.hid (fun (w' : World) (h : Below v0.heap.size v0 w') => show w'.cell? ⟨gb, 1, none⟩ = some (.slice x.AD x.data.length x.cD) from (hX0.below h hgbl).cell 1)
      have Hc2 := Lib.hid (fun (w' : World) (h : Below v0.heap.size v0 w') => show w'.cell? ⟨gb, 2, none⟩ = some (.slice x.AF x.fs.length x.cF) from (hX0.below h hgbl).cell 2)
      clear hxl hxo hb6 hv0 hgb hb60 hX0 hb50 Hdc
      go_wp2_with fail
      rw [← Hv0.out, ← Hgb.out]
      have hb0d := below_drewN (Below.refl v0.heap.size v0) 1
      have HSC := Lib.hid hb0d
      refine region_heldT 7 (fun w' => Below v0.heap.size v0 w') (by kernel_rfl) (by decide) ?_
      refine HeadW.take 0 (v := .slice L l.length cL) rfl (by kernel_rfl) (by kernel_rfl) (by kernel_rfl) (by decide) (by decide) (fun _ _ _ hL => seqB_ready hL.1) (by kernel_rfl) (by kernel_rfl) (fun _ _ _ h => h) HSC.out (.inl ⟨by kernel_rfl, by intro w hSw; (try dsimp only at hSw); go_simp⟩) ?_
      simp only [Act.put, List.setIfInBounds_toArray]
      refine HeadW.take 1 (v := .agg #[.int .i64 x.mem, .slice x.AD x.data.length x.cD, .slice x.AF x.fs.length x.cF]) rfl (by kernel_rfl) (by kernel_rfl) (by kernel_rfl) (by decide) (by decide) (fun _ _ _ hL => seqB_ready hL.1) (by kernel_rfl) (by kernel_rfl) (fun _ _ _ h => h) HSC.out (.inl ⟨by kernel_rfl, by intro w hSw; have r0 := Hc0.out w hSw; have r1 := Hc1.out w hSw; have r2 := Hc2.out w hSw; (try dsimp only at hSw); go_simp⟩) ?_
      simp only [Act.put]
      refine HeadW.take 2 (v := .agg #[.int .i64 x.mem, .slice x.AD x.data.length x.cD, .slice x.AF x.fs.length x.cF]) rfl (by kernel_rfl) (by kernel_rfl) (by kernel_rfl) (by decide) (by decide) (fun _ _ _ hL => seqB_ready hL.1) (by kernel_rfl) (by kernel_rfl) (fun _ _ _ h => h) HSC.out (.inl ⟨by kernel_rfl, by intro w hSw; have r0 := Hc0.out w hSw; have r1 := Hc1.out w hSw; have r2 := Hc2.out w hSw; (try dsimp only at hSw); go_simp⟩) ?_
      simp only [Act.put]
      refine HeadW.take 4 (v := .agg #[.int .i64 x.mem, .slice x.AD x.data.length x.cD, .slice x.AF x.fs.length x.cF]) rfl (by kernel_rfl) (by kernel_rfl) (by kernel_rfl) (by decide) (by decide) (fun _ _ _ hL => seqB_ready hL.1) (by kernel_rfl) (by kernel_rfl) (fun _ _ _ h => h) HSC.out (.inl ⟨by kernel_rfl, by intro w hSw; have r0 := Hc0.out w hSw; have r1 := Hc1.out w hSw; have r2 := Hc2.out w hSw; (try dsimp only at hSw); go_simp⟩) ?_
      simp only [Act.put]
      obtain ⟨u0, hu0⟩ : ∃ u0, u0 = v0.drew := ⟨_, rfl⟩
      have Hu0 := Lib.hid (show Below v0.heap.size v0 u0 from by rw [hu0]; exact hb0d)
      rw [← hu0]
      have R1 := Lib.hid ((HS.out.row.push2 HXo.out HokX.out hBz5 (Nat.le_refl _) Hb50.out).below Hu0.out)
      have hBu0 : B ≤ u0.heap.size := Nat.le_trans hBz5 (Nat.le_trans Hb50.out.size Hu0.out.size)
      have Htw1 := Lib.hid (twin_any x u0 ((HXo.out.below Hu0.out).at_ HokX.out))
      clear hu0 hb0d HSC
      refine headW_one 3 rfl (by decide) (by kernel_rfl) (by kernel_rfl) fun K hK => ?_
      go_simp
      refine Htw1.out.mono ?_
      rintro e u1 ⟨y, rfl, hyp, hym, hb1⟩
      have Hu1 := Lib.hid (Hu0.out.trans (hb1.mono Hu0.out.size))
      have HokY := Lib.hid (show PrgOk y.plain from by rw [hyp]; exact HokX.out)
      have R2 := Lib.hid (R1.out.push2 hym HokY.out hBu0 (Nat.le_refl _) hb1)
      have hBu1 : B ≤ u1.heap.size := Nat.le_trans hBu0 hb1.size
      have Hyp := Lib.hid hyp
      refine hK.out _ _ Hu1.out (fun hHeld => ?_)
      clear hK K hHeld hb1 hym hyp Htw1
      have Htw2 := Lib.hid (twin_any x u1 ((HXo.out.below Hu1.out).at_ HokX.out))
      refine headW_one 5 rfl (by decide) (by kernel_rfl) (by kernel_rfl) fun K hK => ?_
      go_simp
      refine Htw2.out.mono ?_
      rintro e u2' ⟨z, rfl, hzp, hzm, hb2⟩
      have Hu2 := Lib.hid (Hu1.out.trans (hb2.mono Hu1.out.size))
      have HokZ := Lib.hid (show PrgOk z.plain from by rw [hzp]; exact HokX.out)
      have R3 := Lib.hid (R2.out.push2 hzm HokZ.out hBu1 (Nat.le_refl _) hb2)
      have hBu2 : B ≤ u2'.heap.size := Nat.le_trans hBu1 hb2.size
      have Hzp := Lib.hid hzp
      refine hK.out _ _ Hu2.out (fun hHeld => ?_)
      clear hK K hHeld hb2 hzm hzp Htw2
      refine headW_one 6 rfl (by decide) (by kernel_rfl) (by kernel_rfl) fun K hK => ?_
      go_simp
      refine hK.out _ _ (Hu2.out.alloc Hu2.out.size _) (fun hHeld => ?_)
      clear hK K hHeld
      refine fun _ => ⟨by kernel_rfl, ?_⟩
      obtain ⟨u3, hu3⟩ : ∃ u3, u3 = u2'.alloc (.cells ([x, y, z].flatMap prgCells).toArray 25) := ⟨_, rfl⟩
      have hb23 : Below u2'.heap.size u2' u3 := by rw [hu3]; exact (Below.refl _ _).alloc (Nat.le_refl _) _
      have hU3 : Blk u3 u2'.heap.size 25 ([x, y, z].flatMap prgCells).toArray := by rw [hu3]; exact Blk.new _ _ _
      have Hb53 := Lib.hid (Hb50.out.trans ((Hu2.out.trans (hb23.mono Hu2.out.size)).mono Hb50.out.size))
      have R4 := Lib.hid (R3.out.below hb23)
      have hL3 := Own.below HS.out.rowL Hb53.out (Nat.le_refl _)
      have hBu3 : B ≤ u3.heap.size := Nat.le_trans hBu2 hb23.size
      have hll := HS.out.len
      have HU3 := Lib.hid hU3
      have HL3 := Lib.hid hL3
      change wpList _ _ _ _ _ (u2'.alloc (.cells ([x, y, z].flatMap prgCells).toArray 25))
      rw [← hu3]
      clear hu3 hb23 hU3 hL3
      refine wpList_app rfl (.tmp 70) (.tmp 76) eProgT rfl rfl HL3.out (m := 3) (us := [x, y, z].flatMap prgCells) rfl (RV.of_blk HU3.out) rfl (prgCells_one _) (by unfold maxLen; omega) (by omega) hBu3 (by intro h; cases h) ?_
      intro L9 c9 w9 hown9 hg9 hA9
      have HR9 := Lib.hid (R4.out.grow HL3.out (Only.of_grown hg9 fun k hk => hk))
      have Hbel9 := Lib.hid ((HS.out.bel.trans (Hb53.out.mono HS.out.bel.size)).grown hg9 (by rw [← HBB.out]; omega) fun q hq => by rw [← HBB.out]; exact (Own.row HL3.out q hq).1)
      have hcat : (l ++ [x] ++ [y] ++ [z]).flatMap prgCells = l.flatMap prgCells ++ [x, y, z].flatMap prgCells := by simp [List.flatMap_append]
      have hlen : (l ++ [x] ++ [y] ++ [z]).length = l.length + 3 := by simp
      have HS9 := Lib.hid (show PSt w4 w9 B p.plain (l ++ [x] ++ [y] ++ [z]) L9 c9 (k + 1) from ⟨by rw [hlen, hll]; omega, fun q hq => by
        simp only [List.mem_append, List.mem_singleton] at hq
        rcases hq with ((hq | rfl) | rfl) | rfl
        · exact HS.out.pl q hq
        · exact Hxl.out
        · exact Hyp.out.trans Hxl.out
        · exact Hzp.out.trans Hxl.out, HR9.out, by rw [hcat, hlen]; exact hown9, Hbel9.out⟩)
      have Hlen := Lib.hid hlen
      clear hown9 hg9 hA9 hcat hlen R1 R2 R3 R4 HS HU3 HL3 Hu0 Hu1 Hu2 Hc0 Hc1 Hc2
      go_wp2_with fail
      exact ⟨⟨k + 1, _, L9, c9, by omega, by go_num, by rw [Hlen.out, hll], HS9.out⟩, by simp [intOf]; omega⟩
    · obtain rfl : k = 3 := by omega
      have hbel := hS.bel
      have HS := Lib.hid hS
      have hl9 : l.length = 9 := hS.len
      obtain ⟨q, hq⟩ : ∃ q, l[0]? = some q := ⟨_, List.getElem?_eq_getElem (by omega)⟩
      have hqm := List.mem_of_getElem? hq
      have hqp := hS.pl q hqm
      have hgr := hS.grH Hck.out HBB.out
      obtain ⟨gL, rfl, hgL⟩ := hgr.at_ (by omega)
      have hbB : B ≤ w5.heap.size := hgr.hB
      have Hsp := Lib.hid hgr.sp
      have HqA := Lib.hid (show PrgOk q.plain from by rw [hqp]; exact Hp.out.ok)
      obtain ⟨z5, hz5⟩ : ∃ z, z = w5.heap.size := ⟨_, rfl⟩
      have HYlt := Lib.hid (show ∀ b, A3.map (·.block) = some b → b < B from fun b e => by rw [HBB.out]; exact (Own.row HY.out b e).2)
      have HY5 := Lib.hid (Own.below HY.out hbel (Nat.le_refl _))
      have HG := Lib.hid hgr
      have Hq := Lib.hid hq
      have Hqm := Lib.hid hqm
      have Hqp := Lib.hid hqp
      have Hl9 := Lib.hid hl9
      have Hz5 := Lib.hid hz5
      have hwB : w.heap.size ≤ B := by rw [HBB.out]; exact HB.out.size
      have HB5 := Lib.hid (HB.out.trans (hbel.mono HB.out.size))
      have HX5 := Lib.hid (HX.out.below hbel HX.out.lt)
      have HL5 := Lib.hid (HL.out.below hbel HL.out.lt)
      clear hS hbel hq hqm hqp hgr hl9 HB HX HL HY hz5
      have HB := HB5
      have HX := HX5
      have HL := HL5
      have HY := HY5
      clear HB5 HX5 HL5 HY5
      rw [Hl9.out]
      obtain ⟨kl, k0, k1, k2⟩ := HG.out.first Hq.out
      have hec := pEncode_any q w5 ((HG.out.row.own q Hqm.out).at_ HqA.out)
      rw [Hqp.out, Hen.out] at hec
      have Hec := Lib.hid hec
      clear hec
      go_wp2_with fail
      refine Hec.out.mono ?_
      rintro e w6 ⟨AC, cC, rfl, hown, hb⟩
      dsimp only at hown ⊢
      have hzC := hb.size
      clear kl k0 k1 k2 Hec
      have HB_ := Lib.hid (HB.out.trans (hb.mono HB.out.size))
      have HX_ := Lib.hid (HX.out.below hb HX.out.lt)
      have HL_ := Lib.hid (HL.out.below hb HL.out.lt)
      have HY_ := Lib.hid (Own.below HY.out hb (Nat.le_refl _))
      have HG_ := Lib.hid (HG.out.below hb)
      clear HB HX HL HY HG
      have HB := HB_
      have HX := HX_
      have HL := HL_
      have HY := HY_
      have HG := HG_
      clear HB_ HX_ HL_ HY_ HG_
      have HC := Lib.hid hown
      have HCtop := Lib.hid (show ∀ b, AC.map (·.block) = some b → b < w6.heap.size from fun b e => (Own.row hown b e).2)
      clear hown hb
      obtain ⟨kl, k0, k1, k2⟩ := HG.out.first Hq.out
      have hec := pEncode_any q w6 ((HG.out.row.own q Hqm.out).at_ HqA.out)
      rw [Hqp.out, Hen.out] at hec
      have Hec := Lib.hid hec
      clear hec
      go_wp2_with fail
      refine Hec.out.mono ?_
      rintro e w7 ⟨AD, cD, rfl, hown, hb⟩
      dsimp only at hown ⊢
      have hzD := hb.size
      clear kl k0 k1 k2 Hec
      have HB_ := Lib.hid (HB.out.trans (hb.mono HB.out.size))
      have HX_ := Lib.hid (HX.out.below hb HX.out.lt)
      have HL_ := Lib.hid (HL.out.below hb HL.out.lt)
      have HY_ := Lib.hid (Own.below HY.out hb (Nat.le_refl _))
      have HG_ := Lib.hid (HG.out.below hb)
      have HC_ := Lib.hid (Own.below HC.out hb (Nat.le_refl _))
      clear HB HX HL HY HG HC
      have HB := HB_
      have HX := HX_
      have HL := HL_
      have HY := HY_
      have HG := HG_
      have HC := HC_
      clear HB_ HX_ HL_ HY_ HG_ HC_
      have HD := Lib.hid hown
      have HDtop := Lib.hid (show ∀ b, AD.map (·.block) = some b → b < w7.heap.size from fun b e => (Own.row hown b e).2)
      clear hown hb
      have hdc := decodeP_any (some ⟨gl, 0, none⟩) (ys.length + 5) ys w7 (lentP_sl HL.out) (by omega)
      rw [Hdec.out] at hdc
      have Hdc := Lib.hid hdc
      clear hdc
      go_wp2_with fail
      refine Hdc.out.mono ?_
      rintro e w8 ⟨x, hxl, rfl, hxo, hb⟩
      dsimp only at hxl ⊢
      have hz8 := hb.size
      have HB_ := Lib.hid (HB.out.trans (hb.mono HB.out.size))
      have HX_ := Lib.hid (HX.out.below hb HX.out.lt)
      have HL_ := Lib.hid (HL.out.below hb HL.out.lt)
      have HY_ := Lib.hid (Own.below HY.out hb (Nat.le_refl _))
      have HG_ := Lib.hid (HG.out.below hb)
      have HC_ := Lib.hid (Own.below HC.out hb (Nat.le_refl _))
      have HD_ := Lib.hid (Own.below HD.out hb (Nat.le_refl _))
      clear HB HX HL HY HG HC HD
      have HB := HB_
      have HX := HX_
      have HL := HL_
      have HY := HY_
      have HG := HG_
      have HC := HC_
      have HD := HD_
      clear HB_ HX_ HL_ HY_ HG_ HC_ HD_
      have HU := Lib.hid hxo.mine
      have Hul := Lib.hid hxl
      have HokU := Lib.hid (show PrgOk x.plain from by rw [hxl]; exact Hp.out.ok)
      clear hxo hxl hb Hdc
      obtain ⟨w9, hw9⟩ : ∃ v, v = w8.alloc (.cells #[.int .i64 x.mem, .slice x.AD x.data.length x.cD, .slice x.AF x.fs.length x.cF] 25) := ⟨_, rfl⟩
      obtain ⟨gu, hgu⟩ : ∃ g, g = w8.heap.size := ⟨_, rfl⟩
      have hbx : Below w8.heap.size w8 w9 := by rw [hw9]; exact (Below.refl _ _).alloc (Nat.le_refl _) _
      have HBu := Lib.hid (show Blk w9 gu 25 #[.int .i64 x.mem, .slice x.AD x.data.length x.cD, .slice x.AF x.fs.length x.cF] from by rw [hw9, hgu]; exact Blk.new w8 _ _)
      have HB_ := Lib.hid (HB.out.trans (hbx.mono HB.out.size))
      have HX_ := Lib.hid (HX.out.below hbx HX.out.lt)
      have HL_ := Lib.hid (HL.out.below hbx HL.out.lt)
      have HY_ := Lib.hid (Own.below HY.out hbx (Nat.le_refl _))
      have HG_ := Lib.hid (HG.out.below hbx)
      have HC_ := Lib.hid (Own.below HC.out hbx (Nat.le_refl _))
      have HD_ := Lib.hid (Own.below HD.out hbx (Nat.le_refl _))
      have HU_ := Lib.hid (HU.out.below hbx)
      clear HB HX HL HY HG HC HD HU
      have HB := HB_
      have HX := HX_
      have HL := HL_
      have HY := HY_
      have HG := HG_
      have HC := HC_
      have HD := HD_
      have HU := HU_
      clear HB_ HX_ HL_ HY_ HG_ HC_ HD_ HU_
      have Hbsw9 := Lib.hid (show gu < w9.heap.size from HBu.out.lt)
      have Hw9 := Lib.hid hw9
      have Hgu := Lib.hid hgu
      clear hw9 hgu hbx
      have hv1 : (convert 22 9 (.slice AC ys.length cC)).run Try.prog w9 = .ok (.string ⟨ys.toArray⟩) w9 := run_bytesStr (RV.of_own HC.out) Try.underlying22 Try.underlying5 Try.underlying9
      have hv2 : (convert 22 9 (.slice A3 ys.length c3)).run Try.prog w9 = .ok (.string ⟨ys.toArray⟩) w9 := run_bytesStr (RV.of_own HY.out) Try.underlying22 Try.underlying5 Try.underlying9
      have hgn := grownP_any (some ⟨gL, 0, none⟩) cL B l w9 HG.out
      rw [Hl9.out] at hgn
      have Hgn := Lib.hid hgn
      clear hgn
      go_wp2_with (refine wpList_at 98 rfl ?_; refine wp_stop ?_)
      try refine ⟨?_⟩
      rw [← Hw9.out, ← Hgu.out]
      go_wp2_with fail
      refine Hgn.out.mono ?_
      rintro e w10 ⟨rfl, hO⟩
      have q1 := Hgu.out
      have q2 := Hz5.out
      have q3 := Hsp.out
      have HB10 := Lib.hid (HB.out.trans (hO.below (B := w.heap.size) HB.out.size (fun k hk e => by have := q3 k e; omega)))
      have HX10 := Lib.hid (HX.out.only hO (fun e => by have := q3 _ e; omega))
      have HL10 := Lib.hid (HL.out.only hO (fun e => by have := q3 _ e; omega))
      have HY10 := Lib.hid (Own.only HY.out hO fun b o e e2 => by have := q3 b e2; have := HYlt.out b (by rw [e]; rfl); omega)
      have HC10 := Lib.hid (Own.only HC.out hO fun b o e e2 => by have := q3 b e2; have := (Own.row HC.out b (by rw [e]; rfl)).1; omega)
      have HD10 := Lib.hid (Own.only HD.out hO fun b o e e2 => by have := q3 b e2; have := (Own.row HD.out b (by rw [e]; rfl)).1; omega)
      have HU10 := Lib.hid (HU.out.only hO (fun b h1 h2 e => by have := q3 b e; omega))
      have HBu10 := Lib.hid (HBu.out.only hO (fun e => by have := q3 _ e; omega))
      clear q1 q2 q3 hO HB HX HL HY HC HD HU HBu Hw9 hv1 hv2 HG Hgn
      have HB := HB10
      have HX := HX10
      have HL := HL10
      have HY := HY10
      have HC := HC10
      have HD := HD10
      have HU := HU10
      have HBu := HBu10
      clear HB10 HX10 HL10 HY10 HC10 HD10 HU10 HBu10
      have Hkp := Lib.hid (keptP_any ys gl A3 c3 w10 HL.out (RV.of_own HY.out) (by omega))
      go_wp2_with fail
      refine Hkp.out.mono ?_
      rintro e w10' ⟨rfl, e10⟩
      subst e10
      clear Hkp
      have x0 : w10'.cell? ⟨gx, 0, none⟩ = some (.int .i64 p.mem) := HX.out.cell 0
      have x1 : w10'.cell? ⟨gx, 1, none⟩ = some (.slice p.AD p.data.length p.cD) := HX.out.cell 1
      have x2 : w10'.cell? ⟨gx, 2, none⟩ = some (.slice p.AF p.fs.length p.cF) := HX.out.cell 2
      have xl := HX.out.lt
      have u0 : w10'.cell? ⟨gu, 0, none⟩ = some (.int .i64 x.mem) := HBu.out.cell 0
      have u1 : w10'.cell? ⟨gu, 1, none⟩ = some (.slice x.AD x.data.length x.cD) := HBu.out.cell 1
      have u2 : w10'.cell? ⟨gu, 2, none⟩ = some (.slice x.AF x.fs.length x.cF) := HBu.out.cell 2
      have ul := HBu.out.lt
      have hsm := refSameP_any x p w10' (HU.out.at_ HokU.out) (Hp.out.below HB.out)
      rw [(sameP_iff _ _).2 Hul.out] at hsm
      have Hsm := Lib.hid hsm
      clear hsm
      go_wp2_with fail
      refine Hsm.out.mono ?_
      rintro e w11 ⟨rfl, hb⟩
      clear x0 x1 x2 xl u0 u1 u2 ul
      have HB_ := Lib.hid (HB.out.trans (hb.mono HB.out.size))
      have HX_ := Lib.hid (HX.out.below hb HX.out.lt)
      have HL_ := Lib.hid (HL.out.below hb HL.out.lt)
      have HC_ := Lib.hid (Own.below HC.out hb (Nat.le_refl _))
      have HD_ := Lib.hid (Own.below HD.out hb (Nat.le_refl _))
      have HY_ := Lib.hid (Own.below HY.out hb (Nat.le_refl _))
      clear HB HX HL HC HD HY
      have HB := HB_
      have HX := HX_
      have HL := HL_
      have HC := HC_
      have HD := HD_
      have HY := HY_
      clear HB_ HX_ HL_ HC_ HD_ HY_
      clear hb Hsm HBu HU
      obtain ⟨n, hn⟩ : ∃ n, n = ys.length := ⟨_, rfl⟩
      rw [← hn]
      have HC2 := Lib.hid (show OwnB w11 w5.heap.size AC n cC ys from by rw [hn]; exact HC.out)
      have HClt := Lib.hid (show ∀ b, AC.map (·.block) = some b → b < w6.heap.size from HCtop.out)
      have Hn := Lib.hid hn
      have hnb : n ≤ 1048576 := by omega
      clear hn HC
      go_wp2_with fail
      go_loopw [19] (fun v wr => ∃ (j : Nat) (ds : List UInt8), j ≤ n ∧ v = .int .i64 j ∧ ds.length = n ∧ OwnB wr w5.heap.size AC n cC ds ∧ Only (fun b => AC.map (·.block) = some b) w11 wr) (fun v _ => n - (intOf v).toNat)
      case atStart => exact ⟨0, ys, Nat.zero_le _, rfl, Hn.out.symm, HC2.out, Only.refl _ _⟩
      case round =>
        rename World => w12
        obtain ⟨j, ds, hj, rfl, hds, hD, hO⟩ := hrel
        have Hds := Lib.hid hds
        by_cases hjn : j < n
        · have g1 : (j : Int) < (n : Int) := by omega
          have hD2 : Own w12 w5.heap.size 5 1 AC n cC (ds.map bv) := hD
          obtain ⟨g, hA, hg1, hg2⟩ := ownG_some hD2 (by omega)
          subst hA
          obtain ⟨c0, f0, -⟩ := ownG_at hD2 j (by rw [List.length_map]; omega)
          rw [List.getElem_map] at c0
          obtain ⟨a, ha⟩ : ∃ a, a = ds[j]'(by omega) := ⟨_, rfl⟩
          rw [← ha] at c0
          obtain ⟨u, hu⟩ := bits_x85 a
          have HD2 := Lib.hid (show OwnB (w12.setCell ⟨g, j, none⟩ (.int .u8 (bits .xor .u8 (a.toNat : Int) 85))) w5.heap.size (some ⟨g, 0, none⟩) n cC (ds.set j u) from by
            show Own _ _ _ _ _ _ _ ((ds.set j u).map bv)
            rw [List.map_set, hu]
            exact ownG_set hD2 j (bv u))
          have HO2 := Lib.hid (hO.setCell (p := ⟨g, j, none⟩) (.inl rfl) (.int .u8 (bits .xor .u8 (a.toNat : Int) 85)))
          unfold bv at c0
          clear hD hD2 hO ha hu hds
          go_wp2_with fail
          exact ⟨⟨j + 1, ds.set j u, by omega, by go_num, by rw [List.length_set]; exact Hds.out, HD2.out, HO2.out⟩, by simp [intOf]; omega⟩
        · obtain rfl : j = n := by omega
          have q1 := Hz5.out
          have HB12 := Lib.hid (HB.out.trans (hO.below (B := w.heap.size) HB.out.size (fun k hk e => by have := (Own.row HC2.out k e).1; omega)))
          have HX12 := Lib.hid (HX.out.only hO (fun e => by have := (Own.row HC2.out _ e).1; omega))
          have HL12 := Lib.hid (HL.out.only hO (fun e => by have := (Own.row HC2.out _ e).1; omega))
          have HY12 := Lib.hid (Own.only HY.out hO fun b o e e2 => by have := (Own.row HC2.out b e2).1; have := HYlt.out b (by rw [e]; rfl); omega)
          have HD12 := Lib.hid (Own.only HD.out hO fun b o e e2 => by have := HClt.out b e2; have := (Own.row HD.out b (by rw [e]; rfl)).1; omega)
          clear hO hD hds q1 HB HX HL HY HD
          have HB := HB12
          have HX := HX12
          have HL := HL12
          have HY := HY12
          have HD := HD12
          clear HB12 HX12 HL12 HY12 HD12
          have hdc := decodeP_any (some ⟨gl, 0, none⟩) (ys.length + 5) ys w12 (lentP_sl HL.out) (by omega)
          rw [Hdec.out, ← Hn.out] at hdc
          have Hdc := Lib.hid hdc
          clear hdc
          go_wp2_with fail
          refine Hdc.out.mono ?_
          rintro e w13 ⟨z, hxl, rfl, hxo, hb⟩
          dsimp only at hxl ⊢
          have HB_ := Lib.hid (HB.out.trans (hb.mono HB.out.size))
          have HX_ := Lib.hid (HX.out.below hb HX.out.lt)
          have HD_ := Lib.hid (Own.below HD.out hb (Nat.le_refl _))
          have HY_ := Lib.hid (Own.below HY.out hb (Nat.le_refl _))
          clear HB HX HD HY
          have HB := HB_
          have HX := HX_
          have HD := HD_
          have HY := HY_
          clear HB_ HX_ HD_ HY_
          have HV := Lib.hid hxo.mine
          have Hvl := Lib.hid hxl
          have HokV := Lib.hid (show PrgOk z.plain from by rw [hxl]; exact Hp.out.ok)
          clear hxo hxl hb Hdc
          obtain ⟨w14, hw14⟩ : ∃ v, v = w13.alloc (.cells #[.int .i64 z.mem, .slice z.AD z.data.length z.cD, .slice z.AF z.fs.length z.cF] 25) := ⟨_, rfl⟩
          obtain ⟨gv, hgv⟩ : ∃ g, g = w13.heap.size := ⟨_, rfl⟩
          have hbx : Below w13.heap.size w13 w14 := by rw [hw14]; exact (Below.refl _ _).alloc (Nat.le_refl _) _
          have HBv := Lib.hid (show Blk w14 gv 25 #[.int .i64 z.mem, .slice z.AD z.data.length z.cD, .slice z.AF z.fs.length z.cF] from by rw [hw14, hgv]; exact Blk.new w13 _ _)
          have HB_ := Lib.hid (HB.out.trans (hbx.mono HB.out.size))
          have HX_ := Lib.hid (HX.out.below hbx HX.out.lt)
          have HD_ := Lib.hid (Own.below HD.out hbx (Nat.le_refl _))
          have HY_ := Lib.hid (Own.below HY.out hbx (Nat.le_refl _))
          have HV_ := Lib.hid (HV.out.below hbx)
          clear HB HX HD HY HV
          have HB := HB_
          have HX := HX_
          have HD := HD_
          have HY := HY_
          have HV := HV_
          clear HB_ HX_ HD_ HY_ HV_
          have Hbsw14 := Lib.hid (show gv < w14.heap.size from HBv.out.lt)
          have Hw14 := Lib.hid hw14
          have Hgv := Lib.hid hgv
          clear hw14 hgv hbx
          have hv1 : (convert 22 9 (.slice AD j cD)).run Try.prog w14 = .ok (.string ⟨ys.toArray⟩) w14 := by rw [Hn.out]; exact run_bytesStr (RV.of_own HD.out) Try.underlying22 Try.underlying5 Try.underlying9
          have hv2 : (convert 22 9 (.slice A3 j c3)).run Try.prog w14 = .ok (.string ⟨ys.toArray⟩) w14 := by rw [Hn.out]; exact run_bytesStr (RV.of_own HY.out) Try.underlying22 Try.underlying5 Try.underlying9
          have x0 : w14.cell? ⟨gx, 0, none⟩ = some (.int .i64 p.mem) := HX.out.cell 0
          have x1 : w14.cell? ⟨gx, 1, none⟩ = some (.slice p.AD p.data.length p.cD) := HX.out.cell 1
          have x2 : w14.cell? ⟨gx, 2, none⟩ = some (.slice p.AF p.fs.length p.cF) := HX.out.cell 2
          have xl := HX.out.lt
          have u0 : w14.cell? ⟨gv, 0, none⟩ = some (.int .i64 z.mem) := HBv.out.cell 0
          have u1 : w14.cell? ⟨gv, 1, none⟩ = some (.slice z.AD z.data.length z.cD) := HBv.out.cell 1
          have u2 : w14.cell? ⟨gv, 2, none⟩ = some (.slice z.AF z.fs.length z.cF) := HBv.out.cell 2
          have ul := HBv.out.lt
          have hsm := refSameP_any z p w14 (HV.out.at_ HokV.out) (Hp.out.below HB.out)
          rw [(sameP_iff _ _).2 Hvl.out] at hsm
          have Hsm := Lib.hid hsm
          clear hsm
          go_wp2_with (refine wpList_at 139 rfl ?_; refine wp_stop ?_)
          try refine ⟨?_⟩
          rw [← Hw14.out, ← Hgv.out]
          go_wp2_with fail
          refine Hsm.out.mono ?_
          rintro e w15 ⟨rfl, hb⟩
          have HF := Lib.hid (HB.out.trans (hb.mono HB.out.size))
          clear hb Hsm
          go_wp2_with fail
          go_ret
          exact ⟨rfl, HF.out⟩
end Go.Proofs.Ytadnjfoinmeloaa
