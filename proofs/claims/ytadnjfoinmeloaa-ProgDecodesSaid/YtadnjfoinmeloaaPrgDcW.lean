/- The walk of the law ProgDecodes. -/
import Derived.Test.YtadnjfoinmeloaaPrgKn
import Derived.Test.YtadnjfoinmeloaaPrgRs
import Derived.Test.YtadnjfoinmeloaaRfPd
import Derived.Test.YtadnjfoinmeloaaRefPw
import Derived.Test.YtadnjfoinmeloaaLendP
import Derived.Test.YtadnjfoinmeloaaKeptP
namespace Go.Proofs.Ytadnjfoinmeloaa
open Go.RowKit

theorem lentP_sl {w : World} {g : Nat} {bs : List UInt8} (h : Blk w g 5 ((lentP bs).map bv).toArray) : Sl w ⟨some ⟨g, 0, none⟩, bs.length + 5, bs⟩ := by
  refine ⟨?_, fun e => by cases e⟩
  have h1 := (RV.of_blk h).cut 0 bs.length
  rw [List.drop_zero, ← List.map_take] at h1
  unfold lentP at h1
  rwa [List.take_append_of_le_length (Nat.le_refl _), List.take_length] at h1
theorem refFrom_le : ∀ (l : List Item) (out : List UInt8), out.length ≤ 4194304 → (refFrom out l).1.length ≤ 4194304 := by
  intro l
  induction l with
  | nil => exact fun out h => h
  | cons x l ih =>
    intro out h
    unfold refFrom
    split
    · simp
    · split
      · simp
      · exact ih _ (by rw [List.length_append]; omega)
theorem sameP_refl (p : Prg) : sameP p p = true := (sameP_iff p p).2 rfl
set_option maxRecDepth 100000 in
set_option maxHeartbeats 4000000 in
theorem progDecodes_walk (A : Option Addr) (c : Nat) (bs : List UInt8) (AI : Option Addr) (cI : Nat) (its : List Item) (w : World) (hS : Sl w ⟨A, c, bs⟩) (hl : bs.length ≤ 140737488351232 ∧ bs.length ≤ c) (hI : Items w AI its) (hil : its.length ≤ 9223372036854775807) :
    Calls Try.prog 5 #[.slice A bs.length c, .slice AI its.length cI] w fun e w' => e = .returned (.bool true) ∧ Below w.heap.size w w' := by
  have HS := Lib.hid hS
  have HI := Lib.hid hI
  obtain ⟨hl1, hl2⟩ := hl
  have HL2 := Lib.hid hl2
  have hl3 : bs.length ≤ 200000000000000 := by omega
  have HIL := Lib.hid hil
  obtain ⟨D, hD⟩ : ∃ D, D = decP bs := ⟨_, rfl⟩
  have HD := Lib.hid hD
  clear hS hI hl2 hD hil
  go_enter Try.func5, Try.ntmps5
  go_wp2_with fail
  refine (knownP_any _).mono ?_
  rintro e w1 ⟨rfl, hb1⟩
  have Hb1 := Lib.hid hb1
  have Hlend := Lib.hid (lendP_any bs A c w1 (HS.out.below hb1).rv hl3)
  clear hb1
  go_wp2_with fail
  refine Hlend.out.mono ?_
  rintro e w2 ⟨rfl, hblk, hb2⟩
  obtain ⟨gl, hgl⟩ : ∃ g, g = w1.heap.size := ⟨_, rfl⟩
  rw [← hgl] at hblk ⊢
  have Hb2 := Lib.hid (Hb1.out.trans (hb2.mono Hb1.out.size))
  have HBl := Lib.hid hblk
  have hdec := decodeP_any (some ⟨gl, 0, none⟩) (bs.length + 5) bs w2 (lentP_sl hblk) hl3
  rw [← HD.out] at hdec
  have Hdec := Lib.hid hdec
  clear hb2 hblk hdec Hlend hgl
  go_wp2_with fail
  refine Hdec.out.mono ?_
  rintro e w3 ⟨pm, hpm, rfl, hown, hb3⟩
  obtain ⟨w4, hw4⟩ : ∃ w4, w4 = w3.alloc (.cells #[.int .i64 pm.mem, .slice pm.AD pm.data.length pm.cD, .slice pm.AF pm.fs.length pm.cF] 25) := ⟨_, rfl⟩
  have hb34 : Below w3.heap.size w3 w4 := by rw [hw4]; exact (Below.refl _ _).alloc (Nat.le_refl _) _
  obtain ⟨gp, hgp⟩ : ∃ g, g = w3.heap.size := ⟨_, rfl⟩
  have HP4 : Hid (Blk w4 gp 25 #[.int .i64 pm.mem, .slice pm.AD pm.data.length pm.cD, .slice pm.AF pm.fs.length pm.cF]) := by rw [hw4, hgp]; exact Lib.hid (Blk.new w3 _ _)
  have hb24 := hb3.trans (hb34.mono hb3.size)
  have Hb4 := Lib.hid (Hb2.out.trans (hb24.mono Hb2.out.size))
  have HBl4 := Lib.hid (HBl.out.below hb24 HBl.out.lt)
  have Hpm4 := Lib.hid (hown.at_.below hb34)
  have Hpm := Lib.hid hpm
  have Hw4 := Lib.hid hw4
  have Hgp := Lib.hid hgp
  have HZ3 := Lib.hid (show w.heap.size ≤ w3.heap.size from by have := Hb2.out.size; have := hb3.size; omega)
  have hrd := refDecodeP_any A c bs w4 (HS.out.below Hb4.out) hl3 HL2.out
  rw [← HD.out] at hrd
  have Hrd := Lib.hid hrd
  clear hpm hown hb3 hw4 hb34 hgp hb24 hrd Hdec HBl
  go_wp2_with (refine wpList_at 23 rfl ?_; refine wp_stop ?_)
  try refine ⟨?_⟩
  rw [← Hw4.out, ← Hgp.out]
  go_wp2_with fail
  refine Hrd.out.mono ?_
  rintro e w5 ⟨qm, hqm, rfl, hown, hb5⟩
  obtain ⟨w6, hw6⟩ : ∃ w6, w6 = w5.alloc (.cells #[.int .i64 qm.mem, .slice qm.AD qm.data.length qm.cD, .slice qm.AF qm.fs.length qm.cF] 25) := ⟨_, rfl⟩
  have hb56 : Below w5.heap.size w5 w6 := by rw [hw6]; exact (Below.refl _ _).alloc (Nat.le_refl _) _
  obtain ⟨gq, hgq⟩ : ∃ g, g = w5.heap.size := ⟨_, rfl⟩
  have HQ6 : Hid (Blk w6 gq 25 #[.int .i64 qm.mem, .slice qm.AD qm.data.length qm.cD, .slice qm.AF qm.fs.length qm.cF]) := by rw [hw6, hgq]; exact Lib.hid (Blk.new w5 _ _)
  have hb46 := hb5.trans (hb56.mono hb5.size)
  have Hb6 := Lib.hid (Hb4.out.trans (hb46.mono Hb4.out.size))
  have HBl6 := Lib.hid (HBl4.out.below hb46 HBl4.out.lt)
  have HP6 := Lib.hid (HP4.out.below hb46 HP4.out.lt)
  have Hpm6 := Lib.hid (Hpm4.out.below hb46)
  have Hqm6 := Lib.hid (hown.at_.below hb56)
  have hpq : gp < gq := by have := HP4.out.lt; have := hb5.size; omega
  have hwp : w.heap.size ≤ gp := by have := Hgp.out; have := HZ3.out; omega
  have Hqm := Lib.hid hqm
  have Hw6 := Lib.hid hw6
  have Hgq := Lib.hid hgq
  have hsm := refSameP_any pm qm w6 Hpm6.out Hqm6.out
  rw [Hpm.out, hqm, sameP_refl] at hsm
  have Hsm := Lib.hid hsm
  clear hqm hown hb5 hw6 hb56 hgq hb46 hsm Hrd HP4 Hpm4 HBl4
  have p0 : w6.cell? ⟨gp, 0, none⟩ = some (.int .i64 pm.mem) := HP6.out.cell 0
  have p1 : w6.cell? ⟨gp, 1, none⟩ = some (.slice pm.AD pm.data.length pm.cD) := HP6.out.cell 1
  have p2 : w6.cell? ⟨gp, 2, none⟩ = some (.slice pm.AF pm.fs.length pm.cF) := HP6.out.cell 2
  have pl := HP6.out.lt
  have q0 : w6.cell? ⟨gq, 0, none⟩ = some (.int .i64 qm.mem) := HQ6.out.cell 0
  have q1 : w6.cell? ⟨gq, 1, none⟩ = some (.slice qm.AD qm.data.length qm.cD) := HQ6.out.cell 1
  have q2 : w6.cell? ⟨gq, 2, none⟩ = some (.slice qm.AF qm.fs.length qm.cF) := HQ6.out.cell 2
  have ql := HQ6.out.lt
  go_wp2_with (refine wpList_at 26 rfl ?_; refine wp_stop ?_)
  try refine ⟨?_⟩
  rw [← Hw6.out, ← Hgq.out]
  go_wp2_with fail
  refine Hsm.out.mono ?_
  rintro e w7 ⟨rfl, hb7⟩
  have Hb7 := Lib.hid (Hb6.out.trans (hb7.mono Hb6.out.size))
  have HBl7 := Lib.hid (HBl6.out.below hb7 HBl6.out.lt)
  have HP7 := Lib.hid (HP6.out.below hb7 HP6.out.lt)
  have HQ7 := Lib.hid (HQ6.out.below hb7 HQ6.out.lt)
  have Hkp := Lib.hid (keptP_any bs gl A c w7 HBl7.out (HS.out.below Hb7.out).rv hl3)
  have HQ7l := Lib.hid HQ7.out.lt
  clear hb7 Hsm HBl6 HP6 HQ6 p0 p1 p2 pl q0 q1 q2 ql
  go_wp2_with fail
  refine Hkp.out.mono ?_
  rintro e w8 ⟨rfl, hw8⟩
  subst hw8
  have Hdn := Lib.hid (refDoneW_any AI cI its w8 (HI.out.below Hb7.out) HIL.out)
  clear Hkp HBl7
  go_wp2_with fail
  refine Hdn.out.mono ?_
  rintro e w9 ⟨A9, c9, rfl, hown9, hb9⟩
  obtain ⟨X, hX⟩ : ∃ X, X = refFrom [] its := ⟨_, rfl⟩
  rw [← hX] at hown9 ⊢
  obtain ⟨cs, g⟩ := X
  dsimp only at hown9 ⊢
  have HX := Lib.hid hX
  have Hb9 := Lib.hid (Hb7.out.trans (hb9.mono Hb7.out.size))
  have HP9 := Lib.hid (HP7.out.below hb9 HP7.out.lt)
  have HQ9 := Lib.hid (HQ7.out.below hb9 HQ7.out.lt)
  have Hown9 := Lib.hid hown9
  clear hX hown9 hb9 Hdn HP7 HQ7
  by_cases hg : g = 0
  case neg =>
    have h1 : (g == 0) = false := by simpa using hg
    have h2 : (g != 0) = true := by rw [bne, h1]; rfl
    go_wp2_with fail
    go_ret
    exact ⟨rfl, Hb9.out⟩
  subst hg
  have hcs : cs.length ≤ 200000000000000 := by
    have h := refFrom_le its [] (by simp)
    rw [← HX.out] at h
    dsimp only at h
    omega
  obtain ⟨E, hE⟩ : ∃ E, E = decP cs := ⟨_, rfl⟩
  have HE := Lib.hid hE
  have hdec := decodeP_any A9 c9 cs w9 (Sl.of_own Hown9.out) hcs
  rw [← HE.out] at hdec
  have Hdec := Lib.hid hdec
  clear hE hdec
  go_wp2_with fail
  refine Hdec.out.mono ?_
  rintro e w10 ⟨rm, hrm, rfl, hown, hb10⟩
  have hP10 := HP9.out.below hb10 HP9.out.lt
  have HQ10 := Lib.hid (HQ9.out.below hb10 HQ9.out.lt)
  have HB10 := Lib.hid (Hb9.out.trans (hb10.mono Hb9.out.size))
  have Hrm := Lib.hid hrm
  have Hown10 := Lib.hid hown
  have Hown9c := Lib.hid (Own.below Hown9.out hb10 (Nat.le_refl _))
  have hz9 := hb10.size
  have hp9 := HP9.out.lt
  have hq9 := HQ9.out.lt
  have hz8 : gq < w8.heap.size := by have := HQ7l.out; omega
  have p0 : w10.cell? ⟨gp, 0, none⟩ = some (.int .i64 pm.mem) := hP10.cell 0
  have p1 : w10.cell? ⟨gp, 1, none⟩ = some (.slice pm.AD pm.data.length pm.cD) := hP10.cell 1
  have p2 : w10.cell? ⟨gp, 2, none⟩ = some (.slice pm.AF pm.fs.length pm.cF) := hP10.cell 2
  have pl := hP10.lt
  have pf0 := hP10.frozen 0
  have pf1 := hP10.frozen 1
  have pf2 := hP10.frozen 2
  go_wp2_with (refine wpList_at 55 rfl ?_; refine wp_stop ?_)
  try refine ⟨?_⟩
  obtain ⟨w11, hw11⟩ : ∃ w11, w11 = ((w10.setCell ⟨gp, 0, none⟩ (.int .i64 rm.mem)).setCell ⟨gp, 1, none⟩ (.slice rm.AD rm.data.length rm.cD)).setCell ⟨gp, 2, none⟩ (.slice rm.AF rm.fs.length rm.cF) := ⟨_, rfl⟩
  rw [← hw11]
  obtain ⟨hP11, hB11, hO11⟩ := zero_set HB10.out hP10 hwp _ _ _ hw11
  have HP11 := Lib.hid hP11
  have HB11 := Lib.hid hB11
  have HQ11 := Lib.hid (HQ10.out.only hO11 (by omega))
  have Hr11 := Lib.hid (Hown10.out.only hO11 fun b h1 h2 e => by omega)
  have hown11 := Own.only Hown9c.out hO11 fun b o e h => by have := (Own.lt Hown9c.out b o e).1; omega
  have Hcap := Lib.hid (own_caps' hown11).1
  have Hs11 := Lib.hid (Sl.of_own hown11)
  have hz11 := hO11.size
  have hre := refDecodeP_any A9 c9 cs w11 Hs11.out hcs Hcap.out
  rw [← HE.out] at hre
  have Hre := Lib.hid hre
  clear hown11 hP11 hB11 hO11 hw11 hre hP10 p0 p1 p2 pl pf0 pf1 pf2 hrm hown hb10 Hdec
  go_wp2_with fail
  refine Hre.out.mono ?_
  rintro e w12 ⟨sm, hsmp, rfl, hown, hb12⟩
  have hP12 := HP11.out.below hb12 HP11.out.lt
  have hQ12 := HQ11.out.below hb12 HQ11.out.lt
  have HB12 := Lib.hid (HB11.out.trans (hb12.mono HB11.out.size))
  have Hr12 := Lib.hid (Hr11.out.below hb12)
  have Hsp := Lib.hid hsmp
  have Hown12 := Lib.hid hown
  have hP12l := hP12.lt
  have HP12 := Lib.hid hP12
  have q0 : w12.cell? ⟨gq, 0, none⟩ = some (.int .i64 qm.mem) := hQ12.cell 0
  have q1 : w12.cell? ⟨gq, 1, none⟩ = some (.slice qm.AD qm.data.length qm.cD) := hQ12.cell 1
  have q2 : w12.cell? ⟨gq, 2, none⟩ = some (.slice qm.AF qm.fs.length qm.cF) := hQ12.cell 2
  have ql := hQ12.lt
  have qf0 := hQ12.frozen 0
  have qf1 := hQ12.frozen 1
  have qf2 := hQ12.frozen 2
  clear hP12 hown hsmp hb12 Hre
  go_wp2_with (refine wpList_at 58 rfl ?_; refine wp_stop ?_)
  try refine ⟨?_⟩
  obtain ⟨w13, hw13⟩ : ∃ w13, w13 = ((w12.setCell ⟨gq, 0, none⟩ (.int .i64 sm.mem)).setCell ⟨gq, 1, none⟩ (.slice sm.AD sm.data.length sm.cD)).setCell ⟨gq, 2, none⟩ (.slice sm.AF sm.fs.length sm.cF) := ⟨_, rfl⟩
  rw [← hw13]
  obtain ⟨hQ13, hB13, hO13⟩ := zero_set HB12.out hQ12 (by omega) _ _ _ hw13
  have hP13 := HP12.out.only hO13 (by omega)
  have hr13 := (Hr12.out.only hO13 fun b h1 h2 e => by omega).at_
  have hs13 := (Hown12.out.only hO13 fun b h1 h2 e => by omega).at_
  have hsm := refSameP_any rm sm w13 hr13 hs13
  rw [Hrm.out, Hsp.out, sameP_refl] at hsm
  have Hsm := Lib.hid hsm
  have HB13 := Lib.hid hB13
  have u0 : w13.cell? ⟨gp, 0, none⟩ = some (.int .i64 rm.mem) := hP13.cell 0
  have u1 : w13.cell? ⟨gp, 1, none⟩ = some (.slice rm.AD rm.data.length rm.cD) := hP13.cell 1
  have u2 : w13.cell? ⟨gp, 2, none⟩ = some (.slice rm.AF rm.fs.length rm.cF) := hP13.cell 2
  have ul := hP13.lt
  have v0 : w13.cell? ⟨gq, 0, none⟩ = some (.int .i64 sm.mem) := hQ13.cell 0
  have v1 : w13.cell? ⟨gq, 1, none⟩ = some (.slice sm.AD sm.data.length sm.cD) := hQ13.cell 1
  have v2 : w13.cell? ⟨gq, 2, none⟩ = some (.slice sm.AF sm.fs.length sm.cF) := hQ13.cell 2
  have vl := hQ13.lt
  clear q0 q1 q2 ql qf0 qf1 qf2 hw13 hO13 hQ12 hQ13 hP13 hB13 hr13 hs13 hsm
  go_wp2_with fail
  refine Hsm.out.mono ?_
  rintro e w14 ⟨rfl, hb14⟩
  have HF := Lib.hid (HB13.out.trans (hb14.mono HB13.out.size))
  clear hb14 Hsm
  go_wp2_with fail
  go_ret
  exact ⟨rfl, HF.out⟩
end Go.Proofs.Ytadnjfoinmeloaa
