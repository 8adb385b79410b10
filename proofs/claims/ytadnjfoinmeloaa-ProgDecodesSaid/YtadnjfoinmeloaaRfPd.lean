/- The reference's Decode of a program. -/
import Derived.Test.YtadnjfoinmeloaaRfGs
import Derived.Test.YtadnjfoinmeloaaRfDec
import Derived.Test.YtadnjfoinmeloaaPrgC
namespace Go.Proofs.Ytadnjfoinmeloaa
open Go.RowKit

theorem field1 (x y z : Value) (w : World) : (Instr.field 66 (.agg #[x, y, z]) 1).run Try.prog w = .ok y w := by
  simp [Instr.field, asAgg, part, isAgg, run_underlying Try.underlying3]
theorem field2 (x y z : Value) (w : World) : (Instr.field 66 (.agg #[x, y, z]) 2).run Try.prog w = .ok z w := by
  simp [Instr.field, asAgg, part, isAgg, run_underlying Try.underlying22]
theorem decRes_ok (n : Nat) (p : Prg) (a : Nat) : decRes n (.ok p a) = if a = n then (if checkL p = 0 then (p, 0) else (noPrg, checkL p)) else (noPrg, 13) := rfl
attribute [local go_sem] field1 field2
/-- A program's three cells written over with nothing. -/
theorem zero_set {w v vF : World} {gr : Nat} {x y z : Value} (hB : Below w.heap.size w v) (hr : Blk v gr 25 #[x, y, z]) (hg : w.heap.size ≤ gr) (x2 y2 z2 : Value)
    (h : vF = ((v.setCell ⟨gr, 0, none⟩ x2).setCell ⟨gr, 1, none⟩ y2).setCell ⟨gr, 2, none⟩ z2) : Blk vF gr 25 #[x2, y2, z2] ∧ Below w.heap.size w vF ∧ Only (fun b => b = gr) v vF := by
  subst h
  exact ⟨((hr.set_ 0 _).set_ 1 _).set_ 2 _, ((hB.setCell (p := ⟨gr, 0, none⟩) hg _).setCell (p := ⟨gr, 1, none⟩) hg _).setCell (p := ⟨gr, 2, none⟩) hg _,
    (((Only.refl (fun b => b = gr) v).setCell (p := ⟨gr, 0, none⟩) (.inl rfl) _).setCell (p := ⟨gr, 1, none⟩) (.inl rfl) _).setCell (p := ⟨gr, 2, none⟩) (.inl rfl) _⟩
set_option maxRecDepth 100000 in
set_option maxHeartbeats 4000000 in
theorem refDecodeP_any (A : Option Addr) (c : Nat) (bs : List UInt8) (w : World) (hS : Sl w ⟨A, c, bs⟩) (hl : bs.length ≤ 200000000000000) (hc1 : bs.length ≤ c) :
    Calls Try.prog 20 #[.slice A bs.length c] w (DecPPost w (decP bs)) := by
  have HS := Lib.hid hS
  have hS0 := hS.nil
  obtain ⟨D, hD⟩ : ∃ D, D = decP bs := ⟨_, rfl⟩
  rw [← hD]
  obtain ⟨n, hn⟩ : ∃ n, n = bs.length := ⟨_, rfl⟩
  obtain ⟨w1, hw1⟩ : ∃ w1, w1 = w.alloc (.cells #[.int .i64 0, .slice none 0 0, .slice none 0 0] 25) := ⟨_, rfl⟩
  have hb1 : Below w.heap.size w w1 := by rw [hw1]; exact (Below.refl _ _).alloc (Nat.le_refl _) _
  have hR1 : Blk w1 w.heap.size 25 #[.int .i64 0, .slice none 0 0, .slice none 0 0] := by rw [hw1]; exact Blk.new w _ _
  have hz1 : w1.heap.size = w.heap.size + 1 := by rw [hw1]; simp
  have Hw1 := Lib.hid hw1
  have Hb1 := Lib.hid hb1
  have HR1 := Lib.hid hR1
  have HZ1 := Lib.hid hz1
  have HN := Lib.hid hn
  clear hw1 hb1 hR1 hS hz1
  by_cases hbig : 1048576 < bs.length
  · have HD : Hid (D = (noPrg, 2)) := Lib.hid (by rw [hD]; unfold decP; rw [if_pos hbig])
    rw [← hn] at hbig hl ⊢
    have g1 : (1048576 : Int) < (n : Int) := by omega
    clear hD hn hc1
    go_enter Try.func20, Try.ntmps20
    go_wp2_with fail
    rw [← Hw1.out]
    have hR1 := HR1.out
    have hrl := hR1.lt
    have v0' : w1.cell? ⟨w.heap.size, 0, none⟩ = some (.int .i64 0) := hR1.cell 0
    have v1' : w1.cell? ⟨w.heap.size, 1, none⟩ = some (.slice none 0 0) := hR1.cell 1
    have v2' : w1.cell? ⟨w.heap.size, 2, none⟩ = some (.slice none 0 0) := hR1.cell 2
    refine bodyPost_ret (v := .tuple #[.agg #[.int .i64 0, .slice none 0 0, .slice none 0 0], .int .i64 2]) ?_ rfl (decPPost_no HD.out Hb1.out)
    simp [results, Try.results20, go_sem, v0', v1', v2']
  have hll : bs.length ≤ 140737488351232 := by omega
  obtain ⟨R, hRR⟩ : ∃ R, R = readPrg bs := ⟨_, rfl⟩
  have HD : Hid (D = decRes n R) := Lib.hid (by rw [hD, decP_res hbig, hn, hRR])
  obtain ⟨tag, s1, e1⟩ : ∃ t s, gN bs (0, 0) = (t, s) := ⟨_, _, rfl⟩
  obtain ⟨mem, s2, e2⟩ : ∃ t s, gN bs s1 = (t, s) := ⟨_, _, rfl⟩
  obtain ⟨d, s3, e3⟩ : ∃ t s, gB bs s2 = (t, s) := ⟨_, _, rfl⟩
  obtain ⟨nf, s4, e4⟩ : ∃ t s, gN bs s3 = (t, s) := ⟨_, _, rfl⟩
  obtain ⟨hP1, hP2⟩ := readPrg_get bs tag mem nf s1 s2 s3 s4 d e1 e2 e3 e4
  rw [← hRR] at hP1 hP2
  have HP1 := Lib.hid hP1
  have HP2 := Lib.hid hP2
  have HE := Lib.hid (show gN bs (0, 0) = (tag, s1) ∧ gN bs s1 = (mem, s2) ∧ gB bs s2 = (d, s3) ∧ gN bs s3 = (nf, s4) from ⟨e1, e2, e3, e4⟩)
  have hdl : d.length ≤ bs.length := by have h := gB_le bs s2; rw [e3] at h; exact h
  have hm := gN_le bs s1
  rw [e2] at hm
  dsimp only at hm
  have hnf := gN_le bs s3
  rw [e4] at hnf
  dsimp only at hnf
  obtain ⟨f1, hf1⟩ : ∃ f, f = s1.2 := ⟨_, rfl⟩
  have HF1 := Lib.hid hf1
  rw [← hf1] at hP1 hP2
  have HC := Lib.hid hc1
  have HCn := Lib.hid hS0
  rw [← hn] at hbig hl hll hdl ⊢
  have g1 : ¬ (1048576 : Int) < (n : Int) := by omega
  clear hD hn hc1 e1 e2 e3 e4 hP1 hP2 hRR hf1 hS0
  -- the Reader
  obtain ⟨gr, hgr⟩ : ∃ g, g = w.heap.size := ⟨_, rfl⟩
  obtain ⟨w2, hw2⟩ : ∃ w2, w2 = w1.alloc (.cells #[.slice A n c, .int .i64 0, .int .i64 0] 82) := ⟨_, rfl⟩
  have hb2 : Below w1.heap.size w1 w2 := by rw [hw2]; exact (Below.refl _ _).alloc (Nat.le_refl _) _
  have hK2 : Blk w2 w1.heap.size 82 #[.slice A n c, .int .i64 0, .int .i64 0] := by rw [hw2]; exact Blk.new w1 _ _
  obtain ⟨gR, hgR⟩ : ∃ g, g = w1.heap.size := ⟨_, rfl⟩
  have hz2 : w2.heap.size = w1.heap.size + 1 := by rw [hw2]; simp
  rw [← hgr] at HR1
  rw [← hgR] at hK2
  have HG := Lib.hid (show gr = w.heap.size ∧ gR = w.heap.size + 1 ∧ w2.heap.size = w.heap.size + 2 from ⟨hgr, by have := HZ1.out; omega, by have := HZ1.out; omega⟩)
  have hrR : gr < gR := by have := HG.out; omega
  have hR2 : gR < w2.heap.size := by have := HG.out; omega
  have HB2 := Lib.hid (Hb1.out.trans (hb2.mono Hb1.out.size))
  have HRR2 := Lib.hid (HR1.out.below hb2 HR1.out.lt)
  have hAlt : ∀ b o, bs ≠ [] → A = some ⟨b, o, none⟩ → b < w.heap.size := by
    intro b o hne e
    obtain ⟨b', off, e', hb, -⟩ := HS.out.rv.at_ (by rw [List.length_map]; exact List.length_pos_iff.2 hne)
    dsimp only at e'
    rw [e] at e'
    injection e' with e'
    injection e' with e1 e2
    omega
  have hrd2 : RR w2 gR A c bs 0 0 := ⟨by rw [← HN.out]; exact hK2, (HS.out.below HB2.out).rv, (fun hne b o e => by have := hAlt b o hne e; have := HG.out; omega), Nat.zero_le _⟩
  have HA := Lib.hid hAlt
  have Hrd2 := Lib.hid hrd2
  have Hw2 := Lib.hid hw2
  clear hw2 hb2 hK2 hrd2 hAlt HR1 hgr hgR hz2
  have HG1 := Lib.hid (getN_any gR c (0, 0) A bs w2 Hrd2.out (by rw [← HN.out]; exact hll))
  go_enter Try.func20, Try.ntmps20
  go_wp2_with fail
  rw [← HG.out.2.1, ← Hw1.out, ← Hw2.out, ← HG.out.1]
  refine HG1.out.mono ?_
  rintro e w3 ⟨kd, rfl, hrd, ho⟩
  rw [HE.out.1] at hrd ⊢
  dsimp only at hrd ⊢
  obtain ⟨w4, hw4⟩ : ∃ w4, w4 = w3.alloc (.cells #[.int .i64 kd, .int .i64 tag, .slice none 0 0] 66) := ⟨_, rfl⟩
  have hb34 : Below w3.heap.size w3 w4 := by rw [hw4]; exact (Below.refl _ _).alloc (Nat.le_refl _) _
  have hT4 : Blk w4 w3.heap.size 66 #[.int .i64 kd, .int .i64 tag, .slice none 0 0] := by rw [hw4]; exact Blk.new w3 _ _
  have hz34 := hb34.size
  have hz23 := ho.size
  have hO4 : Only (fun b => b = gR) w2 w4 := ho.trans (Only.of_fresh hb34)
  have HR4 := Lib.hid (HRR2.out.only hO4 (by omega))
  have hrd4 := hrd.below hb34
  have HB4 := Lib.hid (HB2.out.trans ((hO4.below (B := w.heap.size) HB2.out.size (by have := HG.out; intro k hk e; omega)).mono (Nat.le_refl _)))
  have t1 : w4.cell? ⟨w3.heap.size, 1, none⟩ = some (.int .i64 tag) := hT4.cell 1
  have htl := hT4.lt
  have k2 : w4.cell? ⟨gR, 2, none⟩ = some (.int .i64 f1) := by rw [HF1.out]; exact hrd4.c2
  have hRl := hrd4.blk.lt
  have Hrd4 := Lib.hid hrd4
  have Hw4 := Lib.hid hw4
  have HO4 := Lib.hid hO4
  clear hrd ho hw4 hb34 hT4 hrd4 hO4 HG1 HRR2 HB2 Hrd2 Hw1 Hw2
  go_wp2_with (refine wpList_at 26 rfl ?_; refine wp_stop ?_)
  refine ⟨?_⟩
  rw [← Hw4.out]
  have hcs : (f1 = 0 ∧ ¬ tag = 2 ∧ (tag == 2) = false ∧ (tag != 2) = true) ∨ (f1 = 0 ∧ tag = 2) ∨ (¬ f1 = 0 ∧ (f1 == 0) = false ∧ (f1 != 0) = true) := by
    by_cases h1 : f1 = 0
    · by_cases h2 : tag = 2
      · exact .inr (.inl ⟨h1, h2⟩)
      · have h3 : (tag == 2) = false := by simpa using h2
        exact .inl ⟨h1, h2, h3, by rw [bne, h3]; rfl⟩
    · have h3 : (f1 == 0) = false := by simpa using h1
      exact .inr (.inr ⟨h1, h3, by rw [bne, h3]; rfl⟩)
  rcases hcs with ⟨h1, h2, h3, h4⟩ | hcs
  · subst h1
    have HDn : Hid (D = (noPrg, 52)) := Lib.hid (by rw [HD.out, HP1.out HF1.out.symm h2]; rfl)
    have r0 : w4.cell? ⟨gr, 0, none⟩ = some (.int .i64 0) := HR4.out.cell 0
    have r1 : w4.cell? ⟨gr, 1, none⟩ = some (.slice none 0 0) := HR4.out.cell 1
    have r2 : w4.cell? ⟨gr, 2, none⟩ = some (.slice none 0 0) := HR4.out.cell 2
    have rf0 := HR4.out.frozen 0
    have rf1 := HR4.out.frozen 1
    have rf2 := HR4.out.frozen 2
    have hrl := HR4.out.lt
    go_wp2_with fail
    obtain ⟨vF, hvF⟩ : ∃ vF, vF = ((w4.setCell ⟨gr, 0, none⟩ (.int .i64 0)).setCell ⟨gr, 1, none⟩ (.slice none 0 0)).setCell ⟨gr, 2, none⟩ (.slice none 0 0) := ⟨_, rfl⟩
    rw [← hvF]
    obtain ⟨hRF, hBF, -⟩ := zero_set HB4.out HR4.out (by have := HG.out; omega) _ _ _ hvF
    have hrF := hRF.lt
    have v0' : vF.cell? ⟨gr, 0, none⟩ = some (.int .i64 0) := hRF.cell 0
    have v1' : vF.cell? ⟨gr, 1, none⟩ = some (.slice none 0 0) := hRF.cell 1
    have v2' : vF.cell? ⟨gr, 2, none⟩ = some (.slice none 0 0) := hRF.cell 2
    refine bodyPost_ret (v := .tuple #[.agg #[.int .i64 0, .slice none 0 0, .slice none 0 0], .int .i64 52]) ?_ rfl (decPPost_no HDn.out hBF)
    simp [results, Try.results20, go_sem, v0', v1', v2']
  have HQ := Lib.hid (HP2.out (by
    rcases hcs with ⟨h1, h2⟩ | ⟨h1, -, -⟩
    · exact fun _ => h2
    · exact fun h => absurd (HF1.out.trans h) h1))
  have HG2 := Lib.hid (getN_any gR c s1 A bs w4 Hrd4.out (by rw [← HN.out]; exact hll))
  clear HP1 HP2
  rcases hcs with ⟨h1, h2⟩ | ⟨h1, h2, h3⟩
  · subst h1
    subst h2
    go_wp2_with fail
    refine HG2.out.mono ?_
    rintro e w5 ⟨kd2, rfl, hrd, ho⟩
    rw [HE.out.2.1] at hrd ⊢
    dsimp only at hrd ⊢
    obtain ⟨w6, hw6⟩ : ∃ w6, w6 = w5.alloc (.cells #[.int .i64 mem, .slice none 0 0, .slice none 0 0] 25) := ⟨_, rfl⟩
    obtain ⟨gp, hgp⟩ : ∃ g, g = w5.heap.size := ⟨_, rfl⟩
    have hb56 : Below w5.heap.size w5 w6 := by rw [hw6]; exact (Below.refl _ _).alloc (Nat.le_refl _) _
    have hP6 : Blk w6 gp 25 #[.int .i64 mem, .slice none 0 0, .slice none 0 0] := by rw [hw6, hgp]; exact Blk.new w5 _ _
    have hO6 : Only (fun b => b = gR) w4 w6 := ho.trans (Only.of_fresh hb56)
    have hz45 := ho.size
    have HR6 := Lib.hid (HR4.out.only hO6 (by omega))
    have HB6 := Lib.hid (HB4.out.trans ((hO6.below (B := w.heap.size) HB4.out.size (by have := HG.out; intro k hk e; omega)).mono (Nat.le_refl _)))
    have Hrd6 := Lib.hid (hrd.below hb56)
    have hRp : gR < gp := by omega
    have hp6 : gp < w6.heap.size := hP6.lt
    have HP6 := Lib.hid hP6
    have Hw6 := Lib.hid hw6
    have Hgp := Lib.hid hgp
    have HAp := Lib.hid (fun (b o : Nat) (hne : bs ≠ []) (e : A = some ⟨b, o, none⟩) => show b < gR from by have := HA.out b o hne e; have := HG.out; omega)
    clear hrd ho hw6 hgp hb56 hP6 hO6 HG2 HR4 HB4 Hrd4 hz45 HA Hw4 HO4 k2 t1 htl hRl
    have HG3 := Lib.hid (getB_any gR c s2 A bs w6 Hrd6.out (by rw [← HN.out]; exact hll) HC.out HCn.out)
    go_wp2_with fail
    rw [← Hw6.out]
    refine HG3.out.mono ?_
    rintro e w7 ⟨kd3, AD, cD, rfl, hown, hrd, ho⟩
    rw [HE.out.2.2.1] at hown hrd ⊢
    dsimp only at hown hrd ⊢
    have hP7 := HP6.out.only ho (by omega)
    have p1 : w7.cell? ⟨gp, 1, none⟩ = some (.slice none 0 0) := hP7.cell 1
    have pf1 := hP7.frozen 1
    have hp7 := hP7.lt
    obtain ⟨w8, hw8⟩ : ∃ w8, w8 = w7.setCell ⟨gp, 1, none⟩ (.slice AD d.length cD) := ⟨_, rfl⟩
    have hO78 : Only (fun b => b = gp) w7 w8 := by rw [hw8]; exact (Only.refl (fun b => b = gp) w7).setCell (p := ⟨gp, 1, none⟩) (.inl rfl) _
    have HP8 : Hid (Blk w8 gp 25 #[.int .i64 mem, .slice AD d.length cD, .slice none 0 0]) := by rw [hw8]; exact Lib.hid (hP7.set_ 1 _)
    have hz67 := ho.size
    have Hown8 := Lib.hid (Own.only hown hO78 fun b o e h => by have := (Own.lt hown b o e).1; omega)
    have Hrd8 := Lib.hid (hrd.only hO78 (by omega) (fun hne b o e h => by have := HAp.out b o hne e; omega))
    have HO8 := Lib.hid ((ho.mono (T := fun b => b = gR ∨ b = gp) fun _ _ e => .inl e).trans (hO78.mono fun _ _ e => .inr e))
    have Hw8 := Lib.hid hw8
    clear hown hrd ho hP7 hw8 hO78 HG3 HP6 Hrd6 Hw6
    have HG4 := Lib.hid (getN_any gR c s3 A bs w8 Hrd8.out (by rw [← HN.out]; exact hll))
    rw [← Hgp.out]
    go_wp2_with fail
    rw [← Hw8.out]
    clear p1 pf1 hp7
    refine HG4.out.mono ?_
    rintro e w9 ⟨kd4, rfl, hrd, ho⟩
    rw [HE.out.2.2.2] at hrd ⊢
    dsimp only at hrd ⊢
    have hz89 := ho.size
    have HP9 := Lib.hid (HP8.out.only ho (by omega))
    have Hown9 := Lib.hid (Own.only Hown8.out ho fun b o e h => by have := (Own.lt Hown8.out b o e).1; omega)
    have HO9 := Lib.hid (HO8.out.trans (ho.mono (T := fun b => b = gR ∨ b = gp) fun _ _ e => .inl e))
    have hRl9 := hrd.blk.lt
    obtain ⟨f4, hf4⟩ : ∃ f, f = s4.2 := ⟨_, rfl⟩
    have k2 : w9.cell? ⟨gR, 2, none⟩ = some (.int .i64 f4) := by rw [hf4]; exact hrd.c2
    have HF4 := Lib.hid hf4
    have Hrd9 := Lib.hid hrd
    clear hrd ho HG4 HO8 HP8 Hown8 Hrd8 Hw8 hf4
    by_cases hf : ¬ f4 = 0
    · have f41 : (f4 == 0) = false := by simpa using hf
      have f42 : (f4 != 0) = true := by rw [bne, f41]; rfl
      have HDn : Hid (D = (noPrg, f4)) := Lib.hid (by rw [HD.out, HQ.out.1 (by rw [← HF4.out]; exact hf), ← HF4.out]; rfl)
      have HRx := Lib.hid (HR6.out.only (HO9.out) (by omega))
      have HBx := Lib.hid (HB6.out.trans (((HO9.out).below (B := w.heap.size) HB6.out.size (by have := HG.out; intro k hk e; omega)).mono (Nat.le_refl _)))
      have r0 : w9.cell? ⟨gr, 0, none⟩ = some (.int .i64 0) := HRx.out.cell 0
      have r1 : w9.cell? ⟨gr, 1, none⟩ = some (.slice none 0 0) := HRx.out.cell 1
      have r2 : w9.cell? ⟨gr, 2, none⟩ = some (.slice none 0 0) := HRx.out.cell 2
      have rf0 := HRx.out.frozen 0
      have rf1 := HRx.out.frozen 1
      have rf2 := HRx.out.frozen 2
      have hrl := HRx.out.lt
      go_wp2_with fail
      go_region
      all_goals go_wp2_with fail
      obtain ⟨vF, hvF⟩ : ∃ vF, vF = ((w9.setCell ⟨gr, 0, none⟩ (.int .i64 0)).setCell ⟨gr, 1, none⟩ (.slice none 0 0)).setCell ⟨gr, 2, none⟩ (.slice none 0 0) := ⟨_, rfl⟩
      rw [← hvF]
      obtain ⟨hRF, hBF, -⟩ := zero_set HBx.out HRx.out (by have := HG.out; omega) _ _ _ hvF
      have hrF := hRF.lt
      have v0' : vF.cell? ⟨gr, 0, none⟩ = some (.int .i64 0) := hRF.cell 0
      have v1' : vF.cell? ⟨gr, 1, none⟩ = some (.slice none 0 0) := hRF.cell 1
      have v2' : vF.cell? ⟨gr, 2, none⟩ = some (.slice none 0 0) := hRF.cell 2
      refine bodyPost_ret (v := .tuple #[.agg #[.int .i64 0, .slice none 0 0, .slice none 0 0], .int .i64 f4]) ?_ rfl (decPPost_no HDn.out (below_drewN hBF 1))
      simp [results, Try.results20, go_sem, v0', v1', v2']
    have hf0 : f4 = 0 := Decidable.not_not.1 hf
    subst hf0
    have hPz := HQ.out.2 HF4.out.symm
    by_cases hbg : 64 < nf
    · have HDn : Hid (D = (noPrg, 121)) := Lib.hid (by rw [HD.out, hPz, if_pos hbg]; rfl)
      clear hPz
      have HRx := Lib.hid (HR6.out.only (HO9.out) (by omega))
      have HBx := Lib.hid (HB6.out.trans (((HO9.out).below (B := w.heap.size) HB6.out.size (by have := HG.out; intro k hk e; omega)).mono (Nat.le_refl _)))
      have r0 : w9.cell? ⟨gr, 0, none⟩ = some (.int .i64 0) := HRx.out.cell 0
      have r1 : w9.cell? ⟨gr, 1, none⟩ = some (.slice none 0 0) := HRx.out.cell 1
      have r2 : w9.cell? ⟨gr, 2, none⟩ = some (.slice none 0 0) := HRx.out.cell 2
      have rf0 := HRx.out.frozen 0
      have rf1 := HRx.out.frozen 1
      have rf2 := HRx.out.frozen 2
      have hrl := HRx.out.lt
      go_wp2_with fail
      obtain ⟨vF, hvF⟩ : ∃ vF, vF = ((w9.setCell ⟨gr, 0, none⟩ (.int .i64 0)).setCell ⟨gr, 1, none⟩ (.slice none 0 0)).setCell ⟨gr, 2, none⟩ (.slice none 0 0) := ⟨_, rfl⟩
      rw [← hvF]
      obtain ⟨hRF, hBF, -⟩ := zero_set HBx.out HRx.out (by have := HG.out; omega) _ _ _ hvF
      have hrF := hRF.lt
      have v0' : vF.cell? ⟨gr, 0, none⟩ = some (.int .i64 0) := hRF.cell 0
      have v1' : vF.cell? ⟨gr, 1, none⟩ = some (.slice none 0 0) := hRF.cell 1
      have v2' : vF.cell? ⟨gr, 2, none⟩ = some (.slice none 0 0) := hRF.cell 2
      refine bodyPost_ret (v := .tuple #[.agg #[.int .i64 0, .slice none 0 0, .slice none 0 0], .int .i64 121]) ?_ rfl (decPPost_no HDn.out hBF)
      simp [results, Try.results20, go_sem, v0', v1', v2']
    obtain ⟨N, hN⟩ : ∃ N : Nat, nf = (N : Int) := ⟨nf.toNat, by omega⟩
    subst hN
    have hN64 : N ≤ 64 := by omega
    rw [if_neg hbg, Int.toNat_natCast] at hPz
    have HR0 : Hid (R = wrapR mem d (readFuns bs (N - 0) (([] : List FunM).map FunM.plain) s4.1)) := Lib.hid hPz
    have g64 : ¬ (64 : Int) < (N : Int) := hbg
    obtain ⟨a4, ha4⟩ : ∃ a, a = s4.1 := ⟨_, rfl⟩
    have Hrd0 : Hid (RR w9 gR A c bs a4 0) := Lib.hid (by have h := Hrd9.out; rw [← HF4.out] at h; rw [ha4]; exact h)
    rw [← ha4] at HR0
    have hdl2 : d.length ≤ 140737488351232 := by omega
    clear hPz HQ hf hbg Hrd9 HF4 hnf ha4
    go_wp2_with fail
    clear k2
    go_loopw [8] (fun v wr => ∃ (k a : Nat) (hs : List FunM) (AF : Option Addr) (cF : Nat), k ≤ N ∧ v = .int .i64 k ∧ RR wr gR A c bs a 0 ∧ Blk wr gp 25 #[.int .i64 mem, .slice AD d.length cD, .slice AF k cF] ∧ PrgOwn wr w6.heap.size ⟨mem, AD, cD, d, AF, cF, hs⟩ ∧ Only (fun b => b = gR ∨ b = gp) w6 wr ∧ Hid (hs.length = k) ∧ Hid (R = wrapR mem d (readFuns bs (N - k) (hs.map FunM.plain) a))) (fun v _ => N - (intOf v).toNat)
    case atStart => exact ⟨0, a4, [], none, 0, Nat.zero_le _, rfl, Hrd0.out, HP9.out, ⟨Hown9.out, Own.nil _ _ _ _, (fun f hf => by cases hf), (fun f hf => by cases hf), hm.1, hm.2, hdl2, by simp⟩, HO9.out, Lib.hid rfl, HR0⟩
    case round =>
      rename World => u0
      obtain ⟨k, a, hs, AF, cF, hk, rfl, hrd, hblk, hown, hO, hsk, hRk⟩ := hrel
      have hle := hrd.le
      have hRl := hrd.blk.lt
      have hpl := hblk.lt
      have hz6 := hO.size
      have Hrd := Lib.hid hrd
      have HP := Lib.hid hblk
      have Hown := Lib.hid hown
      have HO := Lib.hid hO
      clear hrd hblk hown hO HP9 Hown9 HO9 Hrd0 HR0
      by_cases hlt : k < N
      · have g2 : (k : Int) < (N : Int) := by omega
        obtain ⟨y1, q1, e1⟩ : ∃ t s, gN bs (a, 0) = (t, s) := ⟨_, _, rfl⟩
        obtain ⟨y2, q2, e2⟩ : ∃ t s, gN bs q1 = (t, s) := ⟨_, _, rfl⟩
        obtain ⟨y3, q3, e3⟩ : ∃ t s, gN bs q2 = (t, s) := ⟨_, _, rfl⟩
        obtain ⟨cs, q4, e4⟩ : ∃ t s, gB bs q3 = (t, s) := ⟨_, _, rfl⟩
        obtain ⟨hF1, hF2⟩ := readFun_get bs a y1 y2 y3 q1 q2 q3 q4 cs e1 e2 e3 e4
        have b1 := gN_le bs (a, 0)
        have b2 := gN_le bs q1
        have b3 := gN_le bs q2
        have b4 := gB_le bs q3
        rw [e1] at b1
        rw [e2] at b2
        rw [e3] at b3
        rw [e4] at b4
        dsimp only at b1 b2 b3 b4
        obtain ⟨q, hq⟩ : ∃ q, N - k = q + 1 := ⟨N - k - 1, by omega⟩
        have hRk2 := hRk.out
        rw [hq] at hRk2
        unfold readFuns at hRk2
        obtain ⟨F, hF⟩ : ∃ F, F = readFun bs a := ⟨_, rfl⟩
        rw [← hF] at hRk2 hF1 hF2
        have HRk := Lib.hid hRk2
        have Hq := Lib.hid hq
        have HFa := Lib.hid hF1
        have HFb := Lib.hid hF2
        have HEr := Lib.hid (show gN bs (a, 0) = (y1, q1) ∧ gN bs q1 = (y2, q2) ∧ gN bs q2 = (y3, q3) ∧ gB bs q3 = (cs, q4) from ⟨e1, e2, e3, e4⟩)
        have hcsl : cs.length ≤ 200000000000000 := by have := HN.out; omega
        clear hRk2 hRk hq hF hF1 hF2 e1 e2 e3 e4 b4
        have HGa := Lib.hid (getN_any gR c (a, 0) A bs u0 Hrd.out (by rw [← HN.out]; exact hll))
        go_wp2_with fail
        refine HGa.out.mono ?_
        rintro e v1 ⟨kd5, rfl, hrd, ho⟩
        rw [HEr.out.1] at hrd ⊢
        dsimp only at hrd ⊢
        obtain ⟨v2, hv2⟩ : ∃ v2, v2 = v1.alloc (.cells #[.int .i64 y1, .int .i64 0, .int .i64 0, .slice none 0 0] 50) := ⟨_, rfl⟩
        obtain ⟨gf, hgf⟩ : ∃ g, g = v1.heap.size := ⟨_, rfl⟩
        have hb12 : Below v1.heap.size v1 v2 := by rw [hv2]; exact (Below.refl _ _).alloc (Nat.le_refl _) _
        have hT2 : Blk v2 gf 50 #[.int .i64 y1, .int .i64 0, .int .i64 0, .slice none 0 0] := by rw [hv2, hgf]; exact Blk.new v1 _ _
        have hz01 := ho.size
        have hfu : u0.heap.size ≤ gf := by omega
        have hRf : gR < gf := by omega
        have hpf : gp < gf := by omega
        have HO2 := Lib.hid (show Only (fun b => b = gR) u0 v2 from ho.trans (Only.of_fresh hb12))
        have Hrd2 := Lib.hid (hrd.below hb12)
        have HT2 := Lib.hid hT2
        have Hv2 := Lib.hid hv2
        have Hgf := Lib.hid hgf
        clear hrd ho hv2 hgf hb12 hT2 HGa Hrd
        have HGa := Lib.hid (getN_any gR c q1 A bs v2 Hrd2.out (by rw [← HN.out]; exact hll))
        go_wp2_with fail
        rw [← Hv2.out]
        refine HGa.out.mono ?_
        rintro e v3 ⟨kd6, rfl, hrd, ho⟩
        rw [HEr.out.2.1] at hrd ⊢
        dsimp only at hrd ⊢
        have hT3 := HT2.out.only ho (by omega)
        have x1 : v3.cell? ⟨gf, 1, none⟩ = some (.int .i64 0) := hT3.cell 1
        have xf1 := hT3.frozen 1
        have hfl := hT3.lt
        obtain ⟨v4, hv4⟩ : ∃ v4, v4 = v3.setCell ⟨gf, 1, none⟩ (.int .i64 y2) := ⟨_, rfl⟩
        have hO34 : Only (fun b => b = gf) v3 v4 := by rw [hv4]; exact (Only.refl (fun b => b = gf) v3).setCell (p := ⟨gf, 1, none⟩) (.inl rfl) _
        have HT4 : Hid (Blk v4 gf 50 #[.int .i64 y1, .int .i64 y2, .int .i64 0, .slice none 0 0]) := by rw [hv4]; exact Lib.hid (hT3.set_ 1 _)
        have HO4 := Lib.hid (show Only (fun b => b = gR) u0 v4 from (HO2.out.trans ho).more hO34 fun b hb e => by omega)
        have Hrd4 := Lib.hid (hrd.only hO34 (by omega) (fun hne b o e h => by have := HAp.out b o hne e; omega))
        have Hv4 := Lib.hid hv4
        clear hrd ho hv4 hT3 hO34 HGa HT2 HO2 Hrd2 Hv2
        have HGa := Lib.hid (getN_any gR c q2 A bs v4 Hrd4.out (by rw [← HN.out]; exact hll))
        rw [← Hgf.out]
        go_wp2_with fail
        rw [← Hv4.out]
        clear x1 xf1 hfl
        refine HGa.out.mono ?_
        rintro e v5 ⟨kd7, rfl, hrd, ho⟩
        rw [HEr.out.2.2.1] at hrd ⊢
        dsimp only at hrd ⊢
        have hT5 := HT4.out.only ho (by omega)
        have x1 : v5.cell? ⟨gf, 2, none⟩ = some (.int .i64 0) := hT5.cell 2
        have xf1 := hT5.frozen 2
        have hfl := hT5.lt
        obtain ⟨v6, hv6⟩ : ∃ v6, v6 = v5.setCell ⟨gf, 2, none⟩ (.int .i64 y3) := ⟨_, rfl⟩
        have hO56 : Only (fun b => b = gf) v5 v6 := by rw [hv6]; exact (Only.refl (fun b => b = gf) v5).setCell (p := ⟨gf, 2, none⟩) (.inl rfl) _
        have HT6 : Hid (Blk v6 gf 50 #[.int .i64 y1, .int .i64 y2, .int .i64 y3, .slice none 0 0]) := by rw [hv6]; exact Lib.hid (hT5.set_ 2 _)
        have HO6' := Lib.hid (show Only (fun b => b = gR) u0 v6 from (HO4.out.trans ho).more hO56 fun b hb e => by omega)
        have Hrd6 := Lib.hid (hrd.only hO56 (by omega) (fun hne b o e h => by have := HAp.out b o hne e; omega))
        have Hv6 := Lib.hid hv6
        clear hrd ho hv6 hT5 hO56 HGa HT4 HO4 Hrd4 Hv4
        have HGa := Lib.hid (getB_any gR c q3 A bs v6 Hrd6.out (by rw [← HN.out]; exact hll) HC.out HCn.out)
        go_wp2_with fail
        rw [← Hv6.out]
        clear x1 xf1 hfl
        refine HGa.out.mono ?_
        rintro e v7 ⟨kd8, AB, cB, rfl, hownB, hrd, ho⟩
        rw [HEr.out.2.2.2] at hownB hrd ⊢
        dsimp only at hownB hrd ⊢
        have HT7 := Lib.hid (HT6.out.only ho (by omega))
        have HO7 := Lib.hid (HO6'.out.trans ho)
        have HsB := Lib.hid (Sl.of_own hownB)
        have hz07 := HO7.out.size
        have hRl7 := hrd.blk.lt
        obtain ⟨f5, hf5⟩ : ∃ f, f = q4.2 := ⟨_, rfl⟩
        have k2 : v7.cell? ⟨gR, 2, none⟩ = some (.int .i64 f5) := by rw [hf5]; exact hrd.c2
        have HF5 := Lib.hid hf5
        have Hrd7 := Lib.hid hrd
        clear hrd ho hownB HGa HT6 HO6' Hrd6 Hv6 hf5
        by_cases hf : ¬ f5 = 0
        · have f51 : (f5 == 0) = false := by simpa using hf
          have f52 : (f5 != 0) = true := by rw [bne, f51]; rfl
          have HDn : Hid (D = (noPrg, f5)) := Lib.hid (by rw [HD.out, HRk.out, HFa.out (by rw [← HF5.out]; exact hf), ← HF5.out]; rfl)
          have HOx := Lib.hid (HO.out.trans (HO7.out.mono (T := fun b => b = gR ∨ b = gp) fun _ _ e => .inl e))
          have HRx := Lib.hid (HR6.out.only (HOx.out) (by omega))
          have HBx := Lib.hid (HB6.out.trans (((HOx.out).below (B := w.heap.size) HB6.out.size (by have := HG.out; intro k hk e; omega)).mono (Nat.le_refl _)))
          have r0 : v7.cell? ⟨gr, 0, none⟩ = some (.int .i64 0) := HRx.out.cell 0
          have r1 : v7.cell? ⟨gr, 1, none⟩ = some (.slice none 0 0) := HRx.out.cell 1
          have r2 : v7.cell? ⟨gr, 2, none⟩ = some (.slice none 0 0) := HRx.out.cell 2
          have rf0 := HRx.out.frozen 0
          have rf1 := HRx.out.frozen 1
          have rf2 := HRx.out.frozen 2
          have hrl := HRx.out.lt
          go_wp2_with fail
          go_region
          all_goals go_wp2_with fail
          obtain ⟨vF, hvF⟩ : ∃ vF, vF = ((v7.setCell ⟨gr, 0, none⟩ (.int .i64 0)).setCell ⟨gr, 1, none⟩ (.slice none 0 0)).setCell ⟨gr, 2, none⟩ (.slice none 0 0) := ⟨_, rfl⟩
          rw [← hvF]
          obtain ⟨hRF, hBF, -⟩ := zero_set HBx.out HRx.out (by have := HG.out; omega) _ _ _ hvF
          have hrF := hRF.lt
          have v0' : vF.cell? ⟨gr, 0, none⟩ = some (.int .i64 0) := hRF.cell 0
          have v1' : vF.cell? ⟨gr, 1, none⟩ = some (.slice none 0 0) := hRF.cell 1
          have v2' : vF.cell? ⟨gr, 2, none⟩ = some (.slice none 0 0) := hRF.cell 2
          refine bodyPost_ret (v := .tuple #[.agg #[.int .i64 0, .slice none 0 0, .slice none 0 0], .int .i64 f5]) ?_ rfl (decPPost_no HDn.out (below_drewN hBF 1))
          simp [results, Try.results20, go_sem, v0', v1', v2']
        have hf0 : f5 = 0 := Decidable.not_not.1 hf
        subst hf0
        have hFz := HFb.out HF5.out.symm
        have hdc := refDecode_any AB cB cs v7 HsB.out hcsl
        obtain ⟨W, hW⟩ : ∃ W, W = decL cs := ⟨_, rfl⟩
        rw [← hW] at hdc hFz
        have hl7 : W.1.length ≤ 4096 ∧ ∀ i ∈ W.1, InsOk i := by
          rw [hW]
          rcases dec_back cs with ⟨-, -, h1, h2⟩ | ⟨-, h1⟩
          · exact ⟨h2, fun i hi => (h1 i hi).2⟩
          · rw [h1]; exact ⟨by simp, fun i hi => by cases hi⟩
        have Hdc := Lib.hid hdc
        have HFz := Lib.hid hFz
        have HW := Lib.hid hW
        obtain ⟨lc, f8⟩ := W
        have Hl7 := Lib.hid hl7
        clear hdc hFz hW hf HFa HFb hl7
        go_wp2_with fail
        refine Hdc.out.mono ?_
        rintro e v8 ⟨A8, c8, rfl, hown8, hb78⟩
        dsimp only at hown8 ⊢
        have HT8 := Lib.hid (HT7.out.below hb78 HT7.out.lt)
        have HO8 := Lib.hid (HO7.out.trans (Only.of_fresh hb78))
        have Hrd8 := Lib.hid (Hrd7.out.below hb78)
        have Hown8 := Lib.hid hown8
        have hz78 := hb78.size
        have HT7l := Lib.hid HT7.out.lt
        clear hown8 hb78 Hdc HT7 HO7 Hrd7 k2 hRl7
        by_cases hf : ¬ f8 = 0
        · have f51 : (f8 == 0) = false := by simpa using hf
          have f52 : (f8 != 0) = true := by rw [bne, f51]; rfl
          have HDn : Hid (D = (noPrg, f8)) := Lib.hid (by rw [HD.out, HRk.out, HFz.out, if_neg hf]; rfl)
          have HOx := Lib.hid (HO.out.trans (HO8.out.mono (T := fun b => b = gR ∨ b = gp) fun _ _ e => .inl e))
          have HRx := Lib.hid (HR6.out.only (HOx.out) (by omega))
          have HBx := Lib.hid (HB6.out.trans (((HOx.out).below (B := w.heap.size) HB6.out.size (by have := HG.out; intro k hk e; omega)).mono (Nat.le_refl _)))
          have r0 : v8.cell? ⟨gr, 0, none⟩ = some (.int .i64 0) := HRx.out.cell 0
          have r1 : v8.cell? ⟨gr, 1, none⟩ = some (.slice none 0 0) := HRx.out.cell 1
          have r2 : v8.cell? ⟨gr, 2, none⟩ = some (.slice none 0 0) := HRx.out.cell 2
          have rf0 := HRx.out.frozen 0
          have rf1 := HRx.out.frozen 1
          have rf2 := HRx.out.frozen 2
          have hrl := HRx.out.lt
          go_wp2_with fail
          obtain ⟨vF, hvF⟩ : ∃ vF, vF = ((v8.setCell ⟨gr, 0, none⟩ (.int .i64 0)).setCell ⟨gr, 1, none⟩ (.slice none 0 0)).setCell ⟨gr, 2, none⟩ (.slice none 0 0) := ⟨_, rfl⟩
          rw [← hvF]
          obtain ⟨hRF, hBF, -⟩ := zero_set HBx.out HRx.out (by have := HG.out; omega) _ _ _ hvF
          have hrF := hRF.lt
          have v0' : vF.cell? ⟨gr, 0, none⟩ = some (.int .i64 0) := hRF.cell 0
          have v1' : vF.cell? ⟨gr, 1, none⟩ = some (.slice none 0 0) := hRF.cell 1
          have v2' : vF.cell? ⟨gr, 2, none⟩ = some (.slice none 0 0) := hRF.cell 2
          refine bodyPost_ret (v := .tuple #[.agg #[.int .i64 0, .slice none 0 0, .slice none 0 0], .int .i64 f8]) ?_ rfl (decPPost_no HDn.out hBF)
          simp [results, Try.results20, go_sem, v0', v1', v2']
        have hf0 : f8 = 0 := Decidable.not_not.1 hf
        subst hf0
        have HFk : Hid (F = .ok ⟨y1, y2, y3, lc⟩ q4.1) := Lib.hid (by rw [HFz.out, if_pos rfl])
        have x3 : v8.cell? ⟨gf, 3, none⟩ = some (.slice none 0 0) := HT8.out.cell 3
        have xf3 := HT8.out.frozen 3
        have hfl := HT8.out.lt
        clear hf HFz
        go_wp2_with (refine wpList_at 99 rfl ?_; refine wp_stop ?_)
        refine ⟨?_⟩
        obtain ⟨v9, hv9⟩ : ∃ v9, v9 = v8.setCell ⟨gf, 3, none⟩ (.slice A8 lc.length c8) := ⟨_, rfl⟩
        rw [← hv9]
        have hO89 : Only (fun b => b = gf) v8 v9 := by rw [hv9]; exact (Only.refl (fun b => b = gf) v8).setCell (p := ⟨gf, 3, none⟩) (.inl rfl) _
        have hT9 : Blk v9 gf 50 #[.int .i64 y1, .int .i64 y2, .int .i64 y3, .slice A8 lc.length c8] := by rw [hv9]; exact HT8.out.set_ 3 _
        have HO9 := Lib.hid (HO8.out.more hO89 fun b hb e => by omega)
        have HP9 := Lib.hid (HP.out.only HO9.out (by omega))
        have Hown9 := Lib.hid (Own.only Hown8.out hO89 fun b o e h => by have := (Own.lt Hown8.out b o e).1; have := HT8.out.lt; have := HT7l.out; omega)
        have Hrd9 := Lib.hid (Hrd8.out.only hO89 (by omega) (fun hne b o e h => by have := HAp.out b o hne e; omega))
        have t0 : v9.cell? ⟨gf, 0, none⟩ = some (.int .i64 y1) := hT9.cell 0
        have t1 : v9.cell? ⟨gf, 1, none⟩ = some (.int .i64 y2) := hT9.cell 1
        have t2 : v9.cell? ⟨gf, 2, none⟩ = some (.int .i64 y3) := hT9.cell 2
        have t3 : v9.cell? ⟨gf, 3, none⟩ = some (.slice A8 lc.length c8) := hT9.cell 3
        have q2 : v9.cell? ⟨gp, 2, none⟩ = some (.slice AF k cF) := HP9.out.cell 2
        have htl := hT9.lt
        have hql := HP9.out.lt
        have hz09 := HO9.out.size
        have hz89 := hO89.size
        clear hv9 hO89 hT9 x3 xf3 hfl HO8 Hown8 Hrd8 HT8
        go_wp2_with (refine wpList_at 103 rfl ?_; refine wp_stop ?_)
        refine ⟨?_⟩
        obtain ⟨v10, hv10⟩ : ∃ v10, v10 = v9.alloc (.cells #[.int .i64 y1, .int .i64 y2, .int .i64 y3, .slice A8 lc.length c8] 50) := ⟨_, rfl⟩
        rw [← hv10]
        have hb90 : Below v9.heap.size v9 v10 := by rw [hv10]; exact (Below.refl _ _).alloc (Nat.le_refl _) _
        have hU10 : Blk v10 v9.heap.size 50 #[.int .i64 y1, .int .i64 y2, .int .i64 y3, .slice A8 lc.length c8] := by rw [hv10]; exact Blk.new _ _ _
        have hO10 : Only (fun b => b = gR) u0 v10 := HO9.out.trans (Only.of_fresh hb90)
        have hown10 := Hown.out.only hO10 fun b h1 h2 e => by omega
        have hcode10 := Own.below Hown9.out hb90 (Nat.le_refl _)
        have hrd10 := Hrd9.out.below hb90
        have hP10 := HP.out.only hO10 (by omega)
        have hO610 : Only (fun b => b = gR ∨ b = gp) w6 v10 := HO.out.trans (hO10.mono fun _ _ e => .inl e)
        have hz910 := hb90.size
        have hf4 := hown10.flen
        try dsimp only at hf4
        have hfun := hown10.funs
        try dsimp only at hfun
        rw [hsk.out] at hfun hf4
        clear t0 t1 t2 t3 q2 hv10 hb90
        refine wpList_app rfl (.tmp 100) (.tmp 102) eFun rfl rfl hfun (m := 1) (us := [.int .i64 y1, .int .i64 y2, .int .i64 y3, .slice A8 lc.length c8]) rfl (RV.of_blk hU10) rfl (by intro v hv; simp only [List.mem_cons, List.not_mem_nil, or_false] at hv; rcases hv with rfl | rfl | rfl | rfl <;> rfl) (by unfold maxLen; omega) (by omega) (by have := hO610.size; omega) (by intro h; cases h) ?_
        intro A11 c11 v11 hown11 hg11 hA11
        have hrow := Own.row hfun
        try dsimp only at hown11
        try dsimp only at hg11
        try dsimp only at hrow
        have hO11 : Only (fun b => AF.map (·.block) = some b) v10 v11 := Only.of_grown hg11 fun k e => e
        have hP11 := hP10.only hO11 fun e => by have := hrow _ e; omega
        have hrd11 := hrd10.only hO11 (fun e => by have := hrow _ e; omega) fun hne b o e h => by have := hrow _ h; have := HAp.out b o hne e; omega
        have hdata11 := Own.only hown10.data hO11 fun b o e h => own_ne hown10.funs hown10.data (by decide) b h (by rw [e]; rfl)
        have hcode11 := fun f (hf : f ∈ hs) => Own.only (hown10.code f hf) hO11 fun b o e h => own_ne hown10.funs (hown10.code f hf) (by decide) b h (by rw [e]; rfl)
        have hnew11 := Own.only hcode10 hO11 fun b o e h => own_ne hown10.funs hcode10 (by decide) b h (by rw [e]; rfl)
        have hO611 : Only (fun b => b = gR ∨ b = gp) w6 v11 := hO610.more hO11 fun b hb h => by have := hrow _ h; omega
        have hz1011 := hO11.size
        have hl7 := Hl7.out
        try dsimp only at hl7
        have hown11' : PrgOwn v11 w6.heap.size ⟨mem, AD, cD, d, A11, c11, hs ++ [⟨y1, y2, y3, A8, c8, lc⟩]⟩ := by
          refine ⟨hdata11, ?_, fun f hf => ?_, fun f hf => ?_, hm.1, hm.2, hdl2, ?_⟩
          · rw [List.length_append, List.flatMap_append, hsk.out]; exact hown11
          · rcases List.mem_append.1 hf with hf | hf
            · exact hcode11 f hf
            · obtain rfl : f = ⟨y1, y2, y3, A8, c8, lc⟩ := by simpa using hf
              exact hnew11.mono (by omega)
          · rcases List.mem_append.1 hf with hf | hf
            · exact hown10.ok f hf
            · obtain rfl : f = ⟨y1, y2, y3, A8, c8, lc⟩ := by simpa using hf
              exact ⟨hl7.2, hl7.1, b1.1, b1.2, b2.1, b2.2, b3.1, b3.2⟩
          · show (hs ++ [_]).length ≤ 64
            rw [List.length_append, List.length_singleton, hsk.out]; omega
        have hOs : Only (fun b => b = gp) v11 (v11.setCell ⟨gp, 2, none⟩ (.slice A11 (k + 1) c11)) := Only.setCell (S := fun b => b = gp) (p := ⟨gp, 2, none⟩) (Only.refl _ v11) (.inl rfl) _
        have hpf11 := hP11.frozen 2
        have hpc11 : v11.cell? ⟨gp, 2, none⟩ = some (.slice AF k cF) := hP11.cell 2
        have hpl11 := hP11.lt
        have Hrd12 := Lib.hid (hrd11.only hOs (by omega) (fun hne b o e h => by have := HAp.out b o hne e; omega))
        have HP12 : Hid (Blk (v11.setCell ⟨gp, 2, none⟩ (.slice A11 (k + 1) c11)) gp 25 #[.int .i64 mem, .slice AD d.length cD, .slice A11 (k + 1) c11]) := Lib.hid (hP11.set_ 2 _)
        have Hown12 := Lib.hid (hown11'.only hOs fun b h1 h2 e => by omega)
        have HO12 := Lib.hid (hO611.trans (hOs.mono (T := fun b => b = gR ∨ b = gp) fun _ _ e => .inr e))
        have HRn : Hid (R = wrapR mem d (readFuns bs (N - (k + 1)) ((hs ++ [(⟨y1, y2, y3, A8, c8, lc⟩ : FunM)]).map FunM.plain) q4.1)) := Lib.hid (by
          have hq2 : N - (k + 1) = q := by have := Hq.out; omega
          rw [HRk.out, HFk.out, hq2, List.map_append]
          rfl)
        have Hsk : Hid ((hs ++ [(⟨y1, y2, y3, A8, c8, lc⟩ : FunM)]).length = k + 1) := Lib.hid (by rw [List.length_append, List.length_singleton, hsk.out])
        generalize hs ++ [(⟨y1, y2, y3, A8, c8, lc⟩ : FunM)] = fn at *
        clear hown11' hO611 hnew11 hcode11 hdata11 hrd11 hP11 hO11 hown11 hg11 hA11 hrow hP10 hrd10 hcode10 hown10 hO610 hU10 HRk HFk hfun hOs hl7
        go_wp2_with fail
        exact ⟨⟨k + 1, q4.1, fn, A11, c11, by omega, by go_num, by rw [HF5.out]; exact Hrd12.out, HP12.out, Hown12.out, HO12.out, Hsk, HRn⟩, by simp [intOf]; omega⟩
      · obtain rfl : k = N := by omega
        have HRe : Hid (R = .ok (PrgM.plain ⟨mem, AD, cD, d, AF, cF, hs⟩) a) := Lib.hid (by
          have h := hRk.out
          rw [Nat.sub_self] at h
          exact h)
        have HLf := Lib.hid (rfLeft_any gR c a A bs 0 u0 Hrd.out (by rw [← HN.out]; exact hll))
        rw [← HN.out] at HLf hle
        clear hRk g64
        go_wp2_with fail
        refine HLf.out.mono ?_
        rintro e u1 ⟨rfl, mm, hu1⟩
        have hb01 : Below u0.heap.size u0 u1 := by rw [hu1]; exact below_drewN (Below.refl _ _) mm
        have HOu := Lib.hid (HO.out.trans (Only.of_fresh (S := fun b => b = gR ∨ b = gp) hb01))
        have HPu := Lib.hid (HP.out.below hb01 hpl)
        have Howu := Lib.hid (Hown.out.below hb01)
        clear hu1 hb01 HLf Hrd HP Hown HO
        by_cases ha : a = n
        case neg =>
          have g3 : (0 : Int) < ((n - a : Nat) : Int) := by omega
          have HDn : Hid (D = (noPrg, 13)) := Lib.hid (by rw [HD.out, HRe.out, decRes_ok, if_neg ha])
          have HRx := Lib.hid (HR6.out.only (HOu.out) (by omega))
          have HBx := Lib.hid (HB6.out.trans (((HOu.out).below (B := w.heap.size) HB6.out.size (by have := HG.out; intro k hk e; omega)).mono (Nat.le_refl _)))
          have r0 : u1.cell? ⟨gr, 0, none⟩ = some (.int .i64 0) := HRx.out.cell 0
          have r1 : u1.cell? ⟨gr, 1, none⟩ = some (.slice none 0 0) := HRx.out.cell 1
          have r2 : u1.cell? ⟨gr, 2, none⟩ = some (.slice none 0 0) := HRx.out.cell 2
          have rf0 := HRx.out.frozen 0
          have rf1 := HRx.out.frozen 1
          have rf2 := HRx.out.frozen 2
          have hrl := HRx.out.lt
          go_wp2_with fail
          obtain ⟨vF, hvF⟩ : ∃ vF, vF = ((u1.setCell ⟨gr, 0, none⟩ (.int .i64 0)).setCell ⟨gr, 1, none⟩ (.slice none 0 0)).setCell ⟨gr, 2, none⟩ (.slice none 0 0) := ⟨_, rfl⟩
          rw [← hvF]
          obtain ⟨hRF, hBF, -⟩ := zero_set HBx.out HRx.out (by have := HG.out; omega) _ _ _ hvF
          have hrF := hRF.lt
          have v0' : vF.cell? ⟨gr, 0, none⟩ = some (.int .i64 0) := hRF.cell 0
          have v1' : vF.cell? ⟨gr, 1, none⟩ = some (.slice none 0 0) := hRF.cell 1
          have v2' : vF.cell? ⟨gr, 2, none⟩ = some (.slice none 0 0) := hRF.cell 2
          refine bodyPost_ret (v := .tuple #[.agg #[.int .i64 0, .slice none 0 0, .slice none 0 0], .int .i64 13]) ?_ rfl (decPPost_no HDn.out hBF)
          simp [results, Try.results20, go_sem, v0', v1', v2']
        subst ha
        have g3 : ¬ (0 : Int) < ((a - a : Nat) : Int) := by omega
        have hck := refCheck_any ⟨mem, AD, cD, d, AF, cF, hs⟩ u1 Howu.out.at_
        obtain ⟨C, hC⟩ : ∃ C, C = checkL (PrgM.plain ⟨mem, AD, cD, d, AF, cF, hs⟩) := ⟨_, rfl⟩
        rw [← hC] at hck
        rw [show (⟨mem, AD, cD, d, AF, cF, hs⟩ : PrgM).val = .agg #[.int .i64 mem, .slice AD d.length cD, .slice AF k cF] from by dsimp only [PrgM.val]; rw [hsk.out]] at hck
        have HD2 : Hid (D = if C = 0 then (PrgM.plain ⟨mem, AD, cD, d, AF, cF, hs⟩, 0) else (noPrg, C)) := Lib.hid (by
          rw [HD.out, HRe.out, hC, decRes_ok, if_pos rfl])
        have Hck := Lib.hid hck
        have x0 : u1.cell? ⟨gp, 0, none⟩ = some (.int .i64 mem) := HPu.out.cell 0
        have x1 : u1.cell? ⟨gp, 1, none⟩ = some (.slice AD d.length cD) := HPu.out.cell 1
        have x2 : u1.cell? ⟨gp, 2, none⟩ = some (.slice AF k cF) := HPu.out.cell 2
        have hplu := HPu.out.lt
        clear hck hC HD
        go_wp2_with fail
        refine Hck.out.mono ?_
        rintro e u2 ⟨rfl, hb12⟩
        have HOv := Lib.hid (HOu.out.trans (Only.of_fresh (S := fun b => b = gR ∨ b = gp) hb12))
        have HPv := Lib.hid (HPu.out.below hb12 hplu)
        have Howv := Lib.hid (Howu.out.below hb12)
        have hz12 := hb12.size
        have hz01 := HOu.out.size
        clear hb12 Hck x0 x1 x2 HOu HPu Howu
        by_cases hC0 : C = 0
        case neg =>
          have hC1 : (C == 0) = false := by simpa using hC0
          have hC2 : (C != 0) = true := by rw [bne, hC1]; rfl
          have HDn : Hid (D = (noPrg, C)) := Lib.hid (by rw [HD2.out, if_neg hC0])
          have HRx := Lib.hid (HR6.out.only (HOv.out) (by omega))
          have HBx := Lib.hid (HB6.out.trans (((HOv.out).below (B := w.heap.size) HB6.out.size (by have := HG.out; intro k hk e; omega)).mono (Nat.le_refl _)))
          have r0 : u2.cell? ⟨gr, 0, none⟩ = some (.int .i64 0) := HRx.out.cell 0
          have r1 : u2.cell? ⟨gr, 1, none⟩ = some (.slice none 0 0) := HRx.out.cell 1
          have r2 : u2.cell? ⟨gr, 2, none⟩ = some (.slice none 0 0) := HRx.out.cell 2
          have rf0 := HRx.out.frozen 0
          have rf1 := HRx.out.frozen 1
          have rf2 := HRx.out.frozen 2
          have hrl := HRx.out.lt
          go_wp2_with fail
          obtain ⟨vF, hvF⟩ : ∃ vF, vF = ((u2.setCell ⟨gr, 0, none⟩ (.int .i64 0)).setCell ⟨gr, 1, none⟩ (.slice none 0 0)).setCell ⟨gr, 2, none⟩ (.slice none 0 0) := ⟨_, rfl⟩
          rw [← hvF]
          obtain ⟨hRF, hBF, -⟩ := zero_set HBx.out HRx.out (by have := HG.out; omega) _ _ _ hvF
          have hrF := hRF.lt
          have v0' : vF.cell? ⟨gr, 0, none⟩ = some (.int .i64 0) := hRF.cell 0
          have v1' : vF.cell? ⟨gr, 1, none⟩ = some (.slice none 0 0) := hRF.cell 1
          have v2' : vF.cell? ⟨gr, 2, none⟩ = some (.slice none 0 0) := hRF.cell 2
          refine bodyPost_ret (v := .tuple #[.agg #[.int .i64 0, .slice none 0 0, .slice none 0 0], .int .i64 C]) ?_ rfl (decPPost_no HDn.out hBF)
          simp [results, Try.results20, go_sem, v0', v1', v2']
        subst hC0
        have HDn : Hid (D = (PrgM.plain ⟨mem, AD, cD, d, AF, cF, hs⟩, 0)) := Lib.hid (by rw [HD2.out, if_pos rfl])
        have x0 : u2.cell? ⟨gp, 0, none⟩ = some (.int .i64 mem) := HPv.out.cell 0
        have x1 : u2.cell? ⟨gp, 1, none⟩ = some (.slice AD d.length cD) := HPv.out.cell 1
        have x2 : u2.cell? ⟨gp, 2, none⟩ = some (.slice AF k cF) := HPv.out.cell 2
        have hplv := HPv.out.lt
        have HRx := Lib.hid (HR6.out.only (HOv.out) (by omega))
        have HBx := Lib.hid (HB6.out.trans (((HOv.out).below (B := w.heap.size) HB6.out.size (by have := HG.out; intro k hk e; omega)).mono (Nat.le_refl _)))
        have r0 : u2.cell? ⟨gr, 0, none⟩ = some (.int .i64 0) := HRx.out.cell 0
        have r1 : u2.cell? ⟨gr, 1, none⟩ = some (.slice none 0 0) := HRx.out.cell 1
        have r2 : u2.cell? ⟨gr, 2, none⟩ = some (.slice none 0 0) := HRx.out.cell 2
        have rf0 := HRx.out.frozen 0
        have rf1 := HRx.out.frozen 1
        have rf2 := HRx.out.frozen 2
        have hrl := HRx.out.lt
        go_wp2_with fail
        obtain ⟨vF, hvF⟩ : ∃ vF, vF = ((u2.setCell ⟨gr, 0, none⟩ (.int .i64 mem)).setCell ⟨gr, 1, none⟩ (.slice AD d.length cD)).setCell ⟨gr, 2, none⟩ (.slice AF k cF) := ⟨_, rfl⟩
        rw [← hvF]
        obtain ⟨hRF, hBF, hOF⟩ := zero_set HBx.out HRx.out (by have := HG.out; omega) _ _ _ hvF
        have hrF := hRF.lt
        have v0' : vF.cell? ⟨gr, 0, none⟩ = some (.int .i64 mem) := hRF.cell 0
        have v1' : vF.cell? ⟨gr, 1, none⟩ = some (.slice AD d.length cD) := hRF.cell 1
        have v2' : vF.cell? ⟨gr, 2, none⟩ = some (.slice AF k cF) := hRF.cell 2
        have hOwF := (Howv.out.only hOF (fun b h1 h2 e => by omega)).mono (base' := w.heap.size) (by have := HG.out; omega)
        rw [HDn.out]
        refine bodyPost_ret (v := .tuple #[.agg #[.int .i64 mem, .slice AD d.length cD, .slice AF k cF], .int .i64 0]) ?_ rfl ⟨⟨mem, AD, cD, d, AF, cF, hs⟩, rfl, ?_, hOwF, hBF⟩
        · simp [results, Try.results20, go_sem, v0', v1', v2']
        · dsimp only [PrgM.val]
          rw [hsk.out]
  · go_wp2_with fail
    refine HG2.out.mono ?_
    rintro e w5 ⟨kd2, rfl, hrd, ho⟩
    rw [HE.out.2.1] at hrd ⊢
    dsimp only at hrd ⊢
    obtain ⟨w6, hw6⟩ : ∃ w6, w6 = w5.alloc (.cells #[.int .i64 mem, .slice none 0 0, .slice none 0 0] 25) := ⟨_, rfl⟩
    obtain ⟨gp, hgp⟩ : ∃ g, g = w5.heap.size := ⟨_, rfl⟩
    have hb56 : Below w5.heap.size w5 w6 := by rw [hw6]; exact (Below.refl _ _).alloc (Nat.le_refl _) _
    have hP6 : Blk w6 gp 25 #[.int .i64 mem, .slice none 0 0, .slice none 0 0] := by rw [hw6, hgp]; exact Blk.new w5 _ _
    have hO6 : Only (fun b => b = gR) w4 w6 := ho.trans (Only.of_fresh hb56)
    have hz45 := ho.size
    have HR6 := Lib.hid (HR4.out.only hO6 (by omega))
    have HB6 := Lib.hid (HB4.out.trans ((hO6.below (B := w.heap.size) HB4.out.size (by have := HG.out; intro k hk e; omega)).mono (Nat.le_refl _)))
    have Hrd6 := Lib.hid (hrd.below hb56)
    have hRp : gR < gp := by omega
    have hp6 : gp < w6.heap.size := hP6.lt
    have HP6 := Lib.hid hP6
    have Hw6 := Lib.hid hw6
    have Hgp := Lib.hid hgp
    have HAp := Lib.hid (fun (b o : Nat) (hne : bs ≠ []) (e : A = some ⟨b, o, none⟩) => show b < gR from by have := HA.out b o hne e; have := HG.out; omega)
    clear hrd ho hw6 hgp hb56 hP6 hO6 HG2 HR4 HB4 Hrd4 hz45 HA Hw4 HO4 k2 t1 htl hRl
    have HG3 := Lib.hid (getB_any gR c s2 A bs w6 Hrd6.out (by rw [← HN.out]; exact hll) HC.out HCn.out)
    go_wp2_with fail
    rw [← Hw6.out]
    refine HG3.out.mono ?_
    rintro e w7 ⟨kd3, AD, cD, rfl, hown, hrd, ho⟩
    rw [HE.out.2.2.1] at hown hrd ⊢
    dsimp only at hown hrd ⊢
    have hP7 := HP6.out.only ho (by omega)
    have p1 : w7.cell? ⟨gp, 1, none⟩ = some (.slice none 0 0) := hP7.cell 1
    have pf1 := hP7.frozen 1
    have hp7 := hP7.lt
    obtain ⟨w8, hw8⟩ : ∃ w8, w8 = w7.setCell ⟨gp, 1, none⟩ (.slice AD d.length cD) := ⟨_, rfl⟩
    have hO78 : Only (fun b => b = gp) w7 w8 := by rw [hw8]; exact (Only.refl (fun b => b = gp) w7).setCell (p := ⟨gp, 1, none⟩) (.inl rfl) _
    have HP8 : Hid (Blk w8 gp 25 #[.int .i64 mem, .slice AD d.length cD, .slice none 0 0]) := by rw [hw8]; exact Lib.hid (hP7.set_ 1 _)
    have hz67 := ho.size
    have Hown8 := Lib.hid (Own.only hown hO78 fun b o e h => by have := (Own.lt hown b o e).1; omega)
    have Hrd8 := Lib.hid (hrd.only hO78 (by omega) (fun hne b o e h => by have := HAp.out b o hne e; omega))
    have HO8 := Lib.hid ((ho.mono (T := fun b => b = gR ∨ b = gp) fun _ _ e => .inl e).trans (hO78.mono fun _ _ e => .inr e))
    have Hw8 := Lib.hid hw8
    clear hown hrd ho hP7 hw8 hO78 HG3 HP6 Hrd6 Hw6
    have HG4 := Lib.hid (getN_any gR c s3 A bs w8 Hrd8.out (by rw [← HN.out]; exact hll))
    rw [← Hgp.out]
    go_wp2_with fail
    rw [← Hw8.out]
    clear p1 pf1 hp7
    refine HG4.out.mono ?_
    rintro e w9 ⟨kd4, rfl, hrd, ho⟩
    rw [HE.out.2.2.2] at hrd ⊢
    dsimp only at hrd ⊢
    have hz89 := ho.size
    have HP9 := Lib.hid (HP8.out.only ho (by omega))
    have Hown9 := Lib.hid (Own.only Hown8.out ho fun b o e h => by have := (Own.lt Hown8.out b o e).1; omega)
    have HO9 := Lib.hid (HO8.out.trans (ho.mono (T := fun b => b = gR ∨ b = gp) fun _ _ e => .inl e))
    have hRl9 := hrd.blk.lt
    obtain ⟨f4, hf4⟩ : ∃ f, f = s4.2 := ⟨_, rfl⟩
    have k2 : w9.cell? ⟨gR, 2, none⟩ = some (.int .i64 f4) := by rw [hf4]; exact hrd.c2
    have HF4 := Lib.hid hf4
    have Hrd9 := Lib.hid hrd
    clear hrd ho HG4 HO8 HP8 Hown8 Hrd8 Hw8 hf4
    by_cases hf : ¬ f4 = 0
    · have f41 : (f4 == 0) = false := by simpa using hf
      have f42 : (f4 != 0) = true := by rw [bne, f41]; rfl
      have HDn : Hid (D = (noPrg, f4)) := Lib.hid (by rw [HD.out, HQ.out.1 (by rw [← HF4.out]; exact hf), ← HF4.out]; rfl)
      have HRx := Lib.hid (HR6.out.only (HO9.out) (by omega))
      have HBx := Lib.hid (HB6.out.trans (((HO9.out).below (B := w.heap.size) HB6.out.size (by have := HG.out; intro k hk e; omega)).mono (Nat.le_refl _)))
      have r0 : w9.cell? ⟨gr, 0, none⟩ = some (.int .i64 0) := HRx.out.cell 0
      have r1 : w9.cell? ⟨gr, 1, none⟩ = some (.slice none 0 0) := HRx.out.cell 1
      have r2 : w9.cell? ⟨gr, 2, none⟩ = some (.slice none 0 0) := HRx.out.cell 2
      have rf0 := HRx.out.frozen 0
      have rf1 := HRx.out.frozen 1
      have rf2 := HRx.out.frozen 2
      have hrl := HRx.out.lt
      go_wp2_with fail
      go_region
      all_goals go_wp2_with fail
      obtain ⟨vF, hvF⟩ : ∃ vF, vF = ((w9.setCell ⟨gr, 0, none⟩ (.int .i64 0)).setCell ⟨gr, 1, none⟩ (.slice none 0 0)).setCell ⟨gr, 2, none⟩ (.slice none 0 0) := ⟨_, rfl⟩
      rw [← hvF]
      obtain ⟨hRF, hBF, -⟩ := zero_set HBx.out HRx.out (by have := HG.out; omega) _ _ _ hvF
      have hrF := hRF.lt
      have v0' : vF.cell? ⟨gr, 0, none⟩ = some (.int .i64 0) := hRF.cell 0
      have v1' : vF.cell? ⟨gr, 1, none⟩ = some (.slice none 0 0) := hRF.cell 1
      have v2' : vF.cell? ⟨gr, 2, none⟩ = some (.slice none 0 0) := hRF.cell 2
      refine bodyPost_ret (v := .tuple #[.agg #[.int .i64 0, .slice none 0 0, .slice none 0 0], .int .i64 f4]) ?_ rfl (decPPost_no HDn.out (below_drewN hBF 1))
      simp [results, Try.results20, go_sem, v0', v1', v2']
    have hf0 : f4 = 0 := Decidable.not_not.1 hf
    subst hf0
    have hPz := HQ.out.2 HF4.out.symm
    by_cases hbg : 64 < nf
    · have HDn : Hid (D = (noPrg, 121)) := Lib.hid (by rw [HD.out, hPz, if_pos hbg]; rfl)
      clear hPz
      have HRx := Lib.hid (HR6.out.only (HO9.out) (by omega))
      have HBx := Lib.hid (HB6.out.trans (((HO9.out).below (B := w.heap.size) HB6.out.size (by have := HG.out; intro k hk e; omega)).mono (Nat.le_refl _)))
      have r0 : w9.cell? ⟨gr, 0, none⟩ = some (.int .i64 0) := HRx.out.cell 0
      have r1 : w9.cell? ⟨gr, 1, none⟩ = some (.slice none 0 0) := HRx.out.cell 1
      have r2 : w9.cell? ⟨gr, 2, none⟩ = some (.slice none 0 0) := HRx.out.cell 2
      have rf0 := HRx.out.frozen 0
      have rf1 := HRx.out.frozen 1
      have rf2 := HRx.out.frozen 2
      have hrl := HRx.out.lt
      go_wp2_with fail
      obtain ⟨vF, hvF⟩ : ∃ vF, vF = ((w9.setCell ⟨gr, 0, none⟩ (.int .i64 0)).setCell ⟨gr, 1, none⟩ (.slice none 0 0)).setCell ⟨gr, 2, none⟩ (.slice none 0 0) := ⟨_, rfl⟩
      rw [← hvF]
      obtain ⟨hRF, hBF, -⟩ := zero_set HBx.out HRx.out (by have := HG.out; omega) _ _ _ hvF
      have hrF := hRF.lt
      have v0' : vF.cell? ⟨gr, 0, none⟩ = some (.int .i64 0) := hRF.cell 0
      have v1' : vF.cell? ⟨gr, 1, none⟩ = some (.slice none 0 0) := hRF.cell 1
      have v2' : vF.cell? ⟨gr, 2, none⟩ = some (.slice none 0 0) := hRF.cell 2
      refine bodyPost_ret (v := .tuple #[.agg #[.int .i64 0, .slice none 0 0, .slice none 0 0], .int .i64 121]) ?_ rfl (decPPost_no HDn.out hBF)
      simp [results, Try.results20, go_sem, v0', v1', v2']
    obtain ⟨N, hN⟩ : ∃ N : Nat, nf = (N : Int) := ⟨nf.toNat, by omega⟩
    subst hN
    have hN64 : N ≤ 64 := by omega
    rw [if_neg hbg, Int.toNat_natCast] at hPz
    have HR0 : Hid (R = wrapR mem d (readFuns bs (N - 0) (([] : List FunM).map FunM.plain) s4.1)) := Lib.hid hPz
    have g64 : ¬ (64 : Int) < (N : Int) := hbg
    obtain ⟨a4, ha4⟩ : ∃ a, a = s4.1 := ⟨_, rfl⟩
    have Hrd0 : Hid (RR w9 gR A c bs a4 0) := Lib.hid (by have h := Hrd9.out; rw [← HF4.out] at h; rw [ha4]; exact h)
    rw [← ha4] at HR0
    have hdl2 : d.length ≤ 140737488351232 := by omega
    clear hPz HQ hf hbg Hrd9 HF4 hnf ha4
    go_wp2_with fail
    clear k2
    go_loopw [8] (fun v wr => ∃ (k a : Nat) (hs : List FunM) (AF : Option Addr) (cF : Nat), k ≤ N ∧ v = .int .i64 k ∧ RR wr gR A c bs a 0 ∧ Blk wr gp 25 #[.int .i64 mem, .slice AD d.length cD, .slice AF k cF] ∧ PrgOwn wr w6.heap.size ⟨mem, AD, cD, d, AF, cF, hs⟩ ∧ Only (fun b => b = gR ∨ b = gp) w6 wr ∧ Hid (hs.length = k) ∧ Hid (R = wrapR mem d (readFuns bs (N - k) (hs.map FunM.plain) a))) (fun v _ => N - (intOf v).toNat)
    case atStart => exact ⟨0, a4, [], none, 0, Nat.zero_le _, rfl, Hrd0.out, HP9.out, ⟨Hown9.out, Own.nil _ _ _ _, (fun f hf => by cases hf), (fun f hf => by cases hf), hm.1, hm.2, hdl2, by simp⟩, HO9.out, Lib.hid rfl, HR0⟩
    case round =>
      rename World => u0
      obtain ⟨k, a, hs, AF, cF, hk, rfl, hrd, hblk, hown, hO, hsk, hRk⟩ := hrel
      have hle := hrd.le
      have hRl := hrd.blk.lt
      have hpl := hblk.lt
      have hz6 := hO.size
      have Hrd := Lib.hid hrd
      have HP := Lib.hid hblk
      have Hown := Lib.hid hown
      have HO := Lib.hid hO
      clear hrd hblk hown hO HP9 Hown9 HO9 Hrd0 HR0
      by_cases hlt : k < N
      · have g2 : (k : Int) < (N : Int) := by omega
        obtain ⟨y1, q1, e1⟩ : ∃ t s, gN bs (a, 0) = (t, s) := ⟨_, _, rfl⟩
        obtain ⟨y2, q2, e2⟩ : ∃ t s, gN bs q1 = (t, s) := ⟨_, _, rfl⟩
        obtain ⟨y3, q3, e3⟩ : ∃ t s, gN bs q2 = (t, s) := ⟨_, _, rfl⟩
        obtain ⟨cs, q4, e4⟩ : ∃ t s, gB bs q3 = (t, s) := ⟨_, _, rfl⟩
        obtain ⟨hF1, hF2⟩ := readFun_get bs a y1 y2 y3 q1 q2 q3 q4 cs e1 e2 e3 e4
        have b1 := gN_le bs (a, 0)
        have b2 := gN_le bs q1
        have b3 := gN_le bs q2
        have b4 := gB_le bs q3
        rw [e1] at b1
        rw [e2] at b2
        rw [e3] at b3
        rw [e4] at b4
        dsimp only at b1 b2 b3 b4
        obtain ⟨q, hq⟩ : ∃ q, N - k = q + 1 := ⟨N - k - 1, by omega⟩
        have hRk2 := hRk.out
        rw [hq] at hRk2
        unfold readFuns at hRk2
        obtain ⟨F, hF⟩ : ∃ F, F = readFun bs a := ⟨_, rfl⟩
        rw [← hF] at hRk2 hF1 hF2
        have HRk := Lib.hid hRk2
        have Hq := Lib.hid hq
        have HFa := Lib.hid hF1
        have HFb := Lib.hid hF2
        have HEr := Lib.hid (show gN bs (a, 0) = (y1, q1) ∧ gN bs q1 = (y2, q2) ∧ gN bs q2 = (y3, q3) ∧ gB bs q3 = (cs, q4) from ⟨e1, e2, e3, e4⟩)
        have hcsl : cs.length ≤ 200000000000000 := by have := HN.out; omega
        clear hRk2 hRk hq hF hF1 hF2 e1 e2 e3 e4 b4
        have HGa := Lib.hid (getN_any gR c (a, 0) A bs u0 Hrd.out (by rw [← HN.out]; exact hll))
        go_wp2_with fail
        refine HGa.out.mono ?_
        rintro e v1 ⟨kd5, rfl, hrd, ho⟩
        rw [HEr.out.1] at hrd ⊢
        dsimp only at hrd ⊢
        obtain ⟨v2, hv2⟩ : ∃ v2, v2 = v1.alloc (.cells #[.int .i64 y1, .int .i64 0, .int .i64 0, .slice none 0 0] 50) := ⟨_, rfl⟩
        obtain ⟨gf, hgf⟩ : ∃ g, g = v1.heap.size := ⟨_, rfl⟩
        have hb12 : Below v1.heap.size v1 v2 := by rw [hv2]; exact (Below.refl _ _).alloc (Nat.le_refl _) _
        have hT2 : Blk v2 gf 50 #[.int .i64 y1, .int .i64 0, .int .i64 0, .slice none 0 0] := by rw [hv2, hgf]; exact Blk.new v1 _ _
        have hz01 := ho.size
        have hfu : u0.heap.size ≤ gf := by omega
        have hRf : gR < gf := by omega
        have hpf : gp < gf := by omega
        have HO2 := Lib.hid (show Only (fun b => b = gR) u0 v2 from ho.trans (Only.of_fresh hb12))
        have Hrd2 := Lib.hid (hrd.below hb12)
        have HT2 := Lib.hid hT2
        have Hv2 := Lib.hid hv2
        have Hgf := Lib.hid hgf
        clear hrd ho hv2 hgf hb12 hT2 HGa Hrd
        have HGa := Lib.hid (getN_any gR c q1 A bs v2 Hrd2.out (by rw [← HN.out]; exact hll))
        go_wp2_with fail
        rw [← Hv2.out]
        refine HGa.out.mono ?_
        rintro e v3 ⟨kd6, rfl, hrd, ho⟩
        rw [HEr.out.2.1] at hrd ⊢
        dsimp only at hrd ⊢
        have hT3 := HT2.out.only ho (by omega)
        have x1 : v3.cell? ⟨gf, 1, none⟩ = some (.int .i64 0) := hT3.cell 1
        have xf1 := hT3.frozen 1
        have hfl := hT3.lt
        obtain ⟨v4, hv4⟩ : ∃ v4, v4 = v3.setCell ⟨gf, 1, none⟩ (.int .i64 y2) := ⟨_, rfl⟩
        have hO34 : Only (fun b => b = gf) v3 v4 := by rw [hv4]; exact (Only.refl (fun b => b = gf) v3).setCell (p := ⟨gf, 1, none⟩) (.inl rfl) _
        have HT4 : Hid (Blk v4 gf 50 #[.int .i64 y1, .int .i64 y2, .int .i64 0, .slice none 0 0]) := by rw [hv4]; exact Lib.hid (hT3.set_ 1 _)
        have HO4 := Lib.hid (show Only (fun b => b = gR) u0 v4 from (HO2.out.trans ho).more hO34 fun b hb e => by omega)
        have Hrd4 := Lib.hid (hrd.only hO34 (by omega) (fun hne b o e h => by have := HAp.out b o hne e; omega))
        have Hv4 := Lib.hid hv4
        clear hrd ho hv4 hT3 hO34 HGa HT2 HO2 Hrd2 Hv2
        have HGa := Lib.hid (getN_any gR c q2 A bs v4 Hrd4.out (by rw [← HN.out]; exact hll))
        rw [← Hgf.out]
        go_wp2_with fail
        rw [← Hv4.out]
        clear x1 xf1 hfl
        refine HGa.out.mono ?_
        rintro e v5 ⟨kd7, rfl, hrd, ho⟩
        rw [HEr.out.2.2.1] at hrd ⊢
        dsimp only at hrd ⊢
        have hT5 := HT4.out.only ho (by omega)
        have x1 : v5.cell? ⟨gf, 2, none⟩ = some (.int .i64 0) := hT5.cell 2
        have xf1 := hT5.frozen 2
        have hfl := hT5.lt
        obtain ⟨v6, hv6⟩ : ∃ v6, v6 = v5.setCell ⟨gf, 2, none⟩ (.int .i64 y3) := ⟨_, rfl⟩
        have hO56 : Only (fun b => b = gf) v5 v6 := by rw [hv6]; exact (Only.refl (fun b => b = gf) v5).setCell (p := ⟨gf, 2, none⟩) (.inl rfl) _
        have HT6 : Hid (Blk v6 gf 50 #[.int .i64 y1, .int .i64 y2, .int .i64 y3, .slice none 0 0]) := by rw [hv6]; exact Lib.hid (hT5.set_ 2 _)
        have HO6' := Lib.hid (show Only (fun b => b = gR) u0 v6 from (HO4.out.trans ho).more hO56 fun b hb e => by omega)
        have Hrd6 := Lib.hid (hrd.only hO56 (by omega) (fun hne b o e h => by have := HAp.out b o hne e; omega))
        have Hv6 := Lib.hid hv6
        clear hrd ho hv6 hT5 hO56 HGa HT4 HO4 Hrd4 Hv4
        have HGa := Lib.hid (getB_any gR c q3 A bs v6 Hrd6.out (by rw [← HN.out]; exact hll) HC.out HCn.out)
        go_wp2_with fail
        rw [← Hv6.out]
        clear x1 xf1 hfl
        refine HGa.out.mono ?_
        rintro e v7 ⟨kd8, AB, cB, rfl, hownB, hrd, ho⟩
        rw [HEr.out.2.2.2] at hownB hrd ⊢
        dsimp only at hownB hrd ⊢
        have HT7 := Lib.hid (HT6.out.only ho (by omega))
        have HO7 := Lib.hid (HO6'.out.trans ho)
        have HsB := Lib.hid (Sl.of_own hownB)
        have hz07 := HO7.out.size
        have hRl7 := hrd.blk.lt
        obtain ⟨f5, hf5⟩ : ∃ f, f = q4.2 := ⟨_, rfl⟩
        have k2 : v7.cell? ⟨gR, 2, none⟩ = some (.int .i64 f5) := by rw [hf5]; exact hrd.c2
        have HF5 := Lib.hid hf5
        have Hrd7 := Lib.hid hrd
        clear hrd ho hownB HGa HT6 HO6' Hrd6 Hv6 hf5
        by_cases hf : ¬ f5 = 0
        · have f51 : (f5 == 0) = false := by simpa using hf
          have f52 : (f5 != 0) = true := by rw [bne, f51]; rfl
          have HDn : Hid (D = (noPrg, f5)) := Lib.hid (by rw [HD.out, HRk.out, HFa.out (by rw [← HF5.out]; exact hf), ← HF5.out]; rfl)
          have HOx := Lib.hid (HO.out.trans (HO7.out.mono (T := fun b => b = gR ∨ b = gp) fun _ _ e => .inl e))
          have HRx := Lib.hid (HR6.out.only (HOx.out) (by omega))
          have HBx := Lib.hid (HB6.out.trans (((HOx.out).below (B := w.heap.size) HB6.out.size (by have := HG.out; intro k hk e; omega)).mono (Nat.le_refl _)))
          have r0 : v7.cell? ⟨gr, 0, none⟩ = some (.int .i64 0) := HRx.out.cell 0
          have r1 : v7.cell? ⟨gr, 1, none⟩ = some (.slice none 0 0) := HRx.out.cell 1
          have r2 : v7.cell? ⟨gr, 2, none⟩ = some (.slice none 0 0) := HRx.out.cell 2
          have rf0 := HRx.out.frozen 0
          have rf1 := HRx.out.frozen 1
          have rf2 := HRx.out.frozen 2
          have hrl := HRx.out.lt
          go_wp2_with fail
          go_region
          all_goals go_wp2_with fail
          obtain ⟨vF, hvF⟩ : ∃ vF, vF = ((v7.setCell ⟨gr, 0, none⟩ (.int .i64 0)).setCell ⟨gr, 1, none⟩ (.slice none 0 0)).setCell ⟨gr, 2, none⟩ (.slice none 0 0) := ⟨_, rfl⟩
          rw [← hvF]
          obtain ⟨hRF, hBF, -⟩ := zero_set HBx.out HRx.out (by have := HG.out; omega) _ _ _ hvF
          have hrF := hRF.lt
          have v0' : vF.cell? ⟨gr, 0, none⟩ = some (.int .i64 0) := hRF.cell 0
          have v1' : vF.cell? ⟨gr, 1, none⟩ = some (.slice none 0 0) := hRF.cell 1
          have v2' : vF.cell? ⟨gr, 2, none⟩ = some (.slice none 0 0) := hRF.cell 2
          refine bodyPost_ret (v := .tuple #[.agg #[.int .i64 0, .slice none 0 0, .slice none 0 0], .int .i64 f5]) ?_ rfl (decPPost_no HDn.out (below_drewN hBF 1))
          simp [results, Try.results20, go_sem, v0', v1', v2']
        have hf0 : f5 = 0 := Decidable.not_not.1 hf
        subst hf0
        have hFz := HFb.out HF5.out.symm
        have hdc := refDecode_any AB cB cs v7 HsB.out hcsl
        obtain ⟨W, hW⟩ : ∃ W, W = decL cs := ⟨_, rfl⟩
        rw [← hW] at hdc hFz
        have hl7 : W.1.length ≤ 4096 ∧ ∀ i ∈ W.1, InsOk i := by
          rw [hW]
          rcases dec_back cs with ⟨-, -, h1, h2⟩ | ⟨-, h1⟩
          · exact ⟨h2, fun i hi => (h1 i hi).2⟩
          · rw [h1]; exact ⟨by simp, fun i hi => by cases hi⟩
        have Hdc := Lib.hid hdc
        have HFz := Lib.hid hFz
        have HW := Lib.hid hW
        obtain ⟨lc, f8⟩ := W
        have Hl7 := Lib.hid hl7
        clear hdc hFz hW hf HFa HFb hl7
        go_wp2_with fail
        refine Hdc.out.mono ?_
        rintro e v8 ⟨A8, c8, rfl, hown8, hb78⟩
        dsimp only at hown8 ⊢
        have HT8 := Lib.hid (HT7.out.below hb78 HT7.out.lt)
        have HO8 := Lib.hid (HO7.out.trans (Only.of_fresh hb78))
        have Hrd8 := Lib.hid (Hrd7.out.below hb78)
        have Hown8 := Lib.hid hown8
        have hz78 := hb78.size
        have HT7l := Lib.hid HT7.out.lt
        clear hown8 hb78 Hdc HT7 HO7 Hrd7 k2 hRl7
        by_cases hf : ¬ f8 = 0
        · have f51 : (f8 == 0) = false := by simpa using hf
          have f52 : (f8 != 0) = true := by rw [bne, f51]; rfl
          have HDn : Hid (D = (noPrg, f8)) := Lib.hid (by rw [HD.out, HRk.out, HFz.out, if_neg hf]; rfl)
          have HOx := Lib.hid (HO.out.trans (HO8.out.mono (T := fun b => b = gR ∨ b = gp) fun _ _ e => .inl e))
          have HRx := Lib.hid (HR6.out.only (HOx.out) (by omega))
          have HBx := Lib.hid (HB6.out.trans (((HOx.out).below (B := w.heap.size) HB6.out.size (by have := HG.out; intro k hk e; omega)).mono (Nat.le_refl _)))
          have r0 : v8.cell? ⟨gr, 0, none⟩ = some (.int .i64 0) := HRx.out.cell 0
          have r1 : v8.cell? ⟨gr, 1, none⟩ = some (.slice none 0 0) := HRx.out.cell 1
          have r2 : v8.cell? ⟨gr, 2, none⟩ = some (.slice none 0 0) := HRx.out.cell 2
          have rf0 := HRx.out.frozen 0
          have rf1 := HRx.out.frozen 1
          have rf2 := HRx.out.frozen 2
          have hrl := HRx.out.lt
          go_wp2_with fail
          obtain ⟨vF, hvF⟩ : ∃ vF, vF = ((v8.setCell ⟨gr, 0, none⟩ (.int .i64 0)).setCell ⟨gr, 1, none⟩ (.slice none 0 0)).setCell ⟨gr, 2, none⟩ (.slice none 0 0) := ⟨_, rfl⟩
          rw [← hvF]
          obtain ⟨hRF, hBF, -⟩ := zero_set HBx.out HRx.out (by have := HG.out; omega) _ _ _ hvF
          have hrF := hRF.lt
          have v0' : vF.cell? ⟨gr, 0, none⟩ = some (.int .i64 0) := hRF.cell 0
          have v1' : vF.cell? ⟨gr, 1, none⟩ = some (.slice none 0 0) := hRF.cell 1
          have v2' : vF.cell? ⟨gr, 2, none⟩ = some (.slice none 0 0) := hRF.cell 2
          refine bodyPost_ret (v := .tuple #[.agg #[.int .i64 0, .slice none 0 0, .slice none 0 0], .int .i64 f8]) ?_ rfl (decPPost_no HDn.out hBF)
          simp [results, Try.results20, go_sem, v0', v1', v2']
        have hf0 : f8 = 0 := Decidable.not_not.1 hf
        subst hf0
        have HFk : Hid (F = .ok ⟨y1, y2, y3, lc⟩ q4.1) := Lib.hid (by rw [HFz.out, if_pos rfl])
        have x3 : v8.cell? ⟨gf, 3, none⟩ = some (.slice none 0 0) := HT8.out.cell 3
        have xf3 := HT8.out.frozen 3
        have hfl := HT8.out.lt
        clear hf HFz
        go_wp2_with (refine wpList_at 99 rfl ?_; refine wp_stop ?_)
        refine ⟨?_⟩
        obtain ⟨v9, hv9⟩ : ∃ v9, v9 = v8.setCell ⟨gf, 3, none⟩ (.slice A8 lc.length c8) := ⟨_, rfl⟩
        rw [← hv9]
        have hO89 : Only (fun b => b = gf) v8 v9 := by rw [hv9]; exact (Only.refl (fun b => b = gf) v8).setCell (p := ⟨gf, 3, none⟩) (.inl rfl) _
        have hT9 : Blk v9 gf 50 #[.int .i64 y1, .int .i64 y2, .int .i64 y3, .slice A8 lc.length c8] := by rw [hv9]; exact HT8.out.set_ 3 _
        have HO9 := Lib.hid (HO8.out.more hO89 fun b hb e => by omega)
        have HP9 := Lib.hid (HP.out.only HO9.out (by omega))
        have Hown9 := Lib.hid (Own.only Hown8.out hO89 fun b o e h => by have := (Own.lt Hown8.out b o e).1; have := HT8.out.lt; have := HT7l.out; omega)
        have Hrd9 := Lib.hid (Hrd8.out.only hO89 (by omega) (fun hne b o e h => by have := HAp.out b o hne e; omega))
        have t0 : v9.cell? ⟨gf, 0, none⟩ = some (.int .i64 y1) := hT9.cell 0
        have t1 : v9.cell? ⟨gf, 1, none⟩ = some (.int .i64 y2) := hT9.cell 1
        have t2 : v9.cell? ⟨gf, 2, none⟩ = some (.int .i64 y3) := hT9.cell 2
        have t3 : v9.cell? ⟨gf, 3, none⟩ = some (.slice A8 lc.length c8) := hT9.cell 3
        have q2 : v9.cell? ⟨gp, 2, none⟩ = some (.slice AF k cF) := HP9.out.cell 2
        have htl := hT9.lt
        have hql := HP9.out.lt
        have hz09 := HO9.out.size
        have hz89 := hO89.size
        clear hv9 hO89 hT9 x3 xf3 hfl HO8 Hown8 Hrd8 HT8
        go_wp2_with (refine wpList_at 103 rfl ?_; refine wp_stop ?_)
        refine ⟨?_⟩
        obtain ⟨v10, hv10⟩ : ∃ v10, v10 = v9.alloc (.cells #[.int .i64 y1, .int .i64 y2, .int .i64 y3, .slice A8 lc.length c8] 50) := ⟨_, rfl⟩
        rw [← hv10]
        have hb90 : Below v9.heap.size v9 v10 := by rw [hv10]; exact (Below.refl _ _).alloc (Nat.le_refl _) _
        have hU10 : Blk v10 v9.heap.size 50 #[.int .i64 y1, .int .i64 y2, .int .i64 y3, .slice A8 lc.length c8] := by rw [hv10]; exact Blk.new _ _ _
        have hO10 : Only (fun b => b = gR) u0 v10 := HO9.out.trans (Only.of_fresh hb90)
        have hown10 := Hown.out.only hO10 fun b h1 h2 e => by omega
        have hcode10 := Own.below Hown9.out hb90 (Nat.le_refl _)
        have hrd10 := Hrd9.out.below hb90
        have hP10 := HP.out.only hO10 (by omega)
        have hO610 : Only (fun b => b = gR ∨ b = gp) w6 v10 := HO.out.trans (hO10.mono fun _ _ e => .inl e)
        have hz910 := hb90.size
        have hf4 := hown10.flen
        try dsimp only at hf4
        have hfun := hown10.funs
        try dsimp only at hfun
        rw [hsk.out] at hfun hf4
        clear t0 t1 t2 t3 q2 hv10 hb90
        refine wpList_app rfl (.tmp 100) (.tmp 102) eFun rfl rfl hfun (m := 1) (us := [.int .i64 y1, .int .i64 y2, .int .i64 y3, .slice A8 lc.length c8]) rfl (RV.of_blk hU10) rfl (by intro v hv; simp only [List.mem_cons, List.not_mem_nil, or_false] at hv; rcases hv with rfl | rfl | rfl | rfl <;> rfl) (by unfold maxLen; omega) (by omega) (by have := hO610.size; omega) (by intro h; cases h) ?_
        intro A11 c11 v11 hown11 hg11 hA11
        have hrow := Own.row hfun
        try dsimp only at hown11
        try dsimp only at hg11
        try dsimp only at hrow
        have hO11 : Only (fun b => AF.map (·.block) = some b) v10 v11 := Only.of_grown hg11 fun k e => e
        have hP11 := hP10.only hO11 fun e => by have := hrow _ e; omega
        have hrd11 := hrd10.only hO11 (fun e => by have := hrow _ e; omega) fun hne b o e h => by have := hrow _ h; have := HAp.out b o hne e; omega
        have hdata11 := Own.only hown10.data hO11 fun b o e h => own_ne hown10.funs hown10.data (by decide) b h (by rw [e]; rfl)
        have hcode11 := fun f (hf : f ∈ hs) => Own.only (hown10.code f hf) hO11 fun b o e h => own_ne hown10.funs (hown10.code f hf) (by decide) b h (by rw [e]; rfl)
        have hnew11 := Own.only hcode10 hO11 fun b o e h => own_ne hown10.funs hcode10 (by decide) b h (by rw [e]; rfl)
        have hO611 : Only (fun b => b = gR ∨ b = gp) w6 v11 := hO610.more hO11 fun b hb h => by have := hrow _ h; omega
        have hz1011 := hO11.size
        have hl7 := Hl7.out
        try dsimp only at hl7
        have hown11' : PrgOwn v11 w6.heap.size ⟨mem, AD, cD, d, A11, c11, hs ++ [⟨y1, y2, y3, A8, c8, lc⟩]⟩ := by
          refine ⟨hdata11, ?_, fun f hf => ?_, fun f hf => ?_, hm.1, hm.2, hdl2, ?_⟩
          · rw [List.length_append, List.flatMap_append, hsk.out]; exact hown11
          · rcases List.mem_append.1 hf with hf | hf
            · exact hcode11 f hf
            · obtain rfl : f = ⟨y1, y2, y3, A8, c8, lc⟩ := by simpa using hf
              exact hnew11.mono (by omega)
          · rcases List.mem_append.1 hf with hf | hf
            · exact hown10.ok f hf
            · obtain rfl : f = ⟨y1, y2, y3, A8, c8, lc⟩ := by simpa using hf
              exact ⟨hl7.2, hl7.1, b1.1, b1.2, b2.1, b2.2, b3.1, b3.2⟩
          · show (hs ++ [_]).length ≤ 64
            rw [List.length_append, List.length_singleton, hsk.out]; omega
        have hOs : Only (fun b => b = gp) v11 (v11.setCell ⟨gp, 2, none⟩ (.slice A11 (k + 1) c11)) := Only.setCell (S := fun b => b = gp) (p := ⟨gp, 2, none⟩) (Only.refl _ v11) (.inl rfl) _
        have hpf11 := hP11.frozen 2
        have hpc11 : v11.cell? ⟨gp, 2, none⟩ = some (.slice AF k cF) := hP11.cell 2
        have hpl11 := hP11.lt
        have Hrd12 := Lib.hid (hrd11.only hOs (by omega) (fun hne b o e h => by have := HAp.out b o hne e; omega))
        have HP12 : Hid (Blk (v11.setCell ⟨gp, 2, none⟩ (.slice A11 (k + 1) c11)) gp 25 #[.int .i64 mem, .slice AD d.length cD, .slice A11 (k + 1) c11]) := Lib.hid (hP11.set_ 2 _)
        have Hown12 := Lib.hid (hown11'.only hOs fun b h1 h2 e => by omega)
        have HO12 := Lib.hid (hO611.trans (hOs.mono (T := fun b => b = gR ∨ b = gp) fun _ _ e => .inr e))
        have HRn : Hid (R = wrapR mem d (readFuns bs (N - (k + 1)) ((hs ++ [(⟨y1, y2, y3, A8, c8, lc⟩ : FunM)]).map FunM.plain) q4.1)) := Lib.hid (by
          have hq2 : N - (k + 1) = q := by have := Hq.out; omega
          rw [HRk.out, HFk.out, hq2, List.map_append]
          rfl)
        have Hsk : Hid ((hs ++ [(⟨y1, y2, y3, A8, c8, lc⟩ : FunM)]).length = k + 1) := Lib.hid (by rw [List.length_append, List.length_singleton, hsk.out])
        generalize hs ++ [(⟨y1, y2, y3, A8, c8, lc⟩ : FunM)] = fn at *
        clear hown11' hO611 hnew11 hcode11 hdata11 hrd11 hP11 hO11 hown11 hg11 hA11 hrow hP10 hrd10 hcode10 hown10 hO610 hU10 HRk HFk hfun hOs hl7
        go_wp2_with fail
        exact ⟨⟨k + 1, q4.1, fn, A11, c11, by omega, by go_num, by rw [HF5.out]; exact Hrd12.out, HP12.out, Hown12.out, HO12.out, Hsk, HRn⟩, by simp [intOf]; omega⟩
      · obtain rfl : k = N := by omega
        have HRe : Hid (R = .ok (PrgM.plain ⟨mem, AD, cD, d, AF, cF, hs⟩) a) := Lib.hid (by
          have h := hRk.out
          rw [Nat.sub_self] at h
          exact h)
        have HLf := Lib.hid (rfLeft_any gR c a A bs 0 u0 Hrd.out (by rw [← HN.out]; exact hll))
        rw [← HN.out] at HLf hle
        clear hRk g64
        go_wp2_with fail
        refine HLf.out.mono ?_
        rintro e u1 ⟨rfl, mm, hu1⟩
        have hb01 : Below u0.heap.size u0 u1 := by rw [hu1]; exact below_drewN (Below.refl _ _) mm
        have HOu := Lib.hid (HO.out.trans (Only.of_fresh (S := fun b => b = gR ∨ b = gp) hb01))
        have HPu := Lib.hid (HP.out.below hb01 hpl)
        have Howu := Lib.hid (Hown.out.below hb01)
        clear hu1 hb01 HLf Hrd HP Hown HO
        by_cases ha : a = n
        case neg =>
          have g3 : (0 : Int) < ((n - a : Nat) : Int) := by omega
          have HDn : Hid (D = (noPrg, 13)) := Lib.hid (by rw [HD.out, HRe.out, decRes_ok, if_neg ha])
          have HRx := Lib.hid (HR6.out.only (HOu.out) (by omega))
          have HBx := Lib.hid (HB6.out.trans (((HOu.out).below (B := w.heap.size) HB6.out.size (by have := HG.out; intro k hk e; omega)).mono (Nat.le_refl _)))
          have r0 : u1.cell? ⟨gr, 0, none⟩ = some (.int .i64 0) := HRx.out.cell 0
          have r1 : u1.cell? ⟨gr, 1, none⟩ = some (.slice none 0 0) := HRx.out.cell 1
          have r2 : u1.cell? ⟨gr, 2, none⟩ = some (.slice none 0 0) := HRx.out.cell 2
          have rf0 := HRx.out.frozen 0
          have rf1 := HRx.out.frozen 1
          have rf2 := HRx.out.frozen 2
          have hrl := HRx.out.lt
          go_wp2_with fail
          obtain ⟨vF, hvF⟩ : ∃ vF, vF = ((u1.setCell ⟨gr, 0, none⟩ (.int .i64 0)).setCell ⟨gr, 1, none⟩ (.slice none 0 0)).setCell ⟨gr, 2, none⟩ (.slice none 0 0) := ⟨_, rfl⟩
          rw [← hvF]
          obtain ⟨hRF, hBF, -⟩ := zero_set HBx.out HRx.out (by have := HG.out; omega) _ _ _ hvF
          have hrF := hRF.lt
          have v0' : vF.cell? ⟨gr, 0, none⟩ = some (.int .i64 0) := hRF.cell 0
          have v1' : vF.cell? ⟨gr, 1, none⟩ = some (.slice none 0 0) := hRF.cell 1
          have v2' : vF.cell? ⟨gr, 2, none⟩ = some (.slice none 0 0) := hRF.cell 2
          refine bodyPost_ret (v := .tuple #[.agg #[.int .i64 0, .slice none 0 0, .slice none 0 0], .int .i64 13]) ?_ rfl (decPPost_no HDn.out hBF)
          simp [results, Try.results20, go_sem, v0', v1', v2']
        subst ha
        have g3 : ¬ (0 : Int) < ((a - a : Nat) : Int) := by omega
        have hck := refCheck_any ⟨mem, AD, cD, d, AF, cF, hs⟩ u1 Howu.out.at_
        obtain ⟨C, hC⟩ : ∃ C, C = checkL (PrgM.plain ⟨mem, AD, cD, d, AF, cF, hs⟩) := ⟨_, rfl⟩
        rw [← hC] at hck
        rw [show (⟨mem, AD, cD, d, AF, cF, hs⟩ : PrgM).val = .agg #[.int .i64 mem, .slice AD d.length cD, .slice AF k cF] from by dsimp only [PrgM.val]; rw [hsk.out]] at hck
        have HD2 : Hid (D = if C = 0 then (PrgM.plain ⟨mem, AD, cD, d, AF, cF, hs⟩, 0) else (noPrg, C)) := Lib.hid (by
          rw [HD.out, HRe.out, hC, decRes_ok, if_pos rfl])
        have Hck := Lib.hid hck
        have x0 : u1.cell? ⟨gp, 0, none⟩ = some (.int .i64 mem) := HPu.out.cell 0
        have x1 : u1.cell? ⟨gp, 1, none⟩ = some (.slice AD d.length cD) := HPu.out.cell 1
        have x2 : u1.cell? ⟨gp, 2, none⟩ = some (.slice AF k cF) := HPu.out.cell 2
        have hplu := HPu.out.lt
        clear hck hC HD
        go_wp2_with fail
        refine Hck.out.mono ?_
        rintro e u2 ⟨rfl, hb12⟩
        have HOv := Lib.hid (HOu.out.trans (Only.of_fresh (S := fun b => b = gR ∨ b = gp) hb12))
        have HPv := Lib.hid (HPu.out.below hb12 hplu)
        have Howv := Lib.hid (Howu.out.below hb12)
        have hz12 := hb12.size
        have hz01 := HOu.out.size
        clear hb12 Hck x0 x1 x2 HOu HPu Howu
        by_cases hC0 : C = 0
        case neg =>
          have hC1 : (C == 0) = false := by simpa using hC0
          have hC2 : (C != 0) = true := by rw [bne, hC1]; rfl
          have HDn : Hid (D = (noPrg, C)) := Lib.hid (by rw [HD2.out, if_neg hC0])
          have HRx := Lib.hid (HR6.out.only (HOv.out) (by omega))
          have HBx := Lib.hid (HB6.out.trans (((HOv.out).below (B := w.heap.size) HB6.out.size (by have := HG.out; intro k hk e; omega)).mono (Nat.le_refl _)))
          have r0 : u2.cell? ⟨gr, 0, none⟩ = some (.int .i64 0) := HRx.out.cell 0
          have r1 : u2.cell? ⟨gr, 1, none⟩ = some (.slice none 0 0) := HRx.out.cell 1
          have r2 : u2.cell? ⟨gr, 2, none⟩ = some (.slice none 0 0) := HRx.out.cell 2
          have rf0 := HRx.out.frozen 0
          have rf1 := HRx.out.frozen 1
          have rf2 := HRx.out.frozen 2
          have hrl := HRx.out.lt
          go_wp2_with fail
          obtain ⟨vF, hvF⟩ : ∃ vF, vF = ((u2.setCell ⟨gr, 0, none⟩ (.int .i64 0)).setCell ⟨gr, 1, none⟩ (.slice none 0 0)).setCell ⟨gr, 2, none⟩ (.slice none 0 0) := ⟨_, rfl⟩
          rw [← hvF]
          obtain ⟨hRF, hBF, -⟩ := zero_set HBx.out HRx.out (by have := HG.out; omega) _ _ _ hvF
          have hrF := hRF.lt
          have v0' : vF.cell? ⟨gr, 0, none⟩ = some (.int .i64 0) := hRF.cell 0
          have v1' : vF.cell? ⟨gr, 1, none⟩ = some (.slice none 0 0) := hRF.cell 1
          have v2' : vF.cell? ⟨gr, 2, none⟩ = some (.slice none 0 0) := hRF.cell 2
          refine bodyPost_ret (v := .tuple #[.agg #[.int .i64 0, .slice none 0 0, .slice none 0 0], .int .i64 C]) ?_ rfl (decPPost_no HDn.out hBF)
          simp [results, Try.results20, go_sem, v0', v1', v2']
        subst hC0
        have HDn : Hid (D = (PrgM.plain ⟨mem, AD, cD, d, AF, cF, hs⟩, 0)) := Lib.hid (by rw [HD2.out, if_pos rfl])
        have x0 : u2.cell? ⟨gp, 0, none⟩ = some (.int .i64 mem) := HPv.out.cell 0
        have x1 : u2.cell? ⟨gp, 1, none⟩ = some (.slice AD d.length cD) := HPv.out.cell 1
        have x2 : u2.cell? ⟨gp, 2, none⟩ = some (.slice AF k cF) := HPv.out.cell 2
        have hplv := HPv.out.lt
        have HRx := Lib.hid (HR6.out.only (HOv.out) (by omega))
        have HBx := Lib.hid (HB6.out.trans (((HOv.out).below (B := w.heap.size) HB6.out.size (by have := HG.out; intro k hk e; omega)).mono (Nat.le_refl _)))
        have r0 : u2.cell? ⟨gr, 0, none⟩ = some (.int .i64 0) := HRx.out.cell 0
        have r1 : u2.cell? ⟨gr, 1, none⟩ = some (.slice none 0 0) := HRx.out.cell 1
        have r2 : u2.cell? ⟨gr, 2, none⟩ = some (.slice none 0 0) := HRx.out.cell 2
        have rf0 := HRx.out.frozen 0
        have rf1 := HRx.out.frozen 1
        have rf2 := HRx.out.frozen 2
        have hrl := HRx.out.lt
        go_wp2_with fail
        obtain ⟨vF, hvF⟩ : ∃ vF, vF = ((u2.setCell ⟨gr, 0, none⟩ (.int .i64 mem)).setCell ⟨gr, 1, none⟩ (.slice AD d.length cD)).setCell ⟨gr, 2, none⟩ (.slice AF k cF) := ⟨_, rfl⟩
        rw [← hvF]
        obtain ⟨hRF, hBF, hOF⟩ := zero_set HBx.out HRx.out (by have := HG.out; omega) _ _ _ hvF
        have hrF := hRF.lt
        have v0' : vF.cell? ⟨gr, 0, none⟩ = some (.int .i64 mem) := hRF.cell 0
        have v1' : vF.cell? ⟨gr, 1, none⟩ = some (.slice AD d.length cD) := hRF.cell 1
        have v2' : vF.cell? ⟨gr, 2, none⟩ = some (.slice AF k cF) := hRF.cell 2
        have hOwF := (Howv.out.only hOF (fun b h1 h2 e => by omega)).mono (base' := w.heap.size) (by have := HG.out; omega)
        rw [HDn.out]
        refine bodyPost_ret (v := .tuple #[.agg #[.int .i64 mem, .slice AD d.length cD, .slice AF k cF], .int .i64 0]) ?_ rfl ⟨⟨mem, AD, cD, d, AF, cF, hs⟩, rfl, ?_, hOwF, hBF⟩
        · simp [results, Try.results20, go_sem, v0', v1', v2']
        · dsimp only [PrgM.val]
          rw [hsk.out]
end Go.Proofs.Ytadnjfoinmeloaa
