/- The law's head: Run of two small programs. -/
import Derived.Test.YtcmpmhlcfalbhaaChU
import Derived.Test.YtcmpmhlcfalbhaaChV
namespace Go.Proofs.Ytcmpmhlcfalbhaa
open Go.RowKit

theorem small_at {w : World} {gI gF : Nat} {code : List Ins} (hI : Blk w gI 45 (code.flatMap insCells).toArray) (hF : Blk w gF 43 #[.int .i64 0, .int .i64 0, .int .i64 1, .slice (some ⟨gI, 0, none⟩) code.length 4]) (hok : ∀ i ∈ code, InsOk i) (hl : code.length ≤ 100) :
    PrgAt w ⟨0, none, 0, [], some ⟨gF, 0, none⟩, 1, [⟨0, 0, 1, some ⟨gI, 0, none⟩, 4, code⟩]⟩ := by
  refine ⟨⟨.inl rfl, (fun _ => ⟨rfl, rfl⟩)⟩, of_decide_eq_true rfl, RV.of_blk hF, (fun e => by cases e), of_decide_eq_true rfl, (fun f hf => ?_), of_decide_eq_true rfl, of_decide_eq_true rfl⟩
  rw [List.mem_singleton.1 hf]
  exact ⟨RV.of_blk hI, hok, (fun e => by cases e), by dsimp only; omega, of_decide_eq_true rfl, of_decide_eq_true rfl, of_decide_eq_true rfl, of_decide_eq_true rfl, of_decide_eq_true rfl, of_decide_eq_true rfl⟩
def Small13 (w : World) (e : Ending) (w' : World) : Prop := ∃ gI gF, e = .returned (.agg #[.int .i64 0, .slice none 0 0, .slice (some ⟨gF, 0, none⟩) 1 1]) ∧ Blk w' gI 45 (codeA.flatMap insCells).toArray ∧ Blk w' gF 43 #[.int .i64 0, .int .i64 0, .int .i64 1, .slice (some ⟨gI, 0, none⟩) 4 4] ∧ w.heap.size ≤ gI ∧ w.heap.size ≤ gF ∧ Below w.heap.size w w'
set_option maxRecDepth 100000 in
theorem small13_any (w : World) : Calls Try.prog 41 #[] w (Small13 w) := by
  go_enter Try.func41, Try.ntmps41
  go_wp2_with fail
  have h3 := blk3 w #[.int .i64 0, .slice none 0 0, .slice (some ⟨w.heap.size + 1 + 1, 0, none⟩) 1 1] (codeA.flatMap insCells).toArray #[.int .i64 0, .int .i64 0, .int .i64 1, .slice (some ⟨w.heap.size + 1, 0, none⟩) 4 4] 26 45 43
  obtain ⟨w1, hw1⟩ : ∃ w1, w1 = ((w.alloc (.cells #[.int .i64 0, .slice none 0 0, .slice (some ⟨w.heap.size + 1 + 1, 0, none⟩) 1 1] 26)).alloc (.cells (codeA.flatMap insCells).toArray 45)).alloc (.cells #[.int .i64 0, .int .i64 0, .int .i64 1, .slice (some ⟨w.heap.size + 1, 0, none⟩) 4 4] 43) := ⟨_, rfl⟩
  have hb1 : Below w.heap.size w w1 := by rw [hw1]; exact (((Below.refl _ _).alloc (Nat.le_refl _) _).alloc (by simp) _).alloc (by simp; omega) _
  rw [← hw1] at h3
  have e : (codeA.flatMap insCells).toArray = #[.int .i64 3, .int .i64 3, .int .i64 3, .int .i64 4, .int .i64 21, .int .i64 0, .int .i64 18, .int .i64 0] := rfl
  rw [e] at hw1
  rw [← hw1]
  obtain ⟨h0, h1, h2⟩ := h3
  have c0 : w1.cell? ⟨w.heap.size, 0, none⟩ = some (.int .i64 0) := h0.cell 0
  have c1 : w1.cell? ⟨w.heap.size, 1, none⟩ = some (.slice none 0 0) := h0.cell 1
  have c2 : w1.cell? ⟨w.heap.size, 2, none⟩ = some (.slice (some ⟨w.heap.size + 1 + 1, 0, none⟩) 1 1) := h0.cell 2
  have hl0 := h0.lt
  refine bodyPost_ret (v := .agg #[.int .i64 0, .slice none 0 0, .slice (some ⟨w.heap.size + 1 + 1, 0, none⟩) 1 1]) ?_ rfl ⟨w.heap.size + 1, w.heap.size + 1 + 1, rfl, h1, h2, by omega, by omega, hb1⟩
  simp [results, Try.results41, go_sem, c0, c1, c2]
theorem okA : ∀ i ∈ codeA, InsOk i := fun i hi => by simp only [codeA, List.mem_cons, List.not_mem_nil, or_false] at hi; rcases hi with rfl | rfl | rfl | rfl <;> exact ⟨by decide, by decide, by decide, by decide⟩
theorem okB : ∀ i ∈ codeB, InsOk i := fun i hi => by simp only [codeB, List.mem_cons, List.not_mem_nil, or_false] at hi; rcases hi with rfl | rfl | rfl | rfl <;> exact ⟨by decide, by decide, by decide, by decide⟩
set_option maxRecDepth 100000 in
set_option maxHeartbeats 1000000 in
theorem head13_any (w : World) : Calls Try.prog 15 #[] w fun e w' => e = .returned (.bool true) ∧ Below w.heap.size w w' := by
  go_enter Try.func15, Try.ntmps15
  go_wp2_with fail
  refine (small13_any w).mono ?_
  rintro e w1 ⟨gI, gF, rfl, hI, hF, hlI, hlF, hb1⟩
  have hat := small_at (code := codeA) hI hF okA (by decide)
  have HR := Lib.hid (run_any _ w1 hat)
  have Hb1 := Lib.hid hb1
  clear hI hF hlI hlF hb1 hat
  go_wp2_with fail
  refine HR.out.mono ?_
  rintro e w2 ⟨hb2, ⟨x, hx, -⟩ | ⟨hs, tops, lps, live, ce, co, HR2, LR, AH, cH, AT, cT, AL, cL, gL, hok, hM, hL, rfl⟩⟩
  · exact absurd hx no_bad_A
  obtain ⟨rfl, rfl, rfl⟩ := ok_A hok
  obtain ⟨bh, r, rfl, -, hbh, hch, hO⟩ := rows_at hM.hh hM.sh hM.oh (f := 0) (by decide)
  obtain ⟨rb, hrA, -, hrb, hrc⟩ := own_pos hO (by decide)
  have hr2 := hrc 2 (.int .i64 2) rfl
  rw [hrA] at hch
  have Hb2 := Lib.hid (Hb1.out.trans (hb2.mono Hb1.out.size))
  have Hfa := Lib.hid (show w2.cell? ⟨bh, 0, none⟩ = some (.slice (some ⟨rb, 0, none⟩) 4 r.c) ∧ bh < w2.heap.size ∧ w2.cell? ⟨rb, 2, none⟩ = some (.int .i64 2) ∧ rb < w2.heap.size from ⟨hch, hbh, hr2, hrb⟩)
  obtain ⟨nt, hnt⟩ : ∃ x, x = tops.length := ⟨_, rfl⟩
  obtain ⟨nl, hnl⟩ : ∃ x, x = lps.length := ⟨_, rfl⟩
  obtain ⟨nv, hnv⟩ : ∃ x, x = live.length := ⟨_, rfl⟩
  rw [← hnt, ← hnl, ← hnv]
  clear hb2 hok hM hL hch hbh hO hrb hrc hr2 hrA hnt hnl hnv HR
  dsimp only [faultV, List.length]
  go_wp2_with fail
  obtain ⟨w3, hw3⟩ : ∃ w3, w3 = (w2.alloc (.cells #[.slice (some ⟨bh, 0, none⟩) 1 cH, .slice AT nt cT, .slice AL nl cL, .slice (some ⟨gL, 0, none⟩) nv nv, .int .i64 3, .int .i64 4] 32)).alloc (.cells #[.int .i64 0, .int .i64 0, .int .i64 0] 37) := ⟨_, rfl⟩
  rw [← hw3]
  have hb23 : Below w2.heap.size w2 w3 := by rw [hw3]; exact ((Below.refl _ _).alloc (Nat.le_refl _) _).alloc (by simp) _
  obtain ⟨gA, hgA⟩ : ∃ g, g = w2.heap.size := ⟨_, rfl⟩
  obtain ⟨gB, hgB⟩ : ∃ g, g = w2.heap.size + 1 := ⟨_, rfl⟩
  rw [← hgB, ← hgA]
  have hA3 : Blk w3 gA 32 #[.slice (some ⟨bh, 0, none⟩) 1 cH, .slice AT nt cT, .slice AL nl cL, .slice (some ⟨gL, 0, none⟩) nv nv, .int .i64 3, .int .i64 4] := by rw [hw3, hgA]; exact (Blk.new w2 _ _).alloc _
  have hB3 : Blk w3 gB 37 #[.int .i64 0, .int .i64 0, .int .i64 0] := by rw [hw3, hgB]; exact Blk.new2 _ _ _ _
  have HA3 := Lib.hid hA3
  have HB3 := Lib.hid hB3
  have Hb23 := Lib.hid hb23
  have HgA := Lib.hid hgA
  have HgB := Lib.hid hgB
  clear hw3 hb23 hA3 hB3 hgA hgB Hb1
  refine (small13_any w3).mono ?_
  rintro e w4 ⟨gI4, gF4, rfl, hI, hF, hlI, hlF, hb34⟩
  have HI4 := Lib.hid hI
  have HF4 := Lib.hid hF
  have Hb34 := Lib.hid hb34
  have HlI := Lib.hid hlI
  have HlF := Lib.hid hlF
  obtain ⟨gP, hgP⟩ : ∃ g, g = w4.heap.size := ⟨_, rfl⟩
  obtain ⟨w5, hw5⟩ : ∃ w5, w5 = w4.alloc (.cells #[.int .i64 0, .slice none 0 0, .slice (some ⟨gF4, 0, none⟩) 1 1] 26) := ⟨_, rfl⟩
  have hb45 : Below w4.heap.size w4 w5 := by rw [hw5]; exact (Below.refl _ _).alloc (Nat.le_refl _) _
  have hP5 : Blk w5 gP 26 #[.int .i64 0, .slice none 0 0, .slice (some ⟨gF4, 0, none⟩) 1 1] := by rw [hw5, hgP]; exact Blk.new _ _ _
  have hI5 := hI.below hb45 hI.lt
  have hF5 := hF.below hb45 hF.lt
  have HP5 := Lib.hid hP5
  have HI5 := Lib.hid hI5
  have HF5 := Lib.hid hF5
  have Hb45 := Lib.hid hb45
  have Hw5 := Lib.hid hw5
  have HgP := Lib.hid hgP
  have p2 : w5.cell? ⟨gP, 2, none⟩ = some (.slice (some ⟨gF4, 0, none⟩) 1 1) := hP5.cell 2
  have pl := hP5.lt
  have f3 : w5.cell? ⟨gF4, 3, none⟩ = some (.slice (some ⟨gI4, 0, none⟩) 4 4) := hF5.cell 3
  have fl := hF5.lt
  have i2 : w5.cell? ⟨gI4, 2, none⟩ = some (.int .i64 3) := hI5.cell 2
  have i3 : w5.cell? ⟨gI4, 3, none⟩ = some (.int .i64 4) := hI5.cell 3
  have if2 := hI5.frozen 2
  have if3 := hI5.frozen 3
  have il := hI5.lt
  have n1 : ¬ gP = gI4 := by have := hI.lt; omega
  have n2 : ¬ gF4 = gI4 := fun e => by
    have h1 := hF
    rw [e] at h1
    have h2 := h1.symm.trans hI
    cases h2
  clear hI hF hlI hlF hb34 hb45 hP5 hI5 hF5 hw5 hgP
  go_upto_region 3 with (fail)
  rw [← Hw5.out, ← HgP.out]
  go_upto_region 5 with (fail)
  obtain ⟨w6, hw6⟩ : ∃ w6, w6 = (w5.setCell ⟨gI4, 2, none⟩ (.int .i64 4)).setCell ⟨gI4, 3, none⟩ (.int .i64 0) := ⟨_, rfl⟩
  rw [← hw6]
  have hI6 : Blk w6 gI4 45 (codeB.flatMap insCells).toArray := by
    rw [hw6]
    exact Blk.setL (cs := [.int .i64 3, .int .i64 3, .int .i64 4, .int .i64 4, .int .i64 21, .int .i64 0, .int .i64 18, .int .i64 0]) (Blk.setL (cs := [.int .i64 3, .int .i64 3, .int .i64 3, .int .i64 4, .int .i64 21, .int .i64 0, .int .i64 18, .int .i64 0]) HI5.out 2 _) 3 _
  have hO6 : Only (fun k => k = gI4) w5 w6 := by rw [hw6]; exact ((Only.refl (fun k => k = gI4) w5).setCell (p := ⟨gI4, 2, none⟩) (.inl rfl) _).setCell (p := ⟨gI4, 3, none⟩) (.inl rfl) _
  have hF6 := HF5.out.only hO6 n2
  have hP6 := HP5.out.only hO6 n1
  have hat6 := small_at (code := codeB) hI6 hF6 okB (by decide)
  have HR6 := Lib.hid (run_any _ w6 hat6)
  have p0 : w6.cell? ⟨gP, 0, none⟩ = some (.int .i64 0) := hP6.cell 0
  have p1 : w6.cell? ⟨gP, 1, none⟩ = some (.slice none 0 0) := hP6.cell 1
  have p26 : w6.cell? ⟨gP, 2, none⟩ = some (.slice (some ⟨gF4, 0, none⟩) 1 1) := hP6.cell 2
  have pl6 := hP6.lt
  have HO6 := Lib.hid hO6
  clear hw6 hI6 hO6 hF6 hP6 hat6 p2 pl f3 fl i2 i3 if2 if3 il
  clear Hw5
  go_wp2_with fail
  refine HR6.out.mono ?_
  rintro e w7 ⟨hb7, ⟨x, hx, rfl⟩ | ⟨hs, tops, lps, live, ce, co, HR2, LR, AH', cH', AT', cT', AL', cL', gL', hok, -⟩⟩
  · obtain rfl := bad_B hx
    have hb67 := hb7
    have hz34 := Hb34.out.size
    have hz23 := Hb23.out.size
    have hOw : Only (fun k => k = gI4) w3 w7 := ((Only.of_fresh (Hb34.out.trans (Hb45.out.mono hz34))).trans HO6.out).trans (Only.of_fresh hb67)
    have hg1 : gA ≠ gI4 := by have := HlI.out; have := HA3.out.lt; omega
    have hg2 : gB ≠ gI4 := by have := HlI.out; have := HB3.out.lt; omega
    have hA7 := HA3.out.only hOw hg1
    have hB7 := HB3.out.only hOw hg2
    have hbh : bh < w3.heap.size := by have := Hfa.out.2.1; omega
    have hrb : rb < w3.heap.size := by have := Hfa.out.2.2.2; omega
    have q0 : w7.cell? ⟨bh, 0, none⟩ = some (.slice (some ⟨rb, 0, none⟩) 4 r.c) := ((hOw.cell (p := ⟨bh, 0, none⟩) hbh (fun e => by have := HlI.out; change bh = gI4 at e; omega)).trans ((bcell Hb23.out).1 _ _ Hfa.out.2.1)).trans Hfa.out.1
    have q2 : w7.cell? ⟨rb, 2, none⟩ = some (.int .i64 2) := ((hOw.cell (p := ⟨rb, 2, none⟩) hrb (fun e => by have := HlI.out; change rb = gI4 at e; omega)).trans ((bcell Hb23.out).1 _ _ Hfa.out.2.2.2)).trans Hfa.out.2.2.1
    have hz7 := hOw.size
    have lbh : bh < w7.heap.size := by omega
    have lrb : rb < w7.heap.size := by omega
    have a0 : w7.cell? ⟨gA, 0, none⟩ = some (.slice (some ⟨bh, 0, none⟩) 1 cH) := hA7.cell 0
    have a4 : w7.cell? ⟨gA, 4, none⟩ = some (.int .i64 3) := hA7.cell 4
    have a5 : w7.cell? ⟨gA, 5, none⟩ = some (.int .i64 4) := hA7.cell 5
    have al := hA7.lt
    have b0 : w7.cell? ⟨gB, 0, none⟩ = some (.int .i64 0) := hB7.cell 0
    have bl := hB7.lt
    have HBe := Lib.hid (show Below w.heap.size w w7 from ((Hb2.out.trans (Hb23.out.mono Hb2.out.size)).trans (hOw.below (B := w.heap.size) (Nat.le_trans Hb2.out.size hz23) fun k hk e => by have := HlI.out; have := Hb2.out.size; omega)))
    clear hb7 hb67 hx hz34 hz23 hOw hg1 hg2 hA7 hB7 hbh hrb hz7 p0 p1 p26 pl6
    dsimp only [faultV, zFacts]
    go_wp2_with fail
    go_ret
    exact ⟨rfl, (HBe.out.alloc HBe.out.size _).alloc (by have := HBe.out.size; simp; omega) _⟩
  · exact (no_ok_B hok).elim
end Go.Proofs.Ytcmpmhlcfalbhaa
