/- The law's Kept of a program. -/
import Derived.Test.YtadnjfoinmeloaaPrgLd
import Derived.Test.YtadnjfoinmeloaaPrgRs
namespace Go.Proofs.Ytadnjfoinmeloaa
open Go.RowKit

set_option maxRecDepth 100000 in
set_option maxHeartbeats 4000000 in
theorem keptPrg_any (p q : PrgM) (base gd gf : Nat) (w : World) (hL : LentAt w base p q gd gf) (hp : PrgAt w p) :
    Calls Try.prog 15 #[q.val, p.val] w fun e w' => e = .returned (.bool true) ∧ Below w.heap.size w w' := by
  have hq := hL.at_ hp
  have hsame : sameP q.plain p.plain = true := (sameP_iff _ _).2 hL.same
  have hs := fun w1 (h1 : PrgAt w1 q) (h2 : PrgAt w1 p) => refSameP_any q p w1 h1 h2
  rw [hsame] at hs
  have HS := Lib.hid hs
  have HQ := Lib.hid hq
  clear hs hsame hq
  obtain ⟨mem0, AD, cD, data0, AF, cF, fs⟩ := p
  obtain ⟨mem, AD', cD', data, AF', cF', gs⟩ := q
  obtain ⟨e1, e2, e3, e4, hbd, e5, e6, e7, hbf, hrow, hb1, hb2⟩ := hL
  dsimp only at e1 e2 e3 e4 hbd e5 e6 e7 hbf hrow
  subst e1 e2 e3 e4 e5 e6
  have Hp := Lib.hid hp
  have hdl : data.length ≤ 140737488351232 := hp.dlen
  have hfl : fs.length ≤ 2932031007402 := hp.flen
  obtain ⟨n, hn⟩ : ∃ n, n = data.length := ⟨_, rfl⟩
  obtain ⟨m, hm⟩ : ∃ m, m = fs.length := ⟨_, rfl⟩
  have hd0 := hbd.lt
  have hf0 := hbf.lt
  have Hbd := Lib.hid hbd
  have Hbf := Lib.hid hbf
  have Hrow := Lib.hid hrow
  have HE7 := Lib.hid e7
  rw [← hm] at HE7
  have HN := Lib.hid hn
  have HM := Lib.hid hm
  clear hp hbd hbf hrow hb1 hb2
  have hsl : ∀ w', (Instr.slice 22 (.slice (some ⟨gd, 0, none⟩) n (n + 5)) none (some (.int .i64 ((n : Int) + 5))) none).run Try.prog w' = .ok (.slice (some ⟨gd, 0, none⟩) (n + 5) (n + 5)) w' := fun w' => by
    rw [show ((n : Int) + 5) = ((n + 5 : Nat) : Int) from by omega, run_slice_h w' _ _ _ _ sliceB _ _ (by omega) (by omega), sizeB w', Result.andThen_ok]
    unfold sliced
    rw [Int.toNat_natCast]
    simp [Addr.add]
  have hqv : (⟨mem, some ⟨gd, 0, none⟩, data.length + 5, data, some ⟨gf, 0, none⟩, fs.length + 2, gs⟩ : PrgM).val = .agg #[.int .i64 mem, .slice (some ⟨gd, 0, none⟩) n (n + 5), .slice (some ⟨gf, 0, none⟩) m (m + 2)] := by dsimp only [PrgM.val]; rw [e7, ← hn, ← hm]
  have hpv : (⟨mem, AD, cD, data, AF, cF, fs⟩ : PrgM).val = .agg #[.int .i64 mem, .slice AD n cD, .slice AF m cF] := by dsimp only [PrgM.val]; rw [← hn, ← hm]
  rw [hqv, hpv]
  have HV := Lib.hid (And.intro hqv hpv)
  have hdn : n ≤ 140737488351232 := by omega
  have hfm : m ≤ 2932031007402 := by omega
  clear hqv hpv hn hm hdl hfl e7
  go_enter Try.func15, Try.ntmps15
  go_wp2_with (refine wpList_at 13 rfl ?_; refine wp_stop ?_)
  refine ⟨?_⟩
  obtain ⟨w1, hw1⟩ : ∃ w1, w1 = (w.alloc (.cells #[.int .i64 mem, .slice (some ⟨gd, 0, none⟩) n (n + 5), .slice (some ⟨gf, 0, none⟩) m (m + 2)] 25)).alloc (.cells #[.int .i64 mem, .slice AD n cD, .slice AF m cF] 25) := ⟨_, rfl⟩
  rw [← hw1]
  have hb1 : Below w.heap.size w w1 := by rw [hw1]; exact ((Below.refl _ _).alloc (Nat.le_refl _) _).alloc (by simp) _
  have hX1 : Blk w1 w.heap.size 25 #[.int .i64 mem, .slice (some ⟨gd, 0, none⟩) n (n + 5), .slice (some ⟨gf, 0, none⟩) m (m + 2)] := by rw [hw1]; exact (Blk.new w _ _).alloc _
  have hY1 : Blk w1 (w.heap.size + 1) 25 #[.int .i64 mem, .slice AD n cD, .slice AF m cF] := by
    rw [hw1]
    have h := Blk.new (w.alloc (.cells #[.int .i64 mem, .slice (some ⟨gd, 0, none⟩) n (n + 5), .slice (some ⟨gf, 0, none⟩) m (m + 2)] 25)) 25 #[.int .i64 mem, .slice AD n cD, .slice AF m cF]
    rw [World.size_alloc] at h
    exact h
  obtain ⟨gx, hgx⟩ : ∃ g, g = w.heap.size := ⟨_, rfl⟩
  obtain ⟨gy, hgy⟩ : ∃ g, g = w.heap.size + 1 := ⟨_, rfl⟩
  rw [← hgx] at hX1
  rw [← hgy] at hY1
  rw [← hgy, ← hgx]
  have HG := Lib.hid (And.intro hgx hgy)
  have HX1 := Lib.hid hX1
  have HY1 := Lib.hid hY1
  have Hb1 := Lib.hid hb1
  clear hw1 hb1 hX1 hY1 hgx hgy
  have hcall := HS.out w1 (HQ.out.below Hb1.out) (Hp.out.below Hb1.out)
  rw [HV.out.1, HV.out.2] at hcall
  have Hcall := Lib.hid hcall
  clear hcall
  go_wp2_with fail
  refine Hcall.out.mono ?_
  rintro e w2 ⟨rfl, hb2⟩
  have HB2 := Lib.hid (Hb1.out.trans (hb2.mono Hb1.out.size))
  have hX2 := HX1.out.below hb2 HX1.out.lt
  have hY2 := HY1.out.below hb2 HY1.out.lt
  have Hbd2 := Lib.hid (Hbd.out.below HB2.out hd0)
  have Hbf2 := Lib.hid (Hbf.out.below HB2.out hf0)
  have Hrow2 := Lib.hid (Hrow.out.keep (fun _ => False) (Only.of_below HB2.out fun _ hk _ => hk) (fun _ _ _ h => h.elim))
  have hxl := hX2.lt
  have hyl := hY2.lt
  have x1 : w2.cell? ⟨gx, 1, none⟩ = some (.slice (some ⟨gd, 0, none⟩) n (n + 5)) := hX2.cell 1
  have x2 : w2.cell? ⟨gx, 2, none⟩ = some (.slice (some ⟨gf, 0, none⟩) m (m + 2)) := hX2.cell 2
  have y1 : w2.cell? ⟨gy, 1, none⟩ = some (.slice AD n cD) := hY2.cell 1
  have y2 : w2.cell? ⟨gy, 2, none⟩ = some (.slice AF m cF) := hY2.cell 2
  have HX2 := Lib.hid hX2
  have HY2 := Lib.hid hY2
  have hd2 := Hbd2.out.lt
  have hf2 := Hbf2.out.lt
  clear hb2 hX2 hY2 Hcall HX1 HY1
  go_wp2_with fail
  go_loop [6] (fun i => ∃ k : Nat, n ≤ k ∧ k ≤ n + 5 ∧ i = .int .i64 k) (fun i => n + 5 - (intOf i).toNat)
  case atStart => exact ⟨n, Nat.le_refl _, by omega, rfl⟩
  case round =>
    obtain ⟨k, hk1, hk2, rfl⟩ := hrel
    by_cases hlt : k < n + 5
    · have g1 : (k : Int) < (n : Int) + 5 := by omega
      have hc1 : w2.cell? ⟨gd, k, none⟩ = some (.int .u8 201) := by
        rw [Hbd2.out.at_, List.getElem?_map]
        unfold lentP
        rw [List.getElem?_append_right (by rw [← HN.out]; exact hk1), List.getElem?_replicate, if_pos (by rw [← HN.out]; omega)]
        rfl
      go_wp2_with fail
      exact ⟨⟨k + 1, by omega, by omega, by go_num⟩, by simp [intOf]; omega⟩
    · have g1 : ¬ (k : Int) < (n : Int) + 5 := by omega
      go_wp2_with fail
      go_loopw [8] (fun i wr => ∃ k : Nat, k ≤ m + 2 ∧ i = .int .i64 k ∧ Below w2.heap.size w2 wr) (fun i _ => m + 2 - (intOf i).toNat)
      case atStart => exact ⟨0, Nat.zero_le _, rfl, Below.refl _ _⟩
      case round =>
        rename World => w3
        obtain ⟨k, hk, rfl, hB⟩ := hrel
        have hX3 := HX2.out.below hB hxl
        have hY3 := HY2.out.below hB hyl
        have hbd3 := Hbd2.out.below hB hd2
        have hbf3 := Hbf2.out.below hB hf2
        have hxl3 := hX3.lt
        have hyl3 := hY3.lt
        have hfl3 := hbf3.lt
        have x2 : w3.cell? ⟨gx, 2, none⟩ = some (.slice (some ⟨gf, 0, none⟩) m (m + 2)) := hX3.cell 2
        have y2 : w3.cell? ⟨gy, 2, none⟩ = some (.slice AF m cF) := hY3.cell 2
        have HB := Lib.hid hB
        by_cases hlt : k < m + 2
        case neg =>
          obtain rfl : k = m + 2 := by omega
          clear hB hX3 hY3 hbd3 hbf3
          go_wp2_with fail
          go_ret
          exact ⟨rfl, HB2.out.trans (HB.out.mono HB2.out.size)⟩
        have g1 : (k : Int) < (m : Int) + 2 := by omega
        have hkb : k < (gs ++ [markF, markF]).length := by rw [List.length_append, HE7.out]; exact hlt
        obtain ⟨u0, -, -, u3⟩ := BlkF.at_ hbf3 k hkb
        by_cases hkm : k < m
        case neg =>
          have g2 : (m : Int) ≤ (k : Int) := by omega
          have hmk : (gs ++ [markF, markF])[k] = markF := by
            rw [List.getElem_append_right (by rw [HE7.out]; omega)]
            have h2 : k - gs.length = 0 ∨ k - gs.length = 1 := by rw [HE7.out]; omega
            rcases h2 with h2 | h2 <;> simp only [h2] <;> rfl
          rw [hmk] at u0
          clear hB hX3 hY3 hbd3 hbf3 u3 hmk
          go_wp2_with fail
          exact ⟨⟨k + 1, by omega, by go_num, HB.out⟩, by simp [intOf]; omega⟩
        have g2 : ¬ (m : Int) ≤ (k : Int) := by omega
        have hkg : k < gs.length := by rw [HE7.out]; exact hkm
        obtain ⟨f, hf, bc, ef, hbc, hbase, hne⟩ := (Hrow2.out.keep (fun _ => False) (Only.of_below hB fun _ hk _ => hk) (fun _ _ _ h => h.elim)) k _ (List.getElem?_eq_getElem hkg)
        rw [List.getElem_append_left hkg, ef] at u3
        obtain ⟨b, off, hA, hb, hc⟩ := (Hp.out.below (HB2.out.trans (hB.mono HB2.out.size))).rv.at_ (by rw [funCells_len]; have := HM.out; dsimp only; omega)
        dsimp only at hA
        subst hA
        have hkl : k < fs.length := by have := HM.out; omega
        obtain ⟨-, -, -, p3⟩ := fun_cells hc k hkl
        have hFk : fs[k] = f := by rw [List.getElem?_eq_getElem hkl] at hf; injection hf
        dsimp only at p3
        rw [hFk] at p3
        have hcl : f.code.length ≤ 8796093021952 := (Hp.out.funs f (List.mem_of_getElem? hf)).len
        obtain ⟨fa, fl, fr, FA, fc, fcode⟩ := f
        dsimp only at p3 u3 hcl hbc
        have hbcl := hbc.lt
        have Hbc := Lib.hid hbc
        clear hB hX3 hY3 hbd3 hbf3 hc hf ef hFk hbc u0 hne hbase
        go_wp2_with fail
        go_quiet (fail)
        go_wp2_with fail
        clear x2 y2 p3 u3
        go_loopw [10] (fun i wr => ∃ (j r : Nat), j ≤ 3 ∧ i = .int .i64 ((fcode.length + j : Nat) : Int) ∧ wr = w3.drewN r) (fun i _ => fcode.length + 3 - (intOf i).toNat)
        case atStart => exact ⟨0, _, Nat.zero_le _, by simp, rfl⟩
        case round =>
          rename World => w4
          obtain ⟨j, r, hj, rfl, rfl⟩ := hrel
          by_cases hlj : j < 3
          · have hlk : fcode.length + j < (lentC fcode 3).length := by rw [length_lentC fcode 3 (Nat.le_refl _)]; omega
            obtain ⟨hc0, hc1⟩ := BlkI.at_ Hbc.out (fcode.length + j) hlk
            have hm := lentC_mark fcode j hlj
            rw [List.getElem?_eq_getElem hlk] at hm
            injection hm with hm
            rw [hm] at hc0 hc1
            replace hc0 : w3.cell? ⟨bc, (fcode.length + j) * 2, none⟩ = some (.int .i64 (-9)) := hc0
            replace hc1 : w3.cell? ⟨bc, (fcode.length + j) * 2 + 1, none⟩ = some (.int .i64 0) := hc1
            clear hm
            go_wp2_with fail
            exact ⟨⟨j + 1, _, by omega, by go_num, rfl⟩, by simp [intOf]; omega⟩
          · obtain rfl : j = 3 := by omega
            go_wp2_with fail
            exact ⟨⟨k + 1, by omega, by go_num, below_drewN HB.out _⟩, by simp [intOf]; omega⟩
end Go.Proofs.Ytadnjfoinmeloaa
