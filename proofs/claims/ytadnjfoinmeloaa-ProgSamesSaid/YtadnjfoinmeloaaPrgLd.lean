/- The law's lend of a program. -/
import Derived.Test.YtadnjfoinmeloaaPrgLl
namespace Go.Proofs.Ytadnjfoinmeloaa
open Go.RowKit

def LendPPost (w : World) (p : PrgM) (e : Ending) (w' : World) : Prop := ∃ q gd gf, e = .returned q.val ∧ LentAt w' w.heap.size p q gd gf ∧ Below w.heap.size w w'
set_option maxRecDepth 100000 in
set_option maxHeartbeats 4000000 in
theorem lendPrg_any (p : PrgM) (w : World) (hp : PrgAt w p) : Calls Try.prog 12 #[p.val] w (LendPPost w p) := by
  obtain ⟨mem, AD, cD, data, AF, cF, fs⟩ := p
  have Hp := Lib.hid hp
  have hdl : data.length ≤ 140737488351232 := hp.dlen
  have hfl : fs.length ≤ 2932031007402 := hp.flen
  clear hp
  obtain ⟨n, hn⟩ : ∃ n, n = data.length := ⟨_, rfl⟩
  obtain ⟨m, hm⟩ : ∃ m, m = fs.length := ⟨_, rfl⟩
  have hsl : ∀ w' g, (Instr.slice 22 (.slice (some ⟨g, 0, none⟩) (n + 5) (n + 5)) none (some (.int .i64 (n : Int))) none).run Try.prog w' = .ok (.slice (some ⟨g, 0, none⟩) n (n + 5)) w' := fun w' g => by
    rw [run_slice_h w' _ _ _ _ sliceB _ _ (by omega) (by omega), sizeB w', Result.andThen_ok]
    unfold sliced
    rw [Int.toNat_natCast]
    simp [Addr.add]
  go_enter Try.func12, Try.ntmps12
  go_wp2_with (refine wpList_at 14 rfl ?_; refine wp_stop ?_)
  refine ⟨?_⟩
  obtain ⟨w1, hw1⟩ : ∃ w1, w1 = ((w.alloc (.cells #[.int .i64 mem, .slice AD data.length cD, .slice AF fs.length cF] 25)).alloc (.cells #[.int .i64 0, .slice none 0 0, .slice none 0 0] 25)).alloc (.cells #[.int .i64 mem, .slice none 0 0, .slice none 0 0] 25) := ⟨_, rfl⟩
  rw [← hw1]
  have hb1 : Below w.heap.size w w1 := by rw [hw1]; exact (((Below.refl _ _).alloc (Nat.le_refl _) _).alloc (by simp) _).alloc (by simp; omega) _
  have hz1 : w1.heap.size = w.heap.size + 3 := by rw [hw1]; simp
  have hX1 : Blk w1 w.heap.size 25 #[.int .i64 mem, .slice AD data.length cD, .slice AF fs.length cF] := by rw [hw1]; exact ((Blk.new w _ _).alloc _).alloc _
  have hR1 : Blk w1 (w.heap.size + 1) 25 #[.int .i64 0, .slice none 0 0, .slice none 0 0] := by
    rw [hw1]
    have h := Blk.new (w.alloc (.cells #[.int .i64 mem, .slice AD data.length cD, .slice AF fs.length cF] 25)) 25 #[.int .i64 0, .slice none 0 0, .slice none 0 0]
    rw [World.size_alloc] at h
    exact h.alloc _
  have hQ1 : Blk w1 (w.heap.size + 1 + 1) 25 #[.int .i64 mem, .slice none 0 0, .slice none 0 0] := by
    rw [hw1]
    have h := Blk.new ((w.alloc (.cells #[.int .i64 mem, .slice AD data.length cD, .slice AF fs.length cF] 25)).alloc (.cells #[.int .i64 0, .slice none 0 0, .slice none 0 0] 25)) 25 #[.int .i64 mem, .slice none 0 0, .slice none 0 0]
    rw [World.size_alloc, World.size_alloc] at h
    exact h
  rw [← hn, ← hm] at hX1
  obtain ⟨gr, hgr⟩ : ∃ g, g = w.heap.size + 1 := ⟨_, rfl⟩
  obtain ⟨gq, hgq⟩ : ∃ g, g = w.heap.size + 1 + 1 := ⟨_, rfl⟩
  obtain ⟨gx, hgx⟩ : ∃ g, g = w.heap.size := ⟨_, rfl⟩
  rw [← hgq] at hQ1 ⊢
  rw [← hgr] at hR1 ⊢
  rw [← hgx] at hX1 ⊢
  have HG : Hid (gx = w.heap.size ∧ gr = w.heap.size + 1 ∧ gq = w.heap.size + 1 + 1 ∧ w1.heap.size = w.heap.size + 3) := Lib.hid ⟨hgx, hgr, hgq, hz1⟩
  have hxr : gx < gr := by omega
  have hrq : gr < gq := by omega
  have hq1 : gq < w1.heap.size := by omega
  have Hb1 := Lib.hid hb1
  have HX1 := Lib.hid hX1
  have HR1 := Lib.hid hR1
  have HQ1 := Lib.hid hQ1
  have HN := Lib.hid hn
  have HM := Lib.hid hm
  have hdn : n ≤ 140737488351232 := by omega
  have hfm : m ≤ 2932031007402 := by omega
  have x1 : w1.cell? ⟨gx, 1, none⟩ = some (.slice AD n cD) := hX1.cell 1
  clear hw1 hb1 hX1 hR1 hQ1 hn hm hgx hgr hgq hz1 hdl hfl
  go_wp2_with (refine wpList_at 18 rfl ?_; refine wp_stop ?_)
  refine ⟨?_⟩
  refine wpList_make1 rfl (.tmp 17) (.tmp 17) rfl Try.underlying22 byte_info rfl .i64 .i64 (n + 5) (n + 5) rfl rfl (by omega) (by omega) (by unfold maxLen; omega) ?_
  intro w2 hblk2 hb2 hz2
  obtain ⟨gd, hgd⟩ : ∃ g, g = w1.heap.size := ⟨_, rfl⟩
  rw [← hgd] at hblk2 ⊢
  have hqd : gq < gd := by omega
  have hd2 : gd < w2.heap.size := by omega
  have Hb2 := Lib.hid hb2
  have Hgd := Lib.hid (show gd = w1.heap.size ∧ w2.heap.size = w1.heap.size + 1 from ⟨hgd, hz2⟩)
  have Hblk2 := Lib.hid hblk2
  have y1 : w2.cell? ⟨gx, 1, none⟩ = some (.slice AD n cD) := (HX1.out.below hb2 (by omega)).cell 1
  clear hb2 hz2 hblk2 hgd x1
  go_wp2_with (refine wpList_at 22 rfl ?_; refine wp_stop ?_)
  refine ⟨?_⟩
  refine wpList_copy1 rfl (.tmp 19) (.tmp 21) rfl Try.underlying22 byte_size (g := gd) (off := 0) (dLen := n + 5) (dCap := n + 5) (A := AD) (n := n) (sLen := n) (sCap := cD) rfl rfl (cur := List.replicate (n + 5) (.int .u8 0)) Hblk2.out (us := data.map bv) (((Hp.out.data.rv.below Hb1.out)).below Hb2.out) ?_ ?_ ?_ ?_ (map_bv_one _) ?_
  · rw [List.length_map]; exact HN.out.symm
  · exact (Nat.min_eq_left (by omega)).symm
  · rw [List.length_map]; have := HN.out; omega
  · rw [List.length_replicate]; omega
  intro w3 hblk3 ho3
  have e3 : splice (List.replicate (n + 5) (Value.int .u8 0)) 0 (data.map bv) = (lendPL data n).map bv := by
    unfold splice lendPL
    rw [List.take_zero, List.nil_append, List.length_map, ← HN.out, List.drop_replicate, Nat.zero_add, Nat.sub_self, List.replicate_zero, List.nil_append, List.map_append, List.map_replicate]
    rfl
  rw [e3] at hblk3
  have y3 : w3.cell? ⟨gx, 1, none⟩ = some (.slice AD n cD) := (((HX1.out.below Hb2.out (by omega)).only ho3 (by omega)).cell 1)
  have hz3 := ho3.size
  have H3 := Lib.hid hblk3
  have HO3 := Lib.hid ho3
  clear e3 hblk3 ho3 y1
  go_wp2_with fail
  clear y3
  go_loopw [5] (fun v wr => ∃ k : Nat, n ≤ k ∧ k ≤ n + 5 ∧ v = .int .i64 k ∧ Blk wr gd 5 ((lendPL data k).map bv).toArray ∧ Only (fun b => b = gd) w2 wr) (fun v _ => n + 5 - (intOf v).toNat)
  case atStart => exact ⟨n, Nat.le_refl _, by omega, rfl, H3.out, HO3.out⟩
  case round =>
    obtain ⟨k, hk1, hk2, rfl, hblk, hO⟩ := hrel
    by_cases hlt : k < n + 5
    · have g1 : (k : Int) < (n : Int) + 5 := by omega
      have hf := hblk.frozen k
      obtain ⟨v, hcv⟩ := hblk.some (i := k) (by rw [List.length_map, length_lendP _ _ (by rw [← HN.out]; exact hk1) (by rw [← HN.out]; exact hk2), ← HN.out]; exact hlt)
      have hgl := hblk.lt
      have Hblk := Lib.hid hblk
      have HO := Lib.hid hO
      clear hblk hO
      go_wp2_with fail
      refine ⟨⟨k + 1, by omega, by omega, by go_num, ?_, HO.out.setCell (p := ⟨gd, k, none⟩) (.inl rfl) _⟩, by simp [intOf]; omega⟩
      have h := Hblk.out.setL k (bv 0xC9)
      rw [← List.map_set, lend_setP _ _ (by rw [← HN.out]; exact hk1) (by rw [← HN.out]; exact hlt)] at h
      exact h
    · obtain rfl : k = n + 5 := by omega
      rename World => w4
      have e := lend_doneP data
      rw [← HN.out] at e
      rw [e] at hblk
      have hX4 := (HX1.out.below Hb2.out (by omega)).only hO (by omega)
      have hR4 := (HR1.out.below Hb2.out (by omega)).only hO (by omega)
      have hQ4 := (HQ1.out.below Hb2.out (by omega)).only hO (by omega)
      have hB4 : Below w.heap.size w w4 := Hb1.out.trans (((Hb2.out.trans (hO.below Hb2.out.size (by have := Hgd.out; intro k hk; omega))).mono Hb1.out.size))
      have x1 : w4.cell? ⟨gx, 1, none⟩ = some (.slice AD n cD) := hX4.cell 1
      have x2 : w4.cell? ⟨gx, 2, none⟩ = some (.slice AF m cF) := hX4.cell 2
      have q1 : w4.cell? ⟨gq, 1, none⟩ = some (.slice none 0 0) := hQ4.cell 1
      have qf : w4.frozen? ⟨gq, 1, none⟩ = false := hQ4.frozen 1
      have hd4 := hblk.lt
      have hz4 : w2.heap.size ≤ w4.heap.size := hO.size
      have HX4 := Lib.hid hX4
      have HR4 := Lib.hid hR4
      have HQ4 := Lib.hid hQ4
      have HB4 := Lib.hid hB4
      have HD4 := Lib.hid hblk
      clear hblk hO e hX4 hR4 hQ4 hB4 HX1 HR1 HQ1 H3 HO3 hz3 Hblk2 Hb1
      go_wp2_with (refine wpList_at 41 rfl ?_; refine wp_stop ?_)
      refine ⟨?_⟩
      obtain ⟨w5, hw5⟩ : ∃ w5, w5 = w4.setCell ⟨gq, 1, none⟩ (.slice (some ⟨gd, 0, none⟩) n (n + 5)) := ⟨_, rfl⟩
      rw [← hw5]
      have hz5 : w5.heap.size = w4.heap.size := by rw [hw5]; simp
      have hX5 : Blk w5 gx 25 #[.int .i64 mem, .slice AD n cD, .slice AF m cF] := by rw [hw5]; exact HX4.out.far (by show gx ≠ gq; omega) _
      have hR5 : Blk w5 gr 25 #[.int .i64 0, .slice none 0 0, .slice none 0 0] := by rw [hw5]; exact HR4.out.far (by show gr ≠ gq; omega) _
      have hQ5 : Blk w5 gq 25 #[.int .i64 mem, .slice (some ⟨gd, 0, none⟩) n (n + 5), .slice none 0 0] := by rw [hw5]; exact HQ4.out.set_ 1 _
      have hD5 : Blk w5 gd 5 ((lentP data).map bv).toArray := by rw [hw5]; exact HD4.out.far (by show gd ≠ gq; omega) _
      have hB5 : Below w.heap.size w w5 := by rw [hw5]; exact HB4.out.setCell (by have := HG.out; show _ ≤ gq; omega) _
      have x52 : w5.cell? ⟨gx, 2, none⟩ = some (.slice AF m cF) := hX5.cell 2
      clear hw5 x1 x2 q1 qf HX4 HR4 HQ4 HB4 HD4 hlt hk1 hk2
      have HX5 := Lib.hid hX5
      have HR5 := Lib.hid hR5
      have HQ5 := Lib.hid hQ5
      have HD5 := Lib.hid hD5
      have HB5 := Lib.hid hB5
      have hd5 : gd < w5.heap.size := hD5.lt
      have hxl5 := hX5.lt
      clear hX5 hR5 hQ5 hD5 hB5 hz5
      go_wp2_with (refine wpList_at 45 rfl ?_; refine wp_stop ?_)
      refine ⟨?_⟩
      refine wpList_makeF rfl (.tmp 44) (.tmp 44) rfl (m + 2) (m + 2) rfl rfl (by omega) (by omega) ?_
      intro w6 hblk6 hb6 hz6
      obtain ⟨gf, hgf⟩ : ∃ g, g = w5.heap.size := ⟨_, rfl⟩
      rw [← hgf] at hblk6 ⊢
      have hdf : gd < gf := by omega
      have HF := Lib.hid (show gf = w5.heap.size ∧ w6.heap.size = w5.heap.size + 1 from ⟨hgf, hz6⟩)
      have hX6 := HX5.out.below hb6 (by omega)
      have HX6 := Lib.hid hX6
      have HR6 := Lib.hid (HR5.out.below hb6 (by omega))
      have HQ6 := Lib.hid (HQ5.out.below hb6 (by omega))
      have HD6 := Lib.hid (HD5.out.below hb6 (by omega))
      have HB6 := Lib.hid (HB5.out.trans (hb6.mono HB5.out.size))
      have Hblk6 := Lib.hid hblk6
      have hf6 : gf < w6.heap.size := by omega
      have y2 : w6.cell? ⟨gx, 2, none⟩ = some (.slice AF m cF) := hX6.cell 2
      clear hb6 hz6 hblk6 hgf hX6 x52 HX5 HR5 HQ5 HB5 HD5
      go_wp2_with fail
      clear y2
      go_loopw [7] (fun v wr => ∃ (k : Nat) (hs : List FunM), k ≤ m ∧ v = .int .i64 k ∧ Hid (hs.length = k) ∧ BlkF wr gf (hs ++ List.replicate (m + 2 - k) zeroF) ∧ LentR wr w6.heap.size gf fs hs ∧ Only (fun b => b = gf) w6 wr) (fun v _ => m - (intOf v).toNat)
      case atStart =>
        exact ⟨0, [], Nat.zero_le _, rfl, Lib.hid rfl, Hblk6.out, (fun j g h => by cases h), Only.refl _ _⟩
      case round =>
        rename World => w7
        obtain ⟨k, hs, hk, rfl, hsl7, hblk, hrow, hO⟩ := hrel
        have hX7 := HX6.out.only hO (by omega)
        have HX7 := Lib.hid hX7
        have HR7 := Lib.hid (HR6.out.only hO (by omega))
        have HQ7 := Lib.hid (HQ6.out.only hO (by omega))
        have HD7 := Lib.hid (HD6.out.only hO (by omega))
        have HB7 := Lib.hid (HB6.out.trans ((hO.below (B := w.heap.size) HB6.out.size (by have := HG.out; intro k hk; omega)).mono (Nat.le_refl _)))
        have x2 : w7.cell? ⟨gx, 2, none⟩ = some (.slice AF m cF) := hX7.cell 2
        have hxl7 := hX7.lt
        have hfl7 := hblk.lt
        by_cases hlt : k < m
        · have g1 : (k : Int) < (m : Int) := by omega
          obtain ⟨b, off, hA, hb, hc⟩ := (Hp.out.below HB7.out).rv.at_ (by rw [funCells_len]; have := HM.out; dsimp only; omega)
          dsimp only at hA
          subst hA
          have hkl : k < fs.length := by have := HM.out; omega
          obtain ⟨p0, p1, p2, p3⟩ := fun_cells hc k hkl
          have hFk : fs[k]? = some fs[k] := List.getElem?_eq_getElem hkl
          have hF := Hp.out.funs _ (List.getElem_mem hkl)
          have hbw : b < w.heap.size := by
            obtain ⟨b', off', e, hb', -⟩ := Hp.out.rv.at_ (by rw [funCells_len]; have := HM.out; dsimp only; omega)
            injection e with e
            injection e with e1 e2
            rw [e1]; exact hb'
          have hkb : k < (hs ++ List.replicate (m + 2 - k) zeroF).length := by rw [List.length_append, List.length_replicate]; have := hsl7.out; omega
          obtain ⟨u0, u1, u2, u3⟩ := BlkF.at_ hblk k hkb
          have f0 := hblk.frozen (k * 4)
          have f1 := hblk.frozen (k * 4 + 1)
          have f2 := hblk.frozen (k * 4 + 2)
          have f3 := hblk.frozen (k * 4 + 3)
          have Hput := Lib.hid (BlkF.put hblk k hkb fs[k])
          dsimp only at p0 p1 p2 p3 hF
          generalize (hs ++ List.replicate (m + 2 - k) zeroF)[k] = z at *
          have HFk := Lib.hid hFk
          generalize fs[k] = f at *
          obtain ⟨fa, fl, fr, FA, fc, fcode⟩ := f
          dsimp only at p0 p1 p2 p3
          have hcl : fcode.length ≤ 8796093021952 := hF.len
          have Hf := Lib.hid hF
          have Hrow := Lib.hid hrow
          have HO := Lib.hid hO
          have HBlk := Lib.hid hblk
          clear hc hFk hF hrow hO hblk hX7
          go_wp2_with (refine wpList_at 61 rfl ?_; refine wp_stop ?_)
          refine ⟨?_⟩
          obtain ⟨w8, hw8⟩ : ∃ w8, w8 = (((w7.setCell ⟨gf, k * 4, none⟩ (.int .i64 fa)).setCell ⟨gf, k * 4 + 1, none⟩ (.int .i64 fl)).setCell ⟨gf, k * 4 + 2, none⟩ (.int .i64 fr)).setCell ⟨gf, k * 4 + 3, none⟩ (.slice FA fcode.length fc) := ⟨_, rfl⟩
          rw [← hw8]
          have hO8 : Only (fun b => b = gf) w7 w8 := by rw [hw8]; exact only_put4 w7 gf k _ _ _ _
          have Hb8 : Hid (BlkF w8 gf ((hs ++ List.replicate (m + 2 - k) zeroF).set k ⟨fa, fl, fr, FA, fc, fcode⟩)) := by rw [hw8]; exact Hput
          have hz8 : w8.heap.size = w7.heap.size := by rw [hw8]; simp
          have hX8 := HX7.out.only hO8 (by omega)
          have HX8 := Lib.hid hX8
          have y2 : w8.cell? ⟨gx, 2, none⟩ = some (.slice (some ⟨b, off, none⟩) m cF) := hX8.cell 2
          have y3 : w8.cell? ⟨b, off + k * 4 + 3, none⟩ = some (.slice FA fcode.length fc) := by rw [hO8.cell hb (by have := HG.out; show ¬ b = gf; omega)]; exact p3
          have HB8 := Lib.hid (HB7.out.trans ((hO8.below (B := w.heap.size) HB7.out.size (by have := HG.out; intro k hk; omega)).mono (Nat.le_refl _)))
          have Hcode := Lib.hid ((Hf.out.below HB8.out).rv)
          dsimp only at Hcode
          have HO8 := Lib.hid hO8
          have HY3 := Lib.hid y3
          have hl8 : gx < w8.heap.size ∧ b < w8.heap.size ∧ gf < w8.heap.size := ⟨by omega, by omega, by omega⟩
          obtain ⟨hl81, hl82, hl83⟩ := hl8
          clear hw8 Hput p0 p1 p2 p3 x2 f0 f1 f2 f3 hO8 hX8 hz8
          go_wp2_with (refine wpList_at 69 rfl ?_; refine wp_stop ?_)
          refine ⟨?_⟩
          refine wpList_makeN rfl (.tmp 68) (.tmp 68) (v := .int .i64 0) rfl Try.underlying48 ins_info (by decide) (by intro k hk; match k, hk with | 0, _ => rfl | 1, _ => rfl) .i64 .i64 _ (fcode.length + 3) rfl rfl (by simp) (by omega) (by unfold maxLen; omega) ?_
          intro w9 hblk9 hb9 hz9
          obtain ⟨gc, hgc⟩ : ∃ g, g = w8.heap.size := ⟨_, rfl⟩
          rw [← hgc] at hblk9 ⊢
          have HC := Lib.hid (show gc = w8.heap.size ∧ w9.heap.size = w8.heap.size + 1 from ⟨hgc, hz9⟩)
          obtain ⟨e91, e92⟩ := bcell hb9
          have x92 : w9.cell? ⟨gx, 2, none⟩ = some (.slice (some ⟨b, off, none⟩) m cF) := by rw [e91 _ _ hl81]; exact y2
          have x93 : w9.cell? ⟨b, off + k * 4 + 3, none⟩ = some (.slice FA fcode.length fc) := by rw [e91 _ _ hl82]; exact y3
          have hl91 : gx < w9.heap.size := by omega
          have hl92 : b < w9.heap.size := by omega
          have hl93 : gc < w9.heap.size := by omega
          have Hblk9 := Lib.hid hblk9
          have Hb9 := Lib.hid hb9
          clear e91 e92 y2 y3 hblk9 hb9 hz9 hgc
          go_wp2_with (refine wpList_at 77 rfl ?_; refine wp_stop ?_)
          refine ⟨?_⟩
          refine wpList_copyN rfl (.tmp 70) (.tmp 76) rfl Try.underlying48 ins_size (by decide) (g := gc) (off := 0) (n := fcode.length) rfl rfl Hblk9.out (Hcode.out.below Hb9.out) (insCells_len fcode) (by simp) (by rw [insCells_len, List.length_replicate]; omega) (ins_one fcode) ?_
          intro w10 hblk10 ho10 hz10
          rw [splice_zerosC] at hblk10
          have x102 : w10.cell? ⟨gx, 2, none⟩ = some (.slice (some ⟨b, off, none⟩) m cF) := by rw [ho10.cell hl91 (by have := HC.out; show ¬ gx = gc; omega)]; exact x92
          have x103 : w10.cell? ⟨b, off + k * 4 + 3, none⟩ = some (.slice FA fcode.length fc) := by rw [ho10.cell hl92 (by have := HC.out; show ¬ b = gc; omega)]; exact x93
          have hl101 : gx < w10.heap.size := by omega
          have hl102 : b < w10.heap.size := by omega
          have H10 := Lib.hid hblk10
          have HO10 := Lib.hid ho10
          have HZ10 := Lib.hid hz10
          clear hblk10 ho10 x92 x93 hz10
          go_wp2_with fail
          clear x102 x103
          go_loopw [9] (fun v wr => ∃ j : Nat, j ≤ 3 ∧ v = .int .i64 ((fcode.length + j : Nat) : Int) ∧ BlkI wr gc (lentC fcode j) ∧ Only (fun b => b = gc) w9 wr) (fun v _ => fcode.length + 3 - (intOf v).toNat)
          case atStart => exact ⟨0, Nat.zero_le _, by simp, H10.out, HO10.out⟩
          case round =>
            rename World => w11
            obtain ⟨j, hj, rfl, hbj, hOj⟩ := hrel
            by_cases hlj : j < 3
            · have hlk : fcode.length + j < (lentC fcode j).length := by rw [length_lentC fcode j hj]; omega
              obtain ⟨hc0, hc1⟩ := BlkI.at_ hbj (fcode.length + j) hlk
              have hf0 := hbj.frozen ((fcode.length + j) * 2)
              have hf1 := hbj.frozen ((fcode.length + j) * 2 + 1)
              have hb2 := BlkI.put hbj (fcode.length + j) hlk ⟨-9, 0⟩
              rw [set_lentC fcode j hlj] at hb2
              have Hb2 := Lib.hid hb2
              have hgl := hbj.lt
              have HOj := Lib.hid hOj
              generalize (lentC fcode j)[fcode.length + j] = y at *
              clear hb2 hbj hOj
              go_wp2_with fail
              exact ⟨⟨j + 1, by omega, by go_num, Hb2.out, (HOj.out.setCell (p := ⟨gc, (fcode.length + j) * 2, none⟩) (.inl rfl) _).setCell (p := ⟨gc, (fcode.length + j) * 2 + 1, none⟩) (.inl rfl) _⟩, by simp [intOf]; omega⟩
            · obtain rfl : j = 3 := by omega
              have hO89 : Only (fun b => b = gc) w8 w11 := (Only.of_fresh Hb9.out).trans hOj
              have hX11 := HX8.out.only hO89 (by have := HC.out; omega)
              have x2 : w11.cell? ⟨gx, 2, none⟩ = some (.slice (some ⟨b, off, none⟩) m cF) := hX11.cell 2
              have hl11 : gx < w11.heap.size := hX11.lt
              have hb11 : b < w11.heap.size := by have := hOj.size; omega
              have p3 : w11.cell? ⟨b, off + k * 4 + 3, none⟩ = some (.slice FA fcode.length fc) := by rw [hO89.cell hl82 (by have := HC.out; show ¬ b = gc; omega)]; exact HY3.out
              have hbf : BlkF w11 gf ((hs ++ List.replicate (m + 2 - k) zeroF).set k ⟨fa, fl, fr, FA, fc, fcode⟩) := Hb8.out.only hO89 (by have := HC.out; omega)
              have hget : ((hs ++ List.replicate (m + 2 - k) zeroF).set k ⟨fa, fl, fr, FA, fc, fcode⟩)[k]? = some ⟨fa, fl, fr, FA, fc, fcode⟩ := List.getElem?_set_self hkb
              have hput := BlkF.put3 hbf k _ hget (some ⟨gc, 0, none⟩) (fcode.length + 3) fcode
              have u3 : w11.cell? ⟨gf, k * 4 + 3, none⟩ = some (.slice FA fcode.length fc) := by
                obtain ⟨e1, e2⟩ := List.getElem?_eq_some_iff.1 hget
                have h := (BlkF.at_ hbf k e1).2.2.2
                rw [e2] at h
                exact h
              have f3 := hbf.frozen (k * 4 + 3)
              have hf11 : gf < w11.heap.size := hbf.lt
              obtain ⟨r, hr⟩ : ∃ r, m + 2 - k = r + 1 := ⟨m + 1 - k, by omega⟩
              dsimp only at hput
              rw [hr, set_lentRow hs r _ _ k hsl7.out] at hput
              have Hput := Lib.hid hput
              have hr2 : Hid (m + 2 - (k + 1) = r) := Lib.hid (by omega)
              have HOj := Lib.hid hOj
              have HO89 := Lib.hid hO89
              have Hbj := Lib.hid hbj
              clear hput hget hbf hO89 hX11 hOj hbj hr
              go_wp2_with fail
              refine ⟨⟨k + 1, hs ++ [⟨fa, fl, fr, some ⟨gc, 0, none⟩, fcode.length + 3, fcode⟩], by omega, by go_num, Lib.hid (by rw [List.length_append, List.length_singleton, hsl7.out]), ?_, ?_, ?_⟩, by simp [intOf]; omega⟩
              · rw [hr2.out, List.append_assoc]
                exact Hput.out
              · have hS : Only (fun b => b = gf) w11 (w11.setCell ⟨gf, k * 4 + 3, none⟩ (.slice (some ⟨gc, 0, none⟩) fcode.length (fcode.length + 3))) := (Only.refl (fun b => b = gf) w11).setCell (p := ⟨gf, k * 4 + 3, none⟩) (.inl rfl) _
                have h1 := Hrow.out.keep _ HO8.out (fun b _ _ h => h)
                have h2 := h1.keep _ HO89.out (fun b _ hlt h => by have := HC.out; omega)
                have h3 := h2.keep _ hS (fun b _ _ h => h)
                refine h3.push (f := ⟨fa, fl, fr, FA, fc, fcode⟩) (by rw [hsl7.out]; exact HFk.out) ⟨gc, rfl, Hbj.out.only hS (by have := HC.out; omega), by have := HC.out; have := HO.out.size; have := HO8.out.size; omega, by have := HC.out; omega⟩
              · have h1 := HO.out.trans HO8.out
                have h2 := Only.more h1 HO89.out (fun b hlt h => by have := HC.out; have := h1.size; omega)
                exact h2.setCell (p := ⟨gf, k * 4 + 3, none⟩) (.inl rfl) _
        · obtain rfl : k = m := by omega
          have hblk0 : BlkF w7 gf (hs ++ (List.replicate 0 markF ++ List.replicate (2 - 0) zeroF)) := by
            rw [show k + 2 - k = 2 from by omega] at hblk
            exact hblk
          have Hblk0 := Lib.hid hblk0
          have Hrow := Lib.hid hrow
          have HOw := Lib.hid hO
          clear hblk hblk0 hrow hO
          go_wp2_with fail
          clear x2
          go_loopw [10] (fun v wr => ∃ j : Nat, j ≤ 2 ∧ v = .int .i64 ((k + j : Nat) : Int) ∧ BlkF wr gf (hs ++ (List.replicate j markF ++ List.replicate (2 - j) zeroF)) ∧ Only (fun b => b = gf) w7 wr) (fun v _ => k + 2 - (intOf v).toNat)
          case atStart => exact ⟨0, Nat.zero_le _, by simp, Hblk0.out, Only.refl _ _⟩
          case round =>
            rename World => w8
            obtain ⟨j, hj, rfl, hbj, hOj⟩ := hrel
            by_cases hlj : j < 2
            · have hkb : k + j < (hs ++ (List.replicate j markF ++ List.replicate (2 - j) zeroF)).length := by
                rw [List.length_append, List.length_append, List.length_replicate, List.length_replicate, hsl7.out]; omega
              obtain ⟨u0, u1, u2, u3⟩ := BlkF.at_ hbj (k + j) hkb
              have f0 := hbj.frozen ((k + j) * 4)
              have f1 := hbj.frozen ((k + j) * 4 + 1)
              have f2 := hbj.frozen ((k + j) * 4 + 2)
              have f3 := hbj.frozen ((k + j) * 4 + 3)
              have hput := BlkF.put hbj (k + j) hkb markF
              have e := set_markRow hs j hlj
              rw [hsl7.out] at e
              rw [e] at hput
              have Hput := Lib.hid hput
              have hgl := hbj.lt
              have HOj := Lib.hid (hOj.trans (only_put4 w8 gf (k + j) (.int .i64 (-9)) (.int .i64 0) (.int .i64 0) (.slice none 0 0)))
              generalize (hs ++ (List.replicate j markF ++ List.replicate (2 - j) zeroF))[k + j] = z at *
              clear hput hbj hOj e
              go_wp2_with fail
              exact ⟨⟨j + 1, by omega, by go_num, Hput.out, HOj.out⟩, by simp [intOf]; omega⟩
            · obtain rfl : j = 2 := by omega
              have hX8 := HX7.out.only hOj (by omega)
              have hR8 := HR7.out.only hOj (by omega)
              have hQ8 := HQ7.out.only hOj (by omega)
              have HD8 := Lib.hid (HD7.out.only hOj (by omega))
              have HB8 := Lib.hid (HB7.out.trans ((hOj.below (B := w.heap.size) HB7.out.size (by have := HG.out; intro k hk; omega)).mono (Nat.le_refl _)))
              have HRow := Lib.hid (Hrow.out.keep _ hOj (fun b _ _ h => h))
              have x2 : w8.cell? ⟨gx, 2, none⟩ = some (.slice AF k cF) := hX8.cell 2
              have q0 : w8.cell? ⟨gq, 0, none⟩ = some (.int .i64 mem) := hQ8.cell 0
              have q1 : w8.cell? ⟨gq, 1, none⟩ = some (.slice (some ⟨gd, 0, none⟩) n (n + 5)) := hQ8.cell 1
              have q2 : w8.cell? ⟨gq, 2, none⟩ = some (.slice none 0 0) := hQ8.cell 2
              have r0 : w8.cell? ⟨gr, 0, none⟩ = some (.int .i64 0) := hR8.cell 0
              have r1 : w8.cell? ⟨gr, 1, none⟩ = some (.slice none 0 0) := hR8.cell 1
              have r2 : w8.cell? ⟨gr, 2, none⟩ = some (.slice none 0 0) := hR8.cell 2
              have qf := hQ8.frozen 2
              have rf0 := hR8.frozen 0
              have rf1 := hR8.frozen 1
              have rf2 := hR8.frozen 2
              have hxl := hX8.lt
              have hrl := hR8.lt
              have hql := hQ8.lt
              have Hbj := Lib.hid hbj
              have HOj := Lib.hid hOj
              have HR8 := Lib.hid hR8
              clear hX8 hR8 hQ8 hbj hOj hxl7 hfl7
              go_wp2_with fail
              obtain ⟨wF, hwF⟩ : ∃ wF, wF = ((((w8.setCell ⟨gq, 2, none⟩ (.slice (some ⟨gf, 0, none⟩) k (k + 2))).setCell ⟨gr, 0, none⟩ (.int .i64 mem)).setCell ⟨gr, 1, none⟩ (.slice (some ⟨gd, 0, none⟩) n (n + 5))).setCell ⟨gr, 2, none⟩ (.slice (some ⟨gf, 0, none⟩) k (k + 2))) := ⟨_, rfl⟩
              rw [← hwF]
              have hO : Only (fun b => b = gq ∨ b = gr) w8 wF := by
                rw [hwF]
                exact ((((Only.refl (fun b => b = gq ∨ b = gr) w8).setCell (p := ⟨gq, 2, none⟩) (.inl (.inl rfl)) _).setCell (p := ⟨gr, 0, none⟩) (.inl (.inr rfl)) _).setCell (p := ⟨gr, 1, none⟩) (.inl (.inr rfl)) _).setCell (p := ⟨gr, 2, none⟩) (.inl (.inr rfl)) _
              have hR : Blk wF gr 25 #[.int .i64 mem, .slice (some ⟨gd, 0, none⟩) n (n + 5), .slice (some ⟨gf, 0, none⟩) k (k + 2)] := by
                rw [hwF]
                exact (((HR8.out.far (by show gr ≠ gq; omega) _).set_ 0 _).set_ 1 _).set_ 2 _
              have hrl := hR.lt
              have c0 : wF.cell? ⟨gr, 0, none⟩ = some (.int .i64 mem) := hR.cell 0
              have c1 : wF.cell? ⟨gr, 1, none⟩ = some (.slice (some ⟨gd, 0, none⟩) n (n + 5)) := hR.cell 1
              have c2 : wF.cell? ⟨gr, 2, none⟩ = some (.slice (some ⟨gf, 0, none⟩) k (k + 2)) := hR.cell 2
              have hG := HG.out
              refine bodyPost_ret (v := .agg #[.int .i64 mem, .slice (some ⟨gd, 0, none⟩) n (n + 5), .slice (some ⟨gf, 0, none⟩) k (k + 2)]) ?_ rfl
                ⟨⟨mem, some ⟨gd, 0, none⟩, n + 5, data, some ⟨gf, 0, none⟩, k + 2, hs⟩, gd, gf, ?_, ⟨rfl, rfl, rfl, by rw [HN.out], HD8.out.only hO (by omega), rfl, by rw [HM.out], by rw [hsl7.out, HM.out], Hbj.out.only hO (by omega), (HRow.out.keep _ hO (fun b h6 hb h => ?_)).mono (by omega), by omega, by omega⟩, ?_⟩
              · simp [results, Try.results12, go_sem, c0, c1, c2]
              · dsimp only [PrgM.val]
                rw [hsl7.out, ← HN.out]
              · omega
              · exact HB8.out.trans ((hO.below (B := w.heap.size) HB8.out.size (by intro k hk; omega)).mono (Nat.le_refl _))
end Go.Proofs.Ytadnjfoinmeloaa
