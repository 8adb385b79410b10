/- prog's Twin. -/
import Derived.Test.YtadnjfoinmeloaaPrgTl
import Derived.Test.YtadnjfoinmeloaaPrgKn
namespace Go.Proofs.Ytadnjfoinmeloaa
open Go.RowKit

set_option maxRecDepth 100000 in
set_option maxHeartbeats 4000000 in
theorem twin_any (p : PrgM) (w : World) (hp : PrgAt w p) : Calls Try.prog 27 #[p.val] w (TwinPost w p) := by
  obtain ⟨mem, AD, cD, data, AF, cF, fs⟩ := p
  have Hp := Lib.hid hp
  have hdl : data.length ≤ 140737488351232 := hp.dlen
  have hfl : fs.length ≤ 2932031007402 := hp.flen
  clear hp
  obtain ⟨n, hn⟩ : ∃ n, n = data.length := ⟨_, rfl⟩
  obtain ⟨m, hm⟩ : ∃ m, m = fs.length := ⟨_, rfl⟩
  have hpv : (⟨mem, AD, cD, data, AF, cF, fs⟩ : PrgM).val = .agg #[.int .i64 mem, .slice AD n cD, .slice AF m cF] := by dsimp only [PrgM.val]; rw [← hn, ← hm]
  rw [hpv]
  have hdn : n ≤ 140737488351232 := by omega
  have hfm : m ≤ 2932031007402 := by omega
  have HN := Lib.hid hn
  have HM := Lib.hid hm
  clear hn hm hpv hdl hfl
  go_enter Try.func27, Try.ntmps27
  go_wp2_with (refine wpList_at 6 rfl ?_; refine wp_stop ?_)
  refine ⟨?_⟩
  obtain ⟨w1, hw1⟩ : ∃ w1, w1 = (w.alloc (.cells #[.int .i64 mem, .slice AD n cD, .slice AF m cF] 25)).alloc (.cells #[.int .i64 0, .slice none 0 0, .slice none 0 0] 25) := ⟨_, rfl⟩
  rw [← hw1]
  have hb1 : Below w.heap.size w w1 := by rw [hw1]; exact ((Below.refl _ _).alloc (Nat.le_refl _) _).alloc (by simp) _
  have hz1 : w1.heap.size = w.heap.size + 2 := by rw [hw1]; simp
  have hX1 : Blk w1 w.heap.size 25 #[.int .i64 mem, .slice AD n cD, .slice AF m cF] := by rw [hw1]; exact (Blk.new w _ _).alloc _
  have hR1 : Blk w1 (w.heap.size + 1) 25 #[.int .i64 0, .slice none 0 0, .slice none 0 0] := by
    rw [hw1]
    have h := Blk.new (w.alloc (.cells #[.int .i64 mem, .slice AD n cD, .slice AF m cF] 25)) 25 #[.int .i64 0, .slice none 0 0, .slice none 0 0]
    rw [World.size_alloc] at h
    exact h
  obtain ⟨gx, hgx⟩ : ∃ g, g = w.heap.size := ⟨_, rfl⟩
  obtain ⟨gr, hgr⟩ : ∃ g, g = w.heap.size + 1 := ⟨_, rfl⟩
  rw [← hgx] at hX1
  rw [← hgr] at hR1
  rw [← hgr, ← hgx]
  have HG := Lib.hid (show gx = w.heap.size ∧ gr = w.heap.size + 1 ∧ w1.heap.size = w.heap.size + 2 from ⟨hgx, hgr, hz1⟩)
  have hxr : gx < gr := by omega
  have hr1 : gr < w1.heap.size := by omega
  have HX1 := Lib.hid hX1
  have HR1 := Lib.hid hR1
  have Hb1 := Lib.hid hb1
  have hxl1 := hX1.lt
  clear hw1 hb1 hX1 hR1 hgx hgr hz1
  have Hc1 := Lib.hid (cloneB_any AD n cD (data.map bv) w1 ((Hp.out.below Hb1.out).data.rv) (by rw [List.length_map, HN.out, Nat.mul_one]) (map_bv_one _) (by omega) (fun e => by have h := Hp.out.data.nil e; rw [← HN.out] at h; exact h))
  go_wp2_with fail
  refine Hc1.out.mono ?_
  intro e w2 hpost
  obtain ⟨A2, c2, rfl, hown2, hb2⟩ := hpost
  have hX2 := HX1.out.below hb2 hxl1
  have HR2 := Lib.hid (HR1.out.below hb2 hr1)
  have HB2 := Lib.hid (Hb1.out.trans (hb2.mono Hb1.out.size))
  have hz2 := hb2.size
  have x1 : w2.cell? ⟨gx, 1, none⟩ = some (.slice AD n cD) := hX2.cell 1
  have xf1 := hX2.frozen 1
  have x2 : w2.cell? ⟨gx, 2, none⟩ = some (.slice AF m cF) := hX2.cell 2
  have hxl2 := hX2.lt
  have HX2 := Lib.hid hX2
  have Hown2 := Lib.hid hown2
  clear hX2 hown2 hb2 Hc1
  go_wp2_with (refine wpList_at 10 rfl ?_; refine wp_stop ?_)
  refine ⟨?_⟩
  obtain ⟨w3, hw3⟩ : ∃ w3, w3 = w2.setCell ⟨gx, 1, none⟩ (.slice A2 n c2) := ⟨_, rfl⟩
  rw [← hw3]
  have hO3 : Only (fun b => b = gx) w2 w3 := by rw [hw3]; exact (Only.refl (fun b => b = gx) w2).setCell (p := ⟨gx, 1, none⟩) (.inl rfl) _
  have hX3 : Blk w3 gx 25 #[.int .i64 mem, .slice A2 n c2, .slice AF m cF] := by rw [hw3]; exact HX2.out.set_ 1 _
  have HX3 := Lib.hid hX3
  have HR3 := Lib.hid (HR2.out.only hO3 (by omega))
  have HB3 := Lib.hid (HB2.out.trans ((hO3.below (B := w.heap.size) HB2.out.size (by have := HG.out; intro k hk; omega)).mono (Nat.le_refl _)))
  have Hown3 := Lib.hid (Own.only Hown2.out hO3 fun b o e h => by have := (Own.lt Hown2.out b o e).1; omega)
  have hz3 := hO3.size
  have HA2 := Lib.hid (fun b (e : A2.map (·.block) = some b) => (Own.row Hown3.out b e).2)
  have hxl3 := hX3.lt
  clear hw3 hO3 hX3 x1 xf1 x2 HX2 HR2 HB2 Hown2
  have Hc3 := Lib.hid (cloneF_any AF m cF (fs.flatMap funCells) w3 ((Hp.out.below HB3.out).rv) (by rw [funCells_len, HM.out]) (fun_one fs) (by omega) (fun e => by have h := Hp.out.nil e; rw [← HM.out] at h; exact h))
  go_wp2_with fail
  refine Hc3.out.mono ?_
  intro e w4 hpost
  obtain ⟨A4, c4, rfl, hown4, hb4⟩ := hpost
  have hX4 := HX3.out.below hb4 hxl3
  have HR4 := Lib.hid (HR3.out.below hb4 HR3.out.lt)
  have HB4 := Lib.hid (HB3.out.trans (hb4.mono HB3.out.size))
  have Hown4d := Lib.hid (Own.below Hown3.out hb4 (Nat.le_refl _))
  have hz4 := hb4.size
  have x2 : w4.cell? ⟨gx, 2, none⟩ = some (.slice AF m cF) := hX4.cell 2
  have xf2 := hX4.frozen 2
  have hxl4 := hX4.lt
  have HX4 := Lib.hid hX4
  have Hown4 := Lib.hid hown4
  clear hX4 hown4 hb4 Hc3 HX3 HR3 HB3 Hown3
  go_wp2_with (refine wpList_at 13 rfl ?_; refine wp_stop ?_)
  refine ⟨?_⟩
  obtain ⟨w5, hw5⟩ : ∃ w5, w5 = w4.setCell ⟨gx, 2, none⟩ (.slice A4 m c4) := ⟨_, rfl⟩
  rw [← hw5]
  have hO5 : Only (fun b => b = gx) w4 w5 := by rw [hw5]; exact (Only.refl (fun b => b = gx) w4).setCell (p := ⟨gx, 2, none⟩) (.inl rfl) _
  have hX5 : Blk w5 gx 25 #[.int .i64 mem, .slice A2 n c2, .slice A4 m c4] := by rw [hw5]; exact HX4.out.set_ 2 _
  have HX5 := Lib.hid hX5
  have HR5 := Lib.hid (HR4.out.only hO5 (by omega))
  have HB5 := Lib.hid (HB4.out.trans ((hO5.below (B := w.heap.size) HB4.out.size (by have := HG.out; intro k hk; omega)).mono (Nat.le_refl _)))
  have Hown5d := Lib.hid (Own.only Hown4d.out hO5 fun b o e h => by have := (Own.lt Hown4d.out b o e).1; omega)
  have Hown5 := Lib.hid (Own.only Hown4.out hO5 fun b o e h => by have := (Own.lt Hown4.out b o e).1; omega)
  have hz5 := hO5.size
  have hxl5 := hX5.lt
  have x2' : w5.cell? ⟨gx, 2, none⟩ = some (.slice A4 m c4) := hX5.cell 2
  clear hw5 hO5 hX5 x2 xf2 HX4 HR4 HB4 Hown4 Hown4d
  go_wp2_with fail
  clear x2'
  go_loopw [15] (fun v wr => ∃ (k : Nat) (hs : List FunM), k ≤ m ∧ v = .int .i64 k ∧ Hid (hs.length = k ∧ hs.map FunM.plain = (fs.take k).map FunM.plain) ∧ Own wr w3.heap.size 50 4 A4 m c4 ((hs ++ fs.drop k).flatMap funCells) ∧ MineR wr w5.heap.size hs ∧ Only (fun b => A4.map (·.block) = some b) w5 wr) (fun v _ => m - (intOf v).toNat)
  case atStart =>
    exact ⟨0, [], Nat.zero_le _, rfl, Lib.hid ⟨rfl, rfl⟩, Hown5.out, MineR.nil _ _, Only.refl _ _⟩
  case round =>
    rename World => w6
    obtain ⟨k, hs, hk, rfl, hsk, hown, hrow, hO⟩ := hrel
    have hA4 : ∀ b, A4.map (·.block) = some b → w3.heap.size ≤ b ∧ b < w6.heap.size := Own.row hown
    have hxS : ¬ A4.map (·.block) = some gx := fun e => by have := (hA4 _ e).1; omega
    have hrS : ¬ A4.map (·.block) = some gr := fun e => by have := (hA4 _ e).1; omega
    have hX6 := HX5.out.only hO hxS
    have hR6 := HR5.out.only hO hrS
    have hBw6 := HB5.out.trans ((hO.below (B := w.heap.size) HB5.out.size (by have := HG.out; intro k hk e; have := (hA4 _ e).1; omega)).mono (Nat.le_refl _))
    have HBw6 := Lib.hid hBw6
    have x2 : w6.cell? ⟨gx, 2, none⟩ = some (.slice A4 m c4) := hX6.cell 2
    have hxl6 := hX6.lt
    have hz6 := hO.size
    have HX6 := Lib.hid hX6
    have HR6 := Lib.hid hR6
    clear hX6 hR6 hBw6 hrS
    by_cases hlt : k < m
    · have g1 : (k : Int) < (m : Int) := by omega
      obtain ⟨g, rfl, hg3, hg6⟩ := own_some hown (by omega)
      have hkl : k < fs.length := by have := HM.out; omega
      have hg5 := (Own.row Hown5.out g rfl).2
      have hdx : fs.drop k = fs[k] :: fs.drop (k + 1) := List.drop_eq_getElem_cons hkl
      have hget : (hs ++ fs.drop k)[k]? = some fs[k] := by
        rw [List.getElem?_append_right (by rw [hsk.out.1]; exact Nat.le_refl _), hsk.out.1, Nat.sub_self, hdx]
        rfl
      have hklen : k < (hs ++ fs.drop k).length := (List.getElem?_eq_some_iff.1 hget).1
      have hclen : k * 4 + 3 < ((hs ++ fs.drop k).flatMap funCells).length := by rw [funCells_len]; omega
      have hcell : ((hs ++ fs.drop k).flatMap funCells)[k * 4 + 3] = .slice fs[k].A fs[k].code.length fs[k].c := by
        have h := funCells_get (hs ++ fs.drop k) k 3 hklen (by omega)
        rw [List.getElem?_eq_getElem hclen, (List.getElem?_eq_some_iff.1 hget).2] at h
        injection h
      obtain ⟨p3, pf3, -⟩ := own_at hown (k * 4 + 3) hclen
      rw [hcell] at p3
      have hF := Hp.out.funs _ (List.getElem_mem hkl)
      try dsimp only at hF
      have Hset := Lib.hid (fun (A : Option Addr) (c : Nat) (l : List Ins) => funCells_set3 (hs ++ fs.drop k) k fs[k] A c l hget)
      have Htk := Lib.hid (show (fs.take (k + 1)).map FunM.plain = (fs.take k).map FunM.plain ++ [fs[k].plain] from by rw [List.take_succ_eq_append_getElem hkl, List.map_append]; rfl)
      have Hdx := Lib.hid hdx
      generalize fs[k] = f at *
      obtain ⟨fa, fl, fr, FA, fc, fcode⟩ := f
      try dsimp only at p3
      have hcl : fcode.length ≤ 8796093021952 := hF.len
      have Hf := Lib.hid hF
      have Hown6 := Lib.hid hown
      have Hrow6 := Lib.hid hrow
      have HO6 := Lib.hid hO
      clear hF hcell hget hdx hown hrow hO hklen hclen hA4
      go_wp2_with fail
      try simp only [Act.put]
      have Hsx := Lib.hid (fun (w' : World) (h : Below w6.heap.size w6 w') => show w'.cell? ⟨gx, 2, none⟩ = some (.slice (some ⟨g, 0, none⟩) m c4) from by rw [(bcell h).1 _ _ hxl6]; exact x2)
      have Hsp := Lib.hid (fun (w' : World) (h : Below w6.heap.size w6 w') => show w'.cell? ⟨g, k * 4 + 3, none⟩ = some (.slice FA fcode.length fc) from by rw [(bcell h).1 _ _ hg6]; exact p3)
      clear x2 p3
      refine region_heldT 12 (fun w' => Below w6.heap.size w6 w') (by kernel_rfl) (by decide) ?_
      have HSC := Lib.hid (below_drewN (Below.refl w6.heap.size w6) 1)
      refine HeadW.take 0 (v := .pointer (some ⟨gx, 2, none⟩)) rfl (by kernel_rfl) (by kernel_rfl) (by kernel_rfl) (by decide) (by decide) (fun _ _ _ hL => seqB_ready hL.1) (by kernel_rfl) (by kernel_rfl) (fun _ _ _ h => h) HSC.out (.inl ⟨by kernel_rfl, by intro w hSw; (try dsimp only at hSw); go_simp⟩) ?_
      simp only [Act.put, List.setIfInBounds_toArray]
      refine HeadW.take 1 (v := .slice (some ⟨g, 0, none⟩) m c4) rfl (by kernel_rfl) (by kernel_rfl) (by kernel_rfl) (by decide) (by decide) (fun _ _ _ hL => seqB_ready hL.1) (by kernel_rfl) (by kernel_rfl) (fun _ _ _ h => h) HSC.out (.inl ⟨by kernel_rfl, by intro w hSw; have q := Hsx.out w hSw; (try dsimp only at hSw); go_simp⟩) ?_
      simp only [Act.put]
      refine HeadW.take 2 (v := .int .i64 (k : Int)) rfl (by kernel_rfl) (by kernel_rfl) (by kernel_rfl) (by decide) (by decide) (fun _ _ _ hL => seqB_ready hL.1) (by kernel_rfl) (by kernel_rfl) (fun _ _ _ h => h) HSC.out (.inl ⟨by kernel_rfl, by intro w hSw; (try dsimp only at hSw); go_simp⟩) ?_
      simp only [Act.put]
      refine HeadW.take 3 (v := .pointer (some ⟨gx, 2, none⟩)) rfl (by kernel_rfl) (by kernel_rfl) (by kernel_rfl) (by decide) (by decide) (fun _ _ _ hL => seqB_ready hL.1) (by kernel_rfl) (by kernel_rfl) (fun _ _ _ h => h) HSC.out (.inl ⟨by kernel_rfl, by intro w hSw; (try dsimp only at hSw); go_simp⟩) ?_
      simp only [Act.put]
      refine HeadW.take 4 (v := .slice (some ⟨g, 0, none⟩) m c4) rfl (by kernel_rfl) (by kernel_rfl) (by kernel_rfl) (by decide) (by decide) (fun _ _ _ hL => seqB_ready hL.1) (by kernel_rfl) (by kernel_rfl) (fun _ _ _ h => h) HSC.out (.inl ⟨by kernel_rfl, by intro w hSw; have q := Hsx.out w hSw; (try dsimp only at hSw); go_simp⟩) ?_
      simp only [Act.put]
      refine HeadW.take 5 (v := .int .i64 (k : Int)) rfl (by kernel_rfl) (by kernel_rfl) (by kernel_rfl) (by decide) (by decide) (fun _ _ _ hL => seqB_ready hL.1) (by kernel_rfl) (by kernel_rfl) (fun _ _ _ h => h) HSC.out (.inl ⟨by kernel_rfl, by intro w hSw; (try dsimp only at hSw); go_simp⟩) ?_
      simp only [Act.put]
      refine HeadW.take 6 (v := .pointer (some ⟨g, k * 4, none⟩)) rfl (by kernel_rfl) (by kernel_rfl) (by kernel_rfl) (by decide) (by decide) (fun _ _ _ hL => seqB_ready hL.1) (by kernel_rfl) (by kernel_rfl) (fun _ _ _ h => h) HSC.out (.inl ⟨by kernel_rfl, by intro w hSw; (try dsimp only at hSw); go_simp⟩) ?_
      simp only [Act.put]
      refine HeadW.take 7 (v := .pointer (some ⟨g, k * 4 + 3, none⟩)) rfl (by kernel_rfl) (by kernel_rfl) (by kernel_rfl) (by decide) (by decide) (fun _ _ _ hL => seqB_ready hL.1) (by kernel_rfl) (by kernel_rfl) (fun _ _ _ h => h) HSC.out (.inl ⟨by kernel_rfl, by intro w hSw; (try dsimp only at hSw); go_simp⟩) ?_
      simp only [Act.put]
      refine HeadW.take 8 (v := .slice FA fcode.length fc) rfl (by kernel_rfl) (by kernel_rfl) (by kernel_rfl) (by decide) (by decide) (fun _ _ _ hL => seqB_ready hL.1) (by kernel_rfl) (by kernel_rfl) (fun _ _ _ h => h) HSC.out (.inl ⟨by kernel_rfl, by intro w hSw; have q := Hsp.out w hSw; (try dsimp only at hSw); go_simp⟩) ?_
      simp only [Act.put]
      obtain ⟨u0, hu0⟩ : ∃ u0, u0 = w6.drew := ⟨_, rfl⟩
      have Hu0 := Lib.hid (show Below w6.heap.size w6 u0 from by rw [hu0]; exact HSC.out)
      rw [← hu0]
      clear hu0 HSC
      have Hcl := Lib.hid (cloneI_any FA fcode.length fc (fcode.flatMap insCells) u0 ((Hf.out.below (HBw6.out.trans (Hu0.out.mono HBw6.out.size))).rv) (insCells_len fcode) (ins_one fcode) (by omega) (fun e => Hf.out.nil e))
      refine headW_one 9 rfl (by decide) (by kernel_rfl) (by kernel_rfl) fun K hK => ?_
      go_simp
      refine Hcl.out.mono ?_
      intro e u1 hpost
      obtain ⟨A7, c7, rfl, hown7, hbu1⟩ := hpost
      have Hu1 := Lib.hid (Hu0.out.trans (hbu1.mono Hu0.out.size))
      have Hown7 := Lib.hid hown7
      have hzu0 := Hu0.out.size
      have hzu1 := Hu1.out.size
      clear hown7 hbu1 Hcl
      refine hK.out _ _ Hu1.out (fun hHeld => ?_)
      clear hK K hHeld
      refine headW_one 10 rfl (by decide) (by kernel_rfl) (by kernel_rfl) fun K hK => ?_
      go_simp
      refine hK.out _ _ Hu1.out (fun hHeld => ?_)
      clear hK K hHeld
      refine headW_one 11 rfl (by decide) (by kernel_rfl) (by kernel_rfl) fun K hK => ?_
      go_simp
      refine hK.out _ _ Hu1.out (fun hHeld => ?_)
      clear hK K hHeld
      refine fun _ => ⟨by kernel_rfl, ?_⟩
      have q3 := Hsp.out u1 Hu1.out
      have qf3 : u1.frozen? ⟨g, k * 4 + 3, none⟩ = false := by rw [(bcell Hu1.out).2 _ _ hg6]; exact pf3
      have hgu : g < u1.heap.size := by omega
      clear pf3
      go_wp2_with fail
      have hO7 : Only (fun b => b = g) u1 (u1.setCell ⟨g, k * 4 + 3, none⟩ (.slice A7 fcode.length c7)) := (Only.refl (fun b => b = g) u1).setCell (p := ⟨g, k * 4 + 3, none⟩) (.inl rfl) _
      have hS6 : (fun b : Nat => Option.map (fun x : Addr => x.block) (some (⟨g, 0, none⟩ : Addr)) = some b) = fun b => b = g := by funext b; exact propext ⟨fun h => by injection h with h; exact h.symm, fun h => by rw [h]; rfl⟩
      refine ⟨⟨k + 1, hs ++ [⟨fa, fl, fr, A7, c7, fcode⟩], by omega, by go_num, Lib.hid ⟨by rw [List.length_append, List.length_singleton, hsk.out.1], by rw [List.map_append, hsk.out.2, Htk.out]; rfl⟩, ?_, ?_, ?_⟩, by simp [intOf]; omega⟩
      · have h := own_set (Own.below Hown6.out Hu1.out (Nat.le_refl _)) (k * 4 + 3) (.slice A7 fcode.length c7)
        rw [Hset.out] at h
        rw [show (hs ++ fs.drop k).set k ⟨fa, fl, fr, A7, c7, fcode⟩ = (hs ++ [⟨fa, fl, fr, A7, c7, fcode⟩]) ++ fs.drop (k + 1) from by
          rw [Hdx.out, List.set_append_right _ _ (by rw [hsk.out.1]; exact Nat.le_refl _), hsk.out.1, Nat.sub_self, List.set_cons_zero, List.append_assoc]; rfl] at h
        exact h
      · have h1 := (Hrow6.out.below Hu1.out).only hO7 (fun f hf b e h => by have := (Hrow6.out.lt f hf b e).1; omega)
        refine h1.push (base2 := u0.heap.size) (Own.only Hown7.out hO7 fun b o e h => by have := (Own.lt Hown7.out b o e).1; omega) (by omega) (fun f hf b e => by have := (Hrow6.out.lt f hf b e).2; omega)
      · rw [hS6]
        rw [hS6] at HO6
        exact (HO6.out.trans (Only.of_fresh Hu1.out)).trans hO7
    · obtain rfl : k = m := by omega
      have x0 : w6.cell? ⟨gx, 0, none⟩ = some (.int .i64 mem) := HX6.out.cell 0
      have x1 : w6.cell? ⟨gx, 1, none⟩ = some (.slice A2 n c2) := HX6.out.cell 1
      have r0 : w6.cell? ⟨gr, 0, none⟩ = some (.int .i64 0) := HR6.out.cell 0
      have r1 : w6.cell? ⟨gr, 1, none⟩ = some (.slice none 0 0) := HR6.out.cell 1
      have r2 : w6.cell? ⟨gr, 2, none⟩ = some (.slice none 0 0) := HR6.out.cell 2
      have rf0 := HR6.out.frozen 0
      have rf1 := HR6.out.frozen 1
      have rf2 := HR6.out.frozen 2
      have hrl := HR6.out.lt
      have Hown6 := Lib.hid hown
      have Hrow6 := Lib.hid hrow
      have Hown6d := Lib.hid (Own.only Hown5d.out hO fun b o e h => by have h1 := (hA4 b h).1; have h2 := HA2.out b (by rw [e]; rfl); omega)
      clear hown hrow hO hA4 hxS
      go_wp2_with fail
      obtain ⟨wF, hwF⟩ : ∃ wF, wF = (((w6.setCell ⟨gr, 0, none⟩ (.int .i64 mem)).setCell ⟨gr, 1, none⟩ (.slice A2 n c2)).setCell ⟨gr, 2, none⟩ (.slice A4 k c4)) := ⟨_, rfl⟩
      rw [← hwF]
      have hOF : Only (fun b => b = gr) w6 wF := by
        rw [hwF]
        exact (((Only.refl (fun b => b = gr) w6).setCell (p := ⟨gr, 0, none⟩) (.inl rfl) _).setCell (p := ⟨gr, 1, none⟩) (.inl rfl) _).setCell (p := ⟨gr, 2, none⟩) (.inl rfl) _
      have hRF : Blk wF gr 25 #[.int .i64 mem, .slice A2 n c2, .slice A4 k c4] := by
        rw [hwF]
        exact ((HR6.out.set_ 0 _).set_ 1 _).set_ 2 _
      have hrlF := hRF.lt
      have v0 : wF.cell? ⟨gr, 0, none⟩ = some (.int .i64 mem) := hRF.cell 0
      have v1 : wF.cell? ⟨gr, 1, none⟩ = some (.slice A2 n c2) := hRF.cell 1
      have v2 : wF.cell? ⟨gr, 2, none⟩ = some (.slice A4 k c4) := hRF.cell 2
      have hG := HG.out
      have hD := Own.only Hown6d.out hOF fun b o e h => by have := (Own.lt Hown6d.out b o e).1; omega
      have hFn := Own.only Hown6.out hOF fun b o e h => by have := (Own.lt Hown6.out b o e).1; omega
      have hRw := Hrow6.out.only hOF fun f hf b e h => by have := (Hrow6.out.lt f hf b e).1; omega
      rw [List.drop_eq_nil_of_le (by rw [HM.out]; exact Nat.le_refl _), List.append_nil] at hFn
      have hlen : hs.length = k := hsk.out.1
      have hpl := hsk.out.2
      rw [List.take_of_length_le (by rw [HM.out]; exact Nat.le_refl _)] at hpl
      refine bodyPost_ret (v := .agg #[.int .i64 mem, .slice A2 n c2, .slice A4 k c4]) ?_ rfl ⟨⟨mem, A2, c2, data, A4, c4, hs⟩, ?_, ?_, ⟨?_, ?_, ?_⟩, ?_⟩
      · simp [results, Try.results27, go_sem, v0, v1, v2]
      · dsimp only [PrgM.val]
        rw [hlen, ← HN.out]
      · show (⟨mem, data, hs.map FunM.plain⟩ : Prg) = ⟨mem, data, fs.map FunM.plain⟩
        rw [hpl]
      · show OwnB wF w.heap.size A2 data.length c2 data
        rw [← HN.out]
        exact Own.mono hD (by omega)
      · show Own wF w.heap.size _ 4 A4 hs.length c4 (hs.flatMap funCells)
        rw [hlen]
        exact Own.mono hFn (by omega)
      · exact hRw.mono (by omega)
      · exact HBw6.out.trans ((hOF.below (B := w.heap.size) HBw6.out.size (by intro k hk e; omega)).mono (Nat.le_refl _))
end Go.Proofs.Ytadnjfoinmeloaa
