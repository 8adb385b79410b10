/- The law's small and known. -/
import Derived.Test.YtadnjfoinmeloaaPrgDe
import Derived.Test.YtadnjfoinmeloaaPrgEw
import Derived.Test.YtadnjfoinmeloaaPrgS
import Derived.Test.YtadnjfoinmeloaaInsJ
import Derived.Test.YtadnjfoinmeloaaRegK
namespace Go.Proofs.Ytadnjfoinmeloaa
open Go.RowKit

def smallM (g : Nat) : PrgM := ⟨4, some ⟨g, 0, none⟩, 1, [7], some ⟨g + 2, 0, none⟩, 1, [⟨0, 0, 1, some ⟨g + 1, 0, none⟩, 2, [⟨3, 3⟩, ⟨18, 0⟩]⟩]⟩
def smallP : Prg := ⟨4, [7], [⟨0, 0, 1, [⟨3, 3⟩, ⟨18, 0⟩]⟩]⟩
theorem enc_small : encP smallP = ([2, 4, 1, 7, 1, 0, 0, 1, 3, 3, 6, 18], 0) := by kernel_rfl
theorem dec_small : decP [2, 4, 1, 7, 1, 0, 0, 1, 3, 3, 6, 18] = (smallP, 0) := by kernel_rfl
set_option maxRecDepth 100000 in
theorem small_any (w : World) : Calls Try.prog 30 #[] w fun e w' => ∃ pm : PrgM, pm.plain = smallP ∧ e = .returned pm.val ∧ PrgAt w' pm ∧ Below w.heap.size w w' := by
  go_enter Try.func30, Try.ntmps30
  go_wp2_with fail
  obtain ⟨w1, hw1⟩ : ∃ w1, w1 = ((((w.alloc (.cells #[.int .i64 4, .slice (some ⟨w.heap.size + 1, 0, none⟩) 1 1, .slice (some ⟨w.heap.size + 1 + 1 + 1, 0, none⟩) 1 1] 25)).alloc (.cells #[.int .u8 7] 5)).alloc (.cells #[.int .i64 3, .int .i64 3, .int .i64 18, .int .i64 0] 52)).alloc (.cells #[.int .i64 0, .int .i64 0, .int .i64 1, .slice (some ⟨w.heap.size + 1 + 1, 0, none⟩) 2 2] 50)) := ⟨_, rfl⟩
  rw [← hw1]
  have hb1 : Below w.heap.size w w1 := by rw [hw1]; exact ((((Below.refl _ _).alloc (Nat.le_refl _) _).alloc (by simp) _).alloc (by simp; omega) _).alloc (by simp; omega) _
  have hP : Blk w1 w.heap.size 25 #[.int .i64 4, .slice (some ⟨w.heap.size + 1, 0, none⟩) 1 1, .slice (some ⟨w.heap.size + 1 + 1 + 1, 0, none⟩) 1 1] := by rw [hw1]; exact (((Blk.new w _ _).alloc _).alloc _).alloc _
  have hD : Blk w1 (w.heap.size + 1) 5 #[.int .u8 7] := by
    rw [hw1]
    have h := Blk.new (w.alloc (.cells #[.int .i64 4, .slice (some ⟨w.heap.size + 1, 0, none⟩) 1 1, .slice (some ⟨w.heap.size + 1 + 1 + 1, 0, none⟩) 1 1] 25)) 5 #[.int .u8 7]
    rw [World.size_alloc] at h
    exact (h.alloc _).alloc _
  have hI : Blk w1 (w.heap.size + 1 + 1) 52 #[.int .i64 3, .int .i64 3, .int .i64 18, .int .i64 0] := by
    rw [hw1]
    have h := Blk.new ((w.alloc (.cells #[.int .i64 4, .slice (some ⟨w.heap.size + 1, 0, none⟩) 1 1, .slice (some ⟨w.heap.size + 1 + 1 + 1, 0, none⟩) 1 1] 25)).alloc (.cells #[.int .u8 7] 5)) 52 #[.int .i64 3, .int .i64 3, .int .i64 18, .int .i64 0]
    rw [World.size_alloc, World.size_alloc] at h
    exact h.alloc _
  have hF : Blk w1 (w.heap.size + 1 + 1 + 1) 50 #[.int .i64 0, .int .i64 0, .int .i64 1, .slice (some ⟨w.heap.size + 1 + 1, 0, none⟩) 2 2] := by
    rw [hw1]
    have h := Blk.new (((w.alloc (.cells #[.int .i64 4, .slice (some ⟨w.heap.size + 1, 0, none⟩) 1 1, .slice (some ⟨w.heap.size + 1 + 1 + 1, 0, none⟩) 1 1] 25)).alloc (.cells #[.int .u8 7] 5)).alloc (.cells #[.int .i64 3, .int .i64 3, .int .i64 18, .int .i64 0] 52)) 50 #[.int .i64 0, .int .i64 0, .int .i64 1, .slice (some ⟨w.heap.size + 1 + 1, 0, none⟩) 2 2]
    rw [World.size_alloc, World.size_alloc, World.size_alloc] at h
    exact h
  have hpl := hP.lt
  have c0 : w1.cell? ⟨w.heap.size, 0, none⟩ = some (.int .i64 4) := hP.cell 0
  have c1 : w1.cell? ⟨w.heap.size, 1, none⟩ = some (.slice (some ⟨w.heap.size + 1, 0, none⟩) 1 1) := hP.cell 1
  have c2 : w1.cell? ⟨w.heap.size, 2, none⟩ = some (.slice (some ⟨w.heap.size + 1 + 1 + 1, 0, none⟩) 1 1) := hP.cell 2
  refine bodyPost_ret (v := (smallM (w.heap.size + 1)).val) ?_ rfl ⟨smallM (w.heap.size + 1), rfl, rfl, ⟨⟨RV.of_blk hD, fun h => by cases h⟩, of_decide_eq_true rfl, RV.of_blk hF, (fun h => by cases h), of_decide_eq_true rfl, (fun f hf => ?_), of_decide_eq_true rfl, of_decide_eq_true rfl⟩, hb1⟩
  · unfold smallM
    simp [results, Try.results30, go_sem, c0, c1, c2]
  · simp only [smallM, List.mem_cons, List.not_mem_nil, or_false] at hf
    subst hf
    exact ⟨RV.of_blk hI, fun i hi => by simp only [List.mem_cons, List.not_mem_nil, or_false] at hi; rcases hi with rfl | rfl <;> exact ⟨by decide, by decide, by decide, by decide⟩, (fun h => by cases h), of_decide_eq_true rfl, of_decide_eq_true rfl, of_decide_eq_true rfl, of_decide_eq_true rfl, of_decide_eq_true rfl, of_decide_eq_true rfl, of_decide_eq_true rfl⟩
theorem headW_one {P : Program} {ops : Array Oper} {Q : Exit → Act → World → Prop} {S : World → Prop} {n : Nat} {L : Array Bool → Act → World → Prop} {f : Nat} {listed : Array Bool} {a : Act} {w : World} (i : Nat) {o : Oper} (hi : ops[i]? = some o) (hin : i < n) (hr : Region.ready .any ops listed = [i]) (hw : Region.wanted o (yielded ops a.tmps) = true)
    (h : ∀ K : Act → World → Prop, Shut (∀ a' w', S w' → (S w' → HeadW P ops Q S n L f (listed.setIfInBounds i true) a' w') → K a' w') → Oper.wp P o a w K Q) : HeadW P ops Q S n L (f + 1) listed a w :=
  HeadW.one i hi hin hr fun K hK => by rw [if_pos hw]; exact h K hK
theorem prgAt_nil (w : World) : PrgAt w ⟨0, none, 0, [], none, 0, []⟩ := (PrgOwn.nil w 0).at_
def knownB12 : List UInt8 := [2, 4, 1, 7, 1, 0, 0, 1, 3, 3, 6, 18]
set_option maxRecDepth 100000 in
set_option maxHeartbeats 2000000 in
theorem knownP_any (w : World) : Calls Try.prog 11 #[] w fun e w' => e = .returned (.bool true) ∧ Below w.heap.size w w' := by
  go_enter Try.func11, Try.ntmps11
  go_wp2_with fail
  refine (small_any w).mono ?_
  rintro e w1 ⟨p1, hp1, rfl, hat1, hb1⟩
  have henc := pEncode_any p1 w1 hat1
  rw [hp1, enc_small] at henc
  have Henc := Lib.hid henc
  have Hb1 := Lib.hid hb1
  have hz1 := hb1.size
  clear henc hb1 hat1 hp1
  go_wp2_with fail
  refine Henc.out.mono ?_
  intro e w2 hpost
  obtain ⟨A2, c2, rfl, hown2, hb2⟩ := hpost
  dsimp only at hown2 ⊢
  have hz2 := hb2.size
  have Hb2 := Lib.hid (Hb1.out.trans (hb2.mono (by omega)))
  have hdec := decodeP_any A2 c2 knownB12 w2 (Sl.of_own hown2) (by decide)
  rw [show decP knownB12 = (smallP, 0) from dec_small] at hdec
  have Hdec := Lib.hid hdec
  have Hown2 := Lib.hid hown2
  clear hb2 hown2 hdec Henc
  go_wp2_with fail
  refine Hdec.out.mono ?_
  intro e w3 hpost
  obtain ⟨p3, hp3, rfl, hown3, hb3⟩ := hpost
  have hz3 := hb3.size
  have Hb3 := Lib.hid (Hb2.out.trans (hb3.mono (by omega)))
  have Hown23 := Lib.hid (Own.below Hown2.out hb3 (Nat.le_refl _))
  have Hat3 := Lib.hid hown3.at_
  have Hp3 := Lib.hid hp3
  clear hb3 hown3 hp3 Hdec Hown2
  go_wp2_with fail
  -- REGION
  obtain ⟨v0, hv0⟩ : ∃ v0, v0 = w3.alloc (.cells #[.int .i64 p3.mem, .slice p3.AD p3.data.length p3.cD, .slice p3.AF p3.fs.length p3.cF] 25) := ⟨_, rfl⟩
  rw [← hv0]
  have hb03 : Below w3.heap.size w3 v0 := by rw [hv0]; exact (Below.refl _ _).alloc (Nat.le_refl _) _
  have hB0 : Blk v0 w3.heap.size 25 #[.int .i64 p3.mem, .slice p3.AD p3.data.length p3.cD, .slice p3.AF p3.fs.length p3.cF] := by rw [hv0]; exact Blk.new w3 _ _
  have hrv0 : RV v0 A2 (knownB12.map bv) := (RV.of_own Hown23.out).below hb03
  have Hat0 := Lib.hid (Hat3.out.below hb03)
  have hl0 := hB0.lt
  have hz0 := hb03.size
  have Hb0 := Lib.hid (Hb3.out.trans (hb03.mono (by omega)))
  have Hrv := Lib.hid (fun (w' : World) (h : Below v0.heap.size v0 w') => show (convert 22 9 (.slice A2 12 c2)).run Try.prog w' = .ok (.string ⟨knownB12.toArray⟩) w' from run_bytesStr (c := c2) (hrv0.below h) Try.underlying22 Try.underlying5 Try.underlying9)
  have Hc0 := Lib.hid (fun (w' : World) (h : Below v0.heap.size v0 w') => show w'.cell? ⟨w3.heap.size, 0, none⟩ = some (.int .i64 p3.mem) from (hB0.below h hl0).cell 0)
  have Hc1 := Lib.hid (fun (w' : World) (h : Below v0.heap.size v0 w') => show w'.cell? ⟨w3.heap.size, 1, none⟩ = some (.slice p3.AD p3.data.length p3.cD) from (hB0.below h hl0).cell 1)
  have Hc2 := Lib.hid (fun (w' : World) (h : Below v0.heap.size v0 w') => show w'.cell? ⟨w3.heap.size, 2, none⟩ = some (.slice p3.AF p3.fs.length p3.cF) from (hB0.below h hl0).cell 2)
  clear hv0 hb03 hB0 hrv0 Hown23 Hat3 Hb3 Hb2 Hb1
  refine region_heldT 29 (fun w' => Below v0.heap.size v0 w') (by kernel_rfl) (by decide) ?_
  have HSC := Lib.hid (below_drewN (Below.refl v0.heap.size v0) 1)
  refine HeadW.take 0 (v := .int .i64 0) rfl (by kernel_rfl) (by kernel_rfl) (by kernel_rfl) (by decide) (by decide) (fun _ _ _ hL => seqB_ready hL.1) (by kernel_rfl) (by kernel_rfl) (fun _ _ _ h => h) HSC.out (.inl ⟨by kernel_rfl, by intro w hSw; (try dsimp only at hSw); go_simp⟩) ?_
  simp only [Act.put, List.setIfInBounds_toArray]
  refine HeadW.take 1 (v := .bool true) rfl (by kernel_rfl) (by kernel_rfl) (by kernel_rfl) (by decide) (by decide) (fun _ _ _ hL => seqB_ready hL.1) (by kernel_rfl) (by kernel_rfl) (fun _ _ _ h => h) HSC.out (.inl ⟨by kernel_rfl, by intro w hSw; (try dsimp only at hSw); go_simp⟩) ?_
  simp only [Act.put]
  refine HeadW.take 2 (v := .bool true) rfl (by kernel_rfl) (by kernel_rfl) (by kernel_rfl) (by decide) (by decide) (fun _ _ _ hL => seqB_ready hL.1) (by kernel_rfl) (by kernel_rfl) (fun _ _ _ h => h) HSC.out (.inl ⟨by kernel_rfl, by intro w hSw; (try dsimp only at hSw); go_simp⟩) ?_
  simp only [Act.put]
  refine HeadW.take 3 (v := .int .i64 0) rfl (by kernel_rfl) (by kernel_rfl) (by kernel_rfl) (by decide) (by decide) (fun _ _ _ hL => seqB_ready hL.1) (by kernel_rfl) (by kernel_rfl) (fun _ _ _ h => h) HSC.out (.inl ⟨by kernel_rfl, by intro w hSw; (try dsimp only at hSw); go_simp⟩) ?_
  simp only [Act.put]
  refine HeadW.take 4 (v := .bool true) rfl (by kernel_rfl) (by kernel_rfl) (by kernel_rfl) (by decide) (by decide) (fun _ _ _ hL => seqB_ready hL.1) (by kernel_rfl) (by kernel_rfl) (fun _ _ _ h => h) HSC.out (.inl ⟨by kernel_rfl, by intro w hSw; (try dsimp only at hSw); go_simp⟩) ?_
  simp only [Act.put]
  refine HeadW.take 5 (v := .bool true) rfl (by kernel_rfl) (by kernel_rfl) (by kernel_rfl) (by decide) (by decide) (fun _ _ _ hL => seqB_ready hL.1) (by kernel_rfl) (by kernel_rfl) (fun _ _ _ h => h) HSC.out (.inl ⟨by kernel_rfl, by intro w hSw; (try dsimp only at hSw); go_simp⟩) ?_
  simp only [Act.put]
  refine HeadW.take 6 (v := .bool true) rfl (by kernel_rfl) (by kernel_rfl) (by kernel_rfl) (by decide) (by decide) (fun _ _ _ hL => seqB_ready hL.1) (by kernel_rfl) (by kernel_rfl) (fun _ _ _ h => h) HSC.out (.inl ⟨by kernel_rfl, by intro w hSw; (try dsimp only at hSw); go_simp⟩) ?_
  simp only [Act.put]
  refine HeadW.take 7 (v := .slice A2 12 c2) rfl (by kernel_rfl) (by kernel_rfl) (by kernel_rfl) (by decide) (by decide) (fun _ _ _ hL => seqB_ready hL.1) (by kernel_rfl) (by kernel_rfl) (fun _ _ _ h => h) HSC.out (.inl ⟨by kernel_rfl, by intro w hSw; (try dsimp only at hSw); go_simp⟩) ?_
  simp only [Act.put]
  refine HeadW.take 8 (v := .string ⟨knownB12.toArray⟩) rfl (by kernel_rfl) (by kernel_rfl) (by kernel_rfl) (by decide) (by decide) (fun _ _ _ hL => seqB_ready hL.1) (by kernel_rfl) (by kernel_rfl) (fun _ _ _ h => h) HSC.out (.inl ⟨by kernel_rfl, by intro w hSw; have q := Hrv.out w hSw; (try dsimp only at hSw); go_simp⟩) ?_
  simp only [Act.put]
  obtain ⟨u0, hu0⟩ : ∃ u0, u0 = v0.drew := ⟨_, rfl⟩
  have Hu0 := Lib.hid (show Below v0.heap.size v0 u0 from by rw [hu0]; exact HSC.out)
  rw [← hu0]
  clear hu0 HSC
  refine headW_one 9 rfl (by decide) (by kernel_rfl) (by kernel_rfl) fun K hK => ?_
  go_simp
  refine hK.out _ _ (Hu0.out.alloc Hu0.out.size _) (fun hHeld => ?_)
  clear hK K hHeld
  obtain ⟨u1, hu1⟩ : ∃ u1, u1 = u0.alloc (.cells #[.int .u8 2, .int .u8 4, .int .u8 1, .int .u8 7, .int .u8 1, .int .u8 0, .int .u8 0, .int .u8 1, .int .u8 3, .int .u8 3, .int .u8 6, .int .u8 18] 5) := ⟨_, rfl⟩
  rw [← hu1]
  have hU1 : Blk u1 u0.heap.size 5 #[.int .u8 2, .int .u8 4, .int .u8 1, .int .u8 7, .int .u8 1, .int .u8 0, .int .u8 0, .int .u8 1, .int .u8 3, .int .u8 3, .int .u8 6, .int .u8 18] := by rw [hu1]; exact Blk.new u0 _ _
  have Hu1 := Lib.hid (show Below v0.heap.size v0 u1 from by rw [hu1]; exact Hu0.out.alloc Hu0.out.size _)
  have hcv : (convert 22 9 (.slice (some ⟨u0.heap.size, 0, none⟩) 12 12)).run Try.prog u1 = .ok (.string ⟨knownB12.toArray⟩) u1 := run_bytesStr (ys := knownB12) (c := 12) (RV.of_blk hU1) Try.underlying22 Try.underlying5 Try.underlying9
  clear hU1 hu1
  refine headW_one 10 rfl (by decide) (by kernel_rfl) (by kernel_rfl) fun K hK => ?_
  go_simp
  refine hK.out _ _ (Hu1.out) (fun hHeld => ?_)
  clear hK K hHeld
  clear hcv
  refine headW_one 11 rfl (by decide) (by kernel_rfl) (by kernel_rfl) fun K hK => ?_
  go_simp
  refine hK.out _ _ (Hu1.out) (fun hHeld => ?_)
  clear hK K hHeld
  refine headW_one 12 rfl (by decide) (by kernel_rfl) (by kernel_rfl) fun K hK => ?_
  go_simp
  refine hK.out _ _ (Hu1.out) (fun hHeld => ?_)
  clear hK K hHeld
  refine headW_one 13 rfl (by decide) (by kernel_rfl) (by kernel_rfl) fun K hK => ?_
  go_simp
  refine hK.out _ _ (Hu1.out) (fun hHeld => ?_)
  clear hK K hHeld
  have HSC := Hu1
  refine HeadW.take 14 (v := p3.val) rfl (by kernel_rfl) (by kernel_rfl) (by kernel_rfl) (by decide) (by decide) (fun _ _ _ hL => seqB_ready hL.1) (by kernel_rfl) (by kernel_rfl) (fun _ _ _ h => h) HSC.out (.inl ⟨by kernel_rfl, by intro w hSw; have q0 := Hc0.out w hSw; have q1 := Hc1.out w hSw; have q2 := Hc2.out w hSw; (try dsimp only at hSw); go_simp⟩) ?_
  simp only [Act.put]
  refine headW_one 15 rfl (by decide) (by kernel_rfl) (by kernel_rfl) fun K hK => ?_
  go_simp
  refine (small_any u1).mono ?_
  rintro e u2 ⟨q2, hq2, rfl, hat2, hbu2⟩
  have Hu2 := Lib.hid (Hu1.out.trans (hbu2.mono Hu1.out.size))
  have Hat2 := Lib.hid hat2
  have Hq2 := Lib.hid hq2
  have Hat32 := Lib.hid (Hat0.out.below Hu2.out)
  clear hbu2 hat2 hq2
  refine hK.out _ _ (Hu2.out) (fun hHeld => ?_)
  clear hK K hHeld
  refine headW_one 16 rfl (by decide) (by kernel_rfl) (by kernel_rfl) fun K hK => ?_
  have hsm := sameP_any p3 q2 u2 Hat32.out Hat2.out
  rw [Hp3.out, Hq2.out, show sameP smallP smallP = true from (sameP_iff _ _).2 rfl] at hsm
  have Hsm := Lib.hid hsm
  clear hsm
  go_simp
  refine Hsm.out.mono ?_
  rintro e u3 ⟨rfl, hbu3⟩
  have Hu3 := Lib.hid (Hu2.out.trans (hbu3.mono Hu2.out.size))
  clear hbu3 Hsm Hat2 Hat32
  refine hK.out _ _ (Hu3.out) (fun hHeld => ?_)
  clear hK K hHeld
  refine headW_one 17 rfl (by decide) (by kernel_rfl) (by kernel_rfl) fun K hK => ?_
  go_simp
  refine hK.out _ _ (Hu3.out) (fun hHeld => ?_)
  clear hK K hHeld
  refine headW_one 18 rfl (by decide) (by kernel_rfl) (by kernel_rfl) fun K hK => ?_
  go_simp
  refine hK.out _ _ (Hu3.out) (fun hHeld => ?_)
  clear hK K hHeld
  have HSC := Hu3
  refine HeadW.take 19 (v := .agg #[.int .i64 0, .slice none 0 0, .slice none 0 0]) rfl (by kernel_rfl) (by kernel_rfl) (by kernel_rfl) (by decide) (by decide) (fun _ _ _ hL => seqB_ready hL.1) (by kernel_rfl) (by kernel_rfl) (fun _ _ _ h => h) HSC.out (.inl ⟨by kernel_rfl, by intro w hSw; (try dsimp only at hSw); go_simp⟩) ?_
  simp only [Act.put]
  refine headW_one 20 rfl (by decide) (by kernel_rfl) (by kernel_rfl) fun K hK => ?_
  go_simp
  refine (small_any u3).mono ?_
  rintro e u4 ⟨q4, hq4, rfl, hat4, hbu4⟩
  have Hu4 := Lib.hid (Hu3.out.trans (hbu4.mono Hu3.out.size))
  have Hat4 := Lib.hid hat4
  have Hq4 := Lib.hid hq4
  clear hbu4 hat4 hq4
  refine hK.out _ _ (Hu4.out) (fun hHeld => ?_)
  clear hK K hHeld
  refine headW_one 21 rfl (by decide) (by kernel_rfl) (by kernel_rfl) fun K hK => ?_
  have hsm := sameP_any ⟨0, none, 0, [], none, 0, []⟩ q4 u4 (prgAt_nil u4) Hat4.out
  rw [Hq4.out, show sameP (PrgM.plain ⟨0, none, 0, [], none, 0, []⟩) smallP = false from by kernel_rfl] at hsm
  have Hsm := Lib.hid hsm
  clear hsm
  go_simp
  refine Hsm.out.mono ?_
  rintro e u5 ⟨rfl, hbu5⟩
  have Hu5 := Lib.hid (Hu4.out.trans (hbu5.mono Hu4.out.size))
  clear hbu5 Hsm Hat4
  refine hK.out _ _ (Hu5.out) (fun hHeld => ?_)
  clear hK K hHeld
  refine headW_one 22 rfl (by decide) (by kernel_rfl) (by kernel_rfl) fun K hK => ?_
  go_simp
  refine hK.out _ _ (Hu5.out) (fun hHeld => ?_)
  clear hK K hHeld
  refine headW_one 23 rfl (by decide) (by kernel_rfl) (by kernel_rfl) fun K hK => ?_
  go_simp
  refine hK.out _ _ (Hu5.out) (fun hHeld => ?_)
  clear hK K hHeld
  refine headW_one 24 rfl (by decide) (by kernel_rfl) (by kernel_rfl) fun K hK => ?_
  go_simp
  refine hK.out _ _ (Hu5.out) (fun hHeld => ?_)
  clear hK K hHeld
  refine headW_one 25 rfl (by decide) (by kernel_rfl) (by kernel_rfl) fun K hK => ?_
  go_simp
  refine hK.out _ _ (Hu5.out) (fun hHeld => ?_)
  clear hK K hHeld
  refine headW_one 26 rfl (by decide) (by kernel_rfl) (by kernel_rfl) fun K hK => ?_
  have hck := check_any ⟨0, none, 0, [], none, 0, []⟩ u5 (prgAt_nil u5)
  rw [show checkL (PrgM.plain ⟨0, none, 0, [], none, 0, []⟩) = 121 from by kernel_rfl] at hck
  have Hck := Lib.hid hck
  clear hck
  go_simp
  refine Hck.out.mono ?_
  rintro e u6 ⟨rfl, hbu6⟩
  have Hu6 := Lib.hid (Hu5.out.trans (hbu6.mono Hu5.out.size))
  clear hbu6 Hck
  refine hK.out _ _ (Hu6.out) (fun hHeld => ?_)
  clear hK K hHeld
  refine headW_one 27 rfl (by decide) (by kernel_rfl) (by kernel_rfl) fun K hK => ?_
  go_simp
  refine hK.out _ _ (Hu6.out) (fun hHeld => ?_)
  clear hK K hHeld
  refine headW_one 28 rfl (by decide) (by kernel_rfl) (by kernel_rfl) fun K hK => ?_
  go_simp
  refine hK.out _ _ (Hu6.out) (fun hHeld => ?_)
  clear hK K hHeld
  refine fun _ => ⟨by kernel_rfl, ?_⟩
  have hzv := Hu6.out.size
  have HF := Lib.hid (Hb0.out.trans (Hu6.out.mono (by omega)))
  go_wp2_with fail
  go_ret
  exact ⟨rfl, HF.out⟩
end Go.Proofs.Ytadnjfoinmeloaa
