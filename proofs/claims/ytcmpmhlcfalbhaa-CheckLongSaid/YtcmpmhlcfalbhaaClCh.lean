/- The law's chained (printed by gen_clch.py). -/
import Derived.Test.YtcmpmhlcfalbhaaClPa
import Derived.Test.YtcmpmhlcfalbhaaPrgDw
namespace Go.Proofs.Ytcmpmhlcfalbhaa
open Go.RowKit

theorem codeC_is {F C i : Nat} {lp : Bool} {l : List Ins} (hl : l.length = C) (h : ∀ k, k < C → l[k]? = some (insC F C lp i k)) : l = (List.range C).map (insC F C lp i) := by
  refine List.ext_getElem? fun k => ?_
  by_cases hk : k < C
  · rw [h k hk, List.getElem?_map, List.getElem?_range hk]; rfl
  · rw [List.getElem?_eq_none (by omega), List.getElem?_eq_none (by simp; omega)]
theorem set_at {l : List Ins} {j k : Nat} {x y : Ins} (hk : k < l.length) (h : (k = j → x = y) ∧ (k ≠ j → l[k]? = some y)) : (l.set j x)[k]? = some y := by
  by_cases e : k = j
  · subst e
    rw [List.getElem?_set_self hk, h.1 rfl]
  · rw [List.getElem?_set_ne (Ne.symm e)]
    exact h.2 e
set_option maxRecDepth 100000 in
set_option maxHeartbeats 4000000 in
theorem chained13_any (F C : Nat) (L : Int) (lp : Bool) (w : World) (hF : 1 ≤ F) (hF2 : F ≤ 64) (hC : 4 ≤ C) (hC2 : C ≤ 4096) :
    Calls Try.prog 12 #[.int .i64 (F : Int), .int .i64 (C : Int), .int .i64 L, .bool lp] w fun e w' => ∃ p : PrgM, e = .returned p.val ∧ p.plain = prgC F C L lp ∧ PrgMine w' w.heap.size p ∧ Below w.heap.size w w' := by
  obtain ⟨c1, hc1⟩ : ∃ n, n = C - 1 := ⟨_, rfl⟩
  obtain ⟨c2, hc2⟩ : ∃ n, n = C - 2 := ⟨_, rfl⟩
  obtain ⟨f1, hf1⟩ : ∃ n, n = F - 1 := ⟨_, rfl⟩
  obtain ⟨w1, hw1⟩ : ∃ w1, w1 = (w.alloc (.cells #[.int .i64 0, .slice none 0 0, .slice none 0 0] 26)).alloc (.cells #[.int .i64 0, .slice none 0 0, .slice none 0 0] 26) := ⟨_, rfl⟩
  obtain ⟨gr, hgr⟩ : ∃ g, g = w.heap.size := ⟨_, rfl⟩
  obtain ⟨gp, hgp⟩ : ∃ g, g = w.heap.size + 1 := ⟨_, rfl⟩
  have hb1 : Below w.heap.size w w1 := by rw [hw1]; exact ((Below.refl _ _).alloc (Nat.le_refl _) _).alloc (by simp) _
  have hz1 : w1.heap.size = w.heap.size + 2 := by rw [hw1]; simp
  have hr1 : Blk w1 gr 26 #[.int .i64 0, .slice none 0 0, .slice none 0 0] := by rw [hw1, hgr]; exact (Blk.new w _ _).alloc _
  have hp1 : Blk w1 gp 26 #[.int .i64 0, .slice none 0 0, .slice none 0 0] := by rw [hw1, hgp]; exact Blk.new2 _ _ _ _
  have HZ := Lib.hid (show gr = w.heap.size ∧ gp = w.heap.size + 1 ∧ w1.heap.size = w.heap.size + 2 from ⟨hgr, hgp, hz1⟩)
  have HB1 := Lib.hid hb1
  have HR1 := Lib.hid hr1
  have HP1 := Lib.hid hp1
  have Hw1 := Lib.hid hw1
  have Hgr := Lib.hid hgr
  have Hgp := Lib.hid hgp
  have Hc1 := Lib.hid hc1
  have Hc2 := Lib.hid hc2
  have Hf1 := Lib.hid hf1
  have e1 : (C : Int) - 1 = (c1 : Int) := by omega
  have e2 : (C : Int) - 2 = (c2 : Int) := by omega
  have e3 : (F : Int) - 1 = (f1 : Int) := by omega
  have u1 : IntKind.i64.wrap (c1 : Int) = (c1 : Int) := by rw [IntKind.wrap_i64]; omega
  have u2 : IntKind.i64.wrap (c2 : Int) = (c2 : Int) := by rw [IntKind.wrap_i64]; omega
  have u3 : IntKind.i64.wrap (f1 : Int) = (f1 : Int) := by rw [IntKind.wrap_i64]; omega
  have b1 : (c1 : Int) < (C : Int) := by omega
  have b2 : (c2 : Int) < (C : Int) := by omega
  have b3 : (0 : Int) < (C : Int) := by omega
  have b4 : (1 : Int) < (C : Int) := by omega
  have hmk := run_inss C (by omega)
  clear hw1 hb1 hz1 hr1 hp1 hgr hgp hc1 hc2 hf1
  go_enter Try.func12, Try.ntmps12
  go_upto_region 2 with (fail)
  rw [← Hw1.out, ← Hgp.out, ← Hgr.out]
  clear Hw1 Hgr Hgp
  go_wp2_with fail
  go_loopw [10] (fun iv wr => ∃ (i : Nat) (hs : List FunM) (AF : Option Addr) (cF : Nat), i ≤ F ∧ iv = .int .i64 (i : Int) ∧ Hid (hs.length = i ∧ hs.map FunM.plain = (List.range i).map fun k => ⟨0, L, 1, (List.range C).map (insC F C lp k)⟩) ∧ Blk wr gp 26 #[.int .i64 0, .slice none 0 0, .slice AF i cF] ∧
    Own wr w1.heap.size 43 4 AF i cF (hs.flatMap funCells) ∧ MineR wr w1.heap.size hs ∧ Blk wr gr 26 #[.int .i64 0, .slice none 0 0, .slice none 0 0] ∧ Below w.heap.size w wr ∧ w1.heap.size ≤ wr.heap.size) (fun iv _ => F - (intOf iv).toNat)
  case atStart => exact ⟨0, [], none, 0, Nat.zero_le _, rfl, Lib.hid ⟨rfl, rfl⟩, HP1.out, Own.nil _ _ _ _, MineR.nil _ _, HR1.out, HB1.out, Nat.le_refl _⟩
  case round =>
    clear HR1 HP1
    rename World => wr
    obtain ⟨i, hs, AF, cF, hi, rfl, HS, hP, hOF, hM, hR, hB, hz⟩ := hrel
    have HP := Lib.hid hP
    have HOF := Lib.hid hOF
    have HM := Lib.hid hM
    have HR := Lib.hid hR
    have HB := Lib.hid hB
    by_cases hlt : i < F
    · have g1 : (i : Int) < (F : Int) := by omega
      clear hP hOF hM hR hB
      obtain ⟨w2, hw2⟩ : ∃ w', w' = wr.alloc (.cells (Array.replicate (C * 2) (.int .i64 0)) 45) := ⟨_, rfl⟩
      obtain ⟨gl, hgl⟩ : ∃ g, g = wr.heap.size := ⟨_, rfl⟩
      have hb2 : Below wr.heap.size wr w2 := by rw [hw2]; exact (Below.refl _ _).alloc (Nat.le_refl _) _
      have HO2 := Lib.hid (show Own w2 gl 45 2 (some ⟨gl, 0, none⟩) C C ((List.replicate C (⟨0, 0⟩ : Ins)).flatMap insCells) from by rw [hw2, hgl]; exact own_nops wr C (by omega))
      have Hb2 := Lib.hid hb2
      have Hw2 := Lib.hid hw2
      have Hgl := Lib.hid hgl
      clear hw2 hgl hb2
      go_upto_region 6 with (fail)
      rw [← Hw2.out, ← Hgl.out]
      clear Hw2
      go_wp2_with fail
      go_loopw [12] (fun kv wz => ∃ k : Nat, k ≤ C ∧ kv = .int .i64 (k : Int) ∧ Own wz gl 45 2 (some ⟨gl, 0, none⟩) C C ((List.replicate C (⟨0, 0⟩ : Ins)).flatMap insCells) ∧ Only (fun b => b = gl) w2 wz) (fun kv _ => C - (intOf kv).toNat)
      case atStart => exact ⟨0, Nat.zero_le _, rfl, HO2.out, Only.refl _ _⟩
      case round =>
        clear HO2
        rename World => wz
        obtain ⟨k, hk, rfl, hO, hOn⟩ := hrel
        have HO := Lib.hid hO
        have HOn := Lib.hid hOn
        by_cases hltk : k < C
        · have g2 : (k : Int) < (C : Int) := by omega
          obtain ⟨⟨v0, l0⟩, ⟨v1, l1⟩, lf0, lf1, ll⟩ := own_insAt hO k (by simpa using hltk)
          have HOk := Lib.hid (show Own ((wz.setCell ⟨gl, k * 2, none⟩ (.int .i64 0)).setCell ⟨gl, k * 2 + 1, none⟩ (.int .i64 0)) gl 45 2 (some ⟨gl, 0, none⟩) C C ((List.replicate C (⟨0, 0⟩ : Ins)).flatMap insCells) from by
            have h1 := own_insSet hO k (by simpa using hltk) ⟨0, 0⟩
            rw [List.set_replicate_self] at h1
            exact h1)
          have HOk2 := Lib.hid ((hOn.setCell (p := ⟨gl, k * 2, none⟩) (.inl rfl) (.int .i64 0)).setCell (p := ⟨gl, k * 2 + 1, none⟩) (.inl rfl) (.int .i64 0))
          clear hO hOn
          go_wp2_with fail
          exact ⟨⟨k + 1, by omega, by first | rfl | go_num, HOk.out, HOk2.out⟩, by simp [intOf]; omega⟩
        · have g2 : ¬ (k : Int) < (C : Int) := by omega
          clear hO hOn
          have HO30 := HO
          have HN30 := HOn
          have HL30 := Lib.hid (show (List.replicate C (⟨0, 0⟩ : Ins)).length = C from by simp)
          generalize hw30 : wz = w30 at *
          clear hw30
          have hn1 : c1 < C := by have := Hc1.out; omega
          have hn2 : c2 < C := by have := Hc2.out; omega
          by_cases hlast : i + 1 = F
          · have g5 : (i : Int) = (f1 : Int) := by have := Hf1.out; omega
            have g5b : ((i : Int) == (f1 : Int)) = true := by simpa using g5
            clear g5
            have Hlast := Lib.hid hlast
            clear hlast
            cases lp with
            | false =>
              obtain ⟨⟨p1, k1⟩, ⟨q1, m1⟩, kf1, mf1, kl1⟩ := own_insAt HO30.out c2 (by have := HL30.out; omega)
              obtain ⟨w31, hw31⟩ : ∃ w', w' = (w30.setCell ⟨gl, c2 * 2, none⟩ (.int .i64 17)).setCell ⟨gl, c2 * 2 + 1, none⟩ (.int .i64 ((i : Int) + 1)) := ⟨_, rfl⟩
              have HO31 := Lib.hid (show Own w31 gl 45 2 (some ⟨gl, 0, none⟩) C C (((List.replicate C (⟨0, 0⟩ : Ins)).set c2 ⟨17, ((i : Int) + 1)⟩).flatMap insCells) from by rw [hw31]; exact own_insSet HO30.out c2 (by have := HL30.out; omega) ⟨17, ((i : Int) + 1)⟩)
              have HN31 := Lib.hid (show Only (fun b => b = gl) w2 w31 from by rw [hw31]; exact (HN30.out.setCell (p := ⟨gl, c2 * 2, none⟩) (.inl rfl) _).setCell (p := ⟨gl, c2 * 2 + 1, none⟩) (.inl rfl) _)
              have HL31 := Lib.hid (show ((List.replicate C (⟨0, 0⟩ : Ins)).set c2 ⟨17, ((i : Int) + 1)⟩).length = C from by rw [List.length_set]; exact HL30.out)
              have Hw31 := Lib.hid hw31
              clear hw31
              go_upto_region 11 with (fail)
              rw [← Hw31.out]
              clear Hw31 k1 m1 kf1 mf1 kl1
              obtain ⟨⟨p2, k2⟩, ⟨q2, m2⟩, kf2, mf2, kl2⟩ := own_insAt HO31.out c2 (by have := HL31.out; omega)
              obtain ⟨w32, hw32⟩ : ∃ w', w' = (w31.setCell ⟨gl, c2 * 2, none⟩ (.int .i64 3)).setCell ⟨gl, c2 * 2 + 1, none⟩ (.int .i64 7) := ⟨_, rfl⟩
              have HO32 := Lib.hid (show Own w32 gl 45 2 (some ⟨gl, 0, none⟩) C C ((((List.replicate C (⟨0, 0⟩ : Ins)).set c2 ⟨17, ((i : Int) + 1)⟩).set c2 ⟨3, 7⟩).flatMap insCells) from by rw [hw32]; exact own_insSet HO31.out c2 (by have := HL31.out; omega) ⟨3, 7⟩)
              have HN32 := Lib.hid (show Only (fun b => b = gl) w2 w32 from by rw [hw32]; exact (HN31.out.setCell (p := ⟨gl, c2 * 2, none⟩) (.inl rfl) _).setCell (p := ⟨gl, c2 * 2 + 1, none⟩) (.inl rfl) _)
              have HL32 := Lib.hid (show (((List.replicate C (⟨0, 0⟩ : Ins)).set c2 ⟨17, ((i : Int) + 1)⟩).set c2 ⟨3, 7⟩).length = C from by rw [List.length_set]; exact HL31.out)
              have Hw32 := Lib.hid hw32
              clear hw32
              go_upto_region 13 with (fail)
              rw [← Hw32.out]
              clear Hw32 k2 m2 kf2 mf2 kl2
              obtain ⟨⟨p3, k3⟩, ⟨q3, m3⟩, kf3, mf3, kl3⟩ := own_insAt HO32.out c1 (by have := HL32.out; omega)
              obtain ⟨w33, hw33⟩ : ∃ w', w' = (w32.setCell ⟨gl, c1 * 2, none⟩ (.int .i64 18)).setCell ⟨gl, c1 * 2 + 1, none⟩ (.int .i64 0) := ⟨_, rfl⟩
              have HO33 := Lib.hid (show Own w33 gl 45 2 (some ⟨gl, 0, none⟩) C C (((((List.replicate C (⟨0, 0⟩ : Ins)).set c2 ⟨17, ((i : Int) + 1)⟩).set c2 ⟨3, 7⟩).set c1 ⟨18, 0⟩).flatMap insCells) from by rw [hw33]; exact own_insSet HO32.out c1 (by have := HL32.out; omega) ⟨18, 0⟩)
              have HN33 := Lib.hid (show Only (fun b => b = gl) w2 w33 from by rw [hw33]; exact (HN32.out.setCell (p := ⟨gl, c1 * 2, none⟩) (.inl rfl) _).setCell (p := ⟨gl, c1 * 2 + 1, none⟩) (.inl rfl) _)
              have HL33 := Lib.hid (show ((((List.replicate C (⟨0, 0⟩ : Ins)).set c2 ⟨17, ((i : Int) + 1)⟩).set c2 ⟨3, 7⟩).set c1 ⟨18, 0⟩).length = C from by rw [List.length_set]; exact HL32.out)
              have Hw33 := Lib.hid hw33
              clear hw33
              go_upto_region 14 with (fail)
              rw [← Hw33.out]
              clear Hw33 k3 m3 kf3 mf3 kl3
              have HCD := Lib.hid (show ((((List.replicate C (⟨0, 0⟩ : Ins)).set c2 ⟨17, ((i : Int) + 1)⟩).set c2 ⟨3, 7⟩).set c1 ⟨18, 0⟩) = (List.range C).map (insC F C false i) from codeC_is HL33.out fun k hk => by
                have hlast := Hlast.out
                have hq1 := Hc1.out
                have hq2 := Hc2.out
                unfold insC
                rw [if_neg (fun h => by cases h.1), if_neg (fun h => by cases h.1)]
                by_cases k2 : k + 2 = C
                · rw [if_pos k2, if_pos hlast]
                  obtain rfl : k = c2 := by omega
                  rw [List.getElem?_set_ne (by omega), List.getElem?_set_self (by simp; omega)]
                rw [if_neg k2]
                by_cases k3 : k + 1 = C
                · rw [if_pos k3]
                  obtain rfl : k = c1 := by omega
                  rw [List.getElem?_set_self (by simp; omega)]
                · rw [if_neg k3, List.getElem?_set_ne (by omega), List.getElem?_set_ne (by omega), List.getElem?_set_ne (by omega), List.getElem?_replicate, if_pos hk])
              obtain ⟨cd, hcd⟩ : ∃ l, l = ((((List.replicate C (⟨0, 0⟩ : Ins)).set c2 ⟨17, ((i : Int) + 1)⟩).set c2 ⟨3, 7⟩).set c1 ⟨18, 0⟩) := ⟨_, rfl⟩
              rw [← hcd] at HCD HO33 HL33
              clear hcd
              have hb2z : Only (fun b => b = gl) wr w33 := (Only.of_fresh (S := fun b => b = gl) Hb2.out).trans HN33.out
              have hgl0 : ∀ b, b < wr.heap.size → ¬ b = gl := fun b hb e => by have := Hgl.out; omega
              have hPz := HP.out.only hb2z (hgl0 _ HP.out.lt)
              have hRz := HR.out.only hb2z (hgl0 _ HR.out.lt)
              have hOFz := Own.only HOF.out hb2z fun b o e => hgl0 b (Own.row HOF.out b (by rw [e]; rfl)).2
              have hMz := HM.out.only hb2z fun f hf b e => hgl0 b (HM.out.lt f hf b e).2
              clear hb2z hgl0
              have x2 : w33.cell? ⟨gp, 2, none⟩ = some (.slice AF i cF) := hPz.cell 2
              have xf2 := hPz.frozen 2
              have xl := hPz.lt
              have HPz := Lib.hid hPz
              have HOFz := Lib.hid hOFz
              have HMz := Lib.hid hMz
              have HRz := Lib.hid hRz
              clear hPz hOFz hMz hRz
              go_wp2_with (refine wpList_at 69 rfl ?_; refine wp_stop ?_)
              try refine ⟨?_⟩
              refine wpList_app rfl (.tmp 64) (.tmp 68) eFun rfl rfl (Own.below HOFz.out ((Below.refl _ _).alloc (Nat.le_refl _) _) (Nat.le_refl _)) (m := 1) (c' := 1) (us := [.int .i64 0, .int .i64 L, .int .i64 1, .slice (some ⟨gl, 0, none⟩) C C]) rfl (RV.of_blk (Blk.new w33 43 #[.int .i64 0, .int .i64 L, .int .i64 1, .slice (some ⟨gl, 0, none⟩) C C])) rfl (by intro y hy; simp only [List.mem_cons, List.not_mem_nil, or_false] at hy; rcases hy with rfl | rfl | rfl | rfl <;> rfl) (by unfold maxLen; omega) (by omega) (by have := HN33.out.size; have := Hb2.out.size; simp; omega) (by intro h; cases h) ?_
              intro A8 c8 w8 hown8 hg8 hA8
              have hO8 : Only (fun b => AF.map (·.block) = some b) w33 w8 := Only.grown ((Only.refl _ w33).alloc _) hg8 fun k hk => .inl hk
              have hAFb : ∀ b, AF.map (·.block) = some b → w1.heap.size ≤ b ∧ b < gl := fun b e => by
                have h1 := Own.row HOF.out b e
                rw [Hgl.out]
                exact h1
              have hP8 := HPz.out.only hO8 (fun e => by have := (hAFb _ e).1; have := HZ.out; omega)
              have x28 : w8.cell? ⟨gp, 2, none⟩ = some (.slice AF i cF) := hP8.cell 2
              have xf28 := hP8.frozen 2
              have xl8 := hP8.lt
              obtain ⟨w9, hw9⟩ : ∃ w', w' = w8.setCell ⟨gp, 2, none⟩ (.slice A8 (i + 1) c8) := ⟨_, rfl⟩
              have hO9 : Only (fun b => b = gp) w8 w9 := by rw [hw9]; exact (Only.refl (fun b => b = gp) w8).setCell (p := ⟨gp, 2, none⟩) (.inl rfl) _
              have HP9 := Lib.hid (show Blk w9 gp 26 #[.int .i64 0, .slice none 0 0, .slice A8 (i + 1) c8] from by rw [hw9]; exact hP8.set_ 2 _)
              have hgpl : ∀ b, w1.heap.size ≤ b → ¬ b = gp := fun b hb e => by have := HZ.out; omega
              have HOF9 := Lib.hid (show Own w9 w1.heap.size 43 4 A8 (i + 1) c8 ((hs ++ [(⟨0, L, 1, some ⟨gl, 0, none⟩, C, cd⟩ : FunM)]).flatMap funCells) from by
                rw [List.flatMap_append]
                have e : [(⟨0, L, 1, some ⟨gl, 0, none⟩, C, cd⟩ : FunM)].flatMap funCells = [.int .i64 0, .int .i64 L, .int .i64 1, .slice (some ⟨gl, 0, none⟩) C C] := by
                  show ([.int .i64 0, .int .i64 L, .int .i64 1, .slice (some ⟨gl, 0, none⟩) (cd).length C] : List Value) = _
                  rw [HL33.out]
                rw [e]
                exact Own.only hown8 hO9 fun b o e => hgpl b (Own.row hown8 b (by rw [e]; rfl)).1)
              have HM9 := Lib.hid (show MineR w9 w1.heap.size (hs ++ [(⟨0, L, 1, some ⟨gl, 0, none⟩, C, cd⟩ : FunM)]) from by
                have h1 : MineR w8 w1.heap.size hs := HMz.out.only hO8 fun f hf b e e2 => own_ne HOFz.out (HMz.out.code f hf) (by decide) b e2 e
                have h2 : MineR w9 w1.heap.size hs := h1.only hO9 fun f hf b e => hgpl b (h1.lt f hf b e).1
                refine h2.push (base2 := gl) ?_ (by have := HZ.out; rw [Hgl.out]; exact hz) fun f hf b e => ?_
                · have h3 : Own w8 gl 45 2 (some ⟨gl, 0, none⟩) C C ((cd).flatMap insCells) := Own.only HO33.out hO8 fun b o e e2 => by
                    have e3 := Option.some.inj e
                    injection e3 with e3
                    have := (hAFb b e2).2
                    omega
                  have h4 := Own.only h3 hO9 fun b o e => by
                    have e3 := Option.some.inj e
                    injection e3 with e3
                    exact hgpl b (by rw [← e3, Hgl.out]; exact hz)
                  show Own w9 gl _ 2 (some ⟨gl, 0, none⟩) (cd).length C _
                  rw [HL33.out]
                  exact h4
                · have := (HM.out.lt f hf b e).2
                  rw [Hgl.out]
                  exact this)
              have HR9 := Lib.hid ((HRz.out.only hO8 (fun e => by have := (hAFb _ e).1; have := HZ.out; omega)).only hO9 (fun e => by have := HZ.out; omega))
              have HBz := Lib.hid (show Below w.heap.size w w9 from by
                have h1 := HB.out.trans (Hb2.out.mono HB.out.size)
                have h2 := h1.trans (HN33.out.below (B := w.heap.size) h1.size fun q hq e => by have := Hgl.out; have := HB.out.size; omega)
                have h3 := h2.trans (hO8.below (B := w.heap.size) h2.size fun q hq e => by have := (hAFb q e).1; have := HZ.out; omega)
                exact h3.trans (hO9.below (B := w.heap.size) h3.size fun q hq e => by have := HZ.out; omega))
              have HS9 := Lib.hid (show (hs ++ [(⟨0, L, 1, some ⟨gl, 0, none⟩, C, cd⟩ : FunM)]).length = i + 1 ∧ (hs ++ [(⟨0, L, 1, some ⟨gl, 0, none⟩, C, cd⟩ : FunM)]).map FunM.plain = (List.range (i + 1)).map fun k => ⟨0, L, 1, (List.range C).map (insC F C false k)⟩ from by
                refine ⟨by rw [List.length_append, HS.out.1]; rfl, ?_⟩
                rw [List.map_append, HS.out.2, List.range_succ, List.map_append]
                congr 1
                show [(⟨0, L, 1, cd⟩ : Fun)] = [⟨0, L, 1, (List.range C).map (insC F C false i)⟩]
                rw [← HCD.out])
              have hz9 : w1.heap.size ≤ w9.heap.size := by
                have h1 := hO8.size
                have h2 := hO9.size
                have h3 := HN33.out.size
                have h4 := Hb2.out.size
                omega
              have Hw9 := Lib.hid hw9
              clear hown8 hg8 hA8 hO8 hAFb hP8 hw9 hO9 hgpl x2 xf2 xl
              go_wp2_with fail
              rw [← Hw9.out]
              exact ⟨⟨i + 1, _, A8, c8, by omega, by first | rfl | go_num, HS9, HP9.out, HOF9.out, HM9.out, HR9.out, HBz.out, hz9⟩, by simp [intOf]; omega⟩
            | true =>
              obtain ⟨⟨p1, k1⟩, ⟨q1, m1⟩, kf1, mf1, kl1⟩ := own_insAt HO30.out c2 (by have := HL30.out; omega)
              obtain ⟨w31, hw31⟩ : ∃ w', w' = (w30.setCell ⟨gl, c2 * 2, none⟩ (.int .i64 17)).setCell ⟨gl, c2 * 2 + 1, none⟩ (.int .i64 ((i : Int) + 1)) := ⟨_, rfl⟩
              have HO31 := Lib.hid (show Own w31 gl 45 2 (some ⟨gl, 0, none⟩) C C (((List.replicate C (⟨0, 0⟩ : Ins)).set c2 ⟨17, ((i : Int) + 1)⟩).flatMap insCells) from by rw [hw31]; exact own_insSet HO30.out c2 (by have := HL30.out; omega) ⟨17, ((i : Int) + 1)⟩)
              have HN31 := Lib.hid (show Only (fun b => b = gl) w2 w31 from by rw [hw31]; exact (HN30.out.setCell (p := ⟨gl, c2 * 2, none⟩) (.inl rfl) _).setCell (p := ⟨gl, c2 * 2 + 1, none⟩) (.inl rfl) _)
              have HL31 := Lib.hid (show ((List.replicate C (⟨0, 0⟩ : Ins)).set c2 ⟨17, ((i : Int) + 1)⟩).length = C from by rw [List.length_set]; exact HL30.out)
              have Hw31 := Lib.hid hw31
              clear hw31
              go_upto_region 11 with (fail)
              rw [← Hw31.out]
              clear Hw31 k1 m1 kf1 mf1 kl1
              obtain ⟨⟨p2, k2⟩, ⟨q2, m2⟩, kf2, mf2, kl2⟩ := own_insAt HO31.out c2 (by have := HL31.out; omega)
              obtain ⟨w32, hw32⟩ : ∃ w', w' = (w31.setCell ⟨gl, c2 * 2, none⟩ (.int .i64 3)).setCell ⟨gl, c2 * 2 + 1, none⟩ (.int .i64 7) := ⟨_, rfl⟩
              have HO32 := Lib.hid (show Own w32 gl 45 2 (some ⟨gl, 0, none⟩) C C ((((List.replicate C (⟨0, 0⟩ : Ins)).set c2 ⟨17, ((i : Int) + 1)⟩).set c2 ⟨3, 7⟩).flatMap insCells) from by rw [hw32]; exact own_insSet HO31.out c2 (by have := HL31.out; omega) ⟨3, 7⟩)
              have HN32 := Lib.hid (show Only (fun b => b = gl) w2 w32 from by rw [hw32]; exact (HN31.out.setCell (p := ⟨gl, c2 * 2, none⟩) (.inl rfl) _).setCell (p := ⟨gl, c2 * 2 + 1, none⟩) (.inl rfl) _)
              have HL32 := Lib.hid (show (((List.replicate C (⟨0, 0⟩ : Ins)).set c2 ⟨17, ((i : Int) + 1)⟩).set c2 ⟨3, 7⟩).length = C from by rw [List.length_set]; exact HL31.out)
              have Hw32 := Lib.hid hw32
              clear hw32
              go_upto_region 13 with (fail)
              rw [← Hw32.out]
              clear Hw32 k2 m2 kf2 mf2 kl2
              obtain ⟨⟨p3, k3⟩, ⟨q3, m3⟩, kf3, mf3, kl3⟩ := own_insAt HO32.out c1 (by have := HL32.out; omega)
              obtain ⟨w33, hw33⟩ : ∃ w', w' = (w32.setCell ⟨gl, c1 * 2, none⟩ (.int .i64 18)).setCell ⟨gl, c1 * 2 + 1, none⟩ (.int .i64 0) := ⟨_, rfl⟩
              have HO33 := Lib.hid (show Own w33 gl 45 2 (some ⟨gl, 0, none⟩) C C (((((List.replicate C (⟨0, 0⟩ : Ins)).set c2 ⟨17, ((i : Int) + 1)⟩).set c2 ⟨3, 7⟩).set c1 ⟨18, 0⟩).flatMap insCells) from by rw [hw33]; exact own_insSet HO32.out c1 (by have := HL32.out; omega) ⟨18, 0⟩)
              have HN33 := Lib.hid (show Only (fun b => b = gl) w2 w33 from by rw [hw33]; exact (HN32.out.setCell (p := ⟨gl, c1 * 2, none⟩) (.inl rfl) _).setCell (p := ⟨gl, c1 * 2 + 1, none⟩) (.inl rfl) _)
              have HL33 := Lib.hid (show ((((List.replicate C (⟨0, 0⟩ : Ins)).set c2 ⟨17, ((i : Int) + 1)⟩).set c2 ⟨3, 7⟩).set c1 ⟨18, 0⟩).length = C from by rw [List.length_set]; exact HL32.out)
              have Hw33 := Lib.hid hw33
              clear hw33
              go_upto_region 14 with (fail)
              rw [← Hw33.out]
              clear Hw33 k3 m3 kf3 mf3 kl3
              obtain ⟨⟨p4, k4⟩, ⟨q4, m4⟩, kf4, mf4, kl4⟩ := own_insAt HO33.out 0 (by have := HL33.out; omega)
              obtain ⟨w34, hw34⟩ : ∃ w', w' = (w33.setCell ⟨gl, 0 * 2, none⟩ (.int .i64 13)).setCell ⟨gl, 0 * 2 + 1, none⟩ (.int .i64 0) := ⟨_, rfl⟩
              have HO34 := Lib.hid (show Own w34 gl 45 2 (some ⟨gl, 0, none⟩) C C ((((((List.replicate C (⟨0, 0⟩ : Ins)).set c2 ⟨17, ((i : Int) + 1)⟩).set c2 ⟨3, 7⟩).set c1 ⟨18, 0⟩).set 0 ⟨13, 0⟩).flatMap insCells) from by rw [hw34]; exact own_insSet HO33.out 0 (by have := HL33.out; omega) ⟨13, 0⟩)
              have HN34 := Lib.hid (show Only (fun b => b = gl) w2 w34 from by rw [hw34]; exact (HN33.out.setCell (p := ⟨gl, 0 * 2, none⟩) (.inl rfl) _).setCell (p := ⟨gl, 0 * 2 + 1, none⟩) (.inl rfl) _)
              have HL34 := Lib.hid (show (((((List.replicate C (⟨0, 0⟩ : Ins)).set c2 ⟨17, ((i : Int) + 1)⟩).set c2 ⟨3, 7⟩).set c1 ⟨18, 0⟩).set 0 ⟨13, 0⟩).length = C from by rw [List.length_set]; exact HL33.out)
              have Hw34 := Lib.hid hw34
              clear hw34
              go_upto_region 16 with (fail)
              rw [← Hw34.out]
              clear Hw34 k4 m4 kf4 mf4 kl4
              obtain ⟨⟨p5, k5⟩, ⟨q5, m5⟩, kf5, mf5, kl5⟩ := own_insAt HO34.out 1 (by have := HL34.out; omega)
              obtain ⟨w35, hw35⟩ : ∃ w', w' = (w34.setCell ⟨gl, 1 * 2, none⟩ (.int .i64 16)).setCell ⟨gl, 1 * 2 + 1, none⟩ (.int .i64 0) := ⟨_, rfl⟩
              have HO35 := Lib.hid (show Own w35 gl 45 2 (some ⟨gl, 0, none⟩) C C (((((((List.replicate C (⟨0, 0⟩ : Ins)).set c2 ⟨17, ((i : Int) + 1)⟩).set c2 ⟨3, 7⟩).set c1 ⟨18, 0⟩).set 0 ⟨13, 0⟩).set 1 ⟨16, 0⟩).flatMap insCells) from by rw [hw35]; exact own_insSet HO34.out 1 (by have := HL34.out; omega) ⟨16, 0⟩)
              have HN35 := Lib.hid (show Only (fun b => b = gl) w2 w35 from by rw [hw35]; exact (HN34.out.setCell (p := ⟨gl, 1 * 2, none⟩) (.inl rfl) _).setCell (p := ⟨gl, 1 * 2 + 1, none⟩) (.inl rfl) _)
              have HL35 := Lib.hid (show ((((((List.replicate C (⟨0, 0⟩ : Ins)).set c2 ⟨17, ((i : Int) + 1)⟩).set c2 ⟨3, 7⟩).set c1 ⟨18, 0⟩).set 0 ⟨13, 0⟩).set 1 ⟨16, 0⟩).length = C from by rw [List.length_set]; exact HL34.out)
              have Hw35 := Lib.hid hw35
              clear hw35
              go_upto_region 17 with (fail)
              rw [← Hw35.out]
              clear Hw35 k5 m5 kf5 mf5 kl5
              have HCD := Lib.hid (show ((((((List.replicate C (⟨0, 0⟩ : Ins)).set c2 ⟨17, ((i : Int) + 1)⟩).set c2 ⟨3, 7⟩).set c1 ⟨18, 0⟩).set 0 ⟨13, 0⟩).set 1 ⟨16, 0⟩) = (List.range C).map (insC F C true i) from codeC_is HL35.out fun k hk => by
                have hlast := Hlast.out
                have hq1 := Hc1.out
                have hq2 := Hc2.out
                unfold insC
                by_cases k0 : k = 0
                · rw [if_pos ⟨rfl, hlast, k0⟩]
                  subst k0
                  rw [List.getElem?_set_ne (by omega), List.getElem?_set_self (by simp; omega)]
                rw [if_neg (fun h => k0 h.2.2)]
                by_cases k1 : k = 1
                · rw [if_pos ⟨rfl, hlast, k1⟩]
                  subst k1
                  rw [List.getElem?_set_self (by simp; omega)]
                rw [if_neg (fun h => k1 h.2.2), List.getElem?_set_ne (by omega), List.getElem?_set_ne (by omega)]
                by_cases k2 : k + 2 = C
                · rw [if_pos k2, if_pos hlast]
                  obtain rfl : k = c2 := by omega
                  rw [List.getElem?_set_ne (by omega), List.getElem?_set_self (by simp; omega)]
                rw [if_neg k2]
                by_cases k3 : k + 1 = C
                · rw [if_pos k3]
                  obtain rfl : k = c1 := by omega
                  rw [List.getElem?_set_self (by simp; omega)]
                · rw [if_neg k3, List.getElem?_set_ne (by omega), List.getElem?_set_ne (by omega), List.getElem?_set_ne (by omega), List.getElem?_replicate, if_pos hk])
              obtain ⟨cd, hcd⟩ : ∃ l, l = ((((((List.replicate C (⟨0, 0⟩ : Ins)).set c2 ⟨17, ((i : Int) + 1)⟩).set c2 ⟨3, 7⟩).set c1 ⟨18, 0⟩).set 0 ⟨13, 0⟩).set 1 ⟨16, 0⟩) := ⟨_, rfl⟩
              rw [← hcd] at HCD HO35 HL35
              clear hcd
              have hb2z : Only (fun b => b = gl) wr w35 := (Only.of_fresh (S := fun b => b = gl) Hb2.out).trans HN35.out
              have hgl0 : ∀ b, b < wr.heap.size → ¬ b = gl := fun b hb e => by have := Hgl.out; omega
              have hPz := HP.out.only hb2z (hgl0 _ HP.out.lt)
              have hRz := HR.out.only hb2z (hgl0 _ HR.out.lt)
              have hOFz := Own.only HOF.out hb2z fun b o e => hgl0 b (Own.row HOF.out b (by rw [e]; rfl)).2
              have hMz := HM.out.only hb2z fun f hf b e => hgl0 b (HM.out.lt f hf b e).2
              clear hb2z hgl0
              have x2 : w35.cell? ⟨gp, 2, none⟩ = some (.slice AF i cF) := hPz.cell 2
              have xf2 := hPz.frozen 2
              have xl := hPz.lt
              have HPz := Lib.hid hPz
              have HOFz := Lib.hid hOFz
              have HMz := Lib.hid hMz
              have HRz := Lib.hid hRz
              clear hPz hOFz hMz hRz
              go_wp2_with (refine wpList_at 69 rfl ?_; refine wp_stop ?_)
              try refine ⟨?_⟩
              refine wpList_app rfl (.tmp 64) (.tmp 68) eFun rfl rfl (Own.below HOFz.out ((Below.refl _ _).alloc (Nat.le_refl _) _) (Nat.le_refl _)) (m := 1) (c' := 1) (us := [.int .i64 0, .int .i64 L, .int .i64 1, .slice (some ⟨gl, 0, none⟩) C C]) rfl (RV.of_blk (Blk.new w35 43 #[.int .i64 0, .int .i64 L, .int .i64 1, .slice (some ⟨gl, 0, none⟩) C C])) rfl (by intro y hy; simp only [List.mem_cons, List.not_mem_nil, or_false] at hy; rcases hy with rfl | rfl | rfl | rfl <;> rfl) (by unfold maxLen; omega) (by omega) (by have := HN35.out.size; have := Hb2.out.size; simp; omega) (by intro h; cases h) ?_
              intro A8 c8 w8 hown8 hg8 hA8
              have hO8 : Only (fun b => AF.map (·.block) = some b) w35 w8 := Only.grown ((Only.refl _ w35).alloc _) hg8 fun k hk => .inl hk
              have hAFb : ∀ b, AF.map (·.block) = some b → w1.heap.size ≤ b ∧ b < gl := fun b e => by
                have h1 := Own.row HOF.out b e
                rw [Hgl.out]
                exact h1
              have hP8 := HPz.out.only hO8 (fun e => by have := (hAFb _ e).1; have := HZ.out; omega)
              have x28 : w8.cell? ⟨gp, 2, none⟩ = some (.slice AF i cF) := hP8.cell 2
              have xf28 := hP8.frozen 2
              have xl8 := hP8.lt
              obtain ⟨w9, hw9⟩ : ∃ w', w' = w8.setCell ⟨gp, 2, none⟩ (.slice A8 (i + 1) c8) := ⟨_, rfl⟩
              have hO9 : Only (fun b => b = gp) w8 w9 := by rw [hw9]; exact (Only.refl (fun b => b = gp) w8).setCell (p := ⟨gp, 2, none⟩) (.inl rfl) _
              have HP9 := Lib.hid (show Blk w9 gp 26 #[.int .i64 0, .slice none 0 0, .slice A8 (i + 1) c8] from by rw [hw9]; exact hP8.set_ 2 _)
              have hgpl : ∀ b, w1.heap.size ≤ b → ¬ b = gp := fun b hb e => by have := HZ.out; omega
              have HOF9 := Lib.hid (show Own w9 w1.heap.size 43 4 A8 (i + 1) c8 ((hs ++ [(⟨0, L, 1, some ⟨gl, 0, none⟩, C, cd⟩ : FunM)]).flatMap funCells) from by
                rw [List.flatMap_append]
                have e : [(⟨0, L, 1, some ⟨gl, 0, none⟩, C, cd⟩ : FunM)].flatMap funCells = [.int .i64 0, .int .i64 L, .int .i64 1, .slice (some ⟨gl, 0, none⟩) C C] := by
                  show ([.int .i64 0, .int .i64 L, .int .i64 1, .slice (some ⟨gl, 0, none⟩) (cd).length C] : List Value) = _
                  rw [HL35.out]
                rw [e]
                exact Own.only hown8 hO9 fun b o e => hgpl b (Own.row hown8 b (by rw [e]; rfl)).1)
              have HM9 := Lib.hid (show MineR w9 w1.heap.size (hs ++ [(⟨0, L, 1, some ⟨gl, 0, none⟩, C, cd⟩ : FunM)]) from by
                have h1 : MineR w8 w1.heap.size hs := HMz.out.only hO8 fun f hf b e e2 => own_ne HOFz.out (HMz.out.code f hf) (by decide) b e2 e
                have h2 : MineR w9 w1.heap.size hs := h1.only hO9 fun f hf b e => hgpl b (h1.lt f hf b e).1
                refine h2.push (base2 := gl) ?_ (by have := HZ.out; rw [Hgl.out]; exact hz) fun f hf b e => ?_
                · have h3 : Own w8 gl 45 2 (some ⟨gl, 0, none⟩) C C ((cd).flatMap insCells) := Own.only HO35.out hO8 fun b o e e2 => by
                    have e3 := Option.some.inj e
                    injection e3 with e3
                    have := (hAFb b e2).2
                    omega
                  have h4 := Own.only h3 hO9 fun b o e => by
                    have e3 := Option.some.inj e
                    injection e3 with e3
                    exact hgpl b (by rw [← e3, Hgl.out]; exact hz)
                  show Own w9 gl _ 2 (some ⟨gl, 0, none⟩) (cd).length C _
                  rw [HL35.out]
                  exact h4
                · have := (HM.out.lt f hf b e).2
                  rw [Hgl.out]
                  exact this)
              have HR9 := Lib.hid ((HRz.out.only hO8 (fun e => by have := (hAFb _ e).1; have := HZ.out; omega)).only hO9 (fun e => by have := HZ.out; omega))
              have HBz := Lib.hid (show Below w.heap.size w w9 from by
                have h1 := HB.out.trans (Hb2.out.mono HB.out.size)
                have h2 := h1.trans (HN35.out.below (B := w.heap.size) h1.size fun q hq e => by have := Hgl.out; have := HB.out.size; omega)
                have h3 := h2.trans (hO8.below (B := w.heap.size) h2.size fun q hq e => by have := (hAFb q e).1; have := HZ.out; omega)
                exact h3.trans (hO9.below (B := w.heap.size) h3.size fun q hq e => by have := HZ.out; omega))
              have HS9 := Lib.hid (show (hs ++ [(⟨0, L, 1, some ⟨gl, 0, none⟩, C, cd⟩ : FunM)]).length = i + 1 ∧ (hs ++ [(⟨0, L, 1, some ⟨gl, 0, none⟩, C, cd⟩ : FunM)]).map FunM.plain = (List.range (i + 1)).map fun k => ⟨0, L, 1, (List.range C).map (insC F C true k)⟩ from by
                refine ⟨by rw [List.length_append, HS.out.1]; rfl, ?_⟩
                rw [List.map_append, HS.out.2, List.range_succ, List.map_append]
                congr 1
                show [(⟨0, L, 1, cd⟩ : Fun)] = [⟨0, L, 1, (List.range C).map (insC F C true i)⟩]
                rw [← HCD.out])
              have hz9 : w1.heap.size ≤ w9.heap.size := by
                have h1 := hO8.size
                have h2 := hO9.size
                have h3 := HN35.out.size
                have h4 := Hb2.out.size
                omega
              have Hw9 := Lib.hid hw9
              clear hown8 hg8 hA8 hO8 hAFb hP8 hw9 hO9 hgpl x2 xf2 xl
              go_wp2_with fail
              rw [← Hw9.out]
              exact ⟨⟨i + 1, _, A8, c8, by omega, by first | rfl | go_num, HS9, HP9.out, HOF9.out, HM9.out, HR9.out, HBz.out, hz9⟩, by simp [intOf]; omega⟩
          · have g5 : ¬ (i : Int) = (f1 : Int) := by have := Hf1.out; omega
            have g5b : ((i : Int) == (f1 : Int)) = false := by simpa using g5
            have Hlast := Lib.hid hlast
            clear hlast
            cases lp with
            | false =>
              obtain ⟨⟨p1, k1⟩, ⟨q1, m1⟩, kf1, mf1, kl1⟩ := own_insAt HO30.out c2 (by have := HL30.out; omega)
              obtain ⟨w31, hw31⟩ : ∃ w', w' = (w30.setCell ⟨gl, c2 * 2, none⟩ (.int .i64 17)).setCell ⟨gl, c2 * 2 + 1, none⟩ (.int .i64 ((i : Int) + 1)) := ⟨_, rfl⟩
              have HO31 := Lib.hid (show Own w31 gl 45 2 (some ⟨gl, 0, none⟩) C C (((List.replicate C (⟨0, 0⟩ : Ins)).set c2 ⟨17, ((i : Int) + 1)⟩).flatMap insCells) from by rw [hw31]; exact own_insSet HO30.out c2 (by have := HL30.out; omega) ⟨17, ((i : Int) + 1)⟩)
              have HN31 := Lib.hid (show Only (fun b => b = gl) w2 w31 from by rw [hw31]; exact (HN30.out.setCell (p := ⟨gl, c2 * 2, none⟩) (.inl rfl) _).setCell (p := ⟨gl, c2 * 2 + 1, none⟩) (.inl rfl) _)
              have HL31 := Lib.hid (show ((List.replicate C (⟨0, 0⟩ : Ins)).set c2 ⟨17, ((i : Int) + 1)⟩).length = C from by rw [List.length_set]; exact HL30.out)
              have Hw31 := Lib.hid hw31
              clear hw31
              go_upto_region 11 with (fail)
              rw [← Hw31.out]
              clear Hw31 k1 m1 kf1 mf1 kl1
              obtain ⟨⟨p2, k2⟩, ⟨q2, m2⟩, kf2, mf2, kl2⟩ := own_insAt HO31.out c1 (by have := HL31.out; omega)
              obtain ⟨w32, hw32⟩ : ∃ w', w' = (w31.setCell ⟨gl, c1 * 2, none⟩ (.int .i64 18)).setCell ⟨gl, c1 * 2 + 1, none⟩ (.int .i64 0) := ⟨_, rfl⟩
              have HO32 := Lib.hid (show Own w32 gl 45 2 (some ⟨gl, 0, none⟩) C C ((((List.replicate C (⟨0, 0⟩ : Ins)).set c2 ⟨17, ((i : Int) + 1)⟩).set c1 ⟨18, 0⟩).flatMap insCells) from by rw [hw32]; exact own_insSet HO31.out c1 (by have := HL31.out; omega) ⟨18, 0⟩)
              have HN32 := Lib.hid (show Only (fun b => b = gl) w2 w32 from by rw [hw32]; exact (HN31.out.setCell (p := ⟨gl, c1 * 2, none⟩) (.inl rfl) _).setCell (p := ⟨gl, c1 * 2 + 1, none⟩) (.inl rfl) _)
              have HL32 := Lib.hid (show (((List.replicate C (⟨0, 0⟩ : Ins)).set c2 ⟨17, ((i : Int) + 1)⟩).set c1 ⟨18, 0⟩).length = C from by rw [List.length_set]; exact HL31.out)
              have Hw32 := Lib.hid hw32
              clear hw32
              go_upto_region 14 with (fail)
              rw [← Hw32.out]
              clear Hw32 k2 m2 kf2 mf2 kl2
              have HCD := Lib.hid (show (((List.replicate C (⟨0, 0⟩ : Ins)).set c2 ⟨17, ((i : Int) + 1)⟩).set c1 ⟨18, 0⟩) = (List.range C).map (insC F C false i) from codeC_is HL32.out fun k hk => by
                have hlast := Hlast.out
                have hq1 := Hc1.out
                have hq2 := Hc2.out
                unfold insC
                rw [if_neg (fun h => hlast h.2.1), if_neg (fun h => hlast h.2.1)]
                by_cases k2 : k + 2 = C
                · rw [if_pos k2, if_neg hlast]
                  obtain rfl : k = c2 := by omega
                  rw [List.getElem?_set_ne (by omega), List.getElem?_set_self (by simp; omega)]
                rw [if_neg k2]
                by_cases k3 : k + 1 = C
                · rw [if_pos k3]
                  obtain rfl : k = c1 := by omega
                  rw [List.getElem?_set_self (by simp; omega)]
                · rw [if_neg k3, List.getElem?_set_ne (by omega), List.getElem?_set_ne (by omega), List.getElem?_replicate, if_pos hk])
              obtain ⟨cd, hcd⟩ : ∃ l, l = (((List.replicate C (⟨0, 0⟩ : Ins)).set c2 ⟨17, ((i : Int) + 1)⟩).set c1 ⟨18, 0⟩) := ⟨_, rfl⟩
              rw [← hcd] at HCD HO32 HL32
              clear hcd
              have hb2z : Only (fun b => b = gl) wr w32 := (Only.of_fresh (S := fun b => b = gl) Hb2.out).trans HN32.out
              have hgl0 : ∀ b, b < wr.heap.size → ¬ b = gl := fun b hb e => by have := Hgl.out; omega
              have hPz := HP.out.only hb2z (hgl0 _ HP.out.lt)
              have hRz := HR.out.only hb2z (hgl0 _ HR.out.lt)
              have hOFz := Own.only HOF.out hb2z fun b o e => hgl0 b (Own.row HOF.out b (by rw [e]; rfl)).2
              have hMz := HM.out.only hb2z fun f hf b e => hgl0 b (HM.out.lt f hf b e).2
              clear hb2z hgl0
              have x2 : w32.cell? ⟨gp, 2, none⟩ = some (.slice AF i cF) := hPz.cell 2
              have xf2 := hPz.frozen 2
              have xl := hPz.lt
              have HPz := Lib.hid hPz
              have HOFz := Lib.hid hOFz
              have HMz := Lib.hid hMz
              have HRz := Lib.hid hRz
              clear hPz hOFz hMz hRz
              go_wp2_with (refine wpList_at 69 rfl ?_; refine wp_stop ?_)
              try refine ⟨?_⟩
              refine wpList_app rfl (.tmp 64) (.tmp 68) eFun rfl rfl (Own.below HOFz.out ((Below.refl _ _).alloc (Nat.le_refl _) _) (Nat.le_refl _)) (m := 1) (c' := 1) (us := [.int .i64 0, .int .i64 L, .int .i64 1, .slice (some ⟨gl, 0, none⟩) C C]) rfl (RV.of_blk (Blk.new w32 43 #[.int .i64 0, .int .i64 L, .int .i64 1, .slice (some ⟨gl, 0, none⟩) C C])) rfl (by intro y hy; simp only [List.mem_cons, List.not_mem_nil, or_false] at hy; rcases hy with rfl | rfl | rfl | rfl <;> rfl) (by unfold maxLen; omega) (by omega) (by have := HN32.out.size; have := Hb2.out.size; simp; omega) (by intro h; cases h) ?_
              intro A8 c8 w8 hown8 hg8 hA8
              have hO8 : Only (fun b => AF.map (·.block) = some b) w32 w8 := Only.grown ((Only.refl _ w32).alloc _) hg8 fun k hk => .inl hk
              have hAFb : ∀ b, AF.map (·.block) = some b → w1.heap.size ≤ b ∧ b < gl := fun b e => by
                have h1 := Own.row HOF.out b e
                rw [Hgl.out]
                exact h1
              have hP8 := HPz.out.only hO8 (fun e => by have := (hAFb _ e).1; have := HZ.out; omega)
              have x28 : w8.cell? ⟨gp, 2, none⟩ = some (.slice AF i cF) := hP8.cell 2
              have xf28 := hP8.frozen 2
              have xl8 := hP8.lt
              obtain ⟨w9, hw9⟩ : ∃ w', w' = w8.setCell ⟨gp, 2, none⟩ (.slice A8 (i + 1) c8) := ⟨_, rfl⟩
              have hO9 : Only (fun b => b = gp) w8 w9 := by rw [hw9]; exact (Only.refl (fun b => b = gp) w8).setCell (p := ⟨gp, 2, none⟩) (.inl rfl) _
              have HP9 := Lib.hid (show Blk w9 gp 26 #[.int .i64 0, .slice none 0 0, .slice A8 (i + 1) c8] from by rw [hw9]; exact hP8.set_ 2 _)
              have hgpl : ∀ b, w1.heap.size ≤ b → ¬ b = gp := fun b hb e => by have := HZ.out; omega
              have HOF9 := Lib.hid (show Own w9 w1.heap.size 43 4 A8 (i + 1) c8 ((hs ++ [(⟨0, L, 1, some ⟨gl, 0, none⟩, C, cd⟩ : FunM)]).flatMap funCells) from by
                rw [List.flatMap_append]
                have e : [(⟨0, L, 1, some ⟨gl, 0, none⟩, C, cd⟩ : FunM)].flatMap funCells = [.int .i64 0, .int .i64 L, .int .i64 1, .slice (some ⟨gl, 0, none⟩) C C] := by
                  show ([.int .i64 0, .int .i64 L, .int .i64 1, .slice (some ⟨gl, 0, none⟩) (cd).length C] : List Value) = _
                  rw [HL32.out]
                rw [e]
                exact Own.only hown8 hO9 fun b o e => hgpl b (Own.row hown8 b (by rw [e]; rfl)).1)
              have HM9 := Lib.hid (show MineR w9 w1.heap.size (hs ++ [(⟨0, L, 1, some ⟨gl, 0, none⟩, C, cd⟩ : FunM)]) from by
                have h1 : MineR w8 w1.heap.size hs := HMz.out.only hO8 fun f hf b e e2 => own_ne HOFz.out (HMz.out.code f hf) (by decide) b e2 e
                have h2 : MineR w9 w1.heap.size hs := h1.only hO9 fun f hf b e => hgpl b (h1.lt f hf b e).1
                refine h2.push (base2 := gl) ?_ (by have := HZ.out; rw [Hgl.out]; exact hz) fun f hf b e => ?_
                · have h3 : Own w8 gl 45 2 (some ⟨gl, 0, none⟩) C C ((cd).flatMap insCells) := Own.only HO32.out hO8 fun b o e e2 => by
                    have e3 := Option.some.inj e
                    injection e3 with e3
                    have := (hAFb b e2).2
                    omega
                  have h4 := Own.only h3 hO9 fun b o e => by
                    have e3 := Option.some.inj e
                    injection e3 with e3
                    exact hgpl b (by rw [← e3, Hgl.out]; exact hz)
                  show Own w9 gl _ 2 (some ⟨gl, 0, none⟩) (cd).length C _
                  rw [HL32.out]
                  exact h4
                · have := (HM.out.lt f hf b e).2
                  rw [Hgl.out]
                  exact this)
              have HR9 := Lib.hid ((HRz.out.only hO8 (fun e => by have := (hAFb _ e).1; have := HZ.out; omega)).only hO9 (fun e => by have := HZ.out; omega))
              have HBz := Lib.hid (show Below w.heap.size w w9 from by
                have h1 := HB.out.trans (Hb2.out.mono HB.out.size)
                have h2 := h1.trans (HN32.out.below (B := w.heap.size) h1.size fun q hq e => by have := Hgl.out; have := HB.out.size; omega)
                have h3 := h2.trans (hO8.below (B := w.heap.size) h2.size fun q hq e => by have := (hAFb q e).1; have := HZ.out; omega)
                exact h3.trans (hO9.below (B := w.heap.size) h3.size fun q hq e => by have := HZ.out; omega))
              have HS9 := Lib.hid (show (hs ++ [(⟨0, L, 1, some ⟨gl, 0, none⟩, C, cd⟩ : FunM)]).length = i + 1 ∧ (hs ++ [(⟨0, L, 1, some ⟨gl, 0, none⟩, C, cd⟩ : FunM)]).map FunM.plain = (List.range (i + 1)).map fun k => ⟨0, L, 1, (List.range C).map (insC F C false k)⟩ from by
                refine ⟨by rw [List.length_append, HS.out.1]; rfl, ?_⟩
                rw [List.map_append, HS.out.2, List.range_succ, List.map_append]
                congr 1
                show [(⟨0, L, 1, cd⟩ : Fun)] = [⟨0, L, 1, (List.range C).map (insC F C false i)⟩]
                rw [← HCD.out])
              have hz9 : w1.heap.size ≤ w9.heap.size := by
                have h1 := hO8.size
                have h2 := hO9.size
                have h3 := HN32.out.size
                have h4 := Hb2.out.size
                omega
              have Hw9 := Lib.hid hw9
              clear hown8 hg8 hA8 hO8 hAFb hP8 hw9 hO9 hgpl x2 xf2 xl
              go_wp2_with fail
              rw [← Hw9.out]
              exact ⟨⟨i + 1, _, A8, c8, by omega, by first | rfl | go_num, HS9, HP9.out, HOF9.out, HM9.out, HR9.out, HBz.out, hz9⟩, by simp [intOf]; omega⟩
            | true =>
              obtain ⟨⟨p1, k1⟩, ⟨q1, m1⟩, kf1, mf1, kl1⟩ := own_insAt HO30.out c2 (by have := HL30.out; omega)
              obtain ⟨w31, hw31⟩ : ∃ w', w' = (w30.setCell ⟨gl, c2 * 2, none⟩ (.int .i64 17)).setCell ⟨gl, c2 * 2 + 1, none⟩ (.int .i64 ((i : Int) + 1)) := ⟨_, rfl⟩
              have HO31 := Lib.hid (show Own w31 gl 45 2 (some ⟨gl, 0, none⟩) C C (((List.replicate C (⟨0, 0⟩ : Ins)).set c2 ⟨17, ((i : Int) + 1)⟩).flatMap insCells) from by rw [hw31]; exact own_insSet HO30.out c2 (by have := HL30.out; omega) ⟨17, ((i : Int) + 1)⟩)
              have HN31 := Lib.hid (show Only (fun b => b = gl) w2 w31 from by rw [hw31]; exact (HN30.out.setCell (p := ⟨gl, c2 * 2, none⟩) (.inl rfl) _).setCell (p := ⟨gl, c2 * 2 + 1, none⟩) (.inl rfl) _)
              have HL31 := Lib.hid (show ((List.replicate C (⟨0, 0⟩ : Ins)).set c2 ⟨17, ((i : Int) + 1)⟩).length = C from by rw [List.length_set]; exact HL30.out)
              have Hw31 := Lib.hid hw31
              clear hw31
              go_upto_region 11 with (fail)
              rw [← Hw31.out]
              clear Hw31 k1 m1 kf1 mf1 kl1
              obtain ⟨⟨p2, k2⟩, ⟨q2, m2⟩, kf2, mf2, kl2⟩ := own_insAt HO31.out c1 (by have := HL31.out; omega)
              obtain ⟨w32, hw32⟩ : ∃ w', w' = (w31.setCell ⟨gl, c1 * 2, none⟩ (.int .i64 18)).setCell ⟨gl, c1 * 2 + 1, none⟩ (.int .i64 0) := ⟨_, rfl⟩
              have HO32 := Lib.hid (show Own w32 gl 45 2 (some ⟨gl, 0, none⟩) C C ((((List.replicate C (⟨0, 0⟩ : Ins)).set c2 ⟨17, ((i : Int) + 1)⟩).set c1 ⟨18, 0⟩).flatMap insCells) from by rw [hw32]; exact own_insSet HO31.out c1 (by have := HL31.out; omega) ⟨18, 0⟩)
              have HN32 := Lib.hid (show Only (fun b => b = gl) w2 w32 from by rw [hw32]; exact (HN31.out.setCell (p := ⟨gl, c1 * 2, none⟩) (.inl rfl) _).setCell (p := ⟨gl, c1 * 2 + 1, none⟩) (.inl rfl) _)
              have HL32 := Lib.hid (show (((List.replicate C (⟨0, 0⟩ : Ins)).set c2 ⟨17, ((i : Int) + 1)⟩).set c1 ⟨18, 0⟩).length = C from by rw [List.length_set]; exact HL31.out)
              have Hw32 := Lib.hid hw32
              clear hw32
              go_upto_region 14 with (fail)
              rw [← Hw32.out]
              clear Hw32 k2 m2 kf2 mf2 kl2
              have HCD := Lib.hid (show (((List.replicate C (⟨0, 0⟩ : Ins)).set c2 ⟨17, ((i : Int) + 1)⟩).set c1 ⟨18, 0⟩) = (List.range C).map (insC F C true i) from codeC_is HL32.out fun k hk => by
                have hlast := Hlast.out
                have hq1 := Hc1.out
                have hq2 := Hc2.out
                unfold insC
                rw [if_neg (fun h => hlast h.2.1), if_neg (fun h => hlast h.2.1)]
                by_cases k2 : k + 2 = C
                · rw [if_pos k2, if_neg hlast]
                  obtain rfl : k = c2 := by omega
                  rw [List.getElem?_set_ne (by omega), List.getElem?_set_self (by simp; omega)]
                rw [if_neg k2]
                by_cases k3 : k + 1 = C
                · rw [if_pos k3]
                  obtain rfl : k = c1 := by omega
                  rw [List.getElem?_set_self (by simp; omega)]
                · rw [if_neg k3, List.getElem?_set_ne (by omega), List.getElem?_set_ne (by omega), List.getElem?_replicate, if_pos hk])
              obtain ⟨cd, hcd⟩ : ∃ l, l = (((List.replicate C (⟨0, 0⟩ : Ins)).set c2 ⟨17, ((i : Int) + 1)⟩).set c1 ⟨18, 0⟩) := ⟨_, rfl⟩
              rw [← hcd] at HCD HO32 HL32
              clear hcd
              have hb2z : Only (fun b => b = gl) wr w32 := (Only.of_fresh (S := fun b => b = gl) Hb2.out).trans HN32.out
              have hgl0 : ∀ b, b < wr.heap.size → ¬ b = gl := fun b hb e => by have := Hgl.out; omega
              have hPz := HP.out.only hb2z (hgl0 _ HP.out.lt)
              have hRz := HR.out.only hb2z (hgl0 _ HR.out.lt)
              have hOFz := Own.only HOF.out hb2z fun b o e => hgl0 b (Own.row HOF.out b (by rw [e]; rfl)).2
              have hMz := HM.out.only hb2z fun f hf b e => hgl0 b (HM.out.lt f hf b e).2
              clear hb2z hgl0
              have x2 : w32.cell? ⟨gp, 2, none⟩ = some (.slice AF i cF) := hPz.cell 2
              have xf2 := hPz.frozen 2
              have xl := hPz.lt
              have HPz := Lib.hid hPz
              have HOFz := Lib.hid hOFz
              have HMz := Lib.hid hMz
              have HRz := Lib.hid hRz
              clear hPz hOFz hMz hRz
              go_wp2_with (refine wpList_at 69 rfl ?_; refine wp_stop ?_)
              try refine ⟨?_⟩
              refine wpList_app rfl (.tmp 64) (.tmp 68) eFun rfl rfl (Own.below HOFz.out ((Below.refl _ _).alloc (Nat.le_refl _) _) (Nat.le_refl _)) (m := 1) (c' := 1) (us := [.int .i64 0, .int .i64 L, .int .i64 1, .slice (some ⟨gl, 0, none⟩) C C]) rfl (RV.of_blk (Blk.new w32 43 #[.int .i64 0, .int .i64 L, .int .i64 1, .slice (some ⟨gl, 0, none⟩) C C])) rfl (by intro y hy; simp only [List.mem_cons, List.not_mem_nil, or_false] at hy; rcases hy with rfl | rfl | rfl | rfl <;> rfl) (by unfold maxLen; omega) (by omega) (by have := HN32.out.size; have := Hb2.out.size; simp; omega) (by intro h; cases h) ?_
              intro A8 c8 w8 hown8 hg8 hA8
              have hO8 : Only (fun b => AF.map (·.block) = some b) w32 w8 := Only.grown ((Only.refl _ w32).alloc _) hg8 fun k hk => .inl hk
              have hAFb : ∀ b, AF.map (·.block) = some b → w1.heap.size ≤ b ∧ b < gl := fun b e => by
                have h1 := Own.row HOF.out b e
                rw [Hgl.out]
                exact h1
              have hP8 := HPz.out.only hO8 (fun e => by have := (hAFb _ e).1; have := HZ.out; omega)
              have x28 : w8.cell? ⟨gp, 2, none⟩ = some (.slice AF i cF) := hP8.cell 2
              have xf28 := hP8.frozen 2
              have xl8 := hP8.lt
              obtain ⟨w9, hw9⟩ : ∃ w', w' = w8.setCell ⟨gp, 2, none⟩ (.slice A8 (i + 1) c8) := ⟨_, rfl⟩
              have hO9 : Only (fun b => b = gp) w8 w9 := by rw [hw9]; exact (Only.refl (fun b => b = gp) w8).setCell (p := ⟨gp, 2, none⟩) (.inl rfl) _
              have HP9 := Lib.hid (show Blk w9 gp 26 #[.int .i64 0, .slice none 0 0, .slice A8 (i + 1) c8] from by rw [hw9]; exact hP8.set_ 2 _)
              have hgpl : ∀ b, w1.heap.size ≤ b → ¬ b = gp := fun b hb e => by have := HZ.out; omega
              have HOF9 := Lib.hid (show Own w9 w1.heap.size 43 4 A8 (i + 1) c8 ((hs ++ [(⟨0, L, 1, some ⟨gl, 0, none⟩, C, cd⟩ : FunM)]).flatMap funCells) from by
                rw [List.flatMap_append]
                have e : [(⟨0, L, 1, some ⟨gl, 0, none⟩, C, cd⟩ : FunM)].flatMap funCells = [.int .i64 0, .int .i64 L, .int .i64 1, .slice (some ⟨gl, 0, none⟩) C C] := by
                  show ([.int .i64 0, .int .i64 L, .int .i64 1, .slice (some ⟨gl, 0, none⟩) (cd).length C] : List Value) = _
                  rw [HL32.out]
                rw [e]
                exact Own.only hown8 hO9 fun b o e => hgpl b (Own.row hown8 b (by rw [e]; rfl)).1)
              have HM9 := Lib.hid (show MineR w9 w1.heap.size (hs ++ [(⟨0, L, 1, some ⟨gl, 0, none⟩, C, cd⟩ : FunM)]) from by
                have h1 : MineR w8 w1.heap.size hs := HMz.out.only hO8 fun f hf b e e2 => own_ne HOFz.out (HMz.out.code f hf) (by decide) b e2 e
                have h2 : MineR w9 w1.heap.size hs := h1.only hO9 fun f hf b e => hgpl b (h1.lt f hf b e).1
                refine h2.push (base2 := gl) ?_ (by have := HZ.out; rw [Hgl.out]; exact hz) fun f hf b e => ?_
                · have h3 : Own w8 gl 45 2 (some ⟨gl, 0, none⟩) C C ((cd).flatMap insCells) := Own.only HO32.out hO8 fun b o e e2 => by
                    have e3 := Option.some.inj e
                    injection e3 with e3
                    have := (hAFb b e2).2
                    omega
                  have h4 := Own.only h3 hO9 fun b o e => by
                    have e3 := Option.some.inj e
                    injection e3 with e3
                    exact hgpl b (by rw [← e3, Hgl.out]; exact hz)
                  show Own w9 gl _ 2 (some ⟨gl, 0, none⟩) (cd).length C _
                  rw [HL32.out]
                  exact h4
                · have := (HM.out.lt f hf b e).2
                  rw [Hgl.out]
                  exact this)
              have HR9 := Lib.hid ((HRz.out.only hO8 (fun e => by have := (hAFb _ e).1; have := HZ.out; omega)).only hO9 (fun e => by have := HZ.out; omega))
              have HBz := Lib.hid (show Below w.heap.size w w9 from by
                have h1 := HB.out.trans (Hb2.out.mono HB.out.size)
                have h2 := h1.trans (HN32.out.below (B := w.heap.size) h1.size fun q hq e => by have := Hgl.out; have := HB.out.size; omega)
                have h3 := h2.trans (hO8.below (B := w.heap.size) h2.size fun q hq e => by have := (hAFb q e).1; have := HZ.out; omega)
                exact h3.trans (hO9.below (B := w.heap.size) h3.size fun q hq e => by have := HZ.out; omega))
              have HS9 := Lib.hid (show (hs ++ [(⟨0, L, 1, some ⟨gl, 0, none⟩, C, cd⟩ : FunM)]).length = i + 1 ∧ (hs ++ [(⟨0, L, 1, some ⟨gl, 0, none⟩, C, cd⟩ : FunM)]).map FunM.plain = (List.range (i + 1)).map fun k => ⟨0, L, 1, (List.range C).map (insC F C true k)⟩ from by
                refine ⟨by rw [List.length_append, HS.out.1]; rfl, ?_⟩
                rw [List.map_append, HS.out.2, List.range_succ, List.map_append]
                congr 1
                show [(⟨0, L, 1, cd⟩ : Fun)] = [⟨0, L, 1, (List.range C).map (insC F C true i)⟩]
                rw [← HCD.out])
              have hz9 : w1.heap.size ≤ w9.heap.size := by
                have h1 := hO8.size
                have h2 := hO9.size
                have h3 := HN32.out.size
                have h4 := Hb2.out.size
                omega
              have Hw9 := Lib.hid hw9
              clear hown8 hg8 hA8 hO8 hAFb hP8 hw9 hO9 hgpl x2 xf2 xl
              go_wp2_with fail
              rw [← Hw9.out]
              exact ⟨⟨i + 1, _, A8, c8, by omega, by first | rfl | go_num, HS9, HP9.out, HOF9.out, HM9.out, HR9.out, HBz.out, hz9⟩, by simp [intOf]; omega⟩
    · obtain rfl : i = F := by omega
      have x0 : wr.cell? ⟨gp, 0, none⟩ = some (.int .i64 0) := hP.cell 0
      have x1 : wr.cell? ⟨gp, 1, none⟩ = some (.slice none 0 0) := hP.cell 1
      have x2 : wr.cell? ⟨gp, 2, none⟩ = some (.slice AF i cF) := hP.cell 2
      have xl := hP.lt
      have r0 : wr.cell? ⟨gr, 0, none⟩ = some (.int .i64 0) := hR.cell 0
      have r1 : wr.cell? ⟨gr, 1, none⟩ = some (.slice none 0 0) := hR.cell 1
      have r2 : wr.cell? ⟨gr, 2, none⟩ = some (.slice none 0 0) := hR.cell 2
      have rf0 := hR.frozen 0
      have rf1 := hR.frozen 1
      have rf2 := hR.frozen 2
      have rl := hR.lt
      have hgg : ¬ gr = gp := by have := HZ.out; omega
      clear hP hOF hM hR hB
      go_wp2_with fail
      have hO5 : Only (fun b => b = gr) wr (((wr.setCell ⟨gr, 0, none⟩ (.int .i64 0)).setCell ⟨gr, 1, none⟩ (.slice none 0 0)).setCell ⟨gr, 2, none⟩ (.slice AF i cF)) :=
        (((Only.refl (fun b => b = gr) wr).setCell (p := ⟨gr, 0, none⟩) (.inl rfl) _).setCell (p := ⟨gr, 1, none⟩) (.inl rfl) _).setCell (p := ⟨gr, 2, none⟩) (.inl rfl) _
      have hB5 : Below w.heap.size w (((wr.setCell ⟨gr, 0, none⟩ (.int .i64 0)).setCell ⟨gr, 1, none⟩ (.slice none 0 0)).setCell ⟨gr, 2, none⟩ (.slice AF i cF)) := HB.out.trans (hO5.below HB.out.size fun q hq e => by have := HZ.out; omega)
      have hne : ∀ b, w1.heap.size ≤ b → ¬ b = gr := fun b hb e => by have := HZ.out; omega
      have hmn : PrgMine (((wr.setCell ⟨gr, 0, none⟩ (.int .i64 0)).setCell ⟨gr, 1, none⟩ (.slice none 0 0)).setCell ⟨gr, 2, none⟩ (.slice AF i cF)) w.heap.size ⟨0, none, 0, [], AF, cF, hs⟩ := by
        refine ⟨Own.nil _ _ _ _, ?_, (HM.out.only hO5 fun f hf b e => hne b (HM.out.lt f hf b e).1).mono (by have := HZ.out; omega)⟩
        have h1 := (Own.only HOF.out hO5 fun b o e => hne b (Own.row HOF.out b (by rw [e]; rfl)).1).mono (base' := w.heap.size) (by have := HZ.out; omega)
        show Own _ _ _ 4 AF hs.length cF _
        rw [HS.out.1]
        exact h1
      have HB5 := Lib.hid hB5
      have HMn := Lib.hid hmn
      clear hB5 hmn hO5 hne
      refine bodyPost_ret (v := .agg #[.int .i64 0, .slice none 0 0, .slice AF i cF]) ?_ rfl ⟨⟨0, none, 0, [], AF, cF, hs⟩, ?_, ?_, HMn.out, HB5.out⟩
      · simp [results, Try.results12, go_sem, r0, r1, r2]
      · dsimp only [PrgM.val, List.length_nil]
        rw [HS.out.1]
      · unfold PrgM.plain
        rw [HS.out.2]
        rfl
end Go.Proofs.Ytcmpmhlcfalbhaa
