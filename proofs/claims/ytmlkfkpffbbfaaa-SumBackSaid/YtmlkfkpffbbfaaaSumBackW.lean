/- The walk of SumBack: it returns true. -/
import Derived.Test.YtmlkfkpffbbfaaaShaBk
import Derived.Test.YtmlkfkpffbbfaaaShaGi
import Derived.Test.YtmlkfkpffbbfaaaSumCutsW
import Derived.Test.YtmlkfkpffbbfaaaSumOrderW
import Derived.WalkLawsBesides
namespace Go.Proofs.Ytmlkfkpffbbfaaa
open Go.RowKit

/-- What is known of a text that came in. -/
theorem parse_back (s : List UInt8) : ∃ (c : List UInt8) (e : Int), parseV s = .tuple #[aggB c, .int .i64 e] ∧ c.length = 32 ∧ ((e = 0 ∧ textL c = s) ∨ (e = 21 ∧ c = zero32)) := by
  unfold parseV
  by_cases h : s.length = 64 ∧ allHex s = true
  · exact ⟨_, 0, by rw [if_pos h], length_parseK s 64, .inl ⟨rfl, text_parse s h.1 h.2⟩⟩
  · exact ⟨_, 21, by rw [if_neg h], rfl, .inr ⟨rfl, rfl⟩⟩
set_option maxRecDepth 100000 in
set_option maxHeartbeats 8000000 in
theorem sumBack_walk (d : List UInt8) (hd : d.length = 32) (s : List UInt8) (i : Int) (hi1 : -9223372036854775808 ≤ i) (hi2 : i ≤ 9223372036854775807) (w : World) :
    Calls Try.prog 11 #[aggB d, .string ⟨s.toArray⟩, .int .i64 i] w fun e w' => e = .returned (.bool true) ∧ Below w.heap.size w w' := by
  have Hd := Lib.hid hd
  have Hs := Lib.hid (map_bv_len d hd)
  have Hpt := Lib.hid (parse_text d hd)
  have htl : (textL d).length = 64 := by rw [length_textL, hd]
  obtain ⟨p, ep, hpv, hpl, hpc⟩ := parse_back s
  have Hpv := Lib.hid hpv
  have Hpl := Lib.hid hpl
  have Hsp := Lib.hid (map_bv_len p hpl)
  have Hpc := Lib.hid hpc
  have htz : (⟨(textL d).toArray⟩ : ByteArray).size = 64 := by show (textL d).toArray.size = 64; simpa using htl
  clear hd hpv hpl hpc htl
  go_enter Try.func11, Try.ntmps11
  go_wp2_with (refine wpList_at 3 rfl ?_; refine wpList_boxB rfl 28 (.tmp 0) rfl (d.map bv) rfl ?_; intro w1 hblk1 hb1 hz1)
  have HB1 := Lib.hid hb1
  have hs1 : w.heap.size < w1.heap.size := by omega
  clear hb1 hz1
  refine (known_any w1).mono ?_
  rintro e w2 ⟨rfl, hb2⟩
  have HB2 : Hid (Below w.heap.size w w2) := Lib.hid (HB1.out.trans (hb2.mono HB1.out.size))
  have kd2 := hblk1.below hb2 hblk1.lt
  have hs2 : w.heap.size < w2.heap.size := by have := hb2.size; omega
  clear hblk1 hb2 hs1
  go_wp2_with (refine wpList_at 19 rfl ?_; refine wpList_loadG rfl 28 (.tmp 3) rfl w.heap.size rfl (d.map bv) _ kd2 Try.underlying28 rfl Hs.out ?_)
  refine (text_any d Hd.out w2).mono ?_
  rintro e w3 ⟨rfl, hb3⟩
  have HB3 : Hid (Below w.heap.size w w3) := Lib.hid (HB2.out.trans (hb3.mono HB2.out.size))
  have kd3 := kd2.below hb3 kd2.lt
  have hs3 : w.heap.size < w3.heap.size := by have := hb3.size; omega
  clear kd2 hb3 hs2
  go_wp2_with fail
  refine (parse_any (textL d) w3).mono ?_
  rintro e w4 ⟨rfl, hb4⟩
  rw [Hpt.out]
  have HB4 : Hid (Below w.heap.size w w4) := Lib.hid (HB3.out.trans (hb4.mono HB3.out.size))
  have kd4 := kd3.below hb4 kd3.lt
  have hs4 : w.heap.size < w4.heap.size := by have := hb4.size; omega
  clear kd3 hb4 hs3
  go_wp2_with (first | (refine wpList_at 8 rfl ?_; refine wpList_allocZ rfl 28 rfl (List.replicate 32 (.int .u8 0)) (fun ev w => by kernel_rfl) ?_; intro w5 nw5 hbw5 hzw5; have hbw5' := hbw5; have hzw5' := hzw5; clear hbw5 hzw5) | (refine wpList_atStore 28 (.tmp 8) (.tmp 24) rfl ?_; refine wp_stop ?_))
  refine ⟨?_⟩
  refine wpList_storeB rfl 28 (.tmp 8) (.tmp 24) rfl (d.map bv) rfl rfl nw5 Hs.out (by rw [List.length_map, Hd.out]; rfl) (map_bv_one _) ?_
  intro w6 ka6 ho6 hz6
  have kd6 := (kd4.below hbw5' kd4.lt).only ho6 (by omega)
  have HB5 : Hid (Below w.heap.size w w5) := Lib.hid (HB4.out.trans (hbw5'.mono HB4.out.size))
  have HB6 : Hid (Below w.heap.size w w6) := Lib.hid (HB5.out.trans (ho6.below HB5.out.size fun k hk => by omega))
  have hs6 : w4.heap.size < w6.heap.size := by omega
  clear kd4 nw5 hbw5' hzw5' ho6 hz6
  have heqd := fun w => run_eqArr (P := Try.prog) (w := w) Try.underlying28 Try.underlying5 size1B Hd.out Hd.out
  rw [decide_eq_true (rfl : d = d)] at heqd
  go_wp2_with (first
    | (refine wpList_at 29 rfl ?_; refine wpList_loadG rfl 28 (.tmp 8) rfl w4.heap.size rfl (d.map bv) _ ka6 Try.underlying28 rfl Hs.out ?_)
    | (refine wpList_at 30 rfl ?_; refine wpList_loadG rfl 28 (.tmp 3) rfl w.heap.size rfl (d.map bv) _ kd6 Try.underlying28 rfl Hs.out ?_))
  clear heqd htz
  refine (parse_any s w6).mono ?_
  rintro e w7 ⟨rfl, hb7⟩
  rw [Hpv.out]
  have HB7 : Hid (Below w.heap.size w w7) := Lib.hid (HB6.out.trans (hb7.mono HB6.out.size))
  have kd7 := kd6.below hb7 kd6.lt
  have hs7 : w.heap.size < w7.heap.size := by have := hb7.size; omega
  clear kd6 ka6 hb7 hs6 hs4
  go_wp2_with (first | (refine wpList_at 10 rfl ?_; refine wpList_allocZ rfl 28 rfl (List.replicate 32 (.int .u8 0)) (fun ev w => by kernel_rfl) ?_; intro w8 nw8 hbw8 hzw8; have hbw8' := hbw8; have hzw8' := hzw8; clear hbw8 hzw8) | (refine wpList_atStore 28 (.tmp 10) (.tmp 41) rfl ?_; refine wp_stop ?_))
  refine ⟨?_⟩
  refine wpList_storeB rfl 28 (.tmp 10) (.tmp 41) rfl (p.map bv) rfl rfl nw8 Hsp.out (by rw [List.length_map, Hpl.out]; rfl) (map_bv_one _) ?_
  intro w9 kp9 ho9 hz9
  have kd9 := (kd7.below hbw8' kd7.lt).only ho9 (by omega)
  have HB8 : Hid (Below w.heap.size w w8) := Lib.hid (HB7.out.trans (hbw8'.mono HB7.out.size))
  have HB9 : Hid (Below w.heap.size w w9) := Lib.hid (HB8.out.trans (ho9.below HB8.out.size fun k hk => by omega))
  have hs9 : w.heap.size < w9.heap.size := by omega
  clear kd7 nw8 hbw8' hzw8' ho9 hz9
  rcases Hpc.out with ⟨rfl, rfl⟩ | ⟨rfl, rfl⟩
  · go_wp2_with (refine wpList_at 46 rfl ?_; refine wpList_loadG rfl 28 (.tmp 10) rfl w7.heap.size rfl (p.map bv) _ kp9 Try.underlying28 rfl Hsp.out ?_)
    refine (text_any p Hpl.out w9).mono ?_
    rintro e wz ⟨rfl, hb10⟩
    have HBz : Hid (Below w.heap.size w wz) := Lib.hid (HB9.out.trans (hb10.mono HB9.out.size))
    have kdz := kd9.below hb10 kd9.lt
    have hsz : w.heap.size < wz.heap.size := by have := hb10.size; omega
    clear kd9 hb10 hs9 kp9 hs7
    go_wp2_with (refine wpList_at 65 rfl ?_; refine wpList_loadG rfl 28 (.tmp 3) rfl w.heap.size rfl (d.map bv) _ kdz Try.underlying28 rfl Hs.out ?_)
    by_cases hi : 1 ≤ i ∧ i ≤ 32
    · obtain ⟨k, rfl⟩ : ∃ k : Nat, i = k := ⟨i.toNat, by omega⟩
      have hk1 : 1 ≤ k := by omega
      have hk2 : k ≤ 32 := by omega
      have hcl := length_cut d k Hd.out hk2
      obtain ⟨c, hc⟩ : ∃ c, c = cutL d k := ⟨_, rfl⟩
      rw [← hc] at hcl
      have Hc := Lib.hid hc
      have Hcl := Lib.hid hcl
      have Hsc := Lib.hid (map_bv_len c hcl)
      have Hcut := Lib.hid (show cutV d k = .tuple #[aggB c, .int .i64 0] from by unfold cutV; rw [if_pos (by omega), Int.toNat_natCast, hc])
      have Hcut2 := Lib.hid (show cutV c k = .tuple #[aggB c, .int .i64 0] from by unfold cutV; rw [if_pos (by omega), Int.toNat_natCast, hc, cut_again d k Hd.out hk2])
      have Hfit := Lib.hid (show fitsB d k = decide (c = d) from by unfold fitsB; rw [Bool.eq_iff_iff, decide_eq_true_iff, decide_eq_true_iff, Int.toNat_natCast, hc]; exact ⟨fun h => h.2.2, fun h => ⟨by omega, by omega, h⟩⟩)
      have Hfit2 := Lib.hid (show fitsB c k = true from by unfold fitsB; rw [Int.toNat_natCast, hc, cut_again d k Hd.out hk2]; simp; omega)
      clear hc hcl
      refine (cut_any d Hd.out k hi1 hi2 wz).mono ?_
      rintro e w11 ⟨rfl, hb11⟩
      rw [Hcut.out]
      have HB11 : Hid (Below w.heap.size w w11) := Lib.hid (HBz.out.trans (hb11.mono HBz.out.size))
      have kd11 := kdz.below hb11 kdz.lt
      have hs11 : w.heap.size < w11.heap.size := by have := hb11.size; omega
      clear kdz hb11 hsz
      go_wp2_with (first | (refine wpList_at 12 rfl ?_; refine wpList_allocZ rfl 28 rfl (List.replicate 32 (.int .u8 0)) (fun ev w => by kernel_rfl) ?_; intro w12 nw12 hbw12 hzw12; have hbw12' := hbw12; have hzw12' := hzw12; clear hbw12 hzw12) | (refine wpList_atStore 28 (.tmp 12) (.tmp 68) rfl ?_; refine wp_stop ?_))
      refine ⟨?_⟩
      refine wpList_storeB rfl 28 (.tmp 12) (.tmp 68) rfl (c.map bv) rfl rfl nw12 Hsc.out (by rw [List.length_map, Hcl.out]; rfl) (map_bv_one _) ?_
      intro w13 kc13 ho13 hz13
      have kd13 := (kd11.below hbw12' kd11.lt).only ho13 (by omega)
      have HB12 : Hid (Below w.heap.size w w12) := Lib.hid (HB11.out.trans (hbw12'.mono HB11.out.size))
      have HB13 : Hid (Below w.heap.size w w13) := Lib.hid (HB12.out.trans (ho13.below HB12.out.size fun k hk => by omega))
      have hs13 : w11.heap.size < w13.heap.size := by omega
      clear kd11 nw12 hbw12' hzw12' ho13 hz13
      go_wp2_with (refine wpList_at 80 rfl ?_; refine wpList_loadG rfl 28 (.tmp 12) rfl w11.heap.size rfl (c.map bv) _ kc13 Try.underlying28 rfl Hsc.out ?_)
      refine (cut_any c Hcl.out _ (by omega) (by omega) w13).mono ?_
      rintro e w14 ⟨rfl, hb14⟩
      rw [Hcut2.out]
      have HB14 : Hid (Below w.heap.size w w14) := Lib.hid (HB13.out.trans (hb14.mono HB13.out.size))
      have kd14 := kd13.below hb14 kd13.lt
      have kc14 := kc13.below hb14 kc13.lt
      have hs14 : w11.heap.size < w14.heap.size := by have := hb14.size; omega
      clear kd13 kc13 hb14 hs13
      go_wp2_with (first | (refine wpList_at 14 rfl ?_; refine wpList_allocZ rfl 28 rfl (List.replicate 32 (.int .u8 0)) (fun ev w => by kernel_rfl) ?_; intro w15 nw15 hbw15 hzw15; have hbw15' := hbw15; have hzw15' := hzw15; clear hbw15 hzw15) | (refine wpList_atStore 28 (.tmp 14) (.tmp 83) rfl ?_; refine wp_stop ?_))
      refine ⟨?_⟩
      refine wpList_storeB rfl 28 (.tmp 14) (.tmp 83) rfl (c.map bv) rfl rfl nw15 Hsc.out (by rw [List.length_map, Hcl.out]; rfl) (map_bv_one _) ?_
      intro w16 kg16 ho16 hz16
      have kd16 := (kd14.below hbw15' kd14.lt).only ho16 (by omega)
      have kc16 := (kc14.below hbw15' kc14.lt).only ho16 (by omega)
      have HB15 : Hid (Below w.heap.size w w15) := Lib.hid (HB14.out.trans (hbw15'.mono HB14.out.size))
      have HB16 : Hid (Below w.heap.size w w16) := Lib.hid (HB15.out.trans (ho16.below HB15.out.size fun k hk => by omega))
      clear kd14 kc14 nw15 hbw15' hzw15' ho16 hz16
      have KD := Lib.hid kd16
      have KC := Lib.hid kc16
      have KG := Lib.hid kg16
      clear kd16 kc16 kg16
      go_wp2_with fail
      go_loopw [16] (fun v wr => ∃ j : Nat, j ≤ 32 ∧ v = .int .i64 j ∧ ∃ m, wr = w16.drewN m) (fun v _ => 32 - (intOf v).toNat)
      case atStart => exact ⟨0, by omega, rfl, 0, rfl⟩
      case round =>
        obtain ⟨j, hj, rfl, m, rfl⟩ := hrel
        by_cases hlt : j < 32
        · have g3 : (j : Int) < 32 := by omega
          obtain ⟨x, hx⟩ : ∃ x, c[j]? = some x := ⟨_, List.getElem?_eq_getElem (by rw [Hcl.out]; exact hlt)⟩
          obtain ⟨y, hy⟩ : ∃ y, d[j]? = some y := ⟨_, List.getElem?_eq_getElem (by rw [Hd.out]; exact hlt)⟩
          have c1 : w16.cell? ⟨w11.heap.size, j, none⟩ = some (.int .u8 (x.toNat : Int)) := by rw [KC.out.at_, List.getElem?_map, hx]; rfl
          have c2 : w16.cell? ⟨w.heap.size, j, none⟩ = some (.int .u8 (y.toNat : Int)) := by rw [KD.out.at_, List.getElem?_map, hy]; rfl
          by_cases hjk : j < k
          · have hxy : x = y := by
              rw [Hc.out] at hx
              unfold cutL at hx
              rw [List.getElem?_append_left (by rw [List.length_take, Hd.out]; omega), List.getElem?_take, if_pos hjk, hy] at hx
              exact (Option.some.inj hx).symm
            subst hxy
            have d1 : (j : Int) < (k : Int) := by omega
            have d2 : ¬ k ≤ j := by omega
            have d3 : decide (k ≤ j) = false := decide_eq_false d2
            clear hx hy
            go_wp2_with fail
            refine region_quiet (fun w' => ∃ q, w' = w16.drewN q) (by kernel_rfl) (by kernel_rfl) ⟨m + 1, rfl⟩ ?_
            repeat (go_big_quiet_step (fail))
            refine wpQuiet_nil ?_
            rintro _ ⟨q, rfl⟩
            clear c1 c2
            go_wp2_with fail
            exact ⟨⟨j + 1, by omega, by go_num, q, rfl⟩, by simp [intOf]; omega⟩
          · have hx0 : x = 0 := by
              rw [Hc.out] at hx
              unfold cutL at hx
              rw [List.getElem?_append_right (by rw [List.length_take, Hd.out]; omega), List.getElem?_replicate] at hx
              split at hx
              · exact (Option.some.inj hx).symm
              · cases hx
            subst hx0
            have c3 : w16.cell? ⟨w11.heap.size, j, none⟩ = some (.int .u8 0) := c1
            clear c1
            have d1 : ¬ (j : Int) < (k : Int) := by omega
            have d2 : (k : Int) ≤ (j : Int) := by omega
            have e1 : decide (j < k) = false := decide_eq_false (by omega)
            have e2 : k ≤ j := by omega
            clear hx hy
            go_wp2_with fail
            refine region_quiet (fun w' => ∃ q, w' = w16.drewN q) (by kernel_rfl) (by kernel_rfl) ⟨m + 1, rfl⟩ ?_
            repeat (first | (simp only [e2, decide_true]) | go_big_quiet_step (fail))
            refine wpQuiet_nil ?_
            rintro _ ⟨q, rfl⟩
            clear c3 c2
            go_wp2_with fail
            exact ⟨⟨j + 1, by omega, by go_num, q, rfl⟩, by simp [intOf]; omega⟩
        · obtain rfl : j = 32 := by omega
          have hl1 : ∀ x : BW w16.heap.size w16, (Instr.loadAt 28 (.pointer (some ⟨w.heap.size, 0, none⟩))).run Try.prog x.w = .ok (aggB d) x.w := BW.load KD.out KD.out.lt Try.underlying28 rfl Hs.out
          have hl2 : ∀ x : BW w16.heap.size w16, (Instr.loadAt 28 (.pointer (some ⟨w11.heap.size, 0, none⟩))).run Try.prog x.w = .ok (aggB c) x.w := BW.load KC.out KC.out.lt Try.underlying28 rfl Hsc.out
          have hl3 : ∀ x : BW w16.heap.size w16, (Instr.loadAt 28 (.pointer (some ⟨w14.heap.size, 0, none⟩))).run Try.prog x.w = .ok (aggB c) x.w := BW.load KG.out KG.out.lt Try.underlying28 rfl Hsc.out
          have hf1 := fun w => fits_any c Hcl.out k hi1 hi2 w
          rw [Hfit2.out] at hf1
          have hf2 := fun w => fits_any d Hd.out k hi1 hi2 w
          rw [Hfit.out] at hf2
          go_wp2_with fail
          refine region_inB w16.heap.size w16 (below_drewN (Below.refl _ _) m) (by kernel_rfl) (by kernel_rfl) ?_
          repeat (first
            | (go_big_quiet_want; refine quiet_eqArr 28 (.tmp 122) (.tmp 123) rfl Try.underlying28 Try.underlying5 size1B guardD (l := c) (m := c) rfl rfl Hcl.out Hcl.out ?_; rw [decide_eq_true (rfl : c = c)]; simp only [Act.put, List.setIfInBounds_toArray, List.set_cons_zero, List.set_cons_succ]; go_big_quiet_on)
            | (go_big_quiet_want; refine quiet_eqArr 28 (.tmp 130) (.tmp 131) rfl Try.underlying28 Try.underlying5 size1B guardD (l := c) (m := d) rfl rfl Hcl.out Hd.out ?_; simp only [Act.put, List.setIfInBounds_toArray, List.set_cons_zero, List.set_cons_succ]; go_big_quiet_on)
            | (go_big_quiet_want; refine quiet_load 28 _ rfl (p := .pointer (some ⟨w.heap.size, 0, none⟩)) rfl (fun _ ⟨x, hx⟩ => hx ▸ hl1 x) ?_; simp only [Act.put, List.setIfInBounds_toArray, List.set_cons_zero, List.set_cons_succ]; go_big_quiet_on)
            | (go_big_quiet_want; refine quiet_load 28 _ rfl (p := .pointer (some ⟨w11.heap.size, 0, none⟩)) rfl (fun _ ⟨x, hx⟩ => hx ▸ hl2 x) ?_; simp only [Act.put, List.setIfInBounds_toArray, List.set_cons_zero, List.set_cons_succ]; go_big_quiet_on)
            | (go_big_quiet_want; refine quiet_load 28 _ rfl (p := .pointer (some ⟨w14.heap.size, 0, none⟩)) rfl (fun _ ⟨x, hx⟩ => hx ▸ hl3 x) ?_; simp only [Act.put, List.setIfInBounds_toArray, List.set_cons_zero, List.set_cons_succ]; go_big_quiet_on)
            | go_big_quiet_step (first
              | with_reducible exact Calls.inBat _ (hf1 _) (Nat.le_refl _)
              | with_reducible exact Calls.inBat _ (hf2 _) (Nat.le_refl _)))
          refine wpQuiet_nil ?_
          intro w17 hb17
          clear hl1 hl2 hl3 hf1 hf2
          go_wp2_with fail
          go_ret
          exact ⟨rfl, HB16.out.trans (hb17.mono HB16.out.size)⟩
    · by_cases hi5 : i < 1
      · have Hcut := Lib.hid (show cutV d i = .tuple #[aggB zero32, .int .i64 3] from by unfold cutV; rw [if_neg (by omega)])
        have Hcut2 := Lib.hid (show cutV zero32 i = .tuple #[aggB zero32, .int .i64 3] from by unfold cutV; rw [if_neg (by omega)])
        have Hfit := Lib.hid (show fitsB d i = false from by unfold fitsB; rw [decide_eq_false (by omega)])
        have Hz0 : Hid (zero32.length = 32) := Lib.hid rfl
        have Hsz0 := Lib.hid (map_bv_len zero32 rfl)
        refine (cut_any d Hd.out i hi1 hi2 wz).mono ?_
        rintro e w11 ⟨rfl, hb11⟩
        rw [Hcut.out]
        have HB11 : Hid (Below w.heap.size w w11) := Lib.hid (HBz.out.trans (hb11.mono HBz.out.size))
        have kd11 := kdz.below hb11 kdz.lt
        have hs11 : w.heap.size < w11.heap.size := by have := hb11.size; omega
        clear kdz hb11 hsz
        go_wp2_with (first | (refine wpList_at 12 rfl ?_; refine wpList_allocZ rfl 28 rfl (List.replicate 32 (.int .u8 0)) (fun ev w => by kernel_rfl) ?_; intro w12 nw12 hbw12 hzw12; have hbw12' := hbw12; have hzw12' := hzw12; clear hbw12 hzw12) | (refine wpList_atStore 28 (.tmp 12) (.tmp 68) rfl ?_; refine wp_stop ?_))
        refine ⟨?_⟩
        refine wpList_storeB rfl 28 (.tmp 12) (.tmp 68) rfl (zero32.map bv) rfl rfl nw12 Hsz0.out (by rw [List.length_map, Hz0.out]; rfl) (map_bv_one _) ?_
        intro w13 kc13 ho13 hz13
        have kd13 := (kd11.below hbw12' kd11.lt).only ho13 (by omega)
        have HB12 : Hid (Below w.heap.size w w12) := Lib.hid (HB11.out.trans (hbw12'.mono HB11.out.size))
        have HB13 : Hid (Below w.heap.size w w13) := Lib.hid (HB12.out.trans (ho13.below HB12.out.size fun k hk => by omega))
        have hs13 : w11.heap.size < w13.heap.size := by omega
        clear kd11 nw12 hbw12' hzw12' ho13 hz13
        go_wp2_with (refine wpList_at 80 rfl ?_; refine wpList_loadG rfl 28 (.tmp 12) rfl w11.heap.size rfl (zero32.map bv) _ kc13 Try.underlying28 rfl Hsz0.out ?_)
        refine (cut_any zero32 Hz0.out _ (by omega) (by omega) w13).mono ?_
        rintro e w14 ⟨rfl, hb14⟩
        rw [Hcut2.out]
        have HB14 : Hid (Below w.heap.size w w14) := Lib.hid (HB13.out.trans (hb14.mono HB13.out.size))
        have kd14 := kd13.below hb14 kd13.lt
        have kc14 := kc13.below hb14 kc13.lt
        have hs14 : w11.heap.size < w14.heap.size := by have := hb14.size; omega
        clear kd13 kc13 hb14 hs13
        go_wp2_with (first | (refine wpList_at 14 rfl ?_; refine wpList_allocZ rfl 28 rfl (List.replicate 32 (.int .u8 0)) (fun ev w => by kernel_rfl) ?_; intro w15 nw15 hbw15 hzw15; have hbw15' := hbw15; have hzw15' := hzw15; clear hbw15 hzw15) | (refine wpList_atStore 28 (.tmp 14) (.tmp 83) rfl ?_; refine wp_stop ?_))
        refine ⟨?_⟩
        refine wpList_storeB rfl 28 (.tmp 14) (.tmp 83) rfl (zero32.map bv) rfl rfl nw15 Hsz0.out (by rw [List.length_map, Hz0.out]; rfl) (map_bv_one _) ?_
        intro w16 kg16 ho16 hz16
        have kd16 := (kd14.below hbw15' kd14.lt).only ho16 (by omega)
        have kc16 := (kc14.below hbw15' kc14.lt).only ho16 (by omega)
        have HB15 : Hid (Below w.heap.size w w15) := Lib.hid (HB14.out.trans (hbw15'.mono HB14.out.size))
        have HB16 : Hid (Below w.heap.size w w16) := Lib.hid (HB15.out.trans (ho16.below HB15.out.size fun k hk => by omega))
        clear kd14 kc14 nw15 hbw15' hzw15' ho16 hz16
        go_wp2_with (refine wpList_at 87 rfl ?_; refine wpList_loadG rfl 28 (.tmp 3) rfl w.heap.size rfl (d.map bv) _ kd16 Try.underlying28 rfl Hs.out ?_)
        refine (fits_any d Hd.out i hi1 hi2 w16).mono ?_
        rintro e w17 ⟨rfl, hb17⟩
        rw [Hfit.out]
        have HB17 : Hid (Below w.heap.size w w17) := Lib.hid (HB16.out.trans (hb17.mono HB16.out.size))
        clear hb17 kd16 kc16 kg16
        go_wp2_with fail
        go_ret
        exact ⟨rfl, HB17.out⟩
      · have hi6 : 32 < i := by omega
        have Hcut := Lib.hid (show cutV d i = .tuple #[aggB zero32, .int .i64 3] from by unfold cutV; rw [if_neg (by omega)])
        have Hcut2 := Lib.hid (show cutV zero32 i = .tuple #[aggB zero32, .int .i64 3] from by unfold cutV; rw [if_neg (by omega)])
        have Hfit := Lib.hid (show fitsB d i = false from by unfold fitsB; rw [decide_eq_false (by omega)])
        have Hz0 : Hid (zero32.length = 32) := Lib.hid rfl
        have Hsz0 := Lib.hid (map_bv_len zero32 rfl)
        refine (cut_any d Hd.out i hi1 hi2 wz).mono ?_
        rintro e w11 ⟨rfl, hb11⟩
        rw [Hcut.out]
        have HB11 : Hid (Below w.heap.size w w11) := Lib.hid (HBz.out.trans (hb11.mono HBz.out.size))
        have kd11 := kdz.below hb11 kdz.lt
        have hs11 : w.heap.size < w11.heap.size := by have := hb11.size; omega
        clear kdz hb11 hsz
        go_wp2_with (first | (refine wpList_at 12 rfl ?_; refine wpList_allocZ rfl 28 rfl (List.replicate 32 (.int .u8 0)) (fun ev w => by kernel_rfl) ?_; intro w12 nw12 hbw12 hzw12; have hbw12' := hbw12; have hzw12' := hzw12; clear hbw12 hzw12) | (refine wpList_atStore 28 (.tmp 12) (.tmp 68) rfl ?_; refine wp_stop ?_))
        refine ⟨?_⟩
        refine wpList_storeB rfl 28 (.tmp 12) (.tmp 68) rfl (zero32.map bv) rfl rfl nw12 Hsz0.out (by rw [List.length_map, Hz0.out]; rfl) (map_bv_one _) ?_
        intro w13 kc13 ho13 hz13
        have kd13 := (kd11.below hbw12' kd11.lt).only ho13 (by omega)
        have HB12 : Hid (Below w.heap.size w w12) := Lib.hid (HB11.out.trans (hbw12'.mono HB11.out.size))
        have HB13 : Hid (Below w.heap.size w w13) := Lib.hid (HB12.out.trans (ho13.below HB12.out.size fun k hk => by omega))
        have hs13 : w11.heap.size < w13.heap.size := by omega
        clear kd11 nw12 hbw12' hzw12' ho13 hz13
        go_wp2_with (refine wpList_at 80 rfl ?_; refine wpList_loadG rfl 28 (.tmp 12) rfl w11.heap.size rfl (zero32.map bv) _ kc13 Try.underlying28 rfl Hsz0.out ?_)
        refine (cut_any zero32 Hz0.out _ (by omega) (by omega) w13).mono ?_
        rintro e w14 ⟨rfl, hb14⟩
        rw [Hcut2.out]
        have HB14 : Hid (Below w.heap.size w w14) := Lib.hid (HB13.out.trans (hb14.mono HB13.out.size))
        have kd14 := kd13.below hb14 kd13.lt
        have kc14 := kc13.below hb14 kc13.lt
        have hs14 : w11.heap.size < w14.heap.size := by have := hb14.size; omega
        clear kd13 kc13 hb14 hs13
        go_wp2_with (first | (refine wpList_at 14 rfl ?_; refine wpList_allocZ rfl 28 rfl (List.replicate 32 (.int .u8 0)) (fun ev w => by kernel_rfl) ?_; intro w15 nw15 hbw15 hzw15; have hbw15' := hbw15; have hzw15' := hzw15; clear hbw15 hzw15) | (refine wpList_atStore 28 (.tmp 14) (.tmp 83) rfl ?_; refine wp_stop ?_))
        refine ⟨?_⟩
        refine wpList_storeB rfl 28 (.tmp 14) (.tmp 83) rfl (zero32.map bv) rfl rfl nw15 Hsz0.out (by rw [List.length_map, Hz0.out]; rfl) (map_bv_one _) ?_
        intro w16 kg16 ho16 hz16
        have kd16 := (kd14.below hbw15' kd14.lt).only ho16 (by omega)
        have kc16 := (kc14.below hbw15' kc14.lt).only ho16 (by omega)
        have HB15 : Hid (Below w.heap.size w w15) := Lib.hid (HB14.out.trans (hbw15'.mono HB14.out.size))
        have HB16 : Hid (Below w.heap.size w w16) := Lib.hid (HB15.out.trans (ho16.below HB15.out.size fun k hk => by omega))
        clear kd14 kc14 nw15 hbw15' hzw15' ho16 hz16
        go_wp2_with (refine wpList_at 87 rfl ?_; refine wpList_loadG rfl 28 (.tmp 3) rfl w.heap.size rfl (d.map bv) _ kd16 Try.underlying28 rfl Hs.out ?_)
        refine (fits_any d Hd.out i hi1 hi2 w16).mono ?_
        rintro e w17 ⟨rfl, hb17⟩
        rw [Hfit.out]
        have HB17 : Hid (Below w.heap.size w w17) := Lib.hid (HB16.out.trans (hb17.mono HB16.out.size))
        clear hb17 kd16 kc16 kg16
        go_wp2_with fail
        go_ret
        exact ⟨rfl, HB17.out⟩
  · have heqz : ∀ w, (Op.equalIn 10000 28 (.agg (zero32.map bv).toArray) (.agg (zero32.map bv).toArray)).run Try.prog w = .ok true w := fun w => by
      have h := run_eqArr (P := Try.prog) (w := w) Try.underlying28 Try.underlying5 size1B (xs := zero32) (ys := zero32) rfl rfl
      rw [decide_eq_true (rfl : zero32 = zero32)] at h
      exact h
    go_wp2_with (first
      | (refine wpList_at 58 rfl ?_; refine wpList_loadG rfl 28 (.tmp 10) rfl w7.heap.size rfl (zero32.map bv) _ kp9 Try.underlying28 rfl Hsp.out ?_)
      | (refine wpList_at 59 rfl ?_; refine wpList_runG rfl (.agg (zero32.map bv).toArray) (by kernel_rfl) ?_)
      | (refine wpList_at 65 rfl ?_; refine wpList_loadG rfl 28 (.tmp 3) rfl w.heap.size rfl (d.map bv) _ kd9 Try.underlying28 rfl Hs.out ?_))
    clear heqz
    obtain ⟨wz, rfl⟩ : ∃ wz : World, wz = w9 := ⟨_, rfl⟩
    have HBz := HB9
    have kdz := kd9
    have hsz := hs9
    clear kd9 hs9 kp9 hs7
    by_cases hi : 1 ≤ i ∧ i ≤ 32
    · obtain ⟨k, rfl⟩ : ∃ k : Nat, i = k := ⟨i.toNat, by omega⟩
      have hk1 : 1 ≤ k := by omega
      have hk2 : k ≤ 32 := by omega
      have hcl := length_cut d k Hd.out hk2
      obtain ⟨c, hc⟩ : ∃ c, c = cutL d k := ⟨_, rfl⟩
      rw [← hc] at hcl
      have Hc := Lib.hid hc
      have Hcl := Lib.hid hcl
      have Hsc := Lib.hid (map_bv_len c hcl)
      have Hcut := Lib.hid (show cutV d k = .tuple #[aggB c, .int .i64 0] from by unfold cutV; rw [if_pos (by omega), Int.toNat_natCast, hc])
      have Hcut2 := Lib.hid (show cutV c k = .tuple #[aggB c, .int .i64 0] from by unfold cutV; rw [if_pos (by omega), Int.toNat_natCast, hc, cut_again d k Hd.out hk2])
      have Hfit := Lib.hid (show fitsB d k = decide (c = d) from by unfold fitsB; rw [Bool.eq_iff_iff, decide_eq_true_iff, decide_eq_true_iff, Int.toNat_natCast, hc]; exact ⟨fun h => h.2.2, fun h => ⟨by omega, by omega, h⟩⟩)
      have Hfit2 := Lib.hid (show fitsB c k = true from by unfold fitsB; rw [Int.toNat_natCast, hc, cut_again d k Hd.out hk2]; simp; omega)
      clear hc hcl
      refine (cut_any d Hd.out k hi1 hi2 wz).mono ?_
      rintro e w11 ⟨rfl, hb11⟩
      rw [Hcut.out]
      have HB11 : Hid (Below w.heap.size w w11) := Lib.hid (HBz.out.trans (hb11.mono HBz.out.size))
      have kd11 := kdz.below hb11 kdz.lt
      have hs11 : w.heap.size < w11.heap.size := by have := hb11.size; omega
      clear kdz hb11 hsz
      go_wp2_with (first | (refine wpList_at 12 rfl ?_; refine wpList_allocZ rfl 28 rfl (List.replicate 32 (.int .u8 0)) (fun ev w => by kernel_rfl) ?_; intro w12 nw12 hbw12 hzw12; have hbw12' := hbw12; have hzw12' := hzw12; clear hbw12 hzw12) | (refine wpList_atStore 28 (.tmp 12) (.tmp 68) rfl ?_; refine wp_stop ?_))
      refine ⟨?_⟩
      refine wpList_storeB rfl 28 (.tmp 12) (.tmp 68) rfl (c.map bv) rfl rfl nw12 Hsc.out (by rw [List.length_map, Hcl.out]; rfl) (map_bv_one _) ?_
      intro w13 kc13 ho13 hz13
      have kd13 := (kd11.below hbw12' kd11.lt).only ho13 (by omega)
      have HB12 : Hid (Below w.heap.size w w12) := Lib.hid (HB11.out.trans (hbw12'.mono HB11.out.size))
      have HB13 : Hid (Below w.heap.size w w13) := Lib.hid (HB12.out.trans (ho13.below HB12.out.size fun k hk => by omega))
      have hs13 : w11.heap.size < w13.heap.size := by omega
      clear kd11 nw12 hbw12' hzw12' ho13 hz13
      go_wp2_with (refine wpList_at 80 rfl ?_; refine wpList_loadG rfl 28 (.tmp 12) rfl w11.heap.size rfl (c.map bv) _ kc13 Try.underlying28 rfl Hsc.out ?_)
      refine (cut_any c Hcl.out _ (by omega) (by omega) w13).mono ?_
      rintro e w14 ⟨rfl, hb14⟩
      rw [Hcut2.out]
      have HB14 : Hid (Below w.heap.size w w14) := Lib.hid (HB13.out.trans (hb14.mono HB13.out.size))
      have kd14 := kd13.below hb14 kd13.lt
      have kc14 := kc13.below hb14 kc13.lt
      have hs14 : w11.heap.size < w14.heap.size := by have := hb14.size; omega
      clear kd13 kc13 hb14 hs13
      go_wp2_with (first | (refine wpList_at 14 rfl ?_; refine wpList_allocZ rfl 28 rfl (List.replicate 32 (.int .u8 0)) (fun ev w => by kernel_rfl) ?_; intro w15 nw15 hbw15 hzw15; have hbw15' := hbw15; have hzw15' := hzw15; clear hbw15 hzw15) | (refine wpList_atStore 28 (.tmp 14) (.tmp 83) rfl ?_; refine wp_stop ?_))
      refine ⟨?_⟩
      refine wpList_storeB rfl 28 (.tmp 14) (.tmp 83) rfl (c.map bv) rfl rfl nw15 Hsc.out (by rw [List.length_map, Hcl.out]; rfl) (map_bv_one _) ?_
      intro w16 kg16 ho16 hz16
      have kd16 := (kd14.below hbw15' kd14.lt).only ho16 (by omega)
      have kc16 := (kc14.below hbw15' kc14.lt).only ho16 (by omega)
      have HB15 : Hid (Below w.heap.size w w15) := Lib.hid (HB14.out.trans (hbw15'.mono HB14.out.size))
      have HB16 : Hid (Below w.heap.size w w16) := Lib.hid (HB15.out.trans (ho16.below HB15.out.size fun k hk => by omega))
      clear kd14 kc14 nw15 hbw15' hzw15' ho16 hz16
      have KD := Lib.hid kd16
      have KC := Lib.hid kc16
      have KG := Lib.hid kg16
      clear kd16 kc16 kg16
      go_wp2_with fail
      go_loopw [16] (fun v wr => ∃ j : Nat, j ≤ 32 ∧ v = .int .i64 j ∧ ∃ m, wr = w16.drewN m) (fun v _ => 32 - (intOf v).toNat)
      case atStart => exact ⟨0, by omega, rfl, 0, rfl⟩
      case round =>
        obtain ⟨j, hj, rfl, m, rfl⟩ := hrel
        by_cases hlt : j < 32
        · have g3 : (j : Int) < 32 := by omega
          obtain ⟨x, hx⟩ : ∃ x, c[j]? = some x := ⟨_, List.getElem?_eq_getElem (by rw [Hcl.out]; exact hlt)⟩
          obtain ⟨y, hy⟩ : ∃ y, d[j]? = some y := ⟨_, List.getElem?_eq_getElem (by rw [Hd.out]; exact hlt)⟩
          have c1 : w16.cell? ⟨w11.heap.size, j, none⟩ = some (.int .u8 (x.toNat : Int)) := by rw [KC.out.at_, List.getElem?_map, hx]; rfl
          have c2 : w16.cell? ⟨w.heap.size, j, none⟩ = some (.int .u8 (y.toNat : Int)) := by rw [KD.out.at_, List.getElem?_map, hy]; rfl
          by_cases hjk : j < k
          · have hxy : x = y := by
              rw [Hc.out] at hx
              unfold cutL at hx
              rw [List.getElem?_append_left (by rw [List.length_take, Hd.out]; omega), List.getElem?_take, if_pos hjk, hy] at hx
              exact (Option.some.inj hx).symm
            subst hxy
            have d1 : (j : Int) < (k : Int) := by omega
            have d2 : ¬ k ≤ j := by omega
            have d3 : decide (k ≤ j) = false := decide_eq_false d2
            clear hx hy
            go_wp2_with fail
            refine region_quiet (fun w' => ∃ q, w' = w16.drewN q) (by kernel_rfl) (by kernel_rfl) ⟨m + 1, rfl⟩ ?_
            repeat (go_big_quiet_step (fail))
            refine wpQuiet_nil ?_
            rintro _ ⟨q, rfl⟩
            clear c1 c2
            go_wp2_with fail
            exact ⟨⟨j + 1, by omega, by go_num, q, rfl⟩, by simp [intOf]; omega⟩
          · have hx0 : x = 0 := by
              rw [Hc.out] at hx
              unfold cutL at hx
              rw [List.getElem?_append_right (by rw [List.length_take, Hd.out]; omega), List.getElem?_replicate] at hx
              split at hx
              · exact (Option.some.inj hx).symm
              · cases hx
            subst hx0
            have c3 : w16.cell? ⟨w11.heap.size, j, none⟩ = some (.int .u8 0) := c1
            clear c1
            have d1 : ¬ (j : Int) < (k : Int) := by omega
            have d2 : (k : Int) ≤ (j : Int) := by omega
            have e1 : decide (j < k) = false := decide_eq_false (by omega)
            have e2 : k ≤ j := by omega
            clear hx hy
            go_wp2_with fail
            refine region_quiet (fun w' => ∃ q, w' = w16.drewN q) (by kernel_rfl) (by kernel_rfl) ⟨m + 1, rfl⟩ ?_
            repeat (first | (simp only [e2, decide_true]) | go_big_quiet_step (fail))
            refine wpQuiet_nil ?_
            rintro _ ⟨q, rfl⟩
            clear c3 c2
            go_wp2_with fail
            exact ⟨⟨j + 1, by omega, by go_num, q, rfl⟩, by simp [intOf]; omega⟩
        · obtain rfl : j = 32 := by omega
          have hl1 : ∀ x : BW w16.heap.size w16, (Instr.loadAt 28 (.pointer (some ⟨w.heap.size, 0, none⟩))).run Try.prog x.w = .ok (aggB d) x.w := BW.load KD.out KD.out.lt Try.underlying28 rfl Hs.out
          have hl2 : ∀ x : BW w16.heap.size w16, (Instr.loadAt 28 (.pointer (some ⟨w11.heap.size, 0, none⟩))).run Try.prog x.w = .ok (aggB c) x.w := BW.load KC.out KC.out.lt Try.underlying28 rfl Hsc.out
          have hl3 : ∀ x : BW w16.heap.size w16, (Instr.loadAt 28 (.pointer (some ⟨w14.heap.size, 0, none⟩))).run Try.prog x.w = .ok (aggB c) x.w := BW.load KG.out KG.out.lt Try.underlying28 rfl Hsc.out
          have hf1 := fun w => fits_any c Hcl.out k hi1 hi2 w
          rw [Hfit2.out] at hf1
          have hf2 := fun w => fits_any d Hd.out k hi1 hi2 w
          rw [Hfit.out] at hf2
          go_wp2_with fail
          refine region_inB w16.heap.size w16 (below_drewN (Below.refl _ _) m) (by kernel_rfl) (by kernel_rfl) ?_
          repeat (first
            | (go_big_quiet_want; refine quiet_eqArr 28 (.tmp 122) (.tmp 123) rfl Try.underlying28 Try.underlying5 size1B guardD (l := c) (m := c) rfl rfl Hcl.out Hcl.out ?_; rw [decide_eq_true (rfl : c = c)]; simp only [Act.put, List.setIfInBounds_toArray, List.set_cons_zero, List.set_cons_succ]; go_big_quiet_on)
            | (go_big_quiet_want; refine quiet_eqArr 28 (.tmp 130) (.tmp 131) rfl Try.underlying28 Try.underlying5 size1B guardD (l := c) (m := d) rfl rfl Hcl.out Hd.out ?_; simp only [Act.put, List.setIfInBounds_toArray, List.set_cons_zero, List.set_cons_succ]; go_big_quiet_on)
            | (go_big_quiet_want; refine quiet_load 28 _ rfl (p := .pointer (some ⟨w.heap.size, 0, none⟩)) rfl (fun _ ⟨x, hx⟩ => hx ▸ hl1 x) ?_; simp only [Act.put, List.setIfInBounds_toArray, List.set_cons_zero, List.set_cons_succ]; go_big_quiet_on)
            | (go_big_quiet_want; refine quiet_load 28 _ rfl (p := .pointer (some ⟨w11.heap.size, 0, none⟩)) rfl (fun _ ⟨x, hx⟩ => hx ▸ hl2 x) ?_; simp only [Act.put, List.setIfInBounds_toArray, List.set_cons_zero, List.set_cons_succ]; go_big_quiet_on)
            | (go_big_quiet_want; refine quiet_load 28 _ rfl (p := .pointer (some ⟨w14.heap.size, 0, none⟩)) rfl (fun _ ⟨x, hx⟩ => hx ▸ hl3 x) ?_; simp only [Act.put, List.setIfInBounds_toArray, List.set_cons_zero, List.set_cons_succ]; go_big_quiet_on)
            | go_big_quiet_step (first
              | with_reducible exact Calls.inBat _ (hf1 _) (Nat.le_refl _)
              | with_reducible exact Calls.inBat _ (hf2 _) (Nat.le_refl _)))
          refine wpQuiet_nil ?_
          intro w17 hb17
          clear hl1 hl2 hl3 hf1 hf2
          go_wp2_with fail
          go_ret
          exact ⟨rfl, HB16.out.trans (hb17.mono HB16.out.size)⟩
    · by_cases hi5 : i < 1
      · have Hcut := Lib.hid (show cutV d i = .tuple #[aggB zero32, .int .i64 3] from by unfold cutV; rw [if_neg (by omega)])
        have Hcut2 := Lib.hid (show cutV zero32 i = .tuple #[aggB zero32, .int .i64 3] from by unfold cutV; rw [if_neg (by omega)])
        have Hfit := Lib.hid (show fitsB d i = false from by unfold fitsB; rw [decide_eq_false (by omega)])
        have Hz0 : Hid (zero32.length = 32) := Lib.hid rfl
        have Hsz0 := Lib.hid (map_bv_len zero32 rfl)
        refine (cut_any d Hd.out i hi1 hi2 wz).mono ?_
        rintro e w11 ⟨rfl, hb11⟩
        rw [Hcut.out]
        have HB11 : Hid (Below w.heap.size w w11) := Lib.hid (HBz.out.trans (hb11.mono HBz.out.size))
        have kd11 := kdz.below hb11 kdz.lt
        have hs11 : w.heap.size < w11.heap.size := by have := hb11.size; omega
        clear kdz hb11 hsz
        go_wp2_with (first | (refine wpList_at 12 rfl ?_; refine wpList_allocZ rfl 28 rfl (List.replicate 32 (.int .u8 0)) (fun ev w => by kernel_rfl) ?_; intro w12 nw12 hbw12 hzw12; have hbw12' := hbw12; have hzw12' := hzw12; clear hbw12 hzw12) | (refine wpList_atStore 28 (.tmp 12) (.tmp 68) rfl ?_; refine wp_stop ?_))
        refine ⟨?_⟩
        refine wpList_storeB rfl 28 (.tmp 12) (.tmp 68) rfl (zero32.map bv) rfl rfl nw12 Hsz0.out (by rw [List.length_map, Hz0.out]; rfl) (map_bv_one _) ?_
        intro w13 kc13 ho13 hz13
        have kd13 := (kd11.below hbw12' kd11.lt).only ho13 (by omega)
        have HB12 : Hid (Below w.heap.size w w12) := Lib.hid (HB11.out.trans (hbw12'.mono HB11.out.size))
        have HB13 : Hid (Below w.heap.size w w13) := Lib.hid (HB12.out.trans (ho13.below HB12.out.size fun k hk => by omega))
        have hs13 : w11.heap.size < w13.heap.size := by omega
        clear kd11 nw12 hbw12' hzw12' ho13 hz13
        go_wp2_with (refine wpList_at 80 rfl ?_; refine wpList_loadG rfl 28 (.tmp 12) rfl w11.heap.size rfl (zero32.map bv) _ kc13 Try.underlying28 rfl Hsz0.out ?_)
        refine (cut_any zero32 Hz0.out _ (by omega) (by omega) w13).mono ?_
        rintro e w14 ⟨rfl, hb14⟩
        rw [Hcut2.out]
        have HB14 : Hid (Below w.heap.size w w14) := Lib.hid (HB13.out.trans (hb14.mono HB13.out.size))
        have kd14 := kd13.below hb14 kd13.lt
        have kc14 := kc13.below hb14 kc13.lt
        have hs14 : w11.heap.size < w14.heap.size := by have := hb14.size; omega
        clear kd13 kc13 hb14 hs13
        go_wp2_with (first | (refine wpList_at 14 rfl ?_; refine wpList_allocZ rfl 28 rfl (List.replicate 32 (.int .u8 0)) (fun ev w => by kernel_rfl) ?_; intro w15 nw15 hbw15 hzw15; have hbw15' := hbw15; have hzw15' := hzw15; clear hbw15 hzw15) | (refine wpList_atStore 28 (.tmp 14) (.tmp 83) rfl ?_; refine wp_stop ?_))
        refine ⟨?_⟩
        refine wpList_storeB rfl 28 (.tmp 14) (.tmp 83) rfl (zero32.map bv) rfl rfl nw15 Hsz0.out (by rw [List.length_map, Hz0.out]; rfl) (map_bv_one _) ?_
        intro w16 kg16 ho16 hz16
        have kd16 := (kd14.below hbw15' kd14.lt).only ho16 (by omega)
        have kc16 := (kc14.below hbw15' kc14.lt).only ho16 (by omega)
        have HB15 : Hid (Below w.heap.size w w15) := Lib.hid (HB14.out.trans (hbw15'.mono HB14.out.size))
        have HB16 : Hid (Below w.heap.size w w16) := Lib.hid (HB15.out.trans (ho16.below HB15.out.size fun k hk => by omega))
        clear kd14 kc14 nw15 hbw15' hzw15' ho16 hz16
        go_wp2_with (refine wpList_at 87 rfl ?_; refine wpList_loadG rfl 28 (.tmp 3) rfl w.heap.size rfl (d.map bv) _ kd16 Try.underlying28 rfl Hs.out ?_)
        refine (fits_any d Hd.out i hi1 hi2 w16).mono ?_
        rintro e w17 ⟨rfl, hb17⟩
        rw [Hfit.out]
        have HB17 : Hid (Below w.heap.size w w17) := Lib.hid (HB16.out.trans (hb17.mono HB16.out.size))
        clear hb17 kd16 kc16 kg16
        go_wp2_with fail
        go_ret
        exact ⟨rfl, HB17.out⟩
      · have hi6 : 32 < i := by omega
        have Hcut := Lib.hid (show cutV d i = .tuple #[aggB zero32, .int .i64 3] from by unfold cutV; rw [if_neg (by omega)])
        have Hcut2 := Lib.hid (show cutV zero32 i = .tuple #[aggB zero32, .int .i64 3] from by unfold cutV; rw [if_neg (by omega)])
        have Hfit := Lib.hid (show fitsB d i = false from by unfold fitsB; rw [decide_eq_false (by omega)])
        have Hz0 : Hid (zero32.length = 32) := Lib.hid rfl
        have Hsz0 := Lib.hid (map_bv_len zero32 rfl)
        refine (cut_any d Hd.out i hi1 hi2 wz).mono ?_
        rintro e w11 ⟨rfl, hb11⟩
        rw [Hcut.out]
        have HB11 : Hid (Below w.heap.size w w11) := Lib.hid (HBz.out.trans (hb11.mono HBz.out.size))
        have kd11 := kdz.below hb11 kdz.lt
        have hs11 : w.heap.size < w11.heap.size := by have := hb11.size; omega
        clear kdz hb11 hsz
        go_wp2_with (first | (refine wpList_at 12 rfl ?_; refine wpList_allocZ rfl 28 rfl (List.replicate 32 (.int .u8 0)) (fun ev w => by kernel_rfl) ?_; intro w12 nw12 hbw12 hzw12; have hbw12' := hbw12; have hzw12' := hzw12; clear hbw12 hzw12) | (refine wpList_atStore 28 (.tmp 12) (.tmp 68) rfl ?_; refine wp_stop ?_))
        refine ⟨?_⟩
        refine wpList_storeB rfl 28 (.tmp 12) (.tmp 68) rfl (zero32.map bv) rfl rfl nw12 Hsz0.out (by rw [List.length_map, Hz0.out]; rfl) (map_bv_one _) ?_
        intro w13 kc13 ho13 hz13
        have kd13 := (kd11.below hbw12' kd11.lt).only ho13 (by omega)
        have HB12 : Hid (Below w.heap.size w w12) := Lib.hid (HB11.out.trans (hbw12'.mono HB11.out.size))
        have HB13 : Hid (Below w.heap.size w w13) := Lib.hid (HB12.out.trans (ho13.below HB12.out.size fun k hk => by omega))
        have hs13 : w11.heap.size < w13.heap.size := by omega
        clear kd11 nw12 hbw12' hzw12' ho13 hz13
        go_wp2_with (refine wpList_at 80 rfl ?_; refine wpList_loadG rfl 28 (.tmp 12) rfl w11.heap.size rfl (zero32.map bv) _ kc13 Try.underlying28 rfl Hsz0.out ?_)
        refine (cut_any zero32 Hz0.out _ (by omega) (by omega) w13).mono ?_
        rintro e w14 ⟨rfl, hb14⟩
        rw [Hcut2.out]
        have HB14 : Hid (Below w.heap.size w w14) := Lib.hid (HB13.out.trans (hb14.mono HB13.out.size))
        have kd14 := kd13.below hb14 kd13.lt
        have kc14 := kc13.below hb14 kc13.lt
        have hs14 : w11.heap.size < w14.heap.size := by have := hb14.size; omega
        clear kd13 kc13 hb14 hs13
        go_wp2_with (first | (refine wpList_at 14 rfl ?_; refine wpList_allocZ rfl 28 rfl (List.replicate 32 (.int .u8 0)) (fun ev w => by kernel_rfl) ?_; intro w15 nw15 hbw15 hzw15; have hbw15' := hbw15; have hzw15' := hzw15; clear hbw15 hzw15) | (refine wpList_atStore 28 (.tmp 14) (.tmp 83) rfl ?_; refine wp_stop ?_))
        refine ⟨?_⟩
        refine wpList_storeB rfl 28 (.tmp 14) (.tmp 83) rfl (zero32.map bv) rfl rfl nw15 Hsz0.out (by rw [List.length_map, Hz0.out]; rfl) (map_bv_one _) ?_
        intro w16 kg16 ho16 hz16
        have kd16 := (kd14.below hbw15' kd14.lt).only ho16 (by omega)
        have kc16 := (kc14.below hbw15' kc14.lt).only ho16 (by omega)
        have HB15 : Hid (Below w.heap.size w w15) := Lib.hid (HB14.out.trans (hbw15'.mono HB14.out.size))
        have HB16 : Hid (Below w.heap.size w w16) := Lib.hid (HB15.out.trans (ho16.below HB15.out.size fun k hk => by omega))
        clear kd14 kc14 nw15 hbw15' hzw15' ho16 hz16
        go_wp2_with (refine wpList_at 87 rfl ?_; refine wpList_loadG rfl 28 (.tmp 3) rfl w.heap.size rfl (d.map bv) _ kd16 Try.underlying28 rfl Hs.out ?_)
        refine (fits_any d Hd.out i hi1 hi2 w16).mono ?_
        rintro e w17 ⟨rfl, hb17⟩
        rw [Hfit.out]
        have HB17 : Hid (Below w.heap.size w w17) := Lib.hid (HB16.out.trans (hb17.mono HB16.out.size))
        clear hb17 kd16 kc16 kg16
        go_wp2_with fail
        go_ret
        exact ⟨rfl, HB17.out⟩
end Go.Proofs.Ytmlkfkpffbbfaaa
