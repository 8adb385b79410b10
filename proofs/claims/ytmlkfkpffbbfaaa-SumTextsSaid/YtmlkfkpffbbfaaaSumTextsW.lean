/- The walk of SumTexts: it returns true. -/
import Derived.Test.YtmlkfkpffbbfaaaShaPq
import Derived.Test.YtmlkfkpffbbfaaaShaGi
import Derived.WalkLawsBesides
namespace Go.Proofs.Ytmlkfkpffbbfaaa
open Go.RowKit

theorem parse_parts (s : List UInt8) : ∃ (c : List UInt8) (e : Int), parseV s = .tuple #[aggB c, .int .i64 e] ∧ c.length = 32 := by
  unfold parseV
  by_cases h : s.length = 64 ∧ allHex s = true
  · exact ⟨_, 0, by rw [if_pos h], length_parseK s 64⟩
  · exact ⟨_, 21, by rw [if_neg h], rfl⟩
set_option maxHeartbeats 2000000 in
theorem sumTexts_walk (d : List UInt8) (hd : d.length = 32) (s : List UInt8) (w : World) :
    Calls Try.prog 10 #[aggB d, .string ⟨s.toArray⟩] w fun e w' => e = .returned (.bool true) ∧ Below w.heap.size w w' := by
  obtain ⟨c, e0, hcv, hc⟩ := parse_parts s
  have Hd := Lib.hid hd
  have Hc := Lib.hid hc
  have Hcv := Lib.hid hcv
  have Hs := Lib.hid (map_bv_len d hd)
  have Hs2 := Lib.hid (map_bv_len c hc)
  have Hs3 := Lib.hid (map_bv_lenR c hc)
  clear hd hc hcv
  go_enter Try.func10, Try.ntmps10
  go_wp2_with (refine wpList_at 2 rfl ?_; refine wpList_boxB rfl 28 (.tmp 0) rfl (d.map bv) rfl ?_; intro w1 hblk1 hb1 hz1)
  have hl1 : ∀ x : BW w1.heap.size w1, (Instr.loadAt 28 (.pointer (some ⟨w.heap.size, 0, none⟩))).run Try.prog x.w = .ok (aggB d) x.w :=
    BW.load hblk1 hblk1.lt Try.underlying28 rfl Hs.out
  have HB1 := Lib.hid hb1
  clear hblk1 hb1 hz1
  refine region_inB w1.heap.size w1 (Below.refl _ _) (by kernel_rfl) (by kernel_rfl) ?_
  repeat (first
    | (go_big_quiet_want; refine quiet_load 28 _ rfl (p := .pointer (some ⟨w.heap.size, 0, none⟩)) rfl (fun _ ⟨x, hx⟩ => hx ▸ hl1 x) ?_; simp only [Act.put, List.setIfInBounds_toArray, List.set_cons_zero, List.set_cons_succ]; go_big_quiet_on)
    | go_big_quiet_step (first
      | with_reducible exact Calls.inBat _ (known_any _) (Nat.le_refl _)
      | with_reducible exact Calls.inBat _ (text_any d Hd.out _) (Nat.le_refl _)
      | with_reducible exact Calls.inBat _ (given_any d Hd.out _) (Nat.le_refl _)
      | with_reducible exact Calls.inBat _ (refText_any d Hd.out _) (Nat.le_refl _)))
  refine wpQuiet_nil ?_
  intro w2 hb2
  have hB2 : Below w.heap.size w w2 := HB1.out.trans (hb2.mono HB1.out.size)
  clear hl1 hb2
  go_wp2_with fail
  refine (parse_any s w2).mono ?_
  rintro e w3 ⟨rfl, hb3⟩
  rw [Hcv.out]
  have hB3 : Below w.heap.size w w3 := hB2.trans (hb3.mono hB2.size)
  clear hb3 hB2
  go_wp2_with (first
    | (refine wpList_at 5 rfl ?_; refine wpList_allocZ rfl 28 rfl (List.replicate 32 (.int .u8 0)) (fun ev w => by kernel_rfl) ?_; intro w4 hc4 hb4 hz4; have hb4' := hb4; clear hb4)
    | (refine wpList_atStore 28 (.tmp 5) (.tmp 22) rfl ?_; refine wp_stop ?_))
  refine ⟨?_⟩
  refine wpList_storeB rfl 28 (.tmp 5) (.tmp 22) rfl (c.map bv) rfl rfl hc4 Hs2.out (by rw [List.length_map, Hc.out]; rfl) (map_bv_one _) ?_
  intro w5 hc5 ho5 hz5
  have hB4 : Below w.heap.size w w4 := hB3.trans (hb4'.mono hB3.size)
  have hB5 : Below w.heap.size w w5 := hB4.trans (ho5.below hB4.size fun k hk => by have := hB3.size; omega)
  have hs5 : w3.heap.size < w5.heap.size := by omega
  clear hc4 hb4' ho5 hB4 hz4 hz5 hB3
  go_wp2_with fail
  refine (refParse_any s w5).mono ?_
  rintro e w7 ⟨rfl, hb7⟩
  rw [Hcv.out]
  have hs7 : w3.heap.size < w7.heap.size := by have := hb7.size; omega
  have hc7 := hc5.below hb7 hc5.lt
  have hB7 : Below w.heap.size w w7 := hB5.trans (hb7.mono hB5.size)
  clear hb7 hc5 hB5 hs5
  go_wp2_with (first
    | (refine wpList_at 7 rfl ?_; refine wpList_allocZ rfl 31 rfl (List.replicate 32 (.int .u8 0)) (fun ev w => by kernel_rfl) ?_; intro w8 hr8 hb8 hz8; have hb8' := hb8; have hz8' := hz8; clear hb8 hz8)
    | (refine wpList_atStore 31 (.tmp 7) (.tmp 27) rfl ?_; refine wp_stop ?_))
  refine ⟨?_⟩
  refine wpList_storeB rfl 31 (.tmp 7) (.tmp 27) rfl (c.map bv) rfl rfl hr8 Hs3.out (by rw [List.length_map, Hc.out]; rfl) (map_bv_one _) ?_
  intro w9 hr9 ho9 hz9
  have hc9 := (hc7.below hb8' hc7.lt).only ho9 (by omega)
  have hB8 : Below w.heap.size w w8 := hB7.trans (hb8'.mono hB7.size)
  have hB9 : Below w.heap.size w w9 := hB8.trans (ho9.below hB8.size fun k hk => by have := hB7.size; omega)
  have hl2 : ∀ x : BW w9.heap.size w9, (Instr.loadAt 28 (.pointer (some ⟨w3.heap.size, 0, none⟩))).run Try.prog x.w = .ok (aggB c) x.w :=
    BW.load hc9 hc9.lt Try.underlying28 rfl Hs2.out
  have hl3 : ∀ x : BW w9.heap.size w9, (Instr.loadAt 31 (.pointer (some ⟨w7.heap.size, 0, none⟩))).run Try.prog x.w = .ok (aggB c) x.w :=
    BW.load hr9 hr9.lt Try.underlying31 rfl Hs3.out
  clear hc7 hr8 hb8' hB8 hz8' ho9 hz9 hc9 hr9 hs7 hB7
  go_wp2_with fail
  refine region_inB w9.heap.size w9 (Below.refl _ _) (by kernel_rfl) (by kernel_rfl) ?_
  repeat (first
    | (go_big_quiet_want; refine quiet_eqArr 31 _ _ rfl Try.underlying31 Try.underlying5 size1B guardR (l := c) (m := c) rfl rfl Hc.out Hc.out ?_; rw [decide_eq_true (rfl : c = c)]; simp only [Act.put, List.setIfInBounds_toArray, List.set_cons_zero, List.set_cons_succ]; go_big_quiet_on)
    | (go_big_quiet_want; refine quiet_load 28 _ rfl (p := .pointer (some ⟨w3.heap.size, 0, none⟩)) rfl (fun _ ⟨x, hx⟩ => hx ▸ hl2 x) ?_; simp only [Act.put, List.setIfInBounds_toArray, List.set_cons_zero, List.set_cons_succ]; go_big_quiet_on)
    | (go_big_quiet_want; refine quiet_load 31 _ rfl (p := .pointer (some ⟨w7.heap.size, 0, none⟩)) rfl (fun _ ⟨x, hx⟩ => hx ▸ hl3 x) ?_; simp only [Act.put, List.setIfInBounds_toArray, List.set_cons_zero, List.set_cons_succ]; go_big_quiet_on)
    | go_big_quiet_step (with_reducible exact Calls.inBat _ (given_any c Hc.out _) (Nat.le_refl _)))
  refine wpQuiet_nil ?_
  intro w10 hb10
  go_wp2_with fail
  go_ret
  exact ⟨rfl, hB9.trans (hb10.mono hB9.size)⟩
end Go.Proofs.Ytmlkfkpffbbfaaa
