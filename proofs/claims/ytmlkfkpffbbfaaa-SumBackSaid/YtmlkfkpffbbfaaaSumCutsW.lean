/- The walk of SumCuts: it returns true. -/
import Derived.Test.YtmlkfkpffbbfaaaShaFi
import Derived.Test.YtmlkfkpffbbfaaaShaGi
namespace Go.Proofs.Ytmlkfkpffbbfaaa
open Go.RowKit

theorem cut_again (d : List UInt8) (k : Nat) (hd : d.length = 32) (hk : k ≤ 32) : cutL (cutL d k) k = cutL d k := by
  unfold cutL
  have h1 : (d.take k).length = k := by rw [List.length_take]; omega
  rw [List.take_append_of_le_length (by omega), List.take_of_length_le (by omega)]
theorem cut_parts (d : List UInt8) (hd : d.length = 32) (i : Int) : ∃ (c : List UInt8) (e : Int), cutV d i = .tuple #[aggB c, .int .i64 e] ∧ c.length = 32 ∧ fitsB c i = (e == 0) := by
  by_cases hg : 1 ≤ i ∧ i ≤ 32
  · refine ⟨cutL d i.toNat, 0, by unfold cutV; rw [if_pos hg], length_cut d _ hd (by omega), ?_⟩
    unfold fitsB
    rw [cut_again d _ hd (by omega)]
    simp [hg.1, hg.2]
  · refine ⟨zero32, 3, by unfold cutV; rw [if_neg hg], rfl, ?_⟩
    unfold fitsB
    rw [decide_eq_false (fun h => hg ⟨h.1, h.2.1⟩)]
    rfl
set_option maxHeartbeats 2000000 in
theorem sumCuts_walk (d : List UInt8) (hd : d.length = 32) (i : Int) (hi1 : -9223372036854775808 ≤ i) (hi2 : i ≤ 9223372036854775807) (w : World) :
    Calls Try.prog 8 #[aggB d, .int .i64 i] w fun e w' => e = .returned (.bool true) ∧ Below w.heap.size w w' := by
  obtain ⟨c, e0, hcv, hc, hfit⟩ := cut_parts d hd i
  have Hd := Lib.hid hd
  have Hc := Lib.hid hc
  have Hcv := Lib.hid hcv
  have Hs := Lib.hid (map_bv_len d hd)
  have Hs2 := Lib.hid (map_bv_len c hc)
  have Hs3 := Lib.hid (map_bv_lenR c hc)
  have heq : ∀ w', (Op.equalIn 10000 31 (aggB c) (aggB c)).run Try.prog w' = .ok true w' := fun w' => by
    have h := run_eqArr (P := Try.prog) (w := w') Try.underlying31 Try.underlying5 size1B hc hc
    rw [decide_eq_true rfl] at h
    exact h
  clear hd hc hcv
  go_enter Try.func8, Try.ntmps8
  go_wp2_with (refine wpList_at 2 rfl ?_; refine wpList_boxB rfl 28 (.tmp 0) rfl (d.map bv) rfl ?_; intro w1 hblk1 hb1 hz1)
  refine (known_any w1).mono ?_
  rintro e w2 ⟨rfl, hb2⟩
  have hB2 : Below w.heap.size w w2 := hb1.trans (hb2.mono hb1.size)
  have hblk2 := hblk1.below hb2 hblk1.lt
  have hs2 : w.heap.size < w2.heap.size := by have := hb2.size; omega
  clear hblk1 hb1 hb2 hz1
  go_wp2_with (refine wpList_at 12 rfl ?_; refine wpList_loadG rfl 28 (.tmp 2) rfl w.heap.size rfl (d.map bv) _ hblk2 Try.underlying28 rfl Hs.out ?_)
  refine (cut_any d Hd.out i hi1 hi2 w2).mono ?_
  rintro e w3 ⟨rfl, hb3⟩
  rw [Hcv.out]
  have hB3 : Below w.heap.size w w3 := hB2.trans (hb3.mono hB2.size)
  have hblk3 := hblk2.below hb3 hblk2.lt
  have hs3 : w.heap.size < w3.heap.size := by have := hb3.size; omega
  clear hblk2 hb3 hB2 hs2
  go_wp2_with (first
    | (refine wpList_at 5 rfl ?_; refine wpList_allocZ rfl 28 rfl (List.replicate 32 (.int .u8 0)) (fun ev w => by kernel_rfl) ?_; intro w4 hc4 hb4 hz4; have hblk4 := hblk3.below hb4 hblk3.lt; have hb4' := hb4; clear hb4 hblk3)
    | (refine wpList_atStore 28 (.tmp 5) (.tmp 15) rfl ?_; refine wp_stop ?_))
  refine ⟨?_⟩
  refine wpList_storeB rfl 28 (.tmp 5) (.tmp 15) rfl (c.map bv) rfl rfl hc4 Hs2.out (by rw [List.length_map, Hc.out]; rfl) (map_bv_one _) ?_
  intro w5 hc5 ho5 hz5
  have hblk5 := hblk4.only ho5 (by omega)
  have hB4 : Below w.heap.size w w4 := hB3.trans (hb4'.mono (by omega))
  have hB5 : Below w.heap.size w w5 := hB4.trans (ho5.below hB4.size fun k hk => by omega)
  have hs5 : w3.heap.size < w5.heap.size := by omega
  clear hblk4 hc4 hb4' ho5 hB4 hz4 hz5 hB3
  go_wp2_with (refine wpList_at 18 rfl ?_; refine wpList_loadG rfl 28 (.tmp 2) rfl w.heap.size rfl (d.map bv) _ hblk5 Try.underlying28 rfl Hs.out ?_)
  refine (given_any d Hd.out w5).mono ?_
  rintro e w6 ⟨rfl, hb6⟩
  have hs6 : w3.heap.size < w6.heap.size := by have := hb6.size; omega
  have hblk6 := hblk5.below hb6 hblk5.lt
  have hc6 := hc5.below hb6 hc5.lt
  have hB6 : Below w.heap.size w w6 := hB5.trans (hb6.mono hB5.size)
  clear hb6 hblk5 hc5 hB5 hs5
  go_wp2_with fail
  refine (refCut_any d Hd.out i hi1 hi2 w6).mono ?_
  rintro e w7 ⟨rfl, hb7⟩
  rw [Hcv.out]
  have hs7 : w3.heap.size < w7.heap.size := by have := hb7.size; omega
  have hblk7 := hblk6.below hb7 hblk6.lt
  have hc7 := hc6.below hb7 hc6.lt
  have hB7 : Below w.heap.size w w7 := hB6.trans (hb7.mono hB6.size)
  clear hb7 hblk6 hc6 hB6 hs6
  go_wp2_with (first
    | (refine wpList_at 7 rfl ?_; refine wpList_allocZ rfl 31 rfl (List.replicate 32 (.int .u8 0)) (fun ev w => by kernel_rfl) ?_; intro w8 hr8 hb8 hz8; have hb8' := hb8; have hz8' := hz8; clear hb8 hz8)
    | (refine wpList_atStore 31 (.tmp 7) (.tmp 22) rfl ?_; refine wp_stop ?_))
  refine ⟨?_⟩
  refine wpList_storeB rfl 31 (.tmp 7) (.tmp 22) rfl (c.map bv) rfl rfl hr8 Hs3.out (by rw [List.length_map, Hc.out]; rfl) (map_bv_one _) ?_
  intro w9 hr9 ho9 hz9
  have hblk9 := (hblk7.below hb8' hblk7.lt).only ho9 (by omega)
  have hc9 := (hc7.below hb8' hc7.lt).only ho9 (by omega)
  have hB8 : Below w.heap.size w w8 := hB7.trans (hb8'.mono (by omega))
  have hB9 : Below w.heap.size w w9 := hB8.trans (ho9.below hB8.size fun k hk => by omega)
  have hl1 : ∀ x : BW w9.heap.size w9, (Instr.loadAt 28 (.pointer (some ⟨w.heap.size, 0, none⟩))).run Try.prog x.w = .ok (aggB d) x.w :=
    BW.load hblk9 hblk9.lt Try.underlying28 rfl Hs.out
  have hl2 : ∀ x : BW w9.heap.size w9, (Instr.loadAt 28 (.pointer (some ⟨w3.heap.size, 0, none⟩))).run Try.prog x.w = .ok (aggB c) x.w :=
    BW.load hc9 hc9.lt Try.underlying28 rfl Hs2.out
  have hl3 : ∀ x : BW w9.heap.size w9, (Instr.loadAt 31 (.pointer (some ⟨w7.heap.size, 0, none⟩))).run Try.prog x.w = .ok (aggB c) x.w :=
    BW.load hr9 hr9.lt Try.underlying31 rfl Hs3.out
  clear hblk7 hc7 hr8 hb8' hB8 hz8' ho9 hz9 hblk9 hc9 hr9 hs7 hB7
  go_wp2_with fail
  refine region_inB w9.heap.size w9 (Below.refl _ _) (by kernel_rfl) (by kernel_rfl) ?_
  repeat (first
    | (go_big_quiet_want; refine quiet_eqArr 31 _ _ rfl Try.underlying31 Try.underlying5 size1B guardR (l := c) (m := c) rfl rfl Hc.out Hc.out ?_; rw [decide_eq_true (rfl : c = c)]; simp only [Act.put, List.setIfInBounds_toArray, List.set_cons_zero, List.set_cons_succ]; go_big_quiet_on)
    | (go_big_quiet_want; refine quiet_load 28 _ rfl (p := .pointer (some ⟨w.heap.size, 0, none⟩)) rfl (fun _ ⟨x, hx⟩ => hx ▸ hl1 x) ?_; simp only [Act.put, List.setIfInBounds_toArray, List.set_cons_zero, List.set_cons_succ]; go_big_quiet_on)
    | (go_big_quiet_want; refine quiet_load 28 _ rfl (p := .pointer (some ⟨w3.heap.size, 0, none⟩)) rfl (fun _ ⟨x, hx⟩ => hx ▸ hl2 x) ?_; simp only [Act.put, List.setIfInBounds_toArray, List.set_cons_zero, List.set_cons_succ]; go_big_quiet_on)
    | (go_big_quiet_want; refine quiet_load 31 _ rfl (p := .pointer (some ⟨w7.heap.size, 0, none⟩)) rfl (fun _ ⟨x, hx⟩ => hx ▸ hl3 x) ?_; simp only [Act.put, List.setIfInBounds_toArray, List.set_cons_zero, List.set_cons_succ]; go_big_quiet_on)
    | go_big_quiet_step (first
      | with_reducible exact Calls.inBat _ (given_any d Hd.out _) (Nat.le_refl _)
      | with_reducible exact Calls.inBat _ (given_any c Hc.out _) (Nat.le_refl _)
      | with_reducible exact Calls.inBat _ (fits_any d Hd.out i hi1 hi2 _) (Nat.le_refl _)
      | with_reducible exact Calls.inBat _ (fits_any c Hc.out i hi1 hi2 _) (Nat.le_refl _)
      | with_reducible exact Calls.inBat _ (refFits_any d Hd.out i hi1 hi2 _) (Nat.le_refl _)))
  refine wpQuiet_nil ?_
  intro w10 hb10
  go_wp2_with fail
  go_ret
  exact ⟨rfl, hB9.trans (hb10.mono hB9.size)⟩
end Go.Proofs.Ytmlkfkpffbbfaaa
