/- Cut of the reference; Fits of both. -/
import Derived.Test.YtmlkfkpffbbfaaaShaCu
namespace Go.Proofs.Ytmlkfkpffbbfaaa
open Go.RowKit

theorem sizeRDig : (Try.prog.info? 31).map (·.size) = some 32 := by kernel_rfl
theorem map_bv_lenR (l : List UInt8) (h : l.length = 32) : (Try.prog.info? 31).map (·.size) = some (l.map bv).length := by
  rw [List.length_map, h]; exact sizeRDig
def fitsB (d : List UInt8) (i : Int) : Bool := decide (1 ≤ i ∧ i ≤ 32 ∧ cutL d i.toNat = d)
/-- While the reference cuts: the bytes from k to j are zeros. -/
def cutting (d : List UInt8) (k j : Nat) : List UInt8 := d.take k ++ (List.replicate (j - k) 0 ++ d.drop j)
theorem cutting_set (d : List UInt8) (k j : Nat) (hd : d.length = 32) (hk : k ≤ j) (hj : j < 32) : (cutting d k j).set j 0 = cutting d k (j + 1) := by
  unfold cutting
  have h1 : (d.take k).length = k := by rw [List.length_take]; omega
  rw [List.set_append_right _ _ (by omega), h1, List.set_append_right _ _ (by rw [List.length_replicate]; omega), List.length_replicate, show j - k - (j - k) = 0 from by omega,
    List.drop_eq_getElem_cons (by omega), List.set_cons_zero, show j + 1 - k = (j - k) + 1 from by omega, List.replicate_succ', List.append_assoc]
  rfl
theorem length_cutting (d : List UInt8) (k j : Nat) (hd : d.length = 32) (hk : k ≤ j) (hj : j ≤ 32) : (cutting d k j).length = 32 := by
  simp only [cutting, List.length_append, List.length_take, List.length_replicate, List.length_drop]; omega
set_option maxHeartbeats 1000000 in
theorem refCut_any (d : List UInt8) (hd : d.length = 32) (i : Int) (hi1 : -9223372036854775808 ≤ i) (hi2 : i ≤ 9223372036854775807) (w : World) :
    Calls Try.prog 30 #[aggB d, .int .i64 i] w fun e w' => e = .returned (cutV d i) ∧ Below w.heap.size w w' := by
  have Hd := Lib.hid hd
  clear hd
  by_cases h1 : i < 1
  · have hv : Hid (cutV d i = .tuple #[aggB zero32, .int .i64 3]) := Lib.hid (by unfold cutV; rw [if_neg (by omega)])
    go_enter Try.func30, Try.ntmps30
    go_wp2_with (first
      | (refine wpList_at 2 rfl ?_; refine wpList_boxB rfl 31 (.tmp 0) rfl (d.map bv) rfl ?_; intro w1 hblk1 hb1 hz1)
      | (refine wpList_at 4 rfl ?_; refine wpList_allocZ rfl 31 rfl (List.replicate 32 (.int .u8 0)) (fun ev w => by kernel_rfl) ?_; intro w2 hblk2 hb2 hz2; rw [hz1] at hblk2)
      | (refine wpList_at 13 rfl ?_; refine wpList_build rfl rfl (aggB zero32) (by kernel_rfl) ?_)
      | (refine wpList_storeB rfl 31 (.tmp 4) (.tmp 13) rfl (zero32.map bv) rfl rfl hblk2 (sizeRDig.trans rfl) rfl (map_bv_one _) ?_; intro w3 hblk3 ho3 hz3))
    have hB2 : Below w.heap.size w w2 := hb1.trans (hb2.mono hb1.size)
    refine bodyPost_ret (v := .tuple #[aggB zero32, .int .i64 3]) (results_cell_tmp rfl _ _ (w.heap.size + 1) _ _ _ _ rfl rfl hblk3 Try.underlying31 rfl (sizeRDig.trans rfl)) rfl ?_
    exact ⟨by rw [hv.out], hB2.trans (ho3.below hB2.size fun k hk => by omega)⟩
  · by_cases h2 : 32 < i
    · have hv : Hid (cutV d i = .tuple #[aggB zero32, .int .i64 3]) := Lib.hid (by unfold cutV; rw [if_neg (by omega)])
      go_enter Try.func30, Try.ntmps30
      go_wp2_with (first
        | (refine wpList_at 2 rfl ?_; refine wpList_boxB rfl 31 (.tmp 0) rfl (d.map bv) rfl ?_; intro w1 hblk1 hb1 hz1)
        | (refine wpList_at 4 rfl ?_; refine wpList_allocZ rfl 31 rfl (List.replicate 32 (.int .u8 0)) (fun ev w => by kernel_rfl) ?_; intro w2 hblk2 hb2 hz2; rw [hz1] at hblk2)
        | (refine wpList_at 13 rfl ?_; refine wpList_build rfl rfl (aggB zero32) (by kernel_rfl) ?_)
        | (refine wpList_storeB rfl 31 (.tmp 4) (.tmp 13) rfl (zero32.map bv) rfl rfl hblk2 (sizeRDig.trans rfl) rfl (map_bv_one _) ?_; intro w3 hblk3 ho3 hz3))
      have hB2 : Below w.heap.size w w2 := hb1.trans (hb2.mono hb1.size)
      refine bodyPost_ret (v := .tuple #[aggB zero32, .int .i64 3]) (results_cell_tmp rfl _ _ (w.heap.size + 1) _ _ _ _ rfl rfl hblk3 Try.underlying31 rfl (sizeRDig.trans rfl)) rfl ?_
      exact ⟨by rw [hv.out], hB2.trans (ho3.below hB2.size fun k hk => by omega)⟩
    · obtain ⟨k, rfl⟩ : ∃ k : Nat, i = k := ⟨i.toNat, by omega⟩
      have hv : Hid (cutV d k = .tuple #[aggB (cutL d k), .int .i64 0]) := Lib.hid (by
        unfold cutV
        rw [if_pos (by omega), Int.toNat_natCast])
      have Hs := Lib.hid (map_bv_lenR (cutL d k) (length_cut d k Hd.out (by omega)))
      have g1 : ¬ (k : Int) < 1 := h1
      have g2 : (k : Int) ≤ 32 := by omega
      clear h1 h2
      go_enter Try.func30, Try.ntmps30
      go_wp2_with (first
        | (refine wpList_at 2 rfl ?_; refine wpList_boxB rfl 31 (.tmp 0) rfl (d.map bv) rfl ?_; intro w1 hblk1 hb1 hz1)
        | (refine wpList_at 4 rfl ?_; refine wpList_allocZ rfl 31 rfl (List.replicate 32 (.int .u8 0)) (fun ev w => by kernel_rfl) ?_; intro w2 hblk2 hb2 hz2; rw [hz1] at hblk2; have hblk12 := hblk1.below hb2 hblk1.lt))
      have hB2 : Below w.heap.size w w2 := hb1.trans (hb2.mono hb1.size)
      have HB2 := Lib.hid hB2
      have H2 := Lib.hid hblk2
      have H12 := Lib.hid hblk12
      have hz : w.heap.size + 1 < w2.heap.size := by omega
      clear hblk1 hblk2 hblk12 hb1 hb2 hB2 hz1 hz2
      go_loopw [6] (fun v wr => ∃ j : Nat, k ≤ j ∧ j ≤ 32 ∧ v = .int .i64 j ∧ Blk wr w.heap.size 31 ((cutting d k j).map bv).toArray ∧ Only (fun b => b = w.heap.size) w2 wr) (fun v _ => 32 - (intOf v).toNat)
      case atStart => exact ⟨k, Nat.le_refl _, by omega, rfl, by
        rw [show cutting d k k = d from by unfold cutting; rw [Nat.sub_self, List.replicate_zero, List.nil_append, List.take_append_drop]]
        exact H12.out, Only.refl _ _⟩
      case round =>
        obtain ⟨j, hj1, hj2, rfl, hblk, hO⟩ := hrel
        by_cases hlt : j < 32
        · have g3 : (j : Int) < 32 := by omega
          have hf := hblk.frozen j
          obtain ⟨v, hcv⟩ := hblk.some (i := j) (by rw [List.length_map, length_cutting d k j Hd.out hj1 hj2]; exact hlt)
          have hgl := hblk.lt
          have Hblk := Lib.hid hblk
          have HO := Lib.hid hO
          clear hblk hO
          go_wp2_with fail
          refine ⟨⟨j + 1, by omega, by omega, by go_num, ?_, HO.out.setCell (p := ⟨w.heap.size, j, none⟩) (.inl rfl) _⟩, by simp [intOf]; omega⟩
          have h := Hblk.out.setL j (bv 0)
          rw [← List.map_set, cutting_set d k j Hd.out hj1 hlt] at h
          exact h
        · obtain rfl : j = 32 := by omega
          rw [show cutting d k 32 = cutL d k from by unfold cutting cutL; rw [List.drop_eq_nil_of_le (by rw [Hd.out]; omega), List.append_nil]] at hblk
          have h2 := H2.out.only hO (by omega)
          have HB3 := Lib.hid (HB2.out.trans (hO.below HB2.out.size fun k hk => by omega))
          have H3 := Lib.hid h2
          have H4 := Lib.hid hblk
          clear hblk hO h2
          go_wp2_with (first
            | (refine wpList_at 21 rfl ?_; refine wpList_loadG rfl 31 (.tmp 2) rfl w.heap.size rfl ((cutL d k).map bv) _ H4.out Try.underlying31 rfl Hs.out ?_)
            | (refine wpList_atStore 31 (.tmp 4) (.tmp 21) rfl ?_; refine wp_stop ?_))
          refine ⟨?_⟩
          refine wpList_storeB rfl 31 (.tmp 4) (.tmp 21) rfl ((cutL d k).map bv) rfl rfl H3.out Hs.out (by rw [List.length_map, length_cut d k Hd.out (by omega)]; rfl) (map_bv_one _) ?_
          intro w4 hblk4 ho4 hz4
          go_wp2_with fail
          refine bodyPost_ret (v := .tuple #[aggB (cutL d k), .int .i64 0]) (results_cell_tmp rfl _ _ (w.heap.size + 1) _ _ _ _ rfl rfl hblk4 Try.underlying31 rfl (Hs.out.trans (by simp))) rfl ?_
          exact ⟨by rw [hv.out], HB3.out.trans (ho4.below HB3.out.size fun k hk => by omega)⟩
set_option maxHeartbeats 1000000 in
theorem fits_any (d : List UInt8) (hd : d.length = 32) (i : Int) (hi1 : -9223372036854775808 ≤ i) (hi2 : i ≤ 9223372036854775807) (w : World) :
    Calls Try.prog 31 #[aggB d, .int .i64 i] w fun e w' => e = .returned (.bool (fitsB d i)) ∧ Below w.heap.size w w' := by
  have Hd := Lib.hid hd
  have Hs := Lib.hid (map_bv_len d hd)
  clear hd
  have hcut := fun w => cut_any d Hd.out i hi1 hi2 w
  by_cases hgood : 1 ≤ i ∧ i ≤ 32
  · have hv : Hid (cutV d i = .tuple #[aggB (cutL d i.toNat), .int .i64 0]) := Lib.hid (by unfold cutV; rw [if_pos hgood])
    have hl : (cutL d i.toNat).length = 32 := length_cut d _ Hd.out (by omega)
    have Hs2 := Lib.hid (map_bv_len _ hl)
    have Hl := Lib.hid hl
    have heq := fun w => run_eqArr (P := Try.prog) (w := w) Try.underlying28 Try.underlying5 size1B hl Hd.out
    have hfit : Hid (fitsB d i = decide (cutL d i.toNat = d)) := Lib.hid (by unfold fitsB; rw [Bool.eq_iff_iff, decide_eq_true_iff, decide_eq_true_iff]; exact ⟨fun h => h.2.2, fun h => ⟨hgood.1, hgood.2, h⟩⟩)
    clear hgood hl
    go_enter Try.func31, Try.ntmps31
    go_wp2_with (first
      | (refine wpList_at 2 rfl ?_; refine wpList_boxB rfl 28 (.tmp 0) rfl (d.map bv) rfl ?_; intro w1 hblk1 hb1 hz1)
      | (refine wpList_at 8 rfl ?_; refine wpList_loadG rfl 28 (.tmp 2) rfl w.heap.size rfl (d.map bv) _ hblk1 Try.underlying28 rfl Hs.out ?_))
    refine (hcut _).mono ?_
    rintro e w2 ⟨rfl, hb2⟩
    rw [hv.out]
    have hblk12 := hblk1.below hb2 hblk1.lt
    have hs2 := hb2.size
    have hB2 : Below w.heap.size w w2 := hb1.trans (hb2.mono hb1.size)
    clear hb1 hb2 hblk1 hcut
    go_wp2_with (first
      | (refine wpList_at 5 rfl ?_; refine wpList_allocZ rfl 28 rfl (List.replicate 32 (.int .u8 0)) (fun ev w => by kernel_rfl) ?_; intro w3 hblk3 hb3 hz3; have hblk13 := hblk12.below hb3 hblk12.lt; have hb3' := hb3; clear hb3)
      | (refine wpList_atStore 28 (.tmp 5) (.tmp 11) rfl ?_; refine wp_stop ?_))
    refine ⟨?_⟩
    refine wpList_storeB rfl 28 (.tmp 5) (.tmp 11) rfl ((cutL d i.toNat).map bv) rfl rfl hblk3 Hs2.out (by rw [List.length_map, Hl.out]; rfl) (map_bv_one _) ?_
    intro w4 hblk4 ho4 hz4
    have hblk14 := hblk13.only ho4 (by omega)
    have hB4 : Below w.heap.size w w4 := (hB2.trans (hb3'.mono hB2.size)).trans (ho4.below (by have := hB2.size; omega) fun k hk => by have := hB2.size; omega)
    clear hblk3 hblk12 hblk13 hb3' ho4 hB2 hz3 hz4 hs2 hz1
    go_wp2_with (first
      | (refine wpList_at 16 rfl ?_; refine wpList_loadG rfl 28 (.tmp 5) rfl w2.heap.size rfl ((cutL d i.toNat).map bv) _ hblk4 Try.underlying28 rfl Hs2.out ?_)
      | (refine wpList_at 17 rfl ?_; refine wpList_loadG rfl 28 (.tmp 2) rfl w.heap.size rfl (d.map bv) _ hblk14 Try.underlying28 rfl Hs.out ?_))
    go_ret
    exact ⟨by rw [hfit.out]; rfl, hB4⟩
  · have hv : Hid (cutV d i = .tuple #[aggB zero32, .int .i64 3]) := Lib.hid (by unfold cutV; rw [if_neg hgood])
    have hfit : Hid (fitsB d i = false) := Lib.hid (by unfold fitsB; rw [decide_eq_false_iff_not]; exact fun h => hgood ⟨h.1, h.2.1⟩)
    clear hgood
    go_enter Try.func31, Try.ntmps31
    go_wp2_with (first
      | (refine wpList_at 2 rfl ?_; refine wpList_boxB rfl 28 (.tmp 0) rfl (d.map bv) rfl ?_; intro w1 hblk1 hb1 hz1)
      | (refine wpList_at 8 rfl ?_; refine wpList_loadG rfl 28 (.tmp 2) rfl w.heap.size rfl (d.map bv) _ hblk1 Try.underlying28 rfl Hs.out ?_))
    refine (hcut _).mono ?_
    rintro e w2 ⟨rfl, hb2⟩
    rw [hv.out]
    have hB2 : Below w.heap.size w w2 := hb1.trans (hb2.mono hb1.size)
    clear hb1 hb2 hblk1 hcut hz1
    go_wp2_with (first
      | (refine wpList_at 5 rfl ?_; refine wpList_allocZ rfl 28 rfl (List.replicate 32 (.int .u8 0)) (fun ev w => by kernel_rfl) ?_; intro w3 hblk3 hb3 hz3; have hb3' := hb3; clear hb3)
      | (refine wpList_atStore 28 (.tmp 5) (.tmp 11) rfl ?_; refine wp_stop ?_))
    refine ⟨?_⟩
    refine wpList_storeB rfl 28 (.tmp 5) (.tmp 11) rfl (zero32.map bv) rfl rfl hblk3 (sizeDig.trans rfl) rfl (map_bv_one _) ?_
    intro w4 hblk4 ho4 hz4
    have hB4 : Below w.heap.size w w4 := (hB2.trans (hb3'.mono hB2.size)).trans (ho4.below (by have := hB2.size; omega) fun k hk => by have := hB2.size; omega)
    clear hblk3 hb3' ho4 hB2 hz3 hz4
    go_wp2_with fail
    go_ret
    exact ⟨by rw [hfit.out]; rfl, hB4⟩
set_option maxHeartbeats 1000000 in
theorem refFits_any (d : List UInt8) (hd : d.length = 32) (i : Int) (hi1 : -9223372036854775808 ≤ i) (hi2 : i ≤ 9223372036854775807) (w : World) :
    Calls Try.prog 32 #[aggB d, .int .i64 i] w fun e w' => e = .returned (.bool (fitsB d i)) ∧ Below w.heap.size w w' := by
  have Hd := Lib.hid hd
  have Hs := Lib.hid (map_bv_lenR d hd)
  clear hd
  have hcut := fun w => refCut_any d Hd.out i hi1 hi2 w
  by_cases hgood : 1 ≤ i ∧ i ≤ 32
  · have hv : Hid (cutV d i = .tuple #[aggB (cutL d i.toNat), .int .i64 0]) := Lib.hid (by unfold cutV; rw [if_pos hgood])
    have hl : (cutL d i.toNat).length = 32 := length_cut d _ Hd.out (by omega)
    have Hs2 := Lib.hid (map_bv_lenR _ hl)
    have Hl := Lib.hid hl
    have heq := fun w => run_eqArr (P := Try.prog) (w := w) Try.underlying31 Try.underlying5 size1B hl Hd.out
    have hfit : Hid (fitsB d i = decide (cutL d i.toNat = d)) := Lib.hid (by unfold fitsB; rw [Bool.eq_iff_iff, decide_eq_true_iff, decide_eq_true_iff]; exact ⟨fun h => h.2.2, fun h => ⟨hgood.1, hgood.2, h⟩⟩)
    clear hgood hl
    go_enter Try.func32, Try.ntmps32
    go_wp2_with (first
      | (refine wpList_at 2 rfl ?_; refine wpList_boxB rfl 31 (.tmp 0) rfl (d.map bv) rfl ?_; intro w1 hblk1 hb1 hz1)
      | (refine wpList_at 8 rfl ?_; refine wpList_loadG rfl 31 (.tmp 2) rfl w.heap.size rfl (d.map bv) _ hblk1 Try.underlying31 rfl Hs.out ?_))
    refine (hcut _).mono ?_
    rintro e w2 ⟨rfl, hb2⟩
    rw [hv.out]
    have hblk12 := hblk1.below hb2 hblk1.lt
    have hs2 := hb2.size
    have hB2 : Below w.heap.size w w2 := hb1.trans (hb2.mono hb1.size)
    clear hb1 hb2 hblk1 hcut
    go_wp2_with (first
      | (refine wpList_at 5 rfl ?_; refine wpList_allocZ rfl 31 rfl (List.replicate 32 (.int .u8 0)) (fun ev w => by kernel_rfl) ?_; intro w3 hblk3 hb3 hz3; have hblk13 := hblk12.below hb3 hblk12.lt; have hb3' := hb3; clear hb3)
      | (refine wpList_atStore 31 (.tmp 5) (.tmp 11) rfl ?_; refine wp_stop ?_))
    refine ⟨?_⟩
    refine wpList_storeB rfl 31 (.tmp 5) (.tmp 11) rfl ((cutL d i.toNat).map bv) rfl rfl hblk3 Hs2.out (by rw [List.length_map, Hl.out]; rfl) (map_bv_one _) ?_
    intro w4 hblk4 ho4 hz4
    have hblk14 := hblk13.only ho4 (by omega)
    have hB4 : Below w.heap.size w w4 := (hB2.trans (hb3'.mono hB2.size)).trans (ho4.below (by have := hB2.size; omega) fun k hk => by have := hB2.size; omega)
    clear hblk3 hblk12 hblk13 hb3' ho4 hB2 hz3 hz4 hs2 hz1
    go_wp2_with (first
      | (refine wpList_at 16 rfl ?_; refine wpList_loadG rfl 31 (.tmp 5) rfl w2.heap.size rfl ((cutL d i.toNat).map bv) _ hblk4 Try.underlying31 rfl Hs2.out ?_)
      | (refine wpList_at 17 rfl ?_; refine wpList_loadG rfl 31 (.tmp 2) rfl w.heap.size rfl (d.map bv) _ hblk14 Try.underlying31 rfl Hs.out ?_))
    go_ret
    exact ⟨by rw [hfit.out]; rfl, hB4⟩
  · have hv : Hid (cutV d i = .tuple #[aggB zero32, .int .i64 3]) := Lib.hid (by unfold cutV; rw [if_neg hgood])
    have hfit : Hid (fitsB d i = false) := Lib.hid (by unfold fitsB; rw [decide_eq_false_iff_not]; exact fun h => hgood ⟨h.1, h.2.1⟩)
    clear hgood
    go_enter Try.func32, Try.ntmps32
    go_wp2_with (first
      | (refine wpList_at 2 rfl ?_; refine wpList_boxB rfl 31 (.tmp 0) rfl (d.map bv) rfl ?_; intro w1 hblk1 hb1 hz1)
      | (refine wpList_at 8 rfl ?_; refine wpList_loadG rfl 31 (.tmp 2) rfl w.heap.size rfl (d.map bv) _ hblk1 Try.underlying31 rfl Hs.out ?_))
    refine (hcut _).mono ?_
    rintro e w2 ⟨rfl, hb2⟩
    rw [hv.out]
    have hB2 : Below w.heap.size w w2 := hb1.trans (hb2.mono hb1.size)
    clear hb1 hb2 hblk1 hcut hz1
    go_wp2_with (first
      | (refine wpList_at 5 rfl ?_; refine wpList_allocZ rfl 31 rfl (List.replicate 32 (.int .u8 0)) (fun ev w => by kernel_rfl) ?_; intro w3 hblk3 hb3 hz3; have hb3' := hb3; clear hb3)
      | (refine wpList_atStore 31 (.tmp 5) (.tmp 11) rfl ?_; refine wp_stop ?_))
    refine ⟨?_⟩
    refine wpList_storeB rfl 31 (.tmp 5) (.tmp 11) rfl (zero32.map bv) rfl rfl hblk3 (sizeRDig.trans rfl) rfl (map_bv_one _) ?_
    intro w4 hblk4 ho4 hz4
    have hB4 : Below w.heap.size w w4 := (hB2.trans (hb3'.mono hB2.size)).trans (ho4.below (by have := hB2.size; omega) fun k hk => by have := hB2.size; omega)
    clear hblk3 hb3' ho4 hB2 hz3 hz4
    go_wp2_with fail
    go_ret
    exact ⟨by rw [hfit.out]; rfl, hB4⟩
end Go.Proofs.Ytmlkfkpffbbfaaa
