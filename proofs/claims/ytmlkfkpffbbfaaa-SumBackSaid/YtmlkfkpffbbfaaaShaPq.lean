/- Parse of the reference. -/
import Derived.Test.YtmlkfkpffbbfaaaShaPr
namespace Go.Proofs.Ytmlkfkpffbbfaaa
open Go.RowKit

theorem hexI_digit (n : Nat) (h : n < 16) : hexI (digit n) = n := by
  have : ∀ n, n < 16 → hexI (digit n) = n := by decide +kernel
  exact this n h
theorem digit_hexI (c : UInt8) (n : Nat) (h : n < 16) : c = digit n ↔ hexI c = n := by
  constructor
  · rintro rfl; exact hexI_digit n h
  · intro hc
    have : ∀ m, m < 256 → ∀ n : Nat, n < 16 → hexI (UInt8.ofNat m) = (n : Int) → UInt8.ofNat m = digit n := by decide +kernel
    have h2 := this c.toNat c.toNat_lt n h
    rw [show UInt8.ofNat c.toNat = c from by simp] at h2
    exact h2 hc
theorem step_sum (x : UInt8) (n : Nat) (_h : n < 16) : 16 * (x.toNat : Int) % 256 + (n : Int) = ((stepB x n).toNat : Int) := by
  unfold stepB
  rw [UInt8.toNat_ofNat']
  omega
set_option maxRecDepth 100000 in
set_option maxHeartbeats 2000000 in
theorem refParse_any (s : List UInt8) (w : World) :
    Calls Try.prog 35 #[.string ⟨s.toArray⟩] w fun e w' => e = .returned (parseV s) ∧ Below w.heap.size w w' := by
  have hsz : (⟨s.toArray⟩ : ByteArray).size = s.length := by simp [ByteArray.size]
  by_cases hlen : s.length = 64
  · have Hlen := Lib.hid hlen
    rw [hlen] at hsz
    clear hlen
    go_enter Try.func35, Try.ntmps35
    go_wp2_with (first
      | (refine wpList_at 2 rfl ?_; refine wpList_allocZ rfl 31 rfl (List.replicate 32 (.int .u8 0)) (fun ev w => by kernel_rfl) ?_; intro w1 hblk1 hb1 hz1)
      | (refine wpList_at 4 rfl ?_; refine wpList_allocZ rfl 31 rfl (List.replicate 32 (.int .u8 0)) (fun ev w => by kernel_rfl) ?_; intro w2 hblk2 hb2 hz2))
    have hB2 : Below w.heap.size w w2 := hb1.trans (hb2.mono hb1.size)
    have H1 := Lib.hid (hblk1.below hb2 hblk1.lt)
    rw [hz1] at hblk2
    have H2 := Lib.hid hblk2
    have HB2 := Lib.hid hB2
    have hzz : w.heap.size + 1 < w2.heap.size := by omega
    have Hsz := Lib.hid hsz
    clear hblk1 hblk2 hb1 hb2 hz1 hz2 hB2 hsz
    go_loopw [5] (fun i wr => ∃ k : Nat, k ≤ 64 ∧ i = .int .i64 k ∧ (∀ j, j < k → 0 ≤ hexI (s.getD j 0)) ∧ Blk wr (w.heap.size + 1) 31 ((parseK s k).map bv).toArray ∧ Only (fun b => b = w.heap.size + 1) w2 wr) (fun i _ => 64 - (intOf i).toNat)
    case atStart => exact ⟨0, by omega, rfl, fun j hj => by omega, H2.out, Only.refl _ _⟩
    case round =>
      obtain ⟨k, hk, rfl, hall, hblk, hO⟩ := hrel
      by_cases hlt : k < 64
      · have g1 : (k : Int) < 64 := by omega
        obtain ⟨c, hc⟩ : ∃ c, c = s.getD k 0 := ⟨_, rfl⟩
        have hsx : ∀ w', (Instr.index 9 (.string ⟨s.toArray⟩) (.int .i64 (k : Int))).run Try.prog w' = .ok (.int .u8 (c.toNat : Int)) w' := fun w' => by
          rw [run_index_string w' _ _ _ _ Try.underlying9, dif_pos ⟨by omega, by rw [Hsz.out]; omega⟩]
          have hks : k < s.length := by rw [Hlen.out]; exact hlt
          rw [hc, List.getD_eq_getElem?_getD, List.getElem?_eq_getElem hks]
          rfl
        have Hsx := Lib.hid hsx
        have Hc := Lib.hid hc
        have Hall := Lib.hid hall
        have hk2 : k / 2 < 32 := by omega
        have hk2i : (k : Int) / 2 < 32 := by omega
        have Hblk := Lib.hid hblk
        have HO := Lib.hid hO
        clear hblk hO hall hsx hc
        obtain ⟨wo, rfl⟩ : ∃ wo : World, wo = wr := ⟨_, rfl⟩
        go_wp2_with fail
        go_loopw [6, 7] (fun f i wr => ∃ n : Nat, n ≤ 16 ∧ i = .int .i64 n ∧ f = .bool (decide (0 ≤ hexI c ∧ hexI c < n)) ∧ Blk wr (w.heap.size + 1) 31 ((if 0 ≤ hexI c ∧ hexI c < n then parseK s (k + 1) else parseK s k).map bv).toArray ∧ Only (fun b => b = w.heap.size + 1) w2 wr) (fun _ i _ => 16 - (intOf i).toNat)
        case atStart => exact ⟨0, by omega, rfl, by rw [decide_eq_false (by omega)], by rw [if_neg (by omega)]; exact Hblk.out, HO.out⟩
        case round =>
          obtain ⟨n, hn, rfl, rfl, hblk, hO⟩ := hrel
          by_cases hlt2 : n < 16
          · have g2 : (n : Int) < 16 := by omega
            have hgl := hblk.lt
            have hcall := fun w => digit_any n hlt2 w
            have hsx := Hsx.out
            by_cases heq : hexI c = n
            · have hcd := (digit_hexI c n hlt2).2 heq
              have hd : ((c.toNat : Int) == ((digit n).toNat : Int)) = true := by rw [hcd]; simp
              rw [if_neg (by omega)] at hblk
              obtain ⟨x, hx⟩ : ∃ x, x = (parseK s k).getD (k / 2) 0 := ⟨_, rfl⟩
              have hkl : k / 2 < (parseK s k).length := by rw [length_parseK]; exact hk2
              have hxc : wr.cell? ⟨w.heap.size + 1, k / 2, none⟩ = some (.int .u8 (x.toNat : Int)) := by
                rw [hblk.at_, List.getElem?_map, List.getElem?_eq_getElem hkl, hx, List.getD_eq_getElem?_getD, List.getElem?_eq_getElem hkl]; rfl
              have hf := hblk.frozen (k / 2)
              have hss := step_sum x n hlt2
              have hnext : Hid (parseK s (k + 1) = (parseK s k).set (k / 2) (stepB x n)) := Lib.hid (by rw [parseK, ← hx, ← Hc.out, heq, Int.toNat_natCast])
              have Heq := Lib.hid heq
              have Hss := Lib.hid hss
              have Hb := Lib.hid hblk
              have HOr := Lib.hid hO
              clear hx heq hss hblk hO hcd
              go_wp2_with fail
              go_quiet ((with_reducible exact Calls.quiet_of_same (hcall _)))
              clear hsx hcall
              go_wp2_with fail
              refine ⟨⟨n + 1, by omega, by go_num, ?_, ?_, ?_⟩, by simp [intOf]; omega⟩
              · rw [decide_eq_true (by have := Heq.out; omega)]
              · rw [if_pos (by have := Heq.out; omega), hnext.out, Hss.out]
                have h := (show Blk (wr.drewN nq) (w.heap.size + 1) 31 ((parseK s k).map bv).toArray from Hb.out).setL (k / 2) (bv (stepB x n))
                rw [← List.map_set] at h
                exact h
              · have h : Only (fun b => b = w.heap.size + 1) w2 (wr.drewN nq) := ⟨HOr.out.os, HOr.out.tape, HOr.out.output, HOr.out.size, HOr.out.block⟩
                exact h.setCell (p := ⟨w.heap.size + 1, k / 2, none⟩) (.inl rfl) _
            · have hcd : c ≠ digit n := fun h => heq ((digit_hexI c n hlt2).1 h)
              have hd : ((c.toNat : Int) == ((digit n).toNat : Int)) = false := by
                rw [beq_eq_false_iff_ne]
                intro h
                exact hcd (UInt8.toNat_inj.1 (by omega))
              have Heq := Lib.hid heq
              have Hb := Lib.hid hblk
              have HOr := Lib.hid hO
              clear heq hblk hO hcd
              go_wp2_with fail
              go_quiet ((with_reducible exact Calls.quiet_of_same (hcall _)))
              clear hsx hcall
              go_wp2_with fail
              refine ⟨⟨n + 1, by omega, by go_num, ?_, ?_, ⟨HOr.out.os, HOr.out.tape, HOr.out.output, HOr.out.size, HOr.out.block⟩⟩, by simp [intOf]; omega⟩
              · congr 1
                rw [Bool.eq_iff_iff, decide_eq_true_iff, decide_eq_true_iff]
                have := Heq.out
                omega
              · have e : (if 0 ≤ hexI c ∧ hexI c < ((n + 1 : Nat) : Int) then parseK s (k + 1) else parseK s k) = (if 0 ≤ hexI c ∧ hexI c < (n : Int) then parseK s (k + 1) else parseK s k) := by
                  have := Heq.out
                  by_cases h : 0 ≤ hexI c ∧ hexI c < (n : Int)
                  · rw [if_pos h, if_pos (by omega)]
                  · rw [if_neg h, if_neg (by omega)]
                rw [e]
                exact Hb.out
          · obtain rfl : n = 16 := by omega
            have hrange := hexI_range c
            by_cases hh : 0 ≤ hexI c
            · have hdt : decide (0 ≤ hexI c ∧ hexI c < ((16 : Nat) : Int)) = true := decide_eq_true (by omega)
              rw [if_pos (by omega)] at hblk
              rw [hdt]
              have Hall2 : Hid (∀ j, j < k + 1 → 0 ≤ hexI (s.getD j 0)) := Lib.hid (fun j hj => by
                rcases Nat.lt_or_ge j k with h | h
                · exact Hall.out j h
                · obtain rfl : j = k := by omega
                  rw [← Hc.out]; exact hh)
              have Hb := Lib.hid hblk
              have HOr := Lib.hid hO
              clear hdt hh hrange hblk hO
              go_wp2_with fail
              refine ⟨⟨k + 1, by omega, by go_num, Hall2.out, Hb.out, HOr.out⟩, by simp [intOf]; omega⟩
            · have hdf : decide (0 ≤ hexI c ∧ hexI c < ((16 : Nat) : Int)) = false := decide_eq_false (by omega)
              rw [hdf]
              have hv : Hid (parseV s = .tuple #[aggB zero32, .int .i64 21]) := Lib.hid (by
                unfold parseV
                rw [if_neg]
                rintro ⟨-, h⟩
                unfold allHex at h
                rw [List.all_eq_true] at h
                have hks : k < s.length := by rw [Hlen.out]; exact hlt
                have := h c (by rw [Hc.out, List.getD_eq_getElem?_getD, List.getElem?_eq_getElem hks]; exact List.getElem_mem hks)
                simp at this
                omega)
              have H1r := Lib.hid (H1.out.only hO (by omega))
              have HBr := Lib.hid (HB2.out.trans (hO.below HB2.out.size fun k hk => by omega))
              clear hdf hh hrange hblk hO
              go_wp2_with (first
                | (refine wpList_at 39 rfl ?_; refine wpList_build rfl rfl (aggB zero32) (by kernel_rfl) ?_)
                | (refine wpList_atStore 31 (.tmp 2) (.tmp 39) rfl ?_; refine wp_stop ?_))
              refine ⟨?_⟩
              refine wpList_storeB rfl 31 (.tmp 2) (.tmp 39) rfl (zero32.map bv) rfl rfl H1r.out (sizeRDig.trans rfl) rfl (map_bv_one _) ?_
              intro w6 hblk6 ho6 hz6
              go_wp2_with fail
              refine bodyPost_ret (v := .tuple #[aggB zero32, .int .i64 21]) (results_cell_tmp rfl _ _ w.heap.size _ _ _ _ rfl rfl hblk6 Try.underlying31 rfl (sizeRDig.trans rfl)) rfl ?_
              exact ⟨by rw [hv.out], HBr.out.trans (ho6.below HBr.out.size fun k hk => by omega)⟩
      · obtain rfl : k = 64 := by omega
        have hhex : allHex s = true := by
          unfold allHex
          rw [List.all_eq_true]
          intro c hc
          obtain ⟨j, hj, rfl⟩ := List.mem_iff_getElem.1 hc
          have := hall j (by rw [← Hlen.out]; exact hj)
          rw [List.getD_eq_getElem?_getD, List.getElem?_eq_getElem hj] at this
          exact decide_eq_true this
        have hv : Hid (parseV s = .tuple #[aggB (parseK s 64), .int .i64 0]) := Lib.hid (by
          unfold parseV
          rw [if_pos ⟨Hlen.out, hhex⟩])
        clear hhex
        have h1 := H1.out.only hO (by omega)
        have HBr := Lib.hid (HB2.out.trans (hO.below HB2.out.size fun k hk => by omega))
        have H1r := Lib.hid h1
        have H2r := Lib.hid hblk
        have Hs := Lib.hid (map_bv_lenR (parseK s 64) (length_parseK s 64))
        clear hblk hO hall h1
        go_wp2_with (first
          | (refine wpList_at 40 rfl ?_; refine wpList_loadG rfl 31 (.tmp 4) rfl (w.heap.size + 1) rfl ((parseK s 64).map bv) _ H2r.out Try.underlying31 rfl Hs.out ?_)
          | (refine wpList_atStore 31 (.tmp 2) (.tmp 40) rfl ?_; refine wp_stop ?_))
        refine ⟨?_⟩
        refine wpList_storeB rfl 31 (.tmp 2) (.tmp 40) rfl ((parseK s 64).map bv) rfl rfl H1r.out Hs.out (by rw [List.length_map, length_parseK]; rfl) (map_bv_one _) ?_
        intro w6 hblk6 ho6 hz6
        go_wp2_with fail
        refine bodyPost_ret (v := .tuple #[aggB (parseK s 64), .int .i64 0]) (results_cell_tmp rfl _ _ w.heap.size _ _ _ _ rfl rfl hblk6 Try.underlying31 rfl (Hs.out.trans (by simp))) rfl ?_
        exact ⟨by rw [hv.out], HBr.out.trans (ho6.below HBr.out.size fun k hk => by omega)⟩
  · have hne : ((s.length : Int) != 64) = true := by rw [bne_iff_ne]; omega
    have hv : Hid (parseV s = .tuple #[aggB zero32, .int .i64 21]) := Lib.hid (by unfold parseV; rw [if_neg (fun h => hlen h.1)])
    clear hlen
    go_enter Try.func35, Try.ntmps35
    go_wp2_with (first
      | (refine wpList_at 2 rfl ?_; refine wpList_allocZ rfl 31 rfl (List.replicate 32 (.int .u8 0)) (fun ev w => by kernel_rfl) ?_; intro w1 hblk1 hb1 hz1)
      | (refine wpList_at 11 rfl ?_; refine wpList_build rfl rfl (aggB zero32) (by kernel_rfl) ?_)
      | (refine wpList_storeB rfl 31 (.tmp 2) (.tmp 11) rfl (zero32.map bv) rfl rfl hblk1 (sizeRDig.trans rfl) rfl (map_bv_one _) ?_; intro w3 hblk3 ho3 hz3))
    refine bodyPost_ret (v := .tuple #[aggB zero32, .int .i64 21]) (results_cell_tmp rfl _ _ w.heap.size _ _ _ _ rfl rfl hblk3 Try.underlying31 rfl (sizeRDig.trans rfl)) rfl ?_
    exact ⟨by rw [hv.out], hb1.trans (ho3.below hb1.size fun k hk => by omega)⟩
end Go.Proofs.Ytmlkfkpffbbfaaa
