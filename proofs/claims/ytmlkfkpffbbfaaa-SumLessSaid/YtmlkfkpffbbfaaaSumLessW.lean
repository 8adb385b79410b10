/- The walk of SumLess: it returns true. -/
import Derived.Test.YtmlkfkpffbbfaaaShaLe
namespace Go.Proofs.Ytmlkfkpffbbfaaa
open Go.RowKit

def zero32 : List UInt8 := List.replicate 32 0
def one32 : List UInt8 := List.replicate 31 0 ++ [1]
theorem given_any (a : List UInt8) (ha : a.length = 32) (w : World) :
    Calls Try.prog 17 #[aggB a] w fun e w' => e = .returned (aggB a) ∧ Below w.heap.size w w' := by
  have hs := map_bv_len a ha
  have hs2 : (Try.prog.info? 31).map (·.size) = some (a.map bv).length := by
    rw [List.length_map, ha]
    kernel_rfl
  have Hs := Lib.hid hs
  have Hs2 := Lib.hid hs2
  have Ha := Lib.hid ha
  clear hs ha hs2
  go_enter Try.func17, Try.ntmps17
  go_wp2_with (first
    | (refine wpList_at 1 rfl ?_; refine wpList_boxB rfl 28 (.tmp 0) rfl (a.map bv) rfl ?_; intro w1 hblk1 hb1 hz1)
    | (refine wpList_at 2 rfl ?_; refine wpList_allocZ rfl 31 rfl (List.replicate 32 (.int .u8 0)) (fun ev w => by kernel_rfl) ?_; intro w2 hblk2 hb2 hz2; have hblk12 := hblk1.below hb2 hblk1.lt; rw [hz1] at hblk2)
    | (refine wpList_load_mid rfl 28 (.tmp 1) rfl w.heap.size 0 rfl (a.map bv) _ (range_blk hblk12) Try.underlying28 rfl Hs.out ?_)
    | (refine wpList_atStore 31 (.tmp 2) (.tmp 3) rfl ?_; refine wp_stop ?_))
  refine ⟨?_⟩
  refine wpList_storeB rfl 31 (.tmp 2) (.tmp 3) rfl (a.map bv) rfl rfl hblk2 Hs2.out (by rw [List.length_map, Ha.out]; rfl) (map_bv_one _) ?_
  intro w3 hblk3 ho3 hz3
  go_wp2_with fail
  have hB2 : Below w.heap.size w w2 := hb1.trans (hb2.mono hb1.size)
  refine bodyPost_ret (v := aggB a) (results_cell_row rfl _ _ (w.heap.size + 1) _ _ _ _ rfl hblk3 Try.underlying31 rfl (Hs2.out.trans (by simp))) rfl ?_
  exact ⟨rfl, hB2.trans (ho3.below hB2.size fun k hk => by omega)⟩

theorem lessZ_any (w : World) :
    Calls Try.prog 26 #[aggB zero32, aggB one32] w fun e w' => e = .returned (.bool true) ∧ Below w.heap.size w w' := by
  have h := less_any zero32 one32 rfl rfl w
  rw [show lessL zero32 one32 = true from by decide] at h
  exact h
set_option maxHeartbeats 1000000 in
theorem sumLess_walk (a b : List UInt8) (ha : a.length = 32) (hb : b.length = 32) (w : World) :
    Calls Try.prog 6 #[aggB a, aggB b] w fun e w' => e = .returned (.bool true) ∧ Below w.heap.size w w' := by
  have hself := less_self a
  have Ha := Lib.hid ha
  have Hb := Lib.hid hb
  clear ha hb
  go_enter Try.func6, Try.ntmps6
  go_wp2_with (first
    | (refine wpList_at 2 rfl ?_; refine wpList_boxB rfl 28 (.tmp 0) rfl (a.map bv) rfl ?_; intro w1 hblk1 hb1 hz1)
    | (refine wpList_at 3 rfl ?_; refine wpList_boxB rfl 28 (.tmp 1) rfl (b.map bv) rfl ?_; intro w2 hblk2 hb2 hz2))
  have hB2 : Below w.heap.size w w2 := hb1.trans (hb2.mono hb1.size)
  have hl1 : ∀ x : BW w2.heap.size w2, (Instr.loadAt 28 (.pointer (some ⟨w.heap.size, 0, none⟩))).run Try.prog x.w = .ok (aggB a) x.w :=
    BW.load (hblk1.below hb2 hblk1.lt) (by omega) Try.underlying28 rfl (map_bv_len a Ha.out)
  have hl2 : ∀ x : BW w2.heap.size w2, (Instr.loadAt 28 (.pointer (some ⟨w.heap.size + 1, 0, none⟩))).run Try.prog x.w = .ok (aggB b) x.w := by
    rw [hz1] at hblk2
    exact BW.load hblk2 (by omega) Try.underlying28 rfl (map_bv_len b Hb.out)
  clear hblk1 hblk2 hb1 hb2 hz1 hz2
  refine region_inB w2.heap.size w2 (Below.refl _ _) (by kernel_rfl) (by kernel_rfl) ?_
  repeat (first
    | (go_big_quiet_want; refine quiet_load 28 _ rfl (p := .pointer (some ⟨w.heap.size, 0, none⟩)) rfl (fun _ ⟨x, hx⟩ => hx ▸ hl1 x) ?_; simp only [Act.put, List.setIfInBounds_toArray, List.set_cons_zero, List.set_cons_succ]; go_big_quiet_on)
    | (go_big_quiet_want; refine quiet_load 28 _ rfl (p := .pointer (some ⟨w.heap.size + 1, 0, none⟩)) rfl (fun _ ⟨x, hx⟩ => hx ▸ hl2 x) ?_; simp only [Act.put, List.setIfInBounds_toArray, List.set_cons_zero, List.set_cons_succ]; go_big_quiet_on)
    | (go_big_quiet_want; refine quiet_op 24 rfl (v := aggB zero32) (fun w _ => by kernel_rfl) ?_; simp only [Act.put, List.setIfInBounds_toArray, List.set_cons_zero, List.set_cons_succ]; go_big_quiet_on)
    | (go_big_quiet_want; refine quiet_op 25 rfl (v := aggB one32) (fun w _ => by kernel_rfl) ?_; simp only [Act.put, List.setIfInBounds_toArray, List.set_cons_zero, List.set_cons_succ]; go_big_quiet_on)
    | go_big_quiet_step (first
      | exact Calls.inBat _ (known_any _) (Nat.le_refl _)
      | exact Calls.inBat _ (lessZ_any _) (Nat.le_refl _)
      | exact Calls.inBat _ (less_any a b Ha.out Hb.out _) (Nat.le_refl _)
      | exact Calls.inBat _ (less_any a a Ha.out Ha.out _) (Nat.le_refl _)
      | exact Calls.inBat _ (given_any a Ha.out _) (Nat.le_refl _)
      | exact Calls.inBat _ (given_any b Hb.out _) (Nat.le_refl _)
      | exact Calls.inBat _ (refLess_any a b Ha.out Hb.out _) (Nat.le_refl _)))
  refine wpQuiet_nil ?_
  intro w5 hb5
  go_wp2_with fail
  go_ret
  exact ⟨rfl, hB2.trans (hb5.mono hB2.size)⟩
end Go.Proofs.Ytmlkfkpffbbfaaa
