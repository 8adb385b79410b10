/- The walk of SumKnown: it returns true. -/
import Derived.Test.YtmlkfkpffbbfaaaSumKnA
import Derived.Test.YtmlkfkpffbbfaaaShaO1
import Derived.WalkLawsBesides
import Derived.Deep.DeepMust
namespace Go.Proofs.Ytmlkfkpffbbfaaa
open Go.RowKit
attribute [local go_sem ↓] Go.wp_at_zero Go.wp_at_succ

/-- The bytes while they are laid. -/
def layB (k : Nat) : List UInt8 := knownB.take k ++ List.replicate (1000 - k) 0
theorem lay_set (k : Nat) (h : k < 1000) : (layB k).set k (UInt8.ofNat (k * 7)) = layB (k + 1) := by
  unfold layB
  obtain ⟨m, hm⟩ : ∃ m, 1000 - k = m + 1 := ⟨999 - k, by omega⟩
  have hm2 : 1000 - (k + 1) = m := by omega
  have hl : (knownB.take k).length = k := by rw [List.length_take, length_knownB]; omega
  have hx : knownB[k]? = some (UInt8.ofNat (k * 7)) := by
    unfold knownB
    rw [List.getElem?_map, List.getElem?_range h]
    rfl
  rw [List.set_append_right _ _ (by omega), hl, Nat.sub_self, hm, hm2, List.replicate_succ, List.set_cons_zero, List.take_add_one, hx, List.append_assoc]
  rfl
theorem length_lay (k : Nat) (h : k ≤ 1000) : (layB k).length = 1000 := by
  simp only [layB, List.length_append, List.length_take, List.length_replicate, length_knownB]
  omega
set_option maxRecDepth 100000 in
set_option maxHeartbeats 1000000 in
theorem sumKnown_walk (w : World) :
    Calls Try.prog 7 #[] w fun e w' => e = .returned (.bool true) ∧ Below w.heap.size w w' := by
  go_enter Try.func7, Try.ntmps7
  go_wp2_with (refine wpList_at 6 rfl ?_; refine wp_stop ?_)
  refine ⟨?_⟩
  refine wpList_make1 rfl (.const (.int .i64 1000)) (.const (.int .i64 1000)) rfl Try.underlying25 byte_info rfl .i64 .i64 1000 1000 rfl rfl rfl (by omega) (by unfold maxLen; omega) ?_
  intro w1 hblk1 hb1 hz1
  have HB1 := Lib.hid hb1
  have Hblk1 := Lib.hid hblk1
  have hz : w1.heap.size = w.heap.size + 1 := hz1
  have Hz := Lib.hid hz
  clear hblk1 hb1 hz1 hz
  go_wp2_with fail
  go_loopw [2] (fun i wr => ∃ k : Nat, k ≤ 1000 ∧ i = .int .i64 k ∧ Blk wr w.heap.size 5 ((layB k).map bv).toArray ∧ Only (fun k => k = w.heap.size) w1 wr) (fun i _ => 1000 - (intOf i).toNat)
  case atStart => exact ⟨0, by omega, rfl, by
    have h := Hblk1.out
    rw [show List.replicate 1000 (Value.int .u8 0) = (layB 0).map bv from by unfold layB; rw [List.take_zero, List.nil_append, List.map_replicate]; rfl] at h
    exact h, Only.refl _ _⟩
  case round =>
    obtain ⟨k, hk, rfl, hblk, hO⟩ := hrel
    by_cases hlt : k < 1000
    · have g1 : (k : Int) < 1000 := by omega
      have hf := hblk.frozen k
      obtain ⟨v, hcv⟩ := hblk.some (i := k) (by rw [List.length_map, length_lay _ hk]; exact hlt)
      have hgl := hblk.lt
      have Hblk := Lib.hid hblk
      have HO := Lib.hid hO
      clear hblk hO
      go_wp2_with fail
      refine ⟨⟨k + 1, by omega, by go_num, ?_, HO.out.setCell (p := ⟨w.heap.size, k, none⟩) (.inl rfl) _⟩, by simp [intOf]; omega⟩
      have h := Hblk.out.setL k (bv (UInt8.ofNat (k * 7)))
      rw [← List.map_set, lay_set k hlt, bv_ofNat, Int.natCast_mul] at h
      exact h
    · obtain rfl : k = 1000 := by omega
      have hgl := hblk.lt
      have hsz := hO.size
      rw [Hz.out] at hsz
      have HB := Lib.hid (HB1.out.trans (hO.below (by have := HB1.out.size; omega) fun k hk => by omega))
      have Hblk := Lib.hid hblk
      clear hblk hO
      rw [show Value.int .i64 ((1000 : Nat) : Int) = Value.int .i64 1000 from rfl]
      go_wp2_with fail
      generalize hw2 : World.alloc (World.alloc wr _) _ = w2
      obtain ⟨wo, rfl⟩ : ∃ wo : World, wo = wr := ⟨_, rfl⟩
      have hk1 : Blk w2 wo.heap.size 3 (knownN.map fun n : Nat => Value.int .i64 (n : Int)).toArray := by rw [← hw2]; exact (Blk.new wo _ _).alloc _
      have hk2 : Blk w2 (wo.heap.size + 1) 9 (knownS.map Value.string).toArray := by
        have h := Blk.new (wo.alloc (.cells (knownN.map fun n : Nat => Value.int .i64 (n : Int)).toArray 3)) 9 (knownS.map Value.string).toArray
        rw [World.size_alloc] at h
        rw [← hw2]; exact h
      have hk3 : Below wo.heap.size wo w2 := by rw [← hw2]; exact ((Below.refl _ _).alloc (Nat.le_refl _) _).alloc (by simp) _
      have hk4 : w2.heap.size = wo.heap.size + 2 := by rw [← hw2]; simp
      have hk5 : Blk w2 w.heap.size 5 (knownB.map bv).toArray := by
        have h := Hblk.out.below hk3 hgl
        rw [show layB 1000 = knownB from by unfold layB; rw [List.take_of_length_le (by rw [length_knownB]; omega)]; simp] at h
        exact h
      have HB2 : Hid (Below w.heap.size w w2) := HB.out.trans (hk3.mono HB.out.size)
      have K1 := Lib.hid hk1
      have K2 := Lib.hid hk2
      have K5 := Lib.hid hk5
      have hz2 : wo.heap.size + 1 < w2.heap.size := by omega
      have Hz2 := Lib.hid hk4
      clear hw2 hk1 hk2 hk3 hk4 hk5
      go_loopw [5] (fun i wr => ∃ k : Nat, k ≤ 10 ∧ i = .int .i64 k ∧ Below w2.heap.size w2 wr) (fun i _ => 10 - (intOf i).toNat)
      case atStart => exact ⟨0, by omega, rfl, Below.refl _ _⟩
      case round =>
        obtain ⟨k, hk, rfl, hBr⟩ := hrel
        by_cases hlt : k < 10
        · have g1 : (k : Int) < 10 := by omega
          obtain ⟨n, hn⟩ : ∃ n, knownN[k]? = some n := ⟨_, List.getElem?_eq_getElem (by exact hlt)⟩
          obtain ⟨t, ht⟩ : ∃ t, knownS[k]? = some t := ⟨_, List.getElem?_eq_getElem (by exact hlt)⟩
          have hnt : (⟨(textL (sha (knownB.take n))).toArray⟩ : ByteArray) = t := by
            have h := known_at k hlt
            rw [List.getD_eq_getElem?_getD, hn, List.getD_eq_getElem?_getD, ht] at h
            exact h
          have hn1 : n ≤ 1000 := by
            have : ∀ m ∈ knownN, m ≤ 1000 := by decide
            exact this n (List.mem_of_getElem? hn)
          have c1 : wr.cell? ⟨wo.heap.size, k, none⟩ = some (.int .i64 (n : Int)) := by
            rw [(bcell hBr).1 _ _ (by omega), K1.out.at_, List.getElem?_map, hn]; rfl
          have c2 : wr.cell? ⟨wo.heap.size + 1, k, none⟩ = some (.string t) := by
            rw [(bcell hBr).1 _ _ hz2, K2.out.at_, List.getElem?_map, ht]; rfl
          have hn2 : (n : Int) ≤ 1000 := by omega
          have hbx := hBr.size
          have hsl : ∀ w', (Instr.slice 25 (.slice (some ⟨w.heap.size, 0, none⟩) 1000 1000) none (some (.int .i64 (n : Int))) none).run Try.prog w' = .ok (.slice (some ⟨w.heap.size, 0, none⟩) n 1000) w' := fun w' => by
            rw [run_slice_h w' _ _ _ _ (by kernel_rfl) _ _ (by omega) (by omega), sizeB w', Result.andThen_ok]
            unfold sliced
            rw [Int.toNat_natCast]
            simp [Addr.add]
          have Hn := Lib.hid hn
          have Ht := Lib.hid ht
          have Hnt := Lib.hid hnt
          have HBr := Lib.hid hBr
          have hwx := RV.of_blk (K5.out.below hBr K5.out.lt)
          have hrn : RV wr (some ⟨w.heap.size, 0, none⟩) ((knownB.take n).map bv) := RVtake (by simpa using hwx) n
          have hln : (knownB.take n).length = n := by rw [List.length_take, length_knownB]; omega
          have Hrn := Lib.hid hrn
          have Hln := Lib.hid hln
          clear hn ht hnt hBr hwx hrn hln
          go_wp2_with fail
          have hof := fun (W : World) (hW : W.heap = (wr.alloc (.cells #[.slice (some ⟨w.heap.size, 0, none⟩) n 1000] 25)).heap) =>
            of_laid (knownB.take n) (some ⟨w.heap.size, 0, none⟩) n 1000 1 wr W 25 hW Hln.out Hrn.out (by rw [Hln.out]; exact hn1) (by unfold maxLen; omega) (by rw [Hln.out]; omega)
          have hneq : (textL (sha (knownB.take n)) == t.toList) = true := by
            rw [← Hnt.out, ByteArray.toList_eq, beq_iff_eq]
          go_region_held3 (fun w' => w'.cell? ⟨wo.heap.size, k, none⟩ = some (.int .i64 (n : Int)) ∧ w'.cell? ⟨wo.heap.size + 1, k, none⟩ = some (.string t))
            (first
              | go_keep
              | (go_split_ands; (try dsimp only); (try refine ⟨?_, ?_⟩) <;> first | assumption | ((rw [(bcell hb6).1 wo.heap.size k (by simp; omega)]); go_keep) | ((rw [(bcell hb6).1 (wo.heap.size + 1) k (by simp; omega)]); go_keep) | ((rw [(bcell hb7).1 wo.heap.size k (by have := hb6.size; simp at this; omega)]); assumption) | ((rw [(bcell hb7).1 (wo.heap.size + 1) k (by have := hb6.size; simp at this; omega)]); assumption)))
            (first
              | (go_at_call 15; refine (hof _ (by rfl)).mono ?_; rintro e w6 ⟨rfl, hb6⟩)
              | (go_at_call 28; refine (text_any _ (length_sha _) _).mono ?_; rintro e w7 ⟨rfl, hb7⟩))
          have hB7 : Hid (Below w2.heap.size w2 w7) := (HBr.out.trans (((below_drewN ((Below.refl _ _).alloc (Nat.le_refl _) _) 1).trans (hb6.mono (by simp))).mono hbx)).trans (hb7.mono (by have := hb6.size; simp at this; omega))
          clear hb6 hb7 hof
          go_wp2_with fail
          refine ⟨⟨k + 1, by omega, by go_num, hB7.out⟩, by simp [intOf]; omega⟩
        · obtain rfl : k = 10 := by omega
          have hcv1 := Lib.run_convert_bytes_const (P := Try.prog) wr 25 5 #[.int .u8 97, .int .u8 98] 2 2 Try.underlying25 Try.underlying5
          have hcv2 := Lib.run_convert_bytes_const (P := Try.prog) (wr.alloc (.cells #[.int .u8 97, .int .u8 98] 5 (2, 3))) 25 5 #[.int .u8 99] 1 1 Try.underlying25 Try.underlying5
          rw [World.size_alloc] at hcv2
          have HBr := Lib.hid hBr
          clear hBr
          go_wp2_with fail
          clear hcv1 hcv2
          refine (of_any [[97, 98], [], [99]] (some ⟨wr.heap.size + 2, 0, none⟩) 3 _ ⟨[.slice (some ⟨wr.heap.size, 0, none⟩) 2 2, .slice none 0 0, .slice (some ⟨wr.heap.size + 1, 0, none⟩) 1 1], ?_, rfl, ?_⟩ (by decide) (by unfold maxLen; decide)).mono ?_
          · exact rv_alloc _ [_, _, _] _ _ _ (by simp)
          · intro i hi
            match i, hi with
            | 0, _ => exact ⟨_, rfl, some ⟨wr.heap.size, 0, none⟩, 2, rfl, ((rv_alloc wr (List.map bv [97, 98]) _ _ _ rfl).alloc _).alloc _, Nat.le_refl 2, by unfold maxLen; decide⟩
            | 1, _ => exact ⟨_, rfl, none, 0, rfl, RV.nil _ _, Nat.le_refl 0, by unfold maxLen; decide⟩
            | 2, _ => exact ⟨_, rfl, some ⟨wr.heap.size + 1, 0, none⟩, 1, rfl, (rv_alloc _ (List.map bv [99]) _ _ _ (by simp)).alloc _, Nat.le_refl 1, by unfold maxLen; decide⟩
          rintro e w3 ⟨rfl, hb3⟩
          rw [show ([[97, 98], [], [99]] : List (List UInt8)).flatten = [97, 98, 99] from rfl]
          have HB3 : Hid (Below w2.heap.size w2 w3) := HBr.out.trans (((((Below.refl _ _).alloc (Nat.le_refl _) _).alloc (by simp) _).alloc (by simp; omega) _).trans (hb3.mono (by simp; omega)) |>.mono HBr.out.size)
          clear hb3
          go_wp2_with fail
          refine (text_any _ (length_sha _) _).mono ?_
          rintro e w4 ⟨rfl, hb4⟩
          rw [known_abc]
          go_wp2_with fail
          go_ret
          exact ⟨rfl, HB2.out.trans ((HB3.out.trans (hb4.mono HB3.out.size)).mono HB2.out.size)⟩
end Go.Proofs.Ytmlkfkpffbbfaaa
