/- The law's lend of bytes (chapter 12's). -/
import Derived.Test.YtadnjfoinmeloaaRdK
import Derived.Test.YtadnjfoinmeloaaRefK
namespace Go.Proofs.Ytadnjfoinmeloaa
open Go.RowKit

/-- What is lentP, while the spare room is marked up to k. -/
def lendPL (bs : List UInt8) (k : Nat) : List UInt8 := bs ++ (List.replicate (k - bs.length) 0xC9 ++ List.replicate (bs.length + 5 - k) 0)
theorem length_lendP (bs : List UInt8) (k : Nat) (h1 : bs.length ≤ k) (h2 : k ≤ bs.length + 5) : (lendPL bs k).length = bs.length + 5 := by
  simp only [lendPL, List.length_append, List.length_replicate]; omega
theorem lend_setP (bs : List UInt8) (k : Nat) (h1 : bs.length ≤ k) (h2 : k < bs.length + 5) : (lendPL bs k).set k 0xC9 = lendPL bs (k + 1) := by
  unfold lendPL
  obtain ⟨m, hm⟩ : ∃ m, bs.length + 5 - k = m + 1 := ⟨bs.length + 4 - k, by omega⟩
  have hm2 : bs.length + 5 - (k + 1) = m := by omega
  rw [List.set_append_right _ _ h1, List.set_append_right _ _ (by rw [List.length_replicate]; omega), List.length_replicate, Nat.sub_self, hm, hm2, List.replicate_succ, List.set_cons_zero,
    show k + 1 - bs.length = (k - bs.length) + 1 from by omega, List.replicate_succ', List.append_assoc]
  rfl
/-- What is lentP in the end. -/
def lentP (bs : List UInt8) : List UInt8 := bs ++ List.replicate 5 0xC9
theorem lend_doneP (bs : List UInt8) : lendPL bs (bs.length + 5) = lentP bs := by
  unfold lendPL lentP
  rw [Nat.sub_self, List.replicate_zero, List.append_nil, show bs.length + 5 - bs.length = 5 from by omega]
set_option maxHeartbeats 1000000 in
theorem lendP_any (bs : List UInt8) (A : Option Addr) (c : Nat) (w : World) (hr : RV w A (bs.map bv)) (hl : bs.length ≤ 200000000000000) :
    Calls Try.prog 18 #[.slice A bs.length c] w fun e w' => e = .returned (.slice (some ⟨w.heap.size, 0, none⟩) bs.length (bs.length + 5)) ∧
      Blk w' w.heap.size 5 ((lentP bs).map bv).toArray ∧ Below w.heap.size w w' := by
  have Hr := Lib.hid hr
  obtain ⟨n, hn⟩ : ∃ n, n = bs.length := ⟨_, rfl⟩
  rw [← hn] at hl ⊢
  have Hn := Lib.hid hn
  clear hr hn
  have hsl : ∀ w' g, (Instr.slice 22 (.slice (some ⟨g, 0, none⟩) (n + 5) (n + 5)) none (some (.int .i64 (n : Int))) none).run Try.prog w' = .ok (.slice (some ⟨g, 0, none⟩) n (n + 5)) w' := fun w' g => by
    rw [run_slice_h w' _ _ _ _ sliceB _ _ (by omega) (by omega), sizeB w', Result.andThen_ok]
    unfold sliced
    rw [Int.toNat_natCast]
    simp [Addr.add]
  go_enter Try.func18, Try.ntmps18
  go_wp2_with (refine wpList_at 8 rfl ?_; refine wp_stop ?_)
  refine ⟨?_⟩
  refine wpList_make1 rfl (.tmp 7) (.tmp 7) rfl Try.underlying22 byte_info rfl .i64 .i64 (n + 5) (n + 5) rfl rfl (by omega) (by omega) (by unfold maxLen; omega) ?_
  intro w1 hblk1 hb1 hz1
  have Hb1 := Lib.hid hb1
  have Hz1 := Lib.hid hz1
  have Hblk1 := Lib.hid hblk1
  clear hb1 hz1 hblk1
  go_wp2_with (refine wpList_at 11 rfl ?_; refine wp_stop ?_)
  refine ⟨?_⟩
  refine wpList_copy1 rfl (.tmp 9) (.tmp 10) rfl Try.underlying22 byte_size (g := w.heap.size) (off := 0) (dLen := n + 5) (dCap := n + 5) (A := A) (n := n) (sLen := n) (sCap := c) rfl rfl (cur := List.replicate (n + 5) (.int .u8 0)) Hblk1.out (us := bs.map bv) (Hr.out.below Hb1.out) ?_ ?_ ?_ ?_ (map_bv_one _) ?_
  · rw [List.length_map]; exact Hn.out.symm
  · exact (Nat.min_eq_left (by omega)).symm
  · rw [List.length_map]; have := Hn.out; omega
  · rw [List.length_replicate]; omega
  intro w2 hblk2 ho2
  have e2 : splice (List.replicate (n + 5) (Value.int .u8 0)) 0 (bs.map bv) = (lendPL bs n).map bv := by
    unfold splice lendPL
    rw [List.take_zero, List.nil_append, List.length_map, ← Hn.out, List.drop_replicate, Nat.zero_add, Nat.sub_self, List.replicate_zero, List.nil_append, List.map_append, List.map_replicate]
    rfl
  rw [e2] at hblk2
  have H2 := Lib.hid hblk2
  have HO2 := Lib.hid ho2
  clear e2 hblk2 ho2
  go_wp2_with fail
  go_loopw [4] (fun v wr => ∃ k : Nat, n ≤ k ∧ k ≤ n + 5 ∧ v = .int .i64 k ∧ Blk wr w.heap.size 5 ((lendPL bs k).map bv).toArray ∧ Only (fun b => b = w.heap.size) w1 wr) (fun v _ => n + 5 - (intOf v).toNat)
  case atStart => exact ⟨n, Nat.le_refl _, by omega, rfl, H2.out, HO2.out⟩
  case round =>
    obtain ⟨k, hk1, hk2, rfl, hblk, hO⟩ := hrel
    by_cases hlt : k < n + 5
    · have g1 : (k : Int) < (n : Int) + 5 := by omega
      have hf := hblk.frozen k
      obtain ⟨v, hcv⟩ := hblk.some (i := k) (by rw [List.length_map, length_lendP _ _ (by rw [← Hn.out]; exact hk1) (by rw [← Hn.out]; exact hk2), ← Hn.out]; exact hlt)
      have hgl := hblk.lt
      have Hblk := Lib.hid hblk
      have HO := Lib.hid hO
      clear hblk hO
      go_wp2_with fail
      refine ⟨⟨k + 1, by omega, by omega, by go_num, ?_, HO.out.setCell (p := ⟨w.heap.size, k, none⟩) (.inl rfl) _⟩, by simp [intOf]; omega⟩
      have h := Hblk.out.setL k (bv 0xC9)
      rw [← List.map_set, lend_setP _ _ (by rw [← Hn.out]; exact hk1) (by rw [← Hn.out]; exact hlt)] at h
      exact h
    · obtain rfl : k = n + 5 := by omega
      have hB := Lib.hid (Hb1.out.trans (hO.below (by have := Hz1.out; omega) fun k hk => by omega))
      have e := lend_doneP bs
      rw [← Hn.out] at e
      rw [e] at hblk
      have Hblk := Lib.hid hblk
      clear hblk hO e
      go_wp2_with fail
      go_ret
      exact ⟨rfl, Hblk.out, hB.out⟩
end Go.Proofs.Ytadnjfoinmeloaa
