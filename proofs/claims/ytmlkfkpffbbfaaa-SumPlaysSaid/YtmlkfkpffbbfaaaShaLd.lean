/- The law's Lend and round. -/
import Derived.Test.YtmlkfkpffbbfaaaShaO1
namespace Go.Proofs.Ytmlkfkpffbbfaaa
open Go.RowKit

/-- What is lent, while the spare room is marked up to k. -/
def lendL (bs : List UInt8) (k : Nat) : List UInt8 := bs ++ (List.replicate (k - bs.length) 0xA9 ++ List.replicate (bs.length + 67 - k) 0)
theorem length_lend (bs : List UInt8) (k : Nat) (h1 : bs.length ≤ k) (h2 : k ≤ bs.length + 67) : (lendL bs k).length = bs.length + 67 := by
  simp only [lendL, List.length_append, List.length_replicate]; omega
theorem lend_set (bs : List UInt8) (k : Nat) (h1 : bs.length ≤ k) (h2 : k < bs.length + 67) : (lendL bs k).set k 0xA9 = lendL bs (k + 1) := by
  unfold lendL
  obtain ⟨m, hm⟩ : ∃ m, bs.length + 67 - k = m + 1 := ⟨bs.length + 66 - k, by omega⟩
  have hm2 : bs.length + 67 - (k + 1) = m := by omega
  rw [List.set_append_right _ _ h1, List.set_append_right _ _ (by rw [List.length_replicate]; omega), List.length_replicate, Nat.sub_self, hm, hm2, List.replicate_succ, List.set_cons_zero,
    show k + 1 - bs.length = (k - bs.length) + 1 from by omega, List.replicate_succ', List.append_assoc]
  rfl
/-- What is lent in the end. -/
def lent (bs : List UInt8) : List UInt8 := bs ++ List.replicate 67 0xA9
theorem lend_done (bs : List UInt8) : lendL bs (bs.length + 67) = lent bs := by
  unfold lendL lent
  rw [Nat.sub_self, List.replicate_zero, List.append_nil, show bs.length + 67 - bs.length = 67 from by omega]
theorem sliceB : Try.prog.underlying 25 = some (.slice (Try.prog.elem 25)) := by kernel_rfl
set_option maxHeartbeats 1000000 in
theorem lend_any (bs : List UInt8) (A : Option Addr) (c : Nat) (w : World) (hr : RV w A (bs.map bv)) (hl : bs.length ≤ 140737488355328) :
    Calls Try.prog 14 #[.slice A bs.length c] w fun e w' => e = .returned (.slice (some ⟨w.heap.size, 0, none⟩) bs.length (bs.length + 67)) ∧
      Blk w' w.heap.size 5 ((lent bs).map bv).toArray ∧ Below w.heap.size w w' := by
  have Hr := Lib.hid hr
  obtain ⟨n, hn⟩ : ∃ n, n = bs.length := ⟨_, rfl⟩
  rw [← hn] at hl ⊢
  have Hn := Lib.hid hn
  clear hr hn
  have hsl : ∀ w' g, (Instr.slice 25 (.slice (some ⟨g, 0, none⟩) (n + 67) (n + 67)) none (some (.int .i64 (n : Int))) none).run Try.prog w' = .ok (.slice (some ⟨g, 0, none⟩) n (n + 67)) w' := fun w' g => by
    rw [run_slice_h w' _ _ _ _ sliceB _ _ (by omega) (by omega), sizeB w', Result.andThen_ok]
    unfold sliced
    rw [Int.toNat_natCast]
    simp [Addr.add]
  go_enter Try.func14, Try.ntmps14
  go_wp2_with (refine wpList_at 8 rfl ?_; refine wp_stop ?_)
  refine ⟨?_⟩
  refine wpList_make1 rfl (.tmp 7) (.tmp 7) rfl Try.underlying25 byte_info rfl .i64 .i64 (n + 67) (n + 67) rfl rfl (by omega) (by omega) (by unfold maxLen; omega) ?_
  intro w1 hblk1 hb1 hz1
  have Hb1 := Lib.hid hb1
  have Hz1 := Lib.hid hz1
  have Hblk1 := Lib.hid hblk1
  clear hb1 hz1 hblk1
  go_wp2_with (refine wpList_at 11 rfl ?_; refine wp_stop ?_)
  refine ⟨?_⟩
  refine wpList_copy1 rfl (.tmp 9) (.tmp 10) rfl Try.underlying25 size1B (g := w.heap.size) (off := 0) (dLen := n + 67) (dCap := n + 67) (A := A) (n := n) (sLen := n) (sCap := c) rfl rfl (cur := List.replicate (n + 67) (.int .u8 0)) Hblk1.out (us := bs.map bv) (Hr.out.below Hb1.out) ?_ ?_ ?_ ?_ (map_bv_one _) ?_
  · rw [List.length_map]; exact Hn.out.symm
  · exact (Nat.min_eq_left (by omega)).symm
  · rw [List.length_map]; have := Hn.out; omega
  · rw [List.length_replicate]; omega
  intro w2 hblk2 ho2
  have e2 : splice (List.replicate (n + 67) (Value.int .u8 0)) 0 (bs.map bv) = (lendL bs n).map bv := by
    unfold splice lendL
    rw [List.take_zero, List.nil_append, List.length_map, ← Hn.out, List.drop_replicate, Nat.zero_add, Nat.sub_self, List.replicate_zero, List.nil_append, List.map_append, List.map_replicate]
    rfl
  rw [e2] at hblk2
  have H2 := Lib.hid hblk2
  have HO2 := Lib.hid ho2
  clear e2 hblk2 ho2
  go_wp2_with fail
  go_loopw [4] (fun v wr => ∃ k : Nat, n ≤ k ∧ k ≤ n + 67 ∧ v = .int .i64 k ∧ Blk wr w.heap.size 5 ((lendL bs k).map bv).toArray ∧ Only (fun b => b = w.heap.size) w1 wr) (fun v _ => n + 67 - (intOf v).toNat)
  case atStart => exact ⟨n, Nat.le_refl _, by omega, rfl, H2.out, HO2.out⟩
  case round =>
    obtain ⟨k, hk1, hk2, rfl, hblk, hO⟩ := hrel
    by_cases hlt : k < n + 67
    · have g1 : (k : Int) < (n : Int) + 67 := by omega
      have hf := hblk.frozen k
      obtain ⟨v, hcv⟩ := hblk.some (i := k) (by rw [List.length_map, length_lend _ _ (by rw [← Hn.out]; exact hk1) (by rw [← Hn.out]; exact hk2), ← Hn.out]; exact hlt)
      have hgl := hblk.lt
      have Hblk := Lib.hid hblk
      have HO := Lib.hid hO
      clear hblk hO
      go_wp2_with fail
      refine ⟨⟨k + 1, by omega, by omega, by go_num, ?_, HO.out.setCell (p := ⟨w.heap.size, k, none⟩) (.inl rfl) _⟩, by simp [intOf]; omega⟩
      have h := Hblk.out.setL k (bv 0xA9)
      rw [← List.map_set, lend_set _ _ (by rw [← Hn.out]; exact hk1) (by rw [← Hn.out]; exact hlt)] at h
      exact h
    · obtain rfl : k = n + 67 := by omega
      have hB := Lib.hid (Hb1.out.trans (hO.below (by have := Hz1.out; omega) fun k hk => by omega))
      have e := lend_done bs
      rw [← Hn.out] at e
      rw [e] at hblk
      have Hblk := Lib.hid hblk
      clear hblk hO e
      go_wp2_with fail
      go_ret
      exact ⟨rfl, Hblk.out, hB.out⟩
theorem round_any (i : Int) (n k : Nat) (hk : (k : Int) = i % (n : Int)) (hn : 0 < n) (hn2 : n ≤ 9223372036854775807) (w : World) :
    Calls Try.prog 20 #[.int .i64 i, .int .i64 (n : Int)] w fun e w' => e = .returned (.int .i64 (k : Int)) ∧ w' = w := by
  have h1 := Int.emod_nonneg i (b := (n : Int)) (by omega)
  have h2 := Int.emod_lt_of_pos i (b := (n : Int)) (by omega)
  have H3 := Lib.hid hk
  obtain ⟨t, ht⟩ : ∃ t, t = i.tmod (n : Int) := ⟨_, rfl⟩
  have htm := Int.tmod_add_mul_tdiv i (n : Int)
  have hlo : -(n : Int) < t ∧ t < n := by
    rw [ht]
    have := Int.lt_tmod_of_pos i (b := (n : Int)) (by omega)
    have := Int.tmod_lt_of_pos i (b := (n : Int)) (by omega)
    omega
  have hfin : (if t < 0 then t + (n : Int) else t) = i % (n : Int) := by
    have h : t = i - (n : Int) * i.tdiv n := by rw [ht]; omega
    by_cases h0 : t < 0
    · rw [if_pos h0]
      have : (t + (n : Int)) % (n : Int) = i % (n : Int) := by
        rw [h, Int.add_emod_right, Int.sub_mul_emod_self_left]
      rw [← this, Int.emod_eq_of_lt (by omega) (by omega)]
    · rw [if_neg h0]
      have : t % (n : Int) = i % (n : Int) := by rw [h, Int.sub_mul_emod_self_left]
      rw [← this, Int.emod_eq_of_lt (by omega) (by omega)]
  have Hfin := Lib.hid hfin
  have Ht := Lib.hid ht
  have hnn : ((n : Int) == 0) = false := by rw [beq_eq_false_iff_ne]; omega
  have hrem : i.tmod (n : Int) = t := ht.symm
  obtain ⟨hlo1, hlo2⟩ := hlo
  have hnpos : (1 : Int) ≤ n := by omega
  clear hfin ht htm h1 h2 hk
  by_cases h0 : t < 0
  · rw [if_pos h0] at Hfin
    go_enter Try.func20, Try.ntmps20
    go_wp2_with fail
    go_ret
    exact ⟨by rw [H3.out, ← Hfin.out]; rfl, rfl⟩
  · rw [if_neg h0] at Hfin
    go_enter Try.func20, Try.ntmps20
    go_wp2_with fail
    go_ret
    exact ⟨by rw [H3.out, ← Hfin.out]; rfl, rfl⟩
end Go.Proofs.Ytmlkfkpffbbfaaa
