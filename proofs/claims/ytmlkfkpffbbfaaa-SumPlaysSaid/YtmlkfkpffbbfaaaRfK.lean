/- The walk of the law's Kept. -/
import Derived.Test.YtmlkfkpffbbfaaaShaLd
import Derived.Test.YtmlkfkpffbbfaaaRfA
namespace Go.Proofs.Ytmlkfkpffbbfaaa
open Go.RowKit

/-- What is left of lent bytes while they are written over. -/
def wornL (l : List UInt8) (k : Nat) : List UInt8 := List.replicate k 0x5E ++ l.drop k
theorem length_worn (l : List UInt8) (k : Nat) (h : k ≤ l.length) : (wornL l k).length = l.length := by
  simp only [wornL, List.length_append, List.length_replicate, List.length_drop]; omega
theorem worn_set (l : List UInt8) (k : Nat) (h : k < l.length) : (wornL l k).set k 0x5E = wornL l (k + 1) := by
  unfold wornL
  rw [List.set_append_right _ _ (by rw [List.length_replicate]; omega), List.length_replicate, Nat.sub_self, List.drop_eq_getElem_cons h, List.set_cons_zero, List.replicate_succ', List.append_assoc]
  rfl
theorem length_lent (bs : List UInt8) : (lent bs).length = bs.length + 67 := by simp [lent]
set_option maxHeartbeats 1000000 in
theorem kept_any (bs : List UInt8) (g : Nat) (A : Option Addr) (c : Nat) (w : World) (hblk : Blk w g 5 ((lent bs).map bv).toArray) (hr : RV w A (bs.map bv)) (hl : bs.length ≤ 140737488355328) :
    Calls Try.prog 16 #[.slice (some ⟨g, 0, none⟩) bs.length (bs.length + 67), .slice A bs.length c] w fun e w' => e = .returned (.bool true) ∧ Only (fun k => k = g) w w' := by
  have Hr := Lib.hid hr
  have Hg := Lib.hid (RV.of_blk hblk)
  have Hblk := Lib.hid hblk
  obtain ⟨n, hn⟩ : ∃ n, n = bs.length := ⟨_, rfl⟩
  rw [← hn] at hl ⊢
  have Hn := Lib.hid hn
  clear hr hn hblk
  have Hg1 : RV w (some ⟨g, 0, none⟩) (bs.map bv) := by
    have h := (Hg.out).cut 0 bs.length
    rw [List.drop_zero, ← List.map_take] at h
    unfold lent at h
    rw [List.take_append_of_le_length (Nat.le_refl _), List.take_length] at h
    exact h
  have HG1 := Lib.hid Hg1
  have hsl : ∀ w', (Instr.slice 25 (.slice (some ⟨g, 0, none⟩) n (n + 67)) none (some (.int .i64 ((n : Int) + 67))) none).run Try.prog w' = .ok (.slice (some ⟨g, 0, none⟩) (n + 67) (n + 67)) w' := fun w' => by
    rw [show ((n : Int) + 67) = ((n + 67 : Nat) : Int) from by omega, run_slice_h w' _ _ _ _ sliceB _ _ (by omega) (by omega), sizeB w', Result.andThen_ok]
    unfold sliced
    rw [Int.toNat_natCast]
    simp [Addr.add]
  clear Hg1 Hg
  go_enter Try.func16, Try.ntmps16
  go_wp2_with (first
    | (refine wpList_at 10 rfl ?_; refine wpList_bytesStr rfl (.tmp 9) (A := some ⟨g, 0, none⟩) (c := n + 67) (ys := bs) rfl (by rw [← Hn.out]; rfl) HG1.out Try.underlying25 Try.underlying5 Try.underlying9 ?_)
    | (refine wpList_at 12 rfl ?_; refine wpList_bytesStr rfl (.tmp 11) (A := A) (c := c) (ys := bs) rfl (by rw [← Hn.out]; rfl) Hr.out Try.underlying25 Try.underlying5 Try.underlying9 ?_))
  go_loop [5, 7] (fun v i => ∃ k : Nat, n ≤ k ∧ k ≤ n + 67 ∧ i = .int .i64 k ∧ v = .bool true) (fun _ i => n + 67 - (intOf i).toNat)
  case atStart => exact ⟨n, Nat.le_refl _, by omega, rfl, rfl⟩
  case round =>
    obtain ⟨k, hk1, hk2, rfl, rfl⟩ := hrel
    by_cases hlt : k < n + 67
    · have g1 : (k : Int) < (n : Int) + 67 := by omega
      have hc1 : w.cell? ⟨g, k, none⟩ = some (.int .u8 169) := by
        rw [Hblk.out.at_, List.getElem?_map]
        unfold lent
        rw [List.getElem?_append_right (by rw [← Hn.out]; exact hk1), List.getElem?_replicate, if_pos (by rw [← Hn.out]; omega)]
        rfl
      go_wp2_with fail
      exact ⟨⟨k + 1, by omega, by omega, by go_num, rfl⟩, by simp [intOf]; omega⟩
    · obtain rfl : k = n + 67 := by omega
      go_wp2_with fail
      go_loopw [8] (fun i wr => ∃ k : Nat, k ≤ n + 67 ∧ i = .int .i64 k ∧ Blk wr g 5 ((wornL (lent bs) k).map bv).toArray ∧ Only (fun k => k = g) w wr) (fun i _ => n + 67 - (intOf i).toNat)
      case atStart => exact ⟨0, Nat.zero_le _, rfl, Hblk.out, Only.refl _ _⟩
      case round =>
        obtain ⟨k, hk, rfl, hblk, hO⟩ := hrel
        by_cases hlt : k < n + 67
        · have g1 : (k : Int) < (n : Int) + 67 := by omega
          have hf := hblk.frozen k
          have hll : k < (lent bs).length := by rw [length_lent, ← Hn.out]; exact hlt
          obtain ⟨v, hcv⟩ := hblk.some (i := k) (by rw [List.length_map, length_worn _ _ (by omega)]; exact hll)
          have hgl := hblk.lt
          have Hblk2 := Lib.hid hblk
          have HO := Lib.hid hO
          have Hll := Lib.hid hll
          clear hblk hO hll
          go_wp2_with fail
          refine ⟨⟨k + 1, by omega, by go_num, ?_, HO.out.setCell (p := ⟨g, k, none⟩) (.inl rfl) _⟩, by simp [intOf]; omega⟩
          have h := Hblk2.out.setL k (bv 0x5E)
          rw [← List.map_set, worn_set _ _ Hll.out] at h
          exact h
        · obtain rfl : k = n + 67 := by omega
          have HO := Lib.hid hO
          clear hblk hO
          go_wp2_with fail
          go_ret
          exact ⟨rfl, HO.out⟩
end Go.Proofs.Ytmlkfkpffbbfaaa
