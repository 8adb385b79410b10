/- The law's kept of bytes (chapter 12's). -/
import Derived.Test.YtadnjfoinmeloaaLendP
namespace Go.Proofs.Ytadnjfoinmeloaa
open Go.RowKit

set_option maxHeartbeats 1000000 in
theorem keptP_any (bs : List UInt8) (g : Nat) (A : Option Addr) (c : Nat) (w : World) (hblk : Blk w g 5 ((lentP bs).map bv).toArray) (hr : RV w A (bs.map bv)) (hl : bs.length ≤ 200000000000000) :
    Calls Try.prog 22 #[.slice (some ⟨g, 0, none⟩) bs.length (bs.length + 5), .slice A bs.length c] w fun e w' => e = .returned (.bool true) ∧ w' = w := by
  have Hr := Lib.hid hr
  have Hg := Lib.hid (RV.of_blk hblk)
  have Hblk := Lib.hid hblk
  have hgl := hblk.lt
  obtain ⟨n, hn⟩ : ∃ n, n = bs.length := ⟨_, rfl⟩
  rw [← hn] at hl ⊢
  have Hn := Lib.hid hn
  clear hr hn hblk
  have Hg1 : RV w (some ⟨g, 0, none⟩) (bs.map bv) := by
    have h := (Hg.out).cut 0 bs.length
    rw [List.drop_zero, ← List.map_take] at h
    unfold lentP at h
    rw [List.take_append_of_le_length (Nat.le_refl _), List.take_length] at h
    exact h
  have HG1 := Lib.hid Hg1
  have hsl : ∀ w', (Instr.slice 22 (.slice (some ⟨g, 0, none⟩) n (n + 5)) none (some (.int .i64 ((n : Int) + 5))) none).run Try.prog w' = .ok (.slice (some ⟨g, 0, none⟩) (n + 5) (n + 5)) w' := fun w' => by
    rw [show ((n : Int) + 5) = ((n + 5 : Nat) : Int) from by omega, run_slice_h w' _ _ _ _ sliceB _ _ (by omega) (by omega), sizeB w', Result.andThen_ok]
    unfold sliced
    rw [Int.toNat_natCast]
    simp [Addr.add]
  clear Hg1 Hg
  go_enter Try.func22, Try.ntmps22
  go_wp2_with fail
  go_loop [6] (fun i => ∃ k : Nat, n ≤ k ∧ k ≤ n + 5 ∧ i = .int .i64 k) (fun i => n + 5 - (intOf i).toNat)
  case atStart => exact ⟨n, Nat.le_refl _, by omega, rfl⟩
  case round =>
    obtain ⟨k, hk1, hk2, rfl⟩ := hrel
    by_cases hlt : k < n + 5
    · have g1 : (k : Int) < (n : Int) + 5 := by omega
      have hc1 : w.cell? ⟨g, k, none⟩ = some (.int .u8 201) := by
        rw [Hblk.out.at_, List.getElem?_map]
        unfold lentP
        rw [List.getElem?_append_right (by rw [← Hn.out]; exact hk1), List.getElem?_replicate, if_pos (by rw [← Hn.out]; omega)]
        rfl
      go_wp2_with fail
      exact ⟨⟨k + 1, by omega, by omega, by go_num⟩, by simp [intOf]; omega⟩
    · have g1 : ¬ (k : Int) < (n : Int) + 5 := by omega
      go_wp2_with (first
        | (refine wpList_at 26 rfl ?_; refine wpList_bytesStr rfl (.tmp 25) (A := some ⟨g, 0, none⟩) (c := n + 5) (ys := bs) rfl (by rw [← Hn.out]; rfl) HG1.out Try.underlying22 Try.underlying5 Try.underlying9 ?_)
        | (refine wpList_at 28 rfl ?_; refine wpList_bytesStr rfl (.tmp 27) (A := A) (c := c) (ys := bs) rfl (by rw [← Hn.out]; rfl) Hr.out Try.underlying22 Try.underlying5 Try.underlying9 ?_))
      go_ret
      exact ⟨rfl, rfl⟩
end Go.Proofs.Ytadnjfoinmeloaa
