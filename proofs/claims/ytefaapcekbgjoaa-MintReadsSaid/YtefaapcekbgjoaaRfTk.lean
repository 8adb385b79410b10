/- The reference's Reader: take. -/
import Derived.Test.YtefaapcekbgjoaaRfRdr
import Derived.Test.YtefaapcekbgjoaaRegK
import Derived.Test.YtefaapcekbgjoaaRdK
import Derived.Test.YtefaapcekbgjoaaOpsK
namespace Go.Proofs.Ytefaapcekbgjoaa
open Go.RowKit

set_option maxRecDepth 100000 in
set_option maxHeartbeats 1000000 in
theorem rfTake_any (g c at_ ah n : Nat) (A : Option Addr) (bs : List UInt8) (w : World) (h : RR w g A c bs at_ 0) (hl : bs.length ≤ 140737488351232) (hah : at_ + ah ≤ bs.length) (hc1 : bs.length ≤ c) (hc2 : A = none → bs.length = 0 ∧ c = 0) :
    Calls Try.prog 85 #[.pointer (some ⟨g, 0, none⟩), .int .i64 (ah : Int), .int .i64 (n : Int)] w fun e w' => Only (fun b => b = g) w w' ∧ ((bs.length < at_ + ah + n ∧ e = .returned (.slice none 0 0) ∧ RR w' g A c bs at_ 11) ∨
      (at_ + ah + n ≤ bs.length ∧ ∃ A2 c2, e = .returned (.slice A2 n c2) ∧ OwnB w' w.heap.size A2 n c2 ((bs.drop (at_ + ah)).take n) ∧ RR w' g A c bs (at_ + ah + n) 0)) := by
  have k0 := h.c0
  have k1 := h.c1
  have kf1 := h.blk.frozen 1
  have kf2 := h.blk.frozen 2
  have k2 := h.c2
  have hgl := h.blk.lt
  have H := Lib.hid h
  clear h
  by_cases hlt : bs.length < at_ + ah + n
  · have g1 : (bs.length : Int) - (at_ : Int) - (ah : Int) < (n : Int) := by omega
    go_enter Try.func85, Try.ntmps85
    go_wp2_with fail
    go_quiet (fail)
    go_wp2_with fail
    go_ret
    exact ⟨(((Only.refl (fun b => b = g) w).drewN _).setCell (p := ⟨g, 2, none⟩) (.inl rfl) _), .inl ⟨hlt, rfl, (H.out.drewN _).setF 11⟩⟩
  · obtain ⟨A2, hsl0, hmv⟩ := run_to sliceB sizeB A bs.length c (at_ + ah) (at_ + ah + n) (by omega) (by omega)
    rw [Nat.add_sub_cancel_left] at hsl0
    have hsl : ∀ w', (Instr.slice 22 (.slice A bs.length c) (some (.int .i64 ((at_ : Int) + (ah : Int)))) (some (.int .i64 ((at_ : Int) + (ah : Int) + (n : Int)))) none).run Try.prog w' = .ok (.slice A2 n (c - (at_ + ah))) w' := fun w' => by
      rw [← Int.natCast_add, ← Int.natCast_add]; exact hsl0 w'
    have Hmv := Lib.hid hmv
    have hsm : (at_ : Int) + (ah : Int) + (n : Int) ≤ 140737488351232 := by omega
    have Hc2 := Lib.hid hc2
    clear hsl0 hmv hc2
    have g1 : ¬ (bs.length : Int) - (at_ : Int) - (ah : Int) < (n : Int) := by omega
    go_enter Try.func85, Try.ntmps85
    go_wp2_with fail
    go_quiet (fail)
    go_wp2_with fail
    obtain ⟨w1, hw1⟩ : ∃ w1, w1 = w.drewN nq := ⟨_, rfl⟩
    rw [← hw1]
    refine region_quiet_tail 20 (fun w' => ∃ m, w' = w1.drewN m) (by kernel_rfl) (by kernel_rfl) ⟨1, rfl⟩ ?_
    simp only [List.take_succ_cons, List.take_zero, List.drop_succ_cons, List.drop_zero]
    repeat (go_big_quiet_step (fail))
    refine wpQuiet_nil ?_
    rintro _ ⟨m, rfl⟩
    have hb2 : Below w.heap.size w (w1.drewN m) := by rw [hw1]; exact below_drewN (below_drewN (Below.refl _ _) nq) m
    obtain ⟨w2, hw2⟩ : ∃ w2, w2 = w1.drewN m := ⟨_, rfl⟩
    rw [← hw2] at hb2 ⊢
    have hO2 : Only (fun b => b = g) w w2 := by rw [hw2, hw1]; exact (((Only.refl (fun b => b = g) w).drewN _).drewN _)
    have HR2 := Lib.hid (H.out.below hb2)
    have Hsb := Lib.hid (took_sl (n := n) HR2.out.rv Hmv.out hc1 (by omega) Hc2.out)
    have hz2 := hb2.size
    clear hw1 hw2
    go_wp2_with (refine wpList_at 45 rfl ?_; refine wp_stop ?_)
    refine ⟨?_⟩
    refine wpList_app rfl (.tmp 25) (.tmp 44) eByte rfl rfl (Own.nil _ w.heap.size _ _) (m := n) (c' := c - (at_ + ah)) (us := ((bs.drop (at_ + ah)).take n).map bv) rfl Hsb.out.rv (by simp; omega) (map_bv_one _) (by unfold maxLen; omega) (by omega) hz2 (fun e => by have := Hsb.out.2 e; simp at this; omega) ?_
    intro A5 c5 w5 hown5 hg5 hA5
    have hb5 : Below w2.heap.size w2 w5 := (Below.refl w2.heap.size w2).grown hg5 (Nat.le_refl _) fun q hq => by cases hq
    have HO5 := Lib.hid (hO2.trans (Only.of_fresh hb5))
    have hR5 := HR2.out.below hb5
    rw [Nat.zero_add, List.nil_append] at hown5
    have j1 := hR5.c1
    have jf := hR5.blk.frozen 1
    have jl := hR5.blk.lt
    have HR5 := Lib.hid hR5
    have Hown5 := Lib.hid hown5
    clear hb5 hR5 hown5 hg5 hA5 hO2
    simp only [Nat.zero_add]
    go_wp2_with fail
    go_ret
    have hset : Only (fun b => b = g) w5 (w5.setCell ⟨g, 1, none⟩ (.int .i64 ((at_ + ah + n : Nat) : Int))) := (Only.refl (fun b => b = g) w5).setCell (p := ⟨g, 1, none⟩) (.inl rfl) _
    have e5 : (at_ : Int) + (ah : Int) + (n : Int) = ((at_ + ah + n : Nat) : Int) := by omega
    rw [e5]
    exact ⟨HO5.out.trans hset, .inr ⟨by omega, A5, c5, rfl, Own.only Hown5.out hset (fun b o e h => by have := (Own.lt Hown5.out b o e).1; omega), HR5.out.setAt (at_ + ah + n) (by omega)⟩⟩
end Go.Proofs.Ytefaapcekbgjoaa
