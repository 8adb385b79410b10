/- Contracts of the laws' Lend and Back, which lend bytes with marks behind them. -/
import Derived.Test.YtefaapcekbgjoaaCmp
import Derived.Test.YtefaapcekbgjoaaBaseB
namespace Go.Proofs.Ytefaapcekbgjoaa
open Go.RowKit

/-- The cells of lent bytes when k of M marks are written. -/
def lentL (ys : List UInt8) (k M : Nat) : List Value := ys.map bv ++ (List.replicate k (bv 169) ++ List.replicate (M - k) (bv 0))
theorem length_lentL (ys : List UInt8) (k M : Nat) (h : k ≤ M) : (lentL ys k M).length = ys.length + M := by
  simp only [lentL, List.length_append, List.length_map, List.length_replicate]; omega
theorem set_lentL (ys : List UInt8) (k M : Nat) (h : k < M) : (lentL ys k M).set (ys.length + k) (bv 169) = lentL ys (k + 1) M := by
  obtain ⟨m, hm⟩ : ∃ m, M - k = m + 1 := ⟨M - k - 1, by omega⟩
  have hm' : M - (k + 1) = m := by omega
  unfold lentL
  rw [hm, hm', List.set_append_right _ _ (by simp), List.set_append_right _ _ (by simp)]
  simp only [List.length_map, List.length_replicate, Nat.add_sub_cancel_left, Nat.sub_self, List.replicate_succ, List.set_cons_zero]
  congr 1
  have e : List.replicate k (bv 169) ++ [bv 169] = bv 169 :: List.replicate k (bv 169) := by rw [← List.replicate_succ', List.replicate_succ]
  rw [← e, List.append_assoc]
  rfl
theorem splice_zeros (ys : List UInt8) (M : Nat) : splice (List.replicate (ys.length + M) (bv 0)) 0 (ys.map bv) = lentL ys 0 M := by
  unfold splice lentL
  simp

/-- What was lent: a new block, the bytes and M marks. -/
def LendPost (M : Nat) (w : World) (ys : List UInt8) (e : Ending) (w' : World) : Prop :=
  ∃ g, e = .returned (.slice (some ⟨g, 0, none⟩) ys.length (ys.length + M)) ∧ Blk w' g 5 (lentL ys M M).toArray ∧ w.heap.size ≤ g ∧ Below w.heap.size w w'

theorem byte_size : (Try.prog.info? 5).map (·.size) = some 1 := by kernel_rfl
set_option maxRecDepth 100000 in
theorem lend_any (p : Part) (w : World) (hp : Sl w p) (hl : p.ys.length ≤ 140737488355328) :
    Calls Try.prog 35 #[.slice p.A p.ys.length p.c] w (LendPost 5 w p.ys) := by
  obtain ⟨A, c, ys⟩ := p
  have hr : RV w A (ys.map bv) := hp.rv
  clear hp
  change ys.length ≤ _ at hl
  go_enter Try.func35, Try.ntmps35
  go_wp2_with (first
    | (refine wpList_make1 rfl (.tmp 7) (.tmp 7) rfl Try.underlying22 byte_info rfl .i64 .i64 _ (ys.length + 5) rfl rfl (by simp) (by omega) (by unfold maxLen; omega) ?_; intro w1 hblk hb1 hz1)
    | (refine wpList_copy1 rfl (.tmp 9) (.tmp 10) rfl Try.underlying22 byte_size (g := w.heap.size) (off := 0) (n := ys.length) rfl rfl hblk (hr.below hb1) (by simp) (by simp [Nat.min_def]) (by simp) (by simp) (map_bv_one _) ?_; intro w2 hblk2 ho2))
  have hblk2' := hblk2
  rw [show Value.int .u8 0 = bv 0 from rfl, splice_zeros] at hblk2'
  have hB2 : Below w.heap.size w w2 := hb1.trans (ho2.below hb1.size fun k hk => by omega)
  clear hblk hblk2 ho2
  go_loopw [4] (fun i wr => ∃ k : Nat, k ≤ 5 ∧ i = .int .i64 ((ys.length + k : Nat) : Int) ∧ Blk wr w.heap.size 5 (lentL ys k 5).toArray ∧ Below w.heap.size w wr) (fun i _ => ys.length + 5 - (intOf i).toNat)
  case atStart => exact ⟨0, by omega, by simp, hblk2', hB2⟩
  case round =>
    obtain ⟨k, hk, rfl, hblk, hB⟩ := hrel
    by_cases hlt : k < 5
    · obtain ⟨v, hc⟩ := hblk.some (i := ys.length + k) (by rw [length_lentL ys k 5 hk]; omega)
      have hf := hblk.frozen (ys.length + k)
      have hb2 := hblk.setL (ys.length + k) (bv 169)
      rw [set_lentL ys k 5 hlt] at hb2
      have Hb2 := Lib.hid hb2
      clear hb2
      go_wp2
      exact ⟨⟨k + 1, by omega, by go_num, Hb2.out, hB.setCell (Nat.le_refl _) _⟩, by simp [intOf]; omega⟩
    · obtain rfl : k = 5 := by omega
      go_wp2
      go_ret
      exact ⟨w.heap.size, rfl, hblk, Nat.le_refl _, hB⟩

/-- Lent bytes are as they were, and are written over: nothing beside their block turns. -/
theorem back_any (p : Part) (g : Nat) (w : World) (hp : Sl w p) (hl : p.ys.length ≤ 140737488355328) (hblk : Blk w g 5 (lentL p.ys 5 5).toArray) :
    Calls Try.prog 37 #[.slice (some ⟨g, 0, none⟩) p.ys.length (p.ys.length + 5), .slice p.A p.ys.length p.c] w fun e w' => e = .returned (.bool true) ∧ Only (fun k => k = g) w w' := by
  obtain ⟨A, c, ys⟩ := p
  have hlent : Sl w ⟨some ⟨g, 0, none⟩, ys.length + 5, ys⟩ := by
    refine ⟨?_, fun h => by cases h⟩
    have h1 : RV w (some ⟨g, 0, none⟩) (lentL ys 5 5) := by simpa using RV.of_blk hblk
    have h2 := h1.cut 0 ys.length
    simpa [lentL] using h2
  have hsame := same_any ⟨some ⟨g, 0, none⟩, ys.length + 5, ys⟩ ⟨A, c, ys⟩ w hlent hp (by dsimp only at hl ⊢; omega) (by dsimp only at hl ⊢; omega)
  dsimp only at hsame
  rw [show (ys == ys) = true from by simp] at hsame
  have Hs := Lib.hid hsame
  clear hsame hlent hp
  change ys.length ≤ _ at hl
  change Blk w g _ (lentL ys 5 5).toArray at hblk
  go_enter Try.func37, Try.ntmps37
  go_wp2_with fail
  refine Hs.out.mono ?_
  rintro e w1 ⟨rfl, n, rfl⟩
  have hblk1 : Blk (w.drewN n) g 5 (lentL ys 5 5).toArray := hblk
  go_wp2_with fail
  go_loop [5, 7] (fun r i => r = .bool true ∧ ∃ k : Nat, k ≤ 5 ∧ i = .int .i64 ((ys.length + k : Nat) : Int)) (fun _ i => ys.length + 5 - (intOf i).toNat)
  case atStart => exact ⟨rfl, 0, by omega, rfl⟩
  case round =>
    obtain ⟨rfl, k, hk, rfl⟩ := hrel
    by_cases hlt : k < 5
    · have hc : w.cell? ⟨g, ys.length + k, none⟩ = some (.int .u8 169) := by
        rw [hblk.at_]
        unfold lentL
        rw [List.getElem?_append_right (by simp), List.length_map, Nat.add_sub_cancel_left, List.getElem?_append_left (by simpa using hlt), List.getElem?_replicate, if_pos hlt]
        rfl
      go_wp2
      exact ⟨⟨rfl, k + 1, by omega, by go_num⟩, by simp [intOf]; omega⟩
    · obtain rfl : k = 5 := by omega
      go_wp2
      go_loopw [8] (fun i wr => ∃ (k : Nat) (cs : List Value), k ≤ ys.length + 5 ∧ i = .int .i64 k ∧ Hid (cs.length = ys.length + 5) ∧ Blk wr g 5 cs.toArray ∧ Only (fun k => k = g) w wr) (fun i _ => ys.length + 5 - (intOf i).toNat)
      case atStart => exact ⟨0, _, Nat.zero_le _, rfl, length_lentL ys 5 5 (Nat.le_refl _), hblk1, Only.of_fresh (below_drewN (Below.refl _ _) _)⟩
      case round =>
        obtain ⟨j, cs, hj, rfl, hcs, hb, hO⟩ := hrel
        by_cases hltj : j < ys.length + 5
        · obtain ⟨v, hc⟩ := hb.some (i := j) (by rw [hcs.out]; exact hltj)
          have hf := hb.frozen j
          have hbs := hb.setL j (.int .u8 94)
          go_wp2
          exact ⟨⟨j + 1, _, by omega, by go_num, by show List.length _ = _; rw [List.length_set]; exact hcs.out, hbs, hO.setCell (.inl rfl) _⟩, by simp [intOf]; omega⟩
        · go_wp2
          go_ret
          exact ⟨rfl, hO⟩
end Go.Proofs.Ytefaapcekbgjoaa
