/- Text and Parse of the reference. -/
import Derived.Test.YtmlkfkpffbbfaaaShaPa
import Derived.Test.YtmlkfkpffbbfaaaShaFi
import Derived.IntWalk
namespace Go.Proofs.Ytmlkfkpffbbfaaa
open Go.RowKit
attribute [local go_sem ↓] Go.wp_at_zero Go.wp_at_succ

/-- A guard for an arm in a drawn region: the operation that goes to this slot. -/
theorem step_at {P : Program} {ops : Array Oper} {o : Oper} {a : Act} {w : World} {K : Act → World → Prop} {Q : Exit → Act → World → Prop} {F : Prop} (d : Nat) (_hd : o.dst = some d) (h : if Region.wanted o (yielded ops a.tmps) = true then Oper.wp P o a w K Q else F) : if Region.wanted o (yielded ops a.tmps) = true then Oper.wp P o a w K Q else F := h
theorem digit_any (n : Nat) (hn : n < 16) (w : World) :
    Calls Try.prog 41 #[.int .i64 (n : Int)] w fun e w' => e = .returned (.int .u8 ((digit n).toNat : Int)) ∧ w' = w := by
  have h1 : (n : Int) < 16 := by omega
  by_cases h : n < 10
  · have h2 : (n : Int) < 10 := by omega
    have hd : Hid (((digit n).toNat : Int) = 48 + (n : Int)) := Lib.hid (by unfold digit; rw [if_pos h, UInt8.toNat_ofNat']; omega)
    clear h hn
    go_enter Try.func41, Try.ntmps41
    go_wp2_with fail
    go_ret
    exact ⟨by rw [hd.out]; rfl, rfl⟩
  · have h2 : ¬ (n : Int) < 10 := by omega
    have hd : Hid (((digit n).toNat : Int) = 97 + (n : Int) - 10) := Lib.hid (by unfold digit; rw [if_neg h, UInt8.toNat_ofNat']; omega)
    clear h hn
    go_enter Try.func41, Try.ntmps41
    go_wp2_with fail
    go_ret
    exact ⟨by rw [hd.out]; rfl, rfl⟩
set_option maxHeartbeats 1000000 in
theorem refText_any (l : List UInt8) (hl : l.length = 32) (w : World) :
    Calls Try.prog 33 #[aggB l] w fun e w' => e = .returned (.string ⟨(textL l).toArray⟩) ∧ Below w.heap.size w w' := by
  have Hl := Lib.hid hl
  clear hl
  go_enter Try.func33, Try.ntmps33
  go_wp2_with (refine wpList_at 1 rfl ?_; refine wpList_boxB rfl 31 (.tmp 0) rfl (l.map bv) rfl ?_; intro w1 hblk1 hb1 hz1)
  have HB1 := Lib.hid hb1
  have H1 := Lib.hid hblk1
  have hz : w.heap.size + 1 ≤ w1.heap.size := by omega
  clear hblk1 hb1 hz1
  go_loopw [3, 4] (fun v i wr => ∃ (k : Nat) (A : Option Addr) (c : Nat), k ≤ 32 ∧ i = .int .i64 k ∧ v = .slice A (textL (l.take k)).length c ∧ OwnB wr (w.heap.size + 1) A (textL (l.take k)).length c (textL (l.take k)) ∧ Below (w.heap.size + 1) w1 wr) (fun _ i _ => 32 - (intOf i).toNat)
  case atStart => exact ⟨0, none, 0, by omega, rfl, rfl, Own.nil _ _ _ _, Below.refl _ _⟩
  case round =>
    obtain ⟨k, A, c, hk, rfl, rfl, hown, hB⟩ := hrel
    have hsz := hB.size
    by_cases hlt : k < 32
    · have g1 : (k : Int) < 32 := by omega
      obtain ⟨x, hx⟩ : ∃ x, l[k]? = some x := ⟨_, List.getElem?_eq_getElem (by rw [Hl.out]; exact hlt)⟩
      have hc1 : wr.cell? ⟨w.heap.size, k, none⟩ = some (.int .u8 (x.toNat : Int)) := by
        rw [(bcell hB).1 _ _ (by omega), H1.out.at_, List.getElem?_map, hx]; rfl
      obtain ⟨q, hq⟩ : ∃ q, q = x.toNat / 16 := ⟨_, rfl⟩
      obtain ⟨r, hr⟩ : ∃ r, r = x.toNat % 16 := ⟨_, rfl⟩
      have hx8 := x.toNat_lt
      have hq16 : q < 16 := by omega
      have hr16 : r < 16 := by omega
      have hlen : (textL (l.take k)).length ≤ 64 := by rw [length_textL, List.length_take]; omega
      have htk := textL_take l k hx
      have Htk : Hid (textL (l.take (k + 1)) = textL (l.take k) ++ [digit q, digit r]) := by rw [htk, hq, hr]; rfl
      have Hown := Lib.hid hown
      have HB := Lib.hid hB
      have Hq := Lib.hid hq
      have Hr := Lib.hid hr
      clear hx hown hB htk hq hr
      have hna : some w.heap.size ≠ A.map (·.block) := fun h => by have := (Own.row Hown.out w.heap.size h.symm).1; omega
      have hw1 : IntKind.i64.wrap (x.toNat : Int) = (x.toNat : Int) := IntWalk.i64_in _ (by omega)
      have hw2 : (x.toNat : Int).tdiv 16 = (q : Int) := by rw [Int.tdiv_eq_ediv_of_nonneg (by omega)]; have := Hq.out; omega
      have hw3 : IntKind.i64.wrap (q : Int) = (q : Int) := IntWalk.i64_in _ (by omega)
      have hw4 : (x.toNat : Int).tmod 16 = (r : Int) := by rw [Int.tmod_eq_emod_of_nonneg (by omega)]; have := Hr.out; omega
      go_wp2_with fail
      go_region_held3 (fun w' => w'.cell? ⟨w.heap.size, k, none⟩ = some (.int .u8 (x.toNat : Int))) (first | go_keep | (go_split_ands; (try dsimp only); (rw [hgrow2.cell_far _ (by simp; omega) hna]; assumption)))
        (first
          | (go_at_call 41; ((with_reducible refine (digit_any q hq16 _).mono ?_); rintro e w5 ⟨rfl, rfl⟩))
          | (go_at_call 41; ((with_reducible refine (digit_any r hr16 _).mono ?_); rintro e w5 ⟨rfl, rfl⟩))
          | (refine step_at 23 rfl ?_; refine step_app (by rfl) (.tmp 9) (.tmp 22) eByte (by rfl) (base := w.heap.size + 1) (n := (textL (l.take k)).length) (c := c) (A := A) (vs := (textL (l.take k)).map bv) (by rfl) ((Hown.out.alloc _).drew) (A' := some ⟨wr.heap.size, 0, none⟩) (m := 2) (c' := 2) (us := [bv (digit q), bv (digit r)]) (by rfl) ((RV.of_blk (Blk.new wr _ #[_, _])).drew) rfl (map_bv_one [_, _]) (by unfold maxLen; omega) (by omega) (by simp; omega) (by simp) ?_; intro A2 c2 w2 hown2 hgrow2 hat2))
      all_goals
        have hB2 : Hid (Below (w.heap.size + 1) w1 w2) := ((HB.out.alloc (by omega) _).drew).grown hgrow2 (by simp; omega) fun k hk => (Own.row Hown.out k hk).1
        clear hw1 hw2 hw3 hw4
        go_wp2_with fail
        refine ⟨⟨k + 1, A2, c2, by omega, by go_num, ?_, ?_, hB2.out⟩, by simp [intOf]; omega⟩
        · rw [Htk.out, List.length_append]; rfl
        · rw [Htk.out]
          exact OwnB.app (ys := [digit q, digit r]) hown2 rfl rfl
    · obtain rfl : k = 32 := by omega
      rw [List.take_of_length_le (by rw [Hl.out]; omega)] at hown
      have Hr := Lib.hid (RV.of_own hown)
      clear hown
      rw [List.take_of_length_le (by rw [Hl.out]; omega)]
      go_wp2_with (refine wpList_bytesStr rfl (.tmp 24) (A := A) (c := c) (ys := textL l) rfl rfl Hr.out Try.underlying25 Try.underlying5 Try.underlying9 ?_)
      go_ret
      exact ⟨rfl, HB1.out.trans (hB.mono (by omega))⟩
end Go.Proofs.Ytmlkfkpffbbfaaa
