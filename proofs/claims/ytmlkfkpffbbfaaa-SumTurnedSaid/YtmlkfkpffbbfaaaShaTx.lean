/- Text of the program: a digest's 64 digits. -/
import Derived.Test.YtmlkfkpffbbfaaaShaLe
import Derived.Deep.RegionHeld3
import Derived.Deep.DrawnRows
namespace Go.Proofs.Ytmlkfkpffbbfaaa
open Go.RowKit
attribute [local go_sem ↓] Go.wp_at_zero Go.wp_at_succ

def digit (n : Nat) : UInt8 := if n < 10 then UInt8.ofNat (48 + n) else UInt8.ofNat (87 + n)
def pair (u : UInt8) : List UInt8 := [digit (u.toNat / 16), digit (u.toNat % 16)]
/-- The text of a digest, as bytes. -/
def textL (l : List UInt8) : List UInt8 := l.flatMap pair
theorem length_textL (l : List UInt8) : (textL l).length = 2 * l.length := by
  induction l with
  | nil => rfl
  | cons x l ih =>
    unfold textL at ih ⊢
    rw [List.flatMap_cons, List.length_append, ih, List.length_cons]
    show 2 + _ = _
    omega
theorem textL_take (l : List UInt8) (k : Nat) {x : UInt8} (hx : l[k]? = some x) : textL (l.take (k + 1)) = textL (l.take k) ++ pair x := by
  unfold textL
  rw [List.take_add_one, hx, List.flatMap_append]
  simp
theorem and15 (x : UInt8) : bits .and .u8 (x.toNat : Int) 15 = ((x.toNat % 16 : Nat) : Int) := by
  have h : bits .and .u8 (x.toNat : Int) 15 = IntKind.u8.wrap (((BitVec.ofInt 8 (x.toNat : Int)) &&& (BitVec.ofInt 8 15)).toNat : Int) := rfl
  rw [h, BitVec.ofInt_natCast]
  have e : ((BitVec.ofNat 8 x.toNat) &&& (BitVec.ofInt 8 15)).toNat = x.toNat % 16 := by
    rw [BitVec.toNat_and, BitVec.toNat_ofNat]
    have : (BitVec.ofInt 8 15).toNat = 15 := rfl
    rw [this, Nat.and_two_pow_sub_one_eq_mod _ 4]
    have := x.toNat_lt
    omega
  rw [e, IntKind.wrap_u8]
  omega
theorem run_digit (n : Nat) (h : n < 16) (k : IntKind) (w : World) :
    (Instr.index 9 (.string ⟨#[48, 49, 50, 51, 52, 53, 54, 55, 56, 57, 97, 98, 99, 100, 101, 102]⟩) (.int k (n : Int))).run Try.prog w = .ok (.int .u8 ((digit n).toNat : Int)) w := by
  rw [run_index_string w _ _ _ _ Try.underlying9, dif_pos ⟨by omega, by show (n : Int) < 16; omega⟩]
  match n, h with
  | 0, _ => rfl
  | 1, _ => rfl
  | 2, _ => rfl
  | 3, _ => rfl
  | 4, _ => rfl
  | 5, _ => rfl
  | 6, _ => rfl
  | 7, _ => rfl
  | 8, _ => rfl
  | 9, _ => rfl
  | 10, _ => rfl
  | 11, _ => rfl
  | 12, _ => rfl
  | 13, _ => rfl
  | 14, _ => rfl
  | 15, _ => rfl
  | n + 16, h => exact absurd h (by omega)
set_option maxHeartbeats 1000000 in
theorem text_any (l : List UInt8) (hl : l.length = 32) (w : World) :
    Calls Try.prog 28 #[aggB l] w fun e w' => e = .returned (.string ⟨(textL l).toArray⟩) ∧ Below w.heap.size w w' := by
  have Hl := Lib.hid hl
  have Hs := Lib.hid (map_bv_len l hl)
  clear hl
  go_enter Try.func28, Try.ntmps28
  go_wp2_with (first
    | (refine wpList_at 1 rfl ?_; refine wpList_boxB rfl 28 (.tmp 0) rfl (l.map bv) rfl ?_; intro w1 hblk1 hb1 hz1)
    | (refine wpList_load_mid rfl 28 (.tmp 1) rfl w.heap.size 0 rfl (l.map bv) _ (range_blk hblk1) Try.underlying28 rfl Hs.out ?_))
  have HB1 := Lib.hid hb1
  have hz : w.heap.size < w1.heap.size := by omega
  clear hblk1 hb1 hz1
  go_loopw [3, 7] (fun v i wr => ∃ (k : Nat) (A : Option Addr) (c : Nat), k ≤ 32 ∧ i = .int .i64 k ∧ v = .slice A (textL (l.take k)).length c ∧ OwnB wr w.heap.size A (textL (l.take k)).length c (textL (l.take k)) ∧ Below w.heap.size w wr ∧ w.heap.size < wr.heap.size) (fun _ i _ => 32 - (intOf i).toNat)
  case atStart => exact ⟨0, none, 0, by omega, rfl, rfl, Own.nil _ _ _ _, HB1.out, hz⟩
  case round =>
    obtain ⟨k, A, c, hk, rfl, rfl, hown, hB, hzr⟩ := hrel
    by_cases hlt : k < 32
    · have g1 : (k : Int) < 32 := by omega
      obtain ⟨x, hx⟩ : ∃ x, l[k]? = some x := ⟨_, List.getElem?_eq_getElem (by rw [Hl.out]; exact hlt)⟩
      have hidx : ∀ w' : World, (Instr.index 28 (.agg (l.map bv).toArray) (.int .i64 (k : Int))).run Try.prog w' = .ok (.int .u8 (x.toNat : Int)) w' := fun w' =>
        run_index_row Try.underlying28 ⟨_, Try.underlying5⟩ size1B hlt (by
          show (l.map bv).toArray[k]? = _
          rw [List.getElem?_toArray, List.getElem?_map, hx]; rfl)
      obtain ⟨q, hq⟩ : ∃ q, q = x.toNat / 16 := ⟨_, rfl⟩
      obtain ⟨r, hr⟩ : ∃ r, r = x.toNat % 16 := ⟨_, rfl⟩
      have hx8 := x.toNat_lt
      have hq1 : (x.toNat : Int) / 16 = (q : Int) := by omega
      have hr1 : bits .and .u8 (x.toNat : Int) 15 = (r : Int) := by rw [hr]; exact and15 x
      have hd1 := run_digit q (by omega) .u8
      have hd2 := run_digit r (by omega) .u8
      have hlen : (textL (l.take k)).length ≤ 64 := by rw [length_textL, List.length_take]; omega
      have htk := textL_take l k hx
      have Htk : Hid (textL (l.take (k + 1)) = textL (l.take k) ++ [digit q, digit r]) := by rw [htk, hq, hr]; rfl
      have Hx := Lib.hid hx
      have Hown := Lib.hid hown
      have HB := Lib.hid hB
      clear hx hown hB htk hq hr
      go_wp2_with fail
      go_region_held3 (fun _ => True) (trivial) ((refine step_app (by rfl) (.tmp 10) (.tmp 17) eByte (by rfl) (base := w.heap.size) (n := (textL (l.take k)).length) (c := c) (A := A) (vs := (textL (l.take k)).map bv) (by rfl) ((Hown.out.alloc _).drew) (A' := some ⟨wr.heap.size, 0, none⟩) (m := 2) (c' := 2) (us := [bv (digit q), bv (digit r)]) (by rfl) ((RV.of_blk (Blk.new wr _ #[_, _])).drew) rfl (map_bv_one [_, _]) (by unfold maxLen; omega) (by omega) (by simp; omega) (by simp) ?_; intro A2 c2 w2 hown2 hgrow2 hat2))
      all_goals
        have hB2 : Hid (Below w.heap.size w w2) := ((HB.out.alloc HB.out.size _).drew).grown hgrow2 (by simp; omega) fun k hk => (Own.row Hown.out k hk).1
        have hz2 : w.heap.size < w2.heap.size := by have := hgrow2.size; simp at this; omega
        clear hidx hd1 hd2 hq1 hr1
        go_wp2_with fail
        refine ⟨⟨k + 1, A2, c2, by omega, by go_num, ?_, ?_, hB2.out, hz2⟩, by simp [intOf]; omega⟩
        · rw [Htk.out, List.length_append]; rfl
        · rw [Htk.out]
          exact OwnB.app (ys := [digit q, digit r]) hown2 rfl rfl
    · obtain rfl : k = 32 := by omega
      rw [List.take_of_length_le (by rw [Hl.out]; omega)] at hown
      have Hr := Lib.hid (RV.of_own hown)
      clear hown
      rw [List.take_of_length_le (by rw [Hl.out]; omega)]
      go_wp2_with (refine wpList_bytesStr rfl (.tmp 20) (A := A) (c := c) (ys := textL l) rfl rfl Hr.out Try.underlying25 Try.underlying5 Try.underlying9 ?_)
      go_ret
      exact ⟨rfl, hB⟩
end Go.Proofs.Ytmlkfkpffbbfaaa
