/- The walks of New, Of and of the law's own check of one known digest. -/
import Derived.Test.YtmlkfkpffbbfaaaShaSum
namespace Go.Proofs.Ytmlkfkpffbbfaaa
open Go.RowKit

/-- A value that is a slice of bytes, which reads so. -/
def BSl (w : World) (v : Value) (bs : List UInt8) : Prop := ∃ A c, v = .slice A bs.length c ∧ RV w A (bs.map bv) ∧ bs.length ≤ c ∧ c ≤ maxLen
theorem BSl.below {w w' : World} {v : Value} {bs : List UInt8} (h : BSl w v bs) (hb : Below w.heap.size w w') : BSl w' v bs := by
  obtain ⟨A, c, hv, hr, r⟩ := h
  exact ⟨A, c, hv, hr.below hb, r⟩
/-- Slices of bytes that lie at A, one behind the other. -/
def PartsV (w : World) (A : Option Addr) (ps : List (List UInt8)) : Prop := ∃ hs, RV w A hs ∧ hs.length = ps.length ∧ ∀ i (hi : i < ps.length), ∃ v, hs[i]? = some v ∧ BSl w v ps[i]
theorem PartsV.below {w w' : World} {A : Option Addr} {ps : List (List UInt8)} (h : PartsV w A ps) (hb : Below w.heap.size w w') : PartsV w' A ps := by
  obtain ⟨hs, hr, hl, hi⟩ := h
  refine ⟨hs, hr.below hb, hl, fun i h => ?_⟩
  obtain ⟨v, h1, h2⟩ := hi i h
  exact ⟨v, h1, h2.below hb⟩

theorem new_any (w : World) :
    Calls Try.prog 21 #[] w fun e w' => e = .returned (.pointer (some ⟨w.heap.size, 0, none⟩)) ∧ HashV w' w.heap.size [] ∧ Below w.heap.size w w' ∧ w'.heap.size = w.heap.size + 1 := by
  go_enter Try.func21, Try.ntmps21
  go_wp2_with (first
    | (refine wpList_build rfl rfl (.agg (hashL (List.replicate 8 0) false (List.replicate 64 0) 0).toArray) (by kernel_rfl) ?_)
    | (refine wpList_boxB rfl 51 (.tmp 1) rfl (hashL (List.replicate 8 0) false (List.replicate 64 0) 0) rfl ?_; intro w1 hblk1 hb1 hz1))
  go_ret
  exact ⟨rfl, ⟨_, _, _, _, hblk1, HashOf.zero⟩, hb1, hz1⟩

theorem flatten_take (ps : List (List UInt8)) (k : Nat) (h : k < ps.length) : (ps.take (k + 1)).flatten = (ps.take k).flatten ++ ps[k] := by
  rw [List.take_succ_eq_append_getElem h, List.flatten_append]
  simp
theorem flatten_le (ps : List (List UInt8)) (k : Nat) : (ps.take k).flatten.length ≤ ps.flatten.length := by
  conv => rhs; rw [← List.take_append_drop k ps, List.flatten_append, List.length_append]
  omega

set_option maxHeartbeats 1000000 in
theorem of_any (ps : List (List UInt8)) (A : Option Addr) (c : Nat) (w : World) (hp : PartsV w A ps) (hl : ps.flatten.length ≤ 1152921504606846976) (hpl : ps.length ≤ maxLen) :
    Calls Try.prog 15 #[.slice A ps.length c] w fun e w' => e = .returned (aggB (sha ps.flatten)) ∧ Below w.heap.size w w' := by
  unfold maxLen at hpl
  have Hp := Lib.hid hp
  clear hp
  go_enter Try.func15, Try.ntmps15
  go_wp2_with (refine wpList_at 2 rfl ?_; refine wpList_allocZ rfl 28 rfl (List.replicate 32 (.int .u8 0)) (fun ev w => by kernel_rfl) ?_; intro w1 hblk1 hb1 hz1)
  refine (new_any w1).mono ?_
  rintro e w2 ⟨rfl, hH2, hb2, hz2⟩
  have hB2 : Below w.heap.size w w2 := hb1.trans (hb2.mono hb1.size)
  have Hd2 := Lib.hid (hblk1.below hb2 (by omega))
  have HB2 := Lib.hid hB2
  have hs2 : w.heap.size + 2 ≤ w2.heap.size := by omega
  have Hz1 := Lib.hid hz1
  have HH2 := Lib.hid hH2
  clear hblk1 hb1 hb2 hB2 hz1 hz2 hH2
  go_wp2_with fail
  go_loopw [9] (fun i wr => ∃ k : Nat, k ≤ ps.length ∧ i = .int .i64 k ∧ HashV wr w1.heap.size (ps.take k).flatten ∧ Only (fun k => k = w1.heap.size) w2 wr) (fun i _ => ps.length - (intOf i).toNat)
  case atStart => exact ⟨0, by omega, rfl, HH2.out, Only.refl _ _⟩
  case round =>
    obtain ⟨k, hk, rfl, hH, hO⟩ := hrel
    have hz1 := Hz1.out
    have hBr : Below w.heap.size w wr := HB2.out.trans (hO.below (by omega) fun k hk => by omega)
    by_cases hlt : k < ps.length
    · obtain ⟨hs, hr, hsl, hat⟩ := Hp.out
      obtain ⟨v, hv, A2, c2, rfl, hr2, hc2, hm2⟩ := hat k hlt
      obtain ⟨b, off, rfl, hb, hcell⟩ := hr.at_ (by omega)
      have hck : wr.cell? ⟨b, off + k, none⟩ = some (.slice A2 ps[k].length c2) := by
        rw [(bcell hBr).1 _ _ hb]
        exact hcell k _ hv
      have hrw := hr2.below hBr
      have hfl := flatten_le ps (k + 1)
      have hft := flatten_take ps k hlt
      have hw := write_any w1.heap.size (ps.take k).flatten ps[k] A2 c2 wr hH hrw (fun h0 b' o' h => by
        subst h
        obtain ⟨b3, o3, h3, hlt3, -⟩ := hr2.at_ (by rw [List.length_map]; exact List.length_pos_iff.2 h0)
        cases h3
        omega) (by rw [hft, List.length_append] at hfl; omega) hc2 hm2
      rw [← hft] at hw
      have HO := Lib.hid hO
      have hlt2 : (k : Int) < ps.length := by omega
      clear hft hsl hr2 hrw hv hcell hr hat hH hO hBr hz1
      go_wp2_with fail
      refine hw.mono ?_
      rintro e w5 ⟨rfl, hH5, hO5⟩
      have HH5 := Lib.hid hH5
      have HO5 := Lib.hid (HO.out.trans hO5)
      clear hw hH5 hO5
      go_wp2_with fail
      exact ⟨⟨k + 1, by omega, by go_num, HH5.out, HO5.out⟩, by simp [intOf]; omega⟩
    · obtain rfl : k = ps.length := by omega
      rw [List.take_length] at hH
      have Hd := Lib.hid (Hd2.out.only hO (by omega))
      have HBr := Lib.hid hBr
      clear hz1 hO hBr
      go_wp2_with fail
      refine (sum_any w1.heap.size ps.flatten wr hH hl).mono ?_
      rintro e w6 ⟨rfl, hb6⟩
      have hBs := HBr.out.size
      have Hd6 := Lib.hid (Hd.out.below hb6 Hd.out.lt)
      have hB6 : Below w.heap.size w w6 := HBr.out.trans (hb6.mono hBs)
      have hsd := map_bv_len (sha ps.flatten) (length_sha ps.flatten)
      have Hsd := Lib.hid hsd
      clear hb6 hsd hBs
      go_wp2_with (refine wpList_storeB rfl 28 (.tmp 2) (.tmp 18) rfl ((sha ps.flatten).map bv) rfl rfl Hd6.out Hsd.out (by rw [List.length_map, length_sha]; rfl) (map_bv_one _) ?_; intro w10 hblk10 ho10 hz10)
      have hB10 : Below w.heap.size w w10 := hB6.trans (ho10.below hB6.size fun k hk => by omega)
      refine bodyPost_ret (v := aggB (sha ps.flatten)) (results_cell_row rfl _ _ w.heap.size _ _ _ _ rfl hblk10 Try.underlying28 rfl (Hsd.out.trans (by simp))) rfl ?_
      exact ⟨rfl, hB10⟩
end Go.Proofs.Ytmlkfkpffbbfaaa
