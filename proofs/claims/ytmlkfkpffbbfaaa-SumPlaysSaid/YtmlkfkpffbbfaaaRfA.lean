/- The walks of the reference's filled, and of the law's joined and beyond. -/
import Derived.Test.YtmlkfkpffbbfaaaShaO1
import Derived.IntWalk
namespace Go.Proofs.Ytmlkfkpffbbfaaa
open Go.RowKit

/-- The call handed back a new slice of bytes that reads as ys. -/
def FreshB (w : World) (ys : List UInt8) (e : Ending) (w' : World) : Prop :=
  ∃ A c, e = .returned (.slice A ys.length c) ∧ OwnB w' w.heap.size A ys.length c ys ∧ Below w.heap.size w w'
theorem OwnB.nilA {w : World} {base n c : Nat} {A : Option Addr} {ys : List UInt8} (h : OwnB w base A n c ys) : A = none → n = 0 ∧ c = 0 := by
  intro hA
  subst hA
  rcases h.2 with ⟨hv, h0⟩ | ⟨g, cap, cur, hv, _⟩
  · injection hv with _ h1 h2
    exact ⟨h1, h2⟩
  · cases hv
/-- What filled has laid: the bytes, 128, some zeros. -/
def fillZ (b : List UInt8) (j : Nat) : List UInt8 := b ++ (128 :: List.replicate j 0)
theorem length_fillZ (b : List UInt8) (j : Nat) : (fillZ b j).length = b.length + 1 + j := by
  simp [fillZ]; omega
theorem fillZ_next (b : List UInt8) (j : Nat) : fillZ b j ++ [0] = fillZ b (j + 1) := by
  unfold fillZ
  rw [List.append_assoc, List.cons_append, List.replicate_succ']
theorem fillZ_end (b : List UInt8) : fillZ b (zerosN b.length) ++ lenB b.length = b ++ tailL b.length := by
  unfold fillZ tailL
  rw [List.append_assoc, List.cons_append]
theorem lenB_next (n i : Nat) (h : i < 8) : (lenB n).take (i + 1) = (lenB n).take i ++ [UInt8.ofNat (8 * n / 2 ^ (8 * (7 - i)))] := by
  rw [List.take_add_one]
  congr 1
  unfold lenB
  rw [List.getElem?_map, List.getElem?_range h]
  rfl
set_option maxHeartbeats 1000000 in
theorem filled_any (b : List UInt8) (A : Option Addr) (c : Nat) (w : World) (hr : RV w A (b.map bv)) (hl : b.length ≤ 70368744177664) (hnil : A = none → b.length = 0 ∧ c = 0) :
    Calls Try.prog 36 #[.slice A b.length c] w (FreshB w (b ++ tailL b.length)) := by
  have Hr := Lib.hid hr
  have Hnil := Lib.hid hnil
  obtain ⟨n, hn⟩ : ∃ n, n = b.length := ⟨_, rfl⟩
  clear hr hnil
  go_enter Try.func36, Try.ntmps36
  go_wp2_with (first
    | (refine wpList_at 8 rfl ?_; at_builtin; refine wpList_app rfl (.tmp 6) (.tmp 7) eByte rfl (base := w.heap.size) (n := 0) (c := 0) (A := none) (vs := []) rfl (Own.nil _ _ _ _) (A' := A) (m := b.length) (c' := c) (us := b.map bv) rfl Hr.out (by simp) (map_bv_one _) (by unfold maxLen; omega) (by omega) (Nat.le_refl _) Hnil.out ?_; intro A2 c2 w2 hown2 hg2 hat2)
    | (refine wpList_at 11 rfl ?_; at_builtin; refine wp_stop ?_))
  refine ⟨?_⟩
  simp only [Nat.zero_add, List.nil_append] at hown2 ⊢
  have hB2 : Below w.heap.size w w2 := (Below.refl _ _).grown hg2 (Nat.le_refl _) fun k hk => by cases hk
  have hz2 := hB2.size
  refine wpList_app rfl (.tmp 9) (.tmp 10) eByte rfl (base := w.heap.size) (n := b.length) (c := c2) (A := A2) (vs := b.map bv) rfl (hown2.alloc _) (A' := some ⟨w2.heap.size, 0, none⟩) (m := 1) (c' := 1) (us := [bv 128]) rfl (RV.of_blk (Blk.new w2 _ #[_])) rfl (map_bv_one [_]) (by unfold maxLen; omega) (by omega) (by simp; omega) (by simp) ?_
  intro A3 c3 w3 hown3 hg3 hat3
  have hB3 : Below w.heap.size w w3 := (hB2.alloc hz2 _).grown hg3 (by simp; omega) fun k hk => (hown2.row k hk).1
  have hown3' : OwnB w3 w.heap.size A3 (b.length + 1) c3 (fillZ b 0) := by
    have h := OwnB.app (ys := [128]) hown3 rfl rfl
    rw [List.length_append] at h
    exact h
  have Hown3 := Lib.hid hown3'
  have HB3 := Lib.hid hB3
  clear hown2 hg2 hat2 hown3 hg3 hat3 hB2 hB3 hown3'
  go_wp2_with fail
  go_loopw [3] (fun v wr => ∃ (j : Nat) (A' : Option Addr) (c' : Nat), j ≤ zerosN b.length ∧ v = .slice A' (b.length + 1 + j) c' ∧ OwnB wr w.heap.size A' (b.length + 1 + j) c' (fillZ b j) ∧ Below w.heap.size w wr) (fun v _ => b.length + 1 + zerosN b.length - (match v with | .slice _ n _ => n | _ => 0))
  case atStart => exact ⟨0, A3, c3, Nat.zero_le _, rfl, Hown3.out, HB3.out⟩
  case round =>
    obtain ⟨j, A', c', hj, rfl, hown, hB⟩ := hrel
    have hz3 : zerosN b.length < 64 := by unfold zerosN; omega
    have hsz := hB.size
    obtain ⟨m, hm⟩ : ∃ m, m = b.length + 1 + j := ⟨_, rfl⟩
    obtain ⟨r, hr⟩ : ∃ r, r = m % 64 := ⟨_, rfl⟩
    have htm : (m : Int).tmod 64 = (r : Int) := by rw [Int.tmod_eq_emod_of_nonneg (by omega)]; omega
    rw [← hm] at hown ⊢
    have Hm := Lib.hid hm
    by_cases hlt : j < zerosN b.length
    · have hne : ((r : Int) != 56) = true := by rw [bne_iff_ne]; unfold zerosN at hlt; omega
      have Hlt := Lib.hid hlt
      clear hm hr hlt
      go_wp2_with (at_builtin; refine wpList_app rfl (.tmp 16) (.tmp 17) eByte rfl (base := w.heap.size) (n := m) (c := c') (A := A') (vs := (fillZ b j).map bv) rfl (hown.alloc _) (A' := some ⟨wr.heap.size, 0, none⟩) (m := 1) (c' := 1) (us := [bv 0]) rfl (RV.of_blk (Blk.new wr _ #[_])) rfl (map_bv_one [_]) (by have := Hm.out; unfold maxLen; omega) (by have := Hm.out; omega) (by simp; omega) (by simp) ?_; intro A2 c2 w2 hown2 hg2 hat2)
      have hB2 : Below w.heap.size w w2 := (hB.alloc hsz _).grown hg2 (by simp; omega) fun k hk => (hown.row k hk).1
      have hm1 : m + 1 = b.length + 1 + (j + 1) := by have := Hm.out; omega
      refine ⟨⟨j + 1, A2, c2, Hlt.out, by rw [← hm1], ?_, hB2⟩, by
        show b.length + 1 + zerosN b.length - (m + 1) < b.length + 1 + zerosN b.length - m
        have := Hlt.out; have := Hm.out; omega⟩
      have h := OwnB.app (ys := [0]) hown2 (by rw [length_fillZ, ← Hm.out]) rfl
      rw [fillZ_next, length_fillZ] at h
      exact h
    · obtain rfl : j = zerosN b.length := by omega
      have hne : ((r : Int) != 56) = false := by rw [bne_eq_false_iff_eq]; unfold zerosN at hm; omega
      have Hown := Lib.hid hown
      have HB := Lib.hid hB
      have hnb : (b.length : Int) * 8 < 18446744073709551616 := by omega
      clear hm hr hlt hown hB
      go_wp2_with fail
      go_loopw [3, 5] (fun v i wr => ∃ (k : Nat) (A' : Option Addr) (c' : Nat), k ≤ 8 ∧ i = .int .i64 k ∧ v = .slice A' (m + k) c' ∧ OwnB wr w.heap.size A' (m + k) c' (fillZ b (zerosN b.length) ++ (lenB b.length).take k) ∧ Below w.heap.size w wr) (fun _ i _ => 8 - (intOf i).toNat)
      case atStart => exact ⟨0, A', c', Nat.zero_le _, rfl, rfl, by rw [List.take_zero, List.append_nil]; exact Hown.out, HB.out⟩
      case round =>
        obtain ⟨k, A', c', hk, rfl, rfl, hown, hB⟩ := hrel
        have hsz := hB.size
        obtain ⟨m2, hm2⟩ : ∃ m2, m2 = m + k := ⟨_, rfl⟩
        rw [← hm2] at hown ⊢
        have Hm2 := Lib.hid hm2
        by_cases hlt : k < 8
        · have hlt1 : (k : Int) < 8 := by omega
          obtain ⟨q, hq⟩ : ∃ q, q = 7 - k := ⟨_, rfl⟩
          have hsub : (7 : Int) - (k : Int) = (q : Int) := by omega
          have hx : Value.int .u8 ((b.length : Int) * 8 / 2 ^ (8 * q) % 256) = bv (UInt8.ofNat (8 * b.length / 2 ^ (8 * (7 - k)))) := by
            unfold bv
            rw [← hq, UInt8.toNat_ofNat', Int.natCast_emod, Int.natCast_ediv, Int.natCast_pow, Int.natCast_mul, Int.mul_comm]
            rfl
          have hnx := lenB_next b.length k hlt
          have Hx := Lib.hid hx
          have Hnx := Lib.hid hnx
          generalize UInt8.ofNat (8 * b.length / 2 ^ (8 * (7 - k))) = u at *
          clear hm2 hlt hx hnx hq
          go_wp2_with (at_builtin; refine wpList_app rfl (.tmp 27) (.tmp 34) eByte rfl (base := w.heap.size) (n := m2) (c := c') (A := A') (vs := (fillZ b (zerosN b.length) ++ (lenB b.length).take k).map bv) rfl (hown.alloc _) (A' := some ⟨wr.heap.size, 0, none⟩) (m := 1) (c' := 1) (us := [bv u]) rfl (by rw [← Hx.out]; exact RV.of_blk (Blk.new wr _ #[_])) rfl (map_bv_one [_]) (by have := Hm.out; have := Hm2.out; unfold maxLen; omega) (by have := Hm.out; have := Hm2.out; omega) (by simp; omega) (by simp) ?_; intro A2 c2 w2 hown2 hg2 hat2)
          have hB2 : Below w.heap.size w w2 := (hB.alloc hsz _).grown hg2 (by simp; omega) fun k hk => (hown.row k hk).1
          have h := OwnB.app (ys := [u]) hown2 hown.len rfl
          rw [List.length_append, hown.len, List.append_assoc, ← Hnx.out] at h
          have hm1 : m2 + 1 = m + (k + 1) := by have := Hm2.out; omega
          refine ⟨⟨k + 1, A2, c2, by omega, by go_num, by rw [← hm1], ?_, hB2⟩, by simp [intOf]; omega⟩
          rw [← hm1]
          exact h
        · obtain rfl : k = 8 := by omega
          rw [List.take_of_length_le (by rw [length_lenB]; omega), fillZ_end] at hown
          have hlen := hown.len
          go_wp2_with fail
          go_ret
          exact ⟨A', c', by rw [hlen]; rfl, by rw [hlen]; exact hown, hB⟩
/-- A slice of bytes, as BSl has it; that of no place is empty. -/
def BSn (w : World) (v : Value) (bs : List UInt8) : Prop := ∃ A c, v = .slice A bs.length c ∧ RV w A (bs.map bv) ∧ bs.length ≤ c ∧ c ≤ maxLen ∧ (A = none → bs.length = 0 ∧ c = 0) ∧ bs.length ≤ 140737488351232
theorem BSn.below {w w' : World} {v : Value} {bs : List UInt8} (h : BSn w v bs) (hb : Below w.heap.size w w') : BSn w' v bs := by
  obtain ⟨A, c, hv, hr, r⟩ := h
  exact ⟨A, c, hv, hr.below hb, r⟩
theorem BSn.bsl {w : World} {v : Value} {bs : List UInt8} (h : BSn w v bs) : BSl w v bs := by
  obtain ⟨A, c, hv, hr, h1, h2, _⟩ := h
  exact ⟨A, c, hv, hr, h1, h2⟩
def PartsN (w : World) (A : Option Addr) (ps : List (List UInt8)) : Prop := ∃ hs, RV w A hs ∧ hs.length = ps.length ∧ ∀ i (hi : i < ps.length), ∃ v, hs[i]? = some v ∧ BSn w v ps[i]
theorem PartsN.below {w w' : World} {A : Option Addr} {ps : List (List UInt8)} (h : PartsN w A ps) (hb : Below w.heap.size w w') : PartsN w' A ps := by
  obtain ⟨hs, hr, hl, hi⟩ := h
  refine ⟨hs, hr.below hb, hl, fun i h => ?_⟩
  obtain ⟨v, h1, h2⟩ := hi i h
  exact ⟨v, h1, h2.below hb⟩
theorem PartsN.at_ {w : World} {A : Option Addr} {ps : List (List UInt8)} (h : PartsN w A ps) {k : Nat} (hk : k < ps.length) :
    ∃ b off A2 c2, A = some ⟨b, off, none⟩ ∧ b < w.heap.size ∧ w.cell? ⟨b, off + k, none⟩ = some (.slice A2 ps[k].length c2) ∧ RV w A2 (ps[k].map bv) ∧ ps[k].length ≤ c2 ∧ c2 ≤ maxLen ∧ (A2 = none → ps[k].length = 0 ∧ c2 = 0) ∧ ps[k].length ≤ 140737488351232 := by
  obtain ⟨hs, hr, hl, hi⟩ := h
  obtain ⟨v, h1, A2, c2, rfl, r⟩ := hi k hk
  obtain ⟨b, off, rfl, hb, hc⟩ := hr.at_ (by omega)
  exact ⟨b, off, A2, c2, rfl, hb, hc k _ h1, r⟩

/-- How many bytes the first k have. -/
theorem flat_step (ps : List (List UInt8)) (k : Nat) (h : k < ps.length) : (ps.take (k + 1)).flatten.length = (ps.take k).flatten.length + ps[k].length := by
  rw [flatten_take ps k h, List.length_append]
theorem beyond_any (ps : List (List UInt8)) (A : Option Addr) (c : Nat) (w : World) (hp : PartsN w A ps) (hpl : ps.length ≤ maxLen) (T : Nat) (hT : T = ps.flatten.length) :
    Calls Try.prog 13 #[.slice A ps.length c] w fun e w' => (e = .returned (.bool (decide (2147483647 < T)))) ∧ w' = w := by
  unfold maxLen at hpl
  have HT := Lib.hid hT
  clear hT
  go_enter Try.func13, Try.ntmps13
  go_wp2_with fail
  go_loop [3, 4] (fun v i => ∃ k : Nat, k ≤ ps.length ∧ i = .int .i64 k ∧ v = .int .i64 ((ps.take k).flatten.length : Nat) ∧ (∀ j, j < k → (ps.take j).flatten.length ≤ 2147483647)) (fun _ i => ps.length - (intOf i).toNat)
  case atStart => exact ⟨0, Nat.zero_le _, rfl, by simp, fun j h => absurd h (by omega)⟩
  case round =>
    obtain ⟨k, hk, rfl, rfl, hj⟩ := hrel
    have hle := flatten_le ps k
    obtain ⟨m, hm⟩ : ∃ m, m = (ps.take k).flatten.length := ⟨_, rfl⟩
    rw [← hm, ← HT.out] at hle
    rw [← hm]
    have Hm := Lib.hid hm
    have Hj := Lib.hid hj
    clear hm hj
    by_cases hlt : k < ps.length
    · have hlt1 : (k : Int) < ps.length := by omega
      by_cases hb : m ≤ 2147483647
      · have hb1 : (m : Int) ≤ 2147483647 := by omega
        obtain ⟨b, off, A2, c2, rfl, hbl, hcell, hr2, h1, h2, h3, h4⟩ := hp.at_ hlt
        have hst := flat_step ps k hlt
        rw [← Hm.out] at hst
        have Hst := Lib.hid hst
        have Hr2 := Lib.hid hr2
        generalize ps[k].length = n at *
        clear hst hr2 h3
        go_wp2_with fail
        refine ⟨⟨k + 1, by omega, by go_num, by rw [Hst.out]; go_num, fun j h => ?_⟩, by simp [intOf]; omega⟩
        rcases Nat.lt_or_ge j k with h | h
        · exact Hj.out j h
        · obtain rfl : j = k := by omega
          rw [← Hm.out]; exact hb
      · have hb1 : ¬ (m : Int) ≤ 2147483647 := by omega
        have hb2 : decide (2147483647 < T) = true := by rw [decide_eq_true_eq]; omega
        have hb3 : (2147483647 : Int) < m := by omega
        go_wp2_with fail
        go_ret
        exact ⟨rfl, rfl⟩
    · obtain rfl : k = ps.length := by omega
      have hm := Hm.out
      rw [List.take_length, ← HT.out] at hm
      subst hm
      by_cases hb : 2147483647 < m
      · have hb3 : (2147483647 : Int) < m := by omega
        have Hb := Lib.hid hb
        clear hb
        go_wp2_with fail
        go_ret
        exact ⟨by rw [decide_eq_true Hb.out]; rfl, rfl⟩
      · have hb3 : ¬ (2147483647 : Int) < m := by omega
        have Hb := Lib.hid hb
        clear hb
        go_wp2_with fail
        go_ret
        exact ⟨by rw [decide_eq_false Hb.out]; rfl, rfl⟩
set_option maxHeartbeats 1000000 in
theorem joined_any (ps : List (List UInt8)) (A : Option Addr) (c : Nat) (w : World) (hp : PartsN w A ps) (hpl : ps.length ≤ maxLen) (hl : ps.flatten.length ≤ 140737488351232) :
    Calls Try.prog 19 #[.slice A ps.length c] w (FreshB w ps.flatten) := by
  unfold maxLen at hpl
  have Hp := Lib.hid hp
  clear hp
  go_enter Try.func19, Try.ntmps19
  go_wp2_with fail
  go_loopw [3, 4] (fun v i wr => ∃ (k : Nat) (A' : Option Addr) (c' : Nat), k ≤ ps.length ∧ i = .int .i64 k ∧ v = .slice A' (ps.take k).flatten.length c' ∧ OwnB wr w.heap.size A' (ps.take k).flatten.length c' (ps.take k).flatten ∧ Below w.heap.size w wr) (fun _ i _ => ps.length - (intOf i).toNat)
  case atStart => exact ⟨0, none, 0, Nat.zero_le _, rfl, rfl, Own.nil _ _ _ _, Below.refl _ _⟩
  case round =>
    obtain ⟨k, A', c', hk, rfl, rfl, hown, hB⟩ := hrel
    have hsz := hB.size
    by_cases hlt : k < ps.length
    · have hlt1 : (k : Int) < ps.length := by omega
      obtain ⟨b, off, A2, c2, rfl, hbl, hcell, hr2, h1, h2, h3, h4⟩ := (Hp.out.below hB).at_ hlt
      have hst := flat_step ps k hlt
      have hft := flatten_take ps k hlt
      have hle := flatten_le ps (k + 1)
      have Hst := Lib.hid hst
      have Hft := Lib.hid hft
      have Hr2 := Lib.hid hr2
      have H3 := Lib.hid h3
      obtain ⟨m, hm⟩ : ∃ m, m = (ps.take k).flatten.length := ⟨_, rfl⟩
      have Hm := Lib.hid hm
      have hmb : m + ps[k].length ≤ 140737488351232 := by omega
      rw [← hm] at hown ⊢
      generalize hxs : ps[k] = xs at *
      generalize hys : (ps.take k).flatten = ys at *
      clear hst hr2 h3 hft hle hm hxs hys
      go_wp2_with (at_builtin; refine wpList_app rfl (.tmp 11) (.tmp 15) eByte rfl (base := w.heap.size) (n := m) (c := c') (A := A') (vs := ys.map bv) rfl hown (A' := A2) (m := xs.length) (c' := c2) (us := xs.map bv) rfl Hr2.out (by simp) (map_bv_one _) (by unfold maxLen; omega) (by omega) hsz H3.out ?_; intro A3 c3 w3 hown3 hg3 hat3)
      refine ⟨⟨k + 1, A3, c3, by omega, by go_num, by rw [Hst.out, ← Hm.out], ?_, hB.grown hg3 hsz fun k hk => (hown.row k hk).1⟩, by simp [intOf]; omega⟩
      have h := OwnB.app hown3 Hm.out.symm rfl
      rw [← Hft.out] at h
      exact h
    · obtain rfl : k = ps.length := by omega
      rw [List.take_length] at hown ⊢
      go_wp2_with fail
      go_ret
      exact ⟨A', c', rfl, hown, hB⟩
end Go.Proofs.Ytmlkfkpffbbfaaa
