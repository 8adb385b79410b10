/- The walk of the law's rights. -/
import Derived.Test.YtefaapcekbgjoaaRight
namespace Go.Proofs.Ytefaapcekbgjoaa
open Go.RowKit

def rightsL (its : List Item) (k : Nat) (q : Nat) : List Item := ((its.take k).map rightI).filter fun x => decide (x.p.ys.length ≤ q)
theorem rightsL_next (its : List Item) (k q : Nat) (h : k < its.length) : rightsL its (k + 1) q = rightsL its k q ++ (if (rightI its[k]).p.ys.length ≤ q then [rightI its[k]] else []) := by
  unfold rightsL
  rw [List.take_succ_eq_append_getElem h, List.map_append, List.filter_append]
  congr 1
  simp only [List.map_cons, List.map_nil, List.filter_cons, List.filter_nil, decide_eq_true_eq]
theorem rightsL_len (its : List Item) (k q : Nat) : (rightsL its k q).length ≤ k := by
  unfold rightsL
  refine Nat.le_trans (List.length_filter_le _ _) ?_
  rw [List.length_map, List.length_take]
  omega
set_option maxRecDepth 100000 in
set_option maxHeartbeats 1000000 in
theorem rights_any (A : Option Addr) (c : Nat) (its : List Item) (m q : Nat) (w : World) (hI : Items w A its) (hl : its.length ≤ 9223372036854775807) (hm : m ≤ 1000000) (hq : q ≤ 1000000) :
    Calls Try.prog 48 #[.slice A its.length c, .int .i64 (m : Int), .int .i64 (q : Int)] w fun e w' => ∃ A2 c2, e = .returned (.slice A2 (rightsL its m q).length c2) ∧
      Own w' w.heap.size 30 3 A2 (rightsL its m q).length c2 ((rightsL its m q).flatMap itemCells) ∧ Below w.heap.size w w' := by
  have HI := Lib.hid hI
  clear hI
  go_enter Try.func48, Try.ntmps48
  go_wp2_with fail
  go_loopw [7, 8] (fun v i wr => ∃ (k : Nat) (A2 : Option Addr) (c2 : Nat), k ≤ its.length ∧ k ≤ m ∧ i = .int .i64 k ∧ v = .slice A2 (rightsL its k q).length c2 ∧ Own wr w.heap.size 30 3 A2 (rightsL its k q).length c2 ((rightsL its k q).flatMap itemCells) ∧ Below w.heap.size w wr) (fun _ i _ => its.length - (intOf i).toNat)
  case atStart => exact ⟨0, none, 0, Nat.zero_le _, Nat.zero_le _, rfl, rfl, Own.nil _ _ _ _, Below.refl _ _⟩
  case round =>
    obtain ⟨k, A2, c2, hk, hkm, rfl, rfl, hown, hB⟩ := hrel
    have hlk := rightsL_len its k q
    have hsz := hB.size
    by_cases hlt : k < its.length ∧ k < m
    · obtain ⟨hlt1, hlt2⟩ := hlt
      have g1 : (k : Int) < (its.length : Int) := by omega
      have g2 : (k : Int) < (m : Int) := by omega
      obtain ⟨b, off, rfl, hb, c0, c1, c2'⟩ := (HI.out.below hB).at_ hlt1
      have hok := HI.out.ok _ (List.getElem_mem hlt1)
      have hnx := rightsL_next its k q hlt1
      obtain ⟨n, hn⟩ : ∃ n, n = (rightsL its k q).length := ⟨_, rfl⟩
      have Hn := Lib.hid hn
      have Hnx := Lib.hid hnx
      have Hown := Lib.hid hown
      have HB := Lib.hid hB
      have hright := right_any its[k] wr (by have := hok.len; omega) hok.n1 hok.n2
      rw [← hn] at hlk ⊢
      generalize its[k] = x at *
      clear hn hnx hown hB
      go_wp2_with fail
      refine hright.mono ?_
      rintro e w2 ⟨rfl, hb2⟩
      obtain ⟨y, hy⟩ : ∃ y, y = rightI x := ⟨_, rfl⟩
      rw [← hy]
      have Hy := Lib.hid hy
      have hown2 := Hown.out.below hb2 (Nat.le_refl _)
      have HB2 := Lib.hid (HB.out.trans (hb2.mono hsz))
      rw [← Hn.out] at hown2
      have hsz2 : w.heap.size ≤ w2.heap.size := HB2.out.size
      clear hright hb2 hy
      by_cases hfit : y.p.ys.length ≤ q
      · have g3 : (y.p.ys.length : Int) ≤ (q : Int) := by omega
        have hRr : ∀ o, RV ((w2.alloc o).alloc (.cells #[.int .i64 y.kind, .int .i64 y.n, .slice y.p.A y.p.ys.length y.p.c] 30)) (some ⟨w2.heap.size + 1, 0, none⟩) (itemCells y) := fun o => by
          have h := RV.of_blk (Blk.new (w2.alloc o) 30 #[.int .i64 y.kind, .int .i64 y.n, .slice y.p.A y.p.ys.length y.p.c])
          rw [World.size_alloc] at h
          exact h
        have HRr := Lib.hid hRr
        clear hRr
        go_wp2_with (at_builtin; refine wpList_app rfl (.tmp 31) (.tmp 33) eItem rfl (base := w.heap.size) (n := n) (c := c2) (A := A2) (vs := (rightsL its k q).flatMap itemCells) rfl ((hown2.alloc _).alloc _) (A' := some ⟨w2.heap.size + 1, 0, none⟩) (m := 1) (c' := 1) (us := itemCells y) rfl (HRr.out _) rfl (items_one [y]) (by unfold maxLen; omega) (by omega) (by simp; omega) (by simp) ?_; intro A3 c3 w3 hown3 hg3 hat3)
        have hB3 : Below w.heap.size w w3 := ((HB2.out.alloc hsz2 _).alloc (by simp; omega) _).grown hg3 (by simp; omega) fun k hk => (Own.row hown2 k hk).1
        have e : rightsL its (k + 1) q = rightsL its k q ++ [y] := by rw [Hnx.out, ← Hy.out, if_pos hfit]
        have el : (rightsL its (k + 1) q).length = n + 1 := by rw [e, List.length_append, ← Hn.out]; rfl
        refine ⟨⟨k + 1, A3, c3, by omega, by omega, by go_num, by rw [el], ?_, hB3⟩, by simp [intOf]; omega⟩
        rw [el, e, List.flatMap_append]
        simpa using hown3
      · have g3 : ¬ (y.p.ys.length : Int) ≤ (q : Int) := by omega
        go_wp2_with fail
        have e : rightsL its (k + 1) q = rightsL its k q := by rw [Hnx.out, ← Hy.out, if_neg hfit, List.append_nil]
        refine ⟨⟨k + 1, A2, c2, by omega, by omega, by go_num, by rw [e, ← Hn.out], ?_, HB2.out.alloc hsz2 _⟩, by simp [intOf]; omega⟩
        rw [e, ← Hn.out]
        exact hown2.alloc _
    · have e : rightsL its m q = rightsL its k q := by
        unfold rightsL
        rcases Nat.lt_or_ge k its.length with h | h
        · obtain rfl : k = m := by omega
          rfl
        · rw [List.take_of_length_le h, List.take_of_length_le (by omega)]
      have He := Lib.hid e
      have Hown := Lib.hid hown
      have HB := Lib.hid hB
      rcases Nat.lt_or_ge k its.length with h | h
      · have g1 : (k : Int) < (its.length : Int) := by omega
        have g2 : ¬ (k : Int) < (m : Int) := by omega
        clear e hown hB hlt
        go_wp2_with fail
        go_ret
        rw [He.out]
        exact ⟨A2, c2, rfl, Hown.out, HB.out⟩
      · have g1 : ¬ (k : Int) < (its.length : Int) := by omega
        clear e hown hB hlt
        go_wp2_with fail
        go_ret
        rw [He.out]
        exact ⟨A2, c2, rfl, Hown.out, HB.out⟩
end Go.Proofs.Ytefaapcekbgjoaa
