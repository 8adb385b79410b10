/- Lists of bytes of the call's own, in unlike blocks, that are written over: plain laws for the law's GrownBytes. -/
import Derived.Test.YtefaapcekbgjoaaMark
import Derived.Test.YtefaapcekbgjoaaRun
namespace Go.Proofs.Ytefaapcekbgjoaa
open Go.RowKit

theorem own_put {w : World} {base g n c : Nat} {ys : List UInt8} (h : OwnB w base (some ⟨g, 0, none⟩) n c ys) (j : Nat) (x : UInt8) : OwnB (w.setCell ⟨g, j, none⟩ (bv x)) base (some ⟨g, 0, none⟩) n c (ys.set j x) := by
  obtain ⟨hl, h2⟩ := h
  rcases h2 with ⟨hv, _⟩ | ⟨g', cap, cur, hv, hg, hh, hnc, hcm, hcs, htake⟩
  · injection hv with h1; cases h1
  · injection hv with h1 h2 h3
    cases h1
    subst h3
    have hb : Blk w g 5 cur.toList.toArray := by simpa [Blk] using hh
    have hb2 := Blk.setL (cs := cur.toList) hb j (bv x)
    refine ⟨by simpa using hl, .inr ⟨g, c, (cur.toList.set j (bv x)).toArray, rfl, hg, hb2, hnc, hcm, by simpa using hcs, ?_⟩⟩
    show (cur.toList.set j (bv x)).take (n * 1) = (ys.set j x).map bv
    rw [List.take_set, htake, List.map_set]
theorem own_cell {w : World} {base g n c : Nat} {ys : List UInt8} (h : OwnB w base (some ⟨g, 0, none⟩) n c ys) (j : Nat) (hj : j < n) : (∃ v, w.cell? ⟨g, j, none⟩ = some v) ∧ w.frozen? ⟨g, j, none⟩ = false ∧ g < w.heap.size := by
  have hlt := (Own.row h g rfl).2
  obtain ⟨hl, h2⟩ := h
  rcases h2 with ⟨hv, _⟩ | ⟨g', cap, cur, hv, hg, hh, hnc, hcm, hcs, htake⟩
  · injection hv with h1; cases h1
  · injection hv with h1 h2 h3
    cases h1
    subst h3
    have hb : Blk w g 5 cur.toList.toArray := by simpa [Blk] using hh
    exact ⟨hb.some (i := j) (by rw [Array.length_toList]; omega), hb.frozen j, hlt⟩
def marksL (i n : Nat) : List UInt8 := (List.range n).map fun j => UInt8.ofNat (markN i j)
def tailL (i n : Nat) : List UInt8 := (List.range n).map fun j => UInt8.ofNat (255 - markN i j)
theorem markN_lt (i j : Nat) : markN i j < 256 := by unfold markN; repeat' split
                                                     all_goals omega
theorem bv_mark (i j : Nat) : bv (UInt8.ofNat (markN i j)) = .int .u8 (markN i j : Int) := by
  unfold bv
  rw [toNat_ofNat8, Nat.mod_eq_of_lt (markN_lt i j)]
/-- What list t holds while list k is written, j of its marks. -/
def curL (k j t : Nat) (ys : List UInt8) : List UInt8 := if t < k then marksL t ys.length else if t = k then (marksL t ys.length).take j ++ ys.drop j else ys
theorem curL_next (k j : Nat) (ys : List UInt8) (hj : j < ys.length) : curL k (j + 1) k ys = (curL k j k ys).set j (UInt8.ofNat (markN k j)) := by
  unfold curL
  rw [if_neg (by omega), if_pos rfl, if_neg (by omega), if_pos rfl]
  have hl : (marksL k ys.length).length = ys.length := by simp [marksL]
  have h1 : (marksL k ys.length).take (j + 1) = (marksL k ys.length).take j ++ [UInt8.ofNat (markN k j)] := by
    rw [List.take_succ_eq_append_getElem (by omega)]
    congr 2
    simp [marksL]
  rw [h1, List.set_append_right _ _ (by rw [List.length_take]; omega), List.length_take, hl, Nat.min_eq_left (by omega), Nat.sub_self, List.drop_eq_getElem_cons hj, List.set_cons_zero, List.append_assoc]
  rfl
theorem curL_other (k j j2 t : Nat) (ys : List UInt8) (h : t ≠ k) : curL k j t ys = curL k j2 t ys := by
  unfold curL
  rw [if_neg h, if_neg h]
theorem curL_full (k t : Nat) (ys : List UInt8) (n : Nat) (hn : t = k → n = ys.length) : curL k n t ys = curL (k + 1) 0 t ys := by
  unfold curL
  rcases Nat.lt_trichotomy t k with h | h | h
  · rw [if_pos h, if_pos (by omega)]
  · subst h
    rw [if_neg (by omega), if_pos rfl, if_pos (by omega), hn rfl, List.drop_length, List.append_nil, List.take_of_length_le (by simp [marksL])]
  · rw [if_neg (by omega), if_neg (by omega), if_neg (by omega)]
    split
    · simp
    · rfl
theorem length_curL (k j t : Nat) (ys : List UInt8) (hj : j ≤ ys.length) : (curL k j t ys).length = ys.length := by
  unfold curL
  repeat' split
  · simp [marksL]
  · rw [List.length_append, List.length_take, List.length_drop, show (marksL t ys.length).length = ys.length by simp [marksL]]; omega
  · rfl
theorem tailL_next (i k : Nat) : tailL i (k + 1) = tailL i k ++ [UInt8.ofNat (255 - markN i k)] := by
  unfold tailL
  rw [List.range_succ, List.map_append]
  rfl
theorem bv_tail (i j : Nat) : bv (UInt8.ofNat (255 - markN i j)) = .int .u8 (255 - (markN i j : Int)) := by
  have := markN_lt i j
  unfold bv
  rw [toNat_ofNat8, Nat.mod_eq_of_lt (by omega)]
  congr 1
  omega
theorem length_marksL (i n : Nat) : (marksL i n).length = n := by simp [marksL]
theorem length_tailL (i n : Nat) : (tailL i n).length = n := by simp [tailL]
end Go.Proofs.Ytefaapcekbgjoaa
