/- Contracts of the laws' Lend and Back, which lend bytes with marks behind them. -/
import Derived.Test.YtmmdkpnoncnjnaaCmp
import Derived.Test.YtmmdkpnoncnjnaaBaseB
namespace Go.Proofs.Ytmmdkpnoncnjnaa
open Go.RowKit

/-- The cells of lent bytes when k of M marks are written. -/
def lentL (ys : List UInt8) (k M : Nat) : List Value := ys.map bv ++ (List.replicate k (bv 169) ++ List.replicate (M - k) (bv 0))
theorem length_lentL (ys : List UInt8) (k M : Nat) (h : k ≤ M) : (lentL ys k M).length = ys.length + M := by
  simp only [lentL, List.length_append, List.length_map, List.length_replicate]; omega
theorem set_lentL (ys : List UInt8) (k M : Nat) (h : k < M) : (lentL ys k M).set (ys.length + k) (bv 169) = lentL ys (k + 1) M := by
  obtain ⟨m, hm⟩ : ∃ m, M - k = m + 1 := ⟨M - k - 1, by omega⟩
  have hm' : M - (k + 1) = m := by omega
  unfold lentL
  rw [hm, hm', List.set_append_right _ _ (by simp), List.set_append_right _ _ (by simp)]
  simp only [List.length_map, List.length_replicate, Nat.add_sub_cancel_left, Nat.sub_self, List.replicate_succ, List.set_cons_zero]
  congr 1
  have e : List.replicate k (bv 169) ++ [bv 169] = bv 169 :: List.replicate k (bv 169) := by rw [← List.replicate_succ', List.replicate_succ]
  rw [← e, List.append_assoc]
  rfl
theorem splice_zeros (ys : List UInt8) (M : Nat) : splice (List.replicate (ys.length + M) (bv 0)) 0 (ys.map bv) = lentL ys 0 M := by
  unfold splice lentL
  simp

/-- What was lent: a new block, the bytes and M marks. -/
def LendPost (M : Nat) (w : World) (ys : List UInt8) (e : Ending) (w' : World) : Prop :=
  ∃ g, e = .returned (.slice (some ⟨g, 0, none⟩) ys.length (ys.length + M)) ∧ Blk w' g 5 (lentL ys M M).toArray ∧ w.heap.size ≤ g ∧ Below w.heap.size w w'

theorem byte_size : (Try.prog.info? 5).map (·.size) = some 1 := by kernel_rfl
end Go.Proofs.Ytmmdkpnoncnjnaa
