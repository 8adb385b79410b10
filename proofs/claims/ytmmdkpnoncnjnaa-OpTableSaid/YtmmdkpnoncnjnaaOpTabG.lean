/- The tables' names: each is its row's. -/
import Derived.Test.YtmmdkpnoncnjnaaOpK
namespace Go.Proofs.Ytmmdkpnoncnjnaa
open Go.RowKit

theorem toList_mk (l : List UInt8) : (ByteArray.mk l.toArray).toList = l := by rw [ByteArray.toList_eq]
def tabNamed (t : List (List UInt8 × Int × Int × Int)) : Bool := (List.range t.length).all fun i =>
  match t[i]? with
  | none => false
  | some r => placeFrom r.1 t 0 == ((i : Int), true)
theorem tab_named (t : List (List UInt8 × Int × Int × Int)) (h : tabNamed t = true) (j : Int) (hj : (rowAt t j).2 = true) : placeFrom (rowAt t j).1.1 t 0 = (j, true) := by
  unfold rowAt at hj ⊢
  split at hj
  · rename_i h0
    rw [if_pos h0]
    cases hr : t[j.toNat]? with
    | none => rw [hr] at hj; cases hj
    | some r =>
      have hl := (List.getElem?_eq_some_iff.1 hr).1
      simp only [tabNamed, List.all_eq_true, List.mem_range] at h
      have h1 := h j.toNat hl
      rw [hr] at h1
      dsimp only at h1 ⊢
      have h2 : placeFrom r.1 t 0 = ((j.toNat : Int), true) := by simpa using h1
      rw [h2, Int.toNat_of_nonneg h0]
  · cases hj
theorem shape_named : tabNamed shapeTab = true := by decide +kernel
theorem call_named : tabNamed callTab = true := by decide +kernel
end Go.Proofs.Ytmmdkpnoncnjnaa
