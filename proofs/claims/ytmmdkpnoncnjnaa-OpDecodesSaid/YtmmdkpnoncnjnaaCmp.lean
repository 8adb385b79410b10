/- Contracts of the laws' own comparisons of bytes: Same. -/
import Derived.Test.YtmmdkpnoncnjnaaMintD
namespace Go.Proofs.Ytmmdkpnoncnjnaa
open Go.RowKit

/-- The call handed back v; it drew answers, and turned nothing else. -/
def QuietRet (w : World) (v : Value) (e : Ending) (w' : World) : Prop := e = .returned v ∧ ∃ n, w' = w.drewN n
theorem RV.byte {w : World} {A : Option Addr} {ys : List UInt8} (h : RV w A (ys.map bv)) {k : Nat} (hk : k < ys.length) :
    ∃ b off, A = some ⟨b, off, none⟩ ∧ b < w.heap.size ∧ w.cell? ⟨b, off + k, none⟩ = some (.int .u8 (ys[k].toNat : Int)) := by
  obtain ⟨b, off, hA, hb, hc⟩ := h.at_ (by rw [List.length_map]; omega)
  exact ⟨b, off, hA, hb, hc k (bv ys[k]) (by rw [List.getElem?_map, List.getElem?_eq_getElem hk]; rfl)⟩
theorem take_eq_step {α : Type} (xs ys : List α) (k : Nat) (hx : k < xs.length) (hy : k < ys.length) (h : xs.take k = ys.take k) (he : xs[k] = ys[k]) : xs.take (k + 1) = ys.take (k + 1) := by
  rw [List.take_succ_eq_append_getElem hx, List.take_succ_eq_append_getElem hy, h, he]

end Go.Proofs.Ytmmdkpnoncnjnaa
