/- The law's lend of bytes (chapter 12's). -/
import Derived.Test.YtcmpmhlcfalbhaaRdK
import Derived.Test.YtcmpmhlcfalbhaaRefK
namespace Go.Proofs.Ytcmpmhlcfalbhaa
open Go.RowKit

/-- What is lentP, while the spare room is marked up to k. -/
def lendPL (bs : List UInt8) (k : Nat) : List UInt8 := bs ++ (List.replicate (k - bs.length) 0xC9 ++ List.replicate (bs.length + 5 - k) 0)
theorem length_lendP (bs : List UInt8) (k : Nat) (h1 : bs.length ≤ k) (h2 : k ≤ bs.length + 5) : (lendPL bs k).length = bs.length + 5 := by
  simp only [lendPL, List.length_append, List.length_replicate]; omega
theorem lend_setP (bs : List UInt8) (k : Nat) (h1 : bs.length ≤ k) (h2 : k < bs.length + 5) : (lendPL bs k).set k 0xC9 = lendPL bs (k + 1) := by
  unfold lendPL
  obtain ⟨m, hm⟩ : ∃ m, bs.length + 5 - k = m + 1 := ⟨bs.length + 4 - k, by omega⟩
  have hm2 : bs.length + 5 - (k + 1) = m := by omega
  rw [List.set_append_right _ _ h1, List.set_append_right _ _ (by rw [List.length_replicate]; omega), List.length_replicate, Nat.sub_self, hm, hm2, List.replicate_succ, List.set_cons_zero,
    show k + 1 - bs.length = (k - bs.length) + 1 from by omega, List.replicate_succ', List.append_assoc]
  rfl
/-- What is lentP in the end. -/
def lentP (bs : List UInt8) : List UInt8 := bs ++ List.replicate 5 0xC9
theorem lend_doneP (bs : List UInt8) : lendPL bs (bs.length + 5) = lentP bs := by
  unfold lendPL lentP
  rw [Nat.sub_self, List.replicate_zero, List.append_nil, show bs.length + 5 - bs.length = 5 from by omega]
end Go.Proofs.Ytcmpmhlcfalbhaa
