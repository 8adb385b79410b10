/- A slice of bytes of the call, opened. -/
import Derived.Test.YtefaapcekbgjoaaOpenItems
namespace Go.Proofs.Ytefaapcekbgjoaa
open Go.ChangeShapes Go.WideShapes Go.ChangeAt Go.RowKit

section
variable {H : Type} {enc : TypeId × Value → H} {w : World} {base : Nat} {spare : Nat → Bool} {held : Bool}
set_option maxRecDepth 100000 in
theorem arg_bytesI {r : Reach} {b : Nat} {v : Value} {d : DataW H} {ps : List MemPlace}
    (hv : Value.okWide Try.prog w r b 22 v) (h : DataW.Trod enc Try.prog w base spare held 22 v d ps) (hw : Wt Try.prog 22 d) :
    ∃ (A : Option Addr) (c : Nat) (ys : List UInt8), v = .slice A ys.length c ∧ Sl w ⟨A, c, ys⟩ ∧ ys.length ≤ 140737488351232 := by
  obtain ⟨p, rfl, hs, hl, _⟩ := arg_bytes Try.underlying22 Try.underlying5 cells_byte bytes_byte hv h hw
  exact ⟨p.A, p.c, p.ys, rfl, hs, hl⟩
end
end Go.Proofs.Ytefaapcekbgjoaa
