/- A slice of ints, opened (beside OpenIns). -/
import Derived.Test.YtcmpmhlcfalbhaaOpenK
namespace Go.Proofs.Ytcmpmhlcfalbhaa
open Go.ChangeShapes Go.WideShapes Go.ChangeAt Go.RowKit

theorem flat_intsI (l : List Int) : l.flatMap (fun n => [Value.int .i64 n]) = l.map (.int .i64) := by
  induction l with
  | nil => rfl
  | cons y l ih => rw [List.flatMap_cons, ih]; rfl
section
variable {H : Type} {enc : TypeId × Value → H} {w : World} {base : Nat} {spare : Nat → Bool} {held : Bool}
set_option maxRecDepth 100000 in
theorem arg_intsI {r : Reach} {b : Nat} {v : Value} {d : DataW H} {ps : List MemPlace}
    (hv : Value.okWide Try.prog w r b 29 v) (h : DataW.Trod enc Try.prog w base spare held 29 v d ps) (hw : Wt Try.prog 29 d) :
    ∃ (A : Option Addr) (c : Nat) (ts : List Int), v = .slice A ts.length c ∧ RV w A (ts.map (.int .i64)) ∧ ts.length ≤ 9223372036854775807 := by
  have hf := arg_of Try.underlying29 hv h
  obtain ⟨fuel, hf⟩ := hf
  obtain ⟨A, c', ts, e1, hrv, _, hlc, hcm, _, _⟩ := open_sliceOf (fun n : Int => [Value.int .i64 n]) (fun _ => True) Try.underlying29 cells_int (by decide) (fun fuel cs x hx _ => by
    obtain ⟨n, hn, _, _⟩ := DataW.trod_int Try.underlying3 hx
    exact ⟨n, hn, trivial⟩) hf hw
  refine ⟨A, c', ts, (List.cons.inj e1).1, ?_, by simp only [maxLen] at hcm; omega⟩
  rw [flat_intsI] at hrv
  exact hrv
end
end Go.Proofs.Ytcmpmhlcfalbhaa
