/- A list of lists of bytes that came in, opened. -/
import Derived.Test.YtmlkfkpffbbfaaaOpenB
import Derived.Test.YtmlkfkpffbbfaaaRfA
namespace Go.Proofs.Ytmlkfkpffbbfaaa
open Go.ChangeShapes Go.WideShapes Go.ChangeAt Go.RowKit

/-- A slice of bytes: where, how much room, what it reads as. -/
structure PartB where
  A : Option Addr
  c : Nat
  ys : List UInt8
def PartB.cells (p : PartB) : List Value := [.slice p.A p.ys.length p.c]
theorem parts_at (ps : List PartB) (i : Nat) (h : i < ps.length) : (ps.flatMap PartB.cells)[i]? = some (.slice ps[i].A ps[i].ys.length ps[i].c) := by
  induction ps generalizing i with
  | nil => cases h
  | cons p l ih =>
    cases i with
    | zero => rfl
    | succ i =>
      rw [List.flatMap_cons]
      simp only [PartB.cells, List.cons_append, List.nil_append, List.getElem?_cons_succ]
      exact ih i (by simpa using h)
theorem length_partCells (ps : List PartB) : (ps.flatMap PartB.cells).length = ps.length := by
  induction ps with
  | nil => rfl
  | cons p l ih => rw [List.flatMap_cons, List.length_append, ih, List.length_cons]; simp [PartB.cells]; omega
section
variable {H : Type} {enc : TypeId × Value → H} {w : World} {base : Nat} {spare : Nat → Bool} {held : Bool}
def GoodP (w : World) (p : PartB) : Prop := RV w p.A (p.ys.map bv) ∧ (p.A = none → p.ys.length = 0 ∧ p.c = 0) ∧ p.ys.length ≤ p.c ∧ p.c ≤ maxLen ∧ p.ys.length ≤ 140737488351232
theorem open_part {fuel : Nat} {cs : List Value} {x : DataW H × List MemPlace} (h : DataW.trod enc Try.prog w base spare held fuel 25 cs = some x) (hw : Wt Try.prog 25 x.1) : ∃ y : PartB, cs = y.cells ∧ GoodP w y := by
  obtain ⟨A, c, ys, e1, hrv, hn, hlc, hcm, hb, _⟩ := open_sliceOf (fun u : UInt8 => [bv u]) (fun _ => True) Try.underlying25 (show Try.prog.cellsOf 5 = 1 from by kernel_rfl) (by decide) (fun fuel cs x hx _ => by
    obtain ⟨u, hu⟩ := open_byte Try.underlying5 hx
    exact ⟨u, hu, trivial⟩) h hw
  refine ⟨⟨A, c, ys⟩, e1, ?_, hn, hlc, hcm, ?_⟩
  · rw [flat_bv] at hrv
    exact hrv
  · rw [show Try.prog.bytesOf 5 = 1 from by kernel_rfl, Nat.mul_one] at hb
    exact hb
theorem arg_parts {r : Reach} {b : Nat} {v : Value} {d : DataW H} {ps : List MemPlace}
    (hv : Value.okWide Try.prog w r b 22 v) (h : DataW.Trod enc Try.prog w base spare held 22 v d ps) (hw : Wt Try.prog 22 d) :
    ∃ (A : Option Addr) (c : Nat) (ys : List (List UInt8)), v = .slice A ys.length c ∧ PartsN w A ys ∧ ys.length ≤ 5864062014634 := by
  obtain ⟨a, l, c, rfl⟩ := okWide_slice Try.underlying22 hv
  obtain ⟨fuel, hf⟩ := h
  obtain ⟨A, c', ys, e1, hrv, _, hlc, hcm, hb, hg⟩ := open_sliceOf PartB.cells (GoodP w) Try.underlying22 (show Try.prog.cellsOf 25 = 1 from by kernel_rfl) (by decide) (fun fuel cs x hx hw => open_part hx hw) hf hw
  rw [show Try.prog.bytesOf 25 = 24 from by kernel_rfl] at hb
  have hb2 : ys.length ≤ 5864062014634 := by
    have h3 : ys.length * 24 ≤ 140737488351232 := hb
    omega
  refine ⟨A, c', ys.map (·.ys), by simpa [Value.cells] using e1, ⟨ys.flatMap PartB.cells, hrv, by rw [length_partCells, List.length_map], fun i hi => ?_⟩, by rw [List.length_map]; exact hb2⟩
  rw [List.length_map] at hi
  refine ⟨_, parts_at ys i hi, ?_⟩
  obtain ⟨h1, h2, h3, h4, h5⟩ := hg ys[i] (List.getElem_mem hi)
  rw [List.getElem_map]
  exact ⟨_, _, rfl, h1, h3, h4, h2, h5⟩
end
end Go.Proofs.Ytmlkfkpffbbfaaa
