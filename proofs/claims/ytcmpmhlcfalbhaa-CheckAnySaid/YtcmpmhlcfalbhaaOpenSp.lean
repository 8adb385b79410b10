/- A list of spots as an argument (a spot's two numbers as those of an instruction). -/
import Derived.Test.YtcmpmhlcfalbhaaOpenK
namespace Go.Proofs.Ytcmpmhlcfalbhaa
open Go.ChangeShapes Go.WideShapes Go.ChangeAt Go.RowKit

theorem spot_fields : (Try.prog.underlying 35).map (fun d => match d with | .struct fs => fs.toList.map (fun f => (f.type, f.offset)) | _ => []) = some [(3, 0), (3, 1)] := by kernel_rfl
theorem cells_spot : Try.prog.cellsOf 35 = 2 := by kernel_rfl
section
variable {H : Type} {enc : TypeId × Value → H} {w : World} {base : Nat} {spare : Nat → Bool} {held : Bool}
theorem open_spot {fuel : Nat} {cs : List Value} {x : DataW H × List MemPlace} (h : DataW.trod enc Try.prog w base spare held fuel 35 cs = some x) (hw : Wt Try.prog 35 x.1) :
    ∃ y : Ins, cs = insCells y ∧ InsOk y := by
  obtain ⟨hlen, n, hf⟩ := open_fields spot_fields (by simp) h hw
  rw [cells_spot] at hlen
  obtain ⟨a, b, rfl⟩ := two_of cs hlen
  obtain ⟨y0, h0, _⟩ := hf 0 _ _ rfl
  obtain ⟨y1, h1, _⟩ := hf 1 _ _ rfl
  rw [cells_int] at h0 h1
  obtain ⟨k, e0, _, wk⟩ := DataW.trod_int Try.underlying3 h0
  obtain ⟨m, e1, _, wm⟩ := DataW.trod_int Try.underlying3 h1
  simp only [List.drop_zero, List.take_succ_cons, List.take_zero, List.cons.injEq, and_true, List.drop_succ_cons] at e0 e1
  subst e0 e1
  have bk := bounds_i64 wk
  have bm := bounds_i64 wm
  exact ⟨⟨k, m⟩, rfl, ⟨bk.1, bk.2, bm.1, bm.2⟩⟩
set_option maxRecDepth 100000 in
theorem arg_spots {r : Reach} {b : Nat} {v : Value} {d : DataW H} {ps : List MemPlace}
    (hv : Value.okWide Try.prog w r b 48 v) (h : DataW.Trod enc Try.prog w base spare held 48 v d ps) (hw : Wt Try.prog 48 d) :
    ∃ (A : Option Addr) (c : Nat) (l : List Ins), v = .slice A l.length c ∧ (RV w A (l.flatMap insCells) ∧ (∀ i ∈ l, InsOk i) ∧ (A = none → l.length = 0 ∧ c = 0)) ∧ l.length ≤ 8796093021952 := by
  have hf := arg_of Try.underlying48 hv h
  obtain ⟨fuel, hf⟩ := hf
  obtain ⟨A, c', ys, e1, hrv, hnil, hlc, hcm, hb, hg⟩ := open_sliceOf insCells InsOk Try.underlying48 cells_spot (by decide) (fun fuel cs x hx hw => open_spot hx hw) hf hw
  rw [show Try.prog.bytesOf 35 = 16 from by kernel_rfl] at hb
  have hb2 : ys.length ≤ 8796093021952 := by
    have h3 : ys.length * 16 ≤ 140737488351232 := hb
    omega
  exact ⟨A, c', ys, (List.cons.inj e1).1, ⟨hrv, hg, hnil⟩, hb2⟩
end
end Go.Proofs.Ytcmpmhlcfalbhaa
