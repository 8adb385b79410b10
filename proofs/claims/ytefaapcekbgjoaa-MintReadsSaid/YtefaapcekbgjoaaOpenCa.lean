/- A script of calls as an argument. -/
import Derived.Test.YtefaapcekbgjoaaOpenK
import Derived.Test.YtefaapcekbgjoaaMrPl
namespace Go.Proofs.Ytefaapcekbgjoaa
open Go.ChangeShapes Go.WideShapes Go.ChangeAt Go.RowKit

theorem call_fields : (Try.prog.underlying 111).map (fun d => match d with | .struct fs => fs.toList.map (fun f => (f.type, f.offset)) | _ => []) = some [(3, 0), (3, 1), (3, 2), (22, 3)] := by kernel_rfl
theorem cells_call : Try.prog.cellsOf 111 = 4 := by kernel_rfl
theorem four_of {α : Type} (l : List α) (h : l.length = 4) : ∃ a b c d, l = [a, b, c, d] := by
  match l, h with
  | [a, b, c, d], _ => exact ⟨a, b, c, d, rfl⟩
theorem zip_maps {α β : Type} (l : List (α × β)) : (l.map Prod.fst).zip (l.map Prod.snd) = l := by
  induction l with
  | nil => rfl
  | cons y l ih => rw [List.map_cons, List.map_cons, List.zip_cons_cons, ih]
section
variable {H : Type} {enc : TypeId × Value → H} {w : World} {base : Nat} {spare : Nat → Bool} {held : Bool}
theorem open_call {fuel : Nat} {cs : List Value} {x : DataW H × List MemPlace} (h : DataW.trod enc Try.prog w base spare held fuel 111 cs = some x) (hw : Wt Try.prog 111 x.1) :
    ∃ y : PCall × (Option Addr × Nat), cs = callCells y.1 y.2 ∧ (Sl w ⟨y.2.1, y.2.2, y.1.b⟩ ∧ y.1.b.length ≤ 140737488351232 ∧ y.1.b.length ≤ y.2.2) := by
  obtain ⟨hlen, n, hf⟩ := open_fields call_fields (by simp) h hw
  rw [cells_call] at hlen
  obtain ⟨a, b, c, d, rfl⟩ := four_of cs hlen
  obtain ⟨y0, h0, _⟩ := hf 0 _ _ rfl
  obtain ⟨y1, h1, _⟩ := hf 1 _ _ rfl
  obtain ⟨y2, h2, _⟩ := hf 2 _ _ rfl
  obtain ⟨y3, h3, w3⟩ := hf 3 _ _ rfl
  rw [cells_int] at h0 h1 h2
  rw [cells_bytes] at h3
  obtain ⟨k, e0, _, _⟩ := DataW.trod_int Try.underlying3 h0
  obtain ⟨m, e1, _, _⟩ := DataW.trod_int Try.underlying3 h1
  obtain ⟨o, e2, _, _⟩ := DataW.trod_int Try.underlying3 h2
  obtain ⟨p, e3, hs, hl, hc⟩ := open_bytesOf Try.underlying22 Try.underlying5 cells_byte bytes_byte h3 w3
  simp only [List.drop_zero, List.take_succ_cons, List.take_zero, List.cons.injEq, and_true, List.drop_succ_cons] at e0 e1 e2 e3
  subst e0 e1 e2 e3
  exact ⟨(⟨k, m, o, p.ys⟩, (p.A, p.c)), rfl, hs, hl, hc⟩
set_option maxRecDepth 100000 in
theorem arg_calls {r : Reach} {b : Nat} {v : Value} {d : DataW H} {ps : List MemPlace}
    (hv : Value.okWide Try.prog w r b 53 v) (h : DataW.Trod enc Try.prog w base spare held 53 v d ps) (hw : Wt Try.prog 53 d) :
    ∃ (A : Option Addr) (c : Nat) (L : List PCall), v = .slice A L.length c ∧ CallsR w w.heap.size A L ∧ L.length ≤ 140737488351232 := by
  have hf := arg_of Try.underlying53 hv h
  obtain ⟨fuel, hf⟩ := hf
  obtain ⟨A, c', ys, e1, hrv, hnil, hlc, hcm, hb, hg⟩ := open_sliceOf (fun y : PCall × (Option Addr × Nat) => callCells y.1 y.2) (fun y => Sl w ⟨y.2.1, y.2.2, y.1.b⟩ ∧ y.1.b.length ≤ 140737488351232 ∧ y.1.b.length ≤ y.2.2) Try.underlying53 cells_call (by decide) (fun fuel cs x hx hw => open_call hx hw) hf hw
  rw [show Try.prog.bytesOf 111 = 48 from by kernel_rfl] at hb
  have hb2 : ys.length ≤ 140737488351232 := by
    have h3 : ys.length * 48 ≤ 140737488351232 := hb
    omega
  have hz := zip_maps ys
  refine ⟨A, c', ys.map Prod.fst, by rw [List.length_map]; exact (List.cons.inj e1).1, ⟨ys.map Prod.snd, by rw [List.length_map, List.length_map], by rw [hz]; exact hrv, fun h0 b o e => ?_, fun i c t h1 h2 => ?_⟩, by rw [List.length_map]; exact hb2⟩
  · rw [List.length_map] at h0
    obtain ⟨y, ys, rfl⟩ := List.exists_cons_of_length_pos h0
    obtain ⟨b2, off, rfl, hb2, -⟩ := hrv.at_ (by rw [List.flatMap_cons, List.length_append]; show 0 < 4 + _; omega)
    injection e with e
    injection e with e _
    omega
  · rw [List.getElem?_map] at h1 h2
    obtain ⟨y, hy, rfl⟩ := Option.map_eq_some_iff.1 h1
    rw [hy] at h2
    injection h2 with h2
    subst h2
    obtain ⟨h3, h4, h5⟩ := hg y (List.mem_of_getElem? hy)
    refine ⟨h3, ⟨h4, h5⟩, fun h0 b o e => ?_⟩
    obtain ⟨b2, off, e2, hb2, -⟩ := h3.rv.at_ (by rw [List.length_map]; exact h0)
    dsimp only at e2
    rw [e] at e2
    injection e2 with e2
    injection e2 with e2 _
    omega
set_option maxRecDepth 100000 in
theorem arg_bytesR {r : Reach} {b : Nat} {v : Value} {d : DataW H} {ps : List MemPlace}
    (hv : Value.okWide Try.prog w r b 22 v) (h : DataW.Trod enc Try.prog w base spare held 22 v d ps) (hw : Wt Try.prog 22 d) :
    ∃ (A : Option Addr) (c : Nat) (ys : List UInt8), v = .slice A ys.length c ∧ Sl w ⟨A, c, ys⟩ ∧ ys.length ≤ 140737488351232 ∧ ys.length ≤ c := by
  obtain ⟨p, rfl, hs, hl, hc⟩ := arg_bytes Try.underlying22 Try.underlying5 cells_byte bytes_byte hv h hw
  exact ⟨p.A, p.c, p.ys, rfl, hs, hl, hc⟩
end
end Go.Proofs.Ytefaapcekbgjoaa
