/- A slice of things, opened. -/
import Derived.Test.YtefaapcekbgjoaaOpen
namespace Go.Proofs.Ytefaapcekbgjoaa
open Go.ChangeShapes Go.WideShapes Go.ChangeAt Go.RowKit

theorem item_fields : (Try.prog.underlying 30).map (fun d => match d with | .struct fs => fs.toList.map (fun f => (f.type, f.offset)) | _ => []) = some [(3, 0), (3, 1), (22, 2)] := by kernel_rfl
theorem cells_int : Try.prog.cellsOf 3 = 1 := by kernel_rfl
theorem cells_byte : Try.prog.cellsOf 5 = 1 := by kernel_rfl
theorem bytes_byte : Try.prog.bytesOf 5 = 1 := by kernel_rfl
theorem cells_bytes : Try.prog.cellsOf 22 = 1 := by kernel_rfl
theorem cells_item : Try.prog.cellsOf 30 = 3 := by kernel_rfl

theorem three_of {α : Type} (l : List α) (h : l.length = 3) : ∃ a b c, l = [a, b, c] := by
  match l, h with
  | [a, b, c], _ => exact ⟨a, b, c, rfl⟩

section
variable {H : Type} {enc : TypeId × Value → H} {w : World} {base : Nat} {spare : Nat → Bool} {held : Bool}
theorem fields_of {P : Program} {t : TypeId} {l : List (TypeId × Nat)} (h : (P.underlying t).map (fun d => match d with | .struct fs => fs.toList.map (fun f => (f.type, f.offset)) | _ => []) = some l) (hl : l ≠ []) :
    ∃ fs : Array Field, P.underlying t = some (.struct fs) ∧ fs.toList.map (fun f => (f.type, f.offset)) = l := by
  obtain ⟨d, hd, h1⟩ := Option.map_eq_some_iff.1 h
  cases d <;> first | exact ⟨_, hd, h1⟩ | exact absurd h1.symm hl
/-- A struct opened, field by field. -/
theorem open_fields {P : Program} {t : TypeId} {l : List (TypeId × Nat)} (hu : (P.underlying t).map (fun d => match d with | .struct fs => fs.toList.map (fun f => (f.type, f.offset)) | _ => []) = some l) (hl : l ≠ [])
    {fuel : Nat} {cs : List Value} {x : DataW H × List MemPlace} (h : DataW.trod enc P w base spare held fuel t cs = some x) (hw : Wt P t x.1) :
    cs.length = P.cellsOf t ∧ ∃ (n : Nat), ∀ (i : Nat) (ft : TypeId) (o : Nat), l[i]? = some (ft, o) → ∃ y, DataW.trod enc P w base spare held n ft ((cs.drop o).take (P.cellsOf ft)) = some y ∧ Wt P ft y.1 := by
  obtain ⟨fs, hfs, hfl⟩ := fields_of hu hl
  obtain ⟨xs, n, _, rfl, hlen, hxl, hx⟩ := DataW.trod_struct hfs h
  refine ⟨hlen, n, fun i ft o hi => ?_⟩
  rw [← hfl, List.getElem?_map] at hi
  obtain ⟨f, hf, hfe⟩ := Option.map_eq_some_iff.1 hi
  injection hfe with e1 e2
  subst e1 e2
  have hf' : fs[i]? = some f := by simpa using hf
  have hxi := hx i f hf'
  have hi' : i < xs.length := by rw [hxl]; exact (Array.getElem?_eq_some_iff.1 hf').1
  rw [List.getElem?_eq_getElem hi'] at hxi
  refine ⟨xs[i], hxi, fun m hm => ?_⟩
  have hall := wt_struct hfs hw
  have hmem := DataW.weights_mem_each (P := P) (ts := fs.toList.map (·.type)) (ds := xs.map (·.1)) (j := i) (t := f.type) (d := xs[i].1) (by rw [List.getElem?_map, hf]; rfl) (by rw [List.getElem?_map, List.getElem?_eq_getElem hi']; rfl) m hm
  have := List.all_eq_true.1 hall m hmem
  simpa using this

theorem open_item {fuel : Nat} {cs : List Value} {x : DataW H × List MemPlace} (h : DataW.trod enc Try.prog w base spare held fuel 30 cs = some x) (hw : Wt Try.prog 30 x.1) :
    ∃ y : Item, cs = itemCells y ∧ (Sl w y.p ∧ y.ok) := by
  obtain ⟨hlen, n, hf⟩ := open_fields item_fields (by simp) h hw
  rw [cells_item] at hlen
  obtain ⟨a, b, c, rfl⟩ := three_of cs hlen
  obtain ⟨y0, h0, _⟩ := hf 0 _ _ rfl
  obtain ⟨y1, h1, _⟩ := hf 1 _ _ rfl
  obtain ⟨y2, h2, w2⟩ := hf 2 _ _ rfl
  rw [cells_int] at h0 h1
  rw [cells_bytes] at h2
  obtain ⟨k, e0, _, wk⟩ := DataW.trod_int Try.underlying3 h0
  obtain ⟨m, e1, _, wm⟩ := DataW.trod_int Try.underlying3 h1
  obtain ⟨p, e2, hs, hl, _⟩ := open_bytesOf Try.underlying22 Try.underlying5 cells_byte bytes_byte h2 w2
  simp only [List.drop_zero, List.take_succ_cons, List.take_zero, List.cons.injEq, and_true, List.drop_succ_cons] at e0 e1 e2
  subst e0 e1 e2
  have bk := bounds_i64 wk
  have bm := bounds_i64 wm
  exact ⟨⟨k, m, p⟩, rfl, hs, ⟨bk.1, bk.2, bm.1, bm.2, by show p.ys.length ≤ _; omega⟩⟩

theorem open_items {fuel : Nat} {cs : List Value} {x : DataW H × List MemPlace} (h : DataW.trod enc Try.prog w base spare held fuel 26 cs = some x) (hw : Wt Try.prog 26 x.1) :
    ∃ (A : Option Addr) (c : Nat) (its : List Item), cs = [.slice A its.length c] ∧ Items w A its ∧ its.length ≤ 9223372036854775807 := by
  obtain ⟨A, c, its, rfl, hrv, _, hlc, hcm, _, hg⟩ := open_sliceOf itemCells (fun y => Sl w y.p ∧ y.ok) Try.underlying26 cells_item (by decide) (fun fuel cs x hx hw => open_item hx hw) h hw
  exact ⟨A, c, its, rfl, ⟨hrv, fun y hy => (hg y hy).1, fun y hy => (hg y hy).2⟩, by simp only [maxLen] at hcm; omega⟩
set_option maxRecDepth 100000 in
theorem arg_items {r : Reach} {b : Nat} {v : Value} {d : DataW H} {ps : List MemPlace}
    (hv : Value.okWide Try.prog w r b 26 v) (h : DataW.Trod enc Try.prog w base spare held 26 v d ps) (hw : Wt Try.prog 26 d) :
    ∃ (A : Option Addr) (c : Nat) (its : List Item), v = .slice A its.length c ∧ Items w A its ∧ its.length ≤ 9223372036854775807 := by
  have hf := arg_of Try.underlying26 hv h
  obtain ⟨fuel, hf⟩ := hf
  obtain ⟨A, c', its, e1, h1⟩ := open_items hf hw
  exact ⟨A, c', its, (List.cons.inj e1).1, h1⟩
end
end Go.Proofs.Ytefaapcekbgjoaa
