/- A slice of things, and a slice of bytes with its room, opened. -/
import Derived.Test.YtadnjfoinmeloaaOpenPrg
import Derived.Test.YtadnjfoinmeloaaRefK
namespace Go.Proofs.Ytadnjfoinmeloaa
open Go.ChangeShapes Go.WideShapes Go.ChangeAt Go.RowKit

theorem item_fields : (Try.prog.underlying 66).map (fun d => match d with | .struct fs => fs.toList.map (fun f => (f.type, f.offset)) | _ => []) = some [(3, 0), (3, 1), (22, 2)] := by kernel_rfl
theorem cells_item : Try.prog.cellsOf 66 = 3 := by kernel_rfl
section
variable {H : Type} {enc : TypeId × Value → H} {w : World} {base : Nat} {spare : Nat → Bool} {held : Bool}
set_option maxRecDepth 100000 in
theorem arg_bytesC {r : Reach} {b : Nat} {v : Value} {d : DataW H} {ps : List MemPlace}
    (hv : Value.okWide Try.prog w r b 22 v) (h : DataW.Trod enc Try.prog w base spare held 22 v d ps) (hw : Wt Try.prog 22 d) :
    ∃ (A : Option Addr) (c : Nat) (ys : List UInt8), v = .slice A ys.length c ∧ Sl w ⟨A, c, ys⟩ ∧ (ys.length ≤ 140737488351232 ∧ ys.length ≤ c) := by
  obtain ⟨p, rfl, hs, hl, hc⟩ := arg_bytes Try.underlying22 Try.underlying5 cells_byte bytes_byte hv h hw
  exact ⟨p.A, p.c, p.ys, rfl, hs, hl, hc⟩
theorem open_item {fuel : Nat} {cs : List Value} {x : DataW H × List MemPlace} (h : DataW.trod enc Try.prog w base spare held fuel 66 cs = some x) (hw : Wt Try.prog 66 x.1) :
    ∃ y : Item, cs = itemCells y ∧ (Sl w y.p ∧ y.ok) := by
  obtain ⟨hlen, n, hf⟩ := open_fields item_fields (by simp) h hw
  rw [cells_item] at hlen
  obtain ⟨a, b, c, rfl⟩ := three_of cs hlen
  obtain ⟨y0, h0, _⟩ := hf 0 _ _ rfl
  obtain ⟨y1, h1, _⟩ := hf 1 _ _ rfl
  obtain ⟨y2, h2, w2⟩ := hf 2 _ _ rfl
  rw [cells_int] at h0 h1
  rw [cells_bytes] at h2
  obtain ⟨k, e0, _, wk⟩ := DataW.trod_int Try.underlying3 h0
  obtain ⟨m, e1, _, wm⟩ := DataW.trod_int Try.underlying3 h1
  obtain ⟨p, e2, hs, hl, _⟩ := open_bytesOf Try.underlying22 Try.underlying5 cells_byte bytes_byte h2 w2
  simp only [List.drop_zero, List.take_succ_cons, List.take_zero, List.cons.injEq, and_true, List.drop_succ_cons] at e0 e1 e2
  subst e0 e1 e2
  have bk := bounds_i64 wk
  have bm := bounds_i64 wm
  exact ⟨⟨k, m, p⟩, rfl, hs, ⟨bk.1, bk.2, bm.1, bm.2, by show p.ys.length ≤ _; omega⟩⟩

theorem open_items {fuel : Nat} {cs : List Value} {x : DataW H × List MemPlace} (h : DataW.trod enc Try.prog w base spare held fuel 37 cs = some x) (hw : Wt Try.prog 37 x.1) :
    ∃ (A : Option Addr) (c : Nat) (its : List Item), cs = [.slice A its.length c] ∧ Items w A its ∧ its.length ≤ 9223372036854775807 := by
  obtain ⟨A, c, its, rfl, hrv, _, hlc, hcm, _, hg⟩ := open_sliceOf itemCells (fun y => Sl w y.p ∧ y.ok) Try.underlying37 cells_item (by decide) (fun fuel cs x hx hw => open_item hx hw) h hw
  exact ⟨A, c, its, rfl, ⟨hrv, fun y hy => (hg y hy).1, fun y hy => (hg y hy).2⟩, by simp only [maxLen] at hcm; omega⟩
set_option maxRecDepth 100000 in
theorem arg_items {r : Reach} {b : Nat} {v : Value} {d : DataW H} {ps : List MemPlace}
    (hv : Value.okWide Try.prog w r b 37 v) (h : DataW.Trod enc Try.prog w base spare held 37 v d ps) (hw : Wt Try.prog 37 d) :
    ∃ (A : Option Addr) (c : Nat) (its : List Item), v = .slice A its.length c ∧ Items w A its ∧ its.length ≤ 9223372036854775807 := by
  have hf := arg_of Try.underlying37 hv h
  obtain ⟨fuel, hf⟩ := hf
  obtain ⟨A, c', its, e1, h1⟩ := open_items hf hw
  exact ⟨A, c', its, (List.cons.inj e1).1, h1⟩
end
end Go.Proofs.Ytadnjfoinmeloaa
