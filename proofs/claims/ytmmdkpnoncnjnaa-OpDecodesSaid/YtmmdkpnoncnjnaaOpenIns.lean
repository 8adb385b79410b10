/- Rows of instructions and of bytes, opened. -/
import Derived.Test.YtmmdkpnoncnjnaaOpen
import Derived.Test.YtmmdkpnoncnjnaaOpEnc
namespace Go.Proofs.Ytmmdkpnoncnjnaa
open Go.ChangeShapes Go.WideShapes Go.ChangeAt Go.RowKit

theorem cells_int : Try.prog.cellsOf 3 = 1 := by kernel_rfl
theorem cells_byte : Try.prog.cellsOf 5 = 1 := by kernel_rfl
theorem bytes_byte : Try.prog.bytesOf 5 = 1 := by kernel_rfl
theorem cells_bytes : Try.prog.cellsOf 32 = 1 := by kernel_rfl
theorem ins_fields : (Try.prog.underlying 48).map (fun d => match d with | .struct fs => fs.toList.map (fun f => (f.type, f.offset)) | _ => []) = some [(3, 0), (3, 1)] := by kernel_rfl
theorem cells_ins : Try.prog.cellsOf 48 = 2 := by kernel_rfl
theorem two_of {α : Type} (l : List α) (h : l.length = 2) : ∃ a b, l = [a, b] := by
  match l, h with
  | [a, b], _ => exact ⟨a, b, rfl⟩
section
variable {H : Type} {enc : TypeId × Value → H} {w : World} {base : Nat} {spare : Nat → Bool} {held : Bool}
theorem fields_of {P : Program} {t : TypeId} {l : List (TypeId × Nat)} (h : (P.underlying t).map (fun d => match d with | .struct fs => fs.toList.map (fun f => (f.type, f.offset)) | _ => []) = some l) (hl : l ≠ []) :
    ∃ fs : Array Field, P.underlying t = some (.struct fs) ∧ fs.toList.map (fun f => (f.type, f.offset)) = l := by
  obtain ⟨d, hd, h1⟩ := Option.map_eq_some_iff.1 h
  cases d <;> first | exact ⟨_, hd, h1⟩ | exact absurd h1.symm hl
/-- A struct opened, field by field. -/
theorem open_fields {P : Program} {t : TypeId} {l : List (TypeId × Nat)} (hu : (P.underlying t).map (fun d => match d with | .struct fs => fs.toList.map (fun f => (f.type, f.offset)) | _ => []) = some l) (hl : l ≠ [])
    {fuel : Nat} {cs : List Value} {x : DataW H × List MemPlace} (h : DataW.trod enc P w base spare held fuel t cs = some x) (hw : Wt P t x.1) :
    cs.length = P.cellsOf t ∧ ∃ (n : Nat), ∀ (i : Nat) (ft : TypeId) (o : Nat), l[i]? = some (ft, o) → ∃ y, DataW.trod enc P w base spare held n ft ((cs.drop o).take (P.cellsOf ft)) = some y ∧ Wt P ft y.1 := by
  obtain ⟨fs, hfs, hfl⟩ := fields_of hu hl
  obtain ⟨xs, n, _, rfl, hlen, hxl, hx⟩ := DataW.trod_struct hfs h
  refine ⟨hlen, n, fun i ft o hi => ?_⟩
  rw [← hfl, List.getElem?_map] at hi
  obtain ⟨f, hf, hfe⟩ := Option.map_eq_some_iff.1 hi
  injection hfe with e1 e2
  subst e1 e2
  have hf' : fs[i]? = some f := by simpa using hf
  have hxi := hx i f hf'
  have hi' : i < xs.length := by rw [hxl]; exact (Array.getElem?_eq_some_iff.1 hf').1
  rw [List.getElem?_eq_getElem hi'] at hxi
  refine ⟨xs[i], hxi, fun m hm => ?_⟩
  have hall := wt_struct hfs hw
  have hmem := DataW.weights_mem_each (P := P) (ts := fs.toList.map (·.type)) (ds := xs.map (·.1)) (j := i) (t := f.type) (d := xs[i].1) (by rw [List.getElem?_map, hf]; rfl) (by rw [List.getElem?_map, List.getElem?_eq_getElem hi']; rfl) m hm
  have := List.all_eq_true.1 hall m hmem
  simpa using this

theorem open_ins {fuel : Nat} {cs : List Value} {x : DataW H × List MemPlace} (h : DataW.trod enc Try.prog w base spare held fuel 48 cs = some x) (hw : Wt Try.prog 48 x.1) :
    ∃ y : Ins, cs = insCells y ∧ InsOk y := by
  obtain ⟨hlen, n, hf⟩ := open_fields ins_fields (by simp) h hw
  rw [cells_ins] at hlen
  obtain ⟨a, b, rfl⟩ := two_of cs hlen
  obtain ⟨y0, h0, _⟩ := hf 0 _ _ rfl
  obtain ⟨y1, h1, _⟩ := hf 1 _ _ rfl
  rw [cells_int] at h0 h1
  obtain ⟨k, e0, _, wk⟩ := DataW.trod_int Try.underlying3 h0
  obtain ⟨m, e1, _, wm⟩ := DataW.trod_int Try.underlying3 h1
  simp only [List.drop_zero, List.take_succ_cons, List.take_zero, List.cons.injEq, and_true, List.drop_succ_cons] at e0 e1
  subst e0 e1
  have bk := bounds_i64 wk
  have bm := bounds_i64 wm
  exact ⟨⟨k, m⟩, rfl, ⟨bk.1, bk.2, bm.1, bm.2⟩⟩
set_option maxRecDepth 100000 in
theorem arg_ins {r : Reach} {b : Nat} {v : Value} {d : DataW H} {ps : List MemPlace}
    (hv : Value.okWide Try.prog w r b 30 v) (h : DataW.Trod enc Try.prog w base spare held 30 v d ps) (hw : Wt Try.prog 30 d) :
    ∃ (A : Option Addr) (c : Nat) (l : List Ins), v = .slice A l.length c ∧ (RV w A (l.flatMap insCells) ∧ ∀ i ∈ l, InsOk i) ∧ l.length ≤ 8796093021952 := by
  have hf := arg_of Try.underlying30 hv h
  obtain ⟨fuel, hf⟩ := hf
  obtain ⟨A, c', ys, e1, hrv, _, hlc, hcm, hb, hg⟩ := open_sliceOf insCells InsOk Try.underlying30 cells_ins (by decide) (fun fuel cs x hx hw => open_ins hx hw) hf hw
  rw [show Try.prog.bytesOf 48 = 16 from by kernel_rfl] at hb
  have hb2 : ys.length ≤ 8796093021952 := by
    have h3 : ys.length * 16 ≤ 140737488351232 := hb
    omega
  exact ⟨A, c', ys, (List.cons.inj e1).1, ⟨hrv, hg⟩, hb2⟩
set_option maxRecDepth 100000 in
theorem arg_bytesI {r : Reach} {b : Nat} {v : Value} {d : DataW H} {ps : List MemPlace}
    (hv : Value.okWide Try.prog w r b 32 v) (h : DataW.Trod enc Try.prog w base spare held 32 v d ps) (hw : Wt Try.prog 32 d) :
    ∃ (A : Option Addr) (c : Nat) (ys : List UInt8), v = .slice A ys.length c ∧ Sl w ⟨A, c, ys⟩ ∧ ys.length ≤ 140737488351232 := by
  obtain ⟨p, rfl, hs, hl, _⟩ := arg_bytes Try.underlying32 Try.underlying5 cells_byte bytes_byte hv h hw
  exact ⟨p.A, p.c, p.ys, rfl, hs, hl⟩
end
end Go.Proofs.Ytmmdkpnoncnjnaa
