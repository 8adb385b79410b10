/- Several texts in one: OpenPrg OpenSp. -/
import Derived.Test.YtcmpmhlcfalbhaaOpenK
import Derived.Test.YtcmpmhlcfalbhaaPrgL
namespace Go.Proofs.Ytcmpmhlcfalbhaa

section
/- A program that is a law's argument, opened. -/
open Go.ChangeShapes Go.WideShapes Go.ChangeAt Go.RowKit

theorem func_fields : (Try.prog.underlying 43).map (fun d => match d with | .struct fs => fs.toList.map (fun f => (f.type, f.offset)) | _ => []) = some [(3, 0), (3, 1), (3, 2), (41, 3)] := by kernel_rfl
theorem prg_fields : (Try.prog.underlying 26).map (fun d => match d with | .struct fs => fs.toList.map (fun f => (f.type, f.offset)) | _ => []) = some [(3, 0), (23, 1), (24, 2)] := by kernel_rfl
theorem cells_func : Try.prog.cellsOf 43 = 4 := by kernel_rfl
theorem cells_prg : Try.prog.cellsOf 26 = 3 := by kernel_rfl
theorem cells_inss : Try.prog.cellsOf 41 = 1 := by kernel_rfl
theorem cells_funs : Try.prog.cellsOf 24 = 1 := by kernel_rfl
theorem three_of {α : Type} (l : List α) (h : l.length = 3) : ∃ a b c, l = [a, b, c] := by
  match l, h with
  | [a, b, c], _ => exact ⟨a, b, c, rfl⟩
theorem four_of {α : Type} (l : List α) (h : l.length = 4) : ∃ a b c d, l = [a, b, c, d] := by
  match l, h with
  | [a, b, c, d], _ => exact ⟨a, b, c, d, rfl⟩
section
variable {H : Type} {enc : TypeId × Value → H} {w : World} {base : Nat} {spare : Nat → Bool} {held : Bool}
theorem open_inss {fuel : Nat} {cs : List Value} {x : DataW H × List MemPlace} (h : DataW.trod enc Try.prog w base spare held fuel 41 cs = some x) (hw : Wt Try.prog 41 x.1) :
    ∃ (A : Option Addr) (c : Nat) (l : List Ins), cs = [.slice A l.length c] ∧ RV w A (l.flatMap insCells) ∧ (∀ i ∈ l, InsOk i) ∧ (A = none → l.length = 0 ∧ c = 0) ∧ l.length ≤ 8796093021952 := by
  obtain ⟨A, c', ys, e1, hrv, hnil, hlc, hcm, hb, hg⟩ := open_sliceOf insCells InsOk Try.underlying41 cells_ins (by decide) (fun fuel cs x hx hw => open_ins hx hw) h hw
  rw [show Try.prog.bytesOf 45 = 16 from by kernel_rfl] at hb
  have hb2 : ys.length ≤ 8796093021952 := by
    have h3 : ys.length * 16 ≤ 140737488351232 := hb
    omega
  exact ⟨A, c', ys, e1, hrv, hg, hnil, hb2⟩
theorem open_fun {fuel : Nat} {cs : List Value} {x : DataW H × List MemPlace} (h : DataW.trod enc Try.prog w base spare held fuel 43 cs = some x) (hw : Wt Try.prog 43 x.1) :
    ∃ y : FunM, cs = funCells y ∧ FunAt w y := by
  obtain ⟨hlen, n, hf⟩ := open_fields func_fields (by simp) h hw
  rw [cells_func] at hlen
  obtain ⟨a, b, c, d, rfl⟩ := four_of cs hlen
  obtain ⟨y0, h0, _⟩ := hf 0 _ _ rfl
  obtain ⟨y1, h1, _⟩ := hf 1 _ _ rfl
  obtain ⟨y2, h2, _⟩ := hf 2 _ _ rfl
  obtain ⟨y3, h3, w3⟩ := hf 3 _ _ rfl
  rw [cells_int] at h0 h1 h2
  rw [cells_inss] at h3
  obtain ⟨k, e0, _, wk⟩ := DataW.trod_int Try.underlying3 h0
  obtain ⟨m, e1, _, wm⟩ := DataW.trod_int Try.underlying3 h1
  obtain ⟨q, e2, _, wq⟩ := DataW.trod_int Try.underlying3 h2
  obtain ⟨A, c', l, e3, hrv, hok, hnil, hl⟩ := open_inss h3 w3
  simp only [List.drop_zero, List.take_succ_cons, List.take_zero, List.cons.injEq, and_true, List.drop_succ_cons] at e0 e1 e2 e3
  subst e0 e1 e2 e3
  have bk := bounds_i64 wk
  have bm := bounds_i64 wm
  have bq := bounds_i64 wq
  exact ⟨⟨k, m, q, A, c', l⟩, rfl, ⟨hrv, hok, hnil, hl, bk.1, bk.2, bm.1, bm.2, bq.1, bq.2⟩⟩
theorem open_prg {fuel : Nat} {cs : List Value} {x : DataW H × List MemPlace} (h : DataW.trod enc Try.prog w base spare held fuel 26 cs = some x) (hw : Wt Try.prog 26 x.1) :
    ∃ p : PrgM, cs = [.int .i64 p.mem, .slice p.AD p.data.length p.cD, .slice p.AF p.fs.length p.cF] ∧ PrgAt w p := by
  obtain ⟨hlen, n, hf⟩ := open_fields prg_fields (by simp) h hw
  rw [cells_prg] at hlen
  obtain ⟨a, b, c, rfl⟩ := three_of cs hlen
  obtain ⟨y0, h0, _⟩ := hf 0 _ _ rfl
  obtain ⟨y1, h1, w1⟩ := hf 1 _ _ rfl
  obtain ⟨y2, h2, w2⟩ := hf 2 _ _ rfl
  rw [cells_int] at h0
  rw [cells_bytes] at h1
  rw [cells_funs] at h2
  obtain ⟨k, e0, _, wk⟩ := DataW.trod_int Try.underlying3 h0
  obtain ⟨p, e1, hs, hl, _⟩ := open_bytesOf Try.underlying23 Try.underlying5 cells_byte bytes_byte h1 w1
  obtain ⟨A, c', fs, e2, hrv, hnil, hlc, hcm, hb, hg⟩ := open_sliceOf funCells (FunAt w) Try.underlying24 cells_func (by decide) (fun fuel cs x hx hw => open_fun hx hw) h2 w2
  rw [show Try.prog.bytesOf 43 = 48 from by kernel_rfl] at hb
  have hb2 : fs.length ≤ 2932031007402 := by
    have h3 : fs.length * 48 ≤ 140737488351232 := hb
    omega
  simp only [List.drop_zero, List.take_succ_cons, List.take_zero, List.cons.injEq, and_true, List.drop_succ_cons] at e0 e1 e2
  subst e0 e1 e2
  have bk := bounds_i64 wk
  exact ⟨⟨k, p.A, p.c, p.ys, A, c', fs⟩, rfl, ⟨hs, hl, hrv, hnil, hb2, hg, bk.1, bk.2⟩⟩
set_option maxRecDepth 100000 in
theorem arg_prg {r : Reach} {b : Nat} {v : Value} {d : DataW H} {ps : List MemPlace}
    (hv : Value.okWide Try.prog w r b 26 v) (h : DataW.Trod enc Try.prog w base spare held 26 v d ps) (hw : Wt Try.prog 26 d) :
    ∃ p : PrgM, v = .agg #[.int .i64 p.mem, .slice p.AD p.data.length p.cD, .slice p.AF p.fs.length p.cF] ∧ PrgAt w p := by
  obtain ⟨fs, hfs, -⟩ := fields_of prg_fields (by simp)
  obtain ⟨cs, rfl, -⟩ := okWide_struct hfs hv
  obtain ⟨fuel, hf⟩ := h
  obtain ⟨y, hy, hok⟩ := open_prg hf hw
  refine ⟨y, ?_, hok⟩
  have e : cs.toList = [.int .i64 y.mem, .slice y.AD y.data.length y.cD, .slice y.AF y.fs.length y.cF] := by simpa [Value.cells] using hy
  congr 1
  exact Array.toList_inj.1 e
end
end

section
/- A list of spots as an argument (a spot's two numbers as those of an instruction). -/
open Go.ChangeShapes Go.WideShapes Go.ChangeAt Go.RowKit

theorem spot_fields : (Try.prog.underlying 35).map (fun d => match d with | .struct fs => fs.toList.map (fun f => (f.type, f.offset)) | _ => []) = some [(3, 0), (3, 1)] := by kernel_rfl
theorem cells_spot : Try.prog.cellsOf 35 = 2 := by kernel_rfl
section
variable {H : Type} {enc : TypeId × Value → H} {w : World} {base : Nat} {spare : Nat → Bool} {held : Bool}
theorem open_spot {fuel : Nat} {cs : List Value} {x : DataW H × List MemPlace} (h : DataW.trod enc Try.prog w base spare held fuel 35 cs = some x) (hw : Wt Try.prog 35 x.1) :
    ∃ y : Ins, cs = insCells y ∧ InsOk y := by
  obtain ⟨hlen, n, hf⟩ := open_fields spot_fields (by simp) h hw
  rw [cells_spot] at hlen
  obtain ⟨a, b, rfl⟩ := two_of cs hlen
  obtain ⟨y0, h0, _⟩ := hf 0 _ _ rfl
  obtain ⟨y1, h1, _⟩ := hf 1 _ _ rfl
  rw [cells_int] at h0 h1
  obtain ⟨k, e0, _, wk⟩ := DataW.trod_int Try.underlying3 h0
  obtain ⟨m, e1, _, wm⟩ := DataW.trod_int Try.underlying3 h1
  simp only [List.drop_zero, List.take_succ_cons, List.take_zero, List.cons.injEq, and_true, List.drop_succ_cons] at e0 e1
  subst e0 e1
  have bk := bounds_i64 wk
  have bm := bounds_i64 wm
  exact ⟨⟨k, m⟩, rfl, ⟨bk.1, bk.2, bm.1, bm.2⟩⟩
set_option maxRecDepth 100000 in
theorem arg_spots {r : Reach} {b : Nat} {v : Value} {d : DataW H} {ps : List MemPlace}
    (hv : Value.okWide Try.prog w r b 48 v) (h : DataW.Trod enc Try.prog w base spare held 48 v d ps) (hw : Wt Try.prog 48 d) :
    ∃ (A : Option Addr) (c : Nat) (l : List Ins), v = .slice A l.length c ∧ (RV w A (l.flatMap insCells) ∧ (∀ i ∈ l, InsOk i) ∧ (A = none → l.length = 0 ∧ c = 0)) ∧ l.length ≤ 8796093021952 := by
  have hf := arg_of Try.underlying48 hv h
  obtain ⟨fuel, hf⟩ := hf
  obtain ⟨A, c', ys, e1, hrv, hnil, hlc, hcm, hb, hg⟩ := open_sliceOf insCells InsOk Try.underlying48 cells_spot (by decide) (fun fuel cs x hx hw => open_spot hx hw) hf hw
  rw [show Try.prog.bytesOf 35 = 16 from by kernel_rfl] at hb
  have hb2 : ys.length ≤ 8796093021952 := by
    have h3 : ys.length * 16 ≤ 140737488351232 := hb
    omega
  exact ⟨A, c', ys, (List.cons.inj e1).1, ⟨hrv, hg, hnil⟩, hb2⟩
end
end
end Go.Proofs.Ytcmpmhlcfalbhaa
