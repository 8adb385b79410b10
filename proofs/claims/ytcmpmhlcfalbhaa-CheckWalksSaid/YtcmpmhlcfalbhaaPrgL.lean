/- Programs: plain, and as they lie in memory; what Check is to tell. -/
import Derived.Test.YtcmpmhlcfalbhaaOpsK
namespace Go.Proofs.Ytcmpmhlcfalbhaa
open Go.RowKit

structure Fun where
  args : Int
  locals : Int
  results : Int
  code : List Ins
structure Prg where
  mem : Int
  data : List UInt8
  fs : List Fun
/-- A function as it lies in memory. -/
structure FunM where
  args : Int
  locals : Int
  results : Int
  A : Option Addr
  c : Nat
  code : List Ins
def FunM.plain (f : FunM) : Fun := ⟨f.args, f.locals, f.results, f.code⟩
def funCells (f : FunM) : List Value := [.int .i64 f.args, .int .i64 f.locals, .int .i64 f.results, .slice f.A f.code.length f.c]
structure PrgM where
  mem : Int
  AD : Option Addr
  cD : Nat
  data : List UInt8
  AF : Option Addr
  cF : Nat
  fs : List FunM
def PrgM.plain (p : PrgM) : Prg := ⟨p.mem, p.data, p.fs.map FunM.plain⟩
abbrev PrgM.val (p : PrgM) : Value := .agg #[.int .i64 p.mem, .slice p.AD p.data.length p.cD, .slice p.AF p.fs.length p.cF]
structure FunAt (w : World) (f : FunM) : Prop where
  rv : RV w f.A (f.code.flatMap insCells)
  ok : ∀ i ∈ f.code, InsOk i
  nil : f.A = none → f.code.length = 0 ∧ f.c = 0
  len : f.code.length ≤ 8796093021952
  a1 : -9223372036854775808 ≤ f.args
  a2 : f.args ≤ 9223372036854775807
  l1 : -9223372036854775808 ≤ f.locals
  l2 : f.locals ≤ 9223372036854775807
  r1 : -9223372036854775808 ≤ f.results
  r2 : f.results ≤ 9223372036854775807
structure PrgAt (w : World) (p : PrgM) : Prop where
  data : Sl w ⟨p.AD, p.cD, p.data⟩
  dlen : p.data.length ≤ 140737488351232
  rv : RV w p.AF (p.fs.flatMap funCells)
  nil : p.AF = none → p.fs.length = 0 ∧ p.cF = 0
  flen : p.fs.length ≤ 2932031007402
  funs : ∀ f ∈ p.fs, FunAt w f
  m1 : -9223372036854775808 ≤ p.mem
  m2 : p.mem ≤ 9223372036854775807
theorem FunAt.below {w w' : World} {f : FunM} (h : FunAt w f) (hb : Below w.heap.size w w') : FunAt w' f := ⟨h.rv.below hb, h.ok, h.nil, h.len, h.a1, h.a2, h.l1, h.l2, h.r1, h.r2⟩
theorem PrgAt.below {w w' : World} {p : PrgM} (h : PrgAt w p) (hb : Below w.heap.size w w') : PrgAt w' p := ⟨h.data.below hb, h.dlen, h.rv.below hb, h.nil, h.flen, fun f hf => (h.funs f hf).below hb, h.m1, h.m2⟩
theorem funCells_len (l : List FunM) : (l.flatMap funCells).length = l.length * 4 := by
  induction l with
  | nil => rfl
  | cons x l ih => rw [List.flatMap_cons, List.length_append, ih, List.length_cons]; simp [funCells]; omega
theorem funCells_get (l : List FunM) (k j : Nat) (hk : k < l.length) (hj : j < 4) : (l.flatMap funCells)[k * 4 + j]? = (funCells l[k])[j]? := by
  induction l generalizing k with
  | nil => cases hk
  | cons x l ih =>
    rw [List.flatMap_cons]
    cases k with
    | zero =>
      rw [Nat.zero_mul, Nat.zero_add, List.getElem?_append_left (by simp [funCells]; omega)]
      rfl
    | succ k =>
      rw [List.getElem?_append_right (by simp [funCells]; omega), show (k + 1) * 4 + j - (funCells x).length = k * 4 + j from by simp [funCells]; omega]
      exact ih k (by simpa using hk)
theorem fun_one (l : List FunM) : ∀ u ∈ l.flatMap funCells, u.oneCell' = true := by
  intro u hu
  obtain ⟨x, -, hx⟩ := List.mem_flatMap.1 hu
  simp only [funCells, List.mem_cons, List.not_mem_nil, or_false] at hx
  rcases hx with rfl | rfl | rfl | rfl <;> rfl
/-- The four cells of a function in a row. -/
theorem fun_cells {w : World} {b off : Nat} {l : List FunM} (hc : ∀ j u, (l.flatMap funCells)[j]? = some u → w.cell? ⟨b, off + j, none⟩ = some u) (k : Nat) (hk : k < l.length) :
    w.cell? ⟨b, off + k * 4, none⟩ = some (.int .i64 l[k].args) ∧ w.cell? ⟨b, off + k * 4 + 1, none⟩ = some (.int .i64 l[k].locals) ∧ w.cell? ⟨b, off + k * 4 + 2, none⟩ = some (.int .i64 l[k].results) ∧ w.cell? ⟨b, off + k * 4 + 3, none⟩ = some (.slice l[k].A l[k].code.length l[k].c) := by
  have q0 := hc _ _ (funCells_get l k 0 hk (by omega))
  have q1 := hc _ _ (funCells_get l k 1 hk (by omega))
  have q2 := hc _ _ (funCells_get l k 2 hk (by omega))
  have q3 := hc _ _ (funCells_get l k 3 hk (by omega))
  rw [← Nat.add_assoc] at q1 q2 q3
  exact ⟨q0, q1, q2, q3⟩
/-! ### Check -/
def badF (f : Fun) : Bool := decide (f.args < 0 ∨ 16 < f.args ∨ f.locals < f.args ∨ 64 < f.locals ∨ f.results < 0 ∨ 1 < f.results ∨ (f.code.length : Int) < 1 ∨ 4096 < (f.code.length : Int))
def checkF : List Fun → Int
  | [] => 0
  | f :: l => if badF f = true then 121 else if (encL f.code).2 = 0 then checkF l else (encL f.code).2
def badH (p : Prg) : Bool := decide (p.mem < 0 ∨ 65536 < p.mem ∨ p.mem < (p.data.length : Int) ∨ (p.fs.length : Int) < 1 ∨ 64 < (p.fs.length : Int))
def checkL (p : Prg) : Int := if badH p = true then 121 else checkF p.fs
theorem badF_cases {f : Fun} (h : badF f = true) : f.args < 0 ∨ (¬ f.args < 0 ∧ 16 < f.args) ∨ (¬ f.args < 0 ∧ ¬ 16 < f.args ∧ f.locals < f.args) ∨ (¬ f.args < 0 ∧ ¬ 16 < f.args ∧ ¬ f.locals < f.args ∧ 64 < f.locals) ∨ (¬ f.args < 0 ∧ ¬ 16 < f.args ∧ ¬ f.locals < f.args ∧ ¬ 64 < f.locals ∧ f.results < 0) ∨
    (¬ f.args < 0 ∧ ¬ 16 < f.args ∧ ¬ f.locals < f.args ∧ ¬ 64 < f.locals ∧ ¬ f.results < 0 ∧ 1 < f.results) ∨ (¬ f.args < 0 ∧ ¬ 16 < f.args ∧ ¬ f.locals < f.args ∧ ¬ 64 < f.locals ∧ ¬ f.results < 0 ∧ ¬ 1 < f.results ∧ (f.code.length : Int) < 1) ∨
    (¬ f.args < 0 ∧ ¬ 16 < f.args ∧ ¬ f.locals < f.args ∧ ¬ 64 < f.locals ∧ ¬ f.results < 0 ∧ ¬ 1 < f.results ∧ ¬ (f.code.length : Int) < 1 ∧ 4096 < (f.code.length : Int)) := by
  unfold badF at h
  rw [decide_eq_true_eq] at h
  omega
theorem badF_not {f : Fun} (h : badF f = false) : ¬ f.args < 0 ∧ ¬ 16 < f.args ∧ ¬ f.locals < f.args ∧ ¬ 64 < f.locals ∧ ¬ f.results < 0 ∧ ¬ 1 < f.results ∧ ¬ (f.code.length : Int) < 1 ∧ ¬ 4096 < (f.code.length : Int) := by
  unfold badF at h
  rw [decide_eq_false_iff_not] at h
  omega
theorem badH_cases {p : Prg} (h : badH p = true) : p.mem < 0 ∨ (¬ p.mem < 0 ∧ 65536 < p.mem) ∨ (¬ p.mem < 0 ∧ ¬ 65536 < p.mem ∧ p.mem < (p.data.length : Int)) ∨ (¬ p.mem < 0 ∧ ¬ 65536 < p.mem ∧ ¬ p.mem < (p.data.length : Int) ∧ (p.fs.length : Int) < 1) ∨
    (¬ p.mem < 0 ∧ ¬ 65536 < p.mem ∧ ¬ p.mem < (p.data.length : Int) ∧ ¬ (p.fs.length : Int) < 1 ∧ 64 < (p.fs.length : Int)) := by
  unfold badH at h
  rw [decide_eq_true_eq] at h
  omega
theorem badH_not {p : Prg} (h : badH p = false) : ¬ p.mem < 0 ∧ ¬ 65536 < p.mem ∧ ¬ p.mem < (p.data.length : Int) ∧ ¬ (p.fs.length : Int) < 1 ∧ ¬ 64 < (p.fs.length : Int) := by
  unfold badH at h
  rw [decide_eq_false_iff_not] at h
  omega
end Go.Proofs.Ytcmpmhlcfalbhaa
