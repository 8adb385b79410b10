/- Several texts in one: OpA OpTab OpB OpC OpD. -/
import Derived.Test.YtefaapcekbgjoaaChecked
import Derived.Test.YtefaapcekbgjoaaBaseK
import Derived.WalkKit
import Derived.Lib.Hide
import Derived.Below
namespace Go.Proofs.Ytefaapcekbgjoaa

section
/- Contracts of the small functions of package op: two, one, shapes, calls. -/
open Go.RowKit

end

section
/- The tables of package op in plain Lean: the instructions, the calls of files. -/

/-- The instructions' rows: name, kind of operand, what they take, what they give. -/
def shapeTab : List (List UInt8 × Int × Int × Int) :=
  [([110, 111, 112], 0, 0, 0),
   ([104, 97, 108, 116], 0, 1, 0),
   ([97, 98, 111, 114, 116], 0, 1, 0),
   ([110, 117, 109], 1, 0, 1),
   ([112, 111, 112], 0, 1, 0),
   ([99, 111, 112, 121], 6, 0, 1),
   ([115, 119, 97, 112], 0, 2, 2),
   ([103, 101, 116], 2, 0, 1),
   ([115, 101, 116], 2, 1, 0),
   ([108, 111, 97, 100], 0, 1, 1),
   ([115, 116, 111, 114, 101], 0, 2, 0),
   ([108, 111, 97, 100, 56], 0, 1, 1),
   ([115, 116, 111, 114, 101, 56], 0, 2, 0),
   ([115, 105, 122, 101], 0, 0, 1),
   ([106, 117, 109, 112], 3, 0, 0),
   ([122, 101, 114, 111], 3, 1, 0),
   ([110, 111, 116, 122, 101, 114, 111], 3, 1, 0),
   ([99, 97, 108, 108], 4, (-1), (-1)),
   ([114, 101, 116], 0, (-1), 0),
   ([115, 121, 115], 5, (-1), 1),
   ([97, 100, 100], 0, 2, 1),
   ([115, 117, 98], 0, 2, 1),
   ([109, 117, 108], 0, 2, 1),
   ([100, 105, 118], 0, 2, 1),
   ([114, 101, 109], 0, 2, 1),
   ([97, 110, 100], 0, 2, 1),
   ([111, 114], 0, 2, 1),
   ([120, 111, 114], 0, 2, 1),
   ([115, 104, 108], 0, 2, 1),
   ([115, 104, 114], 0, 2, 1),
   ([117, 115, 104, 114], 0, 2, 1),
   ([101, 113], 0, 2, 1),
   ([108, 116], 0, 2, 1),
   ([117, 108, 116], 0, 2, 1),
   ([110, 101, 103], 0, 1, 1),
   ([110, 111, 116], 0, 1, 1),
   ([102, 97, 100, 100], 0, 2, 1),
   ([102, 115, 117, 98], 0, 2, 1),
   ([102, 109, 117, 108], 0, 2, 1),
   ([102, 100, 105, 118], 0, 2, 1),
   ([102, 101, 113], 0, 2, 1),
   ([102, 108, 116], 0, 2, 1),
   ([102, 110, 101, 103], 0, 1, 1),
   ([102, 114, 111, 111, 116], 0, 1, 1),
   ([116, 111, 102], 0, 1, 1),
   ([116, 111, 105], 0, 1, 1)]

/-- The calls of files. -/
def callTab : List (List UInt8 × Int × Int × Int) :=
  [([111, 112, 101, 110], 0, 3, 1),
   ([114, 101, 97, 100], 0, 3, 1),
   ([119, 114, 105, 116, 101], 0, 3, 1),
   ([108, 105, 115, 116], 0, 4, 1),
   ([99, 108, 111, 115, 101], 0, 1, 1)]

/-- A row's four cells. -/
def rowCells (r : List UInt8 × Int × Int × Int) : List Value := [.string ⟨r.1.toArray⟩, .int .i64 r.2.1, .int .i64 r.2.2.1, .int .i64 r.2.2.2]
def tabCells (t : List (List UInt8 × Int × Int × Int)) : List Value := t.flatMap rowCells
def rowVal (r : List UInt8 × Int × Int × Int) : Value := .agg #[.string ⟨r.1.toArray⟩, .int .i64 r.2.1, .int .i64 r.2.2.1, .int .i64 r.2.2.2]

theorem tabCells_get (t : List (List UInt8 × Int × Int × Int)) : ∀ (i j : Nat) (r : List UInt8 × Int × Int × Int), t[i]? = some r → j < 4 → (tabCells t)[4 * i + j]? = (rowCells r)[j]? := by
  induction t with
  | nil => intro i j r h; simp at h
  | cons a t ih =>
    intro i j r h hj
    have hl : (rowCells a).length = 4 := rfl
    cases i with
    | zero =>
      simp only [List.getElem?_cons_zero, Option.some.injEq] at h
      subst h
      simp only [tabCells, List.flatMap_cons]
      rw [List.getElem?_append_left (by omega)]
      simp
    | succ i =>
      simp only [List.getElem?_cons_succ] at h
      have := ih i j r h hj
      simp only [tabCells, List.flatMap_cons] at this ⊢
      rw [List.getElem?_append_right (by omega), hl, ← this]
      congr 1
      omega
end

section
/- Contracts of the small functions of package op: shapes, calls. -/
open Go.RowKit

end

section
/- Contracts of package op: row, place. -/
open Go.RowKit

/-- What 'row' tells: the row of a number, or none. -/
def rowAt (t : List (List UInt8 × Int × Int × Int)) (i : Int) : (List UInt8 × Int × Int × Int) × Bool :=
  if 0 ≤ i then (match t[i.toNat]? with | some r => (r, true) | none => (([], 0, 0, 0), false)) else (([], 0, 0, 0), false)

/-- Where a name stands, from a place on. -/
def placeFrom (nm : List UInt8) : List (List UInt8 × Int × Int × Int) → Nat → Int × Bool
  | [], _ => (0, false)
  | r :: t, k => if r.1 == nm then ((k : Int), true) else placeFrom nm t (k + 1)

theorem placeFrom_hit (nm : List UInt8) (t : List (List UInt8 × Int × Int × Int)) (k : Nat) (h : k < t.length) (he : (t[k].1 == nm) = true) :
    placeFrom nm (t.drop k) k = ((k : Int), true) := by
  rw [List.drop_eq_getElem_cons h]; simp only [placeFrom, he, if_true]
theorem placeFrom_miss (nm : List UInt8) (t : List (List UInt8 × Int × Int × Int)) (k : Nat) (h : k < t.length) (he : (t[k].1 == nm) = false) :
    placeFrom nm (t.drop k) k = placeFrom nm (t.drop (k + 1)) (k + 1) := by
  rw [List.drop_eq_getElem_cons h]; simp only [placeFrom, he]; rfl
theorem placeFrom_end (nm : List UInt8) (t : List (List UInt8 × Int × Int × Int)) (k : Nat) (h : ¬ k < t.length) : placeFrom nm (t.drop k) k = (0, false) := by
  rw [List.drop_eq_nil_of_le (by omega)]; rfl

end

section
/- Contracts of package op: Of, Named, Sys, SysNamed. -/
open Go.RowKit
attribute [local go_sem] rowVal

end
end Go.Proofs.Ytefaapcekbgjoaa
