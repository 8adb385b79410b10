/- A slice of things as a list; the contract of the reference's Done. -/
import Derived.Test.YtmmdkpnoncnjnaaRefB
namespace Go.Proofs.Ytmmdkpnoncnjnaa
open Go.RowKit

theorem flatMap_get {α β : Type} (f : α → List β) (n : Nat) (hf : ∀ x, (f x).length = n) (l : List α) : ∀ (i j : Nat) (x : α), l[i]? = some x → j < n → (l.flatMap f)[i * n + j]? = (f x)[j]? := by
  induction l with
  | nil => intro i j x h; simp at h
  | cons a l ih =>
    intro i j x h hj
    cases i with
    | zero =>
      simp only [List.getElem?_cons_zero, Option.some.injEq] at h
      subst h
      rw [List.flatMap_cons, Nat.zero_mul, Nat.zero_add, List.getElem?_append_left (by rw [hf]; exact hj)]
    | succ i =>
      simp only [List.getElem?_cons_succ] at h
      rw [List.flatMap_cons, List.getElem?_append_right (by rw [hf, Nat.succ_mul]; omega), hf, ← ih i j x h hj]
      congr 1
      rw [Nat.succ_mul]
      omega
theorem length_flatMap_const {α β : Type} (f : α → List β) (n : Nat) (hf : ∀ x, (f x).length = n) (l : List α) : (l.flatMap f).length = l.length * n := by
  induction l with
  | nil => simp
  | cons a l ih => rw [List.flatMap_cons, List.length_append, ih, hf, List.length_cons, Nat.succ_mul, Nat.add_comm]

def itemCells (x : Item) : List Value := [.int .i64 x.kind, .int .i64 x.n, .slice x.p.A x.p.ys.length x.p.c]
/-- The place A reads as these things. -/
structure Items (w : World) (A : Option Addr) (its : List Item) : Prop where
  rv : RV w A (its.flatMap itemCells)
  sl : ∀ x ∈ its, Sl w x.p
  ok : ∀ x ∈ its, x.ok
theorem Items.below {w w' : World} {A : Option Addr} {its : List Item} (h : Items w A its) (hb : Below w.heap.size w w') : Items w' A its := ⟨h.rv.below hb, fun x hx => (h.sl x hx).below hb, h.ok⟩
theorem Items.at_ {w : World} {A : Option Addr} {its : List Item} (h : Items w A its) {k : Nat} (hk : k < its.length) :
    ∃ b off, A = some ⟨b, off, none⟩ ∧ b < w.heap.size ∧ w.cell? ⟨b, off + k * 3, none⟩ = some (.int .i64 its[k].kind) ∧ w.cell? ⟨b, off + k * 3 + 1, none⟩ = some (.int .i64 its[k].n) ∧
      w.cell? ⟨b, off + k * 3 + 2, none⟩ = some (.slice its[k].p.A its[k].p.ys.length its[k].p.c) := by
  have hl : (its.flatMap itemCells).length = its.length * 3 := length_flatMap_const _ 3 (fun _ => rfl) _
  obtain ⟨b, off, hA, hb, hc⟩ := h.rv.at_ (by rw [hl]; omega)
  have hg := fun j hj => flatMap_get itemCells 3 (fun _ => rfl) its k j its[k] (List.getElem?_eq_getElem hk) hj
  refine ⟨b, off, hA, hb, hc _ _ (hg 0 (by omega)), ?_, ?_⟩
  · have := hc _ _ (hg 1 (by omega))
    rwa [← Nat.add_assoc] at this
  · have := hc _ _ (hg 2 (by omega))
    rwa [← Nat.add_assoc] at this

/-- What the document tells of all that was put. -/
def refFrom : List UInt8 → List Item → List UInt8 × Int
  | out, [] => (out, 0)
  | out, x :: l => if x.kind = 1 ∧ x.n < 0 then ([], 1) else if 4194304 < out.length + (itemL x).length then ([], 2) else refFrom (out ++ itemL x) l

/-- The call handed back new bytes and a number. -/
def FreshB2 (w : World) (r : List UInt8 × Int) (e : Ending) (w' : World) : Prop :=
  ∃ A c, e = .returned (.tuple #[.slice A r.1.length c, .int .i64 r.2]) ∧ OwnB w' w.heap.size A r.1.length c r.1 ∧ Below w.heap.size w w'

theorem itemL_le (x : Item) : (itemL x).length ≤ 9 + x.p.ys.length := by
  unfold itemL
  split
  · have := formL_le x.n.toNat; omega
  split
  · have := formL_le (foldN x.n); omega
  split
  · show 1 ≤ _; omega
  split
  · omega
  · have := formL_le x.p.ys.length
    rw [List.length_append]; omega

end Go.Proofs.Ytmmdkpnoncnjnaa
