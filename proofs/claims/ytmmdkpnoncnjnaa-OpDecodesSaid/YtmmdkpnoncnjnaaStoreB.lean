/- Stores of whole structs and arrays; new variables whose zero cells are known. -/
import Derived.Test.YtmmdkpnoncnjnaaArms
import Derived.Test.YtmmdkpnoncnjnaaBaseB
import Derived.Deep.MidRow
namespace Go.Proofs.Ytmmdkpnoncnjnaa
open Go.RowKit

/-- One operation, run by an equation. -/
theorem wpList_run {P : Program} {w w' : World} {ops : Array Oper} {rest : List Oper} {o : Oper} {a : Act} {Q : Exit → Act → World → Prop} {v : Value} (hgd : o.guard = none)
    (h : (execOp a.eval o).run P w = .ok (.value v) w') (hk : wpList P ops Q rest (a.put o.dst v) w') : wpList P ops Q (o :: rest) a w :=
  wpList_plain hgd fun _ hK => wp_of_run h (hK _ _ hk)
theorem there_blk {w : World} {g : Nat} {t : TypeId} {cs : Array Value} (h : Blk w g t cs) {o n : Nat} (hn : o + n ≤ cs.size) : w.there g o n := fun j hj => by
  rw [h.cell, h.frozen, Array.getElem?_eq_getElem (by omega)]
  exact ⟨rfl, rfl⟩
theorem setCells_blk (g : Nat) (t : TypeId) : ∀ (vs : List Value) (o : Nat) (w : World) (xs ys zs : List Value), Blk w g t (xs ++ ys ++ zs).toArray → xs.length = o → ys.length = vs.length → Blk (w.setCells g o vs) g t (xs ++ vs ++ zs).toArray ∧ Only (fun k => k = g) w (w.setCells g o vs) ∧ (w.setCells g o vs).heap.size = w.heap.size := by
  intro vs
  induction vs with
  | nil =>
    intro o w xs ys zs h ho hy
    obtain rfl : ys = [] := List.length_eq_zero_iff.1 hy
    exact ⟨h, Only.refl _ _, rfl⟩
  | cons v vs ih =>
    intro o w xs ys zs h ho hy
    obtain ⟨y, ys', rfl⟩ : ∃ y ys', ys = y :: ys' := by
      cases ys with
      | nil => simp at hy
      | cons y ys' => exact ⟨y, ys', rfl⟩
    have h1 := h.setL o v
    have e1 : (xs ++ (y :: ys') ++ zs).set o v = (xs ++ [v]) ++ ys' ++ zs := by
      subst ho
      simp
    rw [e1] at h1
    have h2 := ih (o + 1) (w.setCell ⟨g, o, none⟩ v) (xs ++ [v]) ys' zs h1 (by simp [ho]) (by simpa using hy)
    have e2 : (w.setCells g o (v :: vs)) = (w.setCell ⟨g, o, none⟩ v).setCells g (o + 1) vs := rfl
    rw [e2]
    refine ⟨?_, ?_, ?_⟩
    · have := h2.1
      simpa using this
    · exact (Only.setCell (S := fun k => k = g) (p := ⟨g, o, none⟩) (Only.refl _ w) (.inl rfl) v).trans h2.2.1
    · rw [h2.2.2]; simp
/-- A whole array is stored into its block. -/
theorem wpList_storeB {P : Program} {w : World} {ops : Array Oper} {rest : List Oper} {o : Oper} {a : Act} {Q : Exit → Act → World → Prop} (hgd : o.guard = none) (ty : TypeId) (x y : Operand) (ho : o.op = .store ty x y)
    {g : Nat} {t : TypeId} {os : Array Value} (cs : List Value) (hx : a.eval x = .pointer (some ⟨g, 0, none⟩)) (hy : a.eval y = .agg cs.toArray) (hb : Blk w g t os)
    (hi : (P.info? ty).map (·.size) = some cs.length) (hos : os.size = cs.length) (h1 : ∀ v ∈ cs, v.oneCell' = true)
    (h : ∀ w', Blk w' g t cs.toArray → Only (fun k => k = g) w w' → w'.heap.size = w.heap.size → wpList P ops Q rest (a.put o.dst undef) w') : wpList P ops Q (o :: rest) a w := by
  have hb' : Blk w g t ([] ++ os.toList ++ []).toArray := by simpa using hb
  have hs := setCells_blk g t cs 0 w [] os.toList [] hb' rfl (by simpa using hos)
  simp only [List.nil_append, List.append_nil] at hs
  refine wpList_store_mid hgd ty x y ho g 0 cs.toArray hx hy (there_blk hb (by simp [hos])) (by simpa using hi) (all_oneCell_toArray h1) ?_
  exact h _ hs.1 hs.2.1 hs.2.2
/-- A new variable of a type whose zero cells are known. -/
theorem wpList_allocZ {P : Program} {w : World} {ops : Array Oper} {rest : List Oper} {o : Oper} {a : Act} {Q : Exit → Act → World → Prop} (hgd : o.guard = none) (t : TypeId) (ho : o.op = .alloc t) (cs : List Value)
    (hz : ∀ (ev : Operand → Value) (w : World), (execOp ev { o with op := .alloc t }).run P w = .ok (.value (.pointer (some ⟨w.heap.size, 0, none⟩))) (w.alloc (.cells cs.toArray t)))
    (h : ∀ w', Blk w' w.heap.size t cs.toArray → Below w.heap.size w w' → w'.heap.size = w.heap.size + 1 → wpList P ops Q rest (a.put o.dst (.pointer (some ⟨w.heap.size, 0, none⟩))) w') : wpList P ops Q (o :: rest) a w := by
  have e : ({ o with op := .alloc t } : Oper) = o := by rw [← ho]
  rw [e] at hz
  exact wpList_run hgd (hz _ _) (h _ (Blk.new w t _) ((Below.refl _ _).alloc (Nat.le_refl _) _) (by simp))
def isBuild : Op → Bool
  | .build _ _ => true
  | _ => false

theorem wpList_build {P : Program} {w : World} {ops : Array Oper} {rest : List Oper} {o : Oper} {a : Act} {Q : Exit → Act → World → Prop} (hgd : o.guard = none) (_hbuild : isBuild o.op = true) (v : Value)
    (h : (execOp a.eval o).run P w = .ok (.value v) w) (hk : wpList P ops Q rest (a.put o.dst v) w) : wpList P ops Q (o :: rest) a w := wpList_run hgd h hk

end Go.Proofs.Ytmmdkpnoncnjnaa
