/- Small helps for the walk: a guard for an arm, and a stop. -/
import Derived.Test.YtmmdkpnoncnjnaaBase
import Derived.Deep.MidRow
namespace Go.Proofs.Ytmmdkpnoncnjnaa
open Go.RowKit
/-- A guard for an arm: the operation that goes to this slot. -/
theorem wpList_at {P : Program} {ops : Array Oper} {w : World} {rest : List Oper} {o : Oper} {a : Act} {Q : Exit → Act → World → Prop} (d : Nat) (_hd : o.dst = some d) (h : wpList P ops Q (o :: rest) a w) : wpList P ops Q (o :: rest) a w := h
/-- The walk stops here. -/
structure Stop (p : Prop) : Prop where
  out : p
theorem wp_stop {p : Prop} (h : Stop p) : p := h.out
/-- Where a slice expression lies: the place of A, moved by k elements of one cell; at the very end of the room it is not moved. -/
def Moved (A : Option Addr) (c k : Nat) (A2 : Option Addr) : Prop := (A2 = A ∧ c = k) ∨ (A2 = A.map (·.add (k * 1)) ∧ c ≠ k)
theorem Moved.block {A2 : Option Addr} {b o c k : Nat} (h : Moved (some ⟨b, o, none⟩) c k A2) : ∃ o2, A2 = some ⟨b, o2, none⟩ := by
  rcases h with ⟨rfl, _⟩ | ⟨rfl, _⟩
  · exact ⟨o, rfl⟩
  · exact ⟨o + k * 1, by rw [Option.map_some, addr_add]⟩
theorem RV.moved {w : World} {A A2 : Option Addr} {c k : Nat} {vs : List Value} (hr : RV w A vs) (hm : Moved A c k A2) (hc : vs.length ≤ c) : RV w A2 (vs.drop k) := by
  rcases hm with ⟨rfl, rfl⟩ | ⟨rfl, _⟩
  · rw [List.drop_eq_nil_of_le hc]; exact RV.nil _ _
  · rcases Nat.lt_or_ge k vs.length with h | h
    · obtain ⟨b, o, rfl, -, -⟩ := hr.at_ (by omega)
      have h1 := hr.cut k (vs.length - k)
      rw [List.take_of_length_le (by rw [List.length_drop]; omega)] at h1
      rw [Option.map_some, addr_add, Nat.mul_one]
      exact h1
    · rw [List.drop_eq_nil_of_le h]; exact RV.nil _ _
theorem run_from {P : Program} {t : TypeId} (ht : P.underlying t = some (.slice (P.elem t))) (hs : ∀ w, (sizeOf (P.elem t)).run P w = .ok 1 w) (A : Option Addr) (n c k : Nat) (h : k ≤ n) :
    ∃ A2, (∀ w, (Instr.slice t (.slice A n c) (some (.int .i64 (k : Int))) none none).run P w = .ok (.slice A2 (n - k) (c - k)) w) ∧ Moved A c k A2 := by
  refine ⟨if c = k then A else A.map (·.add (k * 1)), fun w => ?_, ?_⟩
  · rw [run_slice_l w t A n c ht _ _ (by omega) (by omega), hs, Result.andThen_ok]
    unfold sliced
    rw [Int.toNat_natCast]
  · unfold Moved
    split
    · exact .inl ⟨rfl, ‹_›⟩
    · exact .inr ⟨rfl, ‹_›⟩
theorem run_to {P : Program} {t : TypeId} (ht : P.underlying t = some (.slice (P.elem t))) (hs : ∀ w, (sizeOf (P.elem t)).run P w = .ok 1 w) (A : Option Addr) (n c k m : Nat) (h : k ≤ m) (hm : m ≤ c) :
    ∃ A2, (∀ w, (Instr.slice t (.slice A n c) (some (.int .i64 (k : Int))) (some (.int .i64 (m : Int))) none).run P w = .ok (.slice A2 (m - k) (c - k)) w) ∧ Moved A c k A2 := by
  refine ⟨if c = k then A else A.map (·.add (k * 1)), fun w => ?_, ?_⟩
  · rw [run_slice_lh w t A n c ht _ _ _ _ (by omega) (by omega) (by omega), hs, Result.andThen_ok]
    unfold sliced
    rw [Int.toNat_natCast, Int.toNat_natCast]
  · unfold Moved
    split
    · exact .inl ⟨rfl, ‹_›⟩
    · exact .inr ⟨rfl, ‹_›⟩
/-- A value of several cells is boxed: a new variable that holds it. -/
theorem wpList_boxB {P : Program} {ops : Array Oper} {rest : List Oper} {o : Oper} {a : Act} {w : World} {Q : Exit → Act → World → Prop} (hg : o.guard = none) (t : TypeId) (x : Operand) (ho : o.op = .box t x)
    (cs : List Value) (hx : a.eval x = .agg cs.toArray)
    (h : ∀ w', Blk w' w.heap.size t cs.toArray → Below w.heap.size w w' → w'.heap.size = w.heap.size + 1 → wpList P ops Q rest (a.put o.dst (.pointer (some ⟨w.heap.size, 0, none⟩))) w') : wpList P ops Q (o :: rest) a w := by
  refine wpList_plain hg fun K hK => ?_
  unfold Oper.wp execOp
  simp only [ho, hx, Sem.run_bind, Instr.box, newVar, newRow, run_newObj_alloc, Sem.run_pure, Result.andThen_ok, Value.cells]
  exact hK _ _ (h _ (Blk.new w t _) ((Below.refl _ _).alloc (Nat.le_refl _) _) (by simp))
/-- A guard for an arm: that store. -/
theorem wpList_atStore {P : Program} {ops : Array Oper} {w : World} {rest : List Oper} {o : Oper} {a : Act} {Q : Exit → Act → World → Prop} (ty : TypeId) (x y : Operand) (_ho : o.op = .store ty x y) (h : wpList P ops Q (o :: rest) a w) : wpList P ops Q (o :: rest) a w := h
/-- An operation whose guard says yes. -/
theorem wpList_wanted {P : Program} {ops : Array Oper} {rest : List Oper} {o : Oper} {a : Act} {w : World} {Q : Exit → Act → World → Prop} (hw : Region.wanted o (yielded ops a.tmps) = true)
    (h : ∀ K : Act → World → Prop, (∀ a w, wpList P ops Q rest a w → K a w) → o.wp P a w K Q) : wpList P ops Q (o :: rest) a w :=
  wpList_step fun K hK => by rw [if_pos hw]; exact h K hK
/-- A load of a row, guarded. -/
theorem wpList_loadG {P : Program} {ops : Array Oper} {rest : List Oper} {o : Oper} {a : Act} {w : World} {Q : Exit → Act → World → Prop} (hw : Region.wanted o (yielded ops a.tmps) = true) (ty : TypeId) (x : Operand) (ho : o.op = .load ty x)
    (b : Nat) (hx : a.eval x = .pointer (some ⟨b, 0, none⟩)) (cs : List Value) (d : TypeDesc) {t : TypeId} (hb : Blk w b t cs.toArray)
    (hu : P.underlying ty = some d) (hd : d.isRow = true) (hi : (P.info? ty).map (·.size) = some cs.length)
    (h : wpList P ops Q rest (a.put o.dst (.agg cs.toArray)) w) : wpList P ops Q (o :: rest) a w :=
  wpList_wanted hw fun K hK => wp_load_mid ty x ho b 0 hx cs d (fun j v hv => by rw [Nat.zero_add, hb.cell]; simpa using hv) hu hd hi (hK _ _ h)
/-- One operation, guarded, run by an equation. -/
theorem wpList_runG {P : Program} {ops : Array Oper} {rest : List Oper} {o : Oper} {a : Act} {w : World} {Q : Exit → Act → World → Prop} (hw : Region.wanted o (yielded ops a.tmps) = true) (v : Value)
    (h : (execOp a.eval o).run P w = .ok (.value v) w) (hk : wpList P ops Q rest (a.put o.dst v) w) : wpList P ops Q (o :: rest) a w :=
  wpList_wanted hw fun _ hK => wp_of_run h (hK _ _ hk)
end Go.Proofs.Ytmmdkpnoncnjnaa
