/- Several texts in one: Base BaseB. -/
import Derived.WalkKit
import Derived.Lib.Hide
import Derived.Maps.AppendAt
import Derived.Deep.AppendLies
import Derived.Deep.Draws
import Derived.Laws.CopyOwn
import Derived.Lib.ConvBytes
import Derived.Lib.SliceRun
namespace Go.Proofs.Ytefaapcekbgjoaa

section
/- Words and laws for memory, over any program: a slice that reads as a list, a block known whole, what a call may have turned; appends onto a row of the call's own. -/
open Go.RowKit

/-- A byte as a cell. -/
def bv (u : UInt8) : Value := .int .u8 (u.toNat : Int)
theorem bv_one (u : UInt8) : (bv u).oneCell' = true := rfl
theorem map_bv_one (xs : List UInt8) : ∀ u ∈ xs.map bv, u.oneCell' = true := by
  intro u hu
  obtain ⟨x, _, rfl⟩ := List.mem_map.1 hu
  rfl

theorem addr_add (b o n : Nat) : (⟨b, o, none⟩ : Addr).add n = ⟨b, o + n, none⟩ := by
  unfold Addr.add
  split
  · subst n; rfl
  · rfl

/-- Behind a call that kept all old blocks: its old cells and marks. -/
theorem bcell {W w1 : World} {B : Nat} (hb : Below B W w1) : (∀ b o, b < B → w1.cell? ⟨b, o, none⟩ = W.cell? ⟨b, o, none⟩) ∧ (∀ b o, b < B → w1.frozen? ⟨b, o, none⟩ = W.frozen? ⟨b, o, none⟩) :=
  ⟨fun b o h => hb.cell (p := ⟨b, o, none⟩) h, fun b o h => hb.frozen (p := ⟨b, o, none⟩) h⟩

theorem wp_of_run {P : Program} {o : Oper} {a : Act} {w w' : World} {K : Act → World → Prop} {Q : Exit → Act → World → Prop} {v : Value}
    (h : (execOp a.eval o).run P w = .ok (.value v) w') (hk : K (a.put o.dst v) w') : o.wp P a w K Q := by
  unfold Oper.wp; rw [h]; exact hk

theorem below_drewN {B : Nat} {a w : World} (h : Below B a w) (n : Nat) : Below B a (w.drewN n) := ⟨h.os, h.tape, h.output, h.size, h.block⟩

/-! ### What may have turned -/
/-- The blocks that were there are as they were, but for those of S. -/
structure Only (S : Nat → Prop) (w w' : World) : Prop where
  os : w'.os = w.os
  tape : w'.tape = w.tape
  output : w'.output = w.output
  size : w.heap.size ≤ w'.heap.size
  block : ∀ k, k < w.heap.size → ¬ S k → w'.heap[k]? = w.heap[k]?

theorem Only.refl (S : Nat → Prop) (w : World) : Only S w w := ⟨rfl, rfl, rfl, Nat.le_refl _, fun _ _ _ => rfl⟩
theorem Only.trans {S : Nat → Prop} {a b c : World} (h : Only S a b) (k : Only S b c) : Only S a c :=
  ⟨k.os.trans h.os, k.tape.trans h.tape, k.output.trans h.output, Nat.le_trans h.size k.size, fun i hi hn => (k.block i (Nat.lt_of_lt_of_le hi h.size) hn).trans (h.block i hi hn)⟩
theorem Only.mono {S T : Nat → Prop} {a b : World} (h : Only S a b) (hST : ∀ k, k < a.heap.size → S k → T k) : Only T a b :=
  ⟨h.os, h.tape, h.output, h.size, fun i hi hn => h.block i hi (fun hs => hn (hST i hi hs))⟩
theorem Only.of_below {S : Nat → Prop} {a b : World} {B : Nat} (h : Below B a b) (hB : ∀ k, k < a.heap.size → ¬ S k → k < B) : Only S a b :=
  ⟨h.os, h.tape, h.output, h.size, fun i hi hn => h.block i (hB i hi hn)⟩
theorem Only.of_fresh {S : Nat → Prop} {a b : World} (h : Below a.heap.size a b) : Only S a b := Only.of_below h fun _ hk _ => hk
theorem Only.of_grown {S : Nat → Prop} {a b : World} {row : Option Nat} (h : a.grownBy b row) (hr : ∀ k, row = some k → S k) : Only S a b :=
  ⟨h.os, h.tape, h.output, h.size, fun i hi hn => h.block i hi (fun e => hn (hr i e.symm))⟩
theorem Only.more {S T : Nat → Prop} {a b c : World} (h : Only S a b) (k : Only T b c) (hT : ∀ k, k < a.heap.size → T k → S k) : Only S a c :=
  ⟨k.os.trans h.os, k.tape.trans h.tape, k.output.trans h.output, Nat.le_trans h.size k.size, fun i hi hn => (k.block i (Nat.lt_of_lt_of_le hi h.size) (fun ht => hn (hT i hi ht))).trans (h.block i hi hn)⟩
theorem Only.grown {S : Nat → Prop} {a b c : World} {row : Option Nat} (h : Only S a b) (k : b.grownBy c row) (hr : ∀ k, row = some k → S k ∨ a.heap.size ≤ k) : Only S a c :=
  h.more (T := fun k => row = some k) (Only.of_grown k fun _ e => e) fun k hk e => (hr k e).resolve_right (by omega)
theorem Only.below {S : Nat → Prop} {a b : World} {B : Nat} (h : Only S a b) (hB : B ≤ a.heap.size) (hS : ∀ k, k < B → ¬ S k) : Below B a b :=
  ⟨h.os, h.tape, h.output, h.size, fun i hi => h.block i (by omega) (hS i hi)⟩
theorem Only.alloc {S : Nat → Prop} {a b : World} (h : Only S a b) (o : Obj) : Only S a (b.alloc o) :=
  h.trans (Only.of_fresh ((Below.refl _ _).alloc (Nat.le_refl _) o))
theorem Only.drew {S : Nat → Prop} {a b : World} (h : Only S a b) : Only S a b.drew := ⟨h.os, h.tape, h.output, h.size, h.block⟩
theorem Only.setCell {S : Nat → Prop} {a b : World} (h : Only S a b) {p : Addr} (hp : S p.block ∨ a.heap.size ≤ p.block) (u : Value) : Only S a (b.setCell p u) :=
  ⟨h.os, h.tape, h.output, by simpa [World.setCell] using h.size, fun i hi hn => (Below.heap_setCell b p u i (by
    rintro rfl
    rcases hp with hp | hp
    · exact hn hp
    · omega)).trans (h.block i hi hn)⟩
theorem Only.cell {S : Nat → Prop} {a b : World} (h : Only S a b) {p : Addr} (hp : p.block < a.heap.size) (hn : ¬ S p.block) : b.cell? p = a.cell? p := World.cell?_of_block (w := a) (h.block _ hp hn)
theorem Only.frozen {S : Nat → Prop} {a b : World} (h : Only S a b) {p : Addr} (hp : p.block < a.heap.size) (hn : ¬ S p.block) : b.frozen? p = a.frozen? p := World.frozen?_of_block (w := a) (h.block _ hp hn)
theorem ocell {S : Nat → Prop} {a b : World} (h : Only S a b) : (∀ k o, k < a.heap.size → ¬ S k → b.cell? ⟨k, o, none⟩ = a.cell? ⟨k, o, none⟩) ∧ (∀ k o, k < a.heap.size → ¬ S k → b.frozen? ⟨k, o, none⟩ = a.frozen? ⟨k, o, none⟩) :=
  ⟨fun k o hk hn => h.cell (p := ⟨k, o, none⟩) hk hn, fun k o hk hn => h.frozen (p := ⟨k, o, none⟩) hk hn⟩

/-! ### A block that is known whole -/
def Blk (w : World) (g : Nat) (t : TypeId) (cs : Array Value) : Prop := w.heap[g]? = some (.cells cs t (0, 0))
theorem Blk.lt {w : World} {g : Nat} {t : TypeId} {cs : Array Value} (h : Blk w g t cs) : g < w.heap.size := (Array.getElem?_eq_some_iff.1 h).1
theorem Blk.cell {w : World} {g : Nat} {t : TypeId} {cs : Array Value} (h : Blk w g t cs) (i : Nat) : w.cell? ⟨g, i, none⟩ = cs[i]? := cell_of_row w g i cs t (0, 0) h
theorem Blk.frozen {w : World} {g : Nat} {t : TypeId} {cs : Array Value} (h : Blk w g t cs) (i : Nat) : w.frozen? ⟨g, i, none⟩ = false := frozen_of_row w g i cs t h
theorem Blk.new (w : World) (t : TypeId) (cs : Array Value) : Blk (w.alloc (.cells cs t)) w.heap.size t cs := heap_alloc_new w _
theorem Blk.alloc {w : World} {g : Nat} {t : TypeId} {cs : Array Value} (h : Blk w g t cs) (o : Obj) : Blk (w.alloc o) g t cs := (Below.heap_alloc w o g h.lt).trans h
theorem Blk.drew {w : World} {g : Nat} {t : TypeId} {cs : Array Value} (h : Blk w g t cs) : Blk w.drew g t cs := h
theorem Blk.set_ {w : World} {g : Nat} {t : TypeId} {cs : Array Value} (h : Blk w g t cs) (i : Nat) (u : Value) : Blk (w.setCell ⟨g, i, none⟩ u) g t (cs.setIfInBounds i u) :=
  heap_setCell_same w g i cs t u h
theorem Blk.far {w : World} {g : Nat} {t : TypeId} {cs : Array Value} (h : Blk w g t cs) {p : Addr} (hp : g ≠ p.block) (u : Value) : Blk (w.setCell p u) g t cs := (Below.heap_setCell w p u g hp).trans h
theorem Blk.only {S : Nat → Prop} {w w' : World} {g : Nat} {t : TypeId} {cs : Array Value} (h : Blk w g t cs) (ho : Only S w w') (hn : ¬ S g) : Blk w' g t cs := (ho.block g h.lt hn).trans h
theorem Blk.below {w w' : World} {B g : Nat} {t : TypeId} {cs : Array Value} (h : Blk w g t cs) (hb : Below B w w') (hg : g < B) : Blk w' g t cs := (hb.block g hg).trans h
theorem Blk.grown {w w' : World} {g : Nat} {t : TypeId} {cs : Array Value} {row : Option Nat} (h : Blk w g t cs) (hb : w.grownBy w' row) (hn : some g ≠ row) : Blk w' g t cs := (hb.block g h.lt hn).trans h

/-! ### A slice that reads as a list of cells -/
/-- The place A reads as the cells vs (nothing is asked of A where there are none). -/
def RV (w : World) (A : Option Addr) (vs : List Value) : Prop :=
  vs = [] ∨ ∃ b off, A = some ⟨b, off, none⟩ ∧ b < w.heap.size ∧ ∀ j u, vs[j]? = some u → w.cell? ⟨b, off + j, none⟩ = some u
theorem RV.nil (w : World) (A : Option Addr) : RV w A [] := .inl rfl
theorem RV.keep {w w' : World} {A : Option Addr} {vs : List Value} (h : RV w A vs) (hs : w.heap.size ≤ w'.heap.size) (hk : vs ≠ [] → ∀ b o, A = some ⟨b, o, none⟩ → b < w.heap.size → w'.heap[b]? = w.heap[b]?) : RV w' A vs := by
  by_cases h0 : vs = []
  · exact .inl h0
  rcases h with h | ⟨b, off, hA, hb, hc⟩
  · exact .inl h
  · exact .inr ⟨b, off, hA, by omega, fun j u hu => (World.cell?_of_block (w := w) (a := ⟨b, off + j, none⟩) (hk h0 b off hA hb)).trans (hc j u hu)⟩
theorem RV.below {w w' : World} {A : Option Addr} {vs : List Value} (h : RV w A vs) (hb : Below w.heap.size w w') : RV w' A vs := h.keep hb.size fun _ b _ _ hlt => hb.block b hlt
theorem RV.only {S : Nat → Prop} {w w' : World} {A : Option Addr} {vs : List Value} (h : RV w A vs) (ho : Only S w w') (hn : vs ≠ [] → ∀ b o, A = some ⟨b, o, none⟩ → ¬ S b) : RV w' A vs :=
  h.keep ho.size fun h0 b o hA hlt => ho.block b hlt (hn h0 b o hA)
theorem RV.alloc {w : World} {A : Option Addr} {vs : List Value} (h : RV w A vs) (o : Obj) : RV (w.alloc o) A vs := h.below ((Below.refl _ _).alloc (Nat.le_refl _) o)
theorem RV.drew {w : World} {A : Option Addr} {vs : List Value} (h : RV w A vs) : RV w.drew A vs := h
theorem RV.far {w : World} {A : Option Addr} {vs : List Value} (h : RV w A vs) {p : Addr} (hn : ∀ b o, A = some ⟨b, o, none⟩ → b ≠ p.block) (u : Value) : RV (w.setCell p u) A vs :=
  h.keep (by simp [World.setCell]) fun _ b o hA _ => Below.heap_setCell w p u b (hn b o hA)
theorem RV.at_ {w : World} {A : Option Addr} {vs : List Value} (h : RV w A vs) (hn : 0 < vs.length) : ∃ b off, A = some ⟨b, off, none⟩ ∧ b < w.heap.size ∧ ∀ j u, vs[j]? = some u → w.cell? ⟨b, off + j, none⟩ = some u := by
  rcases h with h | h
  · subst h; simp at hn
  · exact h
theorem RV.of_blk {w : World} {g : Nat} {t : TypeId} {cs : Array Value} (h : Blk w g t cs) : RV w (some ⟨g, 0, none⟩) cs.toList :=
  .inr ⟨g, 0, rfl, h.lt, fun j u hu => by rw [Nat.zero_add, h.cell]; simpa using hu⟩
theorem RV.of_own {w : World} {base size n c : Nat} {e : TypeId} {A : Option Addr} {vs : List Value} (h : w.ownsRow base e size (.slice A n c) n vs) : RV w A vs := by
  rcases h.2 with ⟨hv, hn⟩ | ⟨g, cap, cur, hv, hg, hh, hnc, hcm, hcs, htake⟩
  · subst hn; left; exact List.eq_nil_of_length_eq_zero (by simpa using h.1)
  · have hA : A = some ⟨g, 0, none⟩ := by injection hv
    subst hA
    right
    refine ⟨g, 0, rfl, (Array.getElem?_eq_some_iff.1 hh).1, fun j u hu => ?_⟩
    have := h.cells (g := g) rfl j u hu
    rw [addr_add] at this
    exact this
theorem RV.cut {w : World} {b off : Nat} {vs : List Value} (h : RV w (some ⟨b, off, none⟩) vs) (i k : Nat) : RV w (some ⟨b, off + i, none⟩) ((vs.drop i).take k) := by
  rcases h with h | ⟨b', off', hA, hb, hc⟩
  · left; subst h; simp
  · simp only [Option.some.injEq, Addr.mk.injEq, and_true] at hA
    obtain ⟨rfl, rfl⟩ := hA
    right
    refine ⟨b, off + i, rfl, hb, fun j u hu => ?_⟩
    rw [Nat.add_assoc]
    refine hc (i + j) u ?_
    rw [List.getElem?_take] at hu
    split at hu
    · rw [List.getElem?_drop] at hu; exact hu
    · cases hu

/-! ### A slice of the call's own; append -/
/-- The slice .slice A n c of elements of type e (size cells each) is the call's own, in blocks from base on, and its cells are vs. -/
abbrev Own (w : World) (base : Nat) (e : TypeId) (size : Nat) (A : Option Addr) (n c : Nat) (vs : List Value) : Prop := w.ownsRow base e size (.slice A n c) n vs
theorem own_block (A : Option Addr) (n c : Nat) : (Value.slice A n c).ownBlock = A.map (·.block) := by cases A <;> rfl
theorem Own.only {S : Nat → Prop} {w w' : World} {base size n c : Nat} {e : TypeId} {A : Option Addr} {vs : List Value} (h : Own w base e size A n c vs) (ho : Only S w w') (hn : ∀ b o, A = some ⟨b, o, none⟩ → ¬ S b) : Own w' base e size A n c vs := by
  refine ⟨h.1, ?_⟩
  rcases h.2 with h2 | ⟨g, cap, cur, hv, hg, hh, r⟩
  · exact .inl h2
  · refine .inr ⟨g, cap, cur, hv, hg, ?_, r⟩
    have hA : A = some ⟨g, 0, none⟩ := by injection hv
    rw [ho.block g (Array.getElem?_eq_some_iff.1 hh).1 (hn g 0 hA)]
    exact hh
theorem Own.below {w w' : World} {base size n c B : Nat} {e : TypeId} {A : Option Addr} {vs : List Value} (h : Own w base e size A n c vs) (hb : Below B w w') (hB : w.heap.size ≤ B) : Own w' base e size A n c vs :=
  h.only (S := fun _ => False) (Only.of_below hb fun k hk _ => by omega) fun _ _ _ h => h
theorem Own.lt {w : World} {base size n c : Nat} {e : TypeId} {A : Option Addr} {vs : List Value} (h : Own w base e size A n c vs) : ∀ b o, A = some ⟨b, o, none⟩ → base ≤ b ∧ b < w.heap.size ∧ o = 0 := by
  intro b o hA
  rcases h.2 with ⟨hv, hn⟩ | ⟨g, cap, cur, hv, hg, hh, r⟩
  · injection hv with h1; rw [h1] at hA; cases hA
  · have hA' : A = some ⟨g, 0, none⟩ := by injection hv
    rw [hA'] at hA
    simp only [Option.some.injEq, Addr.mk.injEq, and_true] at hA
    obtain ⟨rfl, rfl⟩ := hA
    exact ⟨hg, (Array.getElem?_eq_some_iff.1 hh).1, rfl⟩
theorem Own.row {w : World} {base size n c : Nat} {e : TypeId} {A : Option Addr} {vs : List Value} (h : Own w base e size A n c vs) : ∀ k, A.map (·.block) = some k → base ≤ k ∧ k < w.heap.size := by
  intro k hk
  rcases h.2 with ⟨hv, hn⟩ | ⟨g, cap, cur, hv, hg, hh, r⟩
  · injection hv with h1; rw [h1] at hk; cases hk
  · have hA' : A = some ⟨g, 0, none⟩ := by injection hv
    rw [hA'] at hk
    simp only [Option.map_some, Option.some.injEq] at hk
    subst hk
    exact ⟨hg, (Array.getElem?_eq_some_iff.1 hh).1⟩
theorem Own.mono {w : World} {base base' size n c : Nat} {e : TypeId} {A : Option Addr} {vs : List Value} (h : Own w base e size A n c vs) (hb : base' ≤ base) : Own w base' e size A n c vs := by
  refine ⟨h.1, ?_⟩
  rcases h.2 with h2 | ⟨g, cap, cur, hv, hg, r⟩
  · exact .inl h2
  · exact .inr ⟨g, cap, cur, hv, Nat.le_trans hb hg, r⟩
theorem Own.ne_blk {w : World} {base size n c g : Nat} {e t : TypeId} {A : Option Addr} {vs : List Value} {cs : Array Value} (h : Own w base e size A n c vs) (hg : Blk w g t cs) (hne : e ≠ t) : ∀ b o, A = some ⟨b, o, none⟩ → b ≠ g := by
  intro b o hA
  rcases h.2 with ⟨hv, hn⟩ | ⟨g', cap, cur, hv, hg', hh, r⟩
  · injection hv with h1; rw [h1] at hA; cases hA
  · have hA' : A = some ⟨g', 0, none⟩ := by injection hv
    rw [hA'] at hA
    simp only [Option.some.injEq, Addr.mk.injEq, and_true] at hA
    obtain ⟨rfl, _⟩ := hA
    rintro rfl
    unfold Blk at hg
    rw [hg] at hh
    injection hh with hh
    injection hh with _ ht
    exact hne ht.symm
theorem Own.nil (w : World) (base : Nat) (e : TypeId) (size : Nat) : Own w base e size none 0 0 [] := World.ownsRow_nil w base e size
theorem Own.lit (w : World) {base : Nat} (e : TypeId) (size n : Nat) (cs : Array Value) (hb : base ≤ w.heap.size) (hm : n ≤ maxLen) (hs : cs.size = n * size) : Own (w.alloc (.cells cs e)) base e size (some ⟨w.heap.size, 0, none⟩) n n cs.toList :=
  World.ownsRow_lit w cs n hb hm hs

section
variable {P : Program} {w : World}
/-- Of an element type what append asks: its zero, its cells, its bytes. -/
structure Elem (P : Program) (t e : TypeId) (size bytes : Nat) : Prop where
  ht : P.underlying t = some (.slice e)
  hi : ∃ i z, P.info? e = some i ∧ i.zero = some z ∧ i.size = size ∧ i.bytes = bytes ∧ z.cells.size = size
  hsz : 0 < size

theorem run_app {t e : TypeId} {size bytes : Nat} (E : Elem P t e size bytes) (ty : TypeId) {base n c : Nat} {A : Option Addr} {vs : List Value} (hown : Own w base e size A n c vs)
    {A' : Option Addr} {m c' : Nat} {us : List Value} (hr : RV w A' us) (hl : us.length = m * size) (h1 : ∀ u ∈ us, u.oneCell' = true)
    (h63 : n + m ≤ maxLen) (hbytes : (n + m) * bytes ≤ 140737488355328) (hbase : base ≤ w.heap.size) (hnil : A' = none → m = 0 ∧ c' = 0) :
    ∃ A2 c2 w', (Builtin.append_ #[t, t] ty #[.slice A n c, .slice A' m c']).run P w = .ok (.slice A2 (n + m) c2) w' ∧ Own w' base e size A2 (n + m) c2 (vs ++ us) ∧
      w.grownBy w' (A.map (·.block)) ∧ (A2.map (·.block) = A.map (·.block) ∨ A2.map (·.block) = some w.heap.size) := by
  obtain ⟨i, z, hi, hz, hsize, hby, hzs⟩ := E.hi
  have key : ∀ (v' : Value) (w' : World), w'.ownsRow base e size v' (n + m) (vs ++ us) → ∃ A2 c2, v' = Value.slice A2 (n + m) c2 := by
    intro v' w' h
    rcases h.2 with ⟨rfl, h0⟩ | ⟨g, cap, _, rfl, _⟩
    · exact ⟨none, 0, by rw [h0]⟩
    · exact ⟨_, _, rfl⟩
  cases A' with
  | none =>
    obtain ⟨rfl, rfl⟩ := hnil rfl
    have hus : us = [] := List.eq_nil_of_length_eq_zero (by simpa using hl)
    subst hus
    have hrun := run_append_owned_none (P := P) w base t ty e i size E.ht hi _ n vs hown
    exact ⟨A, c, w, hrun, by rw [List.append_nil]; exact hown, ⟨rfl, rfl, rfl, Nat.le_refl _, fun _ _ _ => rfl⟩, .inl rfl⟩
  | some a =>
    have hnews : ∀ j u, us[j]? = some u → w.cell? (a.add j) = some u := by
      intro j u hu
      rcases hr with h | ⟨b, off, hA, _, hc⟩
      · subst h; simp at hu
      · simp only [Option.some.injEq] at hA
        subst hA
        rw [addr_add]
        exact hc j u hu
    obtain ⟨v', w', hrun, h2, h3, _, h5⟩ := run_append_own_at (P := P) w base t ty e i z size bytes E.ht hi hz hsize hby hzs E.hsz _ n vs hown a m c' us hl hnews h1 h63 hbytes hbase
    obtain ⟨A2, c2, rfl⟩ := key v' w' h2
    simp only [own_block] at h3 h5
    exact ⟨A2, c2, w', hrun, h2, h3, h5⟩

theorem wp_app {o : Oper} {a : Act} {K : Act → World → Prop} {Q : Exit → Act → World → Prop} (s x : Operand) {t e : TypeId} {size bytes : Nat} (E : Elem P t e size bytes)
    (ho : o.op = .call { callee := .builtin .append, args := #[s, x], argTypes := #[t, t] })
    {base n c : Nat} {A : Option Addr} {vs : List Value} (hs : a.eval s = .slice A n c) (hown : Own w base e size A n c vs)
    {A' : Option Addr} {m c' : Nat} {us : List Value} (hx : a.eval x = .slice A' m c') (hr : RV w A' us) (hl : us.length = m * size) (h1 : ∀ u ∈ us, u.oneCell' = true)
    (h63 : n + m ≤ maxLen) (hbytes : (n + m) * bytes ≤ 140737488355328) (hbase : base ≤ w.heap.size) (hnil : A' = none → m = 0 ∧ c' = 0)
    (h : ∀ A2 c2 w', Own w' base e size A2 (n + m) c2 (vs ++ us) → w.grownBy w' (A.map (·.block)) → (A2.map (·.block) = A.map (·.block) ∨ A2.map (·.block) = some w.heap.size) → K (a.put o.dst (.slice A2 (n + m) c2)) w') : o.wp P a w K Q := by
  obtain ⟨A2, c2, w', hrun, h2, h3, h4⟩ := run_app (P := P) E o.type hown (c' := c') hr hl h1 h63 hbytes hbase hnil
  unfold Oper.wp execOp
  simp only [ho, resolve, invoke, builtin, Sem.run_bind, Sem.run_pure, Result.andThen_ok, List.map_toArray, List.map_cons, List.map_nil, hs, hx, hrun]
  exact h A2 c2 w' h2 h3 h4

theorem wpList_app {ops : Array Oper} {rest : List Oper} {o : Oper} {a : Act} {Q : Exit → Act → World → Prop} (hgd : o.guard = none) (s x : Operand) {t e : TypeId} {size bytes : Nat} (E : Elem P t e size bytes)
    (ho : o.op = .call { callee := .builtin .append, args := #[s, x], argTypes := #[t, t] })
    {base n c : Nat} {A : Option Addr} {vs : List Value} (hs : a.eval s = .slice A n c) (hown : Own w base e size A n c vs)
    {A' : Option Addr} {m c' : Nat} {us : List Value} (hx : a.eval x = .slice A' m c') (hr : RV w A' us) (hl : us.length = m * size) (h1 : ∀ u ∈ us, u.oneCell' = true)
    (h63 : n + m ≤ maxLen) (hbytes : (n + m) * bytes ≤ 140737488355328) (hbase : base ≤ w.heap.size) (hnil : A' = none → m = 0 ∧ c' = 0)
    (h : ∀ A2 c2 w', Own w' base e size A2 (n + m) c2 (vs ++ us) → w.grownBy w' (A.map (·.block)) → (A2.map (·.block) = A.map (·.block) ∨ A2.map (·.block) = some w.heap.size) → wpList P ops Q rest (a.put o.dst (.slice A2 (n + m) c2)) w') :
    wpList P ops Q (o :: rest) a w :=
  wpList_plain hgd fun _ hK => wp_app s x E ho hs hown hx hr hl h1 h63 hbytes hbase hnil fun A2 c2 w' h2 h3 h4 => hK _ _ (h A2 c2 w' h2 h3 h4)

/-- The same within a region that draws its order. -/
theorem step_app {ops : Array Oper} {o : Oper} {a : Act} {K : Act → World → Prop} {Q : Exit → Act → World → Prop} {F : Prop} (hgd : o.guard = none) (s x : Operand) {t e : TypeId} {size bytes : Nat} (E : Elem P t e size bytes)
    (ho : o.op = .call { callee := .builtin .append, args := #[s, x], argTypes := #[t, t] })
    {base n c : Nat} {A : Option Addr} {vs : List Value} (hs : a.eval s = .slice A n c) (hown : Own w base e size A n c vs)
    {A' : Option Addr} {m c' : Nat} {us : List Value} (hx : a.eval x = .slice A' m c') (hr : RV w A' us) (hl : us.length = m * size) (h1 : ∀ u ∈ us, u.oneCell' = true)
    (h63 : n + m ≤ maxLen) (hbytes : (n + m) * bytes ≤ 140737488355328) (hbase : base ≤ w.heap.size) (hnil : A' = none → m = 0 ∧ c' = 0)
    (h : ∀ A2 c2 w', Own w' base e size A2 (n + m) c2 (vs ++ us) → w.grownBy w' (A.map (·.block)) → (A2.map (·.block) = A.map (·.block) ∨ A2.map (·.block) = some w.heap.size) → K (a.put o.dst (.slice A2 (n + m) c2)) w') :
    if Region.wanted o (yielded ops a.tmps) = true then Oper.wp P o a w K Q else F := by
  have hw : Region.wanted o (yielded ops a.tmps) = true := by simp [Region.wanted, hgd]
  rw [if_pos hw]
  exact wp_app s x E ho hs hown hx hr hl h1 h63 hbytes hbase hnil h
end

/-! ### A text as bytes, bytes as a text -/
section
variable {P : Program} {w : World}
theorem run_strBytes (w : World) {src dst e : TypeId} (s : ByteArray) {u : TypeDesc} (hs : P.underlying src = some u) (hd : P.underlying dst = some (.slice e)) (he : P.underlying e = some (.int .u8)) :
    ∃ c w', (convert src dst (.string s)).run P w = .ok (.slice (some ⟨w.heap.size, 0, none⟩) s.size c) w' ∧ RV w' (some ⟨w.heap.size, 0, none⟩) (s.data.toList.map bv) ∧ Below w.heap.size w w' ∧ w'.heap.size = w.heap.size + 1 := by
  refine ⟨_, _, Lib.run_convert_string_bytes w src dst e s hs hd he, ?_, ?_, Lib.bytesWorld_size w e s⟩
  · right
    refine ⟨w.heap.size, 0, rfl, by rw [Lib.bytesWorld_size]; omega, fun j u hu => ?_⟩
    rw [List.getElem?_map] at hu
    obtain ⟨x, hx, rfl⟩ := Option.map_eq_some_iff.1 hu
    have hj : j < s.size := by
      have := (List.getElem?_eq_some_iff.1 hx).1
      rw [Array.length_toList] at this
      exact this
    rw [Nat.zero_add, Lib.bytesWorld_cell w e s j hj, List.getD_eq_getElem?_getD, hx]
    rfl
  · exact ⟨rfl, rfl, rfl, by rw [Lib.bytesWorld_size]; omega, fun k hk => Lib.bytesWorld_at_old w e s k hk⟩

theorem wp_strBytes {o : Oper} {a : Act} {K : Act → World → Prop} {Q : Exit → Act → World → Prop} (x : Operand) {src dst e : TypeId} (s : ByteArray) {u : TypeDesc} (ho : o.op = .convert src dst x) (hx : a.eval x = .string s)
    (hs : P.underlying src = some u) (hd : P.underlying dst = some (.slice e)) (he : P.underlying e = some (.int .u8))
    (h : ∀ c w', RV w' (some ⟨w.heap.size, 0, none⟩) (s.data.toList.map bv) → Below w.heap.size w w' → w'.heap.size = w.heap.size + 1 → K (a.put o.dst (.slice (some ⟨w.heap.size, 0, none⟩) s.size c)) w') : o.wp P a w K Q := by
  obtain ⟨c, w', hrun, h1, h2, h3⟩ := run_strBytes (P := P) w s hs hd he
  refine wp_of_run (v := .slice (some ⟨w.heap.size, 0, none⟩) s.size c) (w' := w') ?_ (h c w' h1 h2 h3)
  unfold execOp
  simp only [ho, hx, Sem.run_bind, hrun, Result.andThen_ok, Sem.run_pure]
theorem wpList_strBytes {ops : Array Oper} {rest : List Oper} {o : Oper} {a : Act} {Q : Exit → Act → World → Prop} (hgd : o.guard = none) (x : Operand) {src dst e : TypeId} (s : ByteArray) {u : TypeDesc} (ho : o.op = .convert src dst x) (hx : a.eval x = .string s)
    (hs : P.underlying src = some u) (hd : P.underlying dst = some (.slice e)) (he : P.underlying e = some (.int .u8))
    (h : ∀ c w', RV w' (some ⟨w.heap.size, 0, none⟩) (s.data.toList.map bv) → Below w.heap.size w w' → w'.heap.size = w.heap.size + 1 → wpList P ops Q rest (a.put o.dst (.slice (some ⟨w.heap.size, 0, none⟩) s.size c)) w') : wpList P ops Q (o :: rest) a w :=
  wpList_plain hgd fun _ hK => wp_strBytes x s ho hx hs hd he fun c w' h1 h2 h3 => hK _ _ (h c w' h1 h2 h3)

theorem getD_bytes (ys : List UInt8) (i : Nat) (h : i < ys.length) : (ys.map fun u => (u.toNat : Int)).getD i 0 = ys[i].toNat := by
  rw [List.getD_eq_getElem?_getD, List.getElem?_map, List.getElem?_eq_getElem h]; rfl
theorem strOf_bytes (ys : List UInt8) : strOfNums (ys.map fun u => (u.toNat : Int)) = ⟨ys.toArray⟩ := by
  have h : (strOfNums (ys.map fun u => (u.toNat : Int))).data.toList = ys := by
    rw [strOfNums_data, List.map_map]
    conv => rhs; rw [← List.map_id ys]
    exact List.map_congr_left fun u _ => by simp
  generalize strOfNums (ys.map fun u => (u.toNat : Int)) = z at h
  obtain ⟨d⟩ := z
  subst h
  rfl
theorem run_bytesStr {src dst e : TypeId} {A : Option Addr} {c : Nat} {ys : List UInt8} (hr : RV w A (ys.map bv)) (hs : P.underlying src = some (.slice e)) (he : P.underlying e = some (.int .u8)) (hd : P.underlying dst = some .string) :
    (convert src dst (.slice A ys.length c)).run P w = .ok (.string ⟨ys.toArray⟩) w := by
  rcases hr with h | ⟨b, off, rfl, hb, hcell⟩
  · have h0 : ys = [] := by simpa using h
    subst h0
    cases A with
    | none => exact run_convert_bytes_nil w src e hs he _ _ dst hd
    | some a =>
      have hl : (loadCells a 0).run P w = .ok (([] : List Int).map (Value.int .u8)).toArray w := run_loadCells_list (P := P) w a [] (fun j v hj => by simp at hj)
      rw [run_convert_bytes_string w src dst e _ _ c hs he hd]
      exact run_bytesToString w a 0 c [] hl
  · have h1 := run_convert_bytes_arg (P := P) w src e hs he b off ys.length c (ys.map fun u => (u.toNat : Int)) (by simp) (fun i hi => by
      rw [getD_bytes ys i hi]
      exact hcell i (bv ys[i]) (by rw [List.getElem?_map, List.getElem?_eq_getElem hi]; rfl)) dst hd
    rw [strOf_bytes] at h1
    exact h1
theorem wp_bytesStr {o : Oper} {a : Act} {K : Act → World → Prop} {Q : Exit → Act → World → Prop} (x : Operand) {src dst e : TypeId} {A : Option Addr} {c : Nat} {ys : List UInt8} (ho : o.op = .convert src dst x) (hx : a.eval x = .slice A ys.length c)
    (hr : RV w A (ys.map bv)) (hs : P.underlying src = some (.slice e)) (he : P.underlying e = some (.int .u8)) (hd : P.underlying dst = some .string)
    (h : K (a.put o.dst (.string ⟨ys.toArray⟩)) w) : o.wp P a w K Q := by
  refine wp_of_run (v := .string ⟨ys.toArray⟩) (w' := w) ?_ h
  unfold execOp
  simp only [ho, hx, Sem.run_bind, run_bytesStr (P := P) (c := c) hr hs he hd, Result.andThen_ok, Sem.run_pure]
theorem wpList_bytesStr {ops : Array Oper} {rest : List Oper} {o : Oper} {a : Act} {Q : Exit → Act → World → Prop} (hgd : o.guard = none) (x : Operand) {src dst e : TypeId} {A : Option Addr} {c : Nat} {ys : List UInt8} (ho : o.op = .convert src dst x) (hx : a.eval x = .slice A ys.length c)
    (hr : RV w A (ys.map bv)) (hs : P.underlying src = some (.slice e)) (he : P.underlying e = some (.int .u8)) (hd : P.underlying dst = some .string)
    (h : wpList P ops Q rest (a.put o.dst (.string ⟨ys.toArray⟩)) w) : wpList P ops Q (o :: rest) a w :=
  wpList_plain hgd fun _ hK => wp_bytesStr x ho hx hr hs he hd (hK _ _ h)
end

/-! ### make of one-cell elements -/
theorem wpList_make1 {P : Program} {w : World} {ops : Array Oper} {rest : List Oper} {o : Oper} {a : Act} {Q : Exit → Act → World → Prop} (hgd : o.guard = none) (l c : Operand) {t e : TypeId} {z : Value} {bytes : Nat}
    (ho : o.op = .makeSlice t l c) (ht : P.underlying t = some (.slice e)) (hinfo : (P.info? e).map (fun i => (i.zero, i.size, i.bytes)) = some (some z, 1, bytes)) (hzc : z.cells = #[z])
    (kl kc : IntKind) (L : Int) (n : Nat) (hl : a.eval l = .int kl L) (hc : a.eval c = .int kc L) (hL : L = n) (hb : bytes * n ≤ 281474976710656) (h63 : n ≤ maxLen)
    (h : ∀ w', Blk w' w.heap.size e (List.replicate n z).toArray → Below w.heap.size w w' → w'.heap.size = w.heap.size + 1 → wpList P ops Q rest (a.put o.dst (.slice (some ⟨w.heap.size, 0, none⟩) n n)) w') :
    wpList P ops Q (o :: rest) a w := by
  obtain ⟨i, hi, h1, h2, h3⟩ := info_parts hinfo
  refine wpList_plain hgd fun K hK => ?_
  subst hL
  have hb' : (i.bytes : Int) * (n : Int) ≤ 281474976710656 := by
    rw [h3]
    have h : ((bytes * n : Nat) : Int) ≤ 281474976710656 := by omega
    rwa [Int.natCast_mul] at h
  have h63' : (n : Int) ≤ 9223372036854775807 := by
    simp only [maxLen] at h63
    omega
  have hr := run_make (P := P) w t e i z ht hi h1 kl kc n n (by omega) (Int.le_refl _) hb' h63'
  simp only [Int.toNat_natCast] at hr
  have hcells : madeCells z.cells (n * i.size) = (List.replicate n z).toArray := by
    rw [h2, Nat.mul_one, hzc]
    exact Array.toList_inj.1 (by rw [toList_madeCells_one])
  rw [hcells] at hr
  refine wp_of_run (v := .slice (some ⟨w.heap.size, 0, none⟩) n n) ?_ (hK _ _ (h _ (Blk.new w e _) ((Below.refl _ _).alloc (Nat.le_refl _) _) (by simp)))
  unfold execOp
  simp only [ho, hl, hc, Sem.run_bind, hr, Result.andThen_ok, Sem.run_pure]
end

section
/- More laws for the walk: copy of one-cell elements into a block that is known whole. -/
open Go.RowKit

theorem only_setRow {w : World} (g : Nat) (cs : Array Value) : Only (fun k => k = g) w (w.setRow g cs) :=
  ⟨rfl, rfl, rfl, by simp, fun k _ hn => setRow_other w g k cs hn⟩

theorem wpList_copy1 {P : Program} {w : World} {ops : Array Oper} {rest : List Oper} {o : Oper} {a : Act} {Q : Exit → Act → World → Prop} (hgd : o.guard = none) (d s : Operand) {dT sT : TypeId}
    (ho : o.op = .call { callee := .builtin .copy, args := #[d, s], argTypes := #[dT, sT] }) {elem : TypeId} (hu : P.underlying dT = some (.slice elem)) (hsz : (P.info? elem).map (·.size) = some 1)
    {g off dLen dCap : Nat} {A : Option Addr} {n sLen sCap : Nat} (hd : a.eval d = .slice (some ⟨g, off, none⟩) dLen dCap) (hs : a.eval s = .slice A sLen sCap)
    {cur : List Value} {t : TypeId} (hg : Blk w g t cur.toArray) {us : List Value} (hr : RV w A us) (hn : us.length = n) (hmin : n = Nat.min sLen dLen) (hul : us.length ≤ sLen) (hfit : off + n ≤ cur.length) (h1 : ∀ u ∈ us, u.oneCell' = true)
    (h : ∀ w', Blk w' g t (splice cur off us).toArray → Only (fun k => k = g) w w' → wpList P ops Q rest (a.put o.dst (.int .i64 n)) w') :
    wpList P ops Q (o :: rest) a w := by
  subst hn
  rcases Nat.eq_zero_or_pos us.length with h0 | h0
  · obtain rfl : us = [] := List.eq_nil_of_length_eq_zero h0
    refine wpList_copy_nothing hgd d s dT sT ho elem hu hsz (some ⟨g, off, none⟩) A dLen dCap sLen sCap hd hs (by simpa using hmin.symm) ?_
    exact h w (by simpa [splice] using hg) (Only.refl _ _)
  · obtain ⟨b, o', rfl, hb, hc⟩ := hr.at_ h0
    refine wpList_copy_own hgd d s dT sT ho elem hu hsz g off dLen dCap ⟨b, o', none⟩ sLen sCap hd hs cur.toArray t hg us hmin (fun j v hj => by rw [addr_add]; exact hc j v hj) (by simpa using hfit) h1 ?_
    refine h _ ?_ (only_setRow g _)
    have := setRow_heap w g _ (cur.toArray.toList.take off ++ (us ++ cur.toArray.toList.drop (off + us.length))).toArray t _ hg
    exact this

/-- A block known as a list holds a cell at each of its places. -/
theorem Blk.some {w : World} {g : Nat} {t : TypeId} {cs : List Value} (h : Blk w g t cs.toArray) {i : Nat} (hi : i < cs.length) : ∃ v, w.cell? ⟨g, i, none⟩ = Option.some v :=
  ⟨cs[i], by rw [h.cell]; simp [List.getElem?_eq_getElem hi]⟩
theorem Blk.setL {w : World} {g : Nat} {t : TypeId} {cs : List Value} (h : Blk w g t cs.toArray) (i : Nat) (u : Value) : Blk (w.setCell ⟨g, i, none⟩ u) g t (cs.set i u).toArray := by
  have := h.set_ i u
  rwa [List.setIfInBounds_toArray] at this
theorem Blk.at_ {w : World} {g : Nat} {t : TypeId} {cs : List Value} (h : Blk w g t cs.toArray) (i : Nat) : w.cell? ⟨g, i, none⟩ = cs[i]? := by
  rw [h.cell]; simp
end
end Go.Proofs.Ytefaapcekbgjoaa
