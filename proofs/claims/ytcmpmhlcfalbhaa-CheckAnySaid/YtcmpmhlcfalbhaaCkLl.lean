/- A program that was lent with one mark behind each of its lists: plain. -/
import Derived.Test.YtcmpmhlcfalbhaaPrgTl
namespace Go.Proofs.Ytcmpmhlcfalbhaa
open Go.RowKit

def markF7 : FunM := ⟨-7, 0, 0, none, 0, []⟩
def markI7 : Ins := ⟨-7, 0⟩
theorem own_short {w : World} {base size n c : Nat} {e : TypeId} {A : Option Addr} {vs us : List Value} (h : Own w base e size A (n + 1) c (vs ++ us)) (hu : us.length = size) : Own w base e size A n c vs := by
  obtain ⟨hl, h2⟩ := h
  rw [List.length_append, hu, Nat.add_mul, Nat.one_mul] at hl
  have hvl : vs.length = n * size := by omega
  refine ⟨hvl, ?_⟩
  rcases h2 with ⟨_, h0⟩ | ⟨g, cap, cur, hv, hg, hh, hnc, hcm, hcs, ht⟩
  · omega
  · injection hv with h1 h3 h4
    subst h4
    refine .inr ⟨g, c, cur, by rw [h1], hg, hh, by omega, hcm, hcs, ?_⟩
    have h5 : cur.toList.take (n * size) = (cur.toList.take ((n + 1) * size)).take (n * size) := by
      rw [List.take_take, Nat.min_eq_left (Nat.mul_le_mul_right _ (by omega))]
    rw [h5, ht, List.take_append_of_le_length (by omega), List.take_of_length_le (by omega)]
/-- A function's code, marked. -/
def CodeK (w : World) (base : Nat) (f : FunM) : Prop := Own w base 45 2 f.A (f.code.length + 1) f.c ((f.code ++ [markI7]).flatMap insCells)
def CodeU (w : World) (base : Nat) (f : FunM) : Prop := Own w base 45 2 f.A f.code.length f.c (f.code.flatMap insCells)
theorem CodeK.bare {w : World} {base : Nat} {f : FunM} (h : CodeK w base f) : CodeU w base f := own_short (us := insCells markI7) (by have h1 := h; unfold CodeK at h1; rw [List.flatMap_append] at h1; simpa using h1) rfl
/-- A row of functions, the first k marked. -/
structure RowK (w : World) (base k : Nat) (hs : List FunM) : Prop where
  done : ∀ (i : Nat) (f : FunM), hs[i]? = some f → i < k → CodeK w base f
  rest : ∀ (i : Nat) (f : FunM), hs[i]? = some f → k ≤ i → CodeU w base f
  apart : ∀ (i j : Nat) (f g : FunM), hs[i]? = some f → hs[j]? = some g → i ≠ j → ∀ b, f.A.map (·.block) = some b → g.A.map (·.block) ≠ some b
theorem RowK.bare {w : World} {base k : Nat} {hs : List FunM} (h : RowK w base k hs) (i : Nat) (f : FunM) (hi : hs[i]? = some f) : CodeU w base f := by
  by_cases hik : i < k
  · exact (h.done i f hi hik).bare
  · exact h.rest i f hi (by omega)
theorem RowK.mine {w : World} {base k : Nat} {hs : List FunM} (h : RowK w base k hs) : MineR w base hs := by
  refine ⟨fun f hf => ?_, h.apart⟩
  obtain ⟨i, hi⟩ := List.getElem?_of_mem hf
  exact h.bare i f hi
theorem RowK.of_mine {w : World} {base : Nat} {hs : List FunM} (h : MineR w base hs) : RowK w base 0 hs :=
  ⟨fun _ _ _ h0 => absurd h0 (Nat.not_lt_zero _), fun _ f hi _ => h.code f (List.mem_of_getElem? hi), h.apart⟩
theorem RowK.only {S : Nat → Prop} {w w' : World} {base k : Nat} {hs : List FunM} (h : RowK w base k hs) (ho : Only S w w') (hS : ∀ f ∈ hs, ∀ b, f.A.map (·.block) = some b → ¬ S b) : RowK w' base k hs :=
  ⟨fun i f hi hk => Own.only (h.done i f hi hk) ho fun b o e => hS f (List.mem_of_getElem? hi) b (by rw [e]; rfl),
    fun i f hi hk => Own.only (h.rest i f hi hk) ho fun b o e => hS f (List.mem_of_getElem? hi) b (by rw [e]; rfl), h.apart⟩
theorem RowK.mono {w : World} {base base' k : Nat} {hs : List FunM} (h : RowK w base k hs) (hb : base' ≤ base) : RowK w base' k hs := ⟨fun i f hi hk => Own.mono (h.done i f hi hk) hb, fun i f hi hk => Own.mono (h.rest i f hi hk) hb, h.apart⟩
theorem RowK.lt {w : World} {base k : Nat} {hs : List FunM} (h : RowK w base k hs) : ∀ f ∈ hs, ∀ b, f.A.map (·.block) = some b → base ≤ b ∧ b < w.heap.size := fun f hf b e => Own.row (h.mine.code f hf) b e
/-- The next one is marked: its code lies in its own block, or in a new one. -/
theorem RowK.step {w w' : World} {base k : Nat} {hs : List FunM} (h : RowK w base k hs) {x y : FunM} (hx : hs[k]? = some x) (hy : CodeK w' base y)
    (ho : w.grownBy w' (x.A.map (·.block))) (hA : y.A.map (·.block) = x.A.map (·.block) ∨ y.A.map (·.block) = some w.heap.size) : RowK w' base (k + 1) (hs.set k y) := by
  have hkl : k < hs.length := by
    by_cases h1 : k < hs.length
    · exact h1
    · rw [List.getElem?_eq_none (by omega)] at hx; cases hx
  have hget : ∀ (i : Nat) (f : FunM), (hs.set k y)[i]? = some f → (i = k ∧ f = y) ∨ (i ≠ k ∧ hs[i]? = some f) := by
    intro i f hi
    by_cases hik : i = k
    · subst hik
      rw [List.getElem?_set_self hkl] at hi
      injection hi with hi
      exact .inl ⟨rfl, hi.symm⟩
    · rw [List.getElem?_set_ne (fun e => hik e.symm)] at hi
      exact .inr ⟨hik, hi⟩
  have hO : Only (fun b => x.A.map (·.block) = some b) w w' := Only.of_grown ho fun _ e => e
  have hne : ∀ (i : Nat) (f : FunM), i ≠ k → hs[i]? = some f → ∀ b, f.A.map (·.block) = some b → ¬ x.A.map (·.block) = some b := fun i f hik hi b e => h.apart i k f x hi hx hik b e
  refine ⟨fun i f hi hik => ?_, fun i f hi hik => ?_, fun i j f g hi hj hij b e1 e2 => ?_⟩
  · rcases hget i f hi with ⟨-, rfl⟩ | ⟨hn, hi'⟩
    · exact hy
    · exact Own.only (h.done i f hi' (by omega)) hO fun b o e => hne i f hn hi' b (by rw [e]; rfl)
  · rcases hget i f hi with ⟨e, -⟩ | ⟨hn, hi'⟩
    · omega
    · exact Own.only (h.rest i f hi' (by omega)) hO fun b o e => hne i f hn hi' b (by rw [e]; rfl)
  · rcases hget i f hi with ⟨rfl, rfl⟩ | ⟨hn, hi'⟩
    · rcases hget j g hj with ⟨e, -⟩ | ⟨hn2, hj'⟩
      · exact hij e.symm
      · rcases hA with hA | hA
        · exact hne j g hn2 hj' b e2 (by rw [← hA]; exact e1)
        · have := (h.lt g (List.mem_of_getElem? hj') b e2).2
          rw [hA] at e1
          injection e1 with e1
          omega
    · rcases hget j g hj with ⟨e, rfl⟩ | ⟨hn2, hj'⟩
      · rcases hA with hA | hA
        · exact hne i f hn hi' b e1 (by rw [← hA]; exact e2)
        · have := (h.lt f (List.mem_of_getElem? hi') b e1).2
          rw [hA] at e2
          injection e2 with e2
          omega
      · exact h.apart i j f g hi' hj' hij b e1 e2
/-- A program as it was lent. -/
structure Lent13 (w : World) (base : Nat) (q : PrgM) : Prop where
  data : OwnB w base q.AD (q.data.length + 1) q.cD (q.data ++ [0xA9])
  funs : Own w base 43 4 q.AF (q.fs.length + 1) q.cF ((q.fs ++ [markF7]).flatMap funCells)
  row : RowK w base q.fs.length q.fs
theorem Lent13.mine {w : World} {base : Nat} {q : PrgM} (h : Lent13 w base q) : PrgMine w base q := by
  refine ⟨?_, ?_, h.row.mine⟩
  · have h1 := h.data
    unfold OwnB at h1 ⊢
    rw [List.map_append] at h1
    exact own_short h1 rfl
  · have h1 := h.funs
    rw [List.flatMap_append] at h1
    exact own_short h1 (by simp [funCells])
theorem Lent13.only {S : Nat → Prop} {w w' : World} {base : Nat} {q : PrgM} (h : Lent13 w base q) (ho : Only S w w') (hS : ∀ b, base ≤ b → b < w.heap.size → ¬ S b) : Lent13 w' base q :=
  ⟨Own.only h.data ho fun b o e => hS b (Own.lt h.data b o e).1 (Own.lt h.data b o e).2.1, Own.only h.funs ho fun b o e => hS b (Own.lt h.funs b o e).1 (Own.lt h.funs b o e).2.1,
    h.row.only ho fun f hf b e => hS b (h.row.lt f hf b e).1 (h.row.lt f hf b e).2⟩
theorem Lent13.below {w w' : World} {base : Nat} {q : PrgM} (h : Lent13 w base q) (hb : Below w.heap.size w w') : Lent13 w' base q := h.only (S := fun _ => False) (Only.of_fresh hb) fun _ _ _ h => h
theorem Lent13.mono {w : World} {base base' : Nat} {q : PrgM} (h : Lent13 w base q) (hb : base' ≤ base) : Lent13 w base' q := ⟨Own.mono h.data hb, Own.mono h.funs hb, h.row.mono hb⟩
def Lend13Post (w : World) (p : PrgM) (e : Ending) (w' : World) : Prop := ∃ q, e = .returned q.val ∧ q.plain = p.plain ∧ Lent13 w' w.heap.size q ∧ Below w.heap.size w w'
end Go.Proofs.Ytcmpmhlcfalbhaa
