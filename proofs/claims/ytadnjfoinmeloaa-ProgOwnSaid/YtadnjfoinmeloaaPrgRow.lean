/- A row of programs, all their lists the call's own, in unlike blocks: plain. -/
import Derived.Test.YtadnjfoinmeloaaPrgTl
import Derived.Test.YtadnjfoinmeloaaGenL
namespace Go.Proofs.Ytadnjfoinmeloaa
open Go.RowKit

def prgCells (p : PrgM) : List Value := [.int .i64 p.mem, .slice p.AD p.data.length p.cD, .slice p.AF p.fs.length p.cF]
theorem prgCells_len (l : List PrgM) : (l.flatMap prgCells).length = l.length * 3 := by
  induction l with
  | nil => rfl
  | cons x l ih => rw [List.flatMap_cons, List.length_append, ih, List.length_cons]; simp [prgCells]; omega
theorem prgCells_get (l : List PrgM) (k j : Nat) (p : PrgM) (hp : l[k]? = some p) (hj : j < 3) : (l.flatMap prgCells)[k * 3 + j]? = (prgCells p)[j]? := by
  induction l generalizing k with
  | nil => cases hp
  | cons x l ih =>
    rw [List.flatMap_cons]
    cases k with
    | zero =>
      simp at hp
      subst hp
      rw [Nat.zero_mul, Nat.zero_add, List.getElem?_append_left (by simp [prgCells]; omega)]
    | succ k =>
      rw [List.getElem?_append_right (by simp [prgCells]; omega), show (k + 1) * 3 + j - (prgCells x).length = k * 3 + j from by simp [prgCells]; omega]
      exact ih k (by simpa using hp)
/-- The three cells of a program in a row. -/
theorem prg_cells {w : World} {b off : Nat} {l : List PrgM} (hc : ∀ j u, (l.flatMap prgCells)[j]? = some u → w.cell? ⟨b, off + j, none⟩ = some u) (k : Nat) (p : PrgM) (hp : l[k]? = some p) :
    w.cell? ⟨b, off + k * 3, none⟩ = some (.int .i64 p.mem) ∧ w.cell? ⟨b, off + k * 3 + 1, none⟩ = some (.slice p.AD p.data.length p.cD) ∧ w.cell? ⟨b, off + k * 3 + 2, none⟩ = some (.slice p.AF p.fs.length p.cF) := by
  have q0 := hc _ _ (prgCells_get l k 0 p hp (by omega))
  have q1 := hc _ _ (prgCells_get l k 1 p hp (by omega))
  have q2 := hc _ _ (prgCells_get l k 2 p hp (by omega))
  rw [← Nat.add_assoc] at q1 q2
  exact ⟨q0, q1, q2⟩
/-- The data lists of a row of programs; the first six functions of each. -/
def dataLs (l : List PrgM) : List LG := l.map fun p => ⟨p.AD, p.data.length, p.cD⟩
def codeFs (l : List PrgM) : List FunM := l.flatMap fun p => p.fs.take 6
def codeLs (l : List PrgM) : List LG := (codeFs l).map fun f => ⟨f.A, f.code.length, f.c⟩
theorem ApartF.append {a b : List FunM} (n : Nat) (ha : ApartF a) (hb : ApartF b) (hla : ∀ f ∈ a, ∀ k, f.A.map (·.block) = some k → k < n) (hlb : ∀ f ∈ b, ∀ k, f.A.map (·.block) = some k → n ≤ k) : ApartF (a ++ b) := by
  have key : ∀ (k : Nat) (y : FunM), (a ++ b)[k]? = some y → (k < a.length ∧ a[k]? = some y) ∨ (a.length ≤ k ∧ b[k - a.length]? = some y) := by
    intro k y hk
    by_cases h1 : k < a.length
    · rw [List.getElem?_append_left h1] at hk; exact .inl ⟨h1, hk⟩
    · rw [List.getElem?_append_right (by omega)] at hk
      exact .inr ⟨by omega, hk⟩
  intro i j f g hi hj hij k e1 e2
  rcases key i f hi with ⟨h1, h2⟩ | ⟨h1, h2⟩
  · rcases key j g hj with ⟨h3, h4⟩ | ⟨h3, h4⟩
    · exact ha i j f g h2 h4 hij k e1 e2
    · have := hla f (List.mem_of_getElem? h2) k e1
      have := hlb g (List.mem_of_getElem? h4) k e2
      omega
  · rcases key j g hj with ⟨h3, h4⟩ | ⟨h3, h4⟩
    · have := hla g (List.mem_of_getElem? h4) k e2
      have := hlb f (List.mem_of_getElem? h2) k e1
      omega
    · exact hb _ _ f g h2 h4 (by omega) k e1 e2
theorem ApartF.take {a : List FunM} (h : ApartF a) (n : Nat) : ApartF (a.take n) := by
  intro i j f g hi hj
  rw [List.getElem?_take] at hi hj
  split at hi
  · split at hj
    · exact h i j f g hi hj
    · cases hj
  · cases hi
theorem codeFs_append (l : List PrgM) (x : PrgM) : codeFs (l ++ [x]) = codeFs l ++ x.fs.take 6 := by
  unfold codeFs
  rw [List.flatMap_append, List.flatMap_cons, List.flatMap_nil, List.append_nil]
/-- A row of programs: each is the call's own; no list lies where another does. -/
structure RowP (w : World) (B : Nat) (l : List PrgM) : Prop where
  own : ∀ p ∈ l, PrgMine w B p
  ok : ∀ p ∈ l, PrgOk p.plain
  dsole : ∀ (i j : Nat) (p q : PrgM), l[i]? = some p → l[j]? = some q → i ≠ j → ∀ b, p.AD.map (·.block) = some b → q.AD.map (·.block) ≠ some b
  csole : ApartF (codeFs l)
theorem RowP.nil (w : World) (B : Nat) : RowP w B [] := ⟨(fun p h => by cases h), (fun p h => by cases h), (fun i j p q h => by cases h), ApartF.nil⟩
theorem RowP.below {w w' : World} {B : Nat} {l : List PrgM} (h : RowP w B l) (hb : Below w.heap.size w w') : RowP w' B l := ⟨fun p hp => (h.own p hp).below hb, h.ok, h.dsole, h.csole⟩
theorem codeFs_mem {l : List PrgM} {f : FunM} (h : f ∈ codeFs l) : ∃ p ∈ l, f ∈ p.fs := by
  obtain ⟨p, hp, hf⟩ := List.mem_flatMap.1 h
  exact ⟨p, hp, List.mem_of_mem_take hf⟩
/-- One more program, of later memory. -/
theorem RowP.push {w : World} {B B2 : Nat} {l : List PrgM} (h : RowP w B l) {x : PrgM} (hx : PrgMine w B2 x) (hok : PrgOk x.plain) (hb : B ≤ B2)
    (hlt : ∀ p ∈ l, (∀ b, p.AD.map (·.block) = some b → b < B2) ∧ ∀ f ∈ p.fs, ∀ b, f.A.map (·.block) = some b → b < B2) : RowP w B (l ++ [x]) := by
  have key : ∀ (k : Nat) (y : PrgM), (l ++ [x])[k]? = some y → l[k]? = some y ∨ (k = l.length ∧ y = x) := by
    intro k y hk
    by_cases h1 : k < l.length
    · rw [List.getElem?_append_left h1] at hk; exact .inl hk
    · rw [List.getElem?_append_right (by omega)] at hk
      obtain h2 | h2 : k - l.length = 0 ∨ 0 < k - l.length := by omega
      · rw [h2] at hk
        injection hk with hk
        exact .inr ⟨by omega, hk.symm⟩
      · rw [List.getElem?_eq_none (by rw [List.length_singleton]; exact h2)] at hk
        cases hk
  refine ⟨fun p hp => ?_, fun p hp => ?_, fun i j p q hi hj hij b e1 e2 => ?_, ?_⟩
  · rcases List.mem_append.1 hp with hp | hp
    · exact h.own p hp
    · obtain rfl : p = x := by simpa using hp
      exact hx.mono hb
  · rcases List.mem_append.1 hp with hp | hp
    · exact h.ok p hp
    · obtain rfl : p = x := by simpa using hp
      exact hok
  · rcases key i p hi with h1 | ⟨h1, rfl⟩
    · rcases key j q hj with h2 | ⟨h2, rfl⟩
      · exact h.dsole i j p q h1 h2 hij b e1 e2
      · have := (hlt p (List.mem_of_getElem? h1)).1 b e1
        have := (Own.row hx.data b e2).1
        omega
    · rcases key j q hj with h2 | ⟨h2, rfl⟩
      · have := (hlt q (List.mem_of_getElem? h2)).1 b e2
        have := (Own.row hx.data b e1).1
        omega
      · omega
  · rw [codeFs_append]
    refine ApartF.append B2 h.csole (ApartF.take hx.row.apart 6) (fun f hf k e => ?_) (fun f hf k e => ?_)
    · obtain ⟨p, hp, hf2⟩ := codeFs_mem hf
      exact (hlt p hp).2 f hf2 k e
    · exact (hx.row.lt f (List.mem_of_mem_take hf) k e).1
theorem PrgOwn.mine {w : World} {base : Nat} {p : PrgM} (h : PrgOwn w base p) : PrgMine w base p := ⟨h.data, h.funs, ⟨h.code, h.apart⟩⟩
/-- A row that is appended to, while something else is written: told anew from here. -/
theorem MoreG.keep {w0 wr w' : World} {B base : Nat} {e rowT : TypeId} {sz : Nat} {ps : List LG} {mk : Nat → List Value} {tl : Nat → Nat → List Value} {m : Nat → Nat} {GA : Nat → Option Addr} {GC : Nat → Nat} {AM : Option Addr} {cM : Nat} (T : Nat → Prop)
    (h : MoreG w0 wr B base e rowT sz ps mk tl m GA GC AM cM) (ho : Only T wr w') (h1 : ∀ b, AM.map (·.block) = some b → ¬ T b) (h2 : ∀ t p, ps[t]? = some p → ∀ b, ((GA t).map (·.block) = some b ∨ p.A.map (·.block) = some b) → ¬ T b) :
    MoreG { w' with heap := #[] } w' B base e rowT sz ps mk tl m GA GC AM cM := by
  have hz := ho.size
  refine ⟨Own.only h.row ho fun b o e e2 => h1 b (by rw [e]; rfl) e2, fun t p hp => ?_, h.sole, ⟨rfl, rfl, rfl, Nat.zero_le _, fun k hk => absurd hk (Nat.not_lt_zero _)⟩, by have := h.size; omega⟩
  obtain ⟨ho1, hr1, hf1⟩ := h.done t p hp
  exact ⟨Own.only ho1 ho fun b o e e2 => h2 t p hp b (.inl (by rw [e]; rfl)) e2, hr1.only ho fun _ b o e e2 => h2 t p hp b (.inr (by rw [e]; rfl)) e2, hf1⟩
end Go.Proofs.Ytadnjfoinmeloaa
