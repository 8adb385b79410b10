/- Several texts in one: ChO ChH. -/
import Derived.Test.YtcmpmhlcfalbhaaChPa
namespace Go.Proofs.Ytcmpmhlcfalbhaa

section
/- Which jump, local or call is not there: plain. -/
open Go.RowKit

def badOp (P : Prg) (g : Fun) (i : Ins) : Int :=
  if i.op = 14 ∨ i.op = 15 ∨ i.op = 16 then (if (g.code.length : Int) ≤ i.a then 131 else 0) else
  if i.op = 7 ∨ i.op = 8 then (if g.locals ≤ i.a then 132 else 0) else
  if i.op = 17 then (if (P.fs.length : Int) ≤ i.a then 133 else 0) else 0
def firstI (bad : Ins → Int) : List Ins → Nat → Option (Int × Nat)
  | [], _ => none
  | i :: l, n => if bad i = 0 then firstI bad l (n + 1) else some (bad i, n)
abbrev Flt := Option (Int × Int × Int)
def joinF (o : Option (Int × Nat)) (k : Int) (rest : Flt) : Flt :=
  match o with
  | some (e, n) => some (e, k, (n : Int))
  | none => rest
def firstP (P : Prg) : List Fun → Nat → Flt
  | [], _ => none
  | g :: l, k => joinF (firstI (badOp P g) g.code 0) k (firstP P l (k + 1))
def faultV : Flt → Value
  | none => .agg #[.int .i64 0, .int .i64 0, .int .i64 0]
  | some (e, f, n) => .agg #[.int .i64 e, .int .i64 f, .int .i64 n]
theorem badOp_cases (P : Prg) (g : Fun) (i : Ins) :
    ((i.op = 14 ∨ i.op = 15 ∨ i.op = 16) ∧ (g.code.length : Int) ≤ i.a ∧ badOp P g i = 131) ∨ ((i.op = 14 ∨ i.op = 15 ∨ i.op = 16) ∧ ¬ (g.code.length : Int) ≤ i.a ∧ badOp P g i = 0) ∨
    ((i.op = 7 ∨ i.op = 8) ∧ g.locals ≤ i.a ∧ badOp P g i = 132) ∨ ((i.op = 7 ∨ i.op = 8) ∧ ¬ g.locals ≤ i.a ∧ badOp P g i = 0) ∨
    (i.op = 17 ∧ (P.fs.length : Int) ≤ i.a ∧ badOp P g i = 133) ∨ (i.op = 17 ∧ ¬ (P.fs.length : Int) ≤ i.a ∧ badOp P g i = 0) ∨
    (i.op ≠ 14 ∧ i.op ≠ 15 ∧ i.op ≠ 16 ∧ i.op ≠ 7 ∧ i.op ≠ 8 ∧ i.op ≠ 17 ∧ badOp P g i = 0) := by
  unfold badOp
  by_cases h1 : i.op = 14 ∨ i.op = 15 ∨ i.op = 16
  · by_cases h2 : (g.code.length : Int) ≤ i.a
    · exact .inl ⟨h1, h2, by rw [if_pos h1, if_pos h2]⟩
    · exact .inr (.inl ⟨h1, h2, by rw [if_pos h1, if_neg h2]⟩)
  by_cases h3 : i.op = 7 ∨ i.op = 8
  · by_cases h2 : g.locals ≤ i.a
    · exact .inr (.inr (.inl ⟨h3, h2, by rw [if_neg h1, if_pos h3, if_pos h2]⟩))
    · exact .inr (.inr (.inr (.inl ⟨h3, h2, by rw [if_neg h1, if_pos h3, if_neg h2]⟩)))
  by_cases h4 : i.op = 17
  · by_cases h2 : (P.fs.length : Int) ≤ i.a
    · exact .inr (.inr (.inr (.inr (.inl ⟨h4, h2, by rw [if_neg h1, if_neg h3, if_pos h4, if_pos h2]⟩))))
    · exact .inr (.inr (.inr (.inr (.inr (.inl ⟨h4, h2, by rw [if_neg h1, if_neg h3, if_pos h4, if_neg h2]⟩)))))
  · exact .inr (.inr (.inr (.inr (.inr (.inr ⟨by omega, by omega, by omega, by omega, by omega, h4, by rw [if_neg h1, if_neg h3, if_neg h4]⟩)))))
theorem firstI_none {bad : Ins → Int} {l : List Ins} {n : Nat} (h : firstI bad l n = none) : ∀ i ∈ l, bad i = 0 := by
  induction l generalizing n with
  | nil => intro i hi; cases hi
  | cons x l ih =>
    unfold firstI at h
    by_cases hx : bad x = 0
    · rw [if_pos hx] at h
      intro i hi
      rcases List.mem_cons.1 hi with rfl | hi
      · exact hx
      · exact ih h i hi
    · rw [if_neg hx] at h; cases h
theorem firstP_none {P : Prg} {l : List Fun} {k : Nat} (h : firstP P l k = none) : ∀ g ∈ l, ∀ i ∈ g.code, badOp P g i = 0 := by
  induction l generalizing k with
  | nil => intro g hg; cases hg
  | cons x l ih =>
    unfold firstP at h
    cases hx : firstI (badOp P x) x.code 0 with
    | none =>
      rw [hx] at h
      intro g hg
      rcases List.mem_cons.1 hg with rfl | hg
      · exact firstI_none hx
      · exact ih h g hg
    | some y => rw [hx] at h; cases h
end

section
/- Heights: plain. -/
open Go.RowKit

/-- What stands against an instruction over so many operands, and how many lie behind it. -/
def standI (P : Prg) (f n : Nat) (i : Ins) (h : Int) : Int × Int :=
  if (if i.op = 18 then h ≠ P.results f else (if i.op = 5 then i.a + 1 else (takesL P f n).1) > h) then ((if i.op = 18 then 138 else 134), 0) else
  if 256 < h - (takesL P f n).1 + (takesL P f n).2 then (135, 0) else
  if (goesL i n).any (fun x => decide ((P.len f : Int) ≤ x)) then (137, 0) else (0, h - (takesL P f n).1 + (takesL P f n).2)
def goN (i : Ins) (n : Nat) : List Nat := (goesL i n).map Int.toNat
/-- What lies behind a place is told to those that it goes on to. -/
def spread (b : Int) : List Nat → List Int → List Bool → Option (List Int × List Bool)
  | [], h, ws => some (h, ws)
  | x :: l, h, ws => if h[x]? = some (-1) then spread b l (h.set x b) (ws.set x true) else if h[x]? = some b then spread b l h ws else none
abbrev HRes := List Int ⊕ (Int × Nat)
/-- The least place that waits is taken, again and again. -/
inductive HRuns (P : Prg) (f : Nat) : List Int → List Bool → HRes → Prop
  | done {h : List Int} {ws : List Bool} : (∀ j : Nat, ws[j]? ≠ some true) → HRuns P f h ws (.inl h)
  | bad {h : List Int} {ws : List Bool} {n : Nat} {i : Ins} {x e b : Int} : ws[n]? = some true → (∀ j, j < n → ws[j]? ≠ some true) → h[n]? = some x → P.ins f n = some i → standI P f n i x = (e, b) → e ≠ 0 → HRuns P f h ws (.inr (e, n))
  | join {h : List Int} {ws : List Bool} {n : Nat} {i : Ins} {x b : Int} : ws[n]? = some true → (∀ j, j < n → ws[j]? ≠ some true) → h[n]? = some x → P.ins f n = some i → standI P f n i x = (0, b) →
      spread b (goN i n) h (ws.set n false) = none → HRuns P f h ws (.inr (136, n))
  | step {h h' : List Int} {ws ws' : List Bool} {n : Nat} {i : Ins} {x b : Int} {R : HRes} : ws[n]? = some true → (∀ j, j < n → ws[j]? ≠ some true) → h[n]? = some x → P.ins f n = some i → standI P f n i x = (0, b) →
      spread b (goN i n) h (ws.set n false) = some (h', ws') → HRuns P f h' ws' R → HRuns P f h ws R
theorem least_eq {ws : List Bool} {n m : Nat} (h1 : ws[n]? = some true) (h2 : ∀ j, j < n → ws[j]? ≠ some true) (k1 : ws[m]? = some true) (k2 : ∀ j, j < m → ws[j]? ≠ some true) : n = m := by
  rcases Nat.lt_trichotomy n m with h | h | h
  · exact absurd h1 (k2 n h)
  · exact h
  · exact absurd k1 (h2 m h)
theorem HRuns.det {P : Prg} {f : Nat} {h : List Int} {ws : List Bool} {R S : HRes} (hR : HRuns P f h ws R) : HRuns P f h ws S → R = S := by
  induction hR with
  | done hd =>
    intro hS
    cases hS with
    | done _ => rfl
    | bad k1 => exact absurd k1 (hd _)
    | join k1 => exact absurd k1 (hd _)
    | step k1 => exact absurd k1 (hd _)
  | bad h1 h2 h3 h4 h5 h6 =>
    intro hS
    cases hS with
    | done hd => exact absurd h1 (hd _)
    | bad k1 k2 k3 k4 k5 k6 =>
      have e := least_eq h1 h2 k1 k2
      subst e
      rw [h3] at k3; injection k3 with k3; subst k3
      rw [h4] at k4; injection k4 with k4; subst k4
      rw [h5] at k5; injection k5 with k5 k5'; subst k5
      rfl
    | join k1 k2 k3 k4 k5 k6 =>
      have e := least_eq h1 h2 k1 k2
      subst e
      rw [h3] at k3; injection k3 with k3; subst k3
      rw [h4] at k4; injection k4 with k4; subst k4
      rw [h5] at k5; injection k5 with k5 k5'
      exact absurd k5 h6
    | step k1 k2 k3 k4 k5 k6 k7 =>
      have e := least_eq h1 h2 k1 k2
      subst e
      rw [h3] at k3; injection k3 with k3; subst k3
      rw [h4] at k4; injection k4 with k4; subst k4
      rw [h5] at k5; injection k5 with k5 k5'
      exact absurd k5 h6
  | join h1 h2 h3 h4 h5 h6 =>
    intro hS
    cases hS with
    | done hd => exact absurd h1 (hd _)
    | bad k1 k2 k3 k4 k5 k6 =>
      have e := least_eq h1 h2 k1 k2
      subst e
      rw [h3] at k3; injection k3 with k3; subst k3
      rw [h4] at k4; injection k4 with k4; subst k4
      rw [h5] at k5; injection k5 with k5 k5'
      exact absurd k5.symm k6
    | join k1 k2 k3 k4 k5 k6 =>
      have e := least_eq h1 h2 k1 k2
      subst e
      rfl
    | step k1 k2 k3 k4 k5 k6 k7 =>
      have e := least_eq h1 h2 k1 k2
      subst e
      rw [h3] at k3; injection k3 with k3; subst k3
      rw [h4] at k4; injection k4 with k4; subst k4
      rw [h5] at k5; injection k5 with k5 k5'; subst k5'
      rw [h6] at k6; cases k6
  | step h1 h2 h3 h4 h5 h6 h7 ih =>
    intro hS
    cases hS with
    | done hd => exact absurd h1 (hd _)
    | bad k1 k2 k3 k4 k5 k6 =>
      have e := least_eq h1 h2 k1 k2
      subst e
      rw [h3] at k3; injection k3 with k3; subst k3
      rw [h4] at k4; injection k4 with k4; subst k4
      rw [h5] at k5; injection k5 with k5 k5'
      exact absurd k5.symm k6
    | join k1 k2 k3 k4 k5 k6 =>
      have e := least_eq h1 h2 k1 k2
      subst e
      rw [h3] at k3; injection k3 with k3; subst k3
      rw [h4] at k4; injection k4 with k4; subst k4
      rw [h5] at k5; injection k5 with k5 k5'; subst k5'
      rw [h6] at k6; cases k6
    | step k1 k2 k3 k4 k5 k6 k7 =>
      have e := least_eq h1 h2 k1 k2
      subst e
      rw [h3] at k3; injection k3 with k3; subst k3
      rw [h4] at k4; injection k4 with k4; subst k4
      rw [h5] at k5; injection k5 with k5 k5'; subst k5'
      rw [h6] at k6; injection k6 with k6; injection k6 with k6 k6'; subst k6 k6'
      exact ih k7
theorem goN_len (i : Ins) (n : Nat) : (goN i n).length ≤ 2 := by unfold goN; rw [List.length_map]; exact goesL_len i n
/-! ### How much is left to do -/
def waits (ws : List Bool) : Nat := ws.countP fun x => x
def blanks (h : List Int) : Nat := h.countP (· = -1)
def left (h : List Int) (ws : List Bool) : Nat := 2 * blanks h + waits ws
theorem countP_set {α : Type} (p : α → Bool) (l : List α) (n : Nat) (x y : α) (h : l[n]? = some x) : (l.set n y).countP p + (if p x then 1 else 0) = l.countP p + (if p y then 1 else 0) := by
  induction l generalizing n with
  | nil => simp at h
  | cons a l ih =>
    cases n with
    | zero =>
      simp only [List.getElem?_cons_zero, Option.some.injEq] at h
      subst h
      rw [List.set_cons_zero, List.countP_cons, List.countP_cons]
      omega
    | succ n =>
      rw [List.getElem?_cons_succ] at h
      rw [List.set_cons_succ, List.countP_cons, List.countP_cons]
      have := ih n h
      omega
theorem waits_off {ws : List Bool} {n : Nat} (h : ws[n]? = some true) : waits (ws.set n false) + 1 = waits ws := by
  have := countP_set (fun x => x) ws n true false h
  simpa [waits] using this
theorem spread_left {b : Int} (hb : b ≠ -1) {l : List Nat} {h h' : List Int} {ws ws' : List Bool} (hl : h.length = ws.length) (e : spread b l h ws = some (h', ws')) : left h' ws' ≤ left h ws ∧ h'.length = h.length ∧ ws'.length = ws.length := by
  induction l generalizing h ws with
  | nil =>
    unfold spread at e
    injection e with e; injection e with e1 e2
    subst e1 e2
    exact ⟨Nat.le_refl _, rfl, rfl⟩
  | cons x l ih =>
    unfold spread at e
    by_cases h1 : h[x]? = some (-1)
    · rw [if_pos h1] at e
      have h2 := ih (by rw [List.length_set, List.length_set]; exact hl) e
      rw [List.length_set, List.length_set] at h2
      have hx := (List.getElem?_eq_some_iff.1 h1).1
      obtain ⟨u, hu⟩ : ∃ u, ws[x]? = some u := ⟨_, List.getElem?_eq_getElem (by omega)⟩
      have c1 := countP_set (· = (-1 : Int)) h x (-1) b h1
      have c2 := countP_set (fun x => x) ws x u true hu
      refine ⟨?_, h2.2.1, h2.2.2⟩
      have h3 := h2.1
      unfold left blanks waits at h3 ⊢
      simp only [hb, decide_true, if_true, decide_false, Bool.false_eq_true, if_false] at c1
      cases u
      · simp only [Bool.false_eq_true, if_false, if_true] at c2; omega
      · simp only [if_true] at c2; omega
    · rw [if_neg h1] at e
      by_cases h2 : h[x]? = some b
      · rw [if_pos h2] at e
        exact ih hl e
      · rw [if_neg h2] at e; cases e
end
end Go.Proofs.Ytcmpmhlcfalbhaa
