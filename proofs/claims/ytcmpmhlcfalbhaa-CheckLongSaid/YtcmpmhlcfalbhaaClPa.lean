/- Several texts in one: ClP ClQ ClR ClM. -/
import Derived.Test.YtcmpmhlcfalbhaaChV
import Derived.Test.YtcmpmhlcfalbhaaPrgTl
import Derived.Test.YtcmpmhlcfalbhaaChHw
namespace Go.Proofs.Ytcmpmhlcfalbhaa

section
/- Programs of functions that all have one length, a row of calls among them: plain. -/

/-- F functions of C instructions each. -/
def prgG (F C : Nat) (L : Int) (ins : Nat → Nat → Ins) : Prg := ⟨0, [], (List.range F).map fun i => ⟨0, L, 1, (List.range C).map (ins i)⟩⟩
section
variable {F C : Nat} {L : Int} {ins : Nat → Nat → Ins}
theorem prgG_len : (prgG F C L ins).fs.length = F := by unfold prgG; simp
theorem prgG_fn {i : Nat} (hi : i < F) : (prgG F C L ins).fs[i]? = some ⟨0, L, 1, (List.range C).map (ins i)⟩ := by
  unfold prgG
  rw [List.getElem?_map, List.getElem?_range hi]
  rfl
theorem prgG_code {i : Nat} (hi : i < F) : (prgG F C L ins).len i = C := by
  rw [Prg.len_of (prgG_fn hi)]; simp
theorem prgG_args (i : Nat) : (prgG F C L ins).args i = 0 := by
  unfold Prg.args
  rw [Int.toNat_natCast]
  by_cases hi : i < F
  · rw [prgG_fn hi]; rfl
  · rw [List.getElem?_eq_none (by rw [prgG_len]; omega)]; rfl
theorem prgG_results {i : Nat} (hi : i < F) : (prgG F C L ins).results i = 1 := by rw [Prg.results_of (prgG_fn hi)]
theorem prgG_locals {i : Nat} (hi : i < F) : (prgG F C L ins).locals i = L := by rw [Prg.locals_of (prgG_fn hi)]
theorem prgG_ins {i k : Nat} (hi : i < F) (hk : k < C) : (prgG F C L ins).ins i k = some (ins i k) := by
  unfold Prg.ins
  rw [if_neg (by omega), Int.toNat_natCast, Int.toNat_natCast, prgG_fn hi, Option.bind_some, List.getElem?_map, List.getElem?_range hk]
  rfl
theorem prgG_mem {g : Fun} (h : g ∈ (prgG F C L ins).fs) : ∃ i, i < F ∧ g = ⟨0, L, 1, (List.range C).map (ins i)⟩ := by
  obtain ⟨i, hi, rfl⟩ := List.mem_map.1 h
  exact ⟨i, List.mem_range.1 hi, rfl⟩
theorem prgG_head (hF : 1 ≤ F) (hF2 : F ≤ 64) : badH (prgG F C L ins) = false := by
  unfold badH
  rw [prgG_len, decide_eq_false_iff_not]
  show ¬ ((0 : Int) < 0 ∨ 65536 < (0 : Int) ∨ (0 : Int) < ((0 : Nat) : Int) ∨ (F : Int) < 1 ∨ 64 < (F : Int))
  omega
theorem prgG_bad (hC : 1 ≤ C) (hC2 : C ≤ 4096) (hL : 0 ≤ L) (hL2 : L ≤ 64) (i : Nat) : badF ⟨0, L, 1, (List.range C).map (ins i)⟩ = false := by
  unfold badF
  rw [decide_eq_false_iff_not]
  simp only [List.length_map, List.length_range]
  omega
theorem prgG_check (hF : 1 ≤ F) (hF2 : F ≤ 64) (hC : 1 ≤ C) (hC2 : C ≤ 4096) (hL : 0 ≤ L) (hL2 : L ≤ 64) (h : ∀ i k, i < F → k < C → insGood (ins i k)) : checkL (prgG F C L ins) = 0 := by
  refine (checkL_ok _).2 ⟨prgG_head hF hF2, fun g hg => ?_⟩
  obtain ⟨i, hi, rfl⟩ := prgG_mem hg
  refine ⟨prgG_bad hC hC2 hL hL2 i, ?_⟩
  rw [encL_good (by simpa using hC2) fun x hx => ?_]
  obtain ⟨k, hk, rfl⟩ := List.mem_map.1 hx
  exact h i k hi (List.mem_range.1 hk)
theorem encFrom_112 : ∀ (l : List Ins) (xs : List UInt8), (∀ i ∈ l, isOp i.op = true) → (∃ i ∈ l, mayB (kindN i.op) i.a = false) → (encFrom xs l).2 = 112
  | [], _, _, h => by obtain ⟨i, hi, -⟩ := h; cases hi
  | x :: l, xs, h1, h2 => by
    unfold encFrom
    rw [if_neg (by rw [h1 x (List.mem_cons_self ..)]; decide)]
    by_cases hx : mayB (kindN x.op) x.a = false
    · rw [if_pos hx]
    · rw [if_neg hx]
      refine encFrom_112 l _ (fun i hi => h1 i (List.mem_cons_of_mem _ hi)) ?_
      obtain ⟨i, hi, h3⟩ := h2
      rcases List.mem_cons.1 hi with rfl | hi
      · exact absurd h3 hx
      · exact ⟨i, hi, h3⟩
theorem checkF_112 : ∀ (l : List Fun), (∀ f ∈ l, badF f = false ∧ ((encL f.code).2 = 0 ∨ (encL f.code).2 = 112)) → (∃ f ∈ l, (encL f.code).2 = 112) → checkF l = 112
  | [], _, h => by obtain ⟨i, hi, -⟩ := h; cases hi
  | x :: l, h1, h2 => by
    unfold checkF
    obtain ⟨h3, h4⟩ := h1 x (List.mem_cons_self ..)
    rw [if_neg (by rw [h3]; decide)]
    by_cases hx : (encL x.code).2 = 0
    · rw [if_pos hx]
      refine checkF_112 l (fun i hi => h1 i (List.mem_cons_of_mem _ hi)) ?_
      obtain ⟨i, hi, h5⟩ := h2
      rcases List.mem_cons.1 hi with rfl | hi
      · rw [hx] at h5; cases h5
      · exact ⟨i, hi, h5⟩
    · rw [if_neg hx]
      rcases h4 with h4 | h4
      · exact absurd h4 hx
      · exact h4
/-- One operand that may not be, all else as it must be. -/
theorem prgG_112 (hF : 1 ≤ F) (hF2 : F ≤ 64) (hC : 1 ≤ C) (hC2 : C ≤ 4096) (hL : 0 ≤ L) (hL2 : L ≤ 64) (h : ∀ i k, i < F → k < C → isOp (ins i k).op = true) {i0 k0 : Nat} (hi0 : i0 < F) (hk0 : k0 < C) (hb : mayB (kindN (ins i0 k0).op) (ins i0 k0).a = false) :
    checkL (prgG F C L ins) = 112 := by
  have henc : ∀ i, i < F → ∀ x ∈ (List.range C).map (ins i), isOp x.op = true := fun i hi x hx => by
    obtain ⟨k, hk, rfl⟩ := List.mem_map.1 hx
    exact h i k hi (List.mem_range.1 hk)
  have hlen : ∀ i, ¬ 4096 < ((List.range C).map (ins i)).length := fun i => by simp; omega
  unfold checkL
  rw [if_neg (by rw [prgG_head hF hF2]; decide)]
  refine checkF_112 _ (fun g hg => ?_) ⟨_, List.mem_map.2 ⟨i0, List.mem_range.2 hi0, rfl⟩, ?_⟩
  · obtain ⟨i, hi, rfl⟩ := prgG_mem hg
    refine ⟨prgG_bad hC hC2 hL hL2 i, ?_⟩
    unfold encL
    rw [if_neg (hlen i)]
    by_cases hx : ∃ x ∈ (List.range C).map (ins i), mayB (kindN x.op) x.a = false
    · exact .inr (encFrom_112 _ _ (henc i hi) hx)
    · left
      rw [encFrom_good _ _ fun x hx2 => ⟨henc i hi x hx2, ?_⟩]
      cases hm : mayB (kindN x.op) x.a with
      | true => rfl
      | false => exact absurd ⟨x, hx2, hm⟩ hx
  · show (encL ((List.range C).map (ins i0))).2 = 112
    unfold encL
    rw [if_neg (hlen i0)]
    exact encFrom_112 _ _ (henc i0 hi0) ⟨_, List.mem_map.2 ⟨k0, List.mem_range.2 hk0, rfl⟩, hb⟩
end
/-! ### The first that is not there -/
theorem firstI_all {bad : Ins → Int} {l : List Ins} (h : ∀ i ∈ l, bad i = 0) (n : Nat) : firstI bad l n = none := by
  induction l generalizing n with
  | nil => rfl
  | cons x l ih =>
    unfold firstI
    rw [if_pos (h x (List.mem_cons_self ..))]
    exact ih (fun i hi => h i (List.mem_cons_of_mem _ hi)) _
theorem firstI_at {bad : Ins → Int} {l : List Ins} {k : Nat} {x : Ins} (hk : l[k]? = some x) (hx : bad x ≠ 0) (h : ∀ (j : Nat) y, j < k → l[j]? = some y → bad y = 0) (n : Nat) : firstI bad l n = some (bad x, n + k) := by
  induction l generalizing n k with
  | nil => cases hk
  | cons z l ih =>
    unfold firstI
    cases k with
    | zero =>
      have e : z = x := by simpa using hk
      subst e
      rw [if_neg hx]; rfl
    | succ k =>
      rw [if_pos (h 0 z (by omega) rfl), ih (k := k) (by simpa using hk) (fun j y hj hy => h (j + 1) y (by omega) (by simpa using hy)), show n + 1 + k = n + (k + 1) by omega]
theorem firstP_all {P : Prg} {l : List Fun} (h : ∀ g ∈ l, ∀ i ∈ g.code, badOp P g i = 0) (k : Nat) : firstP P l k = none := by
  induction l generalizing k with
  | nil => rfl
  | cons x l ih =>
    unfold firstP
    rw [firstI_all (h x (List.mem_cons_self ..))]
    exact ih (fun g hg => h g (List.mem_cons_of_mem _ hg)) _
theorem firstP_at {P : Prg} {l : List Fun} {f n : Nat} {g : Fun} {x : Ins} (hf : l[f]? = some g) (hn : g.code[n]? = some x) (hx : badOp P g x ≠ 0) (h1 : ∀ (j : Nat) y, j < n → g.code[j]? = some y → badOp P g y = 0)
    (h2 : ∀ (j : Nat) q, j < f → l[j]? = some q → ∀ i ∈ q.code, badOp P q i = 0) (k : Nat) : firstP P l k = some (badOp P g x, ((k + f : Nat) : Int), (n : Int)) := by
  induction l generalizing k f with
  | nil => cases hf
  | cons z l ih =>
    unfold firstP
    cases f with
    | zero =>
      have e : z = g := by simpa using hf
      subst e
      rw [firstI_at hn hx h1 0, Nat.zero_add]
      rfl
    | succ f =>
      rw [firstI_all (h2 0 z (by omega) rfl), ih (f := f) (by simpa using hf) (fun j q hj hq => h2 (j + 1) q (by omega) (by simpa using hq)), show k + 1 + f = k + (f + 1) by omega]
      rfl
/-! ### The row of calls -/
def insC (F C : Nat) (lp : Bool) (i k : Nat) : Ins :=
  if lp = true ∧ i + 1 = F ∧ k = 0 then ⟨13, 0⟩ else if lp = true ∧ i + 1 = F ∧ k = 1 then ⟨16, 0⟩ else
  if k + 2 = C then (if i + 1 = F then ⟨3, 7⟩ else ⟨17, (i : Int) + 1⟩) else if k + 1 = C then ⟨18, 0⟩ else ⟨0, 0⟩
/-- What an instruction there is, and what it takes and gives, how many operands it meets. -/
inductive InsC (F C : Nat) (lp : Bool) (i k : Nat) : Ins → Int → Int → Int → List Int → Prop
  | size : lp = true → i + 1 = F → k = 0 → InsC F C lp i k ⟨13, 0⟩ 0 0 1 [1]
  | loop : lp = true → i + 1 = F → k = 1 → InsC F C lp i k ⟨16, 0⟩ 1 1 0 [0, 2]
  | num : k + 2 = C → i + 1 = F → InsC F C lp i k ⟨3, 7⟩ 0 0 1 [(k : Int) + 1]
  | call : k + 2 = C → i + 1 < F → InsC F C lp i k ⟨17, (i : Int) + 1⟩ 0 0 1 [(k : Int) + 1]
  | ret : k + 1 = C → InsC F C lp i k ⟨18, 0⟩ 1 1 0 []
  | nop : k + 2 < C → ¬ (lp = true ∧ i + 1 = F ∧ (k = 0 ∨ k = 1)) → InsC F C lp i k ⟨0, 0⟩ 0 0 0 [(k : Int) + 1]
theorem insC_is {F C i k : Nat} (lp : Bool) (hi : i < F) (hk : k < C) : ∃ h t g l, InsC F C lp i k (insC F C lp i k) h t g l := by
  unfold insC
  by_cases h1 : lp = true ∧ i + 1 = F ∧ k = 0
  · rw [if_pos h1]; exact ⟨_, _, _, _, .size h1.1 h1.2.1 h1.2.2⟩
  rw [if_neg h1]
  by_cases h2 : lp = true ∧ i + 1 = F ∧ k = 1
  · rw [if_pos h2]; exact ⟨_, _, _, _, .loop h2.1 h2.2.1 h2.2.2⟩
  rw [if_neg h2]
  by_cases h3 : k + 2 = C
  · rw [if_pos h3]
    by_cases h4 : i + 1 = F
    · rw [if_pos h4]; exact ⟨_, _, _, _, .num h3 h4⟩
    · rw [if_neg h4]; exact ⟨_, _, _, _, .call h3 (by omega)⟩
  rw [if_neg h3]
  by_cases h4 : k + 1 = C
  · rw [if_pos h4]; exact ⟨_, _, _, _, .ret h4⟩
  · rw [if_neg h4]; exact ⟨_, _, _, _, .nop (by omega) (fun h => by
      rcases h.2.2 with h5 | h5
      · exact h1 ⟨h.1, h.2.1, h5⟩
      · exact h2 ⟨h.1, h.2.1, h5⟩)⟩
theorem ops_ok : (isOp 13 = true ∧ mayB (kindN 13) 0 = true) ∧ (isOp 16 = true ∧ mayB (kindN 16) 0 = true) ∧ (isOp 3 = true ∧ mayB (kindN 3) 7 = true) ∧ (isOp 18 = true ∧ mayB (kindN 18) 0 = true) ∧ (isOp 0 = true ∧ mayB (kindN 0) 0 = true) ∧ isOp 17 = true ∧ isOp 14 = true := by decide +kernel
theorem takes_ok : ((rowAt shapeTab 13).1.2.2.1, (rowAt shapeTab 13).1.2.2.2) = (0, 1) ∧ ((rowAt shapeTab 16).1.2.2.1, (rowAt shapeTab 16).1.2.2.2) = (1, 0) ∧ ((rowAt shapeTab 3).1.2.2.1, (rowAt shapeTab 3).1.2.2.2) = (0, 1) ∧ ((rowAt shapeTab 0).1.2.2.1, (rowAt shapeTab 0).1.2.2.2) = (0, 0) := by decide +kernel
theorem most_34 : mostL 3 = 4096 ∧ mostL 4 = 64 := by decide +kernel
theorem mayB_3 {a : Int} (h0 : 0 ≤ a) (h1 : a < 4096) : mayB 3 a = true := by
  unfold mayB
  rw [if_neg (by decide), if_neg (by decide), most_34.1]
  simp [h0, h1]
theorem mayB_4 {a : Int} (h0 : 0 ≤ a) (h1 : a < 64) : mayB 4 a = true := by
  unfold mayB
  rw [if_neg (by decide), if_neg (by decide), most_34.2]
  simp [h0, h1]
theorem InsC.good {F C i k : Nat} {lp : Bool} {x : Ins} {h t g : Int} {l : List Int} (H : InsC F C lp i k x h t g l) (hF : F ≤ 64) : insGood x := by
  obtain ⟨o1, o2, o3, o4, o5, o6, -⟩ := ops_ok
  cases H with
  | size => exact o1
  | loop => exact o2
  | num => exact o3
  | call _ h2 =>
    refine ⟨o6, ?_⟩
    show mayB (kindN 17) ((i : Int) + 1) = true
    rw [kinds_of.2.2.2.1]
    exact mayB_4 (by omega) (by omega)
  | ret => exact o4
  | nop => exact o5
end

section
/- The facts of a row of calls: plain. -/

def hAt (F C : Nat) (lp : Bool) (i k : Nat) : Int := if k + 1 = C ∨ (lp = true ∧ i + 1 = F ∧ k = 1) then 1 else 0
def hRow (F C : Nat) (lp : Bool) (i : Nat) : List Int := (List.range C).map (hAt F C lp i)
abbrev prgC (F C : Nat) (L : Int) (lp : Bool) : Prg := prgG F C L (insC F C lp)
theorem hRow_get {F C i k : Nat} {lp : Bool} (hk : k < C) : (hRow F C lp i)[k]? = some (hAt F C lp i k) := by
  unfold hRow
  rw [List.getElem?_map, List.getElem?_range hk]
  rfl
theorem hRow_some {F C i k : Nat} {lp : Bool} {x : Int} (h : (hRow F C lp i)[k]? = some x) : k < C ∧ x = hAt F C lp i k := by
  have h1 := (List.getElem?_eq_some_iff.1 h).1
  have h2 : k < C := by simpa [hRow] using h1
  rw [hRow_get h2] at h
  exact ⟨h2, (Option.some.inj h).symm⟩
theorem range_one {g : Nat → Bool} {n a : Nat} (ha : a < n) (h : ∀ u, u < n → (g u = true ↔ u = a)) : (List.range n).filter g = [a] := by
  obtain ⟨m, rfl⟩ : ∃ m, n = a + (1 + m) := ⟨n - a - 1, by omega⟩
  rw [List.range_add, List.filter_append, List.filter_eq_nil_iff.2 fun u hu => by
    have h1 := List.mem_range.1 hu
    intro h2
    have := (h u (by omega)).1 h2
    omega, List.nil_append, List.range_add, List.map_append, List.filter_append]
  have h3 : (((List.range m).map (1 + ·)).map (a + ·)).filter g = [] := List.filter_eq_nil_iff.2 fun u hu => by
    obtain ⟨y, hy, rfl⟩ := List.mem_map.1 hu
    obtain ⟨z, hz, rfl⟩ := List.mem_map.1 hy
    have h1 := List.mem_range.1 hz
    intro h2
    have := (h _ (by omega)).1 h2
    omega
  rw [h3]
  have h4 : g a = true := (h _ (by omega)).2 rfl
  simp [h4]
section
variable {F C i k : Nat} {L : Int} {lp : Bool} {x : Ins} {h t g : Int} {l : List Int}
theorem InsC.goes (H : InsC F C lp i k x h t g l) : goesL x k = l := by
  cases H with
  | size h1 h2 h3 => subst h3; rfl
  | loop h1 h2 h3 => subst h3; rfl
  | num => rfl
  | call => rfl
  | ret => rfl
  | nop => rfl
theorem InsC.at_ (H : InsC F C lp i k x h t g l) (hC : 4 ≤ C) : h = hAt F C lp i k := by
  unfold hAt
  cases H with
  | size h1 h2 h3 => rw [if_neg (by omega)]
  | loop h1 h2 h3 => rw [if_pos (.inr ⟨h1, h2, h3⟩)]
  | num h1 h2 => rw [if_neg (by omega)]
  | call h1 h2 => rw [if_neg (by omega)]
  | ret h1 => rw [if_pos (.inl h1)]
  | nop h1 h2 => rw [if_neg (by
      rintro (h3 | ⟨h3, h4, h5⟩)
      · omega
      · exact h2 ⟨h3, h4, .inr h5⟩)]
theorem InsC.next (H : InsC F C lp i k x h t g l) (hC : 4 ≤ C) : ∀ y ∈ l, 0 ≤ y ∧ y < (C : Int) ∧ hAt F C lp i y.toNat = h - t + g := by
  intro y hy
  unfold hAt
  cases H with
  | size h1 h2 h3 =>
    rw [List.mem_singleton.1 hy]
    exact ⟨by omega, by omega, by rw [if_pos (.inr ⟨h1, h2, rfl⟩)]; rfl⟩
  | loop h1 h2 h3 =>
    rcases List.mem_cons.1 hy with rfl | hy
    · exact ⟨by omega, by omega, by rw [if_neg (by simp; omega)]; rfl⟩
    · rw [List.mem_singleton.1 hy]
      exact ⟨by omega, by omega, by rw [if_neg (by simp; omega)]; rfl⟩
  | num h1 h2 =>
    rw [List.mem_singleton.1 hy]
    exact ⟨by omega, by omega, by rw [if_pos (.inl (by omega))]; rfl⟩
  | call h1 h2 =>
    rw [List.mem_singleton.1 hy]
    exact ⟨by omega, by omega, by rw [if_pos (.inl (by omega))]; rfl⟩
  | ret h1 => cases hy
  | nop h1 h2 =>
    rw [List.mem_singleton.1 hy]
    refine ⟨by omega, by omega, ?_⟩
    rw [if_neg (by
      rintro (h3 | ⟨h3, h4, h5⟩)
      · omega
      · exact h2 ⟨h3, h4, .inl (by omega)⟩)]
    rfl
theorem InsC.plus (H : InsC F C lp i k x h t g l) (hk : k + 1 < C) : (k : Int) + 1 ∈ l := by
  cases H with
  | size h1 h2 h3 => subst h3; simp
  | loop h1 h2 h3 => subst h3; simp
  | num => simp
  | call => simp
  | ret h1 => omega
  | nop => simp
theorem InsC.bnd (H : InsC F C lp i k x h t g l) : 0 ≤ h ∧ h ≤ 1 ∧ 0 ≤ h - t + g ∧ h - t + g ≤ 1 := by
  cases H <;> omega
theorem InsC.takes (H : InsC F C lp i k x h t g l) (hi : i < F) : takesI (prgC F C L lp) i x = (t, g) := by
  unfold takesI
  cases H with
  | size => rw [if_neg (by decide), if_neg (by decide), if_neg (by decide)]; exact takes_ok.1
  | loop => rw [if_neg (by decide), if_neg (by decide), if_neg (by decide)]; exact takes_ok.2.1
  | num => rw [if_neg (by decide), if_neg (by decide), if_neg (by decide)]; exact takes_ok.2.2.1
  | call h1 h2 =>
    rw [if_pos rfl, if_neg (by rw [prgG_len]; show ¬ ((i : Int) + 1 < 0 ∨ (F : Int) ≤ (i : Int) + 1); omega)]
    have e1 := prgG_args (F := F) (C := C) (L := L) (ins := insC F C lp) (i + 1)
    have e2 := prgG_results (F := F) (C := C) (L := L) (ins := insC F C lp) (i := i + 1) h2
    rw [Int.natCast_add] at e1 e2
    exact Prod.ext e1 e2
  | ret => rw [if_neg (by decide), if_pos rfl, prgG_results hi]
  | nop => rw [if_neg (by decide), if_neg (by decide), if_neg (by decide)]; exact takes_ok.2.2.2
end
section
variable {F C : Nat} {L : Int} {lp : Bool}
theorem takesC {i k : Nat} {h t g : Int} {l : List Int} (H : InsC F C lp i k (insC F C lp i k) h t g l) (hi : i < F) (hk : k < C) : takesL (prgC F C L lp) i k = (t, g) := by
  unfold takesL
  rw [prgG_ins hi hk]
  exact H.takes hi
theorem standC {i k : Nat} {h t g : Int} {l : List Int} (H : InsC F C lp i k (insC F C lp i k) h t g l) (hC : 4 ≤ C) (hi : i < F) (hk : k < C) : standI (prgC F C L lp) i k (insC F C lp i k) h = (0, h - t + g) := by
  have hb := H.bnd
  unfold standI
  rw [takesC H hi hk, H.goes, prgG_code hi, if_neg, if_neg (by dsimp only; omega), if_neg]
  · intro ha
    obtain ⟨y, hy, hd⟩ := List.any_eq_true.1 ha
    have := (H.next hC y hy).2.1
    have := of_decide_eq_true hd
    omega
  · generalize insC F C lp i k = x at H ⊢
    dsimp only
    cases H with
    | size => rw [if_neg (by decide), if_neg (by decide)]; decide
    | loop => rw [if_neg (by decide), if_neg (by decide)]; decide
    | num => rw [if_neg (by decide), if_neg (by decide)]; decide
    | call => rw [if_neg (by show ¬ (17 : Int) = 18; decide), if_neg (by show ¬ (17 : Int) = 5; decide)]; decide
    | ret => rw [if_pos rfl, prgG_results hi]; exact fun h => h rfl
    | nop => rw [if_neg (by decide), if_neg (by decide)]; decide
theorem nextC {i k : Nat} {h t g : Int} {l : List Int} (H : InsC F C lp i k (insC F C lp i k) h t g l) (hC : 4 ≤ C) (hi : i < F) (hk : k < C) : nxF (prgC F C L lp) i k = l.map Int.toNat := by
  have h1 : goesL (insC F C lp i k) k = l := H.goes
  rw [go_nxF (prgG_ins hi hk) (fun y hy => (H.next hC y (by rw [← h1]; exact hy)).1) (fun y hy => by rw [prgG_code hi]; exact (H.next hC y (by rw [← h1]; exact hy)).2.1)]
  unfold goN
  rw [h1]
theorem reachC {i : Nat} (hC : 4 ≤ C) (hi : i < F) : ∀ n, n < C → Reach (nxF (prgC F C L lp) i) 0 n
  | 0, _ => .refl 0
  | n + 1, hn => by
    refine (reachC hC hi n (by omega)).trans (.one ?_)
    obtain ⟨h, t, g, l, H⟩ := insC_is (F := F) (i := i) (k := n) (C := C) lp hi (by omega)
    rw [nextC H hC hi (by omega)]
    exact List.mem_map.2 ⟨_, H.plus hn, by omega⟩
theorem finC {i : Nat} (hC : 4 ≤ C) (hi : i < F) : HFin (prgC F C L lp) i (hRow F C lp i) := by
  refine ⟨by rw [prgG_code hi]; simp [hRow], ?_, fun n x hx => ?_, fun n x j hx _ hj => ?_, fun n x hx _ => reachC hC hi n (hRow_some hx).1⟩
  · rw [hRow_get (by omega)]
    unfold hAt
    rw [if_neg (by omega)]
  · rw [(hRow_some hx).2]
    unfold hAt
    split <;> decide
  · obtain ⟨hn, rfl⟩ := hRow_some hx
    rw [prgG_ins hi hn] at hj
    obtain rfl := Option.some.inj hj
    obtain ⟨h, t, g, l, H⟩ := insC_is (F := F) (i := i) (k := n) (C := C) lp hi hn
    rw [← H.at_ hC]
    refine ⟨_, standC H hC hi hn, fun u hu => ?_⟩
    have h1 : goesL (insC F C lp i n) n = l := H.goes
    unfold goN at hu
    rw [h1] at hu
    obtain ⟨y, hy, rfl⟩ := List.mem_map.1 hu
    obtain ⟨h2, h3, h4⟩ := H.next hC y hy
    rw [hRow_get (by omega), h4]
theorem topC {i : Nat} (hC : 4 ≤ C) (hi : i < F) : TopF (prgC F C L lp) i (hRow F C lp i) 1 := by
  refine ⟨by decide, fun n x hx _ => ?_, .inr ⟨C - 1, 1, ?_, by decide, .inl rfl⟩⟩
  · obtain ⟨hn, rfl⟩ := hRow_some hx
    obtain ⟨h, t, g, l, H⟩ := insC_is (F := F) (i := i) (k := n) (C := C) lp hi hn
    rw [takesC H hi hn, ← H.at_ hC]
    have := H.bnd
    exact ⟨by omega, by dsimp only; omega⟩
  · rw [hRow_get (by omega)]
    unfold hAt
    rw [if_pos (.inl (by omega))]
/-! ### Places that come to themselves -/
theorem upC {i k u : Nat} (hC : 4 ≤ C) (hi : i < F) (h : ¬ (lp = true ∧ i + 1 = F) ∨ 2 ≤ k) (hu : u ∈ nxF (prgC F C L lp) i k) : u = k + 1 := by
  by_cases hk : k < C
  · obtain ⟨h', t, g, l, H⟩ := insC_is (F := F) (i := i) (k := k) (C := C) lp hi hk
    rw [nextC H hC hi hk] at hu
    obtain ⟨y, hy, rfl⟩ := List.mem_map.1 hu
    clear hu
    generalize insC F C lp i k = x at H
    cases H with
    | size h1 h2 h3 => rcases h with h | h; exact absurd ⟨h1, h2⟩ h; omega
    | loop h1 h2 h3 => rcases h with h | h; exact absurd ⟨h1, h2⟩ h; omega
    | num => rw [List.mem_singleton.1 hy]; omega
    | call => rw [List.mem_singleton.1 hy]; omega
    | ret => cases hy
    | nop => rw [List.mem_singleton.1 hy]; omega
  · obtain ⟨z, hz, -⟩ := List.mem_map.1 hu
    unfold nextL at hz
    have e : (prgC F C L lp).ins i k = none := by
      unfold Prg.ins
      rw [if_neg (by omega), Int.toNat_natCast, Int.toNat_natCast, prgG_fn hi, Option.bind_some, List.getElem?_eq_none (by simp; omega)]
    rw [e] at hz
    cases hz
theorem riseC {i a b : Nat} (hC : 4 ≤ C) (hi : i < F) (h : ¬ (lp = true ∧ i + 1 = F) ∨ 2 ≤ a) (hr : Reach (nxF (prgC F C L lp) i) a b) : a ≤ b := by
  induction hr with
  | refl => exact Nat.le_refl _
  | step h1 _ ih =>
    have h2 := upC hC hi h h1
    have := ih (h.imp id (fun h => by omega))
    omega
theorem cycC {i k : Nat} (hC : 4 ≤ C) (hi : i < F) (h : ¬ (lp = true ∧ i + 1 = F) ∨ 2 ≤ k) : ¬ Cyc (nxF (prgC F C L lp) i) k := by
  rintro ⟨u, hu, hr⟩
  have h1 := upC hC hi h hu
  have := riseC hC hi (h.imp id (fun h => by omega)) hr
  omega
theorem loopC {i : Nat} (hC : 4 ≤ C) (hi : i < F) : loopsL (nxF (prgC F C L lp) i) C = if lp = true ∧ i + 1 = F then [0, 1] else [] := by
  by_cases h : lp = true ∧ i + 1 = F
  · rw [if_pos h]
    have n0 : (1 : Nat) ∈ nxF (prgC F C L lp) i 0 := by
      obtain ⟨h', t, g, l, H⟩ := insC_is (F := F) (i := i) (k := 0) (C := C) lp hi (by omega)
      rw [nextC H hC hi (by omega)]
      exact List.mem_map.2 ⟨_, H.plus (by omega), by omega⟩
    have n1 : (0 : Nat) ∈ nxF (prgC F C L lp) i 1 := by
      have H : InsC F C lp i 1 (insC F C lp i 1) 1 1 0 [0, 2] := by
        unfold insC
        rw [if_neg (by omega), if_pos ⟨h.1, h.2, rfl⟩]
        exact .loop h.1 h.2 rfl
      rw [nextC H hC hi (by omega)]
      simp
    rw [← loopsL_eq (g := fun v => decide (v < 2)) fun u => ?_]
    · obtain ⟨m, rfl⟩ : ∃ m, C = 2 + m := ⟨C - 2, by omega⟩
      rw [List.range_add, List.filter_append, show ((List.range m).map (2 + ·)).filter (fun v => decide (v < 2)) = [] from List.filter_eq_nil_iff.2 fun u hu => ?_]
      · rfl
      · obtain ⟨z, -, rfl⟩ := List.mem_map.1 hu
        simp
    · rw [decide_eq_true_iff]
      constructor
      · intro hu
        rcases (show u = 0 ∨ u = 1 by omega) with rfl | rfl
        · exact ⟨.refl 0, 1, n0, .one n1⟩
        · exact ⟨.one n0, 0, n1, .one n0⟩
      · rintro ⟨-, hc⟩
        refine Nat.lt_of_not_le fun h2 => cycC hC hi (.inr h2) hc
  · rw [if_neg h, ← loopsL_eq (g := fun _ => false) fun u => ⟨(fun e => by cases e), (fun e => absurd e.2 (cycC hC hi (.inl h)))⟩]
    rw [List.filter_eq_nil_iff.2 (fun u _ => by decide)]
    rfl
/-! ### Calls -/
abbrev hsC (F C : Nat) (lp : Bool) : List (List Int) := (List.range F).map (hRow F C lp)
theorem hsC_get {i : Nat} (hi : i < F) : (hsC F C lp).getD i [] = hRow F C lp i := by
  rw [List.getD_eq_getElem?_getD, List.getElem?_map, List.getElem?_range hi]
  rfl
theorem htC {i k : Nat} (hi : i < F) (hk : k < C) : htAt (hsC F C lp) i k = hAt F C lp i k := by
  unfold htAt
  rw [hsC_get hi, List.getD_eq_getElem?_getD, hRow_get hk]
  rfl
theorem hAt_pos (i k : Nat) : 0 ≤ hAt F C lp i k := by unfold hAt; split <;> decide
theorem callsC {i : Nat} (hC : 4 ≤ C) (hi : i < F) : callsN (prgC F C L lp) (hsC F C lp) i = if i + 1 < F then [C - 2] else [] := by
  have key : ∀ u, u < C → (isCall (prgC F C L lp) (hsC F C lp) i u = true ↔ (u + 2 = C ∧ i + 1 < F)) := fun u hu => by
    unfold isCall
    rw [prgG_ins hi hu, htC hi hu]
    dsimp only
    have h0 := hAt_pos (F := F) (C := C) (lp := lp) i u
    obtain ⟨h', t, g, l, H⟩ := insC_is (F := F) (i := i) (k := u) (C := C) lp hi hu
    generalize insC F C lp i u = x at H
    rw [decide_eq_true h0, Bool.and_true, decide_eq_true_iff]
    cases H with
    | size h1 h2 h3 => exact ⟨fun h => absurd h (by decide), fun h => by omega⟩
    | loop h1 h2 h3 => exact ⟨fun h => absurd h (by decide), fun h => by omega⟩
    | num h1 h2 => exact ⟨fun h => absurd h (by decide), fun h => by omega⟩
    | call h1 h2 => exact ⟨fun _ => ⟨h1, h2⟩, fun _ => rfl⟩
    | ret h1 => exact ⟨fun h => absurd h (by decide), fun h => by omega⟩
    | nop h1 h2 => exact ⟨fun h => absurd h (by decide), fun h => by omega⟩
  unfold callsN
  rw [prgG_code hi]
  by_cases h : i + 1 < F
  · rw [if_pos h]
    exact range_one (by omega) fun u hu => (key u hu).trans ⟨fun h => by omega, fun e => ⟨by omega, h⟩⟩
  · rw [if_neg h]
    exact List.filter_eq_nil_iff.2 fun u hu e => h ((key u (List.mem_range.1 hu)).1 e).2
theorem aOfC {i : Nat} (hC : 4 ≤ C) (h : i + 1 < F) : (prgC F C L lp).aOf i (C - 2) = i + 1 := by
  unfold Prg.aOf
  rw [prgG_ins (by omega) (by omega)]
  unfold insC
  rw [if_neg (by omega), if_neg (by omega), if_pos (by omega), if_neg (by omega)]
  show ((i : Int) + 1).toNat = i + 1
  omega
theorem cgC {i : Nat} (hC : 4 ≤ C) (hi : i < F) : cg (prgC F C L lp) (hsC F C lp) i = if i + 1 < F then [i + 1] else [] := by
  unfold cg
  rw [callsC hC hi]
  split
  · rename_i h
    rw [List.map_cons, aOfC hC h]; rfl
  · rfl
theorem cgC_up {i u : Nat} (hC : 4 ≤ C) (hu : u ∈ cg (prgC F C L lp) (hsC F C lp) i) : u = i + 1 ∧ u < F := by
  by_cases hi : i < F
  · rw [cgC hC hi] at hu
    split at hu
    · rw [List.mem_singleton.1 hu]; exact ⟨rfl, by omega⟩
    · cases hu
  · obtain ⟨n, hn, -⟩ := List.mem_map.1 hu
    have h1 := (callsN_is hn).1
    unfold Prg.len at h1
    rw [Int.toNat_natCast, List.getElem?_eq_none (by rw [prgG_len]; omega)] at h1
    exact absurd h1 (by simp)
theorem liveC (hC : 4 ≤ C) : ∀ n, n < F → Reach (cg (prgC F C L lp) (hsC F C lp)) 0 n
  | 0, _ => .refl 0
  | n + 1, hn => by
    refine (liveC hC n (by omega)).trans (.one ?_)
    rw [cgC hC (by omega), if_pos hn]
    simp
theorem callRise {a b : Nat} (hC : 4 ≤ C) (hr : Reach (cg (prgC F C L lp) (hsC F C lp)) a b) : a ≤ b := by
  induction hr with
  | refl => exact Nat.le_refl _
  | step h1 _ ih => have := (cgC_up hC h1).1; omega
theorem liveC_lt (hC : 4 ≤ C) {a b : Nat} (hr : Reach (cg (prgC F C L lp) (hsC F C lp)) a b) : a < F → b < F := by
  induction hr with
  | refl => exact fun h => h
  | step h1 _ ih => exact fun _ => ih (cgC_up hC h1).2
theorem acycC (hC : 4 ≤ C) : Acyc (prgC F C L lp) (hsC F C lp) := by
  rintro v - ⟨u, hu, hr⟩
  have := (cgC_up hC hu).1
  have := callRise hC hr
  omega
abbrev topsC (F : Nat) : List Int := List.replicate F 1
theorem cellsC (hC : 4 ≤ C) (hL : 0 ≤ L) : CellsEq (prgC F C L lp) (hsC F C lp) (topsC F) fun f => ((F : Int) - f) * (1 + L) + 1 := by
  intro f hf _
  rw [prgG_len] at hf
  rw [prgG_locals hf]
  unfold cellsTo
  rw [List.take_length, callsC hC hf, List.getD_eq_getElem?_getD, List.getElem?_replicate, if_pos hf]
  by_cases h : f + 1 < F
  · rw [if_pos h, List.foldl_cons, List.foldl_nil, aOfC hC h, htC hf (by omega), prgG_args]
    have h0 : hAt F C lp f (C - 2) = 0 := by unfold hAt; rw [if_neg (by omega)]
    rw [h0]
    have h1 : 0 ≤ ((F : Int) - ((f + 1 : Nat) : Int)) * (1 + L) := Int.mul_nonneg (by omega) (by omega)
    have h2 : ((F : Int) - f) * (1 + L) = ((F : Int) - ((f + 1 : Nat) : Int)) * (1 + L) + (1 + L) := by
      rw [show (F : Int) - f = ((F : Int) - ((f + 1 : Nat) : Int)) + 1 by omega, Int.add_mul, Int.one_mul]
    show ((F : Int) - f) * (1 + L) + 1 = 1 + L + max (1 : Int) (0 - 0 + (((F : Int) - ((f + 1 : Nat) : Int)) * (1 + L) + 1))
    omega
  · rw [if_neg h, List.foldl_nil]
    show ((F : Int) - f) * (1 + L) + 1 = 1 + L + (1 : Int)
    rw [show (F : Int) - f = 1 by omega, Int.one_mul]
end
end

section
/- What a row of calls costs; all its facts; two that are not right: plain. -/

section
variable {F C : Nat} {L : Int} {lp : Bool}
theorem badOpC {g : Fun} {i k : Nat} {x : Ins} {h t gg : Int} {l : List Int} (H : InsC F C lp i k x h t gg l) {ins : Nat → Nat → Ins} (hg : 1 ≤ g.code.length) : badOp (prgG F C L ins) g x = 0 := by
  unfold badOp
  cases H with
  | size => rw [if_neg (by decide), if_neg (by decide), if_neg (by decide)]
  | loop => rw [if_pos (by decide), if_neg (by dsimp only; omega)]
  | num => rw [if_neg (by decide), if_neg (by decide), if_neg (by decide)]
  | call _ h2 =>
    rw [if_neg (by show ¬ ((17 : Int) = 14 ∨ (17 : Int) = 15 ∨ (17 : Int) = 16); decide), if_neg (by show ¬ ((17 : Int) = 7 ∨ (17 : Int) = 8); decide), if_pos rfl, if_neg (by rw [prgG_len]; show ¬ (F : Int) ≤ (i : Int) + 1; omega)]
  | ret => rw [if_neg (by decide), if_neg (by decide), if_neg (by decide)]
  | nop => rw [if_neg (by decide), if_neg (by decide), if_neg (by decide)]
theorem goodC (hF : 1 ≤ F) (hF2 : F ≤ 64) (hC : 4 ≤ C) (hC2 : C ≤ 4096) (hL : 0 ≤ L) (hL2 : L ≤ 64) : Good (prgC F C L lp) := by
  refine ⟨prgG_check hF hF2 (by omega) hC2 hL hL2 fun i k hi hk => ?_, firstP_all (fun g hg x hx => ?_) 0⟩
  · obtain ⟨h, t, g, l, H⟩ := insC_is (F := F) (i := i) (k := k) (C := C) lp hi hk
    exact H.good hF2
  · obtain ⟨i, hi, rfl⟩ := prgG_mem hg
    obtain ⟨k, hk, rfl⟩ := List.mem_map.1 hx
    obtain ⟨h, t, g, l, H⟩ := insC_is (F := F) (i := i) (k := k) (C := C) lp hi (List.mem_range.1 hk)
    exact badOpC H (by simp; omega)
theorem prgG_lead {ins : Nat → Nat → Ins} (hF : 1 ≤ F) (h : checkL (prgG F C L ins) = 0) : Lead (prgG F C L ins) := ⟨h, prgG_args 0, prgG_results (i := 0) (by omega)⟩
theorem strtC (hC : 4 ≤ C) (hF : 1 ≤ F) : Strt (prgC F C L false) (hsC F C false) := by
  refine ⟨acycC hC, fun f hf n _ => cycC hC (liveC_lt hC hf (by omega)) (.inl (by simp)), fun f hf => ?_, by rw [prgG_len]; simp⟩
  rw [prgG_len] at hf
  rw [hsC_get hf]
  exact finC hC hf
theorem costC (hF2 : F ≤ 64) (hC : 4 ≤ C) (hC2 : C ≤ 4096) (hL : 0 ≤ L) (hL2 : L ≤ 64) : ∀ d f, f + d + 1 = F → kcL (prgC F C L false) f = ((d : Int) + 1) * C := by
  have hm : mostC = 1099511627777 := rfl
  intro d
  induction d with
  | zero =>
    intro f hf
    have hS := strtC (F := F) (C := C) (L := L) hC (by omega)
    have hg := goodC (F := F) (C := C) (L := L) (lp := false) (by omega) hF2 hC hC2 hL hL2
    have hfr := liveC (F := F) (C := C) (L := L) (lp := false) hC f (by omega)
    have key : ∀ e n, n + e + 1 = C → pcL (prgC F C L false) f (kcL (prgC F C L false)) n = (e : Int) + 1 := by
      intro e
      induction e with
      | zero =>
        intro n hn
        obtain ⟨h', t, g, l, H⟩ := insC_is (F := F) (i := f) (k := n) (C := C) false (by omega) (by omega)
        rw [pc_eq hS hg hfr (reachC hC (by omega) n (by omega)), nextC H hC (by omega) (by omega)]
        unfold costTo callC
        rw [nextC H hC (by omega) (by omega), prgG_ins (by omega) (by omega)]
        dsimp only
        generalize insC F C false f n = x at H
        cases H with
        | size h1 => cases h1
        | loop h1 => cases h1
        | num => omega
        | call => omega
        | ret => rw [if_neg (by decide), hm]; rfl
        | nop => omega
      | succ e ih =>
        intro n hn
        have h1 := ih (n + 1) (by omega)
        obtain ⟨h', t, g, l, H⟩ := insC_is (F := F) (i := f) (k := n) (C := C) false (by omega) (by omega)
        rw [pc_eq hS hg hfr (reachC hC (by omega) n (by omega)), nextC H hC (by omega) (by omega)]
        unfold costTo callC
        rw [nextC H hC (by omega) (by omega), prgG_ins (by omega) (by omega)]
        dsimp only
        generalize insC F C false f n = x at H
        have e1 : ((n : Int) + 1).toNat = n + 1 := by omega
        cases H with
        | size h1 => cases h1
        | loop h1 => cases h1
        | num =>
          rw [if_neg (by decide)]
          simp only [List.map_cons, List.map_nil, List.length_cons, List.length_nil, List.take_succ_cons, List.take_zero, List.foldl_cons, List.foldl_nil, Nat.zero_add, e1, h1]
          rw [hm]
          omega
        | call => omega
        | ret => omega
        | nop =>
          rw [if_neg (by decide)]
          simp only [List.map_cons, List.map_nil, List.length_cons, List.length_nil, List.take_succ_cons, List.take_zero, List.foldl_cons, List.foldl_nil, Nat.zero_add, e1, h1]
          rw [hm]
          omega
    rw [kc_eq hS hg hfr, key (C - 1) 0 (by omega)]
    omega
  | succ d ih0 =>
    intro f hf
    have hK := ih0 (f + 1) (by omega)
    obtain ⟨K, hKe⟩ : ∃ K, K = ((d : Int) + 1) * C := ⟨_, rfl⟩
    rw [← hKe] at hK
    have hK0 : 0 ≤ K ∧ K ≤ 64 * 4096 := by
      rw [hKe]
      refine ⟨Int.mul_nonneg (by omega) (by omega), ?_⟩
      exact Int.le_trans (Int.mul_le_mul_of_nonneg_right (show (d : Int) + 1 ≤ 64 by omega) (by omega)) (Int.mul_le_mul_of_nonneg_left (show (C : Int) ≤ 4096 by omega) (by omega))
    have hS := strtC (F := F) (C := C) (L := L) hC (by omega)
    have hg := goodC (F := F) (C := C) (L := L) (lp := false) (by omega) hF2 hC hC2 hL hL2
    have hfr := liveC (F := F) (C := C) (L := L) (lp := false) hC f (by omega)
    have key : ∀ e n, n + e + 1 = C → pcL (prgC F C L false) f (kcL (prgC F C L false)) n = (e : Int) + 1 + (if 1 ≤ e then K else 0) := by
      intro e
      induction e with
      | zero =>
        intro n hn
        obtain ⟨h', t, g, l, H⟩ := insC_is (F := F) (i := f) (k := n) (C := C) false (by omega) (by omega)
        rw [pc_eq hS hg hfr (reachC hC (by omega) n (by omega)), nextC H hC (by omega) (by omega)]
        unfold costTo callC
        rw [nextC H hC (by omega) (by omega), prgG_ins (by omega) (by omega)]
        dsimp only
        generalize insC F C false f n = x at H
        cases H with
        | size h1 => cases h1
        | loop h1 => cases h1
        | num => omega
        | call => omega
        | ret => rw [if_neg (by decide), hm]; rfl
        | nop => omega
      | succ e ih =>
        intro n hn
        have h1 := ih (n + 1) (by omega)
        obtain ⟨h', t, g, l, H⟩ := insC_is (F := F) (i := f) (k := n) (C := C) false (by omega) (by omega)
        rw [pc_eq hS hg hfr (reachC hC (by omega) n (by omega)), nextC H hC (by omega) (by omega)]
        unfold costTo callC
        rw [nextC H hC (by omega) (by omega), prgG_ins (by omega) (by omega)]
        dsimp only
        generalize insC F C false f n = x at H
        have e1 : ((n : Int) + 1).toNat = n + 1 := by omega
        have e2 : ((f : Int) + 1).toNat = f + 1 := by omega
        cases H with
        | size h1 => cases h1
        | loop h1 => cases h1
        | num => omega
        | call h2 h3 =>
          obtain rfl : e = 0 := by omega
          rw [if_pos rfl, e2, hK]
          simp only [List.map_cons, List.map_nil, List.length_cons, List.length_nil, List.take_succ_cons, List.take_zero, List.foldl_cons, List.foldl_nil, Nat.zero_add, e1, h1]
          rw [hm, if_neg (by omega), if_pos (by omega)]
          omega
        | ret => omega
        | nop h2 h3 =>
          rw [if_neg (by decide)]
          simp only [List.map_cons, List.map_nil, List.length_cons, List.length_nil, List.take_succ_cons, List.take_zero, List.foldl_cons, List.foldl_nil, Nat.zero_add, e1, h1]
          rw [hm, if_pos (by omega), if_pos (by omega)]
          omega
    rw [kc_eq hS hg hfr, key (C - 1) 0 (by omega), if_pos (by omega), hKe, show ((d + 1 : Nat) : Int) + 1 = ((d : Int) + 1) + 1 by omega, Int.add_mul ((d : Int) + 1) 1, Int.one_mul]
    omega
abbrev lpsC (F : Nat) (lp : Bool) : List (List Int) := (List.range F).map fun i => if lp = true ∧ i + 1 = F then [0, 1] else []
theorem factsC (hF : 1 ≤ F) (hF2 : F ≤ 64) (hC : 4 ≤ C) (hC2 : C ≤ 4096) (hL : 0 ≤ L) (hL2 : L ≤ 64) :
    FactsOk (prgC F C L lp) (hsC F C lp) (topsC F) (lpsC F lp) (List.replicate F true) ((F : Int) * (1 + L) + 1) (if lp = true then -1 else (F : Int) * C) := by
  have hg := goodC (F := F) (C := C) (L := L) (lp := lp) hF hF2 hC hC2 hL hL2
  refine ⟨prgG_lead hF hg.chk, hg, by rw [prgG_len]; simp, by rw [prgG_len]; simp, by rw [prgG_len]; simp, by rw [prgG_len]; simp, fun f hf => ?_, fun f hf => ?_, fun f hf => ?_, fun v => ?_, ?_, ?_⟩
  · rw [prgG_len] at hf
    rw [hsC_get hf]
    exact finC hC hf
  · rw [prgG_len] at hf
    rw [hsC_get hf, List.getD_eq_getElem?_getD, List.getElem?_replicate, if_pos hf]
    exact topC hC hf
  · rw [prgG_len] at hf
    rw [prgG_code hf, loopC hC hf, List.getD_eq_getElem?_getD, List.getElem?_map, List.getElem?_range hf]
    rfl
  · rw [List.getElem?_replicate]
    constructor
    · intro h
      by_cases hv : v < F
      · exact liveC hC v hv
      · rw [if_neg hv] at h; cases h
    · intro h
      rw [if_pos (liveC_lt hC h (by omega))]
  · exact .inr ⟨acycC hC, _, cellsC hC hL, by simp⟩
  · cases lp with
    | true =>
      classical
      refine .inl ⟨fun h => ?_, rfl⟩
      have h1 := h.2 (F - 1) (liveC hC (F - 1) (by omega)) 0 (.refl 0)
      have h2 := loopC (F := F) (C := C) (L := L) (lp := true) (i := F - 1) hC (by omega)
      rw [if_pos ⟨rfl, by omega⟩] at h2
      have h3 : (0 : Int) ∈ loopsL (nxF (prgC F C L true) (F - 1 : Nat)) C := by rw [h2]; simp
      unfold loopsL at h3
      obtain ⟨v, hv, hv0⟩ := List.mem_map.1 h3
      have h4 := of_decide_eq_true (List.mem_filter.1 hv).2
      obtain rfl : v = 0 := by omega
      exact h1 h4.2
    | false =>
      have hk := costC (F := F) (C := C) (L := L) hF2 hC hC2 hL hL2 (F - 1) 0 (by omega)
      rw [show ((F - 1 : Nat) : Int) + 1 = (F : Int) by omega] at hk
      have hb : (F : Int) * C ≤ 64 * 4096 := Int.le_trans (Int.mul_le_mul_of_nonneg_right (show (F : Int) ≤ 64 by omega) (by omega)) (Int.mul_le_mul_of_nonneg_left (show (C : Int) ≤ 4096 by omega) (by omega))
      refine .inr ⟨acycC hC, (strtC hC hF).straight, ?_⟩
      rw [hk, if_neg (by decide), if_pos (by omega)]
/-! ### Two that are not right -/
def insJ (F C : Nat) (i k : Nat) : Ins := if i + 1 = F ∧ k + 3 = C then ⟨14, C⟩ else insC F C false i k
def insK (F C : Nat) (lp : Bool) (i k : Nat) : Ins := if i + 1 = F ∧ k + 2 = C then ⟨17, F⟩ else insC F C lp i k
theorem badJ (hF : 1 ≤ F) (hF2 : F ≤ 64) (hC : 4 ≤ C) (hC2 : C ≤ 4096) (hL : 0 ≤ L) (hL2 : L ≤ 64) :
    BadAt (prgG F C L (insJ F C)) (if C = 4096 then (112, 0, 0) else (131, ((F - 1 : Nat) : Int), ((C - 3 : Nat) : Int))) := by
  have hJ : insJ F C (F - 1) (C - 3) = ⟨14, C⟩ := by unfold insJ; rw [if_pos ⟨by omega, by omega⟩]
  have hN : ∀ i k, i < F → k < C → ¬ (i + 1 = F ∧ k + 3 = C) → ∃ h t g l, InsC F C false i k (insJ F C i k) h t g l := fun i k hi hk h => by
    unfold insJ
    rw [if_neg h]
    exact insC_is false hi hk
  by_cases hc : C = 4096
  · rw [if_pos hc]
    have h1 : checkL (prgG F C L (insJ F C)) = 112 := by
      refine prgG_112 hF hF2 (by omega) hC2 hL hL2 (fun i k hi hk => ?_) (i0 := F - 1) (k0 := C - 3) (by omega) (by omega) ?_
      · by_cases h : i + 1 = F ∧ k + 3 = C
        · unfold insJ; rw [if_pos h]; exact ops_ok.2.2.2.2.2.2
        · obtain ⟨_, _, _, _, H⟩ := hN i k hi hk h
          exact (H.good hF2).1
      · rw [hJ]
        show mayB (kindN 14) (C : Int) = false
        rw [kinds_of.1, hc]
        unfold mayB
        rw [if_neg (by decide), if_neg (by decide), most_34.1]
        decide
    exact .inl ⟨by rw [h1]; decide, by rw [h1]⟩
  · rw [if_neg hc]
    have h1 : checkL (prgG F C L (insJ F C)) = 0 := prgG_check hF hF2 (by omega) hC2 hL hL2 fun i k hi hk => by
      by_cases h : i + 1 = F ∧ k + 3 = C
      · unfold insJ
        rw [if_pos h]
        refine ⟨ops_ok.2.2.2.2.2.2, ?_⟩
        show mayB (kindN 14) (C : Int) = true
        rw [kinds_of.1]
        exact mayB_3 (by omega) (by omega)
      · obtain ⟨_, _, _, _, H⟩ := hN i k hi hk h
        exact H.good hF2
    refine .inr (.inr (.inl ⟨prgG_lead hF h1, ?_⟩))
    have hcode : ((List.range C).map (insJ F C (F - 1)))[C - 3]? = some ⟨14, C⟩ := by rw [List.getElem?_map, List.getElem?_range (by omega), ← hJ]; rfl
    have hb : badOp (prgG F C L (insJ F C)) ⟨0, L, 1, (List.range C).map (insJ F C (F - 1))⟩ ⟨14, C⟩ = 131 := by
      unfold badOp
      rw [if_pos (.inl rfl), if_pos (by simp)]
    have h2 := firstP_at (P := prgG F C L (insJ F C)) (l := (prgG F C L (insJ F C)).fs) (f := F - 1) (n := C - 3) (prgG_fn (by omega)) hcode (by rw [hb]; decide) (fun j y hj hy => ?_) (fun j q hj hq x hx => ?_) 0
    · rw [hb, Nat.zero_add] at h2
      exact h2
    · rw [List.getElem?_map, List.getElem?_range (by omega)] at hy
      obtain rfl := Option.some.inj hy
      obtain ⟨_, _, _, _, H⟩ := hN (F - 1) j (by omega) (by omega) (by omega)
      exact badOpC H (by simp; omega)
    · rw [prgG_fn (by omega)] at hq
      obtain rfl := Option.some.inj hq
      obtain ⟨k, hk, rfl⟩ := List.mem_map.1 hx
      obtain ⟨_, _, _, _, H⟩ := hN j k (by omega) (List.mem_range.1 hk) (by omega)
      exact badOpC H (by simp; omega)
theorem badK (hF : 1 ≤ F) (hF2 : F ≤ 64) (hC : 4 ≤ C) (hC2 : C ≤ 4096) (hL : 0 ≤ L) (hL2 : L ≤ 64) :
    BadAt (prgG F C L (insK F C lp)) (if F = 64 then (112, 0, 0) else (133, ((F - 1 : Nat) : Int), ((C - 2 : Nat) : Int))) := by
  have hJ : insK F C lp (F - 1) (C - 2) = ⟨17, F⟩ := by unfold insK; rw [if_pos ⟨by omega, by omega⟩]
  have hN : ∀ i k, i < F → k < C → ¬ (i + 1 = F ∧ k + 2 = C) → ∃ h t g l, InsC F C lp i k (insK F C lp i k) h t g l := fun i k hi hk h => by
    unfold insK
    rw [if_neg h]
    exact insC_is lp hi hk
  by_cases hc : F = 64
  · rw [if_pos hc]
    have h1 : checkL (prgG F C L (insK F C lp)) = 112 := by
      refine prgG_112 hF hF2 (by omega) hC2 hL hL2 (fun i k hi hk => ?_) (i0 := F - 1) (k0 := C - 2) (by omega) (by omega) ?_
      · by_cases h : i + 1 = F ∧ k + 2 = C
        · unfold insK; rw [if_pos h]; exact ops_ok.2.2.2.2.2.1
        · obtain ⟨_, _, _, _, H⟩ := hN i k hi hk h
          exact (H.good hF2).1
      · rw [hJ]
        show mayB (kindN 17) (F : Int) = false
        rw [kinds_of.2.2.2.1, hc]
        unfold mayB
        rw [if_neg (by decide), if_neg (by decide), most_34.2]
        decide
    exact .inl ⟨by rw [h1]; decide, by rw [h1]⟩
  · rw [if_neg hc]
    have h1 : checkL (prgG F C L (insK F C lp)) = 0 := prgG_check hF hF2 (by omega) hC2 hL hL2 fun i k hi hk => by
      by_cases h : i + 1 = F ∧ k + 2 = C
      · unfold insK
        rw [if_pos h]
        refine ⟨ops_ok.2.2.2.2.2.1, ?_⟩
        show mayB (kindN 17) (F : Int) = true
        rw [kinds_of.2.2.2.1]
        exact mayB_4 (by omega) (by omega)
      · obtain ⟨_, _, _, _, H⟩ := hN i k hi hk h
        exact H.good hF2
    refine .inr (.inr (.inl ⟨prgG_lead hF h1, ?_⟩))
    have hcode : ((List.range C).map (insK F C lp (F - 1)))[C - 2]? = some ⟨17, F⟩ := by rw [List.getElem?_map, List.getElem?_range (by omega), ← hJ]; rfl
    have hb : badOp (prgG F C L (insK F C lp)) ⟨0, L, 1, (List.range C).map (insK F C lp (F - 1))⟩ ⟨17, F⟩ = 133 := by
      unfold badOp
      rw [if_neg (by show ¬ ((17 : Int) = 14 ∨ (17 : Int) = 15 ∨ (17 : Int) = 16); decide), if_neg (by show ¬ ((17 : Int) = 7 ∨ (17 : Int) = 8); decide), if_pos rfl, if_pos (by rw [prgG_len]; exact Int.le_refl _)]
    have h2 := firstP_at (P := prgG F C L (insK F C lp)) (l := (prgG F C L (insK F C lp)).fs) (f := F - 1) (n := C - 2) (prgG_fn (by omega)) hcode (by rw [hb]; decide) (fun j y hj hy => ?_) (fun j q hj hq x hx => ?_) 0
    · rw [hb, Nat.zero_add] at h2
      exact h2
    · rw [List.getElem?_map, List.getElem?_range (by omega)] at hy
      obtain rfl := Option.some.inj hy
      obtain ⟨_, _, _, _, H⟩ := hN (F - 1) j (by omega) (by omega) (by omega)
      exact badOpC H (by simp; omega)
    · rw [prgG_fn (by omega)] at hq
      obtain rfl := Option.some.inj hq
      obtain ⟨k, hk, rfl⟩ := List.mem_map.1 hx
      obtain ⟨_, _, _, _, H⟩ := hN j k (by omega) (List.mem_range.1 hk) (by omega)
      exact badOpC H (by simp; omega)
theorem bad_facts {P : Prg} {x : Int × Int × Int} {hs lps : List (List Int)} {tops : List Int} {live : List Bool} {ce co : Int} (h : BadAt P x) (k : FactsOk P hs tops lps live ce co) : False := by
  rcases h with ⟨h1, -⟩ | ⟨-, h1, -⟩ | ⟨-, h1⟩ | ⟨hl, -, f, n, er, hf, -, hr, -, -⟩
  · exact h1 k.lead.chk
  · rcases h1 with h1 | h1
    · exact h1 k.lead.args
    · exact h1 k.lead.results
  · rw [k.good.ops] at h1; cases h1
  · have := fin_runs (k.fin f hf) hl.chk (len_pos hl.chk hf) hr
    cases this
end
end

section
/- A program of which every list is own, written to; rows of instructions made anew: plain. -/
open Go.RowKit

theorem flat_setC : ∀ (ls : List FunM) (i : Nat) (f g : FunM), ls[i]? = some f → funCells g = funCells f → (ls.set i g).flatMap funCells = ls.flatMap funCells := by
  intro ls
  induction ls with
  | nil => intro i f g h; cases h
  | cons y ls ih =>
    intro i f g h e
    cases i with
    | zero => simp at h; subst h; rw [List.set_cons_zero, List.flatMap_cons, List.flatMap_cons, e]
    | succ i => rw [List.set_cons_succ, List.flatMap_cons, List.flatMap_cons, ih i f g (by simpa using h) e]
theorem insCells_setC (ls : List Ins) (k : Nat) (x : Ins) (h : k < ls.length) : ((ls.flatMap insCells).set (k * 2) (.int .i64 x.op)).set (k * 2 + 1) (.int .i64 x.a) = (ls.set k x).flatMap insCells := by
  induction ls generalizing k with
  | nil => cases h
  | cons y ls ih =>
    cases k with
    | zero => rfl
    | succ k =>
      rw [List.set_cons_succ, List.flatMap_cons, List.flatMap_cons, ← ih k (by simpa using h), show (k + 1) * 2 = k * 2 + 2 from by omega]
      rfl
theorem set_getC {α : Type} (ls : List α) (i j : Nat) (f g x : α) (hi : ls[i]? = some f) (h : (ls.set i g)[j]? = some x) : (j = i ∧ x = g) ∨ (j ≠ i ∧ ls[j]? = some x) := by
  by_cases e : j = i
  · subst e
    rw [List.getElem?_set_self (List.getElem?_eq_some_iff.1 hi).1] at h
    injection h with h
    exact .inl ⟨rfl, h.symm⟩
  · rw [List.getElem?_set_ne (fun h => e h.symm)] at h
    exact .inr ⟨e, h⟩
theorem MineR.changeC {w w' : World} {base i : Nat} {hs : List FunM} {f g : FunM} (h : MineR w base hs) (hi : hs[i]? = some f) (hA : g.A = f.A) (hg : Own w' base 45 2 g.A g.code.length g.c (g.code.flatMap insCells))
    (hk : ∀ j x, j ≠ i → hs[j]? = some x → Own w' base 45 2 x.A x.code.length x.c (x.code.flatMap insCells)) : MineR w' base (hs.set i g) := by
  refine ⟨fun x hx => ?_, fun a b x y ha hb hab k hk1 hk2 => ?_⟩
  · obtain ⟨j, hj⟩ := List.mem_iff_getElem?.1 hx
    rcases set_getC hs i j f g x hi hj with ⟨-, rfl⟩ | ⟨h1, h2⟩
    · exact hg
    · exact hk j x h1 h2
  · rcases set_getC hs i a f g x hi ha with ⟨rfl, rfl⟩ | ⟨h1, h2⟩
    · rcases set_getC hs a b f x y hi hb with ⟨rfl, rfl⟩ | ⟨h3, h4⟩
      · exact hab rfl
      · exact h.apart a b f y hi h4 hab k (by rw [← hA]; exact hk1) hk2
    · rcases set_getC hs i b f g y hi hb with ⟨rfl, rfl⟩ | ⟨h3, h4⟩
      · exact h.apart a b x f h2 hi hab k hk1 (by rw [← hA]; exact hk2)
      · exact h.apart a b x y h2 h4 hab k hk1 hk2
theorem mine_codeC {w : World} {base : Nat} {q : PrgM} (h : PrgMine w base q) (hok : PrgOk q.plain) (i : Nat) (f : FunM) (hf : q.fs[i]? = some f) (gc : Nat) (hA : f.A = some ⟨gc, 0, none⟩) (k : Nat) (hk : k < f.code.length) (x : Ins) (hx : InsOk x) :
    ∃ q' : PrgM, q'.val = q.val ∧ q'.plain = ⟨q.plain.mem, q.plain.data, q.plain.fs.set i ⟨f.args, f.locals, f.results, f.code.set k x⟩⟩ ∧ q'.fs[i]? = some ⟨f.args, f.locals, f.results, f.A, f.c, f.code.set k x⟩ ∧ PrgOk q'.plain ∧ PrgMine ((w.setCell ⟨gc, k * 2, none⟩ (.int .i64 x.op)).setCell ⟨gc, k * 2 + 1, none⟩ (.int .i64 x.a)) base q' := by
  have hO : Only (fun b => b = gc) w ((w.setCell ⟨gc, k * 2, none⟩ (.int .i64 x.op)).setCell ⟨gc, k * 2 + 1, none⟩ (.int .i64 x.a)) :=
    ((Only.refl (fun b => b = gc) w).setCell (p := ⟨gc, k * 2, none⟩) (.inl rfl) _).setCell (p := ⟨gc, k * 2 + 1, none⟩) (.inl rfl) _
  have hfm := List.mem_of_getElem? hf
  have hcode := h.row.code f hfm
  have hil := (List.getElem?_eq_some_iff.1 hf).1
  refine ⟨⟨q.mem, q.AD, q.cD, q.data, q.AF, q.cF, q.fs.set i ⟨f.args, f.locals, f.results, f.A, f.c, f.code.set k x⟩⟩, ?_, (by unfold PrgM.plain; rw [List.map_set]; rfl), List.getElem?_set_self hil, ⟨hok.dlen, ?_, hok.m1, hok.m2, fun g hg => ?_⟩, ?_, ?_, ?_⟩
  · dsimp only [PrgM.val]
    rw [List.length_set]
  · have h1 := hok.flen
    change (q.fs.map FunM.plain).length ≤ _ at h1
    show ((q.fs.set i _).map FunM.plain).length ≤ _
    rw [List.length_map] at h1 ⊢
    rwa [List.length_set]
  · obtain ⟨y, hy, rfl⟩ := List.mem_map.1 hg
    obtain ⟨j, hj⟩ := List.mem_iff_getElem?.1 hy
    rcases set_getC q.fs i j f _ y hf hj with ⟨-, rfl⟩ | ⟨-, h2⟩
    · obtain ⟨h1, h2, h3⟩ := hok.fs f.plain (List.mem_map.2 ⟨f, hfm, rfl⟩)
      refine ⟨fun z hz => ?_, by show (f.code.set k x).length ≤ _; rw [List.length_set]; exact h2, h3⟩
      rcases List.mem_or_eq_of_mem_set hz with hz | rfl
      · exact h1 z hz
      · exact hx
    · exact hok.fs y.plain (List.mem_map.2 ⟨y, List.mem_of_getElem? h2, rfl⟩)
  · exact Own.only h.data hO fun b o e e2 => own_ne h.data hcode (by decide) b (by rw [e]; rfl) (by rw [hA, e2]; rfl)
  · have e : (q.fs.set i ⟨f.args, f.locals, f.results, f.A, f.c, f.code.set k x⟩).flatMap funCells = q.fs.flatMap funCells := flat_setC q.fs i f _ hf (by simp only [funCells, List.length_set])
    show Own _ base _ 4 q.AF (q.fs.set i _).length q.cF ((q.fs.set i _).flatMap funCells)
    rw [e, List.length_set]
    exact Own.only h.funs hO fun b o e e2 => own_ne h.funs hcode (by decide) b (by rw [e]; rfl) (by rw [hA, e2]; rfl)
  · refine h.row.changeC hf rfl ?_ fun j y hj hy => ?_
    · show Own _ base _ 2 f.A (f.code.set k x).length f.c ((f.code.set k x).flatMap insCells)
      rw [List.length_set, hA, ← insCells_setC f.code k x hk]
      rw [hA] at hcode
      exact own_set (own_set hcode (k * 2) _) (k * 2 + 1) _
    · exact Own.only (h.row.code y (List.mem_of_getElem? hy)) hO fun b o e e2 => h.row.apart j i y f hy hf hj b (by rw [e]; rfl) (by rw [hA, e2]; rfl)
theorem own_insSet {w : World} {base g n c : Nat} {ls : List Ins} (h : Own w base 45 2 (some ⟨g, 0, none⟩) n c (ls.flatMap insCells)) (k : Nat) (hk : k < ls.length) (x : Ins) :
    Own ((w.setCell ⟨g, k * 2, none⟩ (.int .i64 x.op)).setCell ⟨g, k * 2 + 1, none⟩ (.int .i64 x.a)) base 45 2 (some ⟨g, 0, none⟩) n c ((ls.set k x).flatMap insCells) := by
  rw [← insCells_setC ls k x hk]
  exact own_set (own_set h (k * 2) _) (k * 2 + 1) _
theorem own_insAt {w : World} {base g n c : Nat} {ls : List Ins} (h : Own w base 45 2 (some ⟨g, 0, none⟩) n c (ls.flatMap insCells)) (k : Nat) (hk : k < ls.length) :
    (∃ v, w.cell? ⟨g, k * 2, none⟩ = some v) ∧ (∃ v, w.cell? ⟨g, k * 2 + 1, none⟩ = some v) ∧ w.frozen? ⟨g, k * 2, none⟩ = false ∧ w.frozen? ⟨g, k * 2 + 1, none⟩ = false ∧ g < w.heap.size := by
  have hl : (ls.flatMap insCells).length = ls.length * 2 := insCells_len ls
  obtain ⟨h1, h2, h3⟩ := own_at h (k * 2) (by omega)
  obtain ⟨h4, h5, -⟩ := own_at h (k * 2 + 1) (by omega)
  exact ⟨⟨_, h1⟩, ⟨_, h4⟩, h2, h5, h3⟩
theorem run_inss (n : Nat) (hn : n ≤ 1000000) (w : World) : (Instr.makeSlice 41 (.int .i64 (n : Int)) (.int .i64 (n : Int))).run Try.prog w = .ok (.slice (some ⟨w.heap.size, 0, none⟩) n n) (w.alloc (.cells (Array.replicate (n * 2) (.int .i64 0)) 45)) := by
  obtain ⟨i, hi, h1, h2, h3⟩ := info_parts ins_info
  have hr := run_make (P := Try.prog) w 41 45 i (.agg #[.int .i64 0, .int .i64 0]) (Try.underlying41) hi h1 .i64 .i64 n n (by omega) (Int.le_refl _) (by rw [h3]; omega) (by omega)
  simp only [Int.toNat_natCast] at hr
  have hcells : madeCells (Value.agg #[.int .i64 0, .int .i64 0]).cells (n * i.size) = Array.replicate (n * 2) (.int .i64 0) := by
    rw [h2]
    have e : (Value.agg #[.int .i64 0, .int .i64 0]).cells = #[.int .i64 0, .int .i64 0] := rfl
    rw [e]
    unfold madeCells
    refine Array.ext (by simp) fun j h4 h5 => ?_
    simp only [Array.getElem_map, Array.getElem_range, Array.getElem_replicate]
    have h7 : j % (#[Value.int .i64 0, Value.int .i64 0] : Array Value).size = j % 2 := rfl
    rw [h7]
    rcases (show j % 2 = 0 ∨ j % 2 = 1 by omega) with h8 | h8 <;> rw [h8] <;> rfl
  rw [hcells] at hr
  exact hr
theorem own_nops (w : World) (n : Nat) (hn : n ≤ 1000000) : Own (w.alloc (.cells (Array.replicate (n * 2) (.int .i64 0)) 45)) w.heap.size 45 2 (some ⟨w.heap.size, 0, none⟩) n n ((List.replicate n (⟨0, 0⟩ : Ins)).flatMap insCells) := by
  have e : (List.replicate n (⟨0, 0⟩ : Ins)).flatMap insCells = List.replicate (n * 2) (.int .i64 0) := by
    clear hn
    induction n with
    | zero => rfl
    | succ n ih => rw [List.replicate_succ, List.flatMap_cons, ih, show (n + 1) * 2 = n * 2 + 1 + 1 by omega, List.replicate_succ, List.replicate_succ]; rfl
  rw [e]
  have h := Own.lit w 45 2 n (Array.replicate (n * 2) (.int .i64 0)) (Nat.le_refl _) (by unfold maxLen; omega) (by simp)
  simpa using h
end
end Go.Proofs.Ytcmpmhlcfalbhaa
