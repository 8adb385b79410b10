/- What Encode is to tell, in plain Lean. -/
import Derived.Test.YtcmpmhlcfalbhaaPrgL
import Derived.Test.YtcmpmhlcfalbhaaDecK
namespace Go.Proofs.Ytcmpmhlcfalbhaa
open Go.RowKit

def codeL (f : Fun) : List UInt8 := (encL f.code).1
def funL (f : Fun) : List UInt8 := formL f.args.toNat ++ formL f.locals.toNat ++ formL f.results.toNat ++ (formL (codeL f).length ++ codeL f)
def headL (p : Prg) : List UInt8 := formL 2 ++ formL p.mem.toNat ++ (formL p.data.length ++ p.data) ++ formL p.fs.length
def progL (p : Prg) : List UInt8 := headL p ++ p.fs.flatMap funL
def encP (p : Prg) : List UInt8 × Int := if checkL p = 0 then (if 1048576 < (progL p).length then ([], 2) else (progL p, 0)) else ([], checkL p)
structure GoodF (f : Fun) : Prop where
  bad : badF f = false
  enc : (encL f.code).2 = 0
theorem checkF_ok : ∀ l : List Fun, checkF l = 0 ↔ ∀ f ∈ l, GoodF f := by
  intro l
  induction l with
  | nil => simp [checkF]
  | cons f l ih =>
    unfold checkF
    cases hb : badF f with
    | true =>
      rw [if_pos rfl]
      constructor
      · intro h; omega
      · intro h
        have := (h f (List.mem_cons_self ..)).bad
        rw [hb] at this
        cases this
    | false =>
      rw [if_neg (by decide)]
      by_cases he : (encL f.code).2 = 0
      · rw [if_pos he, ih]
        constructor
        · intro h g hg
          rcases List.mem_cons.1 hg with rfl | hg
          · exact ⟨hb, he⟩
          · exact h g hg
        · exact fun h g hg => h g (List.mem_cons_of_mem _ hg)
      · rw [if_neg he]
        constructor
        · intro h; exact absurd h he
        · intro h; exact absurd (h f (List.mem_cons_self ..)).enc he
theorem checkL_ok (p : Prg) : checkL p = 0 ↔ badH p = false ∧ ∀ f ∈ p.fs, GoodF f := by
  unfold checkL
  cases hb : badH p with
  | true =>
    rw [if_pos rfl]
    constructor
    · intro h; omega
    · intro h; exact absurd h.1 (by decide)
  | false =>
    rw [if_neg (by decide), checkF_ok]
    simp
theorem codeL_le {f : Fun} (h : GoodF f) : (codeL f).length ≤ 40960 := by
  obtain ⟨h1, h2, h3⟩ := encL_ok (l := f.code) (ys := codeL f) (by rw [← h.enc]; rfl)
  have := flat_le f.code h3
  rw [h2]
  omega
theorem funL_le {f : Fun} (h : GoodF f) : (funL f).length ≤ 40996 := by
  have := codeL_le h
  have := formL_le f.args.toNat
  have := formL_le f.locals.toNat
  have := formL_le f.results.toNat
  have := formL_le (codeL f).length
  unfold funL
  simp only [List.length_append]
  omega
theorem flat_funL : ∀ l : List Fun, (∀ f ∈ l, GoodF f) → (l.flatMap funL).length ≤ 40996 * l.length := by
  intro l
  induction l with
  | nil => intro _; simp
  | cons f l ih =>
    intro h
    have h1 := funL_le (h f (List.mem_cons_self ..))
    have h2 := ih fun g hg => h g (List.mem_cons_of_mem _ hg)
    rw [List.flatMap_cons, List.length_append, List.length_cons]
    omega
theorem headL_le {p : Prg} (h : badH p = false) : (headL p).length ≤ 65572 := by
  have hb := badH_not h
  have := formL_le 2
  have := formL_le p.mem.toNat
  have := formL_le p.data.length
  have := formL_le p.fs.length
  unfold headL
  simp only [List.length_append]
  omega
theorem encP_snd (p : Prg) : (encP p).2 = 0 ∨ (encP p).1 = [] := by
  unfold encP
  split
  · split
    · exact .inr rfl
    · exact .inl rfl
  · exact .inr rfl
theorem encP_ok {p : Prg} {b : List UInt8} (h : encP p = (b, 0)) : checkL p = 0 ∧ b = progL p ∧ b.length ≤ 1048576 := by
  unfold encP at h
  split at h
  · rename_i hc
    split at h
    · injection h with _ h; omega
    · injection h with h _
      exact ⟨hc, h.symm, by rw [← h]; omega⟩
  · rename_i hc
    injection h with _ h
    exact absurd h hc
end Go.Proofs.Ytcmpmhlcfalbhaa
