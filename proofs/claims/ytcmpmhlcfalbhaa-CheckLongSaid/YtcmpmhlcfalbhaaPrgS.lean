/- Same of programs: prog's and the reference's (printed by gen_psame.py). -/
import Derived.Test.YtcmpmhlcfalbhaaPrgE
import Derived.Test.YtcmpmhlcfalbhaaInsJ
import Derived.Test.YtcmpmhlcfalbhaaInB
import Derived.Deep.QuietTactic
import Derived.BigQuiet
namespace Go.Proofs.Ytcmpmhlcfalbhaa
open Go.RowKit

def funB (f g : Fun) : Bool := (f.args == g.args && f.locals == g.locals && f.results == g.results) && sameB f.code g.code
def sameFs : List Fun → List Fun → Bool
  | [], [] => true
  | f :: fs, g :: gs => funB f g && sameFs fs gs
  | _, _ => false
def sameP (p q : Prg) : Bool := (p.mem == q.mem && p.data == q.data) && sameFs p.fs q.fs
theorem funB_iff (f g : Fun) : funB f g = true ↔ f = g := by
  obtain ⟨a, b, c, d⟩ := f
  obtain ⟨a', b', c', d'⟩ := g
  simp only [funB, Bool.and_eq_true, beq_iff_eq, sameB_iff, Fun.mk.injEq]
  constructor
  · rintro ⟨⟨⟨h1, h2⟩, h3⟩, h4⟩; exact ⟨h1, h2, h3, h4⟩
  · rintro ⟨h1, h2, h3, h4⟩; exact ⟨⟨⟨h1, h2⟩, h3⟩, h4⟩
theorem sameFs_iff : ∀ fs gs : List Fun, sameFs fs gs = true ↔ fs = gs := by
  intro fs
  induction fs with
  | nil => intro gs; cases gs <;> simp [sameFs]
  | cons f fs ih =>
    intro gs
    cases gs with
    | nil => simp [sameFs]
    | cons g gs => simp only [sameFs, Bool.and_eq_true, funB_iff, ih, List.cons.injEq]
theorem sameP_iff (p q : Prg) : sameP p q = true ↔ p = q := by
  obtain ⟨a, b, c⟩ := p
  obtain ⟨a', b', c'⟩ := q
  simp only [sameP, Bool.and_eq_true, beq_iff_eq, sameFs_iff, Prg.mk.injEq]
  constructor
  · rintro ⟨⟨h1, h2⟩, h3⟩; exact ⟨h1, h2, h3⟩
  · rintro ⟨h1, h2, h3⟩; exact ⟨⟨h1, h2⟩, h3⟩
theorem sameP_self (p : Prg) : sameP p p = true := (sameP_iff p p).2 rfl
theorem sameFs_len (fs gs : List Fun) (h : fs.length ≠ gs.length) : sameFs fs gs = false := by
  cases hs : sameFs fs gs with
  | false => rfl
  | true => exact absurd (congrArg List.length ((sameFs_iff fs gs).1 hs)) h
theorem bool_of_not {a : Bool} (h : ¬ a = true) : a = false := by cases a <;> simp_all
abbrev funV (f : FunM) : Value := .agg #[.int .i64 f.args, .int .i64 f.locals, .int .i64 f.results, .slice f.A f.code.length f.c]
end Go.Proofs.Ytcmpmhlcfalbhaa
