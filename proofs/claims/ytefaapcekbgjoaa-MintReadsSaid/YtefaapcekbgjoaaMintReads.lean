/- Proved here: the law retortlaw1.MintReads of the given program returns true, whatever it is given; there is no condition.
  The frame follows the kit's template; the walk is ours. -/
import Derived.Test.YtefaapcekbgjoaaRows
import Derived.Test.YtefaapcekbgjoaaMrLw
import Derived.Test.YtefaapcekbgjoaaOpenCa
import Derived.Test.YtefaapcekbgjoaaOpenK
import Derived.Test.YtefaapcekbgjoaaLaw
namespace Go.Proofs.Ytefaapcekbgjoaa.mintReads
open Go.ChangeShapes Go.WideShapes Go.ChangeAt Go.RowKit
set_option linter.unusedVariables false

theorem own : ownKnob Try.prog.godebug = none := by kernel_rfl
theorem laidOut : laidOutB Try.prog = true := by kernel_rfl

set_option maxRecDepth 100000 in
theorem lifted (os : Os) (started : os.Started) (H : Type) (enc : TypeId × Value → H) :
    ReturnsInHanded {} Try.checked os 7 .any (Rows.mintReadsSpec.pre6 enc Try.prog Try.f7 Rows.mintReadsRow.domain false) (Rows.mintReadsSpec.post enc Try.prog Try.f7 false true false false) := by
  refine returnsInHanded_of_change_sized (C := Try.checked) own started (by kernel_rfl) Try.func7
    (ChangeSpec.witness6 (enc := enc) (C := Try.checked) false ⟨#[], #[.slice none 0 0, .slice none 0 0], []⟩ 8 (by kernel_rfl) (by kernel_rfl) (by kernel_rfl) (by kernel_rfl)) ?_
  intro W base args ds gs before hval0 hW hcnd hwt _
  have hval : ∀ (j : Nat) t v, Try.f7.params[j]? = some t → args[j]? = some v → Value.okWide Try.prog W .any base t v := hval0
  have hW' := hW
  obtain ⟨p, q, hA0, hV, rfl, hfz, hnd⟩ := hW
  have hA : DataW.TrodAll enc Try.prog W 0 (fun _ => true) true Try.f7.params.toList args.toList ds p := hA0
  rw [Try.params7] at hA hval
  obtain ⟨v0, vs0, d0, ds0, p0, q0, hargs, rfl, rfl, h0, r0⟩ := trodAll_cons hA
  obtain ⟨v1, vs1, d1, ds1, p1, q1, rfl, rfl, rfl, h1, r1⟩ := trodAll_cons r0
  obtain ⟨rfl, rfl, rfl⟩ := trodAll_nil r1
  obtain rfl : args = #[v0, v1] := by cases args; simp_all
  obtain ⟨rfl, rfl⟩ := trodVars_none hV
  have hw0 : (DataW.weightsEach Try.prog [22, 53] [d0, d1]).all (· ≤ reachBytes) = true := hwt
  obtain ⟨wt0, hw1⟩ := wt_each hw0
  obtain ⟨wt1, hw2⟩ := wt_each hw1
  obtain ⟨A0, c0, x0, rfl, hi0, hl0⟩ := arg_bytesR (hval 0 22 v0 rfl rfl) h0 wt0
  obtain ⟨A1, c1, x1, rfl, hi1, hl1⟩ := arg_calls (hval 1 53 v1 rfl rfl) h1 wt1
  clear hA0 hval0
  refine (mintReads_walk A0 c0 x0 A1 c1 x1 W hi0 hl0 hi1).mono fun e W' ⟨he, hb⟩ => ?_
  subst he
  exact ⟨_, rfl, post_law laidOut (by kernel_rfl) rfl Try.underlying4 rfl hW' rfl hb⟩

theorem over : Rows.mintReadsRow.holds Try.pinned (OpenSpec.ofChange Rows.mintReadsSpec) :=
  OpenClaim.holds_of_wide 7 Try.f7 rfl rfl rfl rfl rfl rfl rfl ⟨rfl, rfl, rfl, rfl, rfl⟩ rfl rfl rfl rfl rfl (by kernel_rfl) Try.func7 (by kernel_rfl)
    (of_decide_eq_true (by kernel_rfl)) (by unfold Func.isWrapper; first | (rw [if_pos (by decide +kernel)]; kernel_rfl) | (rw [if_neg (by decide +kernel)]; exact ⟨rfl, rfl⟩))
    (fun os started H enc _ => lifted os started H enc)

/-- The statement. -/
theorem proved : Rows.MintReadsSaid :=
  over
#print axioms proved
end Go.Proofs.Ytefaapcekbgjoaa.mintReads
