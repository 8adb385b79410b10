/- Proved here: the law retortlaw13.CheckWalks of the given program returns true, whatever it is given; there is no condition.
  The frame follows the kit's template; the walk is ours. -/
import Derived.Test.YtcmpmhlcfalbhaaRows
import Derived.Test.YtcmpmhlcfalbhaaWkM
import Derived.Test.YtcmpmhlcfalbhaaOpenPs
import Derived.Test.YtcmpmhlcfalbhaaOpenIi
import Derived.Test.YtcmpmhlcfalbhaaOpenK
import Derived.Test.YtcmpmhlcfalbhaaLaw
namespace Go.Proofs.Ytcmpmhlcfalbhaa.checkWalks
open Go.ChangeShapes Go.WideShapes Go.ChangeAt Go.RowKit
set_option linter.unusedVariables false

theorem own : ownKnob Try.prog.godebug = none := by kernel_rfl
theorem laidOut : laidOutB Try.prog = true := by kernel_rfl

set_option maxRecDepth 100000 in
theorem lifted (os : Os) (started : os.Started) (H : Type) (enc : TypeId × Value → H) :
    ReturnsInHanded {} Try.checked os 9 .any (Rows.checkWalksSpec.pre6 enc Try.prog Try.f9 Rows.checkWalksRow.domain false) (Rows.checkWalksSpec.post enc Try.prog Try.f9 false true false false) := by
  refine returnsInHanded_of_change_sized (C := Try.checked) own started (by kernel_rfl) Try.func9
    (ChangeSpec.witness6 (enc := enc) (C := Try.checked) false ⟨#[], #[.agg #[.int .i64 0, .slice none 0 0, .slice none 0 0], .slice none 0 0, .int .i64 0], []⟩ 8 (by kernel_rfl) (by kernel_rfl) (by kernel_rfl) (by kernel_rfl)) ?_
  intro W base args ds gs before hval0 hW hcnd hwt _
  have hval : ∀ (j : Nat) t v, Try.f9.params[j]? = some t → args[j]? = some v → Value.okWide Try.prog W .any base t v := hval0
  have hW' := hW
  obtain ⟨p, q, hA0, hV, rfl, hfz, hnd⟩ := hW
  have hA : DataW.TrodAll enc Try.prog W 0 (fun _ => true) true Try.f9.params.toList args.toList ds p := hA0
  rw [Try.params9] at hA hval
  obtain ⟨v0, vs0, d0, ds0, p0, q0, hargs, rfl, rfl, h0, r0⟩ := trodAll_cons hA
  obtain ⟨v1, vs1, d1, ds1, p1, q1, rfl, rfl, rfl, h1, r1⟩ := trodAll_cons r0
  obtain ⟨v2, vs2, d2, ds2, p2, q2, rfl, rfl, rfl, h2, r2⟩ := trodAll_cons r1
  obtain ⟨rfl, rfl, rfl⟩ := trodAll_nil r2
  obtain rfl : args = #[v0, v1, v2] := by cases args; simp_all
  obtain ⟨rfl, rfl⟩ := trodVars_none hV
  have hw0 : (DataW.weightsEach Try.prog [26, 29, 3] [d0, d1, d2]).all (· ≤ reachBytes) = true := hwt
  obtain ⟨wt0, hw1⟩ := wt_each hw0
  obtain ⟨wt1, hw2⟩ := wt_each hw1
  obtain ⟨wt2, hw3⟩ := wt_each hw2
  obtain ⟨x0, rfl, hi0⟩ := arg_prg (hval 0 26 v0 rfl rfl) h0 wt0
  obtain ⟨A1, c1, x1, rfl, hi1, hl1⟩ := arg_intsI (hval 1 29 v1 rfl rfl) h1 wt1
  obtain ⟨a2, rfl, rfl, rfl, w2⟩ := open_int Try.underlying3 (hval 2 3 v2 rfl rfl) h2
  have b2 := bounds_i64 w2
  clear hA0 hval0
  refine (checkWalks_walk x0 A1 c1 x1 a2 W hi0 hi1 hl1).mono fun e W' ⟨he, hb⟩ => ?_
  subst he
  exact ⟨_, rfl, post_law laidOut (by kernel_rfl) rfl Try.underlying4 rfl hW' rfl hb⟩

theorem over : Rows.checkWalksRow.holds Try.pinned (OpenSpec.ofChange Rows.checkWalksSpec) :=
  OpenClaim.holds_of_wide 9 Try.f9 rfl rfl rfl rfl rfl rfl rfl ⟨rfl, rfl, rfl, rfl, rfl⟩ rfl rfl rfl rfl rfl (by kernel_rfl) Try.func9 (by kernel_rfl)
    (of_decide_eq_true (by kernel_rfl)) (by unfold Func.isWrapper; first | (rw [if_pos (by decide +kernel)]; kernel_rfl) | (rw [if_neg (by decide +kernel)]; exact ⟨rfl, rfl⟩))
    (fun os started H enc _ => lifted os started H enc)

/-- The statement. -/
theorem proved : Rows.CheckWalksSaid :=
  over
#print axioms proved
end Go.Proofs.Ytcmpmhlcfalbhaa.checkWalks
