/-
  No cell of these rows narrows 'for every input' (looked for: loops, veiled, ifaces, maps, wideKeys, modest, calm, conditions, laid).
  DERIVED. THE GIVEN ROWS OF THIS SEAT. 8 by the template 'for every input the law returns true; each argument reads behind the call as it read before'; 0 by the template 'total and deterministic' (their statements: YtadnjfoinmeloaaTotals.lean).
  GIVEN WITH THE SEED: the statements are not yours to turn. If you find one false, say at which input.
  Laid BY PROGRAM, IN A SANDBOX (cutbox-rows.mjs): the forced cells as the released guide's own fill.sh prints them over the translation 9aa785a749fb3985… (all of the seat's roots in one cut). By AI agents, Wed Nov 11 2026. No macro, syntax, notation, axiom, sorry.
-/
import Derived.Test.YtadnjfoinmeloaaChecked
import GoSem.Claim
import GoSem.ClaimJoined
import GoSem.ClaimMapViews
import Derived.JoinedTies
import Derived.KernelRfl
namespace Go.Proofs.Ytadnjfoinmeloaa
/- THE CELL 'sum', in the pinned program and in every row, IS THE sha256 OF THE DUMP (.gsa) THAT YtadnjfoinmeloaaProg.lean LOADS. Nothing in Lean hashes anything: it is a label: what it is worth is what the hold of that sum in a sandbox is worth. -/
noncomputable def Try.pinned : Pinned := { name := "ytadnjfoinmeloaa", sum := "9aa785a749fb3985a2ebe947382d8b048d9287eb7e06557a9b0f9b7af01ff3ce", checked := Try.checked }
namespace Rows
def none {H : Type} : Left H := { results := [], args := [] }

/-- 'retortlaw12.ProgChecks': WHATEVER THE INPUT: true; the input reads as it did. -/
def progChecksSpec : ChangeSpec := { name := "progChecks", fn := fun _ => fun
  | [d] => { results := [.lit (.bool true)], args := [d] }
  | _ => none }
def progChecksRow : OpenClaim := { program := "ytadnjfoinmeloaa", sum := "9aa785a749fb3985a2ebe947382d8b048d9287eb7e06557a9b0f9b7af01ff3ce", func := "retort/retortlaw12.ProgChecks", spec := "progChecks", unfollowed := true, recurses := true, apart := false }
def ProgChecksSaid : Prop := progChecksRow.holds Try.pinned (OpenSpec.ofChange progChecksSpec)

/-- ITS FALSE NEIGHBOUR: 'it returns false'. Refute it at one input. -/
def progChecksWrong : ChangeSpec := { name := "progChecks", fn := fun _ => fun
  | [d] => { results := [.lit (.bool false)], args := [d] }
  | _ => none }
def ProgChecksWrongFalsely : Prop := progChecksRow.holds Try.pinned (OpenSpec.ofChange progChecksWrong)

/-- 'retortlaw12.ProgEncodes': WHATEVER THE INPUT: true; the input reads as it did. -/
def progEncodesSpec : ChangeSpec := { name := "progEncodes", fn := fun _ => fun
  | [d] => { results := [.lit (.bool true)], args := [d] }
  | _ => none }
def progEncodesRow : OpenClaim := { program := "ytadnjfoinmeloaa", sum := "9aa785a749fb3985a2ebe947382d8b048d9287eb7e06557a9b0f9b7af01ff3ce", func := "retort/retortlaw12.ProgEncodes", spec := "progEncodes", unfollowed := true, recurses := true, apart := false }
def ProgEncodesSaid : Prop := progEncodesRow.holds Try.pinned (OpenSpec.ofChange progEncodesSpec)

/-- ITS FALSE NEIGHBOUR: 'it returns false'. Refute it at one input. -/
def progEncodesWrong : ChangeSpec := { name := "progEncodes", fn := fun _ => fun
  | [d] => { results := [.lit (.bool false)], args := [d] }
  | _ => none }
def ProgEncodesWrongFalsely : Prop := progEncodesRow.holds Try.pinned (OpenSpec.ofChange progEncodesWrong)

/-- 'retortlaw12.ProgDecodes': WHATEVER THE INPUT: true; the input reads as it did. -/
def progDecodesSpec : ChangeSpec := { name := "progDecodes", fn := fun _ => fun
  | [d1, d2] => { results := [.lit (.bool true)], args := [d1, d2] }
  | _ => none }
def progDecodesRow : OpenClaim := { program := "ytadnjfoinmeloaa", sum := "9aa785a749fb3985a2ebe947382d8b048d9287eb7e06557a9b0f9b7af01ff3ce", func := "retort/retortlaw12.ProgDecodes", spec := "progDecodes", unfollowed := true, recurses := true, apart := false }
def ProgDecodesSaid : Prop := progDecodesRow.holds Try.pinned (OpenSpec.ofChange progDecodesSpec)

/-- ITS FALSE NEIGHBOUR: 'it returns false'. Refute it at one input. -/
def progDecodesWrong : ChangeSpec := { name := "progDecodes", fn := fun _ => fun
  | [d1, d2] => { results := [.lit (.bool false)], args := [d1, d2] }
  | _ => none }
def ProgDecodesWrongFalsely : Prop := progDecodesRow.holds Try.pinned (OpenSpec.ofChange progDecodesWrong)

/-- 'retortlaw12.ProgBack': WHATEVER THE INPUT: true; the input reads as it did. -/
def progBackSpec : ChangeSpec := { name := "progBack", fn := fun _ => fun
  | [d1, d2] => { results := [.lit (.bool true)], args := [d1, d2] }
  | _ => none }
def progBackRow : OpenClaim := { program := "ytadnjfoinmeloaa", sum := "9aa785a749fb3985a2ebe947382d8b048d9287eb7e06557a9b0f9b7af01ff3ce", func := "retort/retortlaw12.ProgBack", spec := "progBack", unfollowed := true, recurses := true, apart := false }
def ProgBackSaid : Prop := progBackRow.holds Try.pinned (OpenSpec.ofChange progBackSpec)

/-- ITS FALSE NEIGHBOUR: 'it returns false'. Refute it at one input. -/
def progBackWrong : ChangeSpec := { name := "progBack", fn := fun _ => fun
  | [d1, d2] => { results := [.lit (.bool false)], args := [d1, d2] }
  | _ => none }
def ProgBackWrongFalsely : Prop := progBackRow.holds Try.pinned (OpenSpec.ofChange progBackWrong)

/-- 'retortlaw12.ProgOther': WHATEVER THE INPUT: true; the input reads as it did. -/
def progOtherSpec : ChangeSpec := { name := "progOther", fn := fun _ => fun
  | [d] => { results := [.lit (.bool true)], args := [d] }
  | _ => none }
def progOtherRow : OpenClaim := { program := "ytadnjfoinmeloaa", sum := "9aa785a749fb3985a2ebe947382d8b048d9287eb7e06557a9b0f9b7af01ff3ce", func := "retort/retortlaw12.ProgOther", spec := "progOther", unfollowed := true, recurses := true, apart := false }
def ProgOtherSaid : Prop := progOtherRow.holds Try.pinned (OpenSpec.ofChange progOtherSpec)

/-- ITS FALSE NEIGHBOUR: 'it returns false'. Refute it at one input. -/
def progOtherWrong : ChangeSpec := { name := "progOther", fn := fun _ => fun
  | [d] => { results := [.lit (.bool false)], args := [d] }
  | _ => none }
def ProgOtherWrongFalsely : Prop := progOtherRow.holds Try.pinned (OpenSpec.ofChange progOtherWrong)

/-- 'retortlaw12.ProgAgain': WHATEVER THE INPUT: true; the input reads as it did. -/
def progAgainSpec : ChangeSpec := { name := "progAgain", fn := fun _ => fun
  | [d1, d2, d3] => { results := [.lit (.bool true)], args := [d1, d2, d3] }
  | _ => none }
def progAgainRow : OpenClaim := { program := "ytadnjfoinmeloaa", sum := "9aa785a749fb3985a2ebe947382d8b048d9287eb7e06557a9b0f9b7af01ff3ce", func := "retort/retortlaw12.ProgAgain", spec := "progAgain", unfollowed := true, recurses := true, apart := false }
def ProgAgainSaid : Prop := progAgainRow.holds Try.pinned (OpenSpec.ofChange progAgainSpec)

/-- ITS FALSE NEIGHBOUR: 'it returns false'. Refute it at one input. -/
def progAgainWrong : ChangeSpec := { name := "progAgain", fn := fun _ => fun
  | [d1, d2, d3] => { results := [.lit (.bool false)], args := [d1, d2, d3] }
  | _ => none }
def ProgAgainWrongFalsely : Prop := progAgainRow.holds Try.pinned (OpenSpec.ofChange progAgainWrong)

/-- 'retortlaw12.ProgSames': WHATEVER THE INPUT: true; the input reads as it did. -/
def progSamesSpec : ChangeSpec := { name := "progSames", fn := fun _ => fun
  | [d1, d2] => { results := [.lit (.bool true)], args := [d1, d2] }
  | _ => none }
def progSamesRow : OpenClaim := { program := "ytadnjfoinmeloaa", sum := "9aa785a749fb3985a2ebe947382d8b048d9287eb7e06557a9b0f9b7af01ff3ce", func := "retort/retortlaw12.ProgSames", spec := "progSames", unfollowed := true, recurses := true, apart := false }
def ProgSamesSaid : Prop := progSamesRow.holds Try.pinned (OpenSpec.ofChange progSamesSpec)

/-- ITS FALSE NEIGHBOUR: 'it returns false'. Refute it at one input. -/
def progSamesWrong : ChangeSpec := { name := "progSames", fn := fun _ => fun
  | [d1, d2] => { results := [.lit (.bool false)], args := [d1, d2] }
  | _ => none }
def ProgSamesWrongFalsely : Prop := progSamesRow.holds Try.pinned (OpenSpec.ofChange progSamesWrong)

/-- 'retortlaw12.ProgOwn': WHATEVER THE INPUT: true; the input reads as it did. -/
def progOwnSpec : ChangeSpec := { name := "progOwn", fn := fun _ => fun
  | [d] => { results := [.lit (.bool true)], args := [d] }
  | _ => none }
def progOwnRow : OpenClaim := { program := "ytadnjfoinmeloaa", sum := "9aa785a749fb3985a2ebe947382d8b048d9287eb7e06557a9b0f9b7af01ff3ce", func := "retort/retortlaw12.ProgOwn", spec := "progOwn", unfollowed := true, recurses := true, apart := false }
def ProgOwnSaid : Prop := progOwnRow.holds Try.pinned (OpenSpec.ofChange progOwnSpec)

/-- ITS FALSE NEIGHBOUR: 'it returns false'. Refute it at one input. -/
def progOwnWrong : ChangeSpec := { name := "progOwn", fn := fun _ => fun
  | [d] => { results := [.lit (.bool false)], args := [d] }
  | _ => none }
def ProgOwnWrongFalsely : Prop := progOwnRow.holds Try.pinned (OpenSpec.ofChange progOwnWrong)

/- THE SECOND FORM. 'bulk': how many values and letters a reading holds, each counted each time it is reached (what is shared counts as often as it is met; a slice's spare places count too). A statement '..UptoSaid' is the law's where the arguments, and the package variables that the reading takes, are together of bulk at most 1048576: NARROWER than '..Said'. Prove '..Said' where nothing that the law and all that it calls make is longer than what came in: it says more and counts as full. Else prove '..UptoSaid'. A law counts once. -/
mutual
def uptoBulk {H : Type} : DataW H → Nat
  | .lit (.string bytes) => bytes.length + 1
  | .lit _ => 1
  | .nil => 1
  | .ptr d => uptoBulk d + 1
  | .slice elems spare => uptoBulkAll elems + uptoBulkAll spare + 1
  | .agg parts => uptoBulkAll parts + 1
  | .iface _ d => uptoBulk d + 1
  | .map entries => uptoBulkEntries entries + 1
  | .held _ => 1
def uptoBulkAll {H : Type} : List (DataW H) → Nat
  | [] => 0
  | d :: r => uptoBulk d + uptoBulkAll r
def uptoBulkEntries {H : Type} : List (Lit × DataW H) → Nat
  | [] => 0
  | x :: r => uptoBulkEntry x + uptoBulkEntries r
def uptoBulkEntry {H : Type} : Lit × DataW H → Nat
  | (.string bytes, d) => bytes.length + uptoBulk d + 1
  | (_, d) => uptoBulk d + 1
 end
def uptoSmall : (H : Type) → List (DataW H) → Bool := fun _ ds => decide (uptoBulkAll ds ≤ 1048576)
def OpenSpec.upto (s : _root_.Go.ChangeSpec) : _root_.Go.OpenSpec := { _root_.Go.OpenSpec.ofChange s with cond := some uptoSmall }

/-- 'retortlaw12.ProgChecks', WHERE WHAT IT READS IS OF BULK AT MOST 1048576: true; the input reads as it did. -/
def progChecksUptoRow : OpenClaim := { program := "ytadnjfoinmeloaa", sum := "9aa785a749fb3985a2ebe947382d8b048d9287eb7e06557a9b0f9b7af01ff3ce", func := "retort/retortlaw12.ProgChecks", spec := "progChecks", unfollowed := true, recurses := true, apart := false, narrowed := true }
def ProgChecksUptoSaid : Prop := progChecksUptoRow.holds Try.pinned (OpenSpec.upto progChecksSpec)

/-- 'retortlaw12.ProgEncodes', WHERE WHAT IT READS IS OF BULK AT MOST 1048576: true; the input reads as it did. -/
def progEncodesUptoRow : OpenClaim := { program := "ytadnjfoinmeloaa", sum := "9aa785a749fb3985a2ebe947382d8b048d9287eb7e06557a9b0f9b7af01ff3ce", func := "retort/retortlaw12.ProgEncodes", spec := "progEncodes", unfollowed := true, recurses := true, apart := false, narrowed := true }
def ProgEncodesUptoSaid : Prop := progEncodesUptoRow.holds Try.pinned (OpenSpec.upto progEncodesSpec)

/-- 'retortlaw12.ProgDecodes', WHERE WHAT IT READS IS OF BULK AT MOST 1048576: true; the input reads as it did. -/
def progDecodesUptoRow : OpenClaim := { program := "ytadnjfoinmeloaa", sum := "9aa785a749fb3985a2ebe947382d8b048d9287eb7e06557a9b0f9b7af01ff3ce", func := "retort/retortlaw12.ProgDecodes", spec := "progDecodes", unfollowed := true, recurses := true, apart := false, narrowed := true }
def ProgDecodesUptoSaid : Prop := progDecodesUptoRow.holds Try.pinned (OpenSpec.upto progDecodesSpec)

/-- 'retortlaw12.ProgBack', WHERE WHAT IT READS IS OF BULK AT MOST 1048576: true; the input reads as it did. -/
def progBackUptoRow : OpenClaim := { program := "ytadnjfoinmeloaa", sum := "9aa785a749fb3985a2ebe947382d8b048d9287eb7e06557a9b0f9b7af01ff3ce", func := "retort/retortlaw12.ProgBack", spec := "progBack", unfollowed := true, recurses := true, apart := false, narrowed := true }
def ProgBackUptoSaid : Prop := progBackUptoRow.holds Try.pinned (OpenSpec.upto progBackSpec)

/-- 'retortlaw12.ProgOther', WHERE WHAT IT READS IS OF BULK AT MOST 1048576: true; the input reads as it did. -/
def progOtherUptoRow : OpenClaim := { program := "ytadnjfoinmeloaa", sum := "9aa785a749fb3985a2ebe947382d8b048d9287eb7e06557a9b0f9b7af01ff3ce", func := "retort/retortlaw12.ProgOther", spec := "progOther", unfollowed := true, recurses := true, apart := false, narrowed := true }
def ProgOtherUptoSaid : Prop := progOtherUptoRow.holds Try.pinned (OpenSpec.upto progOtherSpec)

/-- 'retortlaw12.ProgAgain', WHERE WHAT IT READS IS OF BULK AT MOST 1048576: true; the input reads as it did. -/
def progAgainUptoRow : OpenClaim := { program := "ytadnjfoinmeloaa", sum := "9aa785a749fb3985a2ebe947382d8b048d9287eb7e06557a9b0f9b7af01ff3ce", func := "retort/retortlaw12.ProgAgain", spec := "progAgain", unfollowed := true, recurses := true, apart := false, narrowed := true }
def ProgAgainUptoSaid : Prop := progAgainUptoRow.holds Try.pinned (OpenSpec.upto progAgainSpec)

/-- 'retortlaw12.ProgSames', WHERE WHAT IT READS IS OF BULK AT MOST 1048576: true; the input reads as it did. -/
def progSamesUptoRow : OpenClaim := { program := "ytadnjfoinmeloaa", sum := "9aa785a749fb3985a2ebe947382d8b048d9287eb7e06557a9b0f9b7af01ff3ce", func := "retort/retortlaw12.ProgSames", spec := "progSames", unfollowed := true, recurses := true, apart := false, narrowed := true }
def ProgSamesUptoSaid : Prop := progSamesUptoRow.holds Try.pinned (OpenSpec.upto progSamesSpec)

/-- 'retortlaw12.ProgOwn', WHERE WHAT IT READS IS OF BULK AT MOST 1048576: true; the input reads as it did. -/
def progOwnUptoRow : OpenClaim := { program := "ytadnjfoinmeloaa", sum := "9aa785a749fb3985a2ebe947382d8b048d9287eb7e06557a9b0f9b7af01ff3ce", func := "retort/retortlaw12.ProgOwn", spec := "progOwn", unfollowed := true, recurses := true, apart := false, narrowed := true }
def ProgOwnUptoSaid : Prop := progOwnUptoRow.holds Try.pinned (OpenSpec.upto progOwnSpec)

end Rows
end Go.Proofs.Ytadnjfoinmeloaa
