/-
  No cell of these rows narrows 'for every input' (looked for: loops, veiled, ifaces, maps, wideKeys, modest, calm, conditions, laid).
  DERIVED. THE GIVEN ROWS OF THIS SEAT. 7 by the template 'for every input the law returns true; each argument reads behind the call as it read before'; 0 by the template 'total and deterministic' (their statements: YtmmdkpnoncnjnaaTotals.lean).
  GIVEN WITH THE SEED: the statements are not yours to turn. If you find one false, say at which input.
  Laid BY PROGRAM, IN A SANDBOX (cutbox-rows.mjs): the forced cells as the released guide's own fill.sh prints them over the translation 74e9fbbedf4acff2… (all of the seat's roots in one cut). By AI agents, Wed Nov 11 2026. No macro, syntax, notation, axiom, sorry.
-/
import Derived.Test.YtmmdkpnoncnjnaaChecked
import GoSem.Claim
import GoSem.ClaimJoined
import GoSem.ClaimMapViews
import Derived.JoinedTies
import Derived.KernelRfl
namespace Go.Proofs.Ytmmdkpnoncnjnaa
/- THE CELL 'sum', in the pinned program and in every row, IS THE sha256 OF THE DUMP (.gsa) THAT YtmmdkpnoncnjnaaProg.lean LOADS. Nothing in Lean hashes anything: it is a label: what it is worth is what the hold of that sum in a sandbox is worth. -/
noncomputable def Try.pinned : Pinned := { name := "ytmmdkpnoncnjnaa", sum := "74e9fbbedf4acff201d5dac40fe50f87d6156f2a62f2a662b4c89d6c132fed96", checked := Try.checked }
namespace Rows
def none {H : Type} : Left H := { results := [], args := [] }

/-- 'retortlaw11.OpWords': WHATEVER THE INPUT: true; the input reads as it did. -/
def opWordsSpec : ChangeSpec := { name := "opWords", fn := fun _ => fun
  | [] => { results := [.lit (.bool true)], args := [] }
  | _ => none }
def opWordsRow : OpenClaim := { program := "ytmmdkpnoncnjnaa", sum := "74e9fbbedf4acff201d5dac40fe50f87d6156f2a62f2a662b4c89d6c132fed96", func := "retort/retortlaw11.OpWords", spec := "opWords", apart := false }
def OpWordsSaid : Prop := opWordsRow.holds Try.pinned (OpenSpec.ofChange opWordsSpec)

/-- ITS FALSE NEIGHBOUR: 'it returns false'. Refute it at one input. -/
def opWordsWrong : ChangeSpec := { name := "opWords", fn := fun _ => fun
  | [] => { results := [.lit (.bool false)], args := [] }
  | _ => none }
def OpWordsWrongFalsely : Prop := opWordsRow.holds Try.pinned (OpenSpec.ofChange opWordsWrong)

/-- 'retortlaw11.OpEncodes': WHATEVER THE INPUT: true; the input reads as it did. -/
def opEncodesSpec : ChangeSpec := { name := "opEncodes", fn := fun _ => fun
  | [d] => { results := [.lit (.bool true)], args := [d] }
  | _ => none }
def opEncodesRow : OpenClaim := { program := "ytmmdkpnoncnjnaa", sum := "74e9fbbedf4acff201d5dac40fe50f87d6156f2a62f2a662b4c89d6c132fed96", func := "retort/retortlaw11.OpEncodes", spec := "opEncodes", unfollowed := true, recurses := true, apart := false }
def OpEncodesSaid : Prop := opEncodesRow.holds Try.pinned (OpenSpec.ofChange opEncodesSpec)

/-- ITS FALSE NEIGHBOUR: 'it returns false'. Refute it at one input. -/
def opEncodesWrong : ChangeSpec := { name := "opEncodes", fn := fun _ => fun
  | [d] => { results := [.lit (.bool false)], args := [d] }
  | _ => none }
def OpEncodesWrongFalsely : Prop := opEncodesRow.holds Try.pinned (OpenSpec.ofChange opEncodesWrong)

/-- 'retortlaw11.OpDecodes': WHATEVER THE INPUT: true; the input reads as it did. -/
def opDecodesSpec : ChangeSpec := { name := "opDecodes", fn := fun _ => fun
  | [d] => { results := [.lit (.bool true)], args := [d] }
  | _ => none }
def opDecodesRow : OpenClaim := { program := "ytmmdkpnoncnjnaa", sum := "74e9fbbedf4acff201d5dac40fe50f87d6156f2a62f2a662b4c89d6c132fed96", func := "retort/retortlaw11.OpDecodes", spec := "opDecodes", unfollowed := true, recurses := true, apart := false }
def OpDecodesSaid : Prop := opDecodesRow.holds Try.pinned (OpenSpec.ofChange opDecodesSpec)

/-- ITS FALSE NEIGHBOUR: 'it returns false'. Refute it at one input. -/
def opDecodesWrong : ChangeSpec := { name := "opDecodes", fn := fun _ => fun
  | [d] => { results := [.lit (.bool false)], args := [d] }
  | _ => none }
def OpDecodesWrongFalsely : Prop := opDecodesRow.holds Try.pinned (OpenSpec.ofChange opDecodesWrong)

/-- 'retortlaw11.OpMany': WHATEVER THE INPUT: true; the input reads as it did. -/
def opManySpec : ChangeSpec := { name := "opMany", fn := fun _ => fun
  | [d1, d2, d3, d4] => { results := [.lit (.bool true)], args := [d1, d2, d3, d4] }
  | _ => none }
def opManyRow : OpenClaim := { program := "ytmmdkpnoncnjnaa", sum := "74e9fbbedf4acff201d5dac40fe50f87d6156f2a62f2a662b4c89d6c132fed96", func := "retort/retortlaw11.OpMany", spec := "opMany", unfollowed := true, recurses := true, apart := false }
def OpManySaid : Prop := opManyRow.holds Try.pinned (OpenSpec.ofChange opManySpec)

/-- ITS FALSE NEIGHBOUR: 'it returns false'. Refute it at one input. -/
def opManyWrong : ChangeSpec := { name := "opMany", fn := fun _ => fun
  | [d1, d2, d3, d4] => { results := [.lit (.bool false)], args := [d1, d2, d3, d4] }
  | _ => none }
def OpManyWrongFalsely : Prop := opManyRow.holds Try.pinned (OpenSpec.ofChange opManyWrong)

/-- 'retortlaw11.OpBack': WHATEVER THE INPUT: true; the input reads as it did. -/
def opBackSpec : ChangeSpec := { name := "opBack", fn := fun _ => fun
  | [d1, d2, d3] => { results := [.lit (.bool true)], args := [d1, d2, d3] }
  | _ => none }
def opBackRow : OpenClaim := { program := "ytmmdkpnoncnjnaa", sum := "74e9fbbedf4acff201d5dac40fe50f87d6156f2a62f2a662b4c89d6c132fed96", func := "retort/retortlaw11.OpBack", spec := "opBack", unfollowed := true, recurses := true, apart := false }
def OpBackSaid : Prop := opBackRow.holds Try.pinned (OpenSpec.ofChange opBackSpec)

/-- ITS FALSE NEIGHBOUR: 'it returns false'. Refute it at one input. -/
def opBackWrong : ChangeSpec := { name := "opBack", fn := fun _ => fun
  | [d1, d2, d3] => { results := [.lit (.bool false)], args := [d1, d2, d3] }
  | _ => none }
def OpBackWrongFalsely : Prop := opBackRow.holds Try.pinned (OpenSpec.ofChange opBackWrong)

/-- 'retortlaw11.OpOwn': WHATEVER THE INPUT: true; the input reads as it did. -/
def opOwnSpec : ChangeSpec := { name := "opOwn", fn := fun _ => fun
  | [d1, d2] => { results := [.lit (.bool true)], args := [d1, d2] }
  | _ => none }
def opOwnRow : OpenClaim := { program := "ytmmdkpnoncnjnaa", sum := "74e9fbbedf4acff201d5dac40fe50f87d6156f2a62f2a662b4c89d6c132fed96", func := "retort/retortlaw11.OpOwn", spec := "opOwn", unfollowed := true, recurses := true, apart := false }
def OpOwnSaid : Prop := opOwnRow.holds Try.pinned (OpenSpec.ofChange opOwnSpec)

/-- ITS FALSE NEIGHBOUR: 'it returns false'. Refute it at one input. -/
def opOwnWrong : ChangeSpec := { name := "opOwn", fn := fun _ => fun
  | [d1, d2] => { results := [.lit (.bool false)], args := [d1, d2] }
  | _ => none }
def OpOwnWrongFalsely : Prop := opOwnRow.holds Try.pinned (OpenSpec.ofChange opOwnWrong)

/-- 'retortlaw11.OpTable': WHATEVER THE INPUT: true; the input reads as it did. -/
def opTableSpec : ChangeSpec := { name := "opTable", fn := fun _ => fun
  | [d1, d2] => { results := [.lit (.bool true)], args := [d1, d2] }
  | _ => none }
def opTableRow : OpenClaim := { program := "ytmmdkpnoncnjnaa", sum := "74e9fbbedf4acff201d5dac40fe50f87d6156f2a62f2a662b4c89d6c132fed96", func := "retort/retortlaw11.OpTable", spec := "opTable", unfollowed := true, recurses := true, apart := false }
def OpTableSaid : Prop := opTableRow.holds Try.pinned (OpenSpec.ofChange opTableSpec)

/-- ITS FALSE NEIGHBOUR: 'it returns false'. Refute it at one input. -/
def opTableWrong : ChangeSpec := { name := "opTable", fn := fun _ => fun
  | [d1, d2] => { results := [.lit (.bool false)], args := [d1, d2] }
  | _ => none }
def OpTableWrongFalsely : Prop := opTableRow.holds Try.pinned (OpenSpec.ofChange opTableWrong)

/- THE SECOND FORM. 'bulk': how many values and letters a reading holds, each counted each time it is reached (what is shared counts as often as it is met; a slice's spare places count too). A statement '..UptoSaid' is the law's where the arguments, and the package variables that the reading takes, are together of bulk at most 1048576: NARROWER than '..Said'. Prove '..Said' where nothing that the law and all that it calls make is longer than what came in: it says more and counts as full. Else prove '..UptoSaid'. A law counts once. -/
mutual
def uptoBulk {H : Type} : DataW H → Nat
  | .lit (.string bytes) => bytes.length + 1
  | .lit _ => 1
  | .nil => 1
  | .ptr d => uptoBulk d + 1
  | .slice elems spare => uptoBulkAll elems + uptoBulkAll spare + 1
  | .agg parts => uptoBulkAll parts + 1
  | .iface _ d => uptoBulk d + 1
  | .map entries => uptoBulkEntries entries + 1
  | .held _ => 1
def uptoBulkAll {H : Type} : List (DataW H) → Nat
  | [] => 0
  | d :: r => uptoBulk d + uptoBulkAll r
def uptoBulkEntries {H : Type} : List (Lit × DataW H) → Nat
  | [] => 0
  | x :: r => uptoBulkEntry x + uptoBulkEntries r
def uptoBulkEntry {H : Type} : Lit × DataW H → Nat
  | (.string bytes, d) => bytes.length + uptoBulk d + 1
  | (_, d) => uptoBulk d + 1
 end
def uptoSmall : (H : Type) → List (DataW H) → Bool := fun _ ds => decide (uptoBulkAll ds ≤ 1048576)
def OpenSpec.upto (s : _root_.Go.ChangeSpec) : _root_.Go.OpenSpec := { _root_.Go.OpenSpec.ofChange s with cond := some uptoSmall }

/-- 'retortlaw11.OpWords', WHERE WHAT IT READS IS OF BULK AT MOST 1048576: true; the input reads as it did. -/
def opWordsUptoRow : OpenClaim := { program := "ytmmdkpnoncnjnaa", sum := "74e9fbbedf4acff201d5dac40fe50f87d6156f2a62f2a662b4c89d6c132fed96", func := "retort/retortlaw11.OpWords", spec := "opWords", apart := false, narrowed := true }
def OpWordsUptoSaid : Prop := opWordsUptoRow.holds Try.pinned (OpenSpec.upto opWordsSpec)

/-- 'retortlaw11.OpEncodes', WHERE WHAT IT READS IS OF BULK AT MOST 1048576: true; the input reads as it did. -/
def opEncodesUptoRow : OpenClaim := { program := "ytmmdkpnoncnjnaa", sum := "74e9fbbedf4acff201d5dac40fe50f87d6156f2a62f2a662b4c89d6c132fed96", func := "retort/retortlaw11.OpEncodes", spec := "opEncodes", unfollowed := true, recurses := true, apart := false, narrowed := true }
def OpEncodesUptoSaid : Prop := opEncodesUptoRow.holds Try.pinned (OpenSpec.upto opEncodesSpec)

/-- 'retortlaw11.OpDecodes', WHERE WHAT IT READS IS OF BULK AT MOST 1048576: true; the input reads as it did. -/
def opDecodesUptoRow : OpenClaim := { program := "ytmmdkpnoncnjnaa", sum := "74e9fbbedf4acff201d5dac40fe50f87d6156f2a62f2a662b4c89d6c132fed96", func := "retort/retortlaw11.OpDecodes", spec := "opDecodes", unfollowed := true, recurses := true, apart := false, narrowed := true }
def OpDecodesUptoSaid : Prop := opDecodesUptoRow.holds Try.pinned (OpenSpec.upto opDecodesSpec)

/-- 'retortlaw11.OpMany', WHERE WHAT IT READS IS OF BULK AT MOST 1048576: true; the input reads as it did. -/
def opManyUptoRow : OpenClaim := { program := "ytmmdkpnoncnjnaa", sum := "74e9fbbedf4acff201d5dac40fe50f87d6156f2a62f2a662b4c89d6c132fed96", func := "retort/retortlaw11.OpMany", spec := "opMany", unfollowed := true, recurses := true, apart := false, narrowed := true }
def OpManyUptoSaid : Prop := opManyUptoRow.holds Try.pinned (OpenSpec.upto opManySpec)

/-- 'retortlaw11.OpBack', WHERE WHAT IT READS IS OF BULK AT MOST 1048576: true; the input reads as it did. -/
def opBackUptoRow : OpenClaim := { program := "ytmmdkpnoncnjnaa", sum := "74e9fbbedf4acff201d5dac40fe50f87d6156f2a62f2a662b4c89d6c132fed96", func := "retort/retortlaw11.OpBack", spec := "opBack", unfollowed := true, recurses := true, apart := false, narrowed := true }
def OpBackUptoSaid : Prop := opBackUptoRow.holds Try.pinned (OpenSpec.upto opBackSpec)

/-- 'retortlaw11.OpOwn', WHERE WHAT IT READS IS OF BULK AT MOST 1048576: true; the input reads as it did. -/
def opOwnUptoRow : OpenClaim := { program := "ytmmdkpnoncnjnaa", sum := "74e9fbbedf4acff201d5dac40fe50f87d6156f2a62f2a662b4c89d6c132fed96", func := "retort/retortlaw11.OpOwn", spec := "opOwn", unfollowed := true, recurses := true, apart := false, narrowed := true }
def OpOwnUptoSaid : Prop := opOwnUptoRow.holds Try.pinned (OpenSpec.upto opOwnSpec)

/-- 'retortlaw11.OpTable', WHERE WHAT IT READS IS OF BULK AT MOST 1048576: true; the input reads as it did. -/
def opTableUptoRow : OpenClaim := { program := "ytmmdkpnoncnjnaa", sum := "74e9fbbedf4acff201d5dac40fe50f87d6156f2a62f2a662b4c89d6c132fed96", func := "retort/retortlaw11.OpTable", spec := "opTable", unfollowed := true, recurses := true, apart := false, narrowed := true }
def OpTableUptoSaid : Prop := opTableUptoRow.holds Try.pinned (OpenSpec.upto opTableSpec)

end Rows
end Go.Proofs.Ytmmdkpnoncnjnaa
