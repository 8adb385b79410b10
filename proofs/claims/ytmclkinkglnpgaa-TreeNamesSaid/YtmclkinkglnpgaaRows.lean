/-
  No cell of these rows narrows 'for every input' (looked for: loops, veiled, ifaces, maps, wideKeys, modest, calm, conditions, laid).
  DERIVED. THE GIVEN ROWS OF THIS SEAT. 8 by the template 'for every input the law returns true; each argument reads behind the call as it read before'; 0 by the template 'total and deterministic' (their statements: YtmclkinkglnpgaaTotals.lean).
  GIVEN WITH THE SEED: the statements are not yours to turn. If you find one false, say at which input.
  Laid BY PROGRAM, IN A SANDBOX (cutbox-rows.mjs): the forced cells as the released guide's own fill.sh prints them over the translation cae8501b1cce2636… (all of the seat's roots in one cut). By AI agents, Wed Nov 11 2026. No macro, syntax, notation, axiom, sorry.
-/
import Derived.Test.YtmclkinkglnpgaaChecked
import GoSem.Claim
import GoSem.ClaimJoined
import GoSem.ClaimMapViews
import Derived.JoinedTies
import Derived.KernelRfl
namespace Go.Proofs.Ytmclkinkglnpgaa
/- THE CELL 'sum', in the pinned program and in every row, IS THE sha256 OF THE DUMP (.gsa) THAT YtmclkinkglnpgaaProg.lean LOADS. Nothing in Lean hashes anything: it is a label: what it is worth is what the hold of that sum in a sandbox is worth. -/
noncomputable def Try.pinned : Pinned := { name := "ytmclkinkglnpgaa", sum := "cae8501b1cce26361e0194d317a4cf44324c99e87a11aee2803a0a5b006aa07e", checked := Try.checked }
namespace Rows
def none {H : Type} : Left H := { results := [], args := [] }

/-- 'retortlaw1.MintNames': WHATEVER THE INPUT: true; the input reads as it did. -/
def mintNamesSpec : ChangeSpec := { name := "mintNames", fn := fun _ => fun
  | [] => { results := [.lit (.bool true)], args := [] }
  | _ => none }
def mintNamesRow : OpenClaim := { program := "ytmclkinkglnpgaa", sum := "cae8501b1cce26361e0194d317a4cf44324c99e87a11aee2803a0a5b006aa07e", func := "retort/retortlaw1.MintNames", spec := "mintNames", apart := false }
def MintNamesSaid : Prop := mintNamesRow.holds Try.pinned (OpenSpec.ofChange mintNamesSpec)

/-- ITS FALSE NEIGHBOUR: 'it returns false'. Refute it at one input. -/
def mintNamesWrong : ChangeSpec := { name := "mintNames", fn := fun _ => fun
  | [] => { results := [.lit (.bool false)], args := [] }
  | _ => none }
def MintNamesWrongFalsely : Prop := mintNamesRow.holds Try.pinned (OpenSpec.ofChange mintNamesWrong)

/-- 'retortlaw11.OpNames': WHATEVER THE INPUT: true; the input reads as it did. -/
def opNamesSpec : ChangeSpec := { name := "opNames", fn := fun _ => fun
  | [] => { results := [.lit (.bool true)], args := [] }
  | _ => none }
def opNamesRow : OpenClaim := { program := "ytmclkinkglnpgaa", sum := "cae8501b1cce26361e0194d317a4cf44324c99e87a11aee2803a0a5b006aa07e", func := "retort/retortlaw11.OpNames", spec := "opNames", apart := false }
def OpNamesSaid : Prop := opNamesRow.holds Try.pinned (OpenSpec.ofChange opNamesSpec)

/-- ITS FALSE NEIGHBOUR: 'it returns false'. Refute it at one input. -/
def opNamesWrong : ChangeSpec := { name := "opNames", fn := fun _ => fun
  | [] => { results := [.lit (.bool false)], args := [] }
  | _ => none }
def OpNamesWrongFalsely : Prop := opNamesRow.holds Try.pinned (OpenSpec.ofChange opNamesWrong)

/-- 'retortlaw12.ProgNames': WHATEVER THE INPUT: true; the input reads as it did. -/
def progNamesSpec : ChangeSpec := { name := "progNames", fn := fun _ => fun
  | [] => { results := [.lit (.bool true)], args := [] }
  | _ => none }
def progNamesRow : OpenClaim := { program := "ytmclkinkglnpgaa", sum := "cae8501b1cce26361e0194d317a4cf44324c99e87a11aee2803a0a5b006aa07e", func := "retort/retortlaw12.ProgNames", spec := "progNames", apart := false }
def ProgNamesSaid : Prop := progNamesRow.holds Try.pinned (OpenSpec.ofChange progNamesSpec)

/-- ITS FALSE NEIGHBOUR: 'it returns false'. Refute it at one input. -/
def progNamesWrong : ChangeSpec := { name := "progNames", fn := fun _ => fun
  | [] => { results := [.lit (.bool false)], args := [] }
  | _ => none }
def ProgNamesWrongFalsely : Prop := progNamesRow.holds Try.pinned (OpenSpec.ofChange progNamesWrong)

/-- 'retortlaw13.CheckNames': WHATEVER THE INPUT: true; the input reads as it did. -/
def checkNamesSpec : ChangeSpec := { name := "checkNames", fn := fun _ => fun
  | [] => { results := [.lit (.bool true)], args := [] }
  | _ => none }
def checkNamesRow : OpenClaim := { program := "ytmclkinkglnpgaa", sum := "cae8501b1cce26361e0194d317a4cf44324c99e87a11aee2803a0a5b006aa07e", func := "retort/retortlaw13.CheckNames", spec := "checkNames", apart := false }
def CheckNamesSaid : Prop := checkNamesRow.holds Try.pinned (OpenSpec.ofChange checkNamesSpec)

/-- ITS FALSE NEIGHBOUR: 'it returns false'. Refute it at one input. -/
def checkNamesWrong : ChangeSpec := { name := "checkNames", fn := fun _ => fun
  | [] => { results := [.lit (.bool false)], args := [] }
  | _ => none }
def CheckNamesWrongFalsely : Prop := checkNamesRow.holds Try.pinned (OpenSpec.ofChange checkNamesWrong)

/-- 'retortlaw2.SumNames': WHATEVER THE INPUT: true; the input reads as it did. -/
def sumNamesSpec : ChangeSpec := { name := "sumNames", fn := fun _ => fun
  | [] => { results := [.lit (.bool true)], args := [] }
  | _ => none }
def sumNamesRow : OpenClaim := { program := "ytmclkinkglnpgaa", sum := "cae8501b1cce26361e0194d317a4cf44324c99e87a11aee2803a0a5b006aa07e", func := "retort/retortlaw2.SumNames", spec := "sumNames", apart := false }
def SumNamesSaid : Prop := sumNamesRow.holds Try.pinned (OpenSpec.ofChange sumNamesSpec)

/-- ITS FALSE NEIGHBOUR: 'it returns false'. Refute it at one input. -/
def sumNamesWrong : ChangeSpec := { name := "sumNames", fn := fun _ => fun
  | [] => { results := [.lit (.bool false)], args := [] }
  | _ => none }
def SumNamesWrongFalsely : Prop := sumNamesRow.holds Try.pinned (OpenSpec.ofChange sumNamesWrong)

/-- 'retortlaw6.TreeNames': WHATEVER THE INPUT: true; the input reads as it did. -/
def treeNamesSpec : ChangeSpec := { name := "treeNames", fn := fun _ => fun
  | [] => { results := [.lit (.bool true)], args := [] }
  | _ => none }
def treeNamesRow : OpenClaim := { program := "ytmclkinkglnpgaa", sum := "cae8501b1cce26361e0194d317a4cf44324c99e87a11aee2803a0a5b006aa07e", func := "retort/retortlaw6.TreeNames", spec := "treeNames", apart := false }
def TreeNamesSaid : Prop := treeNamesRow.holds Try.pinned (OpenSpec.ofChange treeNamesSpec)

/-- ITS FALSE NEIGHBOUR: 'it returns false'. Refute it at one input. -/
def treeNamesWrong : ChangeSpec := { name := "treeNames", fn := fun _ => fun
  | [] => { results := [.lit (.bool false)], args := [] }
  | _ => none }
def TreeNamesWrongFalsely : Prop := treeNamesRow.holds Try.pinned (OpenSpec.ofChange treeNamesWrong)

/-- 'retortlaw19.ActNames': WHATEVER THE INPUT: true; the input reads as it did. -/
def actNamesSpec : ChangeSpec := { name := "actNames", fn := fun _ => fun
  | [] => { results := [.lit (.bool true)], args := [] }
  | _ => none }
def actNamesRow : OpenClaim := { program := "ytmclkinkglnpgaa", sum := "cae8501b1cce26361e0194d317a4cf44324c99e87a11aee2803a0a5b006aa07e", func := "retort/retortlaw19.ActNames", spec := "actNames", apart := false }
def ActNamesSaid : Prop := actNamesRow.holds Try.pinned (OpenSpec.ofChange actNamesSpec)

/-- ITS FALSE NEIGHBOUR: 'it returns false'. Refute it at one input. -/
def actNamesWrong : ChangeSpec := { name := "actNames", fn := fun _ => fun
  | [] => { results := [.lit (.bool false)], args := [] }
  | _ => none }
def ActNamesWrongFalsely : Prop := actNamesRow.holds Try.pinned (OpenSpec.ofChange actNamesWrong)

/-- 'retortlaw20.WorkNames': WHATEVER THE INPUT: true; the input reads as it did. -/
def workNamesSpec : ChangeSpec := { name := "workNames", fn := fun _ => fun
  | [] => { results := [.lit (.bool true)], args := [] }
  | _ => none }
def workNamesRow : OpenClaim := { program := "ytmclkinkglnpgaa", sum := "cae8501b1cce26361e0194d317a4cf44324c99e87a11aee2803a0a5b006aa07e", func := "retort/retortlaw20.WorkNames", spec := "workNames", apart := false }
def WorkNamesSaid : Prop := workNamesRow.holds Try.pinned (OpenSpec.ofChange workNamesSpec)

/-- ITS FALSE NEIGHBOUR: 'it returns false'. Refute it at one input. -/
def workNamesWrong : ChangeSpec := { name := "workNames", fn := fun _ => fun
  | [] => { results := [.lit (.bool false)], args := [] }
  | _ => none }
def WorkNamesWrongFalsely : Prop := workNamesRow.holds Try.pinned (OpenSpec.ofChange workNamesWrong)

/- THE SECOND FORM. 'bulk': how many values and letters a reading holds, each counted each time it is reached (what is shared counts as often as it is met; a slice's spare places count too). A statement '..UptoSaid' is the law's where the arguments, and the package variables that the reading takes, are together of bulk at most 1048576: NARROWER than '..Said'. Prove '..Said' where nothing that the law and all that it calls make is longer than what came in: it says more and counts as full. Else prove '..UptoSaid'. A law counts once. -/
mutual
def uptoBulk {H : Type} : DataW H → Nat
  | .lit (.string bytes) => bytes.length + 1
  | .lit _ => 1
  | .nil => 1
  | .ptr d => uptoBulk d + 1
  | .slice elems spare => uptoBulkAll elems + uptoBulkAll spare + 1
  | .agg parts => uptoBulkAll parts + 1
  | .iface _ d => uptoBulk d + 1
  | .map entries => uptoBulkEntries entries + 1
  | .held _ => 1
def uptoBulkAll {H : Type} : List (DataW H) → Nat
  | [] => 0
  | d :: r => uptoBulk d + uptoBulkAll r
def uptoBulkEntries {H : Type} : List (Lit × DataW H) → Nat
  | [] => 0
  | x :: r => uptoBulkEntry x + uptoBulkEntries r
def uptoBulkEntry {H : Type} : Lit × DataW H → Nat
  | (.string bytes, d) => bytes.length + uptoBulk d + 1
  | (_, d) => uptoBulk d + 1
 end
def uptoSmall : (H : Type) → List (DataW H) → Bool := fun _ ds => decide (uptoBulkAll ds ≤ 1048576)
def OpenSpec.upto (s : _root_.Go.ChangeSpec) : _root_.Go.OpenSpec := { _root_.Go.OpenSpec.ofChange s with cond := some uptoSmall }

/-- 'retortlaw1.MintNames', WHERE WHAT IT READS IS OF BULK AT MOST 1048576: true; the input reads as it did. -/
def mintNamesUptoRow : OpenClaim := { program := "ytmclkinkglnpgaa", sum := "cae8501b1cce26361e0194d317a4cf44324c99e87a11aee2803a0a5b006aa07e", func := "retort/retortlaw1.MintNames", spec := "mintNames", apart := false, narrowed := true }
def MintNamesUptoSaid : Prop := mintNamesUptoRow.holds Try.pinned (OpenSpec.upto mintNamesSpec)

/-- 'retortlaw11.OpNames', WHERE WHAT IT READS IS OF BULK AT MOST 1048576: true; the input reads as it did. -/
def opNamesUptoRow : OpenClaim := { program := "ytmclkinkglnpgaa", sum := "cae8501b1cce26361e0194d317a4cf44324c99e87a11aee2803a0a5b006aa07e", func := "retort/retortlaw11.OpNames", spec := "opNames", apart := false, narrowed := true }
def OpNamesUptoSaid : Prop := opNamesUptoRow.holds Try.pinned (OpenSpec.upto opNamesSpec)

/-- 'retortlaw12.ProgNames', WHERE WHAT IT READS IS OF BULK AT MOST 1048576: true; the input reads as it did. -/
def progNamesUptoRow : OpenClaim := { program := "ytmclkinkglnpgaa", sum := "cae8501b1cce26361e0194d317a4cf44324c99e87a11aee2803a0a5b006aa07e", func := "retort/retortlaw12.ProgNames", spec := "progNames", apart := false, narrowed := true }
def ProgNamesUptoSaid : Prop := progNamesUptoRow.holds Try.pinned (OpenSpec.upto progNamesSpec)

/-- 'retortlaw13.CheckNames', WHERE WHAT IT READS IS OF BULK AT MOST 1048576: true; the input reads as it did. -/
def checkNamesUptoRow : OpenClaim := { program := "ytmclkinkglnpgaa", sum := "cae8501b1cce26361e0194d317a4cf44324c99e87a11aee2803a0a5b006aa07e", func := "retort/retortlaw13.CheckNames", spec := "checkNames", apart := false, narrowed := true }
def CheckNamesUptoSaid : Prop := checkNamesUptoRow.holds Try.pinned (OpenSpec.upto checkNamesSpec)

/-- 'retortlaw2.SumNames', WHERE WHAT IT READS IS OF BULK AT MOST 1048576: true; the input reads as it did. -/
def sumNamesUptoRow : OpenClaim := { program := "ytmclkinkglnpgaa", sum := "cae8501b1cce26361e0194d317a4cf44324c99e87a11aee2803a0a5b006aa07e", func := "retort/retortlaw2.SumNames", spec := "sumNames", apart := false, narrowed := true }
def SumNamesUptoSaid : Prop := sumNamesUptoRow.holds Try.pinned (OpenSpec.upto sumNamesSpec)

/-- 'retortlaw6.TreeNames', WHERE WHAT IT READS IS OF BULK AT MOST 1048576: true; the input reads as it did. -/
def treeNamesUptoRow : OpenClaim := { program := "ytmclkinkglnpgaa", sum := "cae8501b1cce26361e0194d317a4cf44324c99e87a11aee2803a0a5b006aa07e", func := "retort/retortlaw6.TreeNames", spec := "treeNames", apart := false, narrowed := true }
def TreeNamesUptoSaid : Prop := treeNamesUptoRow.holds Try.pinned (OpenSpec.upto treeNamesSpec)

/-- 'retortlaw19.ActNames', WHERE WHAT IT READS IS OF BULK AT MOST 1048576: true; the input reads as it did. -/
def actNamesUptoRow : OpenClaim := { program := "ytmclkinkglnpgaa", sum := "cae8501b1cce26361e0194d317a4cf44324c99e87a11aee2803a0a5b006aa07e", func := "retort/retortlaw19.ActNames", spec := "actNames", apart := false, narrowed := true }
def ActNamesUptoSaid : Prop := actNamesUptoRow.holds Try.pinned (OpenSpec.upto actNamesSpec)

/-- 'retortlaw20.WorkNames', WHERE WHAT IT READS IS OF BULK AT MOST 1048576: true; the input reads as it did. -/
def workNamesUptoRow : OpenClaim := { program := "ytmclkinkglnpgaa", sum := "cae8501b1cce26361e0194d317a4cf44324c99e87a11aee2803a0a5b006aa07e", func := "retort/retortlaw20.WorkNames", spec := "workNames", apart := false, narrowed := true }
def WorkNamesUptoSaid : Prop := workNamesUptoRow.holds Try.pinned (OpenSpec.upto workNamesSpec)

end Rows
end Go.Proofs.Ytmclkinkglnpgaa
