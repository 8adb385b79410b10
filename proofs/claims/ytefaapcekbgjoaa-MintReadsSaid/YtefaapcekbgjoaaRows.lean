/-
  No cell of these rows narrows 'for every input' (looked for: loops, veiled, ifaces, maps, wideKeys, modest, calm, conditions, laid).
  DERIVED. THE GIVEN ROWS OF THIS SEAT. 10 by the template 'for every input the law returns true; each argument reads behind the call as it read before'; 0 by the template 'total and deterministic' (their statements: YtefaapcekbgjoaaTotals.lean).
  GIVEN WITH THE SEED: the statements are not yours to turn. If you find one false, say at which input.
  Laid BY PROGRAM, IN A SANDBOX (cutbox-rows.mjs): the forced cells as the released guide's own fill.sh prints them over the translation 48c132388df51d17… (all of the seat's roots in one cut). By AI agents, Wed Nov 11 2026. No macro, syntax, notation, axiom, sorry.
-/
import Derived.Test.YtefaapcekbgjoaaChecked
import GoSem.Claim
import GoSem.ClaimJoined
import GoSem.ClaimMapViews
import Derived.JoinedTies
import Derived.KernelRfl
namespace Go.Proofs.Ytefaapcekbgjoaa
/- THE CELL 'sum', in the pinned program and in every row, IS THE sha256 OF THE DUMP (.gsa) THAT YtefaapcekbgjoaaProg.lean LOADS. Nothing in Lean hashes anything: it is a label: what it is worth is what the hold of that sum in a sandbox is worth. -/
noncomputable def Try.pinned : Pinned := { name := "ytefaapcekbgjoaa", sum := "48c132388df51d176003ce881cfccffb4efaf93fcba2c11ca4d2a75eb9eeb636", checked := Try.checked }
namespace Rows
def none {H : Type} : Left H := { results := [], args := [] }

/-- 'retortlaw1.MintOrder': WHATEVER THE INPUT: true; the input reads as it did. -/
def mintOrderSpec : ChangeSpec := { name := "mintOrder", fn := fun _ => fun
  | [d1, d2] => { results := [.lit (.bool true)], args := [d1, d2] }
  | _ => none }
def mintOrderRow : OpenClaim := { program := "ytefaapcekbgjoaa", sum := "48c132388df51d176003ce881cfccffb4efaf93fcba2c11ca4d2a75eb9eeb636", func := "retort/retortlaw1.MintOrder", spec := "mintOrder", apart := false }
def MintOrderSaid : Prop := mintOrderRow.holds Try.pinned (OpenSpec.ofChange mintOrderSpec)

/-- ITS FALSE NEIGHBOUR: 'it returns false'. Refute it at one input. -/
def mintOrderWrong : ChangeSpec := { name := "mintOrder", fn := fun _ => fun
  | [d1, d2] => { results := [.lit (.bool false)], args := [d1, d2] }
  | _ => none }
def MintOrderWrongFalsely : Prop := mintOrderRow.holds Try.pinned (OpenSpec.ofChange mintOrderWrong)

/-- 'retortlaw1.MintWrites': WHATEVER THE INPUT: true; the input reads as it did. -/
def mintWritesSpec : ChangeSpec := { name := "mintWrites", fn := fun _ => fun
  | [d] => { results := [.lit (.bool true)], args := [d] }
  | _ => none }
def mintWritesRow : OpenClaim := { program := "ytefaapcekbgjoaa", sum := "48c132388df51d176003ce881cfccffb4efaf93fcba2c11ca4d2a75eb9eeb636", func := "retort/retortlaw1.MintWrites", spec := "mintWrites", apart := false }
def MintWritesSaid : Prop := mintWritesRow.holds Try.pinned (OpenSpec.ofChange mintWritesSpec)

/-- ITS FALSE NEIGHBOUR: 'it returns false'. Refute it at one input. -/
def mintWritesWrong : ChangeSpec := { name := "mintWrites", fn := fun _ => fun
  | [d] => { results := [.lit (.bool false)], args := [d] }
  | _ => none }
def MintWritesWrongFalsely : Prop := mintWritesRow.holds Try.pinned (OpenSpec.ofChange mintWritesWrong)

/-- 'retortlaw1.MintBig': WHATEVER THE INPUT: true; the input reads as it did. -/
def mintBigSpec : ChangeSpec := { name := "mintBig", fn := fun _ => fun
  | [d1, d2, d3] => { results := [.lit (.bool true)], args := [d1, d2, d3] }
  | _ => none }
def mintBigRow : OpenClaim := { program := "ytefaapcekbgjoaa", sum := "48c132388df51d176003ce881cfccffb4efaf93fcba2c11ca4d2a75eb9eeb636", func := "retort/retortlaw1.MintBig", spec := "mintBig", apart := false }
def MintBigSaid : Prop := mintBigRow.holds Try.pinned (OpenSpec.ofChange mintBigSpec)

/-- ITS FALSE NEIGHBOUR: 'it returns false'. Refute it at one input. -/
def mintBigWrong : ChangeSpec := { name := "mintBig", fn := fun _ => fun
  | [d1, d2, d3] => { results := [.lit (.bool false)], args := [d1, d2, d3] }
  | _ => none }
def MintBigWrongFalsely : Prop := mintBigRow.holds Try.pinned (OpenSpec.ofChange mintBigWrong)

/-- 'retortlaw1.MintThrows': WHATEVER THE INPUT: true; the input reads as it did. -/
def mintThrowsSpec : ChangeSpec := { name := "mintThrows", fn := fun _ => fun
  | [d1, d2, d3, d4, d5] => { results := [.lit (.bool true)], args := [d1, d2, d3, d4, d5] }
  | _ => none }
def mintThrowsRow : OpenClaim := { program := "ytefaapcekbgjoaa", sum := "48c132388df51d176003ce881cfccffb4efaf93fcba2c11ca4d2a75eb9eeb636", func := "retort/retortlaw1.MintThrows", spec := "mintThrows", unfollowed := true, recurses := true, apart := false }
def MintThrowsSaid : Prop := mintThrowsRow.holds Try.pinned (OpenSpec.ofChange mintThrowsSpec)

/-- ITS FALSE NEIGHBOUR: 'it returns false'. Refute it at one input. -/
def mintThrowsWrong : ChangeSpec := { name := "mintThrows", fn := fun _ => fun
  | [d1, d2, d3, d4, d5] => { results := [.lit (.bool false)], args := [d1, d2, d3, d4, d5] }
  | _ => none }
def MintThrowsWrongFalsely : Prop := mintThrowsRow.holds Try.pinned (OpenSpec.ofChange mintThrowsWrong)

/-- 'retortlaw1.MintReads': WHATEVER THE INPUT: true; the input reads as it did. -/
def mintReadsSpec : ChangeSpec := { name := "mintReads", fn := fun _ => fun
  | [d1, d2] => { results := [.lit (.bool true)], args := [d1, d2] }
  | _ => none }
def mintReadsRow : OpenClaim := { program := "ytefaapcekbgjoaa", sum := "48c132388df51d176003ce881cfccffb4efaf93fcba2c11ca4d2a75eb9eeb636", func := "retort/retortlaw1.MintReads", spec := "mintReads", unfollowed := true, recurses := true, apart := false }
def MintReadsSaid : Prop := mintReadsRow.holds Try.pinned (OpenSpec.ofChange mintReadsSpec)

/-- ITS FALSE NEIGHBOUR: 'it returns false'. Refute it at one input. -/
def mintReadsWrong : ChangeSpec := { name := "mintReads", fn := fun _ => fun
  | [d1, d2] => { results := [.lit (.bool false)], args := [d1, d2] }
  | _ => none }
def MintReadsWrongFalsely : Prop := mintReadsRow.holds Try.pinned (OpenSpec.ofChange mintReadsWrong)

/-- 'retortlaw1.MintCatches': WHATEVER THE INPUT: true; the input reads as it did. -/
def mintCatchesSpec : ChangeSpec := { name := "mintCatches", fn := fun _ => fun
  | [d1, d2, d3, d4] => { results := [.lit (.bool true)], args := [d1, d2, d3, d4] }
  | _ => none }
def mintCatchesRow : OpenClaim := { program := "ytefaapcekbgjoaa", sum := "48c132388df51d176003ce881cfccffb4efaf93fcba2c11ca4d2a75eb9eeb636", func := "retort/retortlaw1.MintCatches", spec := "mintCatches", unfollowed := true, recurses := true, apart := false }
def MintCatchesSaid : Prop := mintCatchesRow.holds Try.pinned (OpenSpec.ofChange mintCatchesSpec)

/-- ITS FALSE NEIGHBOUR: 'it returns false'. Refute it at one input. -/
def mintCatchesWrong : ChangeSpec := { name := "mintCatches", fn := fun _ => fun
  | [d1, d2, d3, d4] => { results := [.lit (.bool false)], args := [d1, d2, d3, d4] }
  | _ => none }
def MintCatchesWrongFalsely : Prop := mintCatchesRow.holds Try.pinned (OpenSpec.ofChange mintCatchesWrong)

/-- 'retortlaw1.MintBack': WHATEVER THE INPUT: true; the input reads as it did. -/
def mintBackSpec : ChangeSpec := { name := "mintBack", fn := fun _ => fun
  | [d] => { results := [.lit (.bool true)], args := [d] }
  | _ => none }
def mintBackRow : OpenClaim := { program := "ytefaapcekbgjoaa", sum := "48c132388df51d176003ce881cfccffb4efaf93fcba2c11ca4d2a75eb9eeb636", func := "retort/retortlaw1.MintBack", spec := "mintBack", unfollowed := true, recurses := true, apart := false }
def MintBackSaid : Prop := mintBackRow.holds Try.pinned (OpenSpec.ofChange mintBackSpec)

/-- ITS FALSE NEIGHBOUR: 'it returns false'. Refute it at one input. -/
def mintBackWrong : ChangeSpec := { name := "mintBack", fn := fun _ => fun
  | [d] => { results := [.lit (.bool false)], args := [d] }
  | _ => none }
def MintBackWrongFalsely : Prop := mintBackRow.holds Try.pinned (OpenSpec.ofChange mintBackWrong)

/-- 'retortlaw1.MintForms': WHATEVER THE INPUT: true; the input reads as it did. -/
def mintFormsSpec : ChangeSpec := { name := "mintForms", fn := fun _ => fun
  | [d1, d2] => { results := [.lit (.bool true)], args := [d1, d2] }
  | _ => none }
def mintFormsRow : OpenClaim := { program := "ytefaapcekbgjoaa", sum := "48c132388df51d176003ce881cfccffb4efaf93fcba2c11ca4d2a75eb9eeb636", func := "retort/retortlaw1.MintForms", spec := "mintForms", unfollowed := true, recurses := true, apart := false }
def MintFormsSaid : Prop := mintFormsRow.holds Try.pinned (OpenSpec.ofChange mintFormsSpec)

/-- ITS FALSE NEIGHBOUR: 'it returns false'. Refute it at one input. -/
def mintFormsWrong : ChangeSpec := { name := "mintForms", fn := fun _ => fun
  | [d1, d2] => { results := [.lit (.bool false)], args := [d1, d2] }
  | _ => none }
def MintFormsWrongFalsely : Prop := mintFormsRow.holds Try.pinned (OpenSpec.ofChange mintFormsWrong)

/-- 'retortlaw1.MintApart': WHATEVER THE INPUT: true; the input reads as it did. -/
def mintApartSpec : ChangeSpec := { name := "mintApart", fn := fun _ => fun
  | [d1, d2, d3] => { results := [.lit (.bool true)], args := [d1, d2, d3] }
  | _ => none }
def mintApartRow : OpenClaim := { program := "ytefaapcekbgjoaa", sum := "48c132388df51d176003ce881cfccffb4efaf93fcba2c11ca4d2a75eb9eeb636", func := "retort/retortlaw1.MintApart", spec := "mintApart", unfollowed := true, recurses := true, apart := false }
def MintApartSaid : Prop := mintApartRow.holds Try.pinned (OpenSpec.ofChange mintApartSpec)

/-- ITS FALSE NEIGHBOUR: 'it returns false'. Refute it at one input. -/
def mintApartWrong : ChangeSpec := { name := "mintApart", fn := fun _ => fun
  | [d1, d2, d3] => { results := [.lit (.bool false)], args := [d1, d2, d3] }
  | _ => none }
def MintApartWrongFalsely : Prop := mintApartRow.holds Try.pinned (OpenSpec.ofChange mintApartWrong)

/-- 'retortlaw1.MintBook': WHATEVER THE INPUT: true; the input reads as it did. -/
def mintBookSpec : ChangeSpec := { name := "mintBook", fn := fun _ => fun
  | [d] => { results := [.lit (.bool true)], args := [d] }
  | _ => none }
def mintBookRow : OpenClaim := { program := "ytefaapcekbgjoaa", sum := "48c132388df51d176003ce881cfccffb4efaf93fcba2c11ca4d2a75eb9eeb636", func := "retort/retortlaw1.MintBook", spec := "mintBook", unfollowed := true, recurses := true, apart := false }
def MintBookSaid : Prop := mintBookRow.holds Try.pinned (OpenSpec.ofChange mintBookSpec)

/-- ITS FALSE NEIGHBOUR: 'it returns false'. Refute it at one input. -/
def mintBookWrong : ChangeSpec := { name := "mintBook", fn := fun _ => fun
  | [d] => { results := [.lit (.bool false)], args := [d] }
  | _ => none }
def MintBookWrongFalsely : Prop := mintBookRow.holds Try.pinned (OpenSpec.ofChange mintBookWrong)

/- THE SECOND FORM. 'bulk': how many values and letters a reading holds, each counted each time it is reached (what is shared counts as often as it is met; a slice's spare places count too). A statement '..UptoSaid' is the law's where the arguments, and the package variables that the reading takes, are together of bulk at most 1048576: NARROWER than '..Said'. Prove '..Said' where nothing that the law and all that it calls make is longer than what came in: it says more and counts as full. Else prove '..UptoSaid'. A law counts once. -/
mutual
def uptoBulk {H : Type} : DataW H → Nat
  | .lit (.string bytes) => bytes.length + 1
  | .lit _ => 1
  | .nil => 1
  | .ptr d => uptoBulk d + 1
  | .slice elems spare => uptoBulkAll elems + uptoBulkAll spare + 1
  | .agg parts => uptoBulkAll parts + 1
  | .iface _ d => uptoBulk d + 1
  | .map entries => uptoBulkEntries entries + 1
  | .held _ => 1
def uptoBulkAll {H : Type} : List (DataW H) → Nat
  | [] => 0
  | d :: r => uptoBulk d + uptoBulkAll r
def uptoBulkEntries {H : Type} : List (Lit × DataW H) → Nat
  | [] => 0
  | x :: r => uptoBulkEntry x + uptoBulkEntries r
def uptoBulkEntry {H : Type} : Lit × DataW H → Nat
  | (.string bytes, d) => bytes.length + uptoBulk d + 1
  | (_, d) => uptoBulk d + 1
 end
def uptoSmall : (H : Type) → List (DataW H) → Bool := fun _ ds => decide (uptoBulkAll ds ≤ 1048576)
def OpenSpec.upto (s : _root_.Go.ChangeSpec) : _root_.Go.OpenSpec := { _root_.Go.OpenSpec.ofChange s with cond := some uptoSmall }

/-- 'retortlaw1.MintOrder', WHERE WHAT IT READS IS OF BULK AT MOST 1048576: true; the input reads as it did. -/
def mintOrderUptoRow : OpenClaim := { program := "ytefaapcekbgjoaa", sum := "48c132388df51d176003ce881cfccffb4efaf93fcba2c11ca4d2a75eb9eeb636", func := "retort/retortlaw1.MintOrder", spec := "mintOrder", apart := false, narrowed := true }
def MintOrderUptoSaid : Prop := mintOrderUptoRow.holds Try.pinned (OpenSpec.upto mintOrderSpec)

/-- 'retortlaw1.MintWrites', WHERE WHAT IT READS IS OF BULK AT MOST 1048576: true; the input reads as it did. -/
def mintWritesUptoRow : OpenClaim := { program := "ytefaapcekbgjoaa", sum := "48c132388df51d176003ce881cfccffb4efaf93fcba2c11ca4d2a75eb9eeb636", func := "retort/retortlaw1.MintWrites", spec := "mintWrites", apart := false, narrowed := true }
def MintWritesUptoSaid : Prop := mintWritesUptoRow.holds Try.pinned (OpenSpec.upto mintWritesSpec)

/-- 'retortlaw1.MintBig', WHERE WHAT IT READS IS OF BULK AT MOST 1048576: true; the input reads as it did. -/
def mintBigUptoRow : OpenClaim := { program := "ytefaapcekbgjoaa", sum := "48c132388df51d176003ce881cfccffb4efaf93fcba2c11ca4d2a75eb9eeb636", func := "retort/retortlaw1.MintBig", spec := "mintBig", apart := false, narrowed := true }
def MintBigUptoSaid : Prop := mintBigUptoRow.holds Try.pinned (OpenSpec.upto mintBigSpec)

/-- 'retortlaw1.MintThrows', WHERE WHAT IT READS IS OF BULK AT MOST 1048576: true; the input reads as it did. -/
def mintThrowsUptoRow : OpenClaim := { program := "ytefaapcekbgjoaa", sum := "48c132388df51d176003ce881cfccffb4efaf93fcba2c11ca4d2a75eb9eeb636", func := "retort/retortlaw1.MintThrows", spec := "mintThrows", unfollowed := true, recurses := true, apart := false, narrowed := true }
def MintThrowsUptoSaid : Prop := mintThrowsUptoRow.holds Try.pinned (OpenSpec.upto mintThrowsSpec)

/-- 'retortlaw1.MintReads', WHERE WHAT IT READS IS OF BULK AT MOST 1048576: true; the input reads as it did. -/
def mintReadsUptoRow : OpenClaim := { program := "ytefaapcekbgjoaa", sum := "48c132388df51d176003ce881cfccffb4efaf93fcba2c11ca4d2a75eb9eeb636", func := "retort/retortlaw1.MintReads", spec := "mintReads", unfollowed := true, recurses := true, apart := false, narrowed := true }
def MintReadsUptoSaid : Prop := mintReadsUptoRow.holds Try.pinned (OpenSpec.upto mintReadsSpec)

/-- 'retortlaw1.MintCatches', WHERE WHAT IT READS IS OF BULK AT MOST 1048576: true; the input reads as it did. -/
def mintCatchesUptoRow : OpenClaim := { program := "ytefaapcekbgjoaa", sum := "48c132388df51d176003ce881cfccffb4efaf93fcba2c11ca4d2a75eb9eeb636", func := "retort/retortlaw1.MintCatches", spec := "mintCatches", unfollowed := true, recurses := true, apart := false, narrowed := true }
def MintCatchesUptoSaid : Prop := mintCatchesUptoRow.holds Try.pinned (OpenSpec.upto mintCatchesSpec)

/-- 'retortlaw1.MintBack', WHERE WHAT IT READS IS OF BULK AT MOST 1048576: true; the input reads as it did. -/
def mintBackUptoRow : OpenClaim := { program := "ytefaapcekbgjoaa", sum := "48c132388df51d176003ce881cfccffb4efaf93fcba2c11ca4d2a75eb9eeb636", func := "retort/retortlaw1.MintBack", spec := "mintBack", unfollowed := true, recurses := true, apart := false, narrowed := true }
def MintBackUptoSaid : Prop := mintBackUptoRow.holds Try.pinned (OpenSpec.upto mintBackSpec)

/-- 'retortlaw1.MintForms', WHERE WHAT IT READS IS OF BULK AT MOST 1048576: true; the input reads as it did. -/
def mintFormsUptoRow : OpenClaim := { program := "ytefaapcekbgjoaa", sum := "48c132388df51d176003ce881cfccffb4efaf93fcba2c11ca4d2a75eb9eeb636", func := "retort/retortlaw1.MintForms", spec := "mintForms", unfollowed := true, recurses := true, apart := false, narrowed := true }
def MintFormsUptoSaid : Prop := mintFormsUptoRow.holds Try.pinned (OpenSpec.upto mintFormsSpec)

/-- 'retortlaw1.MintApart', WHERE WHAT IT READS IS OF BULK AT MOST 1048576: true; the input reads as it did. -/
def mintApartUptoRow : OpenClaim := { program := "ytefaapcekbgjoaa", sum := "48c132388df51d176003ce881cfccffb4efaf93fcba2c11ca4d2a75eb9eeb636", func := "retort/retortlaw1.MintApart", spec := "mintApart", unfollowed := true, recurses := true, apart := false, narrowed := true }
def MintApartUptoSaid : Prop := mintApartUptoRow.holds Try.pinned (OpenSpec.upto mintApartSpec)

/-- 'retortlaw1.MintBook', WHERE WHAT IT READS IS OF BULK AT MOST 1048576: true; the input reads as it did. -/
def mintBookUptoRow : OpenClaim := { program := "ytefaapcekbgjoaa", sum := "48c132388df51d176003ce881cfccffb4efaf93fcba2c11ca4d2a75eb9eeb636", func := "retort/retortlaw1.MintBook", spec := "mintBook", unfollowed := true, recurses := true, apart := false, narrowed := true }
def MintBookUptoSaid : Prop := mintBookUptoRow.holds Try.pinned (OpenSpec.upto mintBookSpec)

end Rows
end Go.Proofs.Ytefaapcekbgjoaa
