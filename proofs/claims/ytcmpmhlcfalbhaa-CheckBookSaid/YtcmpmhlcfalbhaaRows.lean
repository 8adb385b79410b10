/-
  No cell of these rows narrows 'for every input' (looked for: loops, veiled, ifaces, maps, wideKeys, modest, calm, conditions, laid).
  DERIVED. THE GIVEN ROWS OF THIS SEAT. 8 by the template 'for every input the law returns true; each argument reads behind the call as it read before'; 0 by the template 'total and deterministic' (their statements: YtcmpmhlcfalbhaaTotals.lean).
  GIVEN WITH THE SEED: the statements are not yours to turn. If you find one false, say at which input.
  Laid BY PROGRAM, IN A SANDBOX (cutbox-rows.mjs): the forced cells as the released guide's own fill.sh prints them over the translation e0d8250b041e6856… (all of the seat's roots in one cut). By AI agents, Wed Nov 11 2026. No macro, syntax, notation, axiom, sorry.
-/
import Derived.Test.YtcmpmhlcfalbhaaChecked
import GoSem.Claim
import GoSem.ClaimJoined
import GoSem.ClaimMapViews
import Derived.JoinedTies
import Derived.KernelRfl
namespace Go.Proofs.Ytcmpmhlcfalbhaa
/- THE CELL 'sum', in the pinned program and in every row, IS THE sha256 OF THE DUMP (.gsa) THAT YtcmpmhlcfalbhaaProg.lean LOADS. Nothing in Lean hashes anything: it is a label: what it is worth is what the hold of that sum in a sandbox is worth. -/
noncomputable def Try.pinned : Pinned := { name := "ytcmpmhlcfalbhaa", sum := "e0d8250b041e6856fc8b599ca34dc9fef6800d85f03963014b5d810d52cf06eb", checked := Try.checked }
namespace Rows
def none {H : Type} : Left H := { results := [], args := [] }

/-- 'retortlaw13.CheckLong': WHATEVER THE INPUT: true; the input reads as it did. -/
def checkLongSpec : ChangeSpec := { name := "checkLong", fn := fun _ => fun
  | [d1, d2, d3, d4] => { results := [.lit (.bool true)], args := [d1, d2, d3, d4] }
  | _ => none }
def checkLongRow : OpenClaim := { program := "ytcmpmhlcfalbhaa", sum := "e0d8250b041e6856fc8b599ca34dc9fef6800d85f03963014b5d810d52cf06eb", func := "retort/retortlaw13.CheckLong", spec := "checkLong", unfollowed := true, recurses := true, apart := false }
def CheckLongSaid : Prop := checkLongRow.holds Try.pinned (OpenSpec.ofChange checkLongSpec)

/-- ITS FALSE NEIGHBOUR: 'it returns false'. Refute it at one input. -/
def checkLongWrong : ChangeSpec := { name := "checkLong", fn := fun _ => fun
  | [d1, d2, d3, d4] => { results := [.lit (.bool false)], args := [d1, d2, d3, d4] }
  | _ => none }
def CheckLongWrongFalsely : Prop := checkLongRow.holds Try.pinned (OpenSpec.ofChange checkLongWrong)

/-- 'retortlaw13.CheckAny': WHATEVER THE INPUT: true; the input reads as it did. -/
def checkAnySpec : ChangeSpec := { name := "checkAny", fn := fun _ => fun
  | [d1, d2] => { results := [.lit (.bool true)], args := [d1, d2] }
  | _ => none }
def checkAnyRow : OpenClaim := { program := "ytcmpmhlcfalbhaa", sum := "e0d8250b041e6856fc8b599ca34dc9fef6800d85f03963014b5d810d52cf06eb", func := "retort/retortlaw13.CheckAny", spec := "checkAny", unfollowed := true, recurses := true, apart := false }
def CheckAnySaid : Prop := checkAnyRow.holds Try.pinned (OpenSpec.ofChange checkAnySpec)

/-- ITS FALSE NEIGHBOUR: 'it returns false'. Refute it at one input. -/
def checkAnyWrong : ChangeSpec := { name := "checkAny", fn := fun _ => fun
  | [d1, d2] => { results := [.lit (.bool false)], args := [d1, d2] }
  | _ => none }
def CheckAnyWrongFalsely : Prop := checkAnyRow.holds Try.pinned (OpenSpec.ofChange checkAnyWrong)

/-- 'retortlaw13.CheckRuns': WHATEVER THE INPUT: true; the input reads as it did. -/
def checkRunsSpec : ChangeSpec := { name := "checkRuns", fn := fun _ => fun
  | [d] => { results := [.lit (.bool true)], args := [d] }
  | _ => none }
def checkRunsRow : OpenClaim := { program := "ytcmpmhlcfalbhaa", sum := "e0d8250b041e6856fc8b599ca34dc9fef6800d85f03963014b5d810d52cf06eb", func := "retort/retortlaw13.CheckRuns", spec := "checkRuns", unfollowed := true, recurses := true, apart := false }
def CheckRunsSaid : Prop := checkRunsRow.holds Try.pinned (OpenSpec.ofChange checkRunsSpec)

/-- ITS FALSE NEIGHBOUR: 'it returns false'. Refute it at one input. -/
def checkRunsWrong : ChangeSpec := { name := "checkRuns", fn := fun _ => fun
  | [d] => { results := [.lit (.bool false)], args := [d] }
  | _ => none }
def CheckRunsWrongFalsely : Prop := checkRunsRow.holds Try.pinned (OpenSpec.ofChange checkRunsWrong)

/-- 'retortlaw13.CheckNexts': WHATEVER THE INPUT: true; the input reads as it did. -/
def checkNextsSpec : ChangeSpec := { name := "checkNexts", fn := fun _ => fun
  | [d1, d2] => { results := [.lit (.bool true)], args := [d1, d2] }
  | _ => none }
def checkNextsRow : OpenClaim := { program := "ytcmpmhlcfalbhaa", sum := "e0d8250b041e6856fc8b599ca34dc9fef6800d85f03963014b5d810d52cf06eb", func := "retort/retortlaw13.CheckNexts", spec := "checkNexts", unfollowed := true, recurses := true, apart := false }
def CheckNextsSaid : Prop := checkNextsRow.holds Try.pinned (OpenSpec.ofChange checkNextsSpec)

/-- ITS FALSE NEIGHBOUR: 'it returns false'. Refute it at one input. -/
def checkNextsWrong : ChangeSpec := { name := "checkNexts", fn := fun _ => fun
  | [d1, d2] => { results := [.lit (.bool false)], args := [d1, d2] }
  | _ => none }
def CheckNextsWrongFalsely : Prop := checkNextsRow.holds Try.pinned (OpenSpec.ofChange checkNextsWrong)

/-- 'retortlaw13.CheckHeights': WHATEVER THE INPUT: true; the input reads as it did. -/
def checkHeightsSpec : ChangeSpec := { name := "checkHeights", fn := fun _ => fun
  | [d] => { results := [.lit (.bool true)], args := [d] }
  | _ => none }
def checkHeightsRow : OpenClaim := { program := "ytcmpmhlcfalbhaa", sum := "e0d8250b041e6856fc8b599ca34dc9fef6800d85f03963014b5d810d52cf06eb", func := "retort/retortlaw13.CheckHeights", spec := "checkHeights", unfollowed := true, recurses := true, apart := false }
def CheckHeightsSaid : Prop := checkHeightsRow.holds Try.pinned (OpenSpec.ofChange checkHeightsSpec)

/-- ITS FALSE NEIGHBOUR: 'it returns false'. Refute it at one input. -/
def checkHeightsWrong : ChangeSpec := { name := "checkHeights", fn := fun _ => fun
  | [d] => { results := [.lit (.bool false)], args := [d] }
  | _ => none }
def CheckHeightsWrongFalsely : Prop := checkHeightsRow.holds Try.pinned (OpenSpec.ofChange checkHeightsWrong)

/-- 'retortlaw13.CheckAnyway': WHATEVER THE INPUT: true; the input reads as it did. -/
def checkAnywaySpec : ChangeSpec := { name := "checkAnyway", fn := fun _ => fun
  | [d1, d2] => { results := [.lit (.bool true)], args := [d1, d2] }
  | _ => none }
def checkAnywayRow : OpenClaim := { program := "ytcmpmhlcfalbhaa", sum := "e0d8250b041e6856fc8b599ca34dc9fef6800d85f03963014b5d810d52cf06eb", func := "retort/retortlaw13.CheckAnyway", spec := "checkAnyway", unfollowed := true, recurses := true, apart := false }
def CheckAnywaySaid : Prop := checkAnywayRow.holds Try.pinned (OpenSpec.ofChange checkAnywaySpec)

/-- ITS FALSE NEIGHBOUR: 'it returns false'. Refute it at one input. -/
def checkAnywayWrong : ChangeSpec := { name := "checkAnyway", fn := fun _ => fun
  | [d1, d2] => { results := [.lit (.bool false)], args := [d1, d2] }
  | _ => none }
def CheckAnywayWrongFalsely : Prop := checkAnywayRow.holds Try.pinned (OpenSpec.ofChange checkAnywayWrong)

/-- 'retortlaw13.CheckWalks': WHATEVER THE INPUT: true; the input reads as it did. -/
def checkWalksSpec : ChangeSpec := { name := "checkWalks", fn := fun _ => fun
  | [d1, d2, d3] => { results := [.lit (.bool true)], args := [d1, d2, d3] }
  | _ => none }
def checkWalksRow : OpenClaim := { program := "ytcmpmhlcfalbhaa", sum := "e0d8250b041e6856fc8b599ca34dc9fef6800d85f03963014b5d810d52cf06eb", func := "retort/retortlaw13.CheckWalks", spec := "checkWalks", unfollowed := true, recurses := true, apart := false }
def CheckWalksSaid : Prop := checkWalksRow.holds Try.pinned (OpenSpec.ofChange checkWalksSpec)

/-- ITS FALSE NEIGHBOUR: 'it returns false'. Refute it at one input. -/
def checkWalksWrong : ChangeSpec := { name := "checkWalks", fn := fun _ => fun
  | [d1, d2, d3] => { results := [.lit (.bool false)], args := [d1, d2, d3] }
  | _ => none }
def CheckWalksWrongFalsely : Prop := checkWalksRow.holds Try.pinned (OpenSpec.ofChange checkWalksWrong)

/-- 'retortlaw13.CheckBook': WHATEVER THE INPUT: true; the input reads as it did. -/
def checkBookSpec : ChangeSpec := { name := "checkBook", fn := fun _ => fun
  | [d1, d2] => { results := [.lit (.bool true)], args := [d1, d2] }
  | _ => none }
def checkBookRow : OpenClaim := { program := "ytcmpmhlcfalbhaa", sum := "e0d8250b041e6856fc8b599ca34dc9fef6800d85f03963014b5d810d52cf06eb", func := "retort/retortlaw13.CheckBook", spec := "checkBook", unfollowed := true, recurses := true, apart := false }
def CheckBookSaid : Prop := checkBookRow.holds Try.pinned (OpenSpec.ofChange checkBookSpec)

/-- ITS FALSE NEIGHBOUR: 'it returns false'. Refute it at one input. -/
def checkBookWrong : ChangeSpec := { name := "checkBook", fn := fun _ => fun
  | [d1, d2] => { results := [.lit (.bool false)], args := [d1, d2] }
  | _ => none }
def CheckBookWrongFalsely : Prop := checkBookRow.holds Try.pinned (OpenSpec.ofChange checkBookWrong)

/- THE SECOND FORM. 'bulk': how many values and letters a reading holds, each counted each time it is reached (what is shared counts as often as it is met; a slice's spare places count too). A statement '..UptoSaid' is the law's where the arguments, and the package variables that the reading takes, are together of bulk at most 1048576: NARROWER than '..Said'. Prove '..Said' where nothing that the law and all that it calls make is longer than what came in: it says more and counts as full. Else prove '..UptoSaid'. A law counts once. -/
mutual
def uptoBulk {H : Type} : DataW H → Nat
  | .lit (.string bytes) => bytes.length + 1
  | .lit _ => 1
  | .nil => 1
  | .ptr d => uptoBulk d + 1
  | .slice elems spare => uptoBulkAll elems + uptoBulkAll spare + 1
  | .agg parts => uptoBulkAll parts + 1
  | .iface _ d => uptoBulk d + 1
  | .map entries => uptoBulkEntries entries + 1
  | .held _ => 1
def uptoBulkAll {H : Type} : List (DataW H) → Nat
  | [] => 0
  | d :: r => uptoBulk d + uptoBulkAll r
def uptoBulkEntries {H : Type} : List (Lit × DataW H) → Nat
  | [] => 0
  | x :: r => uptoBulkEntry x + uptoBulkEntries r
def uptoBulkEntry {H : Type} : Lit × DataW H → Nat
  | (.string bytes, d) => bytes.length + uptoBulk d + 1
  | (_, d) => uptoBulk d + 1
 end
def uptoSmall : (H : Type) → List (DataW H) → Bool := fun _ ds => decide (uptoBulkAll ds ≤ 1048576)
def OpenSpec.upto (s : _root_.Go.ChangeSpec) : _root_.Go.OpenSpec := { _root_.Go.OpenSpec.ofChange s with cond := some uptoSmall }

/-- 'retortlaw13.CheckLong', WHERE WHAT IT READS IS OF BULK AT MOST 1048576: true; the input reads as it did. -/
def checkLongUptoRow : OpenClaim := { program := "ytcmpmhlcfalbhaa", sum := "e0d8250b041e6856fc8b599ca34dc9fef6800d85f03963014b5d810d52cf06eb", func := "retort/retortlaw13.CheckLong", spec := "checkLong", unfollowed := true, recurses := true, apart := false, narrowed := true }
def CheckLongUptoSaid : Prop := checkLongUptoRow.holds Try.pinned (OpenSpec.upto checkLongSpec)

/-- 'retortlaw13.CheckAny', WHERE WHAT IT READS IS OF BULK AT MOST 1048576: true; the input reads as it did. -/
def checkAnyUptoRow : OpenClaim := { program := "ytcmpmhlcfalbhaa", sum := "e0d8250b041e6856fc8b599ca34dc9fef6800d85f03963014b5d810d52cf06eb", func := "retort/retortlaw13.CheckAny", spec := "checkAny", unfollowed := true, recurses := true, apart := false, narrowed := true }
def CheckAnyUptoSaid : Prop := checkAnyUptoRow.holds Try.pinned (OpenSpec.upto checkAnySpec)

/-- 'retortlaw13.CheckRuns', WHERE WHAT IT READS IS OF BULK AT MOST 1048576: true; the input reads as it did. -/
def checkRunsUptoRow : OpenClaim := { program := "ytcmpmhlcfalbhaa", sum := "e0d8250b041e6856fc8b599ca34dc9fef6800d85f03963014b5d810d52cf06eb", func := "retort/retortlaw13.CheckRuns", spec := "checkRuns", unfollowed := true, recurses := true, apart := false, narrowed := true }
def CheckRunsUptoSaid : Prop := checkRunsUptoRow.holds Try.pinned (OpenSpec.upto checkRunsSpec)

/-- 'retortlaw13.CheckNexts', WHERE WHAT IT READS IS OF BULK AT MOST 1048576: true; the input reads as it did. -/
def checkNextsUptoRow : OpenClaim := { program := "ytcmpmhlcfalbhaa", sum := "e0d8250b041e6856fc8b599ca34dc9fef6800d85f03963014b5d810d52cf06eb", func := "retort/retortlaw13.CheckNexts", spec := "checkNexts", unfollowed := true, recurses := true, apart := false, narrowed := true }
def CheckNextsUptoSaid : Prop := checkNextsUptoRow.holds Try.pinned (OpenSpec.upto checkNextsSpec)

/-- 'retortlaw13.CheckHeights', WHERE WHAT IT READS IS OF BULK AT MOST 1048576: true; the input reads as it did. -/
def checkHeightsUptoRow : OpenClaim := { program := "ytcmpmhlcfalbhaa", sum := "e0d8250b041e6856fc8b599ca34dc9fef6800d85f03963014b5d810d52cf06eb", func := "retort/retortlaw13.CheckHeights", spec := "checkHeights", unfollowed := true, recurses := true, apart := false, narrowed := true }
def CheckHeightsUptoSaid : Prop := checkHeightsUptoRow.holds Try.pinned (OpenSpec.upto checkHeightsSpec)

/-- 'retortlaw13.CheckAnyway', WHERE WHAT IT READS IS OF BULK AT MOST 1048576: true; the input reads as it did. -/
def checkAnywayUptoRow : OpenClaim := { program := "ytcmpmhlcfalbhaa", sum := "e0d8250b041e6856fc8b599ca34dc9fef6800d85f03963014b5d810d52cf06eb", func := "retort/retortlaw13.CheckAnyway", spec := "checkAnyway", unfollowed := true, recurses := true, apart := false, narrowed := true }
def CheckAnywayUptoSaid : Prop := checkAnywayUptoRow.holds Try.pinned (OpenSpec.upto checkAnywaySpec)

/-- 'retortlaw13.CheckWalks', WHERE WHAT IT READS IS OF BULK AT MOST 1048576: true; the input reads as it did. -/
def checkWalksUptoRow : OpenClaim := { program := "ytcmpmhlcfalbhaa", sum := "e0d8250b041e6856fc8b599ca34dc9fef6800d85f03963014b5d810d52cf06eb", func := "retort/retortlaw13.CheckWalks", spec := "checkWalks", unfollowed := true, recurses := true, apart := false, narrowed := true }
def CheckWalksUptoSaid : Prop := checkWalksUptoRow.holds Try.pinned (OpenSpec.upto checkWalksSpec)

/-- 'retortlaw13.CheckBook', WHERE WHAT IT READS IS OF BULK AT MOST 1048576: true; the input reads as it did. -/
def checkBookUptoRow : OpenClaim := { program := "ytcmpmhlcfalbhaa", sum := "e0d8250b041e6856fc8b599ca34dc9fef6800d85f03963014b5d810d52cf06eb", func := "retort/retortlaw13.CheckBook", spec := "checkBook", unfollowed := true, recurses := true, apart := false, narrowed := true }
def CheckBookUptoSaid : Prop := checkBookUptoRow.holds Try.pinned (OpenSpec.upto checkBookSpec)

end Rows
end Go.Proofs.Ytcmpmhlcfalbhaa
