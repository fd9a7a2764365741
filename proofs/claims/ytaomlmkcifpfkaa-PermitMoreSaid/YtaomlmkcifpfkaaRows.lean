/-
  No cell of these rows narrows 'for every input' (looked for: loops, veiled, ifaces, maps, wideKeys, modest, calm, conditions, laid).
  DERIVED. THE GIVEN ROWS OF THIS SEAT. 9 by the template 'for every input the law returns true; each argument reads behind the call as it read before'; 0 by the template 'total and deterministic' (their statements: YtaomlmkcifpfkaaTotals.lean).
  GIVEN WITH THE SEED: the statements are not yours to turn. If you find one false, say at which input.
  Laid BY PROGRAM, IN A SANDBOX (cutbox-rows.mjs): the forced cells as the released guide's own fill.sh prints them over the translation 586904a5f5a094f3… (all of the seat's roots in one cut). By AI agents, Wed Nov 11 2026. No macro, syntax, notation, axiom, sorry.
-/
import Derived.Test.YtaomlmkcifpfkaaChecked
import GoSem.Claim
import GoSem.ClaimJoined
import GoSem.ClaimMapViews
import Derived.JoinedTies
import Derived.KernelRfl
namespace Go.Proofs.Ytaomlmkcifpfkaa
/- THE CELL 'sum', in the pinned program and in every row, IS THE sha256 OF THE DUMP (.gsa) THAT YtaomlmkcifpfkaaProg.lean LOADS. Nothing in Lean hashes anything: it is a label: what it is worth is what the hold of that sum in a sandbox is worth. -/
noncomputable def Try.pinned : Pinned := { name := "ytaomlmkcifpfkaa", sum := "586904a5f5a094f3a10db2c741a7d1a036b56f6d1679522997c888017b7e897f", checked := Try.checked }
namespace Rows
def none {H : Type} : Left H := { results := [], args := [] }

/-- 'goosenecklaw08.PermitCompiles': WHATEVER THE INPUT: true; the input reads as it did. -/
def permitCompilesSpec : ChangeSpec := { name := "permitCompiles", fn := fun _ => fun
  | [d1, d2] => { results := [.lit (.bool true)], args := [d1, d2] }
  | _ => none }
def permitCompilesRow : OpenClaim := { program := "ytaomlmkcifpfkaa", sum := "586904a5f5a094f3a10db2c741a7d1a036b56f6d1679522997c888017b7e897f", func := "gooseneck/goosenecklaw08.PermitCompiles", spec := "permitCompiles", unfollowed := true, recurses := true, apart := false }
def PermitCompilesSaid : Prop := permitCompilesRow.holds Try.pinned (OpenSpec.ofChange permitCompilesSpec)

/-- ITS FALSE NEIGHBOUR: 'it returns false'. Refute it at one input. -/
def permitCompilesWrong : ChangeSpec := { name := "permitCompiles", fn := fun _ => fun
  | [d1, d2] => { results := [.lit (.bool false)], args := [d1, d2] }
  | _ => none }
def PermitCompilesWrongFalsely : Prop := permitCompilesRow.holds Try.pinned (OpenSpec.ofChange permitCompilesWrong)

/-- 'goosenecklaw08.PermitNext': WHATEVER THE INPUT: true; the input reads as it did. -/
def permitNextSpec : ChangeSpec := { name := "permitNext", fn := fun _ => fun
  | [d1, d2, d3, d4, d5] => { results := [.lit (.bool true)], args := [d1, d2, d3, d4, d5] }
  | _ => none }
def permitNextRow : OpenClaim := { program := "ytaomlmkcifpfkaa", sum := "586904a5f5a094f3a10db2c741a7d1a036b56f6d1679522997c888017b7e897f", func := "gooseneck/goosenecklaw08.PermitNext", spec := "permitNext", unfollowed := true, recurses := true, apart := false }
def PermitNextSaid : Prop := permitNextRow.holds Try.pinned (OpenSpec.ofChange permitNextSpec)

/-- ITS FALSE NEIGHBOUR: 'it returns false'. Refute it at one input. -/
def permitNextWrong : ChangeSpec := { name := "permitNext", fn := fun _ => fun
  | [d1, d2, d3, d4, d5] => { results := [.lit (.bool false)], args := [d1, d2, d3, d4, d5] }
  | _ => none }
def PermitNextWrongFalsely : Prop := permitNextRow.holds Try.pinned (OpenSpec.ofChange permitNextWrong)

/-- 'goosenecklaw08.PermitMinimal': WHATEVER THE INPUT: true; the input reads as it did. -/
def permitMinimalSpec : ChangeSpec := { name := "permitMinimal", fn := fun _ => fun
  | [d1, d2, d3] => { results := [.lit (.bool true)], args := [d1, d2, d3] }
  | _ => none }
def permitMinimalRow : OpenClaim := { program := "ytaomlmkcifpfkaa", sum := "586904a5f5a094f3a10db2c741a7d1a036b56f6d1679522997c888017b7e897f", func := "gooseneck/goosenecklaw08.PermitMinimal", spec := "permitMinimal", unfollowed := true, recurses := true, apart := false }
def PermitMinimalSaid : Prop := permitMinimalRow.holds Try.pinned (OpenSpec.ofChange permitMinimalSpec)

/-- ITS FALSE NEIGHBOUR: 'it returns false'. Refute it at one input. -/
def permitMinimalWrong : ChangeSpec := { name := "permitMinimal", fn := fun _ => fun
  | [d1, d2, d3] => { results := [.lit (.bool false)], args := [d1, d2, d3] }
  | _ => none }
def PermitMinimalWrongFalsely : Prop := permitMinimalRow.holds Try.pinned (OpenSpec.ofChange permitMinimalWrong)

/-- 'goosenecklaw08.PermitMore': WHATEVER THE INPUT: true; the input reads as it did. -/
def permitMoreSpec : ChangeSpec := { name := "permitMore", fn := fun _ => fun
  | [d1, d2, d3, d4, d5, d6] => { results := [.lit (.bool true)], args := [d1, d2, d3, d4, d5, d6] }
  | _ => none }
def permitMoreRow : OpenClaim := { program := "ytaomlmkcifpfkaa", sum := "586904a5f5a094f3a10db2c741a7d1a036b56f6d1679522997c888017b7e897f", func := "gooseneck/goosenecklaw08.PermitMore", spec := "permitMore", unfollowed := true, recurses := true, apart := false }
def PermitMoreSaid : Prop := permitMoreRow.holds Try.pinned (OpenSpec.ofChange permitMoreSpec)

/-- ITS FALSE NEIGHBOUR: 'it returns false'. Refute it at one input. -/
def permitMoreWrong : ChangeSpec := { name := "permitMore", fn := fun _ => fun
  | [d1, d2, d3, d4, d5, d6] => { results := [.lit (.bool false)], args := [d1, d2, d3, d4, d5, d6] }
  | _ => none }
def PermitMoreWrongFalsely : Prop := permitMoreRow.holds Try.pinned (OpenSpec.ofChange permitMoreWrong)

/-- 'goosenecklaw08.PermitConflicts': WHATEVER THE INPUT: true; the input reads as it did. -/
def permitConflictsSpec : ChangeSpec := { name := "permitConflicts", fn := fun _ => fun
  | [d1, d2, d3] => { results := [.lit (.bool true)], args := [d1, d2, d3] }
  | _ => none }
def permitConflictsRow : OpenClaim := { program := "ytaomlmkcifpfkaa", sum := "586904a5f5a094f3a10db2c741a7d1a036b56f6d1679522997c888017b7e897f", func := "gooseneck/goosenecklaw08.PermitConflicts", spec := "permitConflicts", unfollowed := true, recurses := true, apart := false }
def PermitConflictsSaid : Prop := permitConflictsRow.holds Try.pinned (OpenSpec.ofChange permitConflictsSpec)

/-- ITS FALSE NEIGHBOUR: 'it returns false'. Refute it at one input. -/
def permitConflictsWrong : ChangeSpec := { name := "permitConflicts", fn := fun _ => fun
  | [d1, d2, d3] => { results := [.lit (.bool false)], args := [d1, d2, d3] }
  | _ => none }
def PermitConflictsWrongFalsely : Prop := permitConflictsRow.holds Try.pinned (OpenSpec.ofChange permitConflictsWrong)

/-- 'goosenecklaw08.PermitCures': WHATEVER THE INPUT: true; the input reads as it did. -/
def permitCuresSpec : ChangeSpec := { name := "permitCures", fn := fun _ => fun
  | [d1, d2, d3] => { results := [.lit (.bool true)], args := [d1, d2, d3] }
  | _ => none }
def permitCuresRow : OpenClaim := { program := "ytaomlmkcifpfkaa", sum := "586904a5f5a094f3a10db2c741a7d1a036b56f6d1679522997c888017b7e897f", func := "gooseneck/goosenecklaw08.PermitCures", spec := "permitCures", unfollowed := true, recurses := true, apart := false }
def PermitCuresSaid : Prop := permitCuresRow.holds Try.pinned (OpenSpec.ofChange permitCuresSpec)

/-- ITS FALSE NEIGHBOUR: 'it returns false'. Refute it at one input. -/
def permitCuresWrong : ChangeSpec := { name := "permitCures", fn := fun _ => fun
  | [d1, d2, d3] => { results := [.lit (.bool false)], args := [d1, d2, d3] }
  | _ => none }
def PermitCuresWrongFalsely : Prop := permitCuresRow.holds Try.pinned (OpenSpec.ofChange permitCuresWrong)

/-- 'goosenecklaw08.PermitWindows': WHATEVER THE INPUT: true; the input reads as it did. -/
def permitWindowsSpec : ChangeSpec := { name := "permitWindows", fn := fun _ => fun
  | [d1, d2, d3, d4, d5, d6] => { results := [.lit (.bool true)], args := [d1, d2, d3, d4, d5, d6] }
  | _ => none }
def permitWindowsRow : OpenClaim := { program := "ytaomlmkcifpfkaa", sum := "586904a5f5a094f3a10db2c741a7d1a036b56f6d1679522997c888017b7e897f", func := "gooseneck/goosenecklaw08.PermitWindows", spec := "permitWindows", unfollowed := true, recurses := true, apart := false }
def PermitWindowsSaid : Prop := permitWindowsRow.holds Try.pinned (OpenSpec.ofChange permitWindowsSpec)

/-- ITS FALSE NEIGHBOUR: 'it returns false'. Refute it at one input. -/
def permitWindowsWrong : ChangeSpec := { name := "permitWindows", fn := fun _ => fun
  | [d1, d2, d3, d4, d5, d6] => { results := [.lit (.bool false)], args := [d1, d2, d3, d4, d5, d6] }
  | _ => none }
def PermitWindowsWrongFalsely : Prop := permitWindowsRow.holds Try.pinned (OpenSpec.ofChange permitWindowsWrong)

/-- 'goosenecklaw08.PermitTimes': WHATEVER THE INPUT: true; the input reads as it did. -/
def permitTimesSpec : ChangeSpec := { name := "permitTimes", fn := fun _ => fun
  | [d1, d2, d3, d4, d5] => { results := [.lit (.bool true)], args := [d1, d2, d3, d4, d5] }
  | _ => none }
def permitTimesRow : OpenClaim := { program := "ytaomlmkcifpfkaa", sum := "586904a5f5a094f3a10db2c741a7d1a036b56f6d1679522997c888017b7e897f", func := "gooseneck/goosenecklaw08.PermitTimes", spec := "permitTimes", unfollowed := true, recurses := true, apart := false }
def PermitTimesSaid : Prop := permitTimesRow.holds Try.pinned (OpenSpec.ofChange permitTimesSpec)

/-- ITS FALSE NEIGHBOUR: 'it returns false'. Refute it at one input. -/
def permitTimesWrong : ChangeSpec := { name := "permitTimes", fn := fun _ => fun
  | [d1, d2, d3, d4, d5] => { results := [.lit (.bool false)], args := [d1, d2, d3, d4, d5] }
  | _ => none }
def PermitTimesWrongFalsely : Prop := permitTimesRow.holds Try.pinned (OpenSpec.ofChange permitTimesWrong)

/-- 'goosenecklaw08.PermitCrosses': WHATEVER THE INPUT: true; the input reads as it did. -/
def permitCrossesSpec : ChangeSpec := { name := "permitCrosses", fn := fun _ => fun
  | [d1, d2, d3, d4, d5] => { results := [.lit (.bool true)], args := [d1, d2, d3, d4, d5] }
  | _ => none }
def permitCrossesRow : OpenClaim := { program := "ytaomlmkcifpfkaa", sum := "586904a5f5a094f3a10db2c741a7d1a036b56f6d1679522997c888017b7e897f", func := "gooseneck/goosenecklaw08.PermitCrosses", spec := "permitCrosses", unfollowed := true, recurses := true, apart := false }
def PermitCrossesSaid : Prop := permitCrossesRow.holds Try.pinned (OpenSpec.ofChange permitCrossesSpec)

/-- ITS FALSE NEIGHBOUR: 'it returns false'. Refute it at one input. -/
def permitCrossesWrong : ChangeSpec := { name := "permitCrosses", fn := fun _ => fun
  | [d1, d2, d3, d4, d5] => { results := [.lit (.bool false)], args := [d1, d2, d3, d4, d5] }
  | _ => none }
def PermitCrossesWrongFalsely : Prop := permitCrossesRow.holds Try.pinned (OpenSpec.ofChange permitCrossesWrong)

/- THE SECOND FORM. 'bulk': how many values and letters a reading holds, each counted each time it is reached (what is shared counts as often as it is met; a slice's spare places count too). A statement '..UptoSaid' is the law's where the arguments, and the package variables that the reading takes, are together of bulk at most 1048576: NARROWER than '..Said'. Prove '..Said' where nothing that the law and all that it calls make is longer than what came in: it says more and counts as full. Else prove '..UptoSaid'. A law counts once. -/
mutual
def uptoBulk {H : Type} : DataW H → Nat
  | .lit (.string bytes) => bytes.length + 1
  | .lit _ => 1
  | .nil => 1
  | .ptr d => uptoBulk d + 1
  | .slice elems spare => uptoBulkAll elems + uptoBulkAll spare + 1
  | .agg parts => uptoBulkAll parts + 1
  | .iface _ d => uptoBulk d + 1
  | .map entries => uptoBulkEntries entries + 1
  | .held _ => 1
def uptoBulkAll {H : Type} : List (DataW H) → Nat
  | [] => 0
  | d :: r => uptoBulk d + uptoBulkAll r
def uptoBulkEntries {H : Type} : List (Lit × DataW H) → Nat
  | [] => 0
  | x :: r => uptoBulkEntry x + uptoBulkEntries r
def uptoBulkEntry {H : Type} : Lit × DataW H → Nat
  | (.string bytes, d) => bytes.length + uptoBulk d + 1
  | (_, d) => uptoBulk d + 1
 end
def uptoSmall : (H : Type) → List (DataW H) → Bool := fun _ ds => decide (uptoBulkAll ds ≤ 1048576)
def OpenSpec.upto (s : _root_.Go.ChangeSpec) : _root_.Go.OpenSpec := { _root_.Go.OpenSpec.ofChange s with cond := some uptoSmall }

/-- 'goosenecklaw08.PermitCompiles', WHERE WHAT IT READS IS OF BULK AT MOST 1048576: true; the input reads as it did. -/
def permitCompilesUptoRow : OpenClaim := { program := "ytaomlmkcifpfkaa", sum := "586904a5f5a094f3a10db2c741a7d1a036b56f6d1679522997c888017b7e897f", func := "gooseneck/goosenecklaw08.PermitCompiles", spec := "permitCompiles", unfollowed := true, recurses := true, apart := false, narrowed := true }
def PermitCompilesUptoSaid : Prop := permitCompilesUptoRow.holds Try.pinned (OpenSpec.upto permitCompilesSpec)

/-- 'goosenecklaw08.PermitNext', WHERE WHAT IT READS IS OF BULK AT MOST 1048576: true; the input reads as it did. -/
def permitNextUptoRow : OpenClaim := { program := "ytaomlmkcifpfkaa", sum := "586904a5f5a094f3a10db2c741a7d1a036b56f6d1679522997c888017b7e897f", func := "gooseneck/goosenecklaw08.PermitNext", spec := "permitNext", unfollowed := true, recurses := true, apart := false, narrowed := true }
def PermitNextUptoSaid : Prop := permitNextUptoRow.holds Try.pinned (OpenSpec.upto permitNextSpec)

/-- 'goosenecklaw08.PermitMinimal', WHERE WHAT IT READS IS OF BULK AT MOST 1048576: true; the input reads as it did. -/
def permitMinimalUptoRow : OpenClaim := { program := "ytaomlmkcifpfkaa", sum := "586904a5f5a094f3a10db2c741a7d1a036b56f6d1679522997c888017b7e897f", func := "gooseneck/goosenecklaw08.PermitMinimal", spec := "permitMinimal", unfollowed := true, recurses := true, apart := false, narrowed := true }
def PermitMinimalUptoSaid : Prop := permitMinimalUptoRow.holds Try.pinned (OpenSpec.upto permitMinimalSpec)

/-- 'goosenecklaw08.PermitMore', WHERE WHAT IT READS IS OF BULK AT MOST 1048576: true; the input reads as it did. -/
def permitMoreUptoRow : OpenClaim := { program := "ytaomlmkcifpfkaa", sum := "586904a5f5a094f3a10db2c741a7d1a036b56f6d1679522997c888017b7e897f", func := "gooseneck/goosenecklaw08.PermitMore", spec := "permitMore", unfollowed := true, recurses := true, apart := false, narrowed := true }
def PermitMoreUptoSaid : Prop := permitMoreUptoRow.holds Try.pinned (OpenSpec.upto permitMoreSpec)

/-- 'goosenecklaw08.PermitConflicts', WHERE WHAT IT READS IS OF BULK AT MOST 1048576: true; the input reads as it did. -/
def permitConflictsUptoRow : OpenClaim := { program := "ytaomlmkcifpfkaa", sum := "586904a5f5a094f3a10db2c741a7d1a036b56f6d1679522997c888017b7e897f", func := "gooseneck/goosenecklaw08.PermitConflicts", spec := "permitConflicts", unfollowed := true, recurses := true, apart := false, narrowed := true }
def PermitConflictsUptoSaid : Prop := permitConflictsUptoRow.holds Try.pinned (OpenSpec.upto permitConflictsSpec)

/-- 'goosenecklaw08.PermitCures', WHERE WHAT IT READS IS OF BULK AT MOST 1048576: true; the input reads as it did. -/
def permitCuresUptoRow : OpenClaim := { program := "ytaomlmkcifpfkaa", sum := "586904a5f5a094f3a10db2c741a7d1a036b56f6d1679522997c888017b7e897f", func := "gooseneck/goosenecklaw08.PermitCures", spec := "permitCures", unfollowed := true, recurses := true, apart := false, narrowed := true }
def PermitCuresUptoSaid : Prop := permitCuresUptoRow.holds Try.pinned (OpenSpec.upto permitCuresSpec)

/-- 'goosenecklaw08.PermitWindows', WHERE WHAT IT READS IS OF BULK AT MOST 1048576: true; the input reads as it did. -/
def permitWindowsUptoRow : OpenClaim := { program := "ytaomlmkcifpfkaa", sum := "586904a5f5a094f3a10db2c741a7d1a036b56f6d1679522997c888017b7e897f", func := "gooseneck/goosenecklaw08.PermitWindows", spec := "permitWindows", unfollowed := true, recurses := true, apart := false, narrowed := true }
def PermitWindowsUptoSaid : Prop := permitWindowsUptoRow.holds Try.pinned (OpenSpec.upto permitWindowsSpec)

/-- 'goosenecklaw08.PermitTimes', WHERE WHAT IT READS IS OF BULK AT MOST 1048576: true; the input reads as it did. -/
def permitTimesUptoRow : OpenClaim := { program := "ytaomlmkcifpfkaa", sum := "586904a5f5a094f3a10db2c741a7d1a036b56f6d1679522997c888017b7e897f", func := "gooseneck/goosenecklaw08.PermitTimes", spec := "permitTimes", unfollowed := true, recurses := true, apart := false, narrowed := true }
def PermitTimesUptoSaid : Prop := permitTimesUptoRow.holds Try.pinned (OpenSpec.upto permitTimesSpec)

/-- 'goosenecklaw08.PermitCrosses', WHERE WHAT IT READS IS OF BULK AT MOST 1048576: true; the input reads as it did. -/
def permitCrossesUptoRow : OpenClaim := { program := "ytaomlmkcifpfkaa", sum := "586904a5f5a094f3a10db2c741a7d1a036b56f6d1679522997c888017b7e897f", func := "gooseneck/goosenecklaw08.PermitCrosses", spec := "permitCrosses", unfollowed := true, recurses := true, apart := false, narrowed := true }
def PermitCrossesUptoSaid : Prop := permitCrossesUptoRow.holds Try.pinned (OpenSpec.upto permitCrossesSpec)

end Rows
end Go.Proofs.Ytaomlmkcifpfkaa
