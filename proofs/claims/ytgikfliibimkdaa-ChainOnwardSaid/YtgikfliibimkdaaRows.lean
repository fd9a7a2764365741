/-
  No cell of these rows narrows 'for every input' (looked for: loops, veiled, ifaces, maps, wideKeys, modest, calm, conditions, laid).
  DERIVED. THE GIVEN ROWS OF THIS SEAT. 6 by the template 'for every input the law returns true; each argument reads behind the call as it read before'; 0 by the template 'total and deterministic' (their statements: YtgikfliibimkdaaTotals.lean).
  GIVEN WITH THE SEED: the statements are not yours to turn. If you find one false, say at which input.
  Laid BY PROGRAM, IN A SANDBOX (cutbox-rows.mjs): the forced cells as the released guide's own fill.sh prints them over the translation 999394d232f9d9f9… (all of the seat's roots in one cut). By AI agents, Wed Nov 11 2026. No macro, syntax, notation, axiom, sorry.
-/
import Derived.Test.YtgikfliibimkdaaChecked
import GoSem.Claim
import GoSem.ClaimJoined
import GoSem.ClaimMapViews
import Derived.JoinedTies
import Derived.KernelRfl
namespace Go.Proofs.Ytgikfliibimkdaa
/- THE CELL 'sum', in the pinned program and in every row, IS THE sha256 OF THE DUMP (.gsa) THAT YtgikfliibimkdaaProg.lean LOADS. Nothing in Lean hashes anything: it is a label: what it is worth is what the hold of that sum in a sandbox is worth. -/
noncomputable def Try.pinned : Pinned := { name := "ytgikfliibimkdaa", sum := "999394d232f9d9f9047259ec4d8fcdc359be68b428ca31facb15d3bfac508df6", checked := Try.checked }
namespace Rows
def none {H : Type} : Left H := { results := [], args := [] }

/-- 'goosenecklaw03.ChainPoses': WHATEVER THE INPUT: true; the input reads as it did. -/
def chainPosesSpec : ChangeSpec := { name := "chainPoses", fn := fun _ => fun
  | [d1, d2, d3, d4, d5, d6, d7] => { results := [.lit (.bool true)], args := [d1, d2, d3, d4, d5, d6, d7] }
  | _ => none }
def chainPosesRow : OpenClaim := { program := "ytgikfliibimkdaa", sum := "999394d232f9d9f9047259ec4d8fcdc359be68b428ca31facb15d3bfac508df6", func := "gooseneck/goosenecklaw03.ChainPoses", spec := "chainPoses", unfollowed := true, recurses := true, apart := false }
def ChainPosesSaid : Prop := chainPosesRow.holds Try.pinned (OpenSpec.ofChange chainPosesSpec)

/-- ITS FALSE NEIGHBOUR: 'it returns false'. Refute it at one input. -/
def chainPosesWrong : ChangeSpec := { name := "chainPoses", fn := fun _ => fun
  | [d1, d2, d3, d4, d5, d6, d7] => { results := [.lit (.bool false)], args := [d1, d2, d3, d4, d5, d6, d7] }
  | _ => none }
def ChainPosesWrongFalsely : Prop := chainPosesRow.holds Try.pinned (OpenSpec.ofChange chainPosesWrong)

/-- 'goosenecklaw03.ChainBars': WHATEVER THE INPUT: true; the input reads as it did. -/
def chainBarsSpec : ChangeSpec := { name := "chainBars", fn := fun _ => fun
  | [d1, d2, d3, d4] => { results := [.lit (.bool true)], args := [d1, d2, d3, d4] }
  | _ => none }
def chainBarsRow : OpenClaim := { program := "ytgikfliibimkdaa", sum := "999394d232f9d9f9047259ec4d8fcdc359be68b428ca31facb15d3bfac508df6", func := "gooseneck/goosenecklaw03.ChainBars", spec := "chainBars", unfollowed := true, recurses := true, apart := false }
def ChainBarsSaid : Prop := chainBarsRow.holds Try.pinned (OpenSpec.ofChange chainBarsSpec)

/-- ITS FALSE NEIGHBOUR: 'it returns false'. Refute it at one input. -/
def chainBarsWrong : ChangeSpec := { name := "chainBars", fn := fun _ => fun
  | [d1, d2, d3, d4] => { results := [.lit (.bool false)], args := [d1, d2, d3, d4] }
  | _ => none }
def ChainBarsWrongFalsely : Prop := chainBarsRow.holds Try.pinned (OpenSpec.ofChange chainBarsWrong)

/-- 'goosenecklaw03.ChainSteps': WHATEVER THE INPUT: true; the input reads as it did. -/
def chainStepsSpec : ChangeSpec := { name := "chainSteps", fn := fun _ => fun
  | [d1, d2, d3, d4] => { results := [.lit (.bool true)], args := [d1, d2, d3, d4] }
  | _ => none }
def chainStepsRow : OpenClaim := { program := "ytgikfliibimkdaa", sum := "999394d232f9d9f9047259ec4d8fcdc359be68b428ca31facb15d3bfac508df6", func := "gooseneck/goosenecklaw03.ChainSteps", spec := "chainSteps", unfollowed := true, recurses := true, apart := false }
def ChainStepsSaid : Prop := chainStepsRow.holds Try.pinned (OpenSpec.ofChange chainStepsSpec)

/-- ITS FALSE NEIGHBOUR: 'it returns false'. Refute it at one input. -/
def chainStepsWrong : ChangeSpec := { name := "chainSteps", fn := fun _ => fun
  | [d1, d2, d3, d4] => { results := [.lit (.bool false)], args := [d1, d2, d3, d4] }
  | _ => none }
def ChainStepsWrongFalsely : Prop := chainStepsRow.holds Try.pinned (OpenSpec.ofChange chainStepsWrong)

/-- 'goosenecklaw03.ChainAhead': WHATEVER THE INPUT: true; the input reads as it did. -/
def chainAheadSpec : ChangeSpec := { name := "chainAhead", fn := fun _ => fun
  | [d1, d2, d3] => { results := [.lit (.bool true)], args := [d1, d2, d3] }
  | _ => none }
def chainAheadRow : OpenClaim := { program := "ytgikfliibimkdaa", sum := "999394d232f9d9f9047259ec4d8fcdc359be68b428ca31facb15d3bfac508df6", func := "gooseneck/goosenecklaw03.ChainAhead", spec := "chainAhead", unfollowed := true, recurses := true, apart := false }
def ChainAheadSaid : Prop := chainAheadRow.holds Try.pinned (OpenSpec.ofChange chainAheadSpec)

/-- ITS FALSE NEIGHBOUR: 'it returns false'. Refute it at one input. -/
def chainAheadWrong : ChangeSpec := { name := "chainAhead", fn := fun _ => fun
  | [d1, d2, d3] => { results := [.lit (.bool false)], args := [d1, d2, d3] }
  | _ => none }
def ChainAheadWrongFalsely : Prop := chainAheadRow.holds Try.pinned (OpenSpec.ofChange chainAheadWrong)

/-- 'goosenecklaw03.ChainFollows': WHATEVER THE INPUT: true; the input reads as it did. -/
def chainFollowsSpec : ChangeSpec := { name := "chainFollows", fn := fun _ => fun
  | [d1, d2, d3, d4, d5, d6] => { results := [.lit (.bool true)], args := [d1, d2, d3, d4, d5, d6] }
  | _ => none }
def chainFollowsRow : OpenClaim := { program := "ytgikfliibimkdaa", sum := "999394d232f9d9f9047259ec4d8fcdc359be68b428ca31facb15d3bfac508df6", func := "gooseneck/goosenecklaw03.ChainFollows", spec := "chainFollows", unfollowed := true, recurses := true, apart := false }
def ChainFollowsSaid : Prop := chainFollowsRow.holds Try.pinned (OpenSpec.ofChange chainFollowsSpec)

/-- ITS FALSE NEIGHBOUR: 'it returns false'. Refute it at one input. -/
def chainFollowsWrong : ChangeSpec := { name := "chainFollows", fn := fun _ => fun
  | [d1, d2, d3, d4, d5, d6] => { results := [.lit (.bool false)], args := [d1, d2, d3, d4, d5, d6] }
  | _ => none }
def ChainFollowsWrongFalsely : Prop := chainFollowsRow.holds Try.pinned (OpenSpec.ofChange chainFollowsWrong)

/-- 'goosenecklaw03.ChainOnward': WHATEVER THE INPUT: true; the input reads as it did. -/
def chainOnwardSpec : ChangeSpec := { name := "chainOnward", fn := fun _ => fun
  | [d1, d2, d3, d4, d5, d6] => { results := [.lit (.bool true)], args := [d1, d2, d3, d4, d5, d6] }
  | _ => none }
def chainOnwardRow : OpenClaim := { program := "ytgikfliibimkdaa", sum := "999394d232f9d9f9047259ec4d8fcdc359be68b428ca31facb15d3bfac508df6", func := "gooseneck/goosenecklaw03.ChainOnward", spec := "chainOnward", unfollowed := true, recurses := true, apart := false }
def ChainOnwardSaid : Prop := chainOnwardRow.holds Try.pinned (OpenSpec.ofChange chainOnwardSpec)

/-- ITS FALSE NEIGHBOUR: 'it returns false'. Refute it at one input. -/
def chainOnwardWrong : ChangeSpec := { name := "chainOnward", fn := fun _ => fun
  | [d1, d2, d3, d4, d5, d6] => { results := [.lit (.bool false)], args := [d1, d2, d3, d4, d5, d6] }
  | _ => none }
def ChainOnwardWrongFalsely : Prop := chainOnwardRow.holds Try.pinned (OpenSpec.ofChange chainOnwardWrong)

/- THE SECOND FORM. 'bulk': how many values and letters a reading holds, each counted each time it is reached (what is shared counts as often as it is met; a slice's spare places count too). A statement '..UptoSaid' is the law's where the arguments, and the package variables that the reading takes, are together of bulk at most 1048576: NARROWER than '..Said'. Prove '..Said' where nothing that the law and all that it calls make is longer than what came in: it says more and counts as full. Else prove '..UptoSaid'. A law counts once. -/
mutual
def uptoBulk {H : Type} : DataW H → Nat
  | .lit (.string bytes) => bytes.length + 1
  | .lit _ => 1
  | .nil => 1
  | .ptr d => uptoBulk d + 1
  | .slice elems spare => uptoBulkAll elems + uptoBulkAll spare + 1
  | .agg parts => uptoBulkAll parts + 1
  | .iface _ d => uptoBulk d + 1
  | .map entries => uptoBulkEntries entries + 1
  | .held _ => 1
def uptoBulkAll {H : Type} : List (DataW H) → Nat
  | [] => 0
  | d :: r => uptoBulk d + uptoBulkAll r
def uptoBulkEntries {H : Type} : List (Lit × DataW H) → Nat
  | [] => 0
  | x :: r => uptoBulkEntry x + uptoBulkEntries r
def uptoBulkEntry {H : Type} : Lit × DataW H → Nat
  | (.string bytes, d) => bytes.length + uptoBulk d + 1
  | (_, d) => uptoBulk d + 1
 end
def uptoSmall : (H : Type) → List (DataW H) → Bool := fun _ ds => decide (uptoBulkAll ds ≤ 1048576)
def OpenSpec.upto (s : _root_.Go.ChangeSpec) : _root_.Go.OpenSpec := { _root_.Go.OpenSpec.ofChange s with cond := some uptoSmall }

/-- 'goosenecklaw03.ChainPoses', WHERE WHAT IT READS IS OF BULK AT MOST 1048576: true; the input reads as it did. -/
def chainPosesUptoRow : OpenClaim := { program := "ytgikfliibimkdaa", sum := "999394d232f9d9f9047259ec4d8fcdc359be68b428ca31facb15d3bfac508df6", func := "gooseneck/goosenecklaw03.ChainPoses", spec := "chainPoses", unfollowed := true, recurses := true, apart := false, narrowed := true }
def ChainPosesUptoSaid : Prop := chainPosesUptoRow.holds Try.pinned (OpenSpec.upto chainPosesSpec)

/-- 'goosenecklaw03.ChainBars', WHERE WHAT IT READS IS OF BULK AT MOST 1048576: true; the input reads as it did. -/
def chainBarsUptoRow : OpenClaim := { program := "ytgikfliibimkdaa", sum := "999394d232f9d9f9047259ec4d8fcdc359be68b428ca31facb15d3bfac508df6", func := "gooseneck/goosenecklaw03.ChainBars", spec := "chainBars", unfollowed := true, recurses := true, apart := false, narrowed := true }
def ChainBarsUptoSaid : Prop := chainBarsUptoRow.holds Try.pinned (OpenSpec.upto chainBarsSpec)

/-- 'goosenecklaw03.ChainSteps', WHERE WHAT IT READS IS OF BULK AT MOST 1048576: true; the input reads as it did. -/
def chainStepsUptoRow : OpenClaim := { program := "ytgikfliibimkdaa", sum := "999394d232f9d9f9047259ec4d8fcdc359be68b428ca31facb15d3bfac508df6", func := "gooseneck/goosenecklaw03.ChainSteps", spec := "chainSteps", unfollowed := true, recurses := true, apart := false, narrowed := true }
def ChainStepsUptoSaid : Prop := chainStepsUptoRow.holds Try.pinned (OpenSpec.upto chainStepsSpec)

/-- 'goosenecklaw03.ChainAhead', WHERE WHAT IT READS IS OF BULK AT MOST 1048576: true; the input reads as it did. -/
def chainAheadUptoRow : OpenClaim := { program := "ytgikfliibimkdaa", sum := "999394d232f9d9f9047259ec4d8fcdc359be68b428ca31facb15d3bfac508df6", func := "gooseneck/goosenecklaw03.ChainAhead", spec := "chainAhead", unfollowed := true, recurses := true, apart := false, narrowed := true }
def ChainAheadUptoSaid : Prop := chainAheadUptoRow.holds Try.pinned (OpenSpec.upto chainAheadSpec)

/-- 'goosenecklaw03.ChainFollows', WHERE WHAT IT READS IS OF BULK AT MOST 1048576: true; the input reads as it did. -/
def chainFollowsUptoRow : OpenClaim := { program := "ytgikfliibimkdaa", sum := "999394d232f9d9f9047259ec4d8fcdc359be68b428ca31facb15d3bfac508df6", func := "gooseneck/goosenecklaw03.ChainFollows", spec := "chainFollows", unfollowed := true, recurses := true, apart := false, narrowed := true }
def ChainFollowsUptoSaid : Prop := chainFollowsUptoRow.holds Try.pinned (OpenSpec.upto chainFollowsSpec)

/-- 'goosenecklaw03.ChainOnward', WHERE WHAT IT READS IS OF BULK AT MOST 1048576: true; the input reads as it did. -/
def chainOnwardUptoRow : OpenClaim := { program := "ytgikfliibimkdaa", sum := "999394d232f9d9f9047259ec4d8fcdc359be68b428ca31facb15d3bfac508df6", func := "gooseneck/goosenecklaw03.ChainOnward", spec := "chainOnward", unfollowed := true, recurses := true, apart := false, narrowed := true }
def ChainOnwardUptoSaid : Prop := chainOnwardUptoRow.holds Try.pinned (OpenSpec.upto chainOnwardSpec)

end Rows
end Go.Proofs.Ytgikfliibimkdaa
