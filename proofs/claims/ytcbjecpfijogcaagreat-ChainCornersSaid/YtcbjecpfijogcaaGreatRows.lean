/-
  No cell of these rows narrows 'for every input' (looked for: loops, veiled, ifaces, maps, wideKeys, modest, calm, conditions, laid).
  DERIVED. THE GIVEN ROWS OF THIS SEAT. 2 by the template 'for every input the law returns true; each argument reads behind the call as it read before'; 0 by the template 'total and deterministic' (their statements: YtcbjecpfijogcaaGreatTotals.lean).
  GIVEN WITH THE SEED: the statements are not yours to turn. If you find one false, say at which input.
  Laid BY PROGRAM, IN A SANDBOX (cutbox-rows.mjs): the forced cells as the released guide's own fill.sh prints them over the translation d0c5e3eb9b35d0ec… (all of the seat's roots in one cut). By AI agents, Wed Nov 11 2026. No macro, syntax, notation, axiom, sorry.
-/
import Derived.Test.YtcbjecpfijogcaaGreatChecked
import GoSem.Claim
import GoSem.ClaimJoined
import GoSem.ClaimMapViews
import Derived.JoinedTies
import Derived.KernelRfl
namespace Go.Proofs.YtcbjecpfijogcaaGreat
/- THE CELL 'sum', in the pinned program and in every row, IS THE sha256 OF THE DUMP (.gsa) THAT YtcbjecpfijogcaaGreatProg.lean LOADS. Nothing in Lean hashes anything: it is a label: what it is worth is what the hold of that sum in a sandbox is worth. -/
noncomputable def Tryz.pinned : Pinned := { name := "ytcbjecpfijogcaagreat", sum := "d0c5e3eb9b35d0ecc200ce0d7a12f40d5900028dd3c0f73f51df9ff995d2c152", checked := Tryz.checked }
namespace Rows
def none {H : Type} : Left H := { results := [], args := [] }

/-- 'goosenecklaw03.ChainBodies': WHATEVER THE INPUT: true; the input reads as it did. -/
def chainBodiesSpec : ChangeSpec := { name := "chainBodies", fn := fun _ => fun
  | [d1, d2, d3] => { results := [.lit (.bool true)], args := [d1, d2, d3] }
  | _ => none }
def chainBodiesRow : OpenClaim := { program := "ytcbjecpfijogcaagreat", sum := "d0c5e3eb9b35d0ecc200ce0d7a12f40d5900028dd3c0f73f51df9ff995d2c152", func := "gooseneck/goosenecklaw03.ChainBodies", spec := "chainBodies", unfollowed := true, recurses := true, apart := false }
def ChainBodiesSaid : Prop := chainBodiesRow.holds Tryz.pinned (OpenSpec.ofChange chainBodiesSpec)

/-- ITS FALSE NEIGHBOUR: 'it returns false'. Refute it at one input. -/
def chainBodiesWrong : ChangeSpec := { name := "chainBodies", fn := fun _ => fun
  | [d1, d2, d3] => { results := [.lit (.bool false)], args := [d1, d2, d3] }
  | _ => none }
def ChainBodiesWrongFalsely : Prop := chainBodiesRow.holds Tryz.pinned (OpenSpec.ofChange chainBodiesWrong)

/-- 'goosenecklaw03.ChainCorners': WHATEVER THE INPUT: true; the input reads as it did. -/
def chainCornersSpec : ChangeSpec := { name := "chainCorners", fn := fun _ => fun
  | [d1, d2, d3, d4, d5] => { results := [.lit (.bool true)], args := [d1, d2, d3, d4, d5] }
  | _ => none }
def chainCornersRow : OpenClaim := { program := "ytcbjecpfijogcaagreat", sum := "d0c5e3eb9b35d0ecc200ce0d7a12f40d5900028dd3c0f73f51df9ff995d2c152", func := "gooseneck/goosenecklaw03.ChainCorners", spec := "chainCorners", unfollowed := true, recurses := true, apart := false }
def ChainCornersSaid : Prop := chainCornersRow.holds Tryz.pinned (OpenSpec.ofChange chainCornersSpec)

/-- ITS FALSE NEIGHBOUR: 'it returns false'. Refute it at one input. -/
def chainCornersWrong : ChangeSpec := { name := "chainCorners", fn := fun _ => fun
  | [d1, d2, d3, d4, d5] => { results := [.lit (.bool false)], args := [d1, d2, d3, d4, d5] }
  | _ => none }
def ChainCornersWrongFalsely : Prop := chainCornersRow.holds Tryz.pinned (OpenSpec.ofChange chainCornersWrong)

/- THE SECOND FORM. 'bulk': how many values and letters a reading holds, each counted each time it is reached (what is shared counts as often as it is met; a slice's spare places count too). A statement '..UptoSaid' is the law's where the arguments, and the package variables that the reading takes, are together of bulk at most 1048576: NARROWER than '..Said'. Prove '..Said' where nothing that the law and all that it calls make is longer than what came in: it says more and counts as full. Else prove '..UptoSaid'. A law counts once. -/
mutual
def uptoBulk {H : Type} : DataW H → Nat
  | .lit (.string bytes) => bytes.length + 1
  | .lit _ => 1
  | .nil => 1
  | .ptr d => uptoBulk d + 1
  | .slice elems spare => uptoBulkAll elems + uptoBulkAll spare + 1
  | .agg parts => uptoBulkAll parts + 1
  | .iface _ d => uptoBulk d + 1
  | .map entries => uptoBulkEntries entries + 1
  | .held _ => 1
def uptoBulkAll {H : Type} : List (DataW H) → Nat
  | [] => 0
  | d :: r => uptoBulk d + uptoBulkAll r
def uptoBulkEntries {H : Type} : List (Lit × DataW H) → Nat
  | [] => 0
  | x :: r => uptoBulkEntry x + uptoBulkEntries r
def uptoBulkEntry {H : Type} : Lit × DataW H → Nat
  | (.string bytes, d) => bytes.length + uptoBulk d + 1
  | (_, d) => uptoBulk d + 1
 end
def uptoSmall : (H : Type) → List (DataW H) → Bool := fun _ ds => decide (uptoBulkAll ds ≤ 1048576)
def OpenSpec.upto (s : _root_.Go.ChangeSpec) : _root_.Go.OpenSpec := { _root_.Go.OpenSpec.ofChange s with cond := some uptoSmall }

/-- 'goosenecklaw03.ChainBodies', WHERE WHAT IT READS IS OF BULK AT MOST 1048576: true; the input reads as it did. -/
def chainBodiesUptoRow : OpenClaim := { program := "ytcbjecpfijogcaagreat", sum := "d0c5e3eb9b35d0ecc200ce0d7a12f40d5900028dd3c0f73f51df9ff995d2c152", func := "gooseneck/goosenecklaw03.ChainBodies", spec := "chainBodies", unfollowed := true, recurses := true, apart := false, narrowed := true }
def ChainBodiesUptoSaid : Prop := chainBodiesUptoRow.holds Tryz.pinned (OpenSpec.upto chainBodiesSpec)

/-- 'goosenecklaw03.ChainCorners', WHERE WHAT IT READS IS OF BULK AT MOST 1048576: true; the input reads as it did. -/
def chainCornersUptoRow : OpenClaim := { program := "ytcbjecpfijogcaagreat", sum := "d0c5e3eb9b35d0ecc200ce0d7a12f40d5900028dd3c0f73f51df9ff995d2c152", func := "gooseneck/goosenecklaw03.ChainCorners", spec := "chainCorners", unfollowed := true, recurses := true, apart := false, narrowed := true }
def ChainCornersUptoSaid : Prop := chainCornersUptoRow.holds Tryz.pinned (OpenSpec.upto chainCornersSpec)

end Rows
end Go.Proofs.YtcbjecpfijogcaaGreat
