/-
  No cell of these rows narrows 'for every input' (looked for: loops, veiled, ifaces, maps, wideKeys, modest, calm, conditions, laid).
  DERIVED. THE GIVEN ROWS OF THIS SEAT. 5 by the template 'for every input the law returns true; each argument reads behind the call as it read before'; 0 by the template 'total and deterministic' (their statements: YtlndcpjaeoppmaaTotals.lean).
  GIVEN WITH THE SEED: the statements are not yours to turn. If you find one false, say at which input.
  Laid BY PROGRAM, IN A SANDBOX (cutbox-rows.mjs): the forced cells as the released guide's own fill.sh prints them over the translation 313847bb06d907c0… (all of the seat's roots in one cut). By AI agents, Wed Nov 11 2026. No macro, syntax, notation, axiom, sorry.
-/
import Derived.Test.YtlndcpjaeoppmaaChecked
import GoSem.Claim
import GoSem.ClaimJoined
import GoSem.ClaimMapViews
import Derived.JoinedTies
import Derived.KernelRfl
namespace Go.Proofs.Ytlndcpjaeoppmaa
/- THE CELL 'sum', in the pinned program and in every row, IS THE sha256 OF THE DUMP (.gsa) THAT YtlndcpjaeoppmaaProg.lean LOADS. Nothing in Lean hashes anything: it is a label: what it is worth is what the hold of that sum in a sandbox is worth. -/
noncomputable def Try.pinned : Pinned := { name := "ytlndcpjaeoppmaa", sum := "313847bb06d907c0e0297c0b73ededd886acde3c5f555517f00e4f19eff91134", checked := Try.checked }
namespace Rows
def none {H : Type} : Left H := { results := [], args := [] }

/-- 'goosenecklaw01.PlaneLeast': WHATEVER THE INPUT: true; the input reads as it did. -/
def planeLeastSpec : ChangeSpec := { name := "planeLeast", fn := fun _ => fun
  | [d1, d2] => { results := [.lit (.bool true)], args := [d1, d2] }
  | _ => none }
def planeLeastRow : OpenClaim := { program := "ytlndcpjaeoppmaa", sum := "313847bb06d907c0e0297c0b73ededd886acde3c5f555517f00e4f19eff91134", func := "gooseneck/goosenecklaw01.PlaneLeast", spec := "planeLeast", unfollowed := true, recurses := true, apart := false }
def PlaneLeastSaid : Prop := planeLeastRow.holds Try.pinned (OpenSpec.ofChange planeLeastSpec)

/-- ITS FALSE NEIGHBOUR: 'it returns false'. Refute it at one input. -/
def planeLeastWrong : ChangeSpec := { name := "planeLeast", fn := fun _ => fun
  | [d1, d2] => { results := [.lit (.bool false)], args := [d1, d2] }
  | _ => none }
def PlaneLeastWrongFalsely : Prop := planeLeastRow.holds Try.pinned (OpenSpec.ofChange planeLeastWrong)

/-- 'goosenecklaw01.PlaneHulls': WHATEVER THE INPUT: true; the input reads as it did. -/
def planeHullsSpec : ChangeSpec := { name := "planeHulls", fn := fun _ => fun
  | [d1, d2, d3] => { results := [.lit (.bool true)], args := [d1, d2, d3] }
  | _ => none }
def planeHullsRow : OpenClaim := { program := "ytlndcpjaeoppmaa", sum := "313847bb06d907c0e0297c0b73ededd886acde3c5f555517f00e4f19eff91134", func := "gooseneck/goosenecklaw01.PlaneHulls", spec := "planeHulls", unfollowed := true, recurses := true, apart := false }
def PlaneHullsSaid : Prop := planeHullsRow.holds Try.pinned (OpenSpec.ofChange planeHullsSpec)

/-- ITS FALSE NEIGHBOUR: 'it returns false'. Refute it at one input. -/
def planeHullsWrong : ChangeSpec := { name := "planeHulls", fn := fun _ => fun
  | [d1, d2, d3] => { results := [.lit (.bool false)], args := [d1, d2, d3] }
  | _ => none }
def PlaneHullsWrongFalsely : Prop := planeHullsRow.holds Try.pinned (OpenSpec.ofChange planeHullsWrong)

/-- 'goosenecklaw01.PlaneMeets': WHATEVER THE INPUT: true; the input reads as it did. -/
def planeMeetsSpec : ChangeSpec := { name := "planeMeets", fn := fun _ => fun
  | [d1, d2, d3] => { results := [.lit (.bool true)], args := [d1, d2, d3] }
  | _ => none }
def planeMeetsRow : OpenClaim := { program := "ytlndcpjaeoppmaa", sum := "313847bb06d907c0e0297c0b73ededd886acde3c5f555517f00e4f19eff91134", func := "gooseneck/goosenecklaw01.PlaneMeets", spec := "planeMeets", unfollowed := true, recurses := true, apart := false }
def PlaneMeetsSaid : Prop := planeMeetsRow.holds Try.pinned (OpenSpec.ofChange planeMeetsSpec)

/-- ITS FALSE NEIGHBOUR: 'it returns false'. Refute it at one input. -/
def planeMeetsWrong : ChangeSpec := { name := "planeMeets", fn := fun _ => fun
  | [d1, d2, d3] => { results := [.lit (.bool false)], args := [d1, d2, d3] }
  | _ => none }
def PlaneMeetsWrongFalsely : Prop := planeMeetsRow.holds Try.pinned (OpenSpec.ofChange planeMeetsWrong)

/-- 'goosenecklaw01.PlaneGaps': WHATEVER THE INPUT: true; the input reads as it did. -/
def planeGapsSpec : ChangeSpec := { name := "planeGaps", fn := fun _ => fun
  | [d1, d2, d3, d4] => { results := [.lit (.bool true)], args := [d1, d2, d3, d4] }
  | _ => none }
def planeGapsRow : OpenClaim := { program := "ytlndcpjaeoppmaa", sum := "313847bb06d907c0e0297c0b73ededd886acde3c5f555517f00e4f19eff91134", func := "gooseneck/goosenecklaw01.PlaneGaps", spec := "planeGaps", unfollowed := true, recurses := true, apart := false }
def PlaneGapsSaid : Prop := planeGapsRow.holds Try.pinned (OpenSpec.ofChange planeGapsSpec)

/-- ITS FALSE NEIGHBOUR: 'it returns false'. Refute it at one input. -/
def planeGapsWrong : ChangeSpec := { name := "planeGaps", fn := fun _ => fun
  | [d1, d2, d3, d4] => { results := [.lit (.bool false)], args := [d1, d2, d3, d4] }
  | _ => none }
def PlaneGapsWrongFalsely : Prop := planeGapsRow.holds Try.pinned (OpenSpec.ofChange planeGapsWrong)

/-- 'goosenecklaw01.PlaneParts': WHATEVER THE INPUT: true; the input reads as it did. -/
def planePartsSpec : ChangeSpec := { name := "planeParts", fn := fun _ => fun
  | [d1, d2, d3, d4] => { results := [.lit (.bool true)], args := [d1, d2, d3, d4] }
  | _ => none }
def planePartsRow : OpenClaim := { program := "ytlndcpjaeoppmaa", sum := "313847bb06d907c0e0297c0b73ededd886acde3c5f555517f00e4f19eff91134", func := "gooseneck/goosenecklaw01.PlaneParts", spec := "planeParts", unfollowed := true, recurses := true, apart := false }
def PlanePartsSaid : Prop := planePartsRow.holds Try.pinned (OpenSpec.ofChange planePartsSpec)

/-- ITS FALSE NEIGHBOUR: 'it returns false'. Refute it at one input. -/
def planePartsWrong : ChangeSpec := { name := "planeParts", fn := fun _ => fun
  | [d1, d2, d3, d4] => { results := [.lit (.bool false)], args := [d1, d2, d3, d4] }
  | _ => none }
def PlanePartsWrongFalsely : Prop := planePartsRow.holds Try.pinned (OpenSpec.ofChange planePartsWrong)

/- THE SECOND FORM. 'bulk': how many values and letters a reading holds, each counted each time it is reached (what is shared counts as often as it is met; a slice's spare places count too). A statement '..UptoSaid' is the law's where the arguments, and the package variables that the reading takes, are together of bulk at most 1048576: NARROWER than '..Said'. Prove '..Said' where nothing that the law and all that it calls make is longer than what came in: it says more and counts as full. Else prove '..UptoSaid'. A law counts once. -/
mutual
def uptoBulk {H : Type} : DataW H → Nat
  | .lit (.string bytes) => bytes.length + 1
  | .lit _ => 1
  | .nil => 1
  | .ptr d => uptoBulk d + 1
  | .slice elems spare => uptoBulkAll elems + uptoBulkAll spare + 1
  | .agg parts => uptoBulkAll parts + 1
  | .iface _ d => uptoBulk d + 1
  | .map entries => uptoBulkEntries entries + 1
  | .held _ => 1
def uptoBulkAll {H : Type} : List (DataW H) → Nat
  | [] => 0
  | d :: r => uptoBulk d + uptoBulkAll r
def uptoBulkEntries {H : Type} : List (Lit × DataW H) → Nat
  | [] => 0
  | x :: r => uptoBulkEntry x + uptoBulkEntries r
def uptoBulkEntry {H : Type} : Lit × DataW H → Nat
  | (.string bytes, d) => bytes.length + uptoBulk d + 1
  | (_, d) => uptoBulk d + 1
 end
def uptoSmall : (H : Type) → List (DataW H) → Bool := fun _ ds => decide (uptoBulkAll ds ≤ 1048576)
def OpenSpec.upto (s : _root_.Go.ChangeSpec) : _root_.Go.OpenSpec := { _root_.Go.OpenSpec.ofChange s with cond := some uptoSmall }

/-- 'goosenecklaw01.PlaneLeast', WHERE WHAT IT READS IS OF BULK AT MOST 1048576: true; the input reads as it did. -/
def planeLeastUptoRow : OpenClaim := { program := "ytlndcpjaeoppmaa", sum := "313847bb06d907c0e0297c0b73ededd886acde3c5f555517f00e4f19eff91134", func := "gooseneck/goosenecklaw01.PlaneLeast", spec := "planeLeast", unfollowed := true, recurses := true, apart := false, narrowed := true }
def PlaneLeastUptoSaid : Prop := planeLeastUptoRow.holds Try.pinned (OpenSpec.upto planeLeastSpec)

/-- 'goosenecklaw01.PlaneHulls', WHERE WHAT IT READS IS OF BULK AT MOST 1048576: true; the input reads as it did. -/
def planeHullsUptoRow : OpenClaim := { program := "ytlndcpjaeoppmaa", sum := "313847bb06d907c0e0297c0b73ededd886acde3c5f555517f00e4f19eff91134", func := "gooseneck/goosenecklaw01.PlaneHulls", spec := "planeHulls", unfollowed := true, recurses := true, apart := false, narrowed := true }
def PlaneHullsUptoSaid : Prop := planeHullsUptoRow.holds Try.pinned (OpenSpec.upto planeHullsSpec)

/-- 'goosenecklaw01.PlaneMeets', WHERE WHAT IT READS IS OF BULK AT MOST 1048576: true; the input reads as it did. -/
def planeMeetsUptoRow : OpenClaim := { program := "ytlndcpjaeoppmaa", sum := "313847bb06d907c0e0297c0b73ededd886acde3c5f555517f00e4f19eff91134", func := "gooseneck/goosenecklaw01.PlaneMeets", spec := "planeMeets", unfollowed := true, recurses := true, apart := false, narrowed := true }
def PlaneMeetsUptoSaid : Prop := planeMeetsUptoRow.holds Try.pinned (OpenSpec.upto planeMeetsSpec)

/-- 'goosenecklaw01.PlaneGaps', WHERE WHAT IT READS IS OF BULK AT MOST 1048576: true; the input reads as it did. -/
def planeGapsUptoRow : OpenClaim := { program := "ytlndcpjaeoppmaa", sum := "313847bb06d907c0e0297c0b73ededd886acde3c5f555517f00e4f19eff91134", func := "gooseneck/goosenecklaw01.PlaneGaps", spec := "planeGaps", unfollowed := true, recurses := true, apart := false, narrowed := true }
def PlaneGapsUptoSaid : Prop := planeGapsUptoRow.holds Try.pinned (OpenSpec.upto planeGapsSpec)

/-- 'goosenecklaw01.PlaneParts', WHERE WHAT IT READS IS OF BULK AT MOST 1048576: true; the input reads as it did. -/
def planePartsUptoRow : OpenClaim := { program := "ytlndcpjaeoppmaa", sum := "313847bb06d907c0e0297c0b73ededd886acde3c5f555517f00e4f19eff91134", func := "gooseneck/goosenecklaw01.PlaneParts", spec := "planeParts", unfollowed := true, recurses := true, apart := false, narrowed := true }
def PlanePartsUptoSaid : Prop := planePartsUptoRow.holds Try.pinned (OpenSpec.upto planePartsSpec)

end Rows
end Go.Proofs.Ytlndcpjaeoppmaa
