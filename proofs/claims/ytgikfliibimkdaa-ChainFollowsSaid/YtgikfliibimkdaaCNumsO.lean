/- How slices of numbers among a law's arguments read. -/
import Derived.Test.YtgikfliibimkdaaCOpen
import Derived.Test.YtgikfliibimkdaaCSteer
import Derived.OpenShut
namespace Go.Proofs.Ytgikfliibimkdaa
open Go.ChangeShapes Go.WideShapes Go.ChangeAt Go.RowKit Go.Joins Go.Deep
section
variable {H : Type} {enc : TypeId × Value → H} {w : World} {base : Nat} {spare : Nat → Bool} {held : Bool}
set_option maxRecDepth 100000 in
theorem opens_num : Opens enc Try.prog w base spare held 3 RNum := by
  intro fuel cs x hx
  obtain ⟨m, e, _, hw⟩ := DataW.trod_int Try.underlying3 hx
  exact ⟨m, e, bounds_i64 hw⟩
set_option maxRecDepth 100000 in
theorem opens_nums {fuel : Nat} {v : Value} {x : DataW H × List MemPlace} (h : DataW.trod enc Try.prog w base spare held fuel 42 [v] = some x) : ∃ l : List Int, Sl 1 RNum w v l := by
  obtain ⟨l, v1, hc, hs⟩ := opens_slice Try.underlying42 (show Try.prog.cellsOf 3 = 1 from by kernel_rfl) (by decide) opens_num _ _ _ h
  obtain rfl : v = v1 := by simpa using hc
  exact ⟨l, hs⟩
end
end Go.Proofs.Ytgikfliibimkdaa
