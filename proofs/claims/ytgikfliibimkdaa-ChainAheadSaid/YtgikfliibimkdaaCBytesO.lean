/- How slices of bytes among a law's arguments read. -/
import Derived.Test.YtgikfliibimkdaaCOpen
import Derived.Test.YtgikfliibimkdaaCAheadLaw
import Derived.OpenShut
namespace Go.Proofs.Ytgikfliibimkdaa
open Go.ChangeShapes Go.WideShapes Go.ChangeAt Go.RowKit Go.Joins Go.Deep
section
variable {H : Type} {enc : TypeId × Value → H} {w : World} {base : Nat} {spare : Nat → Bool} {held : Bool}
set_option maxRecDepth 100000 in
theorem opens_byte : Opens enc Try.prog w base spare held 5 RByte := by
  intro fuel cs x hx
  obtain ⟨m, e, _, hw⟩ := DataW.trod_int Try.underlying5 hx
  exact ⟨m, e, bounds_u8 hw⟩
set_option maxRecDepth 100000 in
theorem opens_bytes {fuel : Nat} {v : Value} {x : DataW H × List MemPlace} (h : DataW.trod enc Try.prog w base spare held fuel 50 [v] = some x) : ∃ l : List Int, Sl 1 RByte w v l := by
  obtain ⟨l, v1, hc, hs⟩ := opens_slice Try.underlying50 (show Try.prog.cellsOf 5 = 1 from by kernel_rfl) (by decide) opens_byte _ _ _ h
  obtain rfl : v = v1 := by simpa using hc
  exact ⟨l, hs⟩
end
end Go.Proofs.Ytgikfliibimkdaa
