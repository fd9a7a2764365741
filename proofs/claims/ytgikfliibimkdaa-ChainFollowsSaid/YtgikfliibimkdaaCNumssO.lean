/- How slices of slices of numbers among a law's arguments read. -/
import Derived.Test.YtgikfliibimkdaaCNumsO
import Derived.Test.YtgikfliibimkdaaCFolS
namespace Go.Proofs.Ytgikfliibimkdaa
open Go.ChangeShapes Go.WideShapes Go.ChangeAt Go.RowKit Go.Joins Go.Deep
section
variable {H : Type} {enc : TypeId × Value → H} {w : World} {base : Nat} {spare : Nat → Bool} {held : Bool}
set_option maxRecDepth 100000 in
theorem opens_row : Opens enc Try.prog w base spare held 42 RNums := by
  intro fuel cs x hx
  obtain ⟨l, v1, hc, hs⟩ := opens_slice Try.underlying42 (show Try.prog.cellsOf 3 = 1 from by kernel_rfl) (by decide) opens_num _ _ _ hx
  exact ⟨l, v1, hc, hs⟩
set_option maxRecDepth 100000 in
theorem opens_numss {fuel : Nat} {v : Value} {x : DataW H × List MemPlace} (h : DataW.trod enc Try.prog w base spare held fuel 56 [v] = some x) : ∃ l : List (List Int), Sl 1 RNums w v l := by
  obtain ⟨l, v1, hc, hs⟩ := opens_slice Try.underlying56 (show Try.prog.cellsOf 42 = 1 from by kernel_rfl) (by decide) opens_row _ _ _ h
  obtain rfl : v = v1 := by simpa using hc
  exact ⟨l, hs⟩
end
end Go.Proofs.Ytgikfliibimkdaa
