
/- slices.Values at points: the iterator that it makes. -/
import Derived.Test.YtlndcpjaeoppmaaHClone
namespace Go.Proofs.Ytlndcpjaeoppmaa
open Go.RowKit Go.Shelf Go.Lib Go.Sort

set_option maxHeartbeats 800000 in
theorem Values_c (a : Option Addr) (n c : Nat) (w : World) :
    Calls Try.prog 61 #[.slice a n c] w fun e w' => e = .returned (.func (.func 76) #[] #[.pointer (some ⟨w.heap.size, 0, none⟩)]) ∧ w' = w.alloc (.cells #[.slice a n c] 23) := by
  go_enter Try.func61, Try.ntmps61
  go_wp2
  go_ret
  exact ⟨rfl, rfl⟩
end Go.Proofs.Ytlndcpjaeoppmaa
