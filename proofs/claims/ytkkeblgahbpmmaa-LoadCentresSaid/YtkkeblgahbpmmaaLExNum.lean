
/- The numbers of the Example: its reach, what is needed, and what proves it. -/
import Derived.Test.YtkkeblgahbpmmaaLProvAll
import Derived.Test.YtkkeblgahbpmmaaLExam
namespace Go.Proofs.Ytkkeblgahbpmmaa
open Go.RowKit

def exHull : List HPt := [(-1500, 0), (-1060, -1060), (0, -1500), (1060, -1060), (1500, 0), (1060, 1060), (0, 1500), (-1060, 1060)]
theorem ex_fric : fricL 5000 300 0 0 = [(1500, 0), (1060, 1060), (0, 1500), (-1060, 1060), (-1500, 0), (-1060, -1060), (0, -1500), (1060, -1060)] := by decide
set_option maxRecDepth 100000 in
theorem ex_hull : cornersP (fricL 5000 300 0 0) = exHull := by rw [ex_fric]; decide
theorem ex_mass : massN exampleL.pieces = 5000 := by decide
theorem ex_force : (5000 * 1000 : Int).tdiv 1000 = 5000 := by decide
theorem ex_need : needP 5000 301 0 = (1505, 0) ∧ needP 5000 300 0 = (1500, 0) := by decide
theorem ex_out : containsB exHull 1505 0 1 = false := by decide
theorem ex_in : containsB exHull 1500 0 1 = true := by decide
theorem ex_idx : idxP (fun n => provesB exHull (1505, 0) n) (nrmL (edgesP exHull)) = 3 ∧ (nrmL (edgesP exHull))[3]? = some (1060, -440) := by decide
theorem ex_ok : loadE exampleL = 0 := by decide
theorem ex_cen : cenI 5000 (momX exampleL.pieces) = 900 ∧ cenI 5000 (momY exampleL.pieces) = 500 ∧ cenI 5000 (momZ exampleL.pieces) = 650 := by decide
end Go.Proofs.Ytkkeblgahbpmmaa
