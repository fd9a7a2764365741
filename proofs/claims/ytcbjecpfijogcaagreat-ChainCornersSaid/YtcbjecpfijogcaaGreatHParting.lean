
/- Directions of points and of hulls, plainly. -/
import Derived.Test.YtcbjecpfijogcaaGreatHullAll
namespace Go.Proofs.YtcbjecpfijogcaaGreat
open Go.RowKit

def dotP (d p : HPt) : Int := d.1 * p.1 + d.2 * p.2
def nxtP (h : List HPt) (i : Nat) : HPt := h.getD ((i + 1) % h.length) (0, 0)
def sdP (h : List HPt) (i : Nat) : HPt := ((nxtP h i).1 - (h.getD i (0, 0)).1, (nxtP h i).2 - (h.getD i (0, 0)).2)
def rdP (s : HPt) : List HPt := [(s.1, s.2), (-s.1, -s.2), (s.2, -s.1), (-s.2, s.1)]
def rdirs (h : List HPt) : List HPt := (List.range h.length).flatMap (fun i => rdP (sdP h i))
def fdP (a b : List HPt) : HPt := ((b.getD 0 (0, 0)).1 - (a.getD 0 (0, 0)).1, (b.getD 0 (0, 0)).2 - (a.getD 0 (0, 0)).2)
def adirs (a b : List HPt) : List HPt := [fdP a b] ++ rdirs a ++ rdirs b
theorem get_mem {h : List HPt} {i : Nat} (hi : i < h.length) : h.getD i (0, 0) ∈ h := by
  rw [getD_lt hi]
  exact List.getElem_mem _
end Go.Proofs.YtcbjecpfijogcaaGreat
