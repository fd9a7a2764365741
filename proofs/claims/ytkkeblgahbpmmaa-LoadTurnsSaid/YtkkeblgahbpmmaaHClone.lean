
/- slices.Clone at points: a row of the call's own that the sort can take. -/
import Derived.Test.YtkkeblgahbpmmaaHOwn
import Derived.Test.YtkkeblgahbpmmaaHVals
import Derived.Test.YtkkeblgahbpmmaaHull4
import Derived.Lib.OwnBridge
import Derived.Lib.AppendIntMem
namespace Go.Proofs.Ytkkeblgahbpmmaa
open Go.RowKit Go.Shelf Go.Lib Go.Sort

theorem clone_c (b off c : Nat) (l : List HPt) (w : World) (hc : PtCells w b off l) (hn : l.length ≤ 1000000) :
    Calls Try.prog 84 #[.slice (some ⟨b, off, none⟩) l.length c] w fun e w' => ∃ v', e = .returned v' ∧ OwnP w.heap.size w' v' l ∧ v' ≠ .slice none 0 0 ∧ Ext w w' := by
  have hip := infoPoint
  obtain ⟨ip, hi, hi2⟩ := Option.map_eq_some_iff.1 hip
  simp only [Prod.mk.injEq] at hi2
  obtain ⟨hz0, hz1, hz2⟩ := hi2
  have key : ∀ j u, (flatP l)[j]? = some u → w.cell? ⟨b, off + j, none⟩ = some u := by
    intro j u hj
    have hlt : j < l.length * 2 := by rw [← flatP_len]; exact (List.getElem?_eq_some_iff.1 hj).1
    have hp : l[j / 2]? = some l[j / 2] := List.getElem?_eq_getElem (by omega)
    have h2 := flatP_at l (j / 2) _ hp
    have h3 := hc (j / 2) (by omega)
    rw [getD_lt (show j / 2 < l.length by omega)] at h3
    generalize l[j / 2] = q at h2 h3
    rcases (show j = j / 2 * 2 ∨ j = j / 2 * 2 + 1 by omega) with e | e
    · have h4 := h2.1
      rw [← e] at h4
      rw [h4] at hj
      have h5 := h3.1
      rw [← e] at h5
      rw [h5, Option.some.inj hj]
    · have h4 := h2.2
      rw [← e] at h4
      rw [h4] at hj
      have h5 := h3.2
      rw [Nat.add_assoc, ← e] at h5
      rw [h5, Option.some.inj hj]
  have h1 : ∀ u ∈ flatP l, u.oneCell' = true := by
    intro u hu
    simp only [flatP, List.mem_flatMap] at hu
    obtain ⟨p, _, hp⟩ := hu
    simp at hp
    rcases hp with rfl | rfl <;> rfl
  have h := AnyE.slices_Clone Try.lClone ip _ 2 16 hi hz0 hz1 hz2 rfl (by omega) Try.sizeOf52 b off l.length c (flatP l) w (flatP_len l) (by unfold maxLen; omega) (by omega) key h1
  exact h
/-- a row of the call's own is what the sort takes -/
theorem OwnP.holds {base : Nat} {w : World} {g cap : Nat} {l : List HPt} (h : OwnP base w (.slice (some ⟨g, 0, none⟩) l.length cap) l) : HoldsK encP 2 w g 0 l.toArray := by
  intro j hj
  rw [size_flatK, List.size_toArray] at hj
  rcases h.2 with ⟨h0, _⟩ | ⟨g', cap', cur, e, hb, hg, hc, hc2, hcs, ht⟩
  · cases h0
  · have ho := h
    simp only [Value.slice.injEq, Option.some.injEq, Addr.mk.injEq, and_true] at e
    obtain ⟨rfl, _, rfl⟩ := e
    have hp : l[j / 2]? = some l[j / 2] := List.getElem?_eq_getElem (by omega)
    have h2 := flatP_at l (j / 2) _ hp
    have hgt : l.toArray[j / 2]! = l[j / 2] := by rw [getElem!_def, List.getElem?_toArray, hp]
    have hf := World.ownsRow.frozenAt h j
    have hcell := World.ownsRow.cellAt h j hj
    rw [get_flatK _ _ _ _ (by simpa using hj), hgt, Nat.zero_add]
    refine ⟨?_, hf⟩
    rw [hcell]
    rcases (show j % 2 = 0 ∨ j % 2 = 1 by omega) with e | e
    · rw [e]
      have := h2.1
      rw [show j / 2 * 2 = j by omega] at this
      exact this
    · rw [e]
      have := h2.2
      rw [show j / 2 * 2 + 1 = j by omega] at this
      exact this

theorem ext_putRow {w0 w : World} {g q : Nat} {F : Array Value} (h : Ext w0 w) (hg : w0.heap.size ≤ g) : Ext w0 (putRow id (Sort.ahead w q) g 0 F) := below_putRow h hg
theorem ext_grow {w0 w : World} (h : Ext w0 w) (os : Array Obj) : Ext w0 (grow w os) := Ext.trans h (by
  have := below_grow w.heap.size w (Nat.le_refl _) 0 os
  exact this)
theorem ext_sortWorldK {w0 w : World} {g n : Nat} {d : Array HPt} {os : Array Obj} (h : Ext w0 w) (hg : w0.heap.size ≤ g) : Ext w0 (sortWorldK encP 2 w g 0 n d os) := ext_grow (ext_putRow h hg) os
/-- what the sort leaves is what Compact takes -/
theorem holds_sort {w : World} {g n : Nat} {l d : List HPt} {os : Array Obj} (hH : HoldsK encP 2 w g 0 l.toArray) (hg : g < w.heap.size) (hl : d.length = l.length) : HoldsK encP 2 (sortWorldK encP 2 w g 0 n d.toArray os) g 0 d.toArray :=
  holdsK_sortWorldK_c encP 2 w g 0 l.toArray d.toArray n os hH hg (by simp [hl])
theorem holds_rev {w : World} {g n : Nat} {l : List HPt} (hH : HoldsK encP 2 w g 0 l.toArray) : HoldsK encP 2 (putRowK encP 2 (Sort.ahead w n) g 0 l.reverse.toArray) g 0 l.reverse.toArray :=
  holdsK_putRowK encP 2 _ g 0 l.toArray l.reverse.toArray (holdsK_ahead encP 2 w n g 0 _ hH) (by simp)
/-- a row of points reads as a list -/
theorem holds_pts {w : World} {g cap : Nat} {l : List HPt} (h : HoldsK encP 2 w g 0 l.toArray) (hc : l.length ≤ cap) (hl : l.length ≤ 1000000) : Pts w (.slice (some ⟨g, 0, none⟩) l.length cap) l := by
  refine .inr ⟨g, 0, cap, rfl, by omega, hc, fun i hi => ?_⟩
  obtain ⟨⟨c1, _⟩, c2, _⟩ := cellsP h (i := i) (by simpa using hi)
  have hp : l[i]? = some l[i] := List.getElem?_eq_getElem hi
  have hgt : l.toArray[i]! = l[i] := by rw [getElem!_def, List.getElem?_toArray, hp]
  rw [hgt] at c1 c2
  rw [getD_lt hi]
  exact ⟨c1, c2⟩
end Go.Proofs.Ytkkeblgahbpmmaa
