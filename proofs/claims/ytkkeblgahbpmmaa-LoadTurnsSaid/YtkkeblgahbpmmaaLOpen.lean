
/- How loads among a law's arguments read. -/
import Derived.Test.YtkkeblgahbpmmaaLExAll
import Derived.Test.YtkkeblgahbpmmaaRows
import Derived.ProofKit
import Derived.OpenShut
import Derived.ChangeOld
import Derived.Lib.SmallJoins
import Derived.Deep.Slices
import Derived.Deep.Fields
import Derived.ChangeSame
namespace Go.Proofs.Ytkkeblgahbpmmaa
open Go.ChangeShapes Go.WideShapes Go.ChangeAt Go.RowKit Go.Joins Go.Deep
section
variable {H : Type} {enc : TypeId × Value → H} {w : World} {base : Nat} {spare : Nat → Bool} {held : Bool}
theorem one_int {f : Field} {i : Nat} {k : IntKind} {n : Nat} {cs : List Value} {xs : List (DataW H × List MemPlace)} (ho : f.offset = i) (hc : Try.prog.cellsOf f.type = 1) (ht : Try.prog.underlying f.type = some (.int k)) (hx : i < xs.length)
    (h : DataW.trod enc Try.prog w base spare held n f.type ((cs.drop f.offset).take (Try.prog.cellsOf f.type)) = xs[i]?) : ∃ m, cs[i]? = some (.int k m) := by
  rw [ho, hc, List.getElem?_eq_getElem hx] at h
  obtain ⟨m, e, _⟩ := DataW.trod_int ht h
  refine ⟨m, ?_⟩
  have := congrArg (fun l : List Value => l[0]?) e
  simpa [List.getElem?_take, List.getElem?_drop] using this
theorem one_any {f : Field} {i : Nat} {n : Nat} {cs : List Value} {xs : List (DataW H × List MemPlace)} (ho : f.offset = i) (hc : Try.prog.cellsOf f.type = 1) (hi : i < cs.length) (hx : i < xs.length)
    (h : DataW.trod enc Try.prog w base spare held n f.type ((cs.drop f.offset).take (Try.prog.cellsOf f.type)) = xs[i]?) : ∃ v x, cs[i]? = some v ∧ DataW.trod enc Try.prog w base spare held n f.type [v] = some x := by
  rw [ho, hc, List.getElem?_eq_getElem hx, take1_drop cs i undef hi] at h
  exact ⟨cs.getD i undef, _, by simp [List.getD, List.getElem?_eq_getElem hi], h⟩
theorem list_of {cs ds : List Value} (hl : cs.length = ds.length) (h : ∀ i, i < ds.length → cs[i]? = ds[i]?) : cs = ds := by
  apply List.ext_getElem?
  intro i
  by_cases hi : i < ds.length
  · exact h i hi
  · rw [List.getElem?_eq_none (by omega), List.getElem?_eq_none (by omega)]
set_option maxRecDepth 100000 in
theorem opens_piece : Opens enc Try.prog w base spare held 64 RPiece := by
  intro fuel cs x hx
  obtain ⟨xs, n, _, _, hl, hxl, hf⟩ := DataW.trod_struct Try.underlying64 hx
  have hl2 : cs.length = 7 := hl.trans (by kernel_rfl)
  obtain ⟨x0, e0⟩ := one_int (i := 0) rfl (by kernel_rfl) Try.underlying2 (by rw [hxl]; decide) (hf 0 _ rfl)
  obtain ⟨x1, e1⟩ := one_int (i := 1) rfl (by kernel_rfl) Try.underlying2 (by rw [hxl]; decide) (hf 1 _ rfl)
  obtain ⟨x2, e2⟩ := one_int (i := 2) rfl (by kernel_rfl) Try.underlying2 (by rw [hxl]; decide) (hf 2 _ rfl)
  obtain ⟨x3, e3⟩ := one_int (i := 3) rfl (by kernel_rfl) Try.underlying2 (by rw [hxl]; decide) (hf 3 _ rfl)
  obtain ⟨x4, e4⟩ := one_int (i := 4) rfl (by kernel_rfl) Try.underlying2 (by rw [hxl]; decide) (hf 4 _ rfl)
  obtain ⟨x5, e5⟩ := one_int (i := 5) rfl (by kernel_rfl) Try.underlying2 (by rw [hxl]; decide) (hf 5 _ rfl)
  obtain ⟨x6, e6⟩ := one_int (i := 6) rfl (by kernel_rfl) Try.underlying2 (by rw [hxl]; decide) (hf 6 _ rfl)
  exact ⟨⟨x0, x1, x2, x3, x4, x5, x6⟩, list_of hl2 (fun i hi => by
    match i, hi with
    | 0, _ => exact e0
    | 1, _ => exact e1
    | 2, _ => exact e2
    | 3, _ => exact e3
    | 4, _ => exact e4
    | 5, _ => exact e5
    | 6, _ => exact e6
    | i + 7, h => exact absurd h (by simp [pieceCs]))⟩
set_option maxRecDepth 100000 in
theorem opens_eye : Opens enc Try.prog w base spare held 66 REye := by
  intro fuel cs x hx
  obtain ⟨xs, n, _, _, hl, hxl, hf⟩ := DataW.trod_struct Try.underlying66 hx
  have hl2 : cs.length = 4 := hl.trans (by kernel_rfl)
  obtain ⟨x0, e0⟩ := one_int (i := 0) rfl (by kernel_rfl) Try.underlying2 (by rw [hxl]; decide) (hf 0 _ rfl)
  obtain ⟨x1, e1⟩ := one_int (i := 1) rfl (by kernel_rfl) Try.underlying2 (by rw [hxl]; decide) (hf 1 _ rfl)
  obtain ⟨x2, e2⟩ := one_int (i := 2) rfl (by kernel_rfl) Try.underlying2 (by rw [hxl]; decide) (hf 2 _ rfl)
  obtain ⟨x3, e3⟩ := one_int (i := 3) rfl (by kernel_rfl) Try.underlying2 (by rw [hxl]; decide) (hf 3 _ rfl)
  exact ⟨⟨x0, x1, x2, x3⟩, list_of hl2 (fun i hi => by
    match i, hi with
    | 0, _ => exact e0
    | 1, _ => exact e1
    | 2, _ => exact e2
    | 3, _ => exact e3
    | i + 4, h => exact absurd h (by simp [eyeCs]))⟩
set_option maxRecDepth 100000 in
theorem open_load {r : Reach} {b0 : Nat} {v : Value} {d : DataW H} {p : List MemPlace} (hv : Value.okWide Try.prog w r b0 25 v) (h : DataW.Trod enc Try.prog w base spare held 25 v d p) :
    ∃ (l : LLoad) (vp ve : Value), v = loadV l vp ve ∧ IsLoad w l vp ve := by
  obtain ⟨v0, v1, v2, v3, y0, y1, y2, y3, m, rfl, _, _, h0, h1, h2, h3⟩ := open_agg4 Try.underlying25 (by kernel_rfl) (show Try.prog.cellsOf 25 = 4 from by kernel_rfl) hv h
  obtain ⟨s, e0, _⟩ := DataW.trod_string Try.underlying9 h0
  obtain ⟨lp, vp, e1, hs⟩ := opens_slice Try.underlying22 (show Try.prog.cellsOf 64 = 7 from by kernel_rfl) (by decide) opens_piece _ _ _ h1
  obtain ⟨le, ve, e2, ht⟩ := opens_slice Try.underlying23 (show Try.prog.cellsOf 66 = 4 from by kernel_rfl) (by decide) opens_eye _ _ _ h2
  obtain ⟨x3, e3, _⟩ := DataW.trod_int Try.underlying2 h3
  simp only [List.cons.injEq, and_true] at e0 e1 e2 e3
  subst e0 e1 e2 e3
  exact ⟨⟨s, lp, le, x3⟩, _, _, rfl, ⟨hs, ht⟩⟩
end
end Go.Proofs.Ytkkeblgahbpmmaa
