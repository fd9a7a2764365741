
/- How vehicles and poses among a law's arguments read. -/
import Derived.Test.YtcbjecpfijogcaaGreatCLook
namespace Go.Proofs.YtcbjecpfijogcaaGreat
open Go.ChangeShapes Go.WideShapes Go.ChangeAt Go.RowKit Go.Joins Go.Deep
section
variable {H : Type} {enc : TypeId × Value → H} {w : World} {base : Nat} {spare : Nat → Bool} {held : Bool}
theorem one_int {f : Field} {i : Nat} {k : IntKind} {n : Nat} {cs : List Value} {xs : List (DataW H × List MemPlace)} (ho : f.offset = i) (hc : Tryz.prog.cellsOf f.type = 1) (ht : Tryz.prog.underlying f.type = some (.int k)) (hx : i < xs.length)
    (h : DataW.trod enc Tryz.prog w base spare held n f.type ((cs.drop f.offset).take (Tryz.prog.cellsOf f.type)) = xs[i]?) : ∃ m, cs[i]? = some (.int k m) := by
  rw [ho, hc, List.getElem?_eq_getElem hx] at h
  obtain ⟨m, e, _⟩ := DataW.trod_int ht h
  refine ⟨m, ?_⟩
  have := congrArg (fun l : List Value => l[0]?) e
  simpa [List.getElem?_take, List.getElem?_drop] using this
theorem one_any {f : Field} {i : Nat} {n : Nat} {cs : List Value} {xs : List (DataW H × List MemPlace)} (ho : f.offset = i) (hc : Tryz.prog.cellsOf f.type = 1) (hi : i < cs.length) (hx : i < xs.length)
    (h : DataW.trod enc Tryz.prog w base spare held n f.type ((cs.drop f.offset).take (Tryz.prog.cellsOf f.type)) = xs[i]?) : ∃ v x, cs[i]? = some v ∧ DataW.trod enc Tryz.prog w base spare held n f.type [v] = some x := by
  rw [ho, hc, List.getElem?_eq_getElem hx, take1_drop cs i undef hi] at h
  exact ⟨cs.getD i undef, _, by simp [List.getD, List.getElem?_eq_getElem hi], h⟩
theorem list_of {cs ds : List Value} (hl : cs.length = ds.length) (h : ∀ i, i < ds.length → cs[i]? = ds[i]?) : cs = ds := by
  apply List.ext_getElem?
  intro i
  by_cases hi : i < ds.length
  · exact h i hi
  · rw [List.getElem?_eq_none (by omega), List.getElem?_eq_none (by omega)]
set_option maxRecDepth 100000 in
theorem opens_axle : Opens enc Tryz.prog w base spare held 86 RAxle := by
  intro fuel cs x hx
  obtain ⟨xs, n, _, _, hl, hxl, hf⟩ := DataW.trod_struct Tryz.underlying86 hx
  have hl2 : cs.length = 3 := hl.trans (by kernel_rfl)
  obtain ⟨x0, e0⟩ := one_int (i := 0) rfl (by kernel_rfl) Tryz.underlying2 (by rw [hxl]; decide) (hf 0 _ rfl)
  obtain ⟨x1, e1⟩ := one_int (i := 1) rfl (by kernel_rfl) Tryz.underlying2 (by rw [hxl]; decide) (hf 1 _ rfl)
  obtain ⟨x2, e2⟩ := one_int (i := 2) rfl (by kernel_rfl) Tryz.underlying3 (by rw [hxl]; decide) (hf 2 _ rfl)
  exact ⟨⟨x0, x1, x2⟩, list_of hl2 (fun i hi => by
    match i, hi with
    | 0, _ => exact e0
    | 1, _ => exact e1
    | 2, _ => exact e2
    | i + 3, h => exact absurd h (by simp))⟩
set_option maxRecDepth 100000 in
theorem opens_unit : Opens enc Tryz.prog w base spare held 45 RUnit := by
  intro fuel cs x hx
  obtain ⟨xs, n, _, _, hl, hxl, hf⟩ := DataW.trod_struct Tryz.underlying45 hx
  have hl2 : cs.length = 11 := hl.trans (by kernel_rfl)
  obtain ⟨x0, e0⟩ := one_int (i := 0) rfl (by kernel_rfl) Tryz.underlying3 (by rw [hxl]; decide) (hf 0 _ rfl)
  obtain ⟨x1, e1⟩ := one_int (i := 1) rfl (by kernel_rfl) Tryz.underlying2 (by rw [hxl]; decide) (hf 1 _ rfl)
  obtain ⟨x2, e2⟩ := one_int (i := 2) rfl (by kernel_rfl) Tryz.underlying2 (by rw [hxl]; decide) (hf 2 _ rfl)
  obtain ⟨x3, e3⟩ := one_int (i := 3) rfl (by kernel_rfl) Tryz.underlying2 (by rw [hxl]; decide) (hf 3 _ rfl)
  obtain ⟨x4, e4⟩ := one_int (i := 4) rfl (by kernel_rfl) Tryz.underlying2 (by rw [hxl]; decide) (hf 4 _ rfl)
  obtain ⟨x5, e5⟩ := one_int (i := 5) rfl (by kernel_rfl) Tryz.underlying2 (by rw [hxl]; decide) (hf 5 _ rfl)
  obtain ⟨x6, e6⟩ := one_int (i := 6) rfl (by kernel_rfl) Tryz.underlying2 (by rw [hxl]; decide) (hf 6 _ rfl)
  obtain ⟨x7, e7⟩ := one_int (i := 7) rfl (by kernel_rfl) Tryz.underlying2 (by rw [hxl]; decide) (hf 7 _ rfl)
  obtain ⟨x8, e8⟩ := one_int (i := 8) rfl (by kernel_rfl) Tryz.underlying2 (by rw [hxl]; decide) (hf 8 _ rfl)
  obtain ⟨x9, e9⟩ := one_int (i := 9) rfl (by kernel_rfl) Tryz.underlying3 (by rw [hxl]; decide) (hf 9 _ rfl)
  obtain ⟨v, y, e10, hv⟩ := one_any (i := 10) rfl (by kernel_rfl) (by omega) (by rw [hxl]; decide) (hf 10 _ rfl)
  obtain ⟨l, v1, hc, hs⟩ := opens_slice Tryz.underlying43 (show Tryz.prog.cellsOf 86 = 3 from by kernel_rfl) (by decide) opens_axle _ _ _ hv
  obtain rfl : v = v1 := by simpa using hc
  exact ⟨⟨x0, x1, x2, x3, x4, x5, x6, x7, x8, x9, l⟩, v, list_of hl2 (fun i hi => by
    match i, hi with
    | 0, _ => exact e0
    | 1, _ => exact e1
    | 2, _ => exact e2
    | 3, _ => exact e3
    | 4, _ => exact e4
    | 5, _ => exact e5
    | 6, _ => exact e6
    | 7, _ => exact e7
    | 8, _ => exact e8
    | 9, _ => exact e9
    | 10, _ => exact e10
    | i + 11, h => exact absurd h (by simp [unitCs])), hs⟩
set_option maxRecDepth 100000 in
theorem open_veh {r : Reach} {b0 : Nat} {v : Value} {d : DataW H} {p : List MemPlace} (hv : Value.okWide Tryz.prog w r b0 24 v) (h : DataW.Trod enc Tryz.prog w base spare held 24 v d p) :
    ∃ (c : CVeh) (vu : Value), v = vehV c vu ∧ Sl 11 RUnit w vu c.units := by
  obtain ⟨v0, v1, v2, v3, y0, y1, y2, y3, m, rfl, _, _, h0, h1, h2, h3⟩ := open_agg4 Tryz.underlying24 (by kernel_rfl) (show Tryz.prog.cellsOf 24 = 4 from by kernel_rfl) hv h
  obtain ⟨s, e0, _⟩ := DataW.trod_string Tryz.underlying9 h0
  obtain ⟨l, vu, e1, hs⟩ := opens_slice Tryz.underlying22 (show Tryz.prog.cellsOf 45 = 11 from by kernel_rfl) (by decide) opens_unit _ _ _ h1
  obtain ⟨x2, e2, _⟩ := DataW.trod_int Tryz.underlying3 h2
  obtain ⟨x3, e3, _⟩ := DataW.trod_int Tryz.underlying3 h3
  simp only [List.cons.injEq, and_true] at e0 e1 e2 e3
  subst e0 e1 e2 e3
  exact ⟨⟨s, l, x2, x3⟩, _, rfl, hs⟩
set_option maxRecDepth 100000 in
theorem opens_point : Opens enc Tryz.prog w base spare held 26 (fun _ cs (p : Pt) => cs = [.int .i64 p.1, .int .i64 p.2]) := by
  intro fuel cs x hx
  obtain ⟨xs, n, _, _, hl, hxl, hf⟩ := DataW.trod_struct Tryz.underlying26 hx
  have hl2 : cs.length = 2 := hl.trans (by kernel_rfl)
  obtain ⟨x0, e0⟩ := one_int (i := 0) rfl (by kernel_rfl) Tryz.underlying2 (by rw [hxl]; decide) (hf 0 _ rfl)
  obtain ⟨x1, e1⟩ := one_int (i := 1) rfl (by kernel_rfl) Tryz.underlying2 (by rw [hxl]; decide) (hf 1 _ rfl)
  exact ⟨(x0, x1), list_of hl2 (fun i hi => by
    match i, hi with
    | 0, _ => exact e0
    | 1, _ => exact e1
    | i + 2, h => exact absurd h (by simp))⟩
theorem pts_of_sl {W : World} {v : Value} {l : List Pt} (h : Sl 2 (fun _ cs (p : Pt) => cs = [.int .i64 p.1, .int .i64 p.2]) W v l) : Pts W v l := by
  obtain ⟨A, cap, rfl, h1, h2⟩ := h.shape
  cases l with
  | nil => exact .inl ⟨A, cap, rfl, rfl⟩
  | cons a l =>
    obtain ⟨b, off, cs, rfl, _, _⟩ := h.at (i := 0) (x := a) rfl
    refine .inr ⟨b, off, cap, rfl, h1, h2, fun i hi => ?_⟩
    obtain ⟨p, hp⟩ := some_of_lt hi
    obtain ⟨b', off', cs, e, _, hcs, hc⟩ := h.at hp
    simp only [Option.some.injEq, Addr.mk.injEq, and_true] at e
    obtain ⟨rfl, rfl⟩ := e
    have hg : (a :: l).getD i (0, 0) = p := by simp [List.getD, hp]
    rw [hg]
    subst hcs
    exact ⟨hc 0 _ rfl, hc 1 _ rfl⟩
set_option maxRecDepth 100000 in
theorem opens_pts {fuel : Nat} {v : Value} {x : DataW H × List MemPlace} (h : DataW.trod enc Tryz.prog w base spare held fuel 27 [v] = some x) : ∃ l : List Pt, Pts w v l := by
  obtain ⟨l, v1, hc, hs⟩ := opens_slice Tryz.underlying27 (show Tryz.prog.cellsOf 26 = 2 from by kernel_rfl) (by decide) opens_point _ _ _ h
  obtain rfl : v = v1 := by simpa using hc
  exact ⟨l, pts_of_sl hs⟩
set_option maxRecDepth 100000 in
theorem open_pose {r : Reach} {b0 : Nat} {v : Value} {d : DataW H} {p : List MemPlace} (hv : Value.okWide Tryz.prog w r b0 29 v) (h : DataW.Trod enc Tryz.prog w base spare held 29 v d p) :
    ∃ (lead : Pt) (l : List Pt) (vp : Value), v = poseV lead vp ∧ Pts w vp l := by
  obtain ⟨cs, rfl, hsz⟩ := okWide_struct Tryz.underlying29 hv
  obtain ⟨c0, c1, c2, rfl⟩ := array3 (hsz.trans (show Tryz.prog.cellsOf 29 = 3 from by kernel_rfl))
  obtain ⟨fuel, hf⟩ := h
  obtain ⟨xs, n, _, _, _, hxl, hg⟩ := DataW.trod_struct Tryz.underlying29 hf
  obtain ⟨y0, hy0⟩ : ∃ y, xs[0]? = some y := ⟨_, List.getElem?_eq_getElem (by rw [hxl]; decide)⟩
  obtain ⟨y1, hy1⟩ : ∃ y, xs[1]? = some y := ⟨_, List.getElem?_eq_getElem (by rw [hxl]; decide)⟩
  have g0 : DataW.trod enc Tryz.prog w base spare held n 26 [c0, c1] = some y0 := (hg 0 _ rfl).trans hy0
  have g1 : DataW.trod enc Tryz.prog w base spare held n 27 [c2] = some y1 := (hg 1 _ rfl).trans hy1
  obtain ⟨q, hq⟩ := opens_point _ _ _ g0
  obtain ⟨l, hl⟩ := opens_pts g1
  simp only [List.cons.injEq, and_true] at hq
  obtain ⟨rfl, rfl⟩ := hq
  exact ⟨q, l, c2, rfl, hl⟩
end
end Go.Proofs.YtcbjecpfijogcaaGreat
