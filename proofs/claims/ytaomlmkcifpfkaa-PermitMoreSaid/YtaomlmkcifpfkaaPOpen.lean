/- How authorities and trips among a law's arguments read. -/
import Derived.Test.YtaomlmkcifpfkaaPBegin
namespace Go.Proofs.Ytaomlmkcifpfkaa
open Go.ChangeShapes Go.WideShapes Go.ChangeAt Go.RowKit Go.Joins Go.Deep
section
variable {H : Type} {enc : TypeId × Value → H} {w : World} {base : Nat} {spare : Nat → Bool} {held : Bool}
theorem field_at {f : Field} {i c : Nat} {n : Nat} {cs : List Value} {xs : List (DataW H × List MemPlace)} (j : Nat) (ho : f.offset = i) (hc : Try.prog.cellsOf f.type = c) (hx : j < xs.length)
    (h : DataW.trod enc Try.prog w base spare held n f.type ((cs.drop f.offset).take (Try.prog.cellsOf f.type)) = xs[j]?) : ∃ x, DataW.trod enc Try.prog w base spare held n f.type ((cs.drop i).take c) = some x := by
  rw [ho, hc, List.getElem?_eq_getElem hx] at h
  exact ⟨_, h⟩
theorem int_of {t : TypeId} {i : Nat} {k : IntKind} {n : Nat} {cs : List Value} {x : DataW H × List MemPlace} (ht : Try.prog.underlying t = some (.int k)) (h : DataW.trod enc Try.prog w base spare held n t ((cs.drop i).take 1) = some x) : ∃ m, cs[i]? = some (.int k m) := by
  obtain ⟨m, e, _⟩ := DataW.trod_int ht h
  refine ⟨m, ?_⟩
  have := congrArg (fun l : List Value => l[0]?) e
  simpa [List.getElem?_take, List.getElem?_drop] using this
theorem bool_of {t : TypeId} {i : Nat} {n : Nat} {cs : List Value} {x : DataW H × List MemPlace} (ht : Try.prog.underlying t = some .bool) (h : DataW.trod enc Try.prog w base spare held n t ((cs.drop i).take 1) = some x) : ∃ m, cs[i]? = some (.bool m) := by
  obtain ⟨m, e, _⟩ := DataW.trod_bool ht h
  refine ⟨m, ?_⟩
  have := congrArg (fun l : List Value => l[0]?) e
  simpa [List.getElem?_take, List.getElem?_drop] using this
theorem str_of {t : TypeId} {i : Nat} {n : Nat} {cs : List Value} {x : DataW H × List MemPlace} (ht : Try.prog.underlying t = some .string) (h : DataW.trod enc Try.prog w base spare held n t ((cs.drop i).take 1) = some x) : ∃ m, cs[i]? = some (.string m) := by
  obtain ⟨m, e, _⟩ := DataW.trod_string ht h
  refine ⟨m, ?_⟩
  have := congrArg (fun l : List Value => l[0]?) e
  simpa [List.getElem?_take, List.getElem?_drop] using this
theorem arr_of {t e : TypeId} {i m : Nat} {k : IntKind} {n : Nat} {cs : List Value} {x : DataW H × List MemPlace} (ht : Try.prog.underlying t = some (.array m e)) (he : Try.prog.underlying e = some (.int k)) (hc : Try.prog.cellsOf e = 1)
    (h : DataW.trod enc Try.prog w base spare held n t ((cs.drop i).take m) = some x) : ∀ j, j < m → ∃ z, cs[i + j]? = some (.int k z) := by
  intro j hj
  obtain ⟨xs, fu, _, _, _, hl, hg⟩ := DataW.trod_array ht h
  have hj' := hg j hj
  rw [hc, List.getElem?_eq_getElem (by omega)] at hj'
  obtain ⟨z, hz⟩ := int_of he hj'
  refine ⟨z, ?_⟩
  rw [List.getElem?_take, List.getElem?_drop] at hz
  rw [Nat.mul_one] at hz
  split at hz
  · exact hz
  · omega
theorem sl_of {α : Type} {t e : TypeId} {i m : Nat} {n : Nat} {cs : List Value} {x : DataW H × List MemPlace} {R : World → List Value → α → Prop} (hi : i < cs.length) (ht : Try.prog.underlying t = some (.slice e)) (hc : Try.prog.cellsOf e = m) (hm : 0 < m) (he : Opens enc Try.prog w base spare held e R)
    (h : DataW.trod enc Try.prog w base spare held n t ((cs.drop i).take 1) = some x) : ∃ v l, cs[i]? = some v ∧ Sl m R w v l := by
  rw [take1_drop cs i undef hi] at h
  obtain ⟨l, v, hv, hs⟩ := opens_slice ht hc hm he _ _ _ h
  simp only [List.cons.injEq, and_true] at hv
  exact ⟨v, l, by rw [← hv]; simp [List.getD, List.getElem?_eq_getElem hi], hs⟩
theorem list_of {cs ds : List Value} (hl : cs.length = ds.length) (h : ∀ i, i < ds.length → cs[i]? = ds[i]?) : cs = ds := by
  apply List.ext_getElem?
  intro i
  by_cases hi : i < ds.length
  · exact h i hi
  · rw [List.getElem?_eq_none (by omega), List.getElem?_eq_none (by omega)]
theorem opens_str : Opens enc Try.prog w base spare held 9 RStr := by
  intro fuel cs x hx
  obtain ⟨s, e, _⟩ := DataW.trod_string Try.underlying9 hx
  exact ⟨s, e⟩
set_option maxRecDepth 100000 in
theorem opens_count : Opens enc Try.prog w base spare held 122 RCount := by
  intro fuel cs x hx
  obtain ⟨xs, n, _, _, hl, hxl, hf⟩ := DataW.trod_struct Try.underlying122 hx
  have hl2 : cs.length = 3 := hl.trans (by kernel_rfl)
  obtain ⟨_, g0⟩ := field_at (i := 0) (c := 1) 0 rfl (by kernel_rfl) (by rw [hxl]; decide) (hf 0 _ rfl)
  obtain ⟨_, g1⟩ := field_at (i := 1) (c := 1) 1 rfl (by kernel_rfl) (by rw [hxl]; decide) (hf 1 _ rfl)
  obtain ⟨_, g2⟩ := field_at (i := 2) (c := 1) 2 rfl (by kernel_rfl) (by rw [hxl]; decide) (hf 2 _ rfl)
  obtain ⟨x0, e0⟩ := str_of Try.underlying9 g0
  obtain ⟨x1, e1⟩ := int_of Try.underlying2 g1
  obtain ⟨x2, e2⟩ := int_of Try.underlying2 g2
  exact ⟨⟨x0, x1, x2⟩, list_of hl2 (fun i hi => by
    match i, hi with
    | 0, _ => exact e0
    | 1, _ => exact e1
    | 2, _ => exact e2
    | i + 3, h => exact absurd h (by simp))⟩
set_option maxRecDepth 100000 in
theorem opens_when : Opens enc Try.prog w base spare held 132 RWhen := by
  intro fuel cs x hx
  obtain ⟨xs, n, _, _, hl, hxl, hf⟩ := DataW.trod_struct Try.underlying132 hx
  have hl2 : cs.length = 2 := hl.trans (by kernel_rfl)
  obtain ⟨_, g0⟩ := field_at (i := 0) (c := 1) 0 rfl (by kernel_rfl) (by rw [hxl]; decide) (hf 0 _ rfl)
  obtain ⟨_, g1⟩ := field_at (i := 1) (c := 1) 1 rfl (by kernel_rfl) (by rw [hxl]; decide) (hf 1 _ rfl)
  obtain ⟨x0, e0⟩ := int_of Try.underlying3 g0
  obtain ⟨x1, e1⟩ := int_of Try.underlying2 g1
  exact ⟨⟨x0, x1⟩, list_of hl2 (fun i hi => by
    match i, hi with
    | 0, _ => exact e0
    | 1, _ => exact e1
    | i + 2, h => exact absurd h (by simp))⟩
set_option maxRecDepth 100000 in
theorem opens_rule : Opens enc Try.prog w base spare held 58 RRule := by
  intro fuel cs x hx
  obtain ⟨xs, n, _, _, hl, hxl, hf⟩ := DataW.trod_struct Try.underlying58 hx
  have hl2 : cs.length = 11 := hl.trans (by kernel_rfl)
  obtain ⟨_, g0⟩ := field_at (i := 0) (c := 1) 0 rfl (by kernel_rfl) (by rw [hxl]; decide) (hf 0 _ rfl)
  obtain ⟨_, g1⟩ := field_at (i := 1) (c := 1) 1 rfl (by kernel_rfl) (by rw [hxl]; decide) (hf 1 _ rfl)
  obtain ⟨_, g2⟩ := field_at (i := 2) (c := 1) 2 rfl (by kernel_rfl) (by rw [hxl]; decide) (hf 2 _ rfl)
  obtain ⟨_, g3⟩ := field_at (i := 3) (c := 2) 3 rfl (by kernel_rfl) (by rw [hxl]; decide) (hf 3 _ rfl)
  obtain ⟨_, g4⟩ := field_at (i := 5) (c := 1) 4 rfl (by kernel_rfl) (by rw [hxl]; decide) (hf 4 _ rfl)
  obtain ⟨_, g5⟩ := field_at (i := 6) (c := 2) 5 rfl (by kernel_rfl) (by rw [hxl]; decide) (hf 5 _ rfl)
  obtain ⟨_, g6⟩ := field_at (i := 8) (c := 1) 6 rfl (by kernel_rfl) (by rw [hxl]; decide) (hf 6 _ rfl)
  obtain ⟨_, g7⟩ := field_at (i := 9) (c := 1) 7 rfl (by kernel_rfl) (by rw [hxl]; decide) (hf 7 _ rfl)
  obtain ⟨_, g8⟩ := field_at (i := 10) (c := 1) 8 rfl (by kernel_rfl) (by rw [hxl]; decide) (hf 8 _ rfl)
  obtain ⟨x0, e0⟩ := str_of Try.underlying9 g0
  obtain ⟨v1, l1, e1, s1⟩ := sl_of (by omega) Try.underlying51 (show Try.prog.cellsOf 9 = 1 from by kernel_rfl) (by decide) opens_str g1
  obtain ⟨v2, l2, e2, s2⟩ := sl_of (by omega) Try.underlying54 (show Try.prog.cellsOf 132 = 2 from by kernel_rfl) (by decide) opens_when g2
  have g3' := arr_of Try.underlying55 Try.underlying2 (show Try.prog.cellsOf 2 = 1 from by kernel_rfl) g3
  obtain ⟨x3, e3⟩ := g3' 0 (by decide)
  obtain ⟨x4, e4⟩ := g3' 1 (by decide)
  obtain ⟨x5, e5⟩ := int_of Try.underlying3 g4
  have g5' := arr_of Try.underlying55 Try.underlying2 (show Try.prog.cellsOf 2 = 1 from by kernel_rfl) g5
  obtain ⟨x6, e6⟩ := g5' 0 (by decide)
  obtain ⟨x7, e7⟩ := g5' 1 (by decide)
  obtain ⟨x8, e8⟩ := bool_of Try.underlying4 g6
  obtain ⟨v9, l9, e9, s9⟩ := sl_of (by omega) Try.underlying56 (show Try.prog.cellsOf 122 = 3 from by kernel_rfl) (by decide) opens_count g7
  obtain ⟨x10, e10⟩ := int_of Try.underlying2 g8
  exact ⟨⟨x0, l1, l2, x3, x4, x5, x6, x7, x8, l9, x10⟩, v1, v2, v9, list_of hl2 (fun i hi => by
    match i, hi with
    | 0, _ => exact e0
    | 1, _ => exact e1
    | 2, _ => exact e2
    | 3, _ => exact e3
    | 4, _ => exact e4
    | 5, _ => exact e5
    | 6, _ => exact e6
    | 7, _ => exact e7
    | 8, _ => exact e8
    | 9, _ => exact e9
    | 10, _ => exact e10
    | i + 11, h => exact absurd h (by simp [ruleCs])), s1, s2, s9⟩
set_option maxRecDepth 100000 in
theorem opens_auth : Opens enc Try.prog w base spare held 64 RAuth := by
  intro fuel cs x hx
  obtain ⟨xs, n, _, _, hl, hxl, hf⟩ := DataW.trod_struct Try.underlying64 hx
  have hl2 : cs.length = 4 := hl.trans (by kernel_rfl)
  obtain ⟨_, g0⟩ := field_at (i := 0) (c := 1) 0 rfl (by kernel_rfl) (by rw [hxl]; decide) (hf 0 _ rfl)
  obtain ⟨_, g1⟩ := field_at (i := 1) (c := 1) 1 rfl (by kernel_rfl) (by rw [hxl]; decide) (hf 1 _ rfl)
  obtain ⟨_, g2⟩ := field_at (i := 2) (c := 1) 2 rfl (by kernel_rfl) (by rw [hxl]; decide) (hf 2 _ rfl)
  obtain ⟨_, g3⟩ := field_at (i := 3) (c := 1) 3 rfl (by kernel_rfl) (by rw [hxl]; decide) (hf 3 _ rfl)
  obtain ⟨x0, e0⟩ := str_of Try.underlying9 g0
  obtain ⟨x1, e1⟩ := int_of Try.underlying2 g1
  obtain ⟨x2, e2⟩ := int_of Try.underlying2 g2
  obtain ⟨v3, l3, e3, s3⟩ := sl_of (by omega) Try.underlying42 (show Try.prog.cellsOf 58 = 11 from by kernel_rfl) (by decide) opens_rule g3
  exact ⟨⟨x0, x1, x2, l3⟩, v3, list_of hl2 (fun i hi => by
    match i, hi with
    | 0, _ => exact e0
    | 1, _ => exact e1
    | 2, _ => exact e2
    | 3, _ => exact e3
    | i + 4, h => exact absurd h (by simp)), s3⟩
set_option maxRecDepth 100000 in
theorem opens_pass : Opens enc Try.prog w base spare held 47 RPass := by
  intro fuel cs x hx
  obtain ⟨xs, n, _, _, hl, hxl, hf⟩ := DataW.trod_struct Try.underlying47 hx
  have hl2 : cs.length = 3 := hl.trans (by kernel_rfl)
  obtain ⟨_, g0⟩ := field_at (i := 0) (c := 1) 0 rfl (by kernel_rfl) (by rw [hxl]; decide) (hf 0 _ rfl)
  obtain ⟨_, g1⟩ := field_at (i := 1) (c := 1) 1 rfl (by kernel_rfl) (by rw [hxl]; decide) (hf 1 _ rfl)
  obtain ⟨_, g2⟩ := field_at (i := 2) (c := 1) 2 rfl (by kernel_rfl) (by rw [hxl]; decide) (hf 2 _ rfl)
  obtain ⟨x0, e0⟩ := str_of Try.underlying9 g0
  obtain ⟨x1, e1⟩ := str_of Try.underlying9 g1
  obtain ⟨x2, e2⟩ := int_of Try.underlying2 g2
  exact ⟨⟨x0, x1, x2⟩, list_of hl2 (fun i hi => by
    match i, hi with
    | 0, _ => exact e0
    | 1, _ => exact e1
    | 2, _ => exact e2
    | i + 3, h => exact absurd h (by simp))⟩
set_option maxRecDepth 100000 in
theorem opens_auths {fuel : Nat} {v : Value} {x : DataW H × List MemPlace} (h : DataW.trod enc Try.prog w base spare held fuel 22 [v] = some x) : ∃ l : List PAuth, Sl 4 RAuth w v l := by
  obtain ⟨l, v1, hc, hs⟩ := opens_slice Try.underlying22 (show Try.prog.cellsOf 64 = 4 from by kernel_rfl) (by decide) opens_auth _ _ _ h
  obtain rfl : v = v1 := by simpa using hc
  exact ⟨l, hs⟩
theorem arr7 {cs : Array Value} (h : cs.size = 7) : ∃ a b c d e f g, cs = #[a, b, c, d, e, f, g] := by
  obtain ⟨l⟩ := cs
  match l, h with
  | [a, b, c, d, e, f, g], _ => exact ⟨a, b, c, d, e, f, g, rfl⟩
set_option maxRecDepth 100000 in
theorem open_trip {r : Reach} {b0 : Nat} {v : Value} {d : DataW H} {p : List MemPlace} (hv : Value.okWide Try.prog w r b0 26 v) (h : DataW.Trod enc Try.prog w base spare held 26 v d p) :
    ∃ (t : PTrip) (vp : Value), v = tripV t vp ∧ Sl 3 RPass w vp t.passages := by
  obtain ⟨cs, rfl, hsz⟩ := okWide_struct Try.underlying26 hv
  obtain ⟨c0, c1, c2, c3, c4, c5, c6, rfl⟩ := arr7 (hsz.trans (show Try.prog.cellsOf 26 = 7 from by kernel_rfl))
  obtain ⟨fuel, hf⟩ := h
  obtain ⟨xs, n, _, _, _, hxl, hg⟩ := DataW.trod_struct Try.underlying26 hf
  obtain ⟨_, g0⟩ := field_at (i := 0) (c := 6) 0 rfl (by kernel_rfl) (by rw [hxl]; decide) (hg 0 _ rfl)
  obtain ⟨_, g1⟩ := field_at (i := 6) (c := 1) 1 rfl (by kernel_rfl) (by rw [hxl]; decide) (hg 1 _ rfl)
  have g0' := arr_of Try.underlying23 Try.underlying2 (show Try.prog.cellsOf 2 = 1 from by kernel_rfl) g0
  obtain ⟨x0, e0⟩ := g0' 0 (by decide)
  obtain ⟨x1, e1⟩ := g0' 1 (by decide)
  obtain ⟨x2, e2⟩ := g0' 2 (by decide)
  obtain ⟨x3, e3⟩ := g0' 3 (by decide)
  obtain ⟨x4, e4⟩ := g0' 4 (by decide)
  obtain ⟨x5, e5⟩ := g0' 5 (by decide)
  obtain ⟨v6, l6, e6, s6⟩ := sl_of (by simp [Value.cells]) Try.underlying24 (show Try.prog.cellsOf 47 = 3 from by kernel_rfl) (by decide) opens_pass g1
  simp [Value.cells] at e0 e1 e2 e3 e4 e5 e6
  subst e0 e1 e2 e3 e4 e5 e6
  exact ⟨⟨x0, x1, x2, x3, x4, x5, l6⟩, _, rfl, s6⟩
end
end Go.Proofs.Ytaomlmkcifpfkaa
