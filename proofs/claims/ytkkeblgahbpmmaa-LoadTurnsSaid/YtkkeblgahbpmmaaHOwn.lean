
/- A row of points of the call's own: it grows, it is cut, it reads as points. -/
import Derived.Test.YtkkeblgahbpmmaaHSeq
import Derived.Test.YtkkeblgahbpmmaaHull1
import Derived.Deep.RegionHeld3
import Derived.Deep.AppendLies
namespace Go.Proofs.Ytkkeblgahbpmmaa
open Go.RowKit Go.Shelf

theorem add_noneH (b o i : Nat) : (⟨b, o, none⟩ : Addr).add i = ⟨b, o + i, none⟩ := by unfold Addr.add; split <;> simp_all
theorem ownsRow_ext' {w W : World} (he : Ext w W) {base : Nat} {e : TypeId} {n m : Nat} {v : Value} {xs : List Value} (h : w.ownsRow base e n v m xs) : W.ownsRow base e n v m xs := by
  refine ⟨h.1, ?_⟩
  rcases h.2 with h0 | ⟨g, cap, cur, hv, hb, hg, hr⟩
  · exact .inl h0
  · exact .inr ⟨g, cap, cur, hv, hb, (he.block g (Array.getElem?_eq_some_iff.1 hg).1).trans hg, hr⟩
theorem own_down {w : World} {base base' : Nat} {e : TypeId} {n m : Nat} {v : Value} {xs : List Value} (h : w.ownsRow base e n v m xs) (hb : base' ≤ base) : w.ownsRow base' e n v m xs := by
  refine ⟨h.1, ?_⟩
  rcases h.2 with h0 | ⟨g, cap, cur, hv, hg, hr⟩
  · exact .inl h0
  · exact .inr ⟨g, cap, cur, hv, Nat.le_trans hb hg, hr⟩
def flatP (l : List HPt) : List Value := l.flatMap (fun p => [.int .i64 p.1, .int .i64 p.2])
/-- a row of the call's own that reads as points -/
def OwnP (base : Nat) (w : World) (v : Value) (l : List HPt) : Prop := w.ownsRow base 52 2 v l.length (flatP l)
theorem flatP_at : ∀ (l : List HPt) (i : Nat) (p : HPt), l[i]? = some p → (flatP l)[i * 2]? = some (.int .i64 p.1) ∧ (flatP l)[i * 2 + 1]? = some (.int .i64 p.2)
  | [], i, p, h => by simp at h
  | a :: l, 0, p, h => by
    simp only [List.getElem?_cons_zero, Option.some.injEq] at h
    subst h
    exact ⟨rfl, rfl⟩
  | a :: l, i + 1, p, h => by
    have h2 := flatP_at l i p (by simpa using h)
    have e : flatP (a :: l) = [.int .i64 a.1, .int .i64 a.2] ++ flatP l := rfl
    rw [e, List.getElem?_append_right (by simp; omega), List.getElem?_append_right (by simp; omega)]
    simp only [List.length_cons, List.length_nil]
    rw [show (i + 1) * 2 - (0 + 1 + 1) = i * 2 by omega, show (i + 1) * 2 + 1 - (0 + 1 + 1) = i * 2 + 1 by omega]
    exact h2
theorem flatP_len (l : List HPt) : (flatP l).length = l.length * 2 := by
  induction l with
  | nil => rfl
  | cons a l ih => rw [show flatP (a :: l) = [.int .i64 a.1, .int .i64 a.2] ++ flatP l from rfl, List.length_append, ih]; simp; omega
theorem flatP_snoc (l : List HPt) (p : HPt) : flatP (l ++ [p]) = flatP l ++ [.int .i64 p.1, .int .i64 p.2] := by simp [flatP]
theorem OwnP.at {w : World} {base : Nat} {v : Value} {l : List HPt} (h : OwnP base w v l) {i : Nat} {p : HPt} (hi : l[i]? = some p) :
    ∃ g c, v = .slice (some ⟨g, 0, none⟩) l.length c ∧ l.length ≤ c ∧ c ≤ maxLen ∧ w.cell? ⟨g, i * 2, none⟩ = some (.int .i64 p.1) ∧ w.cell? ⟨g, i * 2 + 1, none⟩ = some (.int .i64 p.2) := by
  have hx := (List.getElem?_eq_some_iff.1 hi).1
  rcases h.2 with ⟨_, h0⟩ | ⟨g, cap, cur, rfl, _, hb, hc1, hc2, hcs, ht⟩
  · omega
  · have key : ∀ j u, (flatP l)[j]? = some u → w.cell? ⟨g, j, none⟩ = some u := fun j u hj => by
      rw [← ht, List.getElem?_take] at hj
      split at hj
      · have := World.news_of_block hb j u hj
        rwa [add_noneH, Nat.zero_add] at this
      · simp at hj
    have h2 := flatP_at l i p hi
    exact ⟨g, cap, rfl, hc1, hc2, key _ _ h2.1, key _ _ h2.2⟩
theorem OwnP.pts {w : World} {base : Nat} {v : Value} {l : List HPt} (h : OwnP base w v l) : Pts w v l := by
  cases l with
  | nil =>
    rcases h.2 with ⟨rfl, _⟩ | ⟨g, cap, cur, rfl, _⟩
    · exact .inl ⟨none, 0, rfl, rfl⟩
    · exact .inl ⟨_, cap, rfl, rfl⟩
  | cons a l =>
    obtain ⟨g, c, rfl, hc, hm, _⟩ := h.at (i := 0) (p := a) rfl
    refine .inr ⟨g, 0, c, rfl, by unfold maxLen at hm; omega, hc, fun i hi => ?_⟩
    obtain ⟨p, hp⟩ : ∃ p, (a :: l)[i]? = some p := ⟨_, List.getElem?_eq_getElem hi⟩
    obtain ⟨g', c', e, _, _, h1, h2⟩ := h.at hp
    simp only [Value.slice.injEq, Option.some.injEq, Addr.mk.injEq, and_true] at e
    obtain ⟨rfl, _⟩ := e
    have hg : (a :: l).getD i (0, 0) = p := by simp [List.getD, hp]
    rw [hg, Nat.zero_add]
    exact ⟨h1, h2⟩
theorem OwnP.ext {w w' : World} {base : Nat} {v : Value} {l : List HPt} (h : OwnP base w v l) (he : Ext w w') : OwnP base w' v l := ownsRow_ext' he h
theorem OwnP.down {w : World} {base base' : Nat} {v : Value} {l : List HPt} (h : OwnP base w v l) (hb : base' ≤ base) : OwnP base' w v l := own_down h hb
theorem OwnP.one (w : World) (p : HPt) : OwnP w.heap.size (w.alloc (.cells #[.int .i64 p.1, .int .i64 p.2] 52)) (.slice (some ⟨w.heap.size, 0, none⟩) 1 1) [p] :=
  ⟨rfl, .inr ⟨w.heap.size, 1, _, rfl, Nat.le_refl _, World.alloc_heap_new w _, Nat.le_refl _, by decide, rfl, rfl⟩⟩
theorem infoPoint : (Try.prog.info? 52).map (fun i => (i.zero, i.size, i.bytes)) = some (some (.agg #[.int .i64 0, .int .i64 0]), 2, 16) := by kernel_rfl
theorem OwnP.none0 {base : Nat} {w : World} : OwnP base w (.slice none 0 0) [] := World.ownsRow_nil w base _ 2
theorem OwnP.snoc {base : Nat} {w : World} {v : Value} {l : List HPt} {p : HPt} (h : w.ownsRow base 52 2 v (l.length + 1) (flatP l ++ [.int .i64 p.1, .int .i64 p.2])) : OwnP base w v (l ++ [p]) := by
  unfold OwnP
  rw [flatP_snoc, List.length_append]
  exact h
theorem flatP_take : ∀ (l : List HPt) (m : Nat), flatP (l.take m) = (flatP l).take (m * 2)
  | [], m => by simp [flatP]
  | a :: l, 0 => by simp [flatP]
  | a :: l, m + 1 => by
    have e : flatP (a :: l) = .int .i64 a.1 :: .int .i64 a.2 :: flatP l := rfl
    rw [List.take_succ_cons, e, show (m + 1) * 2 = m * 2 + 1 + 1 by omega, List.take_succ_cons, List.take_succ_cons, ← flatP_take l m]
    rfl
/-- a row that is cut is a row of the call's own -/
theorem OwnP.cut {base : Nat} {w : World} {g cap : Nat} {l : List HPt} (h : OwnP base w (.slice (some ⟨g, 0, none⟩) l.length cap) l) (m : Nat) (hm : m ≤ l.length) :
    OwnP base w (.slice (some ⟨g, 0, none⟩) m cap) (l.take m) := by
  have hl : (l.take m).length = m := by rw [List.length_take, Nat.min_eq_left hm]
  refine ⟨by rw [flatP_len], ?_⟩
  rw [hl]
  rcases h.2 with ⟨h0, _⟩ | ⟨g', cap', cur, e, hb, hg, hc, hc2, hcs, ht⟩
  · cases h0
  · simp only [Value.slice.injEq, Option.some.injEq, Addr.mk.injEq, and_true] at e
    obtain ⟨rfl, _, rfl⟩ := e
    refine .inr ⟨g, cap, cur, rfl, hb, hg, by omega, hc2, hcs, ?_⟩
    rw [flatP_take, ← ht, List.take_take, Nat.min_eq_left (by omega)]
/-- the form of a row that is not empty -/
theorem OwnP.form {base : Nat} {w : World} {v : Value} {l : List HPt} (h : OwnP base w v l) (h0 : 0 < l.length) : ∃ g cap, v = .slice (some ⟨g, 0, none⟩) l.length cap ∧ base ≤ g ∧ g < w.heap.size ∧ l.length ≤ cap ∧ cap ≤ maxLen := by
  rcases h.2 with ⟨_, h1⟩ | ⟨g, cap, cur, rfl, hb, hg, hc, hc2, _⟩
  · omega
  · exact ⟨g, cap, rfl, hb, (Array.getElem?_eq_some_iff.1 hg).1, hc, hc2⟩
theorem OwnP.shape {base : Nat} {w : World} {v : Value} {l : List HPt} (h : OwnP base w v l) : ∃ a cap, v = .slice a l.length cap ∧ l.length ≤ maxLen := by
  rcases h.2 with ⟨rfl, h1⟩ | ⟨g, cap, cur, rfl, _, _, hc, hc2, _⟩
  · exact ⟨none, 0, by rw [h1], by rw [h1]; exact Nat.zero_le _⟩
  · exact ⟨_, cap, rfl, Nat.le_trans hc hc2⟩
end Go.Proofs.Ytkkeblgahbpmmaa
