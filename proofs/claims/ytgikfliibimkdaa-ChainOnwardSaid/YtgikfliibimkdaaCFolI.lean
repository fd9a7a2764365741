/- What holds at each round of Follow: the row of the poses so far, and the pose in its block. -/
import Derived.Test.YtgikfliibimkdaaCFolS
import Derived.Test.YtgikfliibimkdaaCStr2
namespace Go.Proofs.Ytgikfliibimkdaa
open Go.RowKit Go.Shelf

/-- a slice that reads as points, apart from two blocks that are written -/
def RowP (T : Nat) (out : Value) (w : World) (v : Value) (l : List Pt) : Prop := Pts w v l ∧ (l = [] ∨ ∀ g, v.ownBlock = some g → g < w.heap.size ∧ g ≠ T ∧ out.ownBlock ≠ some g)
theorem pts_lt {w : World} {v : Value} {l : List Pt} (h : Pts w v l) (hl : l ≠ []) {g : Nat} (hg : v.ownBlock = some g) : g < w.heap.size := by
  rcases h with ⟨_, _, _, h0⟩ | ⟨b, off, cap, rfl, _, _, hc⟩
  · exact absurd h0 hl
  · have hb : b = g := by simpa [Value.ownBlock] using hg
    subst hb
    have := lt_of_cell (hc 0 (List.length_pos_iff.2 hl)).1
    exact this
theorem RowP.ext {T : Nat} {out : Value} {w w' : World} {v : Value} {l : List Pt} (h : RowP T out w v l) (he : Ext w w') : RowP T out w' v l :=
  ⟨h.1.ext he, h.2.imp id (fun k g hg => ⟨Nat.lt_of_lt_of_le (k g hg).1 he.sz, (k g hg).2⟩)⟩
theorem RowP.set {T o : Nat} {out u : Value} {w : World} {v : Value} {l : List Pt} (h : RowP T out w v l) : RowP T out (w.setCell ⟨T, o, none⟩ u) v l := by
  rcases h with ⟨h1, h2⟩
  rcases h2 with rfl | h2
  · refine ⟨?_, .inl rfl⟩
    rcases h1 with ⟨a, c, hv, _⟩ | ⟨b, off, cap, hv, _, _, _⟩
    · exact .inl ⟨a, c, hv, rfl⟩
    · exact .inl ⟨_, cap, hv, rfl⟩
  · refine ⟨?_, .inr (fun g hg => ⟨by rw [size_setCell]; exact (h2 g hg).1, (h2 g hg).2⟩)⟩
    rcases h1 with h1 | ⟨b, off, cap, rfl, e1, e2, hc⟩
    · exact .inl h1
    · have hb : b ≠ T := (h2 b rfl).2.1
      exact .inr ⟨b, off, cap, rfl, e1, e2, fun i hi => ⟨cell_set_ne hb (hc i hi).1, cell_set_ne hb (hc i hi).2⟩⟩
theorem RowP.grow {T : Nat} {out out' : Value} {w w' : World} {v : Value} {l : List Pt} (h : RowP T out w v l) (hg : w.grownBy w' out.ownBlock) (ho : ∀ g, out'.ownBlock = some g → out.ownBlock = some g ∨ g = w.heap.size) : RowP T out' w' v l := by
  rcases h with ⟨h1, h2⟩
  rcases h2 with rfl | h2
  · refine ⟨?_, .inl rfl⟩
    rcases h1 with ⟨a, c, hv, _⟩ | ⟨b, off, cap, hv, _, _, _⟩
    · exact .inl ⟨a, c, hv, rfl⟩
    · exact .inl ⟨_, cap, hv, rfl⟩
  · refine ⟨?_, .inr (fun g hgv => ⟨Nat.lt_of_lt_of_le (h2 g hgv).1 hg.size, (h2 g hgv).2.1, fun e => ?_⟩)⟩
    · rcases h1 with h1 | ⟨b, off, cap, rfl, e1, e2, hc⟩
      · exact .inl h1
      · have hk := h2 b rfl
        have hbl : w'.heap[b]? = w.heap[b]? := hg.block b hk.1 (fun e => hk.2.2 e.symm)
        refine .inr ⟨b, off, cap, rfl, e1, e2, fun i hi => ⟨?_, ?_⟩⟩
        · rw [World.cell?_of_block (w := w) hbl]; exact (hc i hi).1
        · rw [World.cell?_of_block (w := w) hbl]; exact (hc i hi).2
    · have hk := h2 g hgv
      rcases ho g e with e2 | e2
      · exact hk.2.2 e2
      · omega
theorem RowP.old {T : Nat} {out : Value} {w0 w : World} {v : Value} {l : List Pt} (h : Pts w0 v l) (he : Ext w0 w) (hT : w0.heap.size ≤ T) (ho : ∀ g, out.ownBlock = some g → w0.heap.size ≤ g) : RowP T out w v l := by
  refine ⟨h.ext he, ?_⟩
  by_cases hl : l = []
  · exact .inl hl
  · refine .inr (fun g hg => ?_)
    have h1 := pts_lt h hl hg
    have h2 := he.sz
    exact ⟨by omega, by omega, fun e => by have := ho g e; omega⟩
theorem RowP.new {T : Nat} {out : Value} {w0 w : World} {v : Value} {l : List Pt} (h : Pts w v l) (hn : ∀ g, v.ownBlock = some g → w0.heap.size ≤ g) (hT : T < w0.heap.size) (ho : ∀ g, out.ownBlock = some g → g < w0.heap.size) : RowP T out w v l := by
  refine ⟨h, ?_⟩
  by_cases hl : l = []
  · exact .inl hl
  · refine .inr (fun g hg => ?_)
    have h1 := pts_lt h hl hg
    have h2 := hn g hg
    exact ⟨h1, by omega, fun e => by have := ho g e; omega⟩

/-- the poses so far in a row of the call's own, and the pose in the block T -/
structure FolI (T B : Nat) (wA w : World) (out : Value) (l : List (CPos × Value)) (p : CPos) (va : Value) : Prop where
  own : OwnQ B w out l
  rows : ∀ q ∈ l, RowP T out w q.2 q.1.2
  fresh : ∀ q ∈ l, ∀ g, q.2.ownBlock = some g → wA.heap.size ≤ g
  pose : w.heap[T]? = some (.cells #[.int .i64 p.1.1, .int .i64 p.1.2, va] 29 (0, 0))
  now : RowP T out w va p.2
  below : Ext wA w
  hT : wA.heap.size ≤ T
  hB : T < B
section
variable {T B : Nat} {wA w : World} {out : Value} {l : List (CPos × Value)} {p : CPos} {va : Value}
theorem FolI.ext {w' : World} (h : FolI T B wA w out l p va) (he : Ext w w') : FolI T B wA w' out l p va :=
  ⟨h.own.ext he, fun q hq => (h.rows q hq).ext he, h.fresh, he.blk h.pose, h.now.ext he, h.below.trans he, h.hT, h.hB⟩
theorem FolI.lt (h : FolI T B wA w out l p va) : ∀ g, out.ownBlock = some g → g < w.heap.size := fun _ hg => row_lt h.own hg
theorem FolI.ne (h : FolI T B wA w out l p va) : out.ownBlock ≠ some T := own_ne h.own h.hB
/-- another pose is stored into its block -/
theorem FolI.store (h : FolI T B wA w out l p va) {p' : CPos} {va' : Value} (hn : RowP T out w va' p'.2) :
    FolI T B wA (((w.setCell ⟨T, 0, none⟩ (.int .i64 p'.1.1)).setCell ⟨T, 1, none⟩ (.int .i64 p'.1.2)).setCell ⟨T, 2, none⟩ va') out l p' va' :=
  ⟨own_set (own_set (own_set h.own h.ne) h.ne) h.ne, fun q hq => (h.rows q hq).set.set.set, h.fresh, three_set _ _ _ h.pose, hn.set.set.set, ((h.below.set (p := ⟨T, 0, none⟩) h.hT _).set (p := ⟨T, 1, none⟩) h.hT _).set (p := ⟨T, 2, none⟩) h.hT _, h.hT, h.hB⟩
/-- the pose is laid behind the others -/
theorem FolI.push (h : FolI T B wA w out l p va) {w' : World} {g c : Nat} (ho : w'.ownsRow B 29 3 (.slice (some ⟨g, 0, none⟩) (l.length + 1) c) (l.length + 1) (flatQ l ++ [.int .i64 p.1.1, .int .i64 p.1.2, va])) (hg : w.grownBy w' out.ownBlock) (hH : out.ownBlock = some g ∨ g = w.heap.size) (hfr : ∀ k, va.ownBlock = some k → wA.heap.size ≤ k) :
    FolI T B wA w' (.slice (some ⟨g, 0, none⟩) (l.length + 1) c) (l ++ [(p, va)]) p va := by
  have hk : ∀ k, (Value.slice (some ⟨g, 0, none⟩) (l.length + 1) c).ownBlock = some k → out.ownBlock = some k ∨ k = w.heap.size := fun k hk => by
    have e : g = k := by simpa [Value.ownBlock] using hk
    subst e
    exact hH
  have hTw := fst_lt h.pose
  refine ⟨?_, fun q hq => ?_, fun q hq => ?_, (hg.block T hTw (fun e => h.ne e.symm)).trans h.pose, h.now.grow hg hk, Ext.grown h.below hg (fun k e => Nat.le_trans (Nat.le_trans h.hT (Nat.le_of_lt h.hB)) (own_ge h.own k e)), h.hT, h.hB⟩
  · unfold OwnQ
    rw [flatQ_snoc, List.length_append]
    exact ho
  · rw [List.mem_append, List.mem_singleton] at hq
    rcases hq with hq | rfl
    · exact (h.rows q hq).grow hg hk
    · exact h.now.grow hg hk
  · rw [List.mem_append, List.mem_singleton] at hq
    rcases hq with hq | rfl
    · exact h.fresh q hq
    · exact hfr
theorem FolI.sl {b : Nat} (h : FolI T B wA w out l p va) (hb : b ≤ wA.heap.size) (hl : l.length ≤ 9223372036854775807) : Sl 3 (RPose b) w out (l.map (·.1)) := h.own.sl (fun q hq => (h.rows q hq).1) (fun q hq g hg => Nat.le_trans hb (h.fresh q hq g hg)) hl
theorem FolI.new {b : Nat} (h : FolI T B wA w out l p va) (hb : b ≤ wA.heap.size) : ∀ g, out.ownBlock = some g → b ≤ g := fun g hg => by
  have h1 := own_ge h.own g hg
  have h2 := h.hT
  have h3 := h.hB
  omega
end
/-- a row of zeros, apart from the blocks that are written -/
def ZerI (NB n T : Nat) (out : Value) (w : World) : Prop := (∀ i, i < n → w.cell? ⟨NB, i, none⟩ = some (.int .i64 0)) ∧ NB < w.heap.size ∧ NB ≠ T ∧ out.ownBlock ≠ some NB
theorem ZerI.ext {NB n T : Nat} {out : Value} {w w' : World} (h : ZerI NB n T out w) (he : Ext w w') : ZerI NB n T out w' := ⟨fun i hi => he.cell (h.1 i hi), Nat.lt_of_lt_of_le h.2.1 he.sz, h.2.2⟩
theorem ZerI.set {NB n T o : Nat} {out u : Value} {w : World} (h : ZerI NB n T out w) : ZerI NB n T out (w.setCell ⟨T, o, none⟩ u) := ⟨fun i hi => cell_set_ne h.2.2.1 (h.1 i hi), by rw [size_setCell]; exact h.2.1, h.2.2⟩
theorem ZerI.grow {NB n T : Nat} {out out' : Value} {w w' : World} (h : ZerI NB n T out w) (hg : w.grownBy w' out.ownBlock) (ho : ∀ g, out'.ownBlock = some g → out.ownBlock = some g ∨ g = w.heap.size) : ZerI NB n T out' w' := by
  have hbl : w'.heap[NB]? = w.heap[NB]? := hg.block NB h.2.1 (fun e => h.2.2.2 e.symm)
  refine ⟨fun i hi => ?_, Nat.lt_of_lt_of_le h.2.1 hg.size, h.2.2.1, fun e => ?_⟩
  · rw [World.cell?_of_block (w := w) hbl]; exact h.1 i hi
  · rcases ho NB e with e2 | e2
    · exact h.2.2.2 e2
    · have := h.2.1; omega
theorem made_sl {W : World} {b n : Nat} (h : ∀ i, i < n → W.cell? ⟨b, i, none⟩ = some (.int .i64 0)) (hn : n ≤ 9223372036854775807) : Sl 1 RNum W (.slice (some ⟨b, 0, none⟩) n n) (List.replicate n 0) :=
  ⟨some ⟨b, 0, none⟩, n, by simp, by simpa using hn, by simp, fun i x hi => by
    obtain ⟨hi1, rfl⟩ := List.getElem?_eq_some_iff.1 hi
    simp only [List.length_replicate] at hi1
    refine ⟨b, 0, [.int .i64 0], rfl, rfl, ⟨by simp, by simp, by simp⟩, fun j c hj => ?_⟩
    match j, hj with
    | 0, hj =>
      simp only [List.getElem?_cons_zero, Option.some.injEq] at hj
      subst hj
      simpa using h i hi1
    | j + 1, hj => simp at hj⟩
theorem infoPose : (Try.prog.info? 29).map (fun i => (i.zero, i.size, i.bytes)) = some (some (.agg #[.int .i64 0, .int .i64 0, .slice none 0 0]), 3, 40) := by kernel_rfl
theorem infoNum : (Try.prog.info? 3).map (fun i => (i.zero, i.size, i.bytes)) = some (some (.int .i64 0), 1, 8) := by kernel_rfl
end Go.Proofs.Ytgikfliibimkdaa
