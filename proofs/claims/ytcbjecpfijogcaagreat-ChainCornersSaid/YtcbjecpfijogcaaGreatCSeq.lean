
/- slices.AppendSeq and slices.Collect at units in a pose: over an iterator whose contract is handed in. (Turned from the kit's worked proof on slices.Collect.) -/
import Derived.RangeFuncNested
import Derived.RangeFuncBound
import Derived.RangeFuncCalls
import Derived.RangeFuncLeaves
import Derived.RangeFuncGives
import Derived.RangeFuncBox
import Derived.Shelf.Abstract
import Derived.Shelf.RegionOpen
import Derived.OwnWalkIn
import Derived.TacticsInMore
import Derived.LoopNIn
import Derived.LoopIn
import Derived.Test.YtcbjecpfijogcaaGreatCPull
namespace Go.Proofs.YtcbjecpfijogcaaGreat
open Go.RowKit Go.Shelf
attribute [local go_sem] Oper.semAt_some

/-- a unit at its joint and axle, with the slice value of its axles -/
structure PPut where
  unit : CUnit
  A : Option Addr
  cap : Nat
  joint : Pt
  axle : Pt
def putCs (x : PPut) : List Value := [.int .i64 x.unit.kind, .int .i64 x.unit.length, .int .i64 x.unit.behind, .int .i64 x.unit.front, .int .i64 x.unit.rear, .int .i64 x.unit.width, .int .i64 x.unit.height, .int .i64 x.unit.mass, .int .i64 x.unit.steer, .int .i64 x.unit.most, .slice x.A x.unit.axles.length x.cap, .int .i64 x.joint.1, .int .i64 x.joint.2, .int .i64 x.axle.1, .int .i64 x.axle.2]
def putV (x : PPut) : Value := .agg #[.int .i64 x.unit.kind, .int .i64 x.unit.length, .int .i64 x.unit.behind, .int .i64 x.unit.front, .int .i64 x.unit.rear, .int .i64 x.unit.width, .int .i64 x.unit.height, .int .i64 x.unit.mass, .int .i64 x.unit.steer, .int .i64 x.unit.most, .slice x.A x.unit.axles.length x.cap, .int .i64 x.joint.1, .int .i64 x.joint.2, .int .i64 x.axle.1, .int .i64 x.axle.2]
theorem flat_len (l : List PPut) : (l.flatMap putCs).length = l.length * 15 := by
  induction l with
  | nil => rfl
  | cons a l ih => rw [List.flatMap_cons, List.length_append, ih, List.length_cons]; simp [putCs]; omega
theorem infoPlaced : (Tryz.prog.info? 64).map (fun i => (i.zero, i.size, i.bytes)) = some (some (.agg #[.int .i64 0, .int .i64 0, .int .i64 0, .int .i64 0, .int .i64 0, .int .i64 0, .int .i64 0, .int .i64 0, .int .i64 0, .int .i64 0, .slice none 0 0, .int .i64 0, .int .i64 0, .int .i64 0, .int .i64 0]), 15, 136) := by kernel_rfl

def apRec (fn : FuncId) (sv : Value) (Bs D : Nat) (asg bod : Code) (st : LoopState) (pend : Option Code) : Loop :=
  { state := st, pending := pend, fn, tmps := #[.slice none 0 0, sv, .pointer (some ⟨Bs, 0, none⟩), undef, .slice none 0 0, undef, sv, undef, undef, undef, undef, undef, undef], params := #[7], assign := asg, body := bod, defers := D }
/-- between two rounds: the box holds a slice of the call's own with what has come; what lay before the call is as it was -/
structure ApAt (w0 : World) (fn : FuncId) (sv : Value) (Bs l D : Nat) (asg bod : Code) (ss : List PPut) (W : World) : Prop where
  box : ∃ v, W.heap[Bs]? = some (.cells #[v] 77 (0, 0)) ∧ W.ownsRow w0.heap.size 64 15 v ss.length (ss.flatMap putCs)
  L : W.heap[l]? = some (.loop (apRec fn sv Bs D asg bod .ready none))
  K : W.heap[D]? = some (.deferred (some []))
  below : Below w0.heap.size w0 W
/-- what a round leaves alone: all cells but the box and the row in it -/
def KpR (Bs : Nat) (W W' : World) : Prop := W.heap.size ≤ W'.heap.size ∧ ∀ b cs t fr, W.heap[b]? = some (.cells cs t fr) → b ≠ Bs → (∀ v, W.heap[Bs]? = some (.cells #[v] 77 (0, 0)) → v.ownBlock ≠ some b) → W'.heap[b]? = W.heap[b]?

theorem ownsRow_ext' {w W : World} (he : Ext w W) {base : Nat} {e : TypeId} {n m : Nat} {v : Value} {xs : List Value} (h : w.ownsRow base e n v m xs) : W.ownsRow base e n v m xs := by
  refine ⟨h.1, ?_⟩
  rcases h.2 with h0 | ⟨g, cap, cur, hv, hb, hg, hr⟩
  · exact .inl h0
  · exact .inr ⟨g, cap, cur, hv, hb, (he.block g (Array.getElem?_eq_some_iff.1 hg).1).trans hg, hr⟩
theorem ApAt.ext {w0 : World} {fn : FuncId} {sv : Value} {Bs l D : Nat} {asg bod : Code} {ss : List PPut} {W W' : World} (h : ApAt w0 fn sv Bs l D asg bod ss W) (he : Ext W W') : ApAt w0 fn sv Bs l D asg bod ss W' := by
  obtain ⟨v, hv, hr⟩ := h.box
  exact ⟨⟨v, (he.block Bs (Array.getElem?_eq_some_iff.1 hv).1).trans hv, ownsRow_ext' he hr⟩, (he.block l (Array.getElem?_eq_some_iff.1 h.L).1).trans h.L, (he.block D (Array.getElem?_eq_some_iff.1 h.K).1).trans h.K, h.below.trans (he.mono h.below.size)⟩
theorem row_ne {W : World} {base : Nat} {e : TypeId} {size : Nat} {v : Value} {k : Nat} {xs : List Value} (h : W.ownsRow base e size v k xs) {j : Nat} {o : Obj} (hj : W.heap[j]? = some o) (hno : ∀ cur, o ≠ .cells cur e (0, 0)) : v.ownBlock ≠ some j := by
  rcases h.2 with ⟨rfl, _⟩ | ⟨g, cap, cur, rfl, _, hgb, _⟩
  · simp [Value.ownBlock]
  · intro e'
    have : g = j := by simpa [Value.ownBlock] using e'
    subst this; rw [hgb] at hj; cases hj; exact hno cur rfl
theorem row_lt {W : World} {base : Nat} {e : TypeId} {size : Nat} {v : Value} {k : Nat} {xs : List Value} (h : W.ownsRow base e size v k xs) {j : Nat} (hj : v.ownBlock = some j) : j < W.heap.size := by
  rcases h.2 with ⟨rfl, _⟩ | ⟨g, cap, cur, rfl, _, hgb, _⟩
  · simp [Value.ownBlock] at hj
  · have : g = j := by simpa [Value.ownBlock] using hj
    subst this; exact (Array.getElem?_eq_some_iff.1 hgb).1
theorem row_turn {w W : World} {base : Nat} {e : TypeId} {n m : Nat} {v : Value} {xs : List Value} (h : w.ownsRow base e n v m xs) (hb : ∀ g, v.ownBlock = some g → W.heap[g]? = w.heap[g]?) : W.ownsRow base e n v m xs := by
  refine ⟨h.1, ?_⟩
  rcases h.2 with h0 | ⟨g, cap, cur, rfl, hbg, hg, hr⟩
  · exact .inl h0
  · exact .inr ⟨g, cap, cur, rfl, hbg, (hb g rfl).trans hg, hr⟩
/-- a store into a box of the iterator's own, of points -/
theorem ApAt.set {w0 : World} {fn : FuncId} {sv : Value} {Bs l D : Nat} {asg bod : Code} {ss : List PPut} {W : World} (h : ApAt w0 fn sv Bs l D asg bod ss W) {p : Addr} {cs : Array Value} {fr : Nat × Nat} (hp : W.heap[p.block]? = some (.cells cs 26 fr)) (hge : w0.heap.size ≤ p.block) (u : Value) : ApAt w0 fn sv Bs l D asg bod ss (W.setCell p u) := by
  obtain ⟨v, hv, hr⟩ := h.box
  have o : ∀ b, b ≠ p.block → (W.setCell p u).heap[b]? = W.heap[b]? := fun b hb => Below.heap_setCell W p u b hb
  have n1 : Bs ≠ p.block := fun e => by rw [e, hp] at hv; simp at hv
  have n2 : l ≠ p.block := fun e => by have := h.L; rw [e, hp] at this; simp at this
  have n3 : D ≠ p.block := fun e => by have := h.K; rw [e, hp] at this; simp at this
  have n4 : v.ownBlock ≠ some p.block := row_ne hr hp (fun cur e => by simp at e)
  exact ⟨⟨v, (o _ n1).trans hv, row_turn hr (fun g hg => o g (fun e => n4 (by rw [hg, e])))⟩, (o _ n2).trans h.L, (o _ n3).trans h.K, h.below.setCell hge u⟩
theorem putObj_other' {W : World} {l k : Nat} {o : Obj} (h : k ≠ l) : (W.putObj l o).heap[k]? = W.heap[k]? := World.putObj_heap_other h
theorem Below.putObj' {w W : World} (h : Below w.heap.size w W) {l : Nat} (hl : w.heap.size ≤ l) (o : Obj) : Below w.heap.size w (W.putObj l o) := h.grown (grownBy_putObj' W l o) h.size (fun k e => by cases e; exact hl)
theorem rf_gen {F : Fence} {n : Nat} {P : Program} {g : Operand} {ps : Array Tmp} {assign body : Code} {Q : Exit → Act → World → Prop} {a : Act} {w : World}
    (h : ∀ asg bod, asg = assign → bod = body → (Code.rangeFunc g ps asg bod).wpIn F n P Q a w) : (Code.rangeFunc g ps assign body).wpIn F n P Q a w := h _ _ rfl rfl

set_option maxRecDepth 100000 in
set_option maxHeartbeats 4000000 in
theorem AppendSeq_c (lb : Array Value) (xs : List PPut) (hN : xs.length ≤ 1000) (w : World)
    (hseq : ∀ (fn : FuncId) (l D : Nat) (asg bod : Code) (W : World), w.heap.size < D → w.heap.size < l →
      (∀ (pre : List PPut) (x : PPut) (W1 : World), ApAt w fn (.func (.func 81) #[] lb) w.heap.size l D asg bod pre W1 → pre.length < xs.length →
        YieldAt Fence.wide 3 Tryz.prog l #[putV x] W1 fun e W' => e = .returned (.bool true) ∧ ApAt w fn (.func (.func 81) #[] lb) w.heap.size l D asg bod (pre ++ [x]) W' ∧ KpR w.heap.size W1 W') →
      ApAt w fn (.func (.func 81) #[] lb) w.heap.size l D asg bod [] W →
      CallsIn Fence.wide 4 Tryz.prog 81 (#[.func (.yield l) #[] #[]] ++ lb) W fun e W' => (∃ v, e = .returned v) ∧ ApAt w fn (.func (.func 81) #[] lb) w.heap.size l D asg bod xs W') :
    Calls Tryz.prog 80 #[.slice none 0 0, .func (.func 81) #[] lb] w fun e w' => ∃ v, e = .returned v ∧ w'.ownsRow w.heap.size 64 15 v xs.length (xs.flatMap putCs) ∧ Ext w w' := by
  obtain ⟨i0, hi, hz0, hz1, hz2⟩ := info_parts infoPlaced
  refine (callsIn_wide (n := 5)).1 ?_
  refine callsIn_of_wp_marks Tryz.func80 rfl trivial ?_ rfl
  simp only [Tryz.ntmps80, List.size_toArray, List.length_cons, List.length_nil, Nat.reduceAdd, Nat.reduceSub, Array.replicate_succ, Array.replicate_zero, List.push_toArray, List.append_toArray, List.nil_append, List.cons_append]
  gi_wp2
  refine rf_gen ?_
  intro asg bod hasg hbod
  refine wpIn_rangeFunc ?_
  intro fn hfn
  obtain ⟨W0, hW0⟩ : ∃ W0, w.alloc (.cells #[.slice none 0 0] 77) = W0 := ⟨_, rfl⟩
  have hs0 : W0.heap.size = w.heap.size + 1 := by rw [← hW0]; simp
  have hv0 : W0.heap[w.heap.size]? = some (.cells #[.slice none 0 0] 77 (0, 0)) := by rw [← hW0]; exact World.alloc_heap_new w _
  have hb0 : Below w.heap.size w W0 := by rw [← hW0]; exact (Below.refl _ w).alloc (Nat.le_refl _) _
  rw [hW0]
  obtain ⟨W1, hW1⟩ : ∃ W1, (W0.alloc (.deferred (some []))).alloc (.loop (apRec fn (.func (.func 81) #[] lb) w.heap.size W0.heap.size asg bod .ready none)) = W1 := ⟨_, rfl⟩
  have hold : ∀ k, k < W0.heap.size → W1.heap[k]? = W0.heap[k]? := fun k hk => by
    rw [← hW1]; exact (Below.heap_alloc _ _ k (by simp; omega)).trans (Below.heap_alloc _ _ k hk)
  have hb1 : Below w.heap.size w W1 := by rw [← hW1]; exact (hb0.alloc hb0.size _).alloc (by have := hb0.size; simp; omega) _
  have hs1 : W1.heap.size = W0.heap.size + 2 := by rw [← hW1]; simp
  have hM : ApAt w fn (.func (.func 81) #[] lb) w.heap.size (W0.heap.size + 1) W0.heap.size asg bod [] W1 :=
    ⟨⟨_, (hold w.heap.size (by omega)).trans hv0, ⟨rfl, .inl ⟨rfl, rfl⟩⟩⟩,
     by rw [← hW1]; have := World.alloc_heap_new (W0.alloc (.deferred (some []))) (.loop (apRec fn (.func (.func 81) #[] lb) w.heap.size W0.heap.size asg bod .ready none)); rwa [World.size_alloc] at this,
     by rw [← hW1]; exact (Below.heap_alloc _ _ _ (by simp)).trans (World.alloc_heap_new W0 _), hb1⟩
  refine ⟨W0.heap.size + 1, [{ target := .collected W0.heap.size, args := #[] }], W1, { target := .fn (.func 81) lb, args := #[.func (.yield (W0.heap.size + 1)) #[] #[]] }, W1, 81,
    #[.func (.yield (W0.heap.size + 1)) #[] #[]] ++ lb, W1, ?_, ?_, ?_, ?_, fun _ => by omega, ?_⟩
  · rw [← hW1]; exact run_enterLoop_outer _ _ _ _ _
  · simp [resolve, go_sem]
  · intro f' hf'; simp [Target.leads] at hf'; subst hf'; exact trivial
  · have eg : ∀ args w, (callFunc 81 args).run Tryz.prog w = .ok (.enter 81 args) w := enters_of Tryz.func81 (by kernel_rfl) rfl
    simp [invoke, go_sem, eg]
  · have hD : W0.heap.size ≠ w.heap.size := by omega
    have hl0 : W0.heap.size + 1 ≠ w.heap.size := by omega
    have hDge : w.heap.size ≤ W0.heap.size := by omega
    generalize hDD : W0.heap.size = D at *
    refine (hseq fn (D + 1) D asg bod W1 (by omega) (by omega) ?_ hM).mono ?_
    · intro pre x W h hlen
      obtain ⟨v, hv, hrow⟩ := h.box
      have hzz : (((pre ++ [x]).flatMap putCs)) = pre.flatMap putCs ++ putCs x := by simp
      obtain ⟨R, hR⟩ : ∃ R : Ending → World → Prop, (fun (e : Ending) (W' : World) => e = .returned (.bool true) ∧ ApAt w fn (.func (.func 81) #[] lb) w.heap.size (D + 1) D asg bod (pre ++ [x]) W' ∧ KpR w.heap.size W W') = R := ⟨_, rfl⟩
      rw [hR]
      refine ⟨fn, #[.slice none 0 0, (.func (.func 81) #[] lb), .pointer (some ⟨w.heap.size, 0, none⟩), undef, .slice none 0 0, undef, (.func (.func 81) #[] lb), putV x, undef, undef, undef, undef, undef], asg, bod, by simpa [apRec] using run_yield (P := Tryz.prog) (args := #[putV x]) h.L rfl, roundIn_of_wpIn hfn ?_⟩
      have hl : D + 1 < W.heap.size := (Array.getElem?_eq_some_iff.1 h.L).1
      have hBlt : w.heap.size < W.heap.size := (Array.getElem?_eq_some_iff.1 hv).1
      have hDlt : D < W.heap.size := (Array.getElem?_eq_some_iff.1 h.K).1
      have n1 : v.ownBlock ≠ some (D + 1) := row_ne hrow h.L (fun cur e => by cases e)
      have n2 : v.ownBlock ≠ some D := row_ne hrow h.K (fun cur e => by cases e)
      have n3 : v.ownBlock ≠ some w.heap.size := row_ne hrow hv (fun cur e => by simp at e)
      obtain ⟨⟨kind, length, behind, front, rear, width, height, mass, steer, most, axles⟩, A, cap, ⟨jx, jy⟩, ⟨ax, ay⟩⟩ := x
      simp only [putV]
      obtain ⟨Wa, hWa⟩ : ∃ Wa, W.alloc (.cells #[.int .i64 kind, .int .i64 length, .int .i64 behind, .int .i64 front, .int .i64 rear, .int .i64 width, .int .i64 height, .int .i64 mass, .int .i64 steer, .int .i64 most, .slice A axles.length cap, .int .i64 jx, .int .i64 jy, .int .i64 ax, .int .i64 ay] 64) = Wa := ⟨_, rfl⟩
      have oa : ∀ k, k < W.heap.size → Wa.heap[k]? = W.heap[k]? := fun k hk => by rw [← hWa]; exact Below.heap_alloc _ _ k hk
      have hLa := (oa _ hl).trans h.L
      have hza : Wa.heap.size = W.heap.size + 1 := by rw [← hWa]; simp
      have hxa : Wa.heap[W.heap.size]? = some (.cells #[.int .i64 kind, .int .i64 length, .int .i64 behind, .int .i64 front, .int .i64 rear, .int .i64 width, .int .i64 height, .int .i64 mass, .int .i64 steer, .int .i64 most, .slice A axles.length cap, .int .i64 jx, .int .i64 jy, .int .i64 ax, .int .i64 ay] 64 (0, 0)) := by rw [← hWa]; exact World.alloc_heap_new W _
      have hbr := run_beginRound (P := Tryz.prog) hLa rfl
      obtain ⟨W2, hW2⟩ : ∃ W2, Wa.putObj (D + 1) (.loop { apRec fn (.func (.func 81) #[] lb) w.heap.size D asg bod .ready none with state := .busy }) = W2 := ⟨_, rfl⟩
      rw [hW2] at hbr
      have o2 : ∀ k, k ≠ D + 1 → W2.heap[k]? = Wa.heap[k]? := fun k hk => by rw [← hW2]; exact World.putObj_heap_other hk
      have hz2' : W2.heap.size = Wa.heap.size := by rw [← hW2]; simp
      have hv2 : W2.heap[w.heap.size]? = some (.cells #[v] 77 (0, 0)) := (o2 _ (by omega)).trans ((oa _ hBlt).trans hv)
      have hK2 : W2.heap[D]? = some (.deferred (some [])) := (o2 _ (by omega)).trans ((oa _ hDlt).trans h.K)
      have hL2 : W2.heap[D + 1]? = some (.loop { apRec fn (.func (.func 81) #[] lb) w.heap.size D asg bod .ready none with state := .busy }) := by rw [← hW2]; exact World.putObj_heap_same (by omega)
      have hx2 : W2.heap[W.heap.size]? = some (.cells #[.int .i64 kind, .int .i64 length, .int .i64 behind, .int .i64 front, .int .i64 rear, .int .i64 width, .int .i64 height, .int .i64 mass, .int .i64 steer, .int .i64 most, .slice A axles.length cap, .int .i64 jx, .int .i64 jy, .int .i64 ax, .int .i64 ay] 64 (0, 0)) := (o2 _ (by omega)).trans hxa
      have hrow2 : W2.ownsRow w.heap.size 64 15 v pre.length (pre.flatMap putCs) := row_turn hrow (fun g hg => (o2 g (fun e => n1 (by rw [hg, e]))).trans (oa g (row_lt hrow hg)))
      have hb2 : Below w.heap.size w W2 := by rw [← hW2, ← hWa]; exact Below.putObj' (h.below.alloc h.below.size _) (by omega) _
      have hc2 : W2.cell? ⟨w.heap.size, 0, none⟩ = some v := Boxed.cell (t := 77) hv2
      have hf2 : W2.frozen? ⟨w.heap.size, 0, none⟩ = false := Boxed.frozen (t := 77) hv2
      have hcx : ∀ i u, (#[.int .i64 kind, .int .i64 length, .int .i64 behind, .int .i64 front, .int .i64 rear, .int .i64 width, .int .i64 height, .int .i64 mass, .int .i64 steer, .int .i64 most, .slice A axles.length cap, .int .i64 jx, .int .i64 jy, .int .i64 ax, .int .i64 ay] : Array Value).toList[i]? = some u → W2.cell? ⟨W.heap.size, i, none⟩ = some u := fun i u hu => by
        have := World.news_of_block hx2 i u hu
        rwa [add_none, Nat.zero_add] at this
      have HS0 := Lib.hid hs0
      have HAS := Lib.hid hasg
      have HBO := Lib.hid hbod
      have HR := Lib.hid hR
      have HZ := Lib.hid hzz
      have h2s : w.heap.size ≤ W2.heap.size := by omega
      have h2W : W2.heap.size = W.heap.size + 1 := by omega
      have HW2 := Lib.hid h2W
      have h2l : w.heap.size < W2.heap.size := by omega
      clear h2W hW2 hs0 hasg hbod hR hzz hseq hM hold hs1 hv0 hW0 hDD hW1
      rw [HAS.out]
      gi_wp2
      clear hWa hza hz2'
      rw [HBO.out]
      have c0 := hcx 0 _ rfl
      have c1 := hcx 1 _ rfl
      have c2 := hcx 2 _ rfl
      have c3 := hcx 3 _ rfl
      have c4 := hcx 4 _ rfl
      have c5 := hcx 5 _ rfl
      have c6 := hcx 6 _ rfl
      have c7 := hcx 7 _ rfl
      have c8 := hcx 8 _ rfl
      have c9 := hcx 9 _ rfl
      have c10 := hcx 10 _ rfl
      have c11 := hcx 11 _ rfl
      have c12 := hcx 12 _ rfl
      have c13 := hcx 13 _ rfl
      have c14 := hcx 14 _ rfl
      clear hcx
      gi_wp2_with (gi_at_builtin; refine wpListIn_append_own _ rfl _ _ 77 rfl w.heap.size 64 i0 _ 15 136 Tryz.underlying77 hi hz0 hz1 hz2 rfl (by decide) _ _ _ rfl (ownsRow_ext' ((Ext.refl W2).alloc _) hrow2) ⟨W2.heap.size, 0, none⟩ 1 1 [.int .i64 kind, .int .i64 length, .int .i64 behind, .int .i64 front, .int .i64 rear, .int .i64 width, .int .i64 height, .int .i64 mass, .int .i64 steer, .int .i64 most, .slice A axles.length cap, .int .i64 jx, .int .i64 jy, .int .i64 ax, .int .i64 ay] rfl rfl (World.news_of_block (cs := #[.int .i64 kind, .int .i64 length, .int .i64 behind, .int .i64 front, .int .i64 rear, .int .i64 width, .int .i64 height, .int .i64 mass, .int .i64 steer, .int .i64 most, .slice A axles.length cap, .int .i64 jx, .int .i64 jy, .int .i64 ax, .int .i64 ay]) (t := 64) (fr := (0, 0)) (World.alloc_heap_new W2 _)) (by simp [Value.oneCell']) (by unfold maxLen; omega) (by omega) (by simp; omega) ?_; intro v' w3 hown' hg3 _; obtain ⟨g', cap', rfl⟩ := ownsRow_succ hown'; have hv3 := (hg3.block w.heap.size (by simp; omega) (Ne.symm n3)).trans ((Below.heap_alloc W2 _ w.heap.size (by omega)).trans hv2); have hc3 : w3.cell? ⟨w.heap.size, 0, none⟩ = some v := Boxed.cell (t := 77) hv3; have hf3 : w3.frozen? ⟨w.heap.size, 0, none⟩ = false := Boxed.frozen (t := 77) hv3)
      obtain ⟨w4, hw4⟩ : ∃ w4, w3.setCell ⟨w.heap.size, 0, none⟩ (.slice (some ⟨g', 0, none⟩) (pre.length + 1) cap') = w4 := ⟨_, rfl⟩
      rw [hw4]
      have hz := HW2.out
      have hs0 := HS0.out
      have z3 := hg3.size
      rw [size_alloc] at z3
      have z4 : w4.heap.size = w3.heap.size := by rw [← hw4, size_setCell]
      have o3 : ∀ k, k < W2.heap.size → v.ownBlock ≠ some k → w3.heap[k]? = W2.heap[k]? := fun k hk hn => (hg3.block k (by rw [size_alloc]; omega) (Ne.symm hn)).trans (Below.heap_alloc W2 _ k hk)
      have o4 : ∀ k, k ≠ w.heap.size → w4.heap[k]? = w3.heap[k]? := fun k hk => by rw [← hw4]; exact Below.heap_setCell _ _ _ k hk
      have hv4 : w4.heap[w.heap.size]? = some (.cells #[.slice (some ⟨g', 0, none⟩) (pre.length + 1) cap'] 77 (0, 0)) := by rw [← hw4]; exact Boxed.set _ hv3
      have hL4 := (o4 _ hl0).trans ((o3 _ (by omega) n1).trans hL2)
      have hK4 := (o4 _ hD).trans ((o3 _ (by omega) n2).trans hK2)
      have hrow4 := row_turn (W := w4) hown' (fun g hg => o4 g (fun e => row_ne hown' hv3 (fun cur e => by simp at e) (by rw [hg, e])))
      have hb3 : Below w.heap.size w w3 := (hb2.alloc hb2.size _).grown hg3 (by have := hb2.size; rw [size_alloc]; omega) (fun k e => own_ge hrow2 k e)
      have hb4 : Below w.heap.size w w4 := by rw [← hw4]; exact hb3.setCell (Nat.le_refl _) _
      have z5 : ∀ o, (w4.putObj (D + 1) o).heap.size = w4.heap.size := fun o => by simp
      have hl4 : D + 1 < w4.heap.size := (Array.getElem?_eq_some_iff.1 hL4).1
      clear hw4
      refine ⟨_, _, run_endRound none hL4, ?_⟩
      rw [← HR.out]
      refine ⟨rfl, ⟨⟨_, (putObj_other' (Ne.symm hl0)).trans hv4, ?_⟩, World.putObj_heap_same hl4, (putObj_other' (by omega)).trans hK4, Below.putObj' hb4 (by omega) _⟩, by rw [z5]; omega, fun b cs t fr hb hne hr => ?_⟩
      · rw [List.length_append, HZ.out]
        exact row_turn hrow4 (fun g hg => putObj_other' (fun e => row_ne hrow4 hL4 (fun cur e => by cases e) (by rw [hg, e])))
      · have nl : b ≠ D + 1 := fun e => by have := h.L; rw [← e, hb] at this; cases this
        have hbl : b < W.heap.size := (Array.getElem?_eq_some_iff.1 hb).1
        exact (putObj_other' nl).trans ((o4 b hne).trans ((o3 b (by omega) (hr v hv)).trans ((o2 b nl).trans (oa b hbl))))
    · rintro e W2 ⟨⟨v0, rfl⟩, h2⟩
      obtain ⟨v, hv, hrow⟩ := h2.box
      have hend := run_endLoop (P := Tryz.prog) h2.L (by simp [apRec])
      obtain ⟨W3, hW3⟩ : ∃ W3, W2.putObj (D + 1) (.loop { apRec fn (.func (.func 81) #[] lb) w.heap.size D asg bod .ready none with state := .exhausted }) = W3 := ⟨_, rfl⟩
      rw [hW3] at hend
      have hg3 : W2.grownBy W3 (some (D + 1)) := by rw [← hW3]; exact grownBy_putObj' _ _ _
      have hv3 : W3.heap[w.heap.size]? = some (.cells #[v] 77 (0, 0)) := by rw [← hW3]; exact (World.putObj_heap_other (by omega)).trans hv
      have hK3 : W3.heap[D]? = some (.deferred (some [])) := by rw [← hW3]; exact (World.putObj_heap_other (by omega)).trans h2.K
      have hrow3 := row_turn (W := W3) hrow (fun g hg => by rw [← hW3]; exact World.putObj_heap_other (fun e => row_ne hrow h2.L (fun cur e => by cases e) (by rw [hg, e])))
      have hb3 : Below w.heap.size w W3 := h2.below.grown hg3 h2.below.size (fun k e => by cases e; omega)
      have hc3 : W3.cell? ⟨w.heap.size, 0, none⟩ = some v := Boxed.cell (t := 77) hv3
      clear hW3
      refine ⟨none, W3, hend, ?_⟩
      gi_wp2
      rw [← hs0]
      refine ⟨by simp, .inl ⟨_, _, rfl, run_takeDeferred hK3, ?_⟩⟩
      exact ⟨_, results_tmp rfl _ _ _, v, rfl, row_turn hrow3 (fun g hg => World.putObj_heap_other (fun e => row_ne hrow3 hK3 (fun cur e => by cases e) (by rw [hg, e]))), Below.putObj' hb3 (by omega) _⟩
end Go.Proofs.YtcbjecpfijogcaaGreat
