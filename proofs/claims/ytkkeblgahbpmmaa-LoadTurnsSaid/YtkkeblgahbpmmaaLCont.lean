
/- Contract: whether a hull contains a point. -/
import Derived.Test.YtkkeblgahbpmmaaLEdgeAll
import Derived.Test.YtkkeblgahbpmmaaHStack
namespace Go.Proofs.Ytkkeblgahbpmmaa
open Go.RowKit Go.Shelf Go.Lib Go.Maps
attribute [local go_sem] Oper.semAt_some

def edgeBad (a b : HPt) (x y d : Int) : Bool := decide ((b.1 - a.1) * (y - d * a.2) < (b.2 - a.2) * (x - d * a.1))
def okEs (x y d : Int) (l : List (HPt × HPt)) : Bool := l.all (fun e => !edgeBad e.1 e.2 x y d)
theorem okEs_nil (x y d : Int) : okEs x y d [] = true := rfl
theorem okEs_good {x y d : Int} {l : List (HPt × HPt)} {e : HPt × HPt} (h : okEs x y d l = true) (he : edgeBad e.1 e.2 x y d = false) : okEs x y d (l ++ [e]) = true := by
  unfold okEs at *
  rw [List.all_append, h, List.all_cons, he]
  rfl
theorem okEs_bad {x y d : Int} {l pre suf : List (HPt × HPt)} {e : HPt × HPt} (h : l = pre ++ e :: suf) (he : edgeBad e.1 e.2 x y d = true) : okEs x y d l = false := by
  unfold okEs
  rw [h, List.all_append, List.all_cons, he]
  simp
/-- whether a hull contains the point (x / d, y / d) -/
def containsB (h : List HPt) (x y d : Int) : Bool := okEs x y d (edgesP h) && (if 2 < h.length then true else
  inB x (d * min (h.getD 0 (0, 0)).1 (h.getD (h.length - 1) (0, 0)).1) (d * max (h.getD 0 (0, 0)).1 (h.getD (h.length - 1) (0, 0)).1) && inB y (d * min (h.getD 0 (0, 0)).2 (h.getD (h.length - 1) (0, 0)).2) (d * max (h.getD 0 (0, 0)).2 (h.getD (h.length - 1) (0, 0)).2))
/-- numbers for which the test is right -/
structure ContOk (h : List HPt) (x y d : Int) (A M : Int) : Prop where
  pts : ∀ p ∈ h, (-A ≤ p.1 ∧ p.1 ≤ A) ∧ (-A ≤ p.2 ∧ p.2 ≤ A)
  mul : ∀ p ∈ h, (-M ≤ d * p.1 ∧ d * p.1 ≤ M) ∧ (-M ≤ d * p.2 ∧ d * p.2 ≤ M) ∧ (-M ≤ x - d * p.1 ∧ x - d * p.1 ≤ M) ∧ (-M ≤ y - d * p.2 ∧ y - d * p.2 ≤ M)
  a0 : 0 ≤ A ∧ A ≤ 1000000000000
  m0 : 0 ≤ M ∧ M ≤ 1000000000000000000
  am : 2 * A * M ≤ 4000000000000000000
theorem edge_mem {h : List HPt} {e : HPt × HPt} (he : e ∈ edgesP h) : e.1 ∈ h ∧ e.2 ∈ h := by
  unfold edgesP at he
  split at he
  · rename_i h1
    obtain ⟨i, hi, rfl⟩ := List.mem_map.1 he
    have hl := List.mem_range.1 hi
    refine ⟨?_, ?_⟩
    · show h.getD i (0, 0) ∈ h
      rw [getD_lt hl]
      exact List.getElem_mem _
    · show nxtL h i ∈ h
      unfold nxtL
      rw [getD_lt (Nat.mod_lt _ (by omega))]
      exact List.getElem_mem _
  · simp at he
theorem cont_wraps {h : List HPt} {x y d A M : Int} (hk : ContOk h x y d A M) {a b : HPt} (ha : a ∈ h) (hb : b ∈ h) :
    IntKind.i64.wrap (b.1 - a.1) = b.1 - a.1 ∧ IntKind.i64.wrap (d * a.2) = d * a.2 ∧ IntKind.i64.wrap (y - d * a.2) = y - d * a.2 ∧ IntKind.i64.wrap ((b.1 - a.1) * (y - d * a.2)) = (b.1 - a.1) * (y - d * a.2) ∧
    IntKind.i64.wrap (b.2 - a.2) = b.2 - a.2 ∧ IntKind.i64.wrap (d * a.1) = d * a.1 ∧ IntKind.i64.wrap (x - d * a.1) = x - d * a.1 ∧ IntKind.i64.wrap ((b.2 - a.2) * (x - d * a.1)) = (b.2 - a.2) * (x - d * a.1) := by
  have p1 := hk.pts a ha
  have p2 := hk.pts b hb
  have m1 := hk.mul a ha
  have h0 := hk.a0
  have h1 := hk.m0
  have h2 := hk.am
  have k1 := Pl.mul_bd (a := b.1 - a.1) (b := y - d * a.2) (A := 2 * A) (B := M) (by omega) (by omega) (by omega) (by omega)
  have k2 := Pl.mul_bd (a := b.2 - a.2) (b := x - d * a.1) (A := 2 * A) (B := M) (by omega) (by omega) (by omega) (by omega)
  refine ⟨IntWalk.i64_in _ (by omega), IntWalk.i64_in _ (by omega), IntWalk.i64_in _ (by omega), IntWalk.i64_in _ (by omega), IntWalk.i64_in _ (by omega), IntWalk.i64_in _ (by omega), IntWalk.i64_in _ (by omega), IntWalk.i64_in _ (by omega)⟩
set_option maxRecDepth 100000 in
set_option maxHeartbeats 8000000 in
theorem contains_c (v : Value) (h : List HPt) (x y d A M : Int) (w : World) (hs : Pts w v h) (h0 : 0 < h.length) (hn : h.length ≤ 100000) (hk : ContOk h x y d A M) :
    Calls Try.prog 57 #[v, .int .i64 x, .int .i64 y, .int .i64 d] w fun e w' => e = .returned (.bool (containsB h x y d)) ∧ Ext w w' := by
  have HSQ := Lib.hid (fun W (hw : Ext w W) T t => edges_seq v h w W hs T t hn)
  rcases hs with ⟨a0, c0, rfl, rfl⟩ | ⟨b, off, cap, rfl, hl, hcap, hc⟩
  · simp at h0
  have HC := Lib.hid hc
  have HK := Lib.hid hk
  clear hc hk
  refine (callsIn_wide (n := 5)).1 ?_
  refine callsIn_of_wp_marks Try.func57 rfl trivial ?_ rfl
  simp only [Try.ntmps57, List.size_toArray, List.length_cons, List.length_nil, Nat.reduceAdd, Nat.reduceSub, Array.replicate_succ, Array.replicate_zero, List.push_toArray, List.append_toArray, List.nil_append, List.cons_append]
  refine wpIn_wide.2 ?_
  go_upto_region 1 with fail
  have bx := lb_alloc (lb_alloc (lb_alloc (lb_new w (.cells #[.int .i64 x] 2)) (.cells #[.int .i64 y] 2)) (.cells #[.int .i64 d] 2)) (.cells #[.bool false] 4)
  have by' := lb_alloc (lb_alloc (lb_new (w.alloc (.cells #[.int .i64 x] 2)) (.cells #[.int .i64 y] 2)) (.cells #[.int .i64 d] 2)) (.cells #[.bool false] 4)
  have bd := lb_alloc (lb_new ((w.alloc (.cells #[.int .i64 x] 2)).alloc (.cells #[.int .i64 y] 2)) (.cells #[.int .i64 d] 2)) (.cells #[.bool false] 4)
  have br := lb_new (((w.alloc (.cells #[.int .i64 x] 2)).alloc (.cells #[.int .i64 y] 2)).alloc (.cells #[.int .i64 d] 2)) (.cells #[.bool false] 4)
  simp only [size_alloc] at by' bd br
  have e4 : Ext w ((((w.alloc (.cells #[.int .i64 x] 2)).alloc (.cells #[.int .i64 y] 2)).alloc (.cells #[.int .i64 d] 2)).alloc (.cells #[.bool false] 4)) := ((((Ext.refl w).alloc _).alloc _).alloc _).alloc _
  have z4 : ((((w.alloc (.cells #[.int .i64 x] 2)).alloc (.cells #[.int .i64 y] 2)).alloc (.cells #[.int .i64 d] 2)).alloc (.cells #[.bool false] 4)).heap.size = w.heap.size + 4 := by simp only [size_alloc]
  generalize ((((w.alloc (.cells #[.int .i64 x] 2)).alloc (.cells #[.int .i64 y] 2)).alloc (.cells #[.int .i64 d] 2)).alloc (.cells #[.bool false] 4)) = W4 at *
  have SQ := HSQ.out W4 e4 (fun _ => False) 2
  have H4 := Lib.hid (And.intro bx (And.intro by' (And.intro bd (And.intro br e4))))
  have Hz4 := Lib.hid z4
  clear bx by' bd br z4
  go_wp2_with fail
  refine (wpIn_wide (n := 5)).1 ?_
  refine wpIn_rangeFunc_T3 (α := HPt × HPt) (n := 5) rfl (by omega) (gf := 77) rfl trivial (enters_of Try.func77 (by kernel_rfl) rfl) SQ (Ext.refl _) (fun _ => rfl)
    (fun pre W' => Ext w W' ∧ (W'.heap[w.heap.size]? = some (.cells #[.int .i64 x] 2 (0, 0)) ∧ W'.heap[w.heap.size + 1]? = some (.cells #[.int .i64 y] 2 (0, 0)) ∧ W'.heap[w.heap.size + 1 + 1]? = some (.cells #[.int .i64 d] 2 (0, 0)) ∧ W'.heap[w.heap.size + 1 + 1 + 1]? = some (.cells #[.bool false] 4 (0, 0))) ∧ okEs x y d pre = true)
    (fun c pre W' => c = .ret ∧ Ext w W' ∧ W'.heap[w.heap.size + 1 + 1 + 1]? = some (.cells #[.bool false] 4 (0, 0)) ∧ okEs x y d (edgesP h) = false)
    (fun _ _ h => h.1) ?_ ?_ ?_ ?_ ⟨H4.out.2.2.2.2, ⟨H4.out.1, H4.out.2.1, H4.out.2.2.1, H4.out.2.2.2.1⟩, rfl⟩
    (fun e a' W' => ∃ H1 H2, W'.cell? ⟨H1, 0, none⟩ = some (.int .i64 e.1.1) ∧ W'.cell? ⟨H1, 1, none⟩ = some (.int .i64 e.1.2) ∧ W'.cell? ⟨H2, 0, none⟩ = some (.int .i64 e.2.1) ∧ W'.cell? ⟨H2, 1, none⟩ = some (.int .i64 e.2.2) ∧ a' = ({ tmps := #[.slice (some ⟨b, off, none⟩) h.length cap, .int .i64 x, .int .i64 y, .int .i64 d, undef, .pointer (some ⟨w.heap.size, 0, none⟩), .pointer (some ⟨w.heap.size + 1, 0, none⟩), .pointer (some ⟨w.heap.size + 1 + 1, 0, none⟩), .pointer (some ⟨w.heap.size + 1 + 1 + 1, 0, none⟩), .pointer (some ⟨H1, 0, none⟩), .pointer (some ⟨H2, 0, none⟩), undef, undef, .slice (some ⟨b, off, none⟩) h.length cap, .func (.func 77) #[.slice (some ⟨b, off, none⟩) h.length cap] #[], .agg #[.int .i64 e.1.1, .int .i64 e.1.2], .agg #[.int .i64 e.2.1, .int .i64 e.2.2], undef, undef, undef, undef, undef, undef, undef, undef, undef, undef, undef, undef, undef, undef, undef, undef, undef, undef, undef, undef, undef, undef, undef, undef, undef, undef, undef, undef, undef, undef, undef, undef, undef, undef, undef, undef, undef, undef, undef, undef, undef, undef, undef, undef, undef, undef, undef, undef, undef, undef, undef, undef, undef, undef, undef, undef, undef, undef, undef, undef, undef, undef, undef, undef, undef, undef, undef, undef, undef, undef, undef], defers := [] } : Act)) ?_ ?_ ?_ ?_ ?_
  · exact fun s W1 W' ⟨h1, ⟨h2, h3, h4, h5⟩, h6⟩ he => ⟨h1.trans he, ⟨lb_ext h2 he, lb_ext h3 he, lb_ext h4 he, lb_ext h5 he⟩, h6⟩
  · exact fun s W0 p u cs fr ⟨h1, ⟨h2, h3, h4, h5⟩, h6⟩ hp hge => ⟨h1.set (by have := Hz4.out; omega) u, ⟨(Below.heap_setCell _ _ _ _ (by have := Hz4.out; omega)).trans h2, (Below.heap_setCell _ _ _ _ (by have := Hz4.out; omega)).trans h3, (Below.heap_setCell _ _ _ _ (by have := Hz4.out; omega)).trans h4, (Below.heap_setCell _ _ _ _ (by have := Hz4.out; omega)).trans h5⟩, h6⟩
  · exact fun s W0 l o o' ⟨h1, ⟨h2, h3, h4, h5⟩, h6⟩ hl hW ho => ⟨h1.put (by have := Hz4.out; omega) o', ⟨(World.putObj_heap_other (by have := Hz4.out; omega)).trans h2, (World.putObj_heap_other (by have := Hz4.out; omega)).trans h3, (World.putObj_heap_other (by have := Hz4.out; omega)).trans h4, (World.putObj_heap_other (by have := Hz4.out; omega)).trans h5⟩, h6⟩
  · exact fun c s W0 l o o' ⟨h0, h1, h2, h3⟩ hl hW ho => ⟨h0, h1.put (by have := Hz4.out; omega) o', (World.putObj_heap_other (by have := Hz4.out; omega)).trans h2, h3⟩
  · exact fun e a' W0 l1 o1 o' ⟨H1, H2, h1, h2, h3, h4, h5⟩ _ hW ho => ⟨H1, H2, cell_put h1 o' hW ho, cell_put h2 o' hW ho, cell_put h3 o' hW ho, cell_put h4 o' hW ho, h5⟩
  · intro l1 e W0 K hz hK
    obtain ⟨⟨xa, xb⟩, ⟨ya, yb⟩⟩ := e
    simp only [encEd, vPt] at hK ⊢
    gi_wp2
    exact hK _ _ (((Ext.refl W0).alloc _).alloc _) ⟨W0.heap.size, W0.heap.size + 1, by go_simp, by go_simp, by go_simp, by go_simp, rfl⟩
  · rintro l1 pre e suf a' Wr ⟨j1, ⟨j2, j3, j4, j5⟩, j6⟩ ⟨H1, H2, k1, k2, k3, k4, rfl⟩ hsp hz
    have hem : e ∈ edgesP h := by rw [hsp]; simp
    obtain ⟨m1, m2⟩ := edge_mem hem
    obtain ⟨q1, q2, q3, q4, q5, q6, q7, q8⟩ := cont_wraps HK.out m1 m2
    have HSP := Lib.hid hsp
    have HJ := Lib.hid (And.intro j1 (And.intro j2 (And.intro j3 (And.intro j4 (And.intro j5 j6)))))
    have x0 : Wr.cell? ⟨w.heap.size, 0, none⟩ = some (.int .i64 x) := lb_cell j2 0 _ rfl
    have y0 : Wr.cell? ⟨w.heap.size + 1, 0, none⟩ = some (.int .i64 y) := lb_cell j3 0 _ rfl
    have d0 : Wr.cell? ⟨w.heap.size + 1 + 1, 0, none⟩ = some (.int .i64 d) := lb_cell j4 0 _ rfl
    have r0 : Wr.cell? ⟨w.heap.size + 1 + 1 + 1, 0, none⟩ = some (.bool false) := lb_cell j5 0 _ rfl
    have f0 := lb_frz j5 0
    have hbd : edgeBad e.1 e.2 x y d = decide ((e.2.1 - e.1.1) * (y - d * e.1.2) < (e.2.2 - e.1.2) * (x - d * e.1.1)) := rfl
    have HBD := Lib.hid hbd
    clear j1 j2 j3 j4 j5 j6 hsp hem m1 m2 hbd
    obtain ⟨⟨a1, a2⟩, ⟨b1, b2⟩⟩ := e
    simp only at *
    by_cases hb : (b1 - a1) * (y - d * a2) < (b2 - a2) * (x - d * a1)
    · have HB := Lib.hid hb
      gi_wp2
      refine ⟨KeepsOthers.setCell _ _ _, rfl, HJ.out.1.set (by simp; omega) _, lb_set 0 (.bool false) HJ.out.2.2.2.2.1, okEs_bad HSP.out (HBD.out.trans (decide_eq_true (by have := HB.out; omega)))⟩
    · have HB := Lib.hid hb
      gi_wp2
      refine ⟨KeepsOthers.refl _, ⟨Nat.le_refl _, fun _ _ _ _ h => h.elim⟩, HJ.out.1, ⟨HJ.out.2.1, HJ.out.2.2.1, HJ.out.2.2.2.1, HJ.out.2.2.2.2.1⟩, okEs_good HJ.out.2.2.2.2.2 (HBD.out.trans (decide_eq_false (by have := HB.out; omega)))⟩
  · rintro D W hD ⟨j1, ⟨j2, j3, j4, j5⟩, j6⟩ hDD
    have hz := Hz4.out
    have HJ := Lib.hid (And.intro j1 (And.intro j2 (And.intro j3 (And.intro j4 (And.intro j5 j6)))))
    have hDD' := Lib.hid hDD
    have x0 : W.cell? ⟨w.heap.size, 0, none⟩ = some (.int .i64 x) := lb_cell j2 0 _ rfl
    have y0 : W.cell? ⟨w.heap.size + 1, 0, none⟩ = some (.int .i64 y) := lb_cell j3 0 _ rfl
    have d0 : W.cell? ⟨w.heap.size + 1 + 1, 0, none⟩ = some (.int .i64 d) := lb_cell j4 0 _ rfl
    have r0 : W.cell? ⟨w.heap.size + 1 + 1 + 1, 0, none⟩ = some (.bool false) := lb_cell j5 0 _ rfl
    have f0 := lb_frz j5 0
    clear j1 j2 j3 j4 j5 j6 hDD
    refine (‹∀ (a : Act) (w : World), Code.wp Try.prog _ _ a w → _›) _ _ ?_
    by_cases h2 : 2 < h.length
    · have g2 : (2 : Int) < (h.length : Int) := by omega
      have H2 := Lib.hid h2
      go_wp2_with fail
      have hD5 := lb_old (i := 0) (u := .bool true) hDD'.out (show D ≠ w.heap.size + 1 + 1 + 1 by omega)
      have bR5 := lb_set 0 (.bool true) HJ.out.2.2.2.2.1
      simp only [List.setIfInBounds_toArray, List.set_cons_zero] at bR5
      have e5 := HJ.out.1.set (p := ⟨w.heap.size + 1 + 1 + 1, 0, none⟩) (by simp; omega) (.bool true)
      have r6 : ((W.setCell ⟨w.heap.size + 1 + 1 + 1, 0, none⟩ (.bool true)).putObj D (.deferred none)).heap[w.heap.size + 1 + 1 + 1]? = _ := (World.putObj_heap_other (by omega)).trans bR5
      have n0 : ((W.setCell ⟨w.heap.size + 1 + 1 + 1, 0, none⟩ (.bool true)).putObj D (.deferred none)).cell? ⟨w.heap.size + 1 + 1 + 1, 0, none⟩ = some (.bool true) := lb_cell r6 0 _ rfl
      refine ⟨by simp, .inl ⟨_, _, rfl, run_takeDeferred hD5, ?_⟩⟩
      refine ⟨.bool true, by simp [results, Try.results57, go_sem, n0], ?_⟩
      exact ⟨by unfold containsB; rw [HJ.out.2.2.2.2.2, if_pos H2.out]; rfl, e5.put (by omega) _⟩
    · have g2 : ¬ (2 : Int) < (h.length : Int) := by omega
      have H2 := Lib.hid h2
      obtain ⟨N1, hN1⟩ : ∃ N1, h.length = N1 + 1 := ⟨h.length - 1, by omega⟩
      have hN1' : h.length - 1 = N1 := by omega
      have wm1 : IntKind.i64.wrap ((h.length : Int) - 1) = (N1 : Int) := by rw [IntWalk.i64_in _ (by omega)]; omega
      have hlt1 : N1 < h.length := by omega
      have ca := HC.out 0 h0
      have cb := HC.out N1 hlt1
      have ma := HK.out.mul _ (show h.getD 0 (0, 0) ∈ h by rw [getD_lt h0]; exact List.getElem_mem _)
      have mb := HK.out.mul _ (show h.getD N1 (0, 0) ∈ h by rw [getD_lt hlt1]; exact List.getElem_mem _)
      have hm0 := HK.out.m0
      have hcB : containsB h x y d = (okEs x y d (edgesP h) && (inB x (d * min (h.getD 0 (0, 0)).1 (h.getD N1 (0, 0)).1) (d * max (h.getD 0 (0, 0)).1 (h.getD N1 (0, 0)).1) && inB y (d * min (h.getD 0 (0, 0)).2 (h.getD N1 (0, 0)).2) (d * max (h.getD 0 (0, 0)).2 (h.getD N1 (0, 0)).2))) := by
        unfold containsB
        rw [if_neg h2, hN1']
      have HCB := Lib.hid hcB
      clear hcB h2 hN1 hN1'
      generalize h.getD 0 (0, 0) = p at *
      generalize h.getD N1 (0, 0) = q at *
      obtain ⟨p1, p2⟩ := p
      obtain ⟨q1, q2⟩ := q
      simp only [Nat.zero_mul, Nat.add_zero] at ca cb ma mb
      have ca1 := HJ.out.1.cell ca.1
      have ca2 := HJ.out.1.cell ca.2
      have cb1 := HJ.out.1.cell cb.1
      have cb2 := HJ.out.1.cell cb.2
      have hbw := lt_of_cell ca1
      have e1 : IntKind.i64.wrap (d * min p1 q1) = d * min p1 q1 := by
        rcases Int.le_total p1 q1 with h | h
        · rw [Int.min_eq_left h]; exact IntWalk.i64_in _ (by omega)
        · rw [Int.min_eq_right h]; exact IntWalk.i64_in _ (by omega)
      have e2 : IntKind.i64.wrap (d * max p1 q1) = d * max p1 q1 := by
        rcases Int.le_total p1 q1 with h | h
        · rw [Int.max_eq_right h]; exact IntWalk.i64_in _ (by omega)
        · rw [Int.max_eq_left h]; exact IntWalk.i64_in _ (by omega)
      have e3 : IntKind.i64.wrap (d * min p2 q2) = d * min p2 q2 := by
        rcases Int.le_total p2 q2 with h | h
        · rw [Int.min_eq_left h]; exact IntWalk.i64_in _ (by omega)
        · rw [Int.min_eq_right h]; exact IntWalk.i64_in _ (by omega)
      have e5 : IntKind.i64.wrap (d * max p2 q2) = d * max p2 q2 := by
        rcases Int.le_total p2 q2 with h | h
        · rw [Int.max_eq_right h]; exact IntWalk.i64_in _ (by omega)
        · rw [Int.max_eq_left h]; exact IntWalk.i64_in _ (by omega)
      have B1 := fun W => between_c x (d * min p1 q1) (d * max p1 q1) W
      have B2 := fun W => between_c y (d * min p2 q2) (d * max p2 q2) W
      clear ca cb ma mb hm0
      go_upto_region 8 with fail
      go_cut [11, 12] from 45 to 53 (fun sa sb wc => ∃ ba bb : Nat, sa = .pointer (some ⟨ba, 0, none⟩) ∧ sb = .pointer (some ⟨bb, 0, none⟩) ∧ Ext W wc ∧ wc.heap[ba]? = some (.cells #[.int .i64 p1, .int .i64 p2] 52 (0, 0)) ∧ wc.heap[bb]? = some (.cells #[.int .i64 q1, .int .i64 q2] 52 (0, 0)))
      case first =>
        go_region_held3 (fun w' => w'.cell? ⟨b, off, none⟩ = some (.int .i64 p1) ∧ w'.cell? ⟨b, off + 1, none⟩ = some (.int .i64 p2) ∧ w'.cell? ⟨b, off + N1 * 2, none⟩ = some (.int .i64 q1) ∧ w'.cell? ⟨b, off + N1 * 2 + 1, none⟩ = some (.int .i64 q2))
          (exact (fun (E : Ext W _) => ⟨E.cell ca1, E.cell ca2, E.cell cb1, E.cell cb2⟩) (by (repeat' (first | exact Ext.refl _ | assumption | refine Ext.alloc ?_ _ | refine Ext.drew ?_ | refine Ext.drewN ?_ _ | refine Ext.set ?_ (by first | exact Nat.le_refl _ | exact le1 _ | exact le2 _ | exact le3 _ | exact le4 _ | exact le5 _ | exact le6 _) _ | refine Ext.trans ?_ (by assumption))))) (fail)
        all_goals
          go_wp2_with fail
          go_meet
          first
            | exact ⟨W.heap.size, W.heap.size + 1, rfl, rfl, (((Ext.refl W).alloc _).alloc _).drew, h2_first W _ _, h2_second W _ _⟩
            | exact ⟨W.heap.size + 1, W.heap.size, rfl, rfl, (((Ext.refl W).alloc _).alloc _).drew, h2_second W _ _, h2_first W _ _⟩
      case rest =>
        obtain ⟨ba, bb, rfl, rfl, E1, hA, hB⟩ := hcut
        clear ca1 ca2 cb1 cb2
        replace x0 := E1.cell x0
        replace y0 := E1.cell y0
        replace d0 := E1.cell d0
        replace r0 := E1.cell r0
        have f0 := lb_frz (lb_ext HJ.out.2.2.2.2.1 E1) 0
        have a0 : wc.cell? ⟨ba, 0, none⟩ = some (.int .i64 p1) := lb_cell hA 0 _ rfl
        have a1 : wc.cell? ⟨ba, 1, none⟩ = some (.int .i64 p2) := lb_cell hA 1 _ rfl
        have b0 : wc.cell? ⟨bb, 0, none⟩ = some (.int .i64 q1) := lb_cell hB 0 _ rfl
        have b1 : wc.cell? ⟨bb, 1, none⟩ = some (.int .i64 q2) := lb_cell hB 1 _ rfl
        have HE1 := Lib.hid E1
        obtain ⟨s1, hs1⟩ : ∃ s1, inB x (d * min p1 q1) (d * max p1 q1) = s1 := ⟨_, rfl⟩
        obtain ⟨s2, hs2⟩ : ∃ s2, inB y (d * min p2 q2) (d * max p2 q2) = s2 := ⟨_, rfl⟩
        simp only [hs1] at B1
        simp only [hs2] at B2
        have HS := Lib.hid (And.intro hs1 hs2)
        replace B1 := Lib.hid B1
        replace B2 := Lib.hid B2
        clear hA hB E1 hs1 hs2
        have fin : ∀ (r : Bool), r = (s1 && s2) → (∃ n0 : ((wc.setCell ⟨w.heap.size + 1 + 1 + 1, 0, none⟩ (.bool r)).putObj D (.deferred none)).cell? ⟨w.heap.size + 1 + 1 + 1, 0, none⟩ = some (.bool r), (wc.setCell ⟨w.heap.size + 1 + 1 + 1, 0, none⟩ (.bool r)).heap[D]? = some (.deferred (some [])) ∧ r = containsB h x y d ∧ Ext w ((wc.setCell ⟨w.heap.size + 1 + 1 + 1, 0, none⟩ (.bool r)).putObj D (.deferred none))) := by
          intro r hr
          have bR5 := lb_set 0 (.bool r) (lb_ext HJ.out.2.2.2.2.1 HE1.out)
          simp only [List.setIfInBounds_toArray, List.set_cons_zero] at bR5
          have r6 : ((wc.setCell ⟨w.heap.size + 1 + 1 + 1, 0, none⟩ (.bool r)).putObj D (.deferred none)).heap[w.heap.size + 1 + 1 + 1]? = _ := (World.putObj_heap_other (by omega)).trans bR5
          refine ⟨lb_cell r6 0 _ rfl, lb_old (lb_ext hDD'.out HE1.out) (by omega), ?_, ((HJ.out.1.trans HE1.out).set (by simp; omega) _).put (by omega) _⟩
          rw [HCB.out, HJ.out.2.2.2.2.2, hr]
          show _ = (true && (inB x (d * min p1 q1) (d * max p1 q1) && inB y (d * min p2 q2) (d * max p2 q2)))
          rw [HS.out.1, HS.out.2, Bool.true_and]
        have FIN := Lib.hid fin
        clear fin
        cases s1
        · obtain ⟨n0, k1, k2, k3⟩ := FIN.out false rfl
          have HK3 := Lib.hid (And.intro k1 (And.intro k2 k3))
          clear k1 k2 k3
          go_wp2_with (go_at_call 34; refine (B1.out _).mono ?_; rintro r w1 ⟨rfl, rfl⟩)
          refine ⟨by simp, .inl ⟨_, _, rfl, run_takeDeferred HK3.out.1, ?_⟩⟩
          refine ⟨.bool false, by simp [results, Try.results57, go_sem, n0], ?_⟩
          exact ⟨by rw [← HK3.out.2.1], HK3.out.2.2⟩
        · obtain ⟨n0, k1, k2, k3⟩ := FIN.out s2 (by simp)
          have HK3 := Lib.hid (And.intro k1 (And.intro k2 k3))
          clear k1 k2 k3
          go_wp2_with (first | (go_at_call 34; refine (B1.out _).mono ?_; rintro r w1 ⟨rfl, rfl⟩; clear B1) | (go_at_call 34; refine (B2.out _).mono ?_; rintro r w1 ⟨rfl, rfl⟩; clear B2))
          refine ⟨by simp, .inl ⟨_, _, rfl, run_takeDeferred HK3.out.1, ?_⟩⟩
          refine ⟨.bool s2, by simp [results, Try.results57, go_sem, n0], ?_⟩
          exact ⟨by rw [← HK3.out.2.1], HK3.out.2.2⟩
  · rintro D c pre W hD ⟨rfl, j1, j2, j3⟩ hDD
    have hz := Hz4.out
    have r5 : (W.putObj D (.deferred none)).heap[w.heap.size + 1 + 1 + 1]? = _ := (World.putObj_heap_other (by omega)).trans j2
    have n0 : (W.putObj D (.deferred none)).cell? ⟨w.heap.size + 1 + 1 + 1, 0, none⟩ = some (.bool false) := lb_cell r5 0 _ rfl
    refine wpIn_wide.2 ?_
    go_wp2_with fail
    refine ⟨by simp, .inl ⟨_, _, rfl, run_takeDeferred hDD, ?_⟩⟩
    refine ⟨.bool false, by simp [results, Try.results57, go_sem, n0], ?_⟩
    exact ⟨by unfold containsB; rw [j3]; rfl, j1.put (by omega) _⟩
end Go.Proofs.Ytkkeblgahbpmmaa
