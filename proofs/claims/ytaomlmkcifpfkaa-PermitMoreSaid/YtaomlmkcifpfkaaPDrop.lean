/- Contract: 'drop' of Conflict: a condition is dropped, if the others still contradict each other. -/
import Derived.Test.YtaomlmkcifpfkaaPDel
import Derived.Test.YtaomlmkcifpfkaaPKindAll
import Derived.Test.YtaomlmkcifpfkaaPNext
namespace Go.Proofs.Ytaomlmkcifpfkaa
open Go.RowKit Go.Shelf Go.Maps

theorem one_rule {w : World} {cs : List Value} {r : PRule} (h : RRule w cs r) : ∀ u ∈ cs, u.oneCell' = true := by
  obtain ⟨vr, vw, vc, rfl, h1, h2, h3⟩ := h
  obtain ⟨_, _, rfl, _, _⟩ := h1.shape
  obtain ⟨_, _, rfl, _, _⟩ := h2.shape
  obtain ⟨_, _, rfl, _, _⟩ := h3.shape
  intro u hu
  simp only [ruleCs, List.mem_cons, List.not_mem_nil, or_false] at hu
  rcases hu with rfl | rfl | rfl | rfl | rfl | rfl | rfl | rfl | rfl | rfl | rfl <;> rfl
theorem one_int' {w : World} {cs : List Value} {r : Int} (h : RInt w cs r) : ∀ u ∈ cs, u.oneCell' = true := by
  unfold RInt at h
  subst h
  intro u hu
  simp only [List.mem_cons, List.not_mem_nil, or_false] at hu
  subst hu
  rfl
theorem own_some {α : Type} {n : Nat} {e : TypeId} {R : World → List Value → α → Prop} {base : Nat} {w : World} {v : Value} {l : List α} (h : OwnL n e R base w v l) (hp : 0 < l.length) :
    ∃ g cap, v = .slice (some ⟨g, 0, none⟩) l.length cap ∧ base ≤ g ∧ g < w.heap.size ∧ ∃ cur, w.heap[g]? = some (.cells cur e (0, 0)) := by
  obtain ⟨css, hcl, hown, hcx⟩ := h
  rcases hown.2 with ⟨_, h0⟩ | ⟨g, cap, cur, hv, hb, hg, hr⟩
  · omega
  · exact ⟨g, cap, hv, hb, (Array.getElem?_eq_some_iff.1 hg).1, cur, hg⟩
theorem box_ne {W : World} {B g : Nat} {t e : TypeId} {v : Value} {cur : Array Value} (h : Boxed W B t v) (hg : W.heap[g]? = some (.cells cur e (0, 0))) (hne : t ≠ e) : B ≠ g := by
  rintro rfl
  rw [show W.heap[B]? = _ from h] at hg
  cases hg
  exact hne rfl
theorem box_grown {W W' : World} {B g : Nat} {t : TypeId} {v : Value} (h : Boxed W B t v) (hg : W.grownBy W' (some g)) (hne : B ≠ g) : Boxed W' B t v := (hg.block B (Array.getElem?_eq_some_iff.1 h).1 (fun e => hne (Option.some.inj e))).trans h
theorem box_set {W : World} {B B' : Nat} {t : TypeId} {v : Value} (h : Boxed W B t v) (hne : B ≠ B') (u : Value) : Boxed (W.setCell ⟨B', 0, none⟩ u) B t v := (Below.heap_setCell W ⟨B', 0, none⟩ u B hne).trans h
theorem box_box_ne {W : World} {B B' : Nat} {t t' : TypeId} {v v' : Value} (h : Boxed W B t v) (h' : Boxed W B' t' v') (hne : t ≠ t') : B ≠ B' := by
  rintro rfl
  have h1 : W.heap[B]? = some (.cells #[v] t (0, 0)) := h
  have h2 : W.heap[B]? = some (.cells #[v'] t' (0, 0)) := h'
  rw [h1] at h2
  cases h2
  exact hne rfl
theorem own_ne_obj {α : Type} {n : Nat} {e t : TypeId} {R : World → List Value → α → Prop} {base j : Nat} {W : World} {v : Value} {l : List α} {cs : Array Value} {fr : Nat × Nat} (h : OwnL n e R base W v l) (hj : W.heap[j]? = some (.cells cs t fr)) (hne : t ≠ e) : v.ownBlock ≠ some j := by
  obtain ⟨css, hcl, hown, hcx⟩ := h
  intro hv
  rcases hown.2 with ⟨rfl, _⟩ | ⟨g, cap, cur, rfl, hb, hg, hr⟩
  · simp [Value.ownBlock] at hv
  · have : g = j := by simpa [Value.ownBlock] using hv
    subst this
    rw [hg] at hj
    cases hj
    exact hne rfl
theorem own_ne_box {α : Type} {n : Nat} {e t : TypeId} {R : World → List Value → α → Prop} {base j : Nat} {W : World} {v u : Value} {l : List α} (h : OwnL n e R base W v l) (hj : Boxed W j t u) (hne : t ≠ e) : v.ownBlock ≠ some j := own_ne_obj h hj hne
/-- between two calls of drop -/
structure DrSt (w0 : World) (nb Bl Bk Bt Bn k : Nat) (ts : List ByteArray) (ls : List PRule) (ns : List Int) (W : World) : Prop where
  e : Ext w0 W
  bl : ∃ v, Boxed W Bl 42 v ∧ OwnL 11 58 (fun _ => RRule w0) nb W v ls
  bn : ∃ v, Boxed W Bn 41 v ∧ OwnL 1 3 (fun _ => RInt w0) nb W v ns
  bk : Boxed W Bk 3 (.int .i64 k)
  bt : ∃ v, Boxed W Bt 51 v ∧ OwnL 1 9 (fun _ => RStr w0) w0.heap.size W v ts
theorem box_ext {W W' : World} {B : Nat} {t : TypeId} {v : Value} (h : Boxed W B t v) (he : Ext W W') : Boxed W' B t v := (he.block B (Array.getElem?_eq_some_iff.1 h).1).trans h
theorem DrSt.ext {w0 : World} {nb Bl Bk Bt Bn k : Nat} {ts : List ByteArray} {ls : List PRule} {ns : List Int} {W W' : World} (h : DrSt w0 nb Bl Bk Bt Bn k ts ls ns W) (he : Ext W W') : DrSt w0 nb Bl Bk Bt Bn k ts ls ns W' := by
  obtain ⟨h1, ⟨vl, h2, h3⟩, ⟨vn, h4, h5⟩, h6, ⟨vt, h7, h8⟩⟩ := h
  exact ⟨h1.trans he, ⟨vl, box_ext h2 he, h3.ext (fun _ _ _ _ _ h => h) he⟩, ⟨vn, box_ext h4 he, h5.ext (fun _ _ _ _ _ h => h) he⟩, box_ext h6 he, ⟨vt, box_ext h7 he, h8.ext (fun _ _ _ _ _ h => h) he⟩⟩

set_option maxRecDepth 100000 in
set_option maxHeartbeats 3200000 in
theorem drop_c (w0 : World) (nb Bl Bk Bt Bn k i : Nat) (ts : List ByteArray) (ls : List PRule) (ns : List Int) (W : World) (hS : DrSt w0 nb Bl Bk Bt Bn k ts ls ns W)
    (hk : Bk < nb) (hl0 : w0.heap.size ≤ Bl) (hn0 : w0.heap.size ≤ Bn) (hnb : w0.heap.size ≤ nb) (hnw : nb ≤ W.heap.size) (hne : Bl ≠ Bn) (hi : i < ls.length) (hln : ns.length = ls.length) (hlen : ls.length ≤ 1000) (hv : ∀ r ∈ ls, ruleB r = true) (hk1 : 1 ≤ k) (hk2 : k < 5 + ts.length) :
    Calls Try.prog 64 #[.int .i64 i, .pointer (some ⟨Bl, 0, none⟩), .pointer (some ⟨Bk, 0, none⟩), .pointer (some ⟨Bt, 0, none⟩), .pointer (some ⟨Bn, 0, none⟩)] W fun e W' => (∃ v, e = .returned v) ∧
      DrSt w0 nb Bl Bk Bt Bn k ts (if ofB (ls.eraseIdx i) ts k = true then ls.eraseIdx i else ls) (if ofB (ls.eraseIdx i) ts k = true then ns.eraseIdx i else ns) W' ∧ W.heap.size ≤ W'.heap.size := by
  obtain ⟨vl, bl, ol⟩ := hS.bl
  obtain ⟨vn, bn, on⟩ := hS.bn
  obtain ⟨vt, bt, ot⟩ := hS.bt
  obtain ⟨gl, capl, rfl, hgl, hgl2, _⟩ := own_some ol (by omega)
  obtain ⟨gn, capn, rfl, hgn, hgn2, curn, hcurn⟩ := own_some on (by omega)
  have c1 := bl.cell
  have c2 := hS.bk.cell
  have c3 := bt.cell
  have c4 := bn.cell
  have C1 := fun w' (h : Ext W w') => cloneRule_c (R := fun _ => RRule w0) _ ls w' ((ol.ext (fun _ _ _ _ _ h => h) h).sl) (fun cs x h => one_rule h) hlen
  have hve : ∀ r ∈ ls.eraseIdx i, ruleB r = true := fun r hr => hv r (List.mem_of_mem_eraseIdx hr)
  have C3 := fun v' w' (h : Ext w0 w') (hs : Sl 11 RRule w' v' (ls.eraseIdx i)) (ht : Sl 1 RStr w' vt ts) => of_c v' vt (ls.eraseIdx i) ts k w' hs ht hve hk1 hk2
  obtain ⟨At, capt, rfl, _, _⟩ := ot.sl.shape
  have HS := Lib.hid hS
  have HOL := Lib.hid ol
  have HON := Lib.hid on
  have HOT := Lib.hid ot
  have HB := Lib.hid (And.intro bl (And.intro bn bt))
  obtain ⟨q, hq⟩ : ∃ q, ofB (ls.eraseIdx i) ts k = q := ⟨_, rfl⟩
  rw [hq] at C3 ⊢
  replace C1 := Lib.hid C1
  replace C3 := Lib.hid C3
  clear hq hS bl bn bt ol on ot hcurn
  go_enter Try.func64, Try.ntmps64
  go_upto_region 1 with (first | (go_at_call 62; refine (C1.out _ (by (repeat' (first | exact Ext.refl _ | assumption | refine Ext.alloc ?_ _ | refine Ext.drew ?_ | refine Ext.drewN ?_ _ | refine Ext.set ?_ (by first | exact Nat.le_refl _ | exact le1 _ | exact le2 _ | exact le3 _ | exact le4 _ | exact le5 _ | exact le6 _) _ | refine Ext.trans ?_ (by assumption))))).mono ?_; rintro e w1 ⟨v1, rfl, ho1, hb1⟩; obtain ⟨g1, cap1, rfl, hg1, hg2, _⟩ := own_some ho1 (by omega)) | (go_at_call 65; refine (deleteRule_c ls i w1 ho1 (fun _ _ _ h => h) (fun cs x h => one_rule h) hlen hi).mono ?_; rintro e w2 ⟨rfl, ho2, hgr2⟩))
  have E2 : Ext W w2 := Ext.grown hb1 hgr2 (fun j hj => by have h : g1 = j := Option.some.inj hj; omega)
  have E02 := HS.out.e.trans E2
  have c2' := E2.cell c2
  have c3' := E2.cell c3
  have c4' := E2.cell c4
  have hlen2 : (ls.eraseIdx i).length = ls.length - 1 := List.length_eraseIdx_of_lt hi
  rw [← hlen2] at ho2
  have C3' := C3.out _ w2 E02 ((ho2.to (R' := RRule) (fun cs x h => RRule.stable _ _ _ _ E02 h)).sl) ((HOT.out.ext (fun _ _ _ _ _ h => h) E2).to (R' := RStr) (fun cs x h => h)).sl
  rw [hlen2] at C3'
  replace C3' := Lib.hid C3'
  cases q
  · go_wp2_with (go_at_call 66; refine C3'.out.mono ?_; rintro e w3 ⟨rfl, hb3⟩)
    go_end0
    exact ⟨⟨_, rfl⟩, HS.out.ext (E2.trans hb3), (E2.trans hb3).size⟩
  · go_upto_region 2 with (go_at_call 66; refine C3'.out.mono ?_; rintro e w3 ⟨rfl, hb3⟩)
    have E3 := E2.trans hb3
    have hS3 := HS.out.ext E3
    have on3 := HON.out.ext (fun _ _ _ _ _ h => h) E3
    obtain ⟨gn', capn', hgv, _, _, curn, hcurn⟩ := own_some on3 (by omega)
    obtain ⟨rfl, rfl⟩ : gn = gn' ∧ capn = capn' := by simpa using hgv
    have b1 := box_ext HB.out.1 E3
    have b2 := box_ext HB.out.2.1 E3
    have b3 := box_ext HB.out.2.2 E3
    have n1 := box_ne b1 hcurn (by decide)
    have n2 := box_ne b2 hcurn (by decide)
    have n3 := box_ne b3 hcurn (by decide)
    have z3 := E3.size
    have c1'' := b1.cell
    have c4'' := b2.cell
    have CD := deleteInt_c (g := gn) (cap := capn) ns i w3 on3 (fun _ _ _ h => h) (fun cs x h => one_int' h) (by omega) (by omega)
    rw [hln] at CD
    have HCD := Lib.hid CD
    have HB3 := Lib.hid (And.intro b1 (And.intro b2 (And.intro b3 (And.intro hS3 (And.intro on3 hcurn)))))
    have HR2 := Lib.hid (And.intro ho2 hb3)
    clear CD b1 b2 b3 hS3 on3 hcurn ho2 hgv
    go_wp2_with (go_at_call 67; refine HCD.out.mono ?_; rintro e w4 ⟨rfl, ho4, hgr4⟩; have x1 := box_grown HB3.out.1 hgr4 n1; have x2 := box_grown HB3.out.2.1 hgr4 n2; have y1 := x1.cell; have y2 := x2.cell; have f1 := x1.frozen; have f2 := x2.frozen; have l1 := lt_of_cell y1; have l2 := lt_of_cell y2)
    go_end0
    obtain ⟨b1, b2, b3, hS3, on3, hcurn⟩ := HB3.out
    obtain ⟨ho2, hb3⟩ := HR2.out
    have kk := hS3.bk
    have x3 := box_grown b3 hgr4 n3
    have nk := box_box_ne kk b1 (by decide)
    have nk2 := box_box_ne kk b2 (by decide)
    have nt := box_box_ne b3 b1 (by decide)
    have nt2 := box_box_ne b3 b2 (by decide)
    have xk := box_grown kk hgr4 (by omega)
    have or3 := ho2.ext (fun _ _ _ _ _ h => h) hb3
    have or4 := or3.grown (fun _ _ h => h) hgr4 (fun g hg e => by have h1 : g1 = g := Option.some.inj e; have h2 := Option.some.inj hg; omega)
    have ot3 := HOT.out.ext (fun _ _ _ _ _ h => h) E3
    have ot4 := ot3.grown (fun _ _ h => h) hgr4 (fun g hg => by have h2 := Option.some.inj hg; subst h2; exact own_ne_obj ot3 hcurn (by decide))
    have hb04 : Ext w0 w4 := Ext.grown (HS.out.e.trans E3) hgr4 (fun j hj => by have h2 := Option.some.inj hj; omega)
    have x2b := box_set x2 (Ne.symm hne) (.slice (some ⟨g1, 0, none⟩) (ls.length - 1) cap1)
    have x1b := Boxed.set (.slice (some ⟨g1, 0, none⟩) (ls.length - 1) cap1) x1
    have or5 := or4.set' (p := ⟨Bl, 0, none⟩) (u := .slice (some ⟨g1, 0, none⟩) (ls.length - 1) cap1) (fun _ _ h => h) (own_ne_box or4 x1 (by decide))
    have on5 := ho4.set' (p := ⟨Bl, 0, none⟩) (u := .slice (some ⟨g1, 0, none⟩) (ls.length - 1) cap1) (fun _ _ h => h) (own_ne_box ho4 x1 (by decide))
    have ot5 := ot4.set' (p := ⟨Bl, 0, none⟩) (u := .slice (some ⟨g1, 0, none⟩) (ls.length - 1) cap1) (fun _ _ h => h) (own_ne_box ot4 x1 (by decide))
    have hz4 := hgr4.size
    have q5 := own_ne_box or5 x2b (by decide)
    have q6 := own_ne_box on5 x2b (by decide)
    have q7 := own_ne_box ot5 x2b (by decide)
    have or6 := (or5.set' (p := ⟨Bn, 0, none⟩) (u := .slice (some ⟨gn, 0, none⟩) (ls.length - 1) capn) (fun _ _ h => h) q5).lower hnw
    rw [hlen2] at or6
    refine ⟨⟨_, rfl⟩, ⟨(hb04.set hl0 _).set hn0 _, ⟨_, box_set x1b hne _, or6⟩, ⟨_, Boxed.set _ x2b, on5.set' (fun _ _ h => h) q6⟩, box_set (box_set xk nk _) nk2 _, ⟨_, box_set (box_set x3 nt _) nt2 _, ot5.set' (fun _ _ h => h) q7⟩⟩, by rw [size_setCell, size_setCell]; omega⟩
end Go.Proofs.Ytaomlmkcifpfkaa
