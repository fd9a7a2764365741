
/- Contract: Straight, by the program: what it goes on with. -/
import Derived.Test.YtcbjecpfijogcaaGreatCStr
import Derived.Test.YtcbjecpfijogcaaGreatCWorks
import Derived.Test.YtcbjecpfijogcaaGreatCRJoints
namespace Go.Proofs.YtcbjecpfijogcaaGreat
open Go.RowKit Go.Shelf

theorem own_set {W : World} {base : Nat} {e : TypeId} {size n : Nat} {v : Value} {xs : List Value} (h : W.ownsRow base e size v n xs) {b o : Nat} {u : Value} (hne : v.ownBlock ≠ some b) : (W.setCell ⟨b, o, none⟩ u).ownsRow base e size v n xs := by
  refine ⟨h.1, ?_⟩
  rcases h.2 with h0 | ⟨g, cap, cur, rfl, hb, hg, hr⟩
  · exact .inl h0
  · refine .inr ⟨g, cap, cur, rfl, hb, ?_, hr⟩
    have hgb : g ≠ b := fun e => hne (by rw [e]; rfl)
    rw [heap_ne hgb]
    exact hg
theorem OwnP.nil (w : World) (base : Nat) : OwnP base w (.slice none 0 0) [] := ⟨rfl, .inl ⟨rfl, rfl⟩⟩
theorem fst_lt {W : World} {b : Nat} {o : Obj} (h : W.heap[b]? = some o) : b < W.heap.size := (Array.getElem?_eq_some_iff.1 h).1
theorem Ext.blk {w W : World} (h : Ext w W) {b : Nat} {o : Obj} (hb : w.heap[b]? = some o) : W.heap[b]? = some o := (h.block b (fst_lt hb)).trans hb
section
variable {vu : Value} {v : CVeh}
set_option maxRecDepth 100000 in
set_option maxHeartbeats 6400000 in
theorem Straight_go (l1 l2 b1 b2 : Int) (w : World) (hs : Sl 11 RUnit w vu v.units) (h : vehE v = 0) (h2 : okPt (l1, l2) = true) (h3 : okPt (b1, b2) = true) :
    Calls Tryz.prog 26 #[vehV v vu, .agg #[.int .i64 l1, .int .i64 l2], .agg #[.int .i64 b1, .int .i64 b2]] w (StrR v (l1, l2) (b1, b2) w) := by
  have CV := fun w' (h : Ext w w') => VCheck_c vu v w' (hs.ext RUnit.stable h)
  rw [h] at CV
  have CR := fun w' (he : Ext w w') vp ps (hp : Pts w' vp ps) => ready_c (v := v) (lead := (l1, l2)) (vp := vp) (ps := ps) w' (hs.ext RUnit.stable he) hp
  have C1 := fun w => Check_c l1 l2 w
  have C2 := fun w => Check_c b1 b2 w
  rw [show checkS (l1, l2) = 0 by simp [checkS, h2]] at C1
  rw [show checkS (b1, b2) = 0 by simp [checkS, h3]] at C2
  obtain ⟨A, cap, rfl, hl, hl2⟩ := hs.shape
  have hln := vehE_len h
  have HV := Lib.hid (vehE_units h)
  obtain ⟨m, hm⟩ : ∃ m, v.units.length = m + 1 := ⟨v.units.length - 1, by omega⟩
  obtain ⟨u0, us, hus⟩ : ∃ u0 us, v.units = u0 :: us := by
    match hv : v.units with
    | [] => rw [hv] at hm; simp at hm
    | u :: us => exact ⟨u, us, rfl⟩
  have hul : us.length = m := by rw [hus] at hm; simpa using hm
  obtain ⟨ex, hU⟩ := ucells hs
  have h0 : v.units[0]? = some u0 := by rw [hus]; rfl
  obtain ⟨b, off, rfl, hax, hc⟩ := hU.at' 0 u0 h0
  have hv0 := HV.out u0 (mem_of_some h0)
  obtain ⟨q, hq⟩ : ∃ q, pullS (l1, l2) (b1, b2) (pulledN u0) = q := ⟨_, rfl⟩
  obtain ⟨r, hr⟩ : ∃ r, tailN q.1 (l1, l2) u0 us = r := ⟨_, rfl⟩
  have HR := Lib.hid (straightS_go h h2 h3 hus hq hr)
  have HTL := Lib.hid hr
  have CP := fun w' => pulled_x (ex 0).1 u0.axles.length (ex 0).2 u0 w' hv0
  have CQ := fun w' => Pull_c l1 l2 b1 b2 (pulledN u0) w'
  rw [hq] at CQ
  have k0 := hc 0 _ rfl
  have k1 := hc 1 _ rfl
  have k2 := hc 2 _ rfl
  have k3 := hc 3 _ rfl
  have k4 := hc 4 _ rfl
  have k5 := hc 5 _ rfl
  have k6 := hc 6 _ rfl
  have k7 := hc 7 _ rfl
  have k8 := hc 8 _ rfl
  have k9 := hc 9 _ rfl
  have k10 := hc 10 _ rfl
  simp only [Nat.zero_mul, Nat.add_zero] at k0 k1 k2 k3 k4 k5 k6 k7 k8 k9 k10
  have hbl := lt_of_cell k0
  have i1 : (0 : Int) < (v.units.length : Int) := by omega
  have i2 : (1 : Int) ≤ (v.units.length : Int) := by omega
  replace CV := Lib.hid CV
  replace CR := Lib.hid CR
  replace C1 := Lib.hid C1
  replace C2 := Lib.hid C2
  replace CP := Lib.hid CP
  replace CQ := Lib.hid CQ
  have HU := Lib.hid hU
  have HUS := Lib.hid (And.intro hus (And.intro hm hul))
  have HLN := Lib.hid hln
  generalize pulledN u0 = PN at *
  obtain ⟨Post, hPost⟩ : ∃ Post, StrR v (l1, l2) (b1, b2) w = Post := ⟨_, rfl⟩
  rw [hPost]
  have HPo := Lib.hid hPost
  unfold vehV at *
  clear hPost hs h h2 h3 hus hm hul hr hq hU hax hc h0 hv0
  go_enter Tryz.func26, Tryz.ntmps26
  go_upto_region 8 with (first
    | (go_at_call 38; refine (CV.out _ (by (repeat' (first | exact Ext.refl _ | assumption | refine Ext.alloc ?_ _ | refine Ext.drew ?_ | refine Ext.drewN ?_ _ | refine Ext.set ?_ (by first | exact Nat.le_refl _ | exact le1 _ | exact le2 _ | exact le3 _ | exact le4 _ | exact le5 _ | exact le6 _) _ | refine Ext.trans ?_ (by assumption))))).mono ?_; rintro e w1 ⟨rfl, hb⟩; have y1 := Ext.cell hb (p := ⟨w.heap.size, 1, none⟩) (v := .slice (some ⟨b, off, none⟩) v.units.length cap) (by go_simp); have L0 := Ext.cell hb (p := ⟨w.heap.size + 1, 0, none⟩) (v := .int .i64 l1) (by go_simp); have L1 := Ext.cell hb (p := ⟨w.heap.size + 1, 1, none⟩) (v := .int .i64 l2) (by go_simp); have B0 := Ext.cell hb (p := ⟨w.heap.size + 1 + 1, 0, none⟩) (v := .int .i64 b1) (by go_simp); have B1 := Ext.cell hb (p := ⟨w.heap.size + 1 + 1, 1, none⟩) (v := .int .i64 b2) (by go_simp); have hR : w1.heap[w.heap.size + 1 + 1 + 1]? = some (.cells #[.int .i64 0, .int .i64 0, .slice none 0 0] 29 (0, 0)) := (hb.block _ (by simp)).trans (new_at (by simp)); have E3 : Ext w w1 := (((((Ext.refl w).alloc _).alloc _).alloc _).alloc _).trans hb; have y0 := Ext.cell hb (p := ⟨w.heap.size, 0, none⟩) (v := .string v.name) (by go_simp); have y2 := Ext.cell hb (p := ⟨w.heap.size, 2, none⟩) (v := .int .i64 v.first) (by go_simp); have y3 := Ext.cell hb (p := ⟨w.heap.size, 3, none⟩) (v := .int .i64 v.last) (by go_simp); clear hb)
    | (go_at_call 43; first
        | (refine (C1.out _).mono ?_; rintro e w2 ⟨rfl, hb2⟩; replace y0 := Ext.cell hb2 y0; replace y1 := Ext.cell hb2 y1; replace y2 := Ext.cell hb2 y2; replace y3 := Ext.cell hb2 y3; replace L0 := Ext.cell hb2 L0; replace L1 := Ext.cell hb2 L1; replace B0 := Ext.cell hb2 B0; replace B1 := Ext.cell hb2 B1; replace hR := (hb2.block _ (Array.getElem?_eq_some_iff.1 hR).1).trans hR; replace E3 := E3.trans hb2; clear hb2)
        | (refine (C2.out _).mono ?_; rintro e w3 ⟨rfl, hb2⟩; replace y0 := Ext.cell hb2 y0; replace y1 := Ext.cell hb2 y1; replace y2 := Ext.cell hb2 y2; replace y3 := Ext.cell hb2 y3; replace L0 := Ext.cell hb2 L0; replace L1 := Ext.cell hb2 L1; replace B0 := Ext.cell hb2 B0; replace B1 := Ext.cell hb2 B1; replace hR := (hb2.block _ (Array.getElem?_eq_some_iff.1 hR).1).trans hR; replace E3 := E3.trans hb2; clear hb2; replace k0 := Ext.cell E3 k0; replace k1 := Ext.cell E3 k1; replace k2 := Ext.cell E3 k2; replace k3 := Ext.cell E3 k3; replace k4 := Ext.cell E3 k4; replace k5 := Ext.cell E3 k5; replace k6 := Ext.cell E3 k6; replace k7 := Ext.cell E3 k7; replace k8 := Ext.cell E3 k8; replace k9 := Ext.cell E3 k9; replace k10 := Ext.cell E3 k10; have hly := lt_of_cell y1; have hlL := lt_of_cell L0; have hlB := lt_of_cell B0; have hlk := lt_of_cell k0)))
  have hE4 : Ext w3 ((w3.alloc (.cells #[.int .i64 l1, .int .i64 l2, .slice none 0 0] 29)).alloc (.cells #[.int .i64 u0.kind, .int .i64 u0.length, .int .i64 u0.behind, .int .i64 u0.front, .int .i64 u0.rear, .int .i64 u0.width, .int .i64 u0.height, .int .i64 u0.mass, .int .i64 u0.steer, .int .i64 u0.most, .slice (ex 0).1 u0.axles.length (ex 0).2] 62)) := ((Ext.refl w3).alloc _).alloc _
  have hP : ((w3.alloc (.cells #[.int .i64 l1, .int .i64 l2, .slice none 0 0] 29)).alloc (.cells #[.int .i64 u0.kind, .int .i64 u0.length, .int .i64 u0.behind, .int .i64 u0.front, .int .i64 u0.rear, .int .i64 u0.width, .int .i64 u0.height, .int .i64 u0.mass, .int .i64 u0.steer, .int .i64 u0.most, .slice (ex 0).1 u0.axles.length (ex 0).2] 62)).heap[w3.heap.size]? = some (.cells #[.int .i64 l1, .int .i64 l2, .slice none 0 0] 29 (0, 0)) := ((Ext.refl _).alloc _ |>.block w3.heap.size (by simp)).trans (new_at rfl)
  have hUB : ((w3.alloc (.cells #[.int .i64 l1, .int .i64 l2, .slice none 0 0] 29)).alloc (.cells #[.int .i64 u0.kind, .int .i64 u0.length, .int .i64 u0.behind, .int .i64 u0.front, .int .i64 u0.rear, .int .i64 u0.width, .int .i64 u0.height, .int .i64 u0.mass, .int .i64 u0.steer, .int .i64 u0.most, .slice (ex 0).1 u0.axles.length (ex 0).2] 62)).heap[w3.heap.size + 1]? = some (.cells #[.int .i64 u0.kind, .int .i64 u0.length, .int .i64 u0.behind, .int .i64 u0.front, .int .i64 u0.rear, .int .i64 u0.width, .int .i64 u0.height, .int .i64 u0.mass, .int .i64 u0.steer, .int .i64 u0.most, .slice (ex 0).1 u0.axles.length (ex 0).2] 62 (0, 0)) := new_at (by simp)
  have hz4 : w3.heap.size + 1 < ((w3.alloc (.cells #[.int .i64 l1, .int .i64 l2, .slice none 0 0] 29)).alloc (.cells #[.int .i64 u0.kind, .int .i64 u0.length, .int .i64 u0.behind, .int .i64 u0.front, .int .i64 u0.rear, .int .i64 u0.width, .int .i64 u0.height, .int .i64 u0.mass, .int .i64 u0.steer, .int .i64 u0.most, .slice (ex 0).1 u0.axles.length (ex 0).2] 62)).heap.size := by simp
  generalize ((w3.alloc (.cells #[.int .i64 l1, .int .i64 l2, .slice none 0 0] 29)).alloc (.cells #[.int .i64 u0.kind, .int .i64 u0.length, .int .i64 u0.behind, .int .i64 u0.front, .int .i64 u0.rear, .int .i64 u0.width, .int .i64 u0.height, .int .i64 u0.mass, .int .i64 u0.steer, .int .i64 u0.most, .slice (ex 0).1 u0.axles.length (ex 0).2] 62)) = W4 at *
  have L03 := L0
  have L13 := L1
  have hR3 := hR
  have y03 := y0
  have y13 := y1
  have y23 := y2
  have y33 := y3
  replace y0 := Ext.cell hE4 y0
  replace y1 := Ext.cell hE4 y1
  replace y2 := Ext.cell hE4 y2
  replace y3 := Ext.cell hE4 y3
  replace L0 := Ext.cell hE4 L0
  replace L1 := Ext.cell hE4 L1
  replace B0 := Ext.cell hE4 B0
  replace B1 := Ext.cell hE4 B1
  replace hR := (hE4.block _ (Array.getElem?_eq_some_iff.1 hR).1).trans hR
  clear k0 k1 k2 k3 k4 k5 k6 k7 k8 k9 k10 CV C1 C2
  have d0 := World.news_of_block hUB 0 _ rfl
  have d1 := World.news_of_block hUB 1 _ rfl
  have d2 := World.news_of_block hUB 2 _ rfl
  have d3 := World.news_of_block hUB 3 _ rfl
  have d4 := World.news_of_block hUB 4 _ rfl
  have d5 := World.news_of_block hUB 5 _ rfl
  have d6 := World.news_of_block hUB 6 _ rfl
  have d7 := World.news_of_block hUB 7 _ rfl
  have d8 := World.news_of_block hUB 8 _ rfl
  have d9 := World.news_of_block hUB 9 _ rfl
  have d10 := World.news_of_block hUB 10 _ rfl
  simp only [add_none, Nat.zero_add] at d0 d1 d2 d3 d4 d5 d6 d7 d8 d9 d10
  go_cut [11, 12] (fun s11 s12 wc => ∃ t, s11 = .pointer (some ⟨t, 0, none⟩) ∧ s12 = .int .i64 q.2 ∧ Ext W4 wc ∧ W4.heap.size ≤ t ∧ wc.heap[t]? = some (.cells #[.int .i64 q.1.1, .int .i64 q.1.2] 26 (0, 0)))
  case first =>
    go_region_held3 (fun w' => w'.cell? ⟨w.heap.size + 1, 0, none⟩ = some (.int .i64 l1) ∧ w'.cell? ⟨w.heap.size + 1, 1, none⟩ = some (.int .i64 l2) ∧ w'.cell? ⟨w.heap.size + 1 + 1, 0, none⟩ = some (.int .i64 b1) ∧ w'.cell? ⟨w.heap.size + 1 + 1, 1, none⟩ = some (.int .i64 b2) ∧ w'.cell? ⟨w3.heap.size + 1, 0, none⟩ = some (.int .i64 u0.kind) ∧ w'.cell? ⟨w3.heap.size + 1, 1, none⟩ = some (.int .i64 u0.length) ∧ w'.cell? ⟨w3.heap.size + 1, 2, none⟩ = some (.int .i64 u0.behind) ∧ w'.cell? ⟨w3.heap.size + 1, 3, none⟩ = some (.int .i64 u0.front) ∧ w'.cell? ⟨w3.heap.size + 1, 4, none⟩ = some (.int .i64 u0.rear) ∧ w'.cell? ⟨w3.heap.size + 1, 5, none⟩ = some (.int .i64 u0.width) ∧ w'.cell? ⟨w3.heap.size + 1, 6, none⟩ = some (.int .i64 u0.height) ∧ w'.cell? ⟨w3.heap.size + 1, 7, none⟩ = some (.int .i64 u0.mass) ∧ w'.cell? ⟨w3.heap.size + 1, 8, none⟩ = some (.int .i64 u0.steer) ∧ w'.cell? ⟨w3.heap.size + 1, 9, none⟩ = some (.int .i64 u0.most) ∧ w'.cell? ⟨w3.heap.size + 1, 10, none⟩ = some (.slice (ex 0).1 u0.axles.length (ex 0).2)) (refine ⟨?_, ?_, ?_, ?_, ?_, ?_, ?_, ?_, ?_, ?_, ?_, ?_, ?_, ?_, ?_⟩ <;> (repeat' (with_reducible (first | assumption | refine Ext.cell hb6 ?_ | refine Ext.cell hb5 ?_ | refine Ext.cell (Ext.refl _).drew ?_ | refine cell_set_ne (by first | omega | (simp; omega)) ?_ | refine Ext.cell ((Ext.refl _).alloc _) ?_)))) (first
      | (go_at_call 28; refine (CP.out _).mono ?_; rintro e w5 ⟨rfl, hb5⟩; have z5 := hb5.size; (first | rw [size_alloc, size_drew] at z5 | rw [size_drew] at z5); (try (have yb : w5.heap[W4.heap.size]? = some (.cells #[.int .i64 0, .int .i64 0] 26 (0, 0)) := new_kept (W := W4.drew) hb5)))
      | (go_at_call 44; refine (CQ.out _).mono ?_; rintro e w6 ⟨rfl, hb6⟩; unfold ptV; have z6 := hb6.size; (try rw [size_alloc] at z6); (try (first | (have yc : w6.heap[W4.heap.size]? = some (.cells #[.int .i64 0, .int .i64 0] 26 (0, 0)) := (hb6.block _ (Array.getElem?_eq_some_iff.1 yb).1).trans yb; have c0 : w6.cell? ⟨W4.heap.size, 0, none⟩ = some (.int .i64 0) := World.news_of_block yc 0 _ rfl; have c1 : w6.cell? ⟨W4.heap.size, 1, none⟩ = some (.int .i64 0) := World.news_of_block yc 1 _ rfl; have f0 := blk_frz yc 0; have f1 := blk_frz yc 1) | (have yc : w6.heap[w5.heap.size]? = some (.cells #[.int .i64 0, .int .i64 0] 26 (0, 0)) := new_kept (W := w5) hb6; have c0 : w6.cell? ⟨w5.heap.size, 0, none⟩ = some (.int .i64 0) := World.news_of_block yc 0 _ rfl; have c1 : w6.cell? ⟨w5.heap.size, 1, none⟩ = some (.int .i64 0) := World.news_of_block yc 1 _ rfl; have f0 := blk_frz yc 0; have f1 := blk_frz yc 1)))))
    all_goals
      go_wp2_with fail
      go_meet
      first
        | exact ⟨w6.heap.size, rfl, rfl, by (repeat' (first | exact Ext.refl _ | assumption | refine Ext.alloc ?_ _ | refine Ext.drew ?_ | refine Ext.drewN ?_ _ | refine Ext.set ?_ (by first | exact Nat.le_refl _ | exact le1 _ | exact le2 _ | exact le3 _ | exact le4 _ | exact le5 _ | exact le6 _) _ | refine Ext.trans ?_ (by assumption))), by omega, World.alloc_heap_new w6 _⟩
        | exact ⟨w5.heap.size, rfl, rfl, ((show Ext W4 w6 from by (repeat' (first | exact Ext.refl _ | assumption | refine Ext.alloc ?_ _ | refine Ext.drew ?_ | refine Ext.drewN ?_ _ | refine Ext.set ?_ (by first | exact Nat.le_refl _ | exact le1 _ | exact le2 _ | exact le3 _ | exact le4 _ | exact le5 _ | exact le6 _) _ | refine Ext.trans ?_ (by assumption)))).set (p := ⟨w5.heap.size, 0, none⟩) z5 _).set (p := ⟨w5.heap.size, 1, none⟩) z5 _, z5, two1 _ (two0 _ yc)⟩
        | exact ⟨W4.heap.size, rfl, rfl, ((show Ext W4 w6 from by (repeat' (first | exact Ext.refl _ | assumption | refine Ext.alloc ?_ _ | refine Ext.drew ?_ | refine Ext.drewN ?_ _ | refine Ext.set ?_ (by first | exact Nat.le_refl _ | exact le1 _ | exact le2 _ | exact le3 _ | exact le4 _ | exact le5 _ | exact le6 _) _ | refine Ext.trans ?_ (by assumption)))).set (p := ⟨W4.heap.size, 0, none⟩) (Nat.le_refl _) _).set (p := ⟨W4.heap.size, 1, none⟩) (Nat.le_refl _) _, Nat.le_refl _, two1 _ (two0 _ yc)⟩
  case rest =>
    obtain ⟨t, rfl, rfl, E7, ht, hT⟩ := hcut
    replace hR := (E7.block _ (Array.getElem?_eq_some_iff.1 hR).1).trans hR
    have r0 : wc.cell? ⟨w.heap.size + 1 + 1 + 1, 0, none⟩ = some (.int .i64 0) := World.news_of_block hR 0 _ rfl
    have r1 : wc.cell? ⟨w.heap.size + 1 + 1 + 1, 1, none⟩ = some (.int .i64 0) := World.news_of_block hR 1 _ rfl
    have r2 : wc.cell? ⟨w.heap.size + 1 + 1 + 1, 2, none⟩ = some (.slice none 0 0) := World.news_of_block hR 2 _ rfl
    have f0 := blk_frz hR 0
    have f1 := blk_frz hR 1
    have f2 := blk_frz hR 2
    have ER : Ext w wc := (E3.trans hE4).trans E7
    by_cases h0 : q.2 = 0
    case neg =>
      go_wp2_with fail
      have hR2 := three_set (.int .i64 0) (.int .i64 0) (.slice none 0 0) hR
      have ER2 := ((ER.set (p := ⟨w.heap.size + 1 + 1 + 1, 0, none⟩) (le3 _) (.int .i64 0)).set (p := ⟨w.heap.size + 1 + 1 + 1, 1, none⟩) (le3 _) (.int .i64 0)).set (p := ⟨w.heap.size + 1 + 1 + 1, 2, none⟩) (le3 _) (.slice none 0 0)
      generalize (((wc.setCell ⟨w.heap.size + 1 + 1 + 1, 0, none⟩ (.int .i64 0)).setCell ⟨w.heap.size + 1 + 1 + 1, 1, none⟩ (.int .i64 0)).setCell ⟨w.heap.size + 1 + 1 + 1, 2, none⟩ (.slice none 0 0)) = WF at *
      have q0 : WF.cell? ⟨w.heap.size + 1 + 1 + 1, 0, none⟩ = some (.int .i64 0) := World.news_of_block hR2 0 _ rfl
      have q1 : WF.cell? ⟨w.heap.size + 1 + 1 + 1, 1, none⟩ = some (.int .i64 0) := World.news_of_block hR2 1 _ rfl
      have q2 : WF.cell? ⟨w.heap.size + 1 + 1 + 1, 2, none⟩ = some (.slice none 0 0) := World.news_of_block hR2 2 _ rfl
      refine bodyPost_ret (v := poseEV (0, 0) (.slice none 0 0) q.2) (by simp [results, Tryz.results26, go_sem, q0, q1, q2, poseEV]) rfl ?_
      rw [← HPo.out]
      unfold StrR
      rw [HR.out, if_neg h0]
      exact ⟨_, rfl, .inl ⟨none, 0, rfl, rfl⟩, ER2⟩
    case pos =>
      obtain ⟨ip, hip, hz0, hz1, hz2⟩ := info_parts infoPoint
      have t0 : wc.cell? ⟨t, 0, none⟩ = some (.int .i64 q.1.1) := World.news_of_block hT 0 _ rfl
      have t1 : wc.cell? ⟨t, 1, none⟩ = some (.int .i64 q.1.2) := World.news_of_block hT 1 _ rfl
      have htl := lt_of_cell t0
      replace hP := E7.blk hP
      replace hUB := E7.blk hUB
      have p2 : wc.cell? ⟨w3.heap.size, 2, none⟩ = some (.slice none 0 0) := World.news_of_block hP 2 _ rfl
      have hpl := lt_of_cell p2
      have E3c := hE4.trans E7
      have hs3 := E3c.sz
      have HQ0 := Lib.hid h0
      go_upto_region 12 with (at_builtin; refine wpList_append_lies _ rfl _ _ 27 rfl w3.heap.size 26 ip _ 2 16 Tryz.underlying27 hip hz0 hz1 hz2 rfl (by omega) (.slice none 0 0) 0 (flatP []) rfl (OwnP.nil _ _) ⟨wc.heap.size, 0, none⟩ 1 1 [.int .i64 q.1.1, .int .i64 q.1.2] rfl rfl (World.news_of_block (cs := #[.int .i64 q.1.1, .int .i64 q.1.2]) (t := 26) (fr := (0, 0)) (heap_alloc_new _ _)) (by simp [Value.oneCell']) (by omega) (by unfold maxLen; omega) (by omega) (by simp; omega) (wc.heap.size + 1) (by simp) ?_; intro g8 cap8 w8 hown8 hgrow8 hat8 hlt8; have hP8 := (hgrow8.block w3.heap.size (by simp; omega) (by simp [Value.ownBlock])).trans (((Ext.refl wc).alloc _).blk hP); have p28 : w8.cell? ⟨w3.heap.size, 2, none⟩ = some (.slice none 0 0) := World.news_of_block hP8 2 _ rfl; have fp8 := blk_frz hP8 2)
      have E8 : Ext w3 w8 := Ext.grown (E3c.alloc _) hgrow8 (fun k hk => by simp [Value.ownBlock] at hk)
      have hU8 := (hgrow8.block (w3.heap.size + 1) (by simp; omega) (by simp [Value.ownBlock])).trans (((Ext.refl wc).alloc (.cells #[.int .i64 q.1.1, .int .i64 q.1.2] 26)).blk hUB)
      have hT8 := (hgrow8.block t (by simp; omega) (by simp [Value.ownBlock])).trans (((Ext.refl wc).alloc (.cells #[.int .i64 q.1.1, .int .i64 q.1.2] 26)).blk hT)
      have E5 := E8.set (p := ⟨w3.heap.size, 2, none⟩) (Nat.le_refl _) (.slice (some ⟨g8, 0, none⟩) (0 + 1) cap8)
      have hP5 := blk_set 2 (.slice (some ⟨g8, 0, none⟩) (0 + 1) cap8) hP8
      simp only [List.setIfInBounds_toArray, List.set_cons_zero, List.set_cons_succ] at hP5
      have hO5 := own_set (b := w3.heap.size) (o := 2) (u := .slice (some ⟨g8, 0, none⟩) (0 + 1) cap8) hown8 (row_ne hown8 hP8 (fun cur e => by cases e))
      have hU5 := (heap_ne (b := w3.heap.size + 1) (c := w3.heap.size) (o := 2) (u := .slice (some ⟨g8, 0, none⟩) (0 + 1) cap8) (by omega)).trans hU8
      have hT5 := (heap_ne (b := t) (c := w3.heap.size) (o := 2) (u := .slice (some ⟨g8, 0, none⟩) (0 + 1) cap8) (by omega)).trans hT8
      replace hO5 : OwnP w3.heap.size _ _ [q.1] := hO5
      generalize (w8.setCell ⟨w3.heap.size, 2, none⟩ (.slice (some ⟨g8, 0, none⟩) (0 + 1) cap8)) = W5 at *
      clear hP hUB hT t0 t1 p2 hgrow8 hown8 hP8 p28 fp8 E8 hU8 hT8 r0 r1 r2 f0 f1 f2 y0 y1 y2 y3 L0 L1 B0 B1 d0 d1 d2 d3 d4 d5 d6 d7 d8 d9 d10 hR ER
      have L05 := Ext.cell E5 L03
      have L15 := Ext.cell E5 L13
      have y15 := Ext.cell E5 y13
      have t0 : W5.cell? ⟨t, 0, none⟩ = some (.int .i64 q.1.1) := World.news_of_block hT5 0 _ rfl
      have t1 : W5.cell? ⟨t, 1, none⟩ = some (.int .i64 q.1.2) := World.news_of_block hT5 1 _ rfl
      have d0 : W5.cell? ⟨w3.heap.size + 1, 0, none⟩ = some (.int .i64 u0.kind) := World.news_of_block hU5 0 _ rfl
      have d1 : W5.cell? ⟨w3.heap.size + 1, 1, none⟩ = some (.int .i64 u0.length) := World.news_of_block hU5 1 _ rfl
      have d2 : W5.cell? ⟨w3.heap.size + 1, 2, none⟩ = some (.int .i64 u0.behind) := World.news_of_block hU5 2 _ rfl
      have d3 : W5.cell? ⟨w3.heap.size + 1, 3, none⟩ = some (.int .i64 u0.front) := World.news_of_block hU5 3 _ rfl
      have d4 : W5.cell? ⟨w3.heap.size + 1, 4, none⟩ = some (.int .i64 u0.rear) := World.news_of_block hU5 4 _ rfl
      have d5 : W5.cell? ⟨w3.heap.size + 1, 5, none⟩ = some (.int .i64 u0.width) := World.news_of_block hU5 5 _ rfl
      have d6 : W5.cell? ⟨w3.heap.size + 1, 6, none⟩ = some (.int .i64 u0.height) := World.news_of_block hU5 6 _ rfl
      have d7 : W5.cell? ⟨w3.heap.size + 1, 7, none⟩ = some (.int .i64 u0.mass) := World.news_of_block hU5 7 _ rfl
      have d8 : W5.cell? ⟨w3.heap.size + 1, 8, none⟩ = some (.int .i64 u0.steer) := World.news_of_block hU5 8 _ rfl
      have d9 : W5.cell? ⟨w3.heap.size + 1, 9, none⟩ = some (.int .i64 u0.most) := World.news_of_block hU5 9 _ rfl
      have d10 : W5.cell? ⟨w3.heap.size + 1, 10, none⟩ = some (.slice (ex 0).1 u0.axles.length (ex 0).2) := World.news_of_block hU5 10 _ rfl
      have hly5 := lt_of_cell y15
      go_upto_region 13 with fail
      have E6 : Ext w3 (W5.alloc (.cells #[.int .i64 u0.kind, .int .i64 u0.length, .int .i64 u0.behind, .int .i64 u0.front, .int .i64 u0.rear, .int .i64 u0.width, .int .i64 u0.height, .int .i64 u0.mass, .int .i64 u0.steer, .int .i64 u0.most, .slice (ex 0).1 u0.axles.length (ex 0).2, .int .i64 l1, .int .i64 l2, .int .i64 q.1.1, .int .i64 q.1.2] 64)) := E5.alloc _
      have hX6 : (W5.alloc (.cells #[.int .i64 u0.kind, .int .i64 u0.length, .int .i64 u0.behind, .int .i64 u0.front, .int .i64 u0.rear, .int .i64 u0.width, .int .i64 u0.height, .int .i64 u0.mass, .int .i64 u0.steer, .int .i64 u0.most, .slice (ex 0).1 u0.axles.length (ex 0).2, .int .i64 l1, .int .i64 l2, .int .i64 q.1.1, .int .i64 q.1.2] 64)).heap[W5.heap.size]? = some (.cells #[.int .i64 u0.kind, .int .i64 u0.length, .int .i64 u0.behind, .int .i64 u0.front, .int .i64 u0.rear, .int .i64 u0.width, .int .i64 u0.height, .int .i64 u0.mass, .int .i64 u0.steer, .int .i64 u0.most, .slice (ex 0).1 u0.axles.length (ex 0).2, .int .i64 l1, .int .i64 l2, .int .i64 q.1.1, .int .i64 q.1.2] 64 (0, 0)) := new_at rfl
      have hP6 := ((Ext.refl W5).alloc (.cells #[.int .i64 u0.kind, .int .i64 u0.length, .int .i64 u0.behind, .int .i64 u0.front, .int .i64 u0.rear, .int .i64 u0.width, .int .i64 u0.height, .int .i64 u0.mass, .int .i64 u0.steer, .int .i64 u0.most, .slice (ex 0).1 u0.axles.length (ex 0).2, .int .i64 l1, .int .i64 l2, .int .i64 q.1.1, .int .i64 q.1.2] 64)).blk hP5
      have hO6 := hO5.ext ((Ext.refl W5).alloc (.cells #[.int .i64 u0.kind, .int .i64 u0.length, .int .i64 u0.behind, .int .i64 u0.front, .int .i64 u0.rear, .int .i64 u0.width, .int .i64 u0.height, .int .i64 u0.mass, .int .i64 u0.steer, .int .i64 u0.most, .slice (ex 0).1 u0.axles.length (ex 0).2, .int .i64 l1, .int .i64 l2, .int .i64 q.1.1, .int .i64 q.1.2] 64))
      have hs6 : W5.heap.size < (W5.alloc (.cells #[.int .i64 u0.kind, .int .i64 u0.length, .int .i64 u0.behind, .int .i64 u0.front, .int .i64 u0.rear, .int .i64 u0.width, .int .i64 u0.height, .int .i64 u0.mass, .int .i64 u0.steer, .int .i64 u0.most, .slice (ex 0).1 u0.axles.length (ex 0).2, .int .i64 l1, .int .i64 l2, .int .i64 q.1.1, .int .i64 q.1.2] 64)).heap.size := by simp
      have hs5 := E5.sz
      generalize (W5.alloc (.cells #[.int .i64 u0.kind, .int .i64 u0.length, .int .i64 u0.behind, .int .i64 u0.front, .int .i64 u0.rear, .int .i64 u0.width, .int .i64 u0.height, .int .i64 u0.mass, .int .i64 u0.steer, .int .i64 u0.most, .slice (ex 0).1 u0.axles.length (ex 0).2, .int .i64 l1, .int .i64 l2, .int .i64 q.1.1, .int .i64 q.1.2] 64)) = W6 at *
      have y16 := Ext.cell E6 y13
      have hbl6 := hlk
      obtain ⟨B13, hB13⟩ : ∃ n, W5.heap.size = n := ⟨_, rfl⟩
      have hlt13 : w3.heap.size + 1 < B13 := by have := fst_lt hU5; omega
      rw [hB13] at hX6 hs6 hs5 ⊢
      clear hB13 t0 t1 d0 d1 d2 d3 d4 d5 d6 d7 d8 d9 d10 hP5 hO5 hU5 hT5 L05 L15 y15 hly5 E5 ht htl hpl
      have i3 : (1 : Int) ≤ (v.units.length : Int) := by omega
      have hml : v.units.length - 1 = m := by have := HUS.out.2.1; omega
      go_cut [66, 67, 68] (fun sa sb sc wx => wx = W6 ∧ sb = .int .i64 m ∧ sc = .int .i64 0 ∧ ∃ SA c, sa = .slice SA m c ∧ (0 < m → SA = some ⟨b, off + 11, none⟩))
      case first =>
        go_wp2_with fail
        · have hc1 : cap = 1 := by assumption
          subst hc1
          go_meet
          exact ⟨rfl, rfl, rfl, _, _, rfl, fun h => by have := HUS.out.2.1; omega⟩
        · go_meet
          exact ⟨rfl, rfl, rfl, _, _, rfl, fun _ => rfl⟩
      case rest =>
        obtain ⟨rfl, rfl, rfl, SA, c66, rfl, hSA⟩ := hcut
        replace hSA := Lib.hid hSA
        have hv0 := HV.out u0 (by rw [HUS.out.1]; simp)
        clear hml
        go_wp2_with fail
        go_loopw [68] (fun i wr => ∃ (k : Nat) (pre : List Pt) (vs : Value) (x : PPut), k ≤ m ∧ i = .int .i64 k ∧ pre.length = k + 1 ∧ wr.heap[w3.heap.size]? = some (.cells #[.int .i64 l1, .int .i64 l2, vs] 29 (0, 0)) ∧ OwnP w3.heap.size wr vs pre ∧ wr.heap[B13]? = some (.cells #[.int .i64 x.unit.kind, .int .i64 x.unit.length, .int .i64 x.unit.behind, .int .i64 x.unit.front, .int .i64 x.unit.rear, .int .i64 x.unit.width, .int .i64 x.unit.height, .int .i64 x.unit.mass, .int .i64 x.unit.steer, .int .i64 x.unit.most, .slice x.A x.unit.axles.length x.cap, .int .i64 x.joint.1, .int .i64 x.joint.2, .int .i64 x.axle.1, .int .i64 x.axle.2] 64 (0, 0)) ∧ unitB x.unit = true ∧ (pre ++ (tailN x.axle x.joint x.unit (us.drop k)).1, (tailN x.axle x.joint x.unit (us.drop k)).2) = (q.1 :: r.1, r.2) ∧ Ext w3 wr) (fun i _ => m - (intOf i).toNat)
        case atStart => exact ⟨0, [q.1], _, ⟨u0, (ex 0).1, (ex 0).2, (l1, l2), q.1⟩, by omega, rfl, rfl, hP6, hO6, hX6, hv0, by simp only [List.drop_zero]; rw [HTL.out]; rfl, E6⟩
        case round =>
          obtain ⟨k, pre, vs, x, hk, rfl, hpl, hP, hO, hX, hvx, hT, E⟩ := hrel
          clear hP6 hO6 hX6 E6 y16 hv0
          have EW := E3.trans E
          have hs := E.sz
          have hlX := fst_lt hX
          by_cases hlt : k < m
          · have hku : k + 1 < v.units.length := by have := HUS.out.2.1; omega
            obtain ⟨u, hu⟩ := some_of_lt hku
            have huk : us[k]? = some u := by have h1 := HUS.out.1; rw [h1] at hu; simpa using hu
            obtain ⟨b', off', e', hax, hc⟩ := HU.out.at' (k + 1) u hu
            simp only [Option.some.injEq, Addr.mk.injEq, and_true] at e'
            obtain ⟨rfl, rfl⟩ := e'
            obtain rfl := hSA.out (by omega)
            obtain ⟨A9, c9, rfl⟩ := own_len hO
            have hvu := HV.out u (mem_of_some hu)
            rw [drop_some huk] at hT
            obtain ⟨j, hj⟩ : ∃ j, placeS x.axle x.joint (rearN x.unit) 0 = j := ⟨_, rfl⟩
            obtain ⟨z, hz⟩ : ∃ z, placeS x.axle x.joint (rearN x.unit - pulledN u) 0 = z := ⟨_, rfl⟩
            rw [tailN_step hj hz] at hT
            have CE := fun w' => end_x x.A x.unit.axles.length x.cap x.unit w' hvx
            have CJ := fun w' => at_c x (rearN x.unit) 0 w'
            rw [hj] at CJ
            have CU := fun w' => pulled_x (ex (k + 1)).1 u.axles.length (ex (k + 1)).2 u w' hvu
            have CZ := fun w' => at_c x (rearN x.unit - pulledN u) 0 w'
            rw [hz] at CZ
            have ew := IntWalk.i64_in (rearN x.unit - pulledN u) (by have := rear_bds hvx; have := pulled_bds hvu; have := unitB_bds hvu; omega)
            unfold putV at CJ CZ
            generalize rearN x.unit = RN at *
            generalize pulledN u = PU at *
            have hof : off + (k + 1) * 11 = off + 11 + k * 11 := by omega
            have k0 := Ext.cell EW (hc 0 _ rfl)
            have k1 := Ext.cell EW (hc 1 _ rfl)
            have k2 := Ext.cell EW (hc 2 _ rfl)
            have k3 := Ext.cell EW (hc 3 _ rfl)
            have k4 := Ext.cell EW (hc 4 _ rfl)
            have k5 := Ext.cell EW (hc 5 _ rfl)
            have k6 := Ext.cell EW (hc 6 _ rfl)
            have k7 := Ext.cell EW (hc 7 _ rfl)
            have k8 := Ext.cell EW (hc 8 _ rfl)
            have k9 := Ext.cell EW (hc 9 _ rfl)
            have k10 := Ext.cell EW (hc 10 _ rfl)
            rw [hof] at k0 k1 k2 k3 k4 k5 k6 k7 k8 k9 k10
            simp only [Nat.add_zero] at k0
            have HCE := Lib.hid CE
            have HCJ := Lib.hid CJ
            have HCU := Lib.hid CU
            have HCZ := Lib.hid CZ
            have HTT := Lib.hid hT
            have HVU := Lib.hid hvu
            have HOO := Lib.hid hO
            have HPL := Lib.hid hpl
            have hpl12 : pre.length ≤ 12 := by have := HUS.out.2.1; omega
            have hrow : ∀ n, wr.heap.size ≤ n → (Value.slice A9 pre.length c9).ownBlock ≠ some n := fun n hn e => by have := row_lt hO e; omega
            have ew2 := IntWalk.i64_in ((k : Int) + 1) (by have := HUS.out.2.1; omega)
            have i1 : (0 : Int) ≤ (k : Int) := by omega
            have i2 : (k : Int) < (m : Int) := by omega
            have HROW := Lib.hid hrow
            clear CE CJ CU CZ hT hvu hc hax hu huk hj hz hof hvx hO hrow hpl hku
            go_upto_region 17 with fail
            have hE7 : Ext wr ((wr.alloc (.cells #[.int .i64 u.kind, .int .i64 u.length, .int .i64 u.behind, .int .i64 u.front, .int .i64 u.rear, .int .i64 u.width, .int .i64 u.height, .int .i64 u.mass, .int .i64 u.steer, .int .i64 u.most, .slice (ex (k + 1)).1 u.axles.length (ex (k + 1)).2] 45)).alloc (.cells #[.int .i64 u.kind, .int .i64 u.length, .int .i64 u.behind, .int .i64 u.front, .int .i64 u.rear, .int .i64 u.width, .int .i64 u.height, .int .i64 u.mass, .int .i64 u.steer, .int .i64 u.most, .slice (ex (k + 1)).1 u.axles.length (ex (k + 1)).2] 62)) := ((Ext.refl wr).alloc _).alloc _
            have hU7 : ((wr.alloc (.cells #[.int .i64 u.kind, .int .i64 u.length, .int .i64 u.behind, .int .i64 u.front, .int .i64 u.rear, .int .i64 u.width, .int .i64 u.height, .int .i64 u.mass, .int .i64 u.steer, .int .i64 u.most, .slice (ex (k + 1)).1 u.axles.length (ex (k + 1)).2] 45)).alloc (.cells #[.int .i64 u.kind, .int .i64 u.length, .int .i64 u.behind, .int .i64 u.front, .int .i64 u.rear, .int .i64 u.width, .int .i64 u.height, .int .i64 u.mass, .int .i64 u.steer, .int .i64 u.most, .slice (ex (k + 1)).1 u.axles.length (ex (k + 1)).2] 62)).heap[wr.heap.size + 1]? = some (.cells #[.int .i64 u.kind, .int .i64 u.length, .int .i64 u.behind, .int .i64 u.front, .int .i64 u.rear, .int .i64 u.width, .int .i64 u.height, .int .i64 u.mass, .int .i64 u.steer, .int .i64 u.most, .slice (ex (k + 1)).1 u.axles.length (ex (k + 1)).2] 62 (0, 0)) := new_at (by simp)
            have hz7 : wr.heap.size + 1 < ((wr.alloc (.cells #[.int .i64 u.kind, .int .i64 u.length, .int .i64 u.behind, .int .i64 u.front, .int .i64 u.rear, .int .i64 u.width, .int .i64 u.height, .int .i64 u.mass, .int .i64 u.steer, .int .i64 u.most, .slice (ex (k + 1)).1 u.axles.length (ex (k + 1)).2] 45)).alloc (.cells #[.int .i64 u.kind, .int .i64 u.length, .int .i64 u.behind, .int .i64 u.front, .int .i64 u.rear, .int .i64 u.width, .int .i64 u.height, .int .i64 u.mass, .int .i64 u.steer, .int .i64 u.most, .slice (ex (k + 1)).1 u.axles.length (ex (k + 1)).2] 62)).heap.size := by simp
            generalize ((wr.alloc (.cells #[.int .i64 u.kind, .int .i64 u.length, .int .i64 u.behind, .int .i64 u.front, .int .i64 u.rear, .int .i64 u.width, .int .i64 u.height, .int .i64 u.mass, .int .i64 u.steer, .int .i64 u.most, .slice (ex (k + 1)).1 u.axles.length (ex (k + 1)).2] 45)).alloc (.cells #[.int .i64 u.kind, .int .i64 u.length, .int .i64 u.behind, .int .i64 u.front, .int .i64 u.rear, .int .i64 u.width, .int .i64 u.height, .int .i64 u.mass, .int .i64 u.steer, .int .i64 u.most, .slice (ex (k + 1)).1 u.axles.length (ex (k + 1)).2] 62)) = W7 at *
            clear k0 k1 k2 k3 k4 k5 k6 k7 k8 k9 k10
            have hP7 := hE7.blk hP
            have hX7 := hE7.blk hX
            have x0 : W7.cell? ⟨B13, 0, none⟩ = some (.int .i64 x.unit.kind) := World.news_of_block hX7 0 _ rfl
            have x1 : W7.cell? ⟨B13, 1, none⟩ = some (.int .i64 x.unit.length) := World.news_of_block hX7 1 _ rfl
            have x2 : W7.cell? ⟨B13, 2, none⟩ = some (.int .i64 x.unit.behind) := World.news_of_block hX7 2 _ rfl
            have x3 : W7.cell? ⟨B13, 3, none⟩ = some (.int .i64 x.unit.front) := World.news_of_block hX7 3 _ rfl
            have x4 : W7.cell? ⟨B13, 4, none⟩ = some (.int .i64 x.unit.rear) := World.news_of_block hX7 4 _ rfl
            have x5 : W7.cell? ⟨B13, 5, none⟩ = some (.int .i64 x.unit.width) := World.news_of_block hX7 5 _ rfl
            have x6 : W7.cell? ⟨B13, 6, none⟩ = some (.int .i64 x.unit.height) := World.news_of_block hX7 6 _ rfl
            have x7 : W7.cell? ⟨B13, 7, none⟩ = some (.int .i64 x.unit.mass) := World.news_of_block hX7 7 _ rfl
            have x8 : W7.cell? ⟨B13, 8, none⟩ = some (.int .i64 x.unit.steer) := World.news_of_block hX7 8 _ rfl
            have x9 : W7.cell? ⟨B13, 9, none⟩ = some (.int .i64 x.unit.most) := World.news_of_block hX7 9 _ rfl
            have x10 : W7.cell? ⟨B13, 10, none⟩ = some (.slice x.A x.unit.axles.length x.cap) := World.news_of_block hX7 10 _ rfl
            have x11 : W7.cell? ⟨B13, 11, none⟩ = some (.int .i64 x.joint.1) := World.news_of_block hX7 11 _ rfl
            have x12 : W7.cell? ⟨B13, 12, none⟩ = some (.int .i64 x.joint.2) := World.news_of_block hX7 12 _ rfl
            have x13 : W7.cell? ⟨B13, 13, none⟩ = some (.int .i64 x.axle.1) := World.news_of_block hX7 13 _ rfl
            have x14 : W7.cell? ⟨B13, 14, none⟩ = some (.int .i64 x.axle.2) := World.news_of_block hX7 14 _ rfl
            go_cut [17, 18] from 69 to 111 (fun sa sb wc => ∃ t, sa = .pointer (some ⟨t, 0, none⟩) ∧ sb = .int .i64 j.2 ∧ Ext W7 wc ∧ W7.heap.size ≤ t ∧ wc.heap[t]? = some (.cells #[.int .i64 j.1.1, .int .i64 j.1.2] 26 (0, 0)))
            case first =>
              go_region_held3 (fun w' => w'.cell? ⟨B13, 0, none⟩ = some (.int .i64 x.unit.kind) ∧ w'.cell? ⟨B13, 1, none⟩ = some (.int .i64 x.unit.length) ∧ w'.cell? ⟨B13, 2, none⟩ = some (.int .i64 x.unit.behind) ∧ w'.cell? ⟨B13, 3, none⟩ = some (.int .i64 x.unit.front) ∧ w'.cell? ⟨B13, 4, none⟩ = some (.int .i64 x.unit.rear) ∧ w'.cell? ⟨B13, 5, none⟩ = some (.int .i64 x.unit.width) ∧ w'.cell? ⟨B13, 6, none⟩ = some (.int .i64 x.unit.height) ∧ w'.cell? ⟨B13, 7, none⟩ = some (.int .i64 x.unit.mass) ∧ w'.cell? ⟨B13, 8, none⟩ = some (.int .i64 x.unit.steer) ∧ w'.cell? ⟨B13, 9, none⟩ = some (.int .i64 x.unit.most) ∧ w'.cell? ⟨B13, 10, none⟩ = some (.slice x.A x.unit.axles.length x.cap) ∧ w'.cell? ⟨B13, 11, none⟩ = some (.int .i64 x.joint.1) ∧ w'.cell? ⟨B13, 12, none⟩ = some (.int .i64 x.joint.2) ∧ w'.cell? ⟨B13, 13, none⟩ = some (.int .i64 x.axle.1) ∧ w'.cell? ⟨B13, 14, none⟩ = some (.int .i64 x.axle.2)) (refine ⟨?_, ?_, ?_, ?_, ?_, ?_, ?_, ?_, ?_, ?_, ?_, ?_, ?_, ?_, ?_⟩ <;> (repeat' (with_reducible (first | assumption | refine Ext.cell hbZ ?_ | refine Ext.cell hbE ?_ | refine Ext.cell (Ext.refl _).drew ?_ | refine cell_set_ne (by first | omega | (simp; omega)) ?_ | refine Ext.cell ((Ext.refl _).alloc _) ?_)))) (first
                | (go_at_call 39; refine (HCE.out _).mono ?_; rintro e wE ⟨rfl, hbE⟩; have zE := (show Ext W7 wE from by (repeat' (first | exact Ext.refl _ | assumption | refine Ext.alloc ?_ _ | refine Ext.drew ?_ | refine Ext.drewN ?_ _ | refine Ext.set ?_ (by first | exact Nat.le_refl _ | exact le1 _ | exact le2 _ | exact le3 _ | exact le4 _ | exact le5 _ | exact le6 _) _ | refine Ext.trans ?_ (by assumption)))).sz; (try (replace yW := (hbE.block _ (Array.getElem?_eq_some_iff.1 yW).1).trans yW)); (try (have yW : wE.heap[W7.heap.size]? = some (.cells #[.int .i64 0, .int .i64 0] 26 (0, 0)) := new_kept (W := W7.drew) hbE)); skip)
                | (go_at_call 29; refine (HCJ.out _).mono ?_; rintro e wZ ⟨rfl, hbZ⟩; unfold ptV; have zZ := (show Ext W7 wZ from by (repeat' (first | exact Ext.refl _ | assumption | refine Ext.alloc ?_ _ | refine Ext.drew ?_ | refine Ext.drewN ?_ _ | refine Ext.set ?_ (by first | exact Nat.le_refl _ | exact le1 _ | exact le2 _ | exact le3 _ | exact le4 _ | exact le5 _ | exact le6 _) _ | refine Ext.trans ?_ (by assumption)))).sz; (try (replace yE := (hbZ.block _ (Array.getElem?_eq_some_iff.1 yE).1).trans yE)); (try (replace yW := (hbZ.block _ (Array.getElem?_eq_some_iff.1 yW).1).trans yW)); (try (have yW : wZ.heap[W7.heap.size]? = some (.cells #[.int .i64 0, .int .i64 0] 26 (0, 0)) := new_kept (W := W7.drew) hbZ)); (try (have yE : wZ.heap[wE.heap.size]? = some (.cells #[.int .i64 0, .int .i64 0] 26 (0, 0)) := new_kept (W := wE) hbZ)); (try (have c0 : wZ.cell? ⟨W7.heap.size, 0, none⟩ = some (.int .i64 0) := World.news_of_block yW 0 _ rfl; have c1 : wZ.cell? ⟨W7.heap.size, 1, none⟩ = some (.int .i64 0) := World.news_of_block yW 1 _ rfl; have f0 := blk_frz yW 0; have f1 := blk_frz yW 1)); (try (have c0 : wZ.cell? ⟨wE.heap.size, 0, none⟩ = some (.int .i64 0) := World.news_of_block yE 0 _ rfl; have c1 : wZ.cell? ⟨wE.heap.size, 1, none⟩ = some (.int .i64 0) := World.news_of_block yE 1 _ rfl; have f0 := blk_frz yE 0; have f1 := blk_frz yE 1)); skip))
              all_goals
                go_wp2_with fail
                go_meet
                first
                  | exact ⟨wZ.heap.size, rfl, rfl, by (repeat' (first | exact Ext.refl _ | assumption | refine Ext.alloc ?_ _ | refine Ext.drew ?_ | refine Ext.drewN ?_ _ | refine Ext.set ?_ (by first | exact Nat.le_refl _ | exact le1 _ | exact le2 _ | exact le3 _ | exact le4 _ | exact le5 _ | exact le6 _) _ | refine Ext.trans ?_ (by assumption))), zZ, World.alloc_heap_new wZ _⟩
                  | exact ⟨wE.heap.size, rfl, rfl, ((show Ext W7 wZ from by (repeat' (first | exact Ext.refl _ | assumption | refine Ext.alloc ?_ _ | refine Ext.drew ?_ | refine Ext.drewN ?_ _ | refine Ext.set ?_ (by first | exact Nat.le_refl _ | exact le1 _ | exact le2 _ | exact le3 _ | exact le4 _ | exact le5 _ | exact le6 _) _ | refine Ext.trans ?_ (by assumption)))).set (p := ⟨wE.heap.size, 0, none⟩) zE _).set (p := ⟨wE.heap.size, 1, none⟩) zE _, zE, two1 _ (two0 _ yE)⟩
                  | exact ⟨W7.heap.size, rfl, rfl, ((show Ext W7 wZ from by (repeat' (first | exact Ext.refl _ | assumption | refine Ext.alloc ?_ _ | refine Ext.drew ?_ | refine Ext.drewN ?_ _ | refine Ext.set ?_ (by first | exact Nat.le_refl _ | exact le1 _ | exact le2 _ | exact le3 _ | exact le4 _ | exact le5 _ | exact le6 _) _ | refine Ext.trans ?_ (by assumption)))).set (p := ⟨W7.heap.size, 0, none⟩) (Nat.le_refl _) _).set (p := ⟨W7.heap.size, 1, none⟩) (Nat.le_refl _) _, (Nat.le_refl _), two1 _ (two0 _ yW)⟩
            case rest =>
              obtain ⟨t, rfl, rfl, E8, ht, hTt⟩ := hcut
              generalize wc = W8 at *
              have E9 := (E.trans hE7).trans E8
              have hs78 := E8.sz
              by_cases hn : j.2 = 0
              case neg =>
                have hrj : r.2 = j.2 := by have := HTT.out; rw [if_neg hn] at this; exact (Prod.mk.inj this).2.symm
                have ER := E3.trans E9
                have hR9 := (E9).blk hR3
                have r0 : W8.cell? ⟨w.heap.size + 1 + 1 + 1, 0, none⟩ = some (.int .i64 0) := World.news_of_block hR9 0 _ rfl
                have r1 : W8.cell? ⟨w.heap.size + 1 + 1 + 1, 1, none⟩ = some (.int .i64 0) := World.news_of_block hR9 1 _ rfl
                have r2 : W8.cell? ⟨w.heap.size + 1 + 1 + 1, 2, none⟩ = some (.slice none 0 0) := World.news_of_block hR9 2 _ rfl
                have f0 := blk_frz hR9 0
                have f1 := blk_frz hR9 1
                have f2 := blk_frz hR9 2
                have HRJ := Lib.hid hrj
                have HNN := Lib.hid hn
                clear hrj
                go_wp2_with fail
                have hR2 := three_set (.int .i64 0) (.int .i64 0) (.slice none 0 0) hR9
                have ER2 := ((ER.set (p := ⟨w.heap.size + 1 + 1 + 1, 0, none⟩) (le3 _) (.int .i64 0)).set (p := ⟨w.heap.size + 1 + 1 + 1, 1, none⟩) (le3 _) (.int .i64 0)).set (p := ⟨w.heap.size + 1 + 1 + 1, 2, none⟩) (le3 _) (.slice none 0 0)
                generalize (((W8.setCell ⟨w.heap.size + 1 + 1 + 1, 0, none⟩ (.int .i64 0)).setCell ⟨w.heap.size + 1 + 1 + 1, 1, none⟩ (.int .i64 0)).setCell ⟨w.heap.size + 1 + 1 + 1, 2, none⟩ (.slice none 0 0)) = WF at *
                have n0 : WF.cell? ⟨w.heap.size + 1 + 1 + 1, 0, none⟩ = some (.int .i64 0) := World.news_of_block hR2 0 _ rfl
                have n1 : WF.cell? ⟨w.heap.size + 1 + 1 + 1, 1, none⟩ = some (.int .i64 0) := World.news_of_block hR2 1 _ rfl
                have n2 : WF.cell? ⟨w.heap.size + 1 + 1 + 1, 2, none⟩ = some (.slice none 0 0) := World.news_of_block hR2 2 _ rfl
                refine bodyPost_ret (v := poseEV (0, 0) (.slice none 0 0) j.2) (by simp [results, Tryz.results26, go_sem, n0, n1, n2, poseEV]) rfl ?_
                rw [← HPo.out]
                unfold StrR
                rw [HR.out, if_pos HQ0.out, if_neg (by rw [HRJ.out]; exact HNN.out), HRJ.out]
                exact ⟨_, rfl, .inl ⟨none, 0, rfl, rfl⟩, ER2⟩
              case pos =>
                have HJ0 := Lib.hid hn
                have hP8 := E8.blk hP7
                have hX8 := E8.blk hX7
                have hU8 := E8.blk hU7
                clear hP7 hX7 x0 x1 x2 x3 x4 x5 x6 x7 x8 x9 x10 x11 x12 x13 x14
                have x0 : W8.cell? ⟨B13, 0, none⟩ = some (.int .i64 x.unit.kind) := World.news_of_block hX8 0 _ rfl
                have x1 : W8.cell? ⟨B13, 1, none⟩ = some (.int .i64 x.unit.length) := World.news_of_block hX8 1 _ rfl
                have x2 : W8.cell? ⟨B13, 2, none⟩ = some (.int .i64 x.unit.behind) := World.news_of_block hX8 2 _ rfl
                have x3 : W8.cell? ⟨B13, 3, none⟩ = some (.int .i64 x.unit.front) := World.news_of_block hX8 3 _ rfl
                have x4 : W8.cell? ⟨B13, 4, none⟩ = some (.int .i64 x.unit.rear) := World.news_of_block hX8 4 _ rfl
                have x5 : W8.cell? ⟨B13, 5, none⟩ = some (.int .i64 x.unit.width) := World.news_of_block hX8 5 _ rfl
                have x6 : W8.cell? ⟨B13, 6, none⟩ = some (.int .i64 x.unit.height) := World.news_of_block hX8 6 _ rfl
                have x7 : W8.cell? ⟨B13, 7, none⟩ = some (.int .i64 x.unit.mass) := World.news_of_block hX8 7 _ rfl
                have x8 : W8.cell? ⟨B13, 8, none⟩ = some (.int .i64 x.unit.steer) := World.news_of_block hX8 8 _ rfl
                have x9 : W8.cell? ⟨B13, 9, none⟩ = some (.int .i64 x.unit.most) := World.news_of_block hX8 9 _ rfl
                have x10 : W8.cell? ⟨B13, 10, none⟩ = some (.slice x.A x.unit.axles.length x.cap) := World.news_of_block hX8 10 _ rfl
                have x11 : W8.cell? ⟨B13, 11, none⟩ = some (.int .i64 x.joint.1) := World.news_of_block hX8 11 _ rfl
                have x12 : W8.cell? ⟨B13, 12, none⟩ = some (.int .i64 x.joint.2) := World.news_of_block hX8 12 _ rfl
                have x13 : W8.cell? ⟨B13, 13, none⟩ = some (.int .i64 x.axle.1) := World.news_of_block hX8 13 _ rfl
                have x14 : W8.cell? ⟨B13, 14, none⟩ = some (.int .i64 x.axle.2) := World.news_of_block hX8 14 _ rfl
                have d0 : W8.cell? ⟨wr.heap.size + 1, 0, none⟩ = some (.int .i64 u.kind) := World.news_of_block hU8 0 _ rfl
                have d1 : W8.cell? ⟨wr.heap.size + 1, 1, none⟩ = some (.int .i64 u.length) := World.news_of_block hU8 1 _ rfl
                have d2 : W8.cell? ⟨wr.heap.size + 1, 2, none⟩ = some (.int .i64 u.behind) := World.news_of_block hU8 2 _ rfl
                have d3 : W8.cell? ⟨wr.heap.size + 1, 3, none⟩ = some (.int .i64 u.front) := World.news_of_block hU8 3 _ rfl
                have d4 : W8.cell? ⟨wr.heap.size + 1, 4, none⟩ = some (.int .i64 u.rear) := World.news_of_block hU8 4 _ rfl
                have d5 : W8.cell? ⟨wr.heap.size + 1, 5, none⟩ = some (.int .i64 u.width) := World.news_of_block hU8 5 _ rfl
                have d6 : W8.cell? ⟨wr.heap.size + 1, 6, none⟩ = some (.int .i64 u.height) := World.news_of_block hU8 6 _ rfl
                have d7 : W8.cell? ⟨wr.heap.size + 1, 7, none⟩ = some (.int .i64 u.mass) := World.news_of_block hU8 7 _ rfl
                have d8 : W8.cell? ⟨wr.heap.size + 1, 8, none⟩ = some (.int .i64 u.steer) := World.news_of_block hU8 8 _ rfl
                have d9 : W8.cell? ⟨wr.heap.size + 1, 9, none⟩ = some (.int .i64 u.most) := World.news_of_block hU8 9 _ rfl
                have d10 : W8.cell? ⟨wr.heap.size + 1, 10, none⟩ = some (.slice (ex (k + 1)).1 u.axles.length (ex (k + 1)).2) := World.news_of_block hU8 10 _ rfl
                go_upto_region 20 with fail
                go_cut [19, 18] from 69 to 111 (fun sa sb wd => ∃ t, sa = .pointer (some ⟨t, 0, none⟩) ∧ sb = .int .i64 z.2 ∧ Ext W8 wd ∧ W8.heap.size ≤ t ∧ wd.heap[t]? = some (.cells #[.int .i64 z.1.1, .int .i64 z.1.2] 26 (0, 0)))
                case first =>
                  go_region_held3 (fun w' => w'.cell? ⟨B13, 0, none⟩ = some (.int .i64 x.unit.kind) ∧ w'.cell? ⟨B13, 1, none⟩ = some (.int .i64 x.unit.length) ∧ w'.cell? ⟨B13, 2, none⟩ = some (.int .i64 x.unit.behind) ∧ w'.cell? ⟨B13, 3, none⟩ = some (.int .i64 x.unit.front) ∧ w'.cell? ⟨B13, 4, none⟩ = some (.int .i64 x.unit.rear) ∧ w'.cell? ⟨B13, 5, none⟩ = some (.int .i64 x.unit.width) ∧ w'.cell? ⟨B13, 6, none⟩ = some (.int .i64 x.unit.height) ∧ w'.cell? ⟨B13, 7, none⟩ = some (.int .i64 x.unit.mass) ∧ w'.cell? ⟨B13, 8, none⟩ = some (.int .i64 x.unit.steer) ∧ w'.cell? ⟨B13, 9, none⟩ = some (.int .i64 x.unit.most) ∧ w'.cell? ⟨B13, 10, none⟩ = some (.slice x.A x.unit.axles.length x.cap) ∧ w'.cell? ⟨B13, 11, none⟩ = some (.int .i64 x.joint.1) ∧ w'.cell? ⟨B13, 12, none⟩ = some (.int .i64 x.joint.2) ∧ w'.cell? ⟨B13, 13, none⟩ = some (.int .i64 x.axle.1) ∧ w'.cell? ⟨B13, 14, none⟩ = some (.int .i64 x.axle.2) ∧ w'.cell? ⟨wr.heap.size + 1, 0, none⟩ = some (.int .i64 u.kind) ∧ w'.cell? ⟨wr.heap.size + 1, 1, none⟩ = some (.int .i64 u.length) ∧ w'.cell? ⟨wr.heap.size + 1, 2, none⟩ = some (.int .i64 u.behind) ∧ w'.cell? ⟨wr.heap.size + 1, 3, none⟩ = some (.int .i64 u.front) ∧ w'.cell? ⟨wr.heap.size + 1, 4, none⟩ = some (.int .i64 u.rear) ∧ w'.cell? ⟨wr.heap.size + 1, 5, none⟩ = some (.int .i64 u.width) ∧ w'.cell? ⟨wr.heap.size + 1, 6, none⟩ = some (.int .i64 u.height) ∧ w'.cell? ⟨wr.heap.size + 1, 7, none⟩ = some (.int .i64 u.mass) ∧ w'.cell? ⟨wr.heap.size + 1, 8, none⟩ = some (.int .i64 u.steer) ∧ w'.cell? ⟨wr.heap.size + 1, 9, none⟩ = some (.int .i64 u.most) ∧ w'.cell? ⟨wr.heap.size + 1, 10, none⟩ = some (.slice (ex (k + 1)).1 u.axles.length (ex (k + 1)).2)) (refine ⟨?_, ?_, ?_, ?_, ?_, ?_, ?_, ?_, ?_, ?_, ?_, ?_, ?_, ?_, ?_, ?_, ?_, ?_, ?_, ?_, ?_, ?_, ?_, ?_, ?_, ?_⟩ <;> (repeat' (with_reducible (first | assumption | refine Ext.cell hbZ ?_ | refine Ext.cell hbP ?_ | refine Ext.cell hbE ?_ | refine Ext.cell (Ext.refl _).drew ?_ | refine cell_set_ne (by first | omega | (simp; omega)) ?_ | refine Ext.cell ((Ext.refl _).alloc _) ?_)))) (first
                    | (go_at_call 39; refine (HCE.out _).mono ?_; rintro e wE ⟨rfl, hbE⟩; have zE := (show Ext W8 wE from by (repeat' (first | exact Ext.refl _ | assumption | refine Ext.alloc ?_ _ | refine Ext.drew ?_ | refine Ext.drewN ?_ _ | refine Ext.set ?_ (by first | exact Nat.le_refl _ | exact le1 _ | exact le2 _ | exact le3 _ | exact le4 _ | exact le5 _ | exact le6 _) _ | refine Ext.trans ?_ (by assumption)))).sz; (try (replace yP := (hbE.block _ (Array.getElem?_eq_some_iff.1 yP).1).trans yP)); (try (replace yW := (hbE.block _ (Array.getElem?_eq_some_iff.1 yW).1).trans yW)); (try (have yW : wE.heap[W8.heap.size]? = some (.cells #[.int .i64 0, .int .i64 0] 26 (0, 0)) := new_kept (W := W8.drew) hbE)); (try (have yP : wE.heap[wP.heap.size]? = some (.cells #[.int .i64 0, .int .i64 0] 26 (0, 0)) := new_kept (W := wP) hbE)); skip)
                    | (go_at_call 28; refine (HCU.out _).mono ?_; rintro e wP ⟨rfl, hbP⟩; have zP := (show Ext W8 wP from by (repeat' (first | exact Ext.refl _ | assumption | refine Ext.alloc ?_ _ | refine Ext.drew ?_ | refine Ext.drewN ?_ _ | refine Ext.set ?_ (by first | exact Nat.le_refl _ | exact le1 _ | exact le2 _ | exact le3 _ | exact le4 _ | exact le5 _ | exact le6 _) _ | refine Ext.trans ?_ (by assumption)))).sz; (try (replace yE := (hbP.block _ (Array.getElem?_eq_some_iff.1 yE).1).trans yE)); (try (replace yW := (hbP.block _ (Array.getElem?_eq_some_iff.1 yW).1).trans yW)); (try (have yW : wP.heap[W8.heap.size]? = some (.cells #[.int .i64 0, .int .i64 0] 26 (0, 0)) := new_kept (W := W8.drew) hbP)); (try (have yE : wP.heap[wE.heap.size]? = some (.cells #[.int .i64 0, .int .i64 0] 26 (0, 0)) := new_kept (W := wE) hbP)); skip)
                    | (go_at_call 29; refine (HCZ.out _).mono ?_; rintro e wZ ⟨rfl, hbZ⟩; unfold ptV; have zZ := (show Ext W8 wZ from by (repeat' (first | exact Ext.refl _ | assumption | refine Ext.alloc ?_ _ | refine Ext.drew ?_ | refine Ext.drewN ?_ _ | refine Ext.set ?_ (by first | exact Nat.le_refl _ | exact le1 _ | exact le2 _ | exact le3 _ | exact le4 _ | exact le5 _ | exact le6 _) _ | refine Ext.trans ?_ (by assumption)))).sz; (try (replace yP := (hbZ.block _ (Array.getElem?_eq_some_iff.1 yP).1).trans yP)); (try (replace yE := (hbZ.block _ (Array.getElem?_eq_some_iff.1 yE).1).trans yE)); (try (replace yW := (hbZ.block _ (Array.getElem?_eq_some_iff.1 yW).1).trans yW)); (try (have yW : wZ.heap[W8.heap.size]? = some (.cells #[.int .i64 0, .int .i64 0] 26 (0, 0)) := new_kept (W := W8.drew) hbZ)); (try (have yE : wZ.heap[wE.heap.size]? = some (.cells #[.int .i64 0, .int .i64 0] 26 (0, 0)) := new_kept (W := wE) hbZ)); (try (have yP : wZ.heap[wP.heap.size]? = some (.cells #[.int .i64 0, .int .i64 0] 26 (0, 0)) := new_kept (W := wP) hbZ)); (try (have c0 : wZ.cell? ⟨W8.heap.size, 0, none⟩ = some (.int .i64 0) := World.news_of_block yW 0 _ rfl; have c1 : wZ.cell? ⟨W8.heap.size, 1, none⟩ = some (.int .i64 0) := World.news_of_block yW 1 _ rfl; have f0 := blk_frz yW 0; have f1 := blk_frz yW 1)); (try (have c0 : wZ.cell? ⟨wE.heap.size, 0, none⟩ = some (.int .i64 0) := World.news_of_block yE 0 _ rfl; have c1 : wZ.cell? ⟨wE.heap.size, 1, none⟩ = some (.int .i64 0) := World.news_of_block yE 1 _ rfl; have f0 := blk_frz yE 0; have f1 := blk_frz yE 1)); (try (have c0 : wZ.cell? ⟨wP.heap.size, 0, none⟩ = some (.int .i64 0) := World.news_of_block yP 0 _ rfl; have c1 : wZ.cell? ⟨wP.heap.size, 1, none⟩ = some (.int .i64 0) := World.news_of_block yP 1 _ rfl; have f0 := blk_frz yP 0; have f1 := blk_frz yP 1)); skip))
                  all_goals
                    go_wp2_with fail
                    go_meet
                    first
                      | exact ⟨wZ.heap.size, rfl, rfl, by (repeat' (first | exact Ext.refl _ | assumption | refine Ext.alloc ?_ _ | refine Ext.drew ?_ | refine Ext.drewN ?_ _ | refine Ext.set ?_ (by first | exact Nat.le_refl _ | exact le1 _ | exact le2 _ | exact le3 _ | exact le4 _ | exact le5 _ | exact le6 _) _ | refine Ext.trans ?_ (by assumption))), zZ, World.alloc_heap_new wZ _⟩
                      | exact ⟨wE.heap.size, rfl, rfl, ((show Ext W8 wZ from by (repeat' (first | exact Ext.refl _ | assumption | refine Ext.alloc ?_ _ | refine Ext.drew ?_ | refine Ext.drewN ?_ _ | refine Ext.set ?_ (by first | exact Nat.le_refl _ | exact le1 _ | exact le2 _ | exact le3 _ | exact le4 _ | exact le5 _ | exact le6 _) _ | refine Ext.trans ?_ (by assumption)))).set (p := ⟨wE.heap.size, 0, none⟩) zE _).set (p := ⟨wE.heap.size, 1, none⟩) zE _, zE, two1 _ (two0 _ yE)⟩
                      | exact ⟨wP.heap.size, rfl, rfl, ((show Ext W8 wZ from by (repeat' (first | exact Ext.refl _ | assumption | refine Ext.alloc ?_ _ | refine Ext.drew ?_ | refine Ext.drewN ?_ _ | refine Ext.set ?_ (by first | exact Nat.le_refl _ | exact le1 _ | exact le2 _ | exact le3 _ | exact le4 _ | exact le5 _ | exact le6 _) _ | refine Ext.trans ?_ (by assumption)))).set (p := ⟨wP.heap.size, 0, none⟩) zP _).set (p := ⟨wP.heap.size, 1, none⟩) zP _, zP, two1 _ (two0 _ yP)⟩
                      | exact ⟨W8.heap.size, rfl, rfl, ((show Ext W8 wZ from by (repeat' (first | exact Ext.refl _ | assumption | refine Ext.alloc ?_ _ | refine Ext.drew ?_ | refine Ext.drewN ?_ _ | refine Ext.set ?_ (by first | exact Nat.le_refl _ | exact le1 _ | exact le2 _ | exact le3 _ | exact le4 _ | exact le5 _ | exact le6 _) _ | refine Ext.trans ?_ (by assumption)))).set (p := ⟨W8.heap.size, 0, none⟩) (Nat.le_refl _) _).set (p := ⟨W8.heap.size, 1, none⟩) (Nat.le_refl _) _, (Nat.le_refl _), two1 _ (two0 _ yW)⟩
                case rest =>
                  obtain ⟨t2, rfl, rfl, E10, ht2, hTt2⟩ := hcut
                  generalize wc = wd at *
                  have E11 := E9.trans E10
                  by_cases hn : z.2 = 0
                  case neg =>
                    have hrj : r.2 = z.2 := by have := HTT.out; rw [if_pos HJ0.out, if_neg hn] at this; exact (Prod.mk.inj this).2.symm
                    have ER := E3.trans E11
                    have hR9 := (E11).blk hR3
                    have r0 : wd.cell? ⟨w.heap.size + 1 + 1 + 1, 0, none⟩ = some (.int .i64 0) := World.news_of_block hR9 0 _ rfl
                    have r1 : wd.cell? ⟨w.heap.size + 1 + 1 + 1, 1, none⟩ = some (.int .i64 0) := World.news_of_block hR9 1 _ rfl
                    have r2 : wd.cell? ⟨w.heap.size + 1 + 1 + 1, 2, none⟩ = some (.slice none 0 0) := World.news_of_block hR9 2 _ rfl
                    have f0 := blk_frz hR9 0
                    have f1 := blk_frz hR9 1
                    have f2 := blk_frz hR9 2
                    have HRJ := Lib.hid hrj
                    have HNN := Lib.hid hn
                    clear hrj
                    go_wp2_with fail
                    have hR2 := three_set (.int .i64 0) (.int .i64 0) (.slice none 0 0) hR9
                    have ER2 := ((ER.set (p := ⟨w.heap.size + 1 + 1 + 1, 0, none⟩) (le3 _) (.int .i64 0)).set (p := ⟨w.heap.size + 1 + 1 + 1, 1, none⟩) (le3 _) (.int .i64 0)).set (p := ⟨w.heap.size + 1 + 1 + 1, 2, none⟩) (le3 _) (.slice none 0 0)
                    generalize (((wd.setCell ⟨w.heap.size + 1 + 1 + 1, 0, none⟩ (.int .i64 0)).setCell ⟨w.heap.size + 1 + 1 + 1, 1, none⟩ (.int .i64 0)).setCell ⟨w.heap.size + 1 + 1 + 1, 2, none⟩ (.slice none 0 0)) = WF at *
                    have n0 : WF.cell? ⟨w.heap.size + 1 + 1 + 1, 0, none⟩ = some (.int .i64 0) := World.news_of_block hR2 0 _ rfl
                    have n1 : WF.cell? ⟨w.heap.size + 1 + 1 + 1, 1, none⟩ = some (.int .i64 0) := World.news_of_block hR2 1 _ rfl
                    have n2 : WF.cell? ⟨w.heap.size + 1 + 1 + 1, 2, none⟩ = some (.slice none 0 0) := World.news_of_block hR2 2 _ rfl
                    refine bodyPost_ret (v := poseEV (0, 0) (.slice none 0 0) z.2) (by simp [results, Tryz.results26, go_sem, n0, n1, n2, poseEV]) rfl ?_
                    rw [← HPo.out]
                    unfold StrR
                    rw [HR.out, if_pos HQ0.out, if_neg (by rw [HRJ.out]; exact HNN.out), HRJ.out]
                    exact ⟨_, rfl, .inl ⟨none, 0, rfl, rfl⟩, ER2⟩
                  case pos =>
                    have HZ0 := Lib.hid hn
                    have hP9 := E10.blk hP8
                    have hX9 := E10.blk hX8
                    have hU9 := E10.blk hU8
                    have hT9 := E10.blk hTt
                    have hEr := (hE7.trans E8).trans E10
                    have hO9 := HOO.out.ext hEr
                    have hsr := hEr.sz
                    have hs3 := E11.sz
                    obtain ⟨ip, hip, hz0, hz1, hz2⟩ := info_parts infoPoint
                    have p2 : wd.cell? ⟨w3.heap.size, 2, none⟩ = some (.slice A9 pre.length c9) := World.news_of_block hP9 2 _ rfl
                    have b0 : wd.cell? ⟨t2, 0, none⟩ = some (.int .i64 z.1.1) := World.news_of_block hTt2 0 _ rfl
                    have b1 : wd.cell? ⟨t2, 1, none⟩ = some (.int .i64 z.1.2) := World.news_of_block hTt2 1 _ rfl
                    have hlp := lt_of_cell p2
                    have hlt2 := lt_of_cell b0
                    have hltt := fst_lt hT9
                    have hlu := fst_lt hU9
                    have hlx := fst_lt hX9
                    have hne9 : (Value.slice A9 pre.length c9).ownBlock ≠ some w3.heap.size := row_ne hO9 hP9 (fun cur e => by cases e)
                    have hneX : (Value.slice A9 pre.length c9).ownBlock ≠ some B13 := row_ne hO9 hX9 (fun cur e => by cases e)
                    go_upto_region 24 with (at_builtin; refine wpList_append_lies _ rfl _ _ 27 rfl w3.heap.size 26 ip _ 2 16 Tryz.underlying27 hip hz0 hz1 hz2 rfl (by omega) (.slice A9 pre.length c9) pre.length (flatP pre) rfl ((hO9.alloc _)) ⟨wd.heap.size, 0, none⟩ 1 1 [.int .i64 z.1.1, .int .i64 z.1.2] rfl rfl (World.news_of_block (cs := #[.int .i64 z.1.1, .int .i64 z.1.2]) (t := 26) (fr := (0, 0)) (heap_alloc_new _ _)) (by simp [Value.oneCell']) (by omega) (by unfold maxLen; omega) (by omega) (by simp; omega) (wd.heap.size + 1) (by simp) ?_; intro g8 cap8 w8 hown8 hgrow8 hat8 hlt8; have hP8n := (hgrow8.block w3.heap.size (by simp; omega) (fun e => hne9 e.symm)).trans (((Ext.refl wd).alloc _).blk hP9); have p28 : w8.cell? ⟨w3.heap.size, 2, none⟩ = some (.slice A9 pre.length c9) := World.news_of_block hP8n 2 _ rfl; have fp8 := blk_frz hP8n 2)
                    have EG : Ext w3 w8 := Ext.grown (E11.alloc _) hgrow8 (fun g hg => own_ge hO9 g hg)
                    have hU10 := (hgrow8.block (wr.heap.size + 1) (by simp; omega) (fun e => HROW.out _ (by omega) e.symm)).trans (((Ext.refl wd).alloc (.cells #[.int .i64 z.1.1, .int .i64 z.1.2] 26)).blk hU9)
                    have hX10 := (hgrow8.block B13 (by simp; omega) (fun e => hneX e.symm)).trans (((Ext.refl wd).alloc (.cells #[.int .i64 z.1.1, .int .i64 z.1.2] 26)).blk hX9)
                    have hT10 := (hgrow8.block t (by simp; omega) (fun e => HROW.out _ (by omega) e.symm)).trans (((Ext.refl wd).alloc (.cells #[.int .i64 z.1.1, .int .i64 z.1.2] 26)).blk hT9)
                    have hS10 := (hgrow8.block t2 (by simp; omega) (fun e => HROW.out _ (by omega) e.symm)).trans (((Ext.refl wd).alloc (.cells #[.int .i64 z.1.1, .int .i64 z.1.2] 26)).blk hTt2)
                    have EGs := EG.set (p := ⟨w3.heap.size, 2, none⟩) (Nat.le_refl _) (.slice (some ⟨g8, 0, none⟩) (pre.length + 1) cap8)
                    have hP11 := blk_set 2 (.slice (some ⟨g8, 0, none⟩) (pre.length + 1) cap8) hP8n
                    simp only [List.setIfInBounds_toArray, List.set_cons_zero, List.set_cons_succ] at hP11
                    have hO11 := own_set (b := w3.heap.size) (o := 2) (u := (.slice (some ⟨g8, 0, none⟩) (pre.length + 1) cap8)) hown8 (row_ne hown8 hP8n (fun cur e => by cases e))
                    replace hO11 : OwnP w3.heap.size (w8.setCell ⟨w3.heap.size, 2, none⟩ (.slice (some ⟨g8, 0, none⟩) (pre.length + 1) cap8)) (.slice (some ⟨g8, 0, none⟩) (pre.length + 1) cap8) (pre ++ [z.1]) := by unfold OwnP; rw [flatP_snoc, List.length_append]; exact hO11
                    have hU11 := (heap_ne (b := wr.heap.size + 1) (c := w3.heap.size) (o := 2) (u := (.slice (some ⟨g8, 0, none⟩) (pre.length + 1) cap8)) (by omega)).trans hU10
                    have hX11 := (heap_ne (b := B13) (c := w3.heap.size) (o := 2) (u := (.slice (some ⟨g8, 0, none⟩) (pre.length + 1) cap8)) (by omega)).trans hX10
                    have hT11 := (heap_ne (b := t) (c := w3.heap.size) (o := 2) (u := (.slice (some ⟨g8, 0, none⟩) (pre.length + 1) cap8)) (by omega)).trans hT10
                    have hS11 := (heap_ne (b := t2) (c := w3.heap.size) (o := 2) (u := (.slice (some ⟨g8, 0, none⟩) (pre.length + 1) cap8)) (by omega)).trans hS10
                    generalize (w8.setCell ⟨w3.heap.size, 2, none⟩ (.slice (some ⟨g8, 0, none⟩) (pre.length + 1) cap8)) = W9 at *
                    clear hgrow8 hown8 hat8 hlt8 hP8n p28 fp8 EG hU10 hX10 hT10 hS10 hU9 hX9 hT9 hTt2 hP9 hO9 p2 b0 b1 hP8 hX8 hU8 hP hX E8 E10 E11 E9 hE7 EW E hTt x0 x1 x2 x3 x4 x5 x6 x7 x8 x9 x10 x11 x12 x13 x14 d0 d1 d2 d3 d4 d5 d6 d7 d8 d9 d10
                    have x0 : W9.cell? ⟨B13, 0, none⟩ = some (.int .i64 x.unit.kind) := World.news_of_block hX11 0 _ rfl
                    have x1 : W9.cell? ⟨B13, 1, none⟩ = some (.int .i64 x.unit.length) := World.news_of_block hX11 1 _ rfl
                    have x2 : W9.cell? ⟨B13, 2, none⟩ = some (.int .i64 x.unit.behind) := World.news_of_block hX11 2 _ rfl
                    have x3 : W9.cell? ⟨B13, 3, none⟩ = some (.int .i64 x.unit.front) := World.news_of_block hX11 3 _ rfl
                    have x4 : W9.cell? ⟨B13, 4, none⟩ = some (.int .i64 x.unit.rear) := World.news_of_block hX11 4 _ rfl
                    have x5 : W9.cell? ⟨B13, 5, none⟩ = some (.int .i64 x.unit.width) := World.news_of_block hX11 5 _ rfl
                    have x6 : W9.cell? ⟨B13, 6, none⟩ = some (.int .i64 x.unit.height) := World.news_of_block hX11 6 _ rfl
                    have x7 : W9.cell? ⟨B13, 7, none⟩ = some (.int .i64 x.unit.mass) := World.news_of_block hX11 7 _ rfl
                    have x8 : W9.cell? ⟨B13, 8, none⟩ = some (.int .i64 x.unit.steer) := World.news_of_block hX11 8 _ rfl
                    have x9 : W9.cell? ⟨B13, 9, none⟩ = some (.int .i64 x.unit.most) := World.news_of_block hX11 9 _ rfl
                    have x10 : W9.cell? ⟨B13, 10, none⟩ = some (.slice x.A x.unit.axles.length x.cap) := World.news_of_block hX11 10 _ rfl
                    have x11 : W9.cell? ⟨B13, 11, none⟩ = some (.int .i64 x.joint.1) := World.news_of_block hX11 11 _ rfl
                    have x12 : W9.cell? ⟨B13, 12, none⟩ = some (.int .i64 x.joint.2) := World.news_of_block hX11 12 _ rfl
                    have x13 : W9.cell? ⟨B13, 13, none⟩ = some (.int .i64 x.axle.1) := World.news_of_block hX11 13 _ rfl
                    have x14 : W9.cell? ⟨B13, 14, none⟩ = some (.int .i64 x.axle.2) := World.news_of_block hX11 14 _ rfl
                    have f0 := blk_frz hX11 0
                    have f1 := blk_frz hX11 1
                    have f2 := blk_frz hX11 2
                    have f3 := blk_frz hX11 3
                    have f4 := blk_frz hX11 4
                    have f5 := blk_frz hX11 5
                    have f6 := blk_frz hX11 6
                    have f7 := blk_frz hX11 7
                    have f8 := blk_frz hX11 8
                    have f9 := blk_frz hX11 9
                    have f10 := blk_frz hX11 10
                    have f11 := blk_frz hX11 11
                    have f12 := blk_frz hX11 12
                    have f13 := blk_frz hX11 13
                    have f14 := blk_frz hX11 14
                    have d0 : W9.cell? ⟨wr.heap.size + 1, 0, none⟩ = some (.int .i64 u.kind) := World.news_of_block hU11 0 _ rfl
                    have d1 : W9.cell? ⟨wr.heap.size + 1, 1, none⟩ = some (.int .i64 u.length) := World.news_of_block hU11 1 _ rfl
                    have d2 : W9.cell? ⟨wr.heap.size + 1, 2, none⟩ = some (.int .i64 u.behind) := World.news_of_block hU11 2 _ rfl
                    have d3 : W9.cell? ⟨wr.heap.size + 1, 3, none⟩ = some (.int .i64 u.front) := World.news_of_block hU11 3 _ rfl
                    have d4 : W9.cell? ⟨wr.heap.size + 1, 4, none⟩ = some (.int .i64 u.rear) := World.news_of_block hU11 4 _ rfl
                    have d5 : W9.cell? ⟨wr.heap.size + 1, 5, none⟩ = some (.int .i64 u.width) := World.news_of_block hU11 5 _ rfl
                    have d6 : W9.cell? ⟨wr.heap.size + 1, 6, none⟩ = some (.int .i64 u.height) := World.news_of_block hU11 6 _ rfl
                    have d7 : W9.cell? ⟨wr.heap.size + 1, 7, none⟩ = some (.int .i64 u.mass) := World.news_of_block hU11 7 _ rfl
                    have d8 : W9.cell? ⟨wr.heap.size + 1, 8, none⟩ = some (.int .i64 u.steer) := World.news_of_block hU11 8 _ rfl
                    have d9 : W9.cell? ⟨wr.heap.size + 1, 9, none⟩ = some (.int .i64 u.most) := World.news_of_block hU11 9 _ rfl
                    have d10 : W9.cell? ⟨wr.heap.size + 1, 10, none⟩ = some (.slice (ex (k + 1)).1 u.axles.length (ex (k + 1)).2) := World.news_of_block hU11 10 _ rfl
                    have a0 : W9.cell? ⟨t, 0, none⟩ = some (.int .i64 j.1.1) := World.news_of_block hT11 0 _ rfl
                    have a1 : W9.cell? ⟨t, 1, none⟩ = some (.int .i64 j.1.2) := World.news_of_block hT11 1 _ rfl
                    have b0 : W9.cell? ⟨t2, 0, none⟩ = some (.int .i64 z.1.1) := World.news_of_block hS11 0 _ rfl
                    have b1 : W9.cell? ⟨t2, 1, none⟩ = some (.int .i64 z.1.2) := World.news_of_block hS11 1 _ rfl
                    clear hT11 hS11 hU11
                    go_wp2_with fail
                    go_roundw
                    case rel =>
                      have hXF := (blk_set 14 (.int .i64 z.1.2) (blk_set 13 (.int .i64 z.1.1) (blk_set 12 (.int .i64 j.1.2) (blk_set 11 (.int .i64 j.1.1) (blk_set 10 (.slice (ex (k + 1)).1 u.axles.length (ex (k + 1)).2) (blk_set 9 (.int .i64 u.most) (blk_set 8 (.int .i64 u.steer) (blk_set 7 (.int .i64 u.mass) (blk_set 6 (.int .i64 u.height) (blk_set 5 (.int .i64 u.width) (blk_set 4 (.int .i64 u.rear) (blk_set 3 (.int .i64 u.front) (blk_set 2 (.int .i64 u.behind) (blk_set 1 (.int .i64 u.length) (blk_set 0 (.int .i64 u.kind) hX11)))))))))))))))
                      simp only [List.setIfInBounds_toArray, List.set_cons_zero, List.set_cons_succ] at hXF
                      have hn := fun (W : World) o u => heap_ne (W := W) (b := w3.heap.size) (c := B13) (o := o) (u := u) (by omega)
                      have hneg : (Value.slice (some ⟨g8, 0, none⟩) (pre.length + 1) cap8).ownBlock ≠ some B13 := row_ne hO11 hX11 (fun cur e => by cases e)
                      refine ⟨k + 1, pre ++ [z.1], _, ⟨u, (ex (k + 1)).1, (ex (k + 1)).2, j.1, z.1⟩, by omega, by go_num, by rw [List.length_append, HPL.out]; rfl, by simp only [hn]; exact hP11, ?_, hXF, HVU.out, ?_, ?_⟩
                      · repeat (refine own_set ?_ hneg)
                        exact hO11
                      · have := HTT.out
                        rw [if_pos HJ0.out, if_pos HZ0.out] at this
                        rw [← this]
                        simp
                      · repeat (refine Ext.set ?_ (by show w3.heap.size ≤ B13; omega) _)
                        exact EGs
                    case measure => simp [intOf]; omega
          · have hkm : k = m := by omega
            have hT2 := hT
            rw [List.drop_eq_nil_of_le (by have := HUS.out.2.2; omega)] at hT2
            simp only [tailN, List.append_nil, Prod.mk.injEq] at hT2
            obtain ⟨A9, c9, rfl⟩ := own_len hO
            have C9 := fun w' (he : Ext w3 w') (hp : Pts w' (.slice A9 pre.length c9) pre) => CR.out w' (E3.trans he) (.slice A9 pre.length c9) pre hp
            have hO9 := hO.pts
            have hR9 := E.blk hR3
            have y0 := Ext.cell E y03
            have y1 := Ext.cell E y13
            have y2 := Ext.cell E y23
            have y3 := Ext.cell E y33
            have p0 : wr.cell? ⟨w3.heap.size, 0, none⟩ = some (.int .i64 l1) := World.news_of_block hP 0 _ rfl
            have p1 : wr.cell? ⟨w3.heap.size, 1, none⟩ = some (.int .i64 l2) := World.news_of_block hP 1 _ rfl
            have p2 : wr.cell? ⟨w3.heap.size, 2, none⟩ = some (.slice A9 pre.length c9) := World.news_of_block hP 2 _ rfl
            have HO9 := Lib.hid hO9
            have HOO := Lib.hid hO
            have HT2 := Lib.hid hT2
            unfold poseV poseEV at *
            have hni : ¬ (k : Int) < (m : Int) := by omega
            clear hX hT hO hP hvx hO9 hT2 hkm hlt hk hpl
            by_cases h9 : poseE v (l1, l2) pre = 0
            · rw [if_pos h9] at C9
              replace C9 := Lib.hid C9
              have H9 := Lib.hid h9
              clear h9
              go_wp2_with (go_at_call 45; refine (C9.out _ E (HO9.out)).mono ?_; rintro e wd ⟨rfl, hbd⟩; replace hR9 := hbd.blk hR9; have r0 : wd.cell? ⟨w.heap.size + 1 + 1 + 1, 0, none⟩ = some (.int .i64 0) := World.news_of_block hR9 0 _ rfl; have r1 : wd.cell? ⟨w.heap.size + 1 + 1 + 1, 1, none⟩ = some (.int .i64 0) := World.news_of_block hR9 1 _ rfl; have r2 : wd.cell? ⟨w.heap.size + 1 + 1 + 1, 2, none⟩ = some (.slice none 0 0) := World.news_of_block hR9 2 _ rfl; have f0 := blk_frz hR9 0; have f1 := blk_frz hR9 1; have f2 := blk_frz hR9 2; have ED := EW.trans hbd)
              have hR2 := three_set (.int .i64 l1) (.int .i64 l2) (.slice A9 pre.length c9) hR9
              have ER2 := ((ED.set (p := ⟨w.heap.size + 1 + 1 + 1, 0, none⟩) (le3 _) (.int .i64 l1)).set (p := ⟨w.heap.size + 1 + 1 + 1, 1, none⟩) (le3 _) (.int .i64 l2)).set (p := ⟨w.heap.size + 1 + 1 + 1, 2, none⟩) (le3 _) (.slice A9 pre.length c9)
              have HOd := HOO.out.ext hbd
              have hn9 : (Value.slice A9 pre.length c9).ownBlock ≠ some (w.heap.size + 1 + 1 + 1) := own_ne HOd (fst_lt hR3)
              have HOF : OwnP w3.heap.size (((wd.setCell ⟨w.heap.size + 1 + 1 + 1, 0, none⟩ (.int .i64 l1)).setCell ⟨w.heap.size + 1 + 1 + 1, 1, none⟩ (.int .i64 l2)).setCell ⟨w.heap.size + 1 + 1 + 1, 2, none⟩ (.slice A9 pre.length c9)) (.slice A9 pre.length c9) pre := own_set (own_set (own_set HOd hn9) hn9) hn9
              generalize (((wd.setCell ⟨w.heap.size + 1 + 1 + 1, 0, none⟩ (.int .i64 l1)).setCell ⟨w.heap.size + 1 + 1 + 1, 1, none⟩ (.int .i64 l2)).setCell ⟨w.heap.size + 1 + 1 + 1, 2, none⟩ (.slice A9 pre.length c9)) = WF at *
              have n0 : WF.cell? ⟨w.heap.size + 1 + 1 + 1, 0, none⟩ = some (.int .i64 l1) := World.news_of_block hR2 0 _ rfl
              have n1 : WF.cell? ⟨w.heap.size + 1 + 1 + 1, 1, none⟩ = some (.int .i64 l2) := World.news_of_block hR2 1 _ rfl
              have n2 : WF.cell? ⟨w.heap.size + 1 + 1 + 1, 2, none⟩ = some (.slice A9 pre.length c9) := World.news_of_block hR2 2 _ rfl
              refine bodyPost_ret (v := poseEV (l1, l2) (.slice A9 pre.length c9) 0) (by simp [results, Tryz.results26, go_sem, n0, n1, n2, poseEV]) rfl ?_
              rw [← HPo.out]
              unfold StrR
              rw [HR.out, if_pos HQ0.out, if_pos HT2.out.2.symm, ← HT2.out.1, if_pos H9.out]
              exact ⟨_, rfl, HOF.pts, ER2⟩
            · rw [if_neg h9] at C9
              replace C9 := Lib.hid C9
              have H9 := Lib.hid h9
              clear h9
              go_wp2_with (go_at_call 45; refine (C9.out _ E (HO9.out)).mono ?_; rintro e wd ⟨rfl, hbd⟩; replace hR9 := hbd.blk hR9; have r0 : wd.cell? ⟨w.heap.size + 1 + 1 + 1, 0, none⟩ = some (.int .i64 0) := World.news_of_block hR9 0 _ rfl; have r1 : wd.cell? ⟨w.heap.size + 1 + 1 + 1, 1, none⟩ = some (.int .i64 0) := World.news_of_block hR9 1 _ rfl; have r2 : wd.cell? ⟨w.heap.size + 1 + 1 + 1, 2, none⟩ = some (.slice none 0 0) := World.news_of_block hR9 2 _ rfl; have f0 := blk_frz hR9 0; have f1 := blk_frz hR9 1; have f2 := blk_frz hR9 2; have ED := EW.trans hbd)
              have hR2 := three_set (.int .i64 0) (.int .i64 0) (.slice none 0 0) hR9
              have ER2 := ((ED.set (p := ⟨w.heap.size + 1 + 1 + 1, 0, none⟩) (le3 _) (.int .i64 0)).set (p := ⟨w.heap.size + 1 + 1 + 1, 1, none⟩) (le3 _) (.int .i64 0)).set (p := ⟨w.heap.size + 1 + 1 + 1, 2, none⟩) (le3 _) (.slice none 0 0)
              generalize (((wd.setCell ⟨w.heap.size + 1 + 1 + 1, 0, none⟩ (.int .i64 0)).setCell ⟨w.heap.size + 1 + 1 + 1, 1, none⟩ (.int .i64 0)).setCell ⟨w.heap.size + 1 + 1 + 1, 2, none⟩ (.slice none 0 0)) = WF at *
              have n0 : WF.cell? ⟨w.heap.size + 1 + 1 + 1, 0, none⟩ = some (.int .i64 0) := World.news_of_block hR2 0 _ rfl
              have n1 : WF.cell? ⟨w.heap.size + 1 + 1 + 1, 1, none⟩ = some (.int .i64 0) := World.news_of_block hR2 1 _ rfl
              have n2 : WF.cell? ⟨w.heap.size + 1 + 1 + 1, 2, none⟩ = some (.slice none 0 0) := World.news_of_block hR2 2 _ rfl
              refine bodyPost_ret (v := poseEV (0, 0) (.slice none 0 0) 9) (by simp [results, Tryz.results26, go_sem, n0, n1, n2, poseEV]) rfl ?_
              rw [← HPo.out]
              unfold StrR
              rw [HR.out, if_pos HQ0.out, if_pos HT2.out.2.symm, ← HT2.out.1, if_neg H9.out]
              exact ⟨_, rfl, .inl ⟨none, 0, rfl, rfl⟩, ER2⟩
end
end Go.Proofs.YtcbjecpfijogcaaGreat
