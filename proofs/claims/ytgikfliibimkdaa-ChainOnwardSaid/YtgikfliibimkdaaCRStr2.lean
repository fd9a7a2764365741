/- Contract: Straight, by the reference: what it goes on with. -/
import Derived.Test.YtgikfliibimkdaaCStr2
import Derived.Test.YtgikfliibimkdaaCRStr
namespace Go.Proofs.Ytgikfliibimkdaa
open Go.RowKit Go.Shelf

section
variable {vu : Value} {v : CVeh}
set_option maxRecDepth 100000 in
set_option maxHeartbeats 6400000 in
theorem RStraight_go (l1 l2 b1 b2 : Int) (w : World) (hs : Sl 11 RUnit w vu v.units) (h : vehE v = 0) (h2 : okPt (l1, l2) = true) (h3 : okPt (b1, b2) = true) (hne : ¬ ((l1, l2) : Pt) = (b1, b2)) :
    Calls Try.prog 12 #[vehV v vu, .agg #[.int .i64 l1, .int .i64 l2], .agg #[.int .i64 b1, .int .i64 b2]] w (StrR v (l1, l2) (b1, b2) w) := by
  have CV := fun w' (h : Ext w w') => RVCheck_c vu v w' (hs.ext RUnit.stable h)
  rw [h] at CV
  have CR := fun w' (he : Ext w w') vp ps (hp : Pts w' vp ps) => RCheckPose_c (v := v) (lead := (l1, l2)) (vp := vp) (ps := ps) w' (hs.ext RUnit.stable he) hp
  have C1 := fun w => Is_c l1 l2 w
  have C2 := fun w => Is_c b1 b2 w
  rw [h2] at C1
  rw [h3] at C2
  obtain ⟨A, cap, rfl, hl, hl2⟩ := hs.shape
  have hln := vehE_len h
  have HV := Lib.hid (vehE_units h)
  obtain ⟨m, hm⟩ : ∃ m, v.units.length = m + 1 := ⟨v.units.length - 1, by omega⟩
  obtain ⟨u0, us, hus⟩ : ∃ u0 us, v.units = u0 :: us := by
    match hv : v.units with
    | [] => rw [hv] at hm; simp at hm
    | u :: us => exact ⟨u, us, rfl⟩
  have hul : us.length = m := by rw [hus] at hm; simpa using hm
  obtain ⟨ex, hU⟩ := ucells hs
  have h0 : v.units[0]? = some u0 := by rw [hus]; rfl
  obtain ⟨b, off, rfl, hax, hc⟩ := hU.at' 0 u0 h0
  have hv0 := HV.out u0 (mem_of_some h0)
  obtain ⟨q, hq⟩ : ∃ q, pullS (l1, l2) (b1, b2) (pulledN u0) = q := ⟨_, rfl⟩
  obtain ⟨r, hr⟩ : ∃ r, tailN q.1 (l1, l2) u0 us = r := ⟨_, rfl⟩
  have HR := Lib.hid (straightS_go h h2 h3 hus hq hr)
  have HTL := Lib.hid hr
  have CP := fun w' (he : Ext w w') => Rpulled_c (.slice (ex 0).1 u0.axles.length (ex 0).2) u0 w' hv0 (hax.ext RAxle.stable he)
  have CQ := fun w' => RPull_c l1 l2 b1 b2 (pulledN u0) w'
  rw [hq] at CQ
  have k0 := hc 0 _ rfl
  have k1 := hc 1 _ rfl
  have k2 := hc 2 _ rfl
  have k3 := hc 3 _ rfl
  have k4 := hc 4 _ rfl
  have k5 := hc 5 _ rfl
  have k6 := hc 6 _ rfl
  have k7 := hc 7 _ rfl
  have k8 := hc 8 _ rfl
  have k9 := hc 9 _ rfl
  have k10 := hc 10 _ rfl
  simp only [Nat.zero_mul, Nat.add_zero] at k0 k1 k2 k3 k4 k5 k6 k7 k8 k9 k10
  have hbl := lt_of_cell k0
  have i1 : (0 : Int) < (v.units.length : Int) := by omega
  have i2 : (1 : Int) ≤ (v.units.length : Int) := by omega
  replace CV := Lib.hid CV
  replace CR := Lib.hid CR
  replace C1 := Lib.hid C1
  replace C2 := Lib.hid C2
  replace CP := Lib.hid CP
  replace CQ := Lib.hid CQ
  have HU := Lib.hid hU
  have HUS := Lib.hid (And.intro hus (And.intro hm hul))
  have HLN := Lib.hid hln
  generalize pulledN u0 = PN at *
  obtain ⟨Post, hPost⟩ : ∃ Post, StrR v (l1, l2) (b1, b2) w = Post := ⟨_, rfl⟩
  rw [hPost]
  have HPo := Lib.hid hPost
  unfold vehV at *
  have hcase : ¬ l1 = b1 ∨ (l1 = b1 ∧ ¬ l2 = b2) := by
    by_cases h : l1 = b1
    · exact .inr ⟨h, fun h2 => hne (by rw [h, h2])⟩
    · exact .inl h
  have hk0 := hc
  clear hne hk0 hPost hs h h2 h3 hus hm hul hr hq hU hax hc h0 hv0
  go_enter Try.func12, Try.ntmps12
  go_upto_region 6 with (first | (go_at_call 46; refine (CV.out _ (by (repeat' (first | exact Ext.refl _ | assumption | refine Ext.alloc ?_ _ | refine Ext.drew ?_ | refine Ext.drewN ?_ _ | refine Ext.set ?_ (by first | exact Nat.le_refl _ | exact le1 _ | exact le2 _ | exact le3 _ | exact le4 _ | exact le5 _ | exact le6 _) _ | refine Ext.trans ?_ (by assumption))))).mono ?_; rintro e w1 ⟨rfl, hb⟩; have L0 := Ext.cell hb (p := ⟨w.heap.size + 1, 0, none⟩) (v := .int .i64 l1) (by go_simp); have L1 := Ext.cell hb (p := ⟨w.heap.size + 1, 1, none⟩) (v := .int .i64 l2) (by go_simp); have B0 := Ext.cell hb (p := ⟨w.heap.size + 1 + 1, 0, none⟩) (v := .int .i64 b1) (by go_simp); have B1 := Ext.cell hb (p := ⟨w.heap.size + 1 + 1, 1, none⟩) (v := .int .i64 b2) (by go_simp); have hR : w1.heap[w.heap.size + 1 + 1 + 1]? = some (.cells #[.int .i64 0, .int .i64 0, .slice none 0 0] 29 (0, 0)) := (hb.block _ (by simp)).trans (new_at (by simp)); have E3 : Ext w w1 := (((((Ext.refl w).alloc _).alloc _).alloc _).alloc _).trans hb; have y1 := Ext.cell hb (p := ⟨w.heap.size, 1, none⟩) (v := .slice (some ⟨b, off, none⟩) v.units.length cap) (by go_simp); have y0 := Ext.cell hb (p := ⟨w.heap.size, 0, none⟩) (v := .string v.name) (by go_simp); have y2 := Ext.cell hb (p := ⟨w.heap.size, 2, none⟩) (v := .int .i64 v.first) (by go_simp); have y3 := Ext.cell hb (p := ⟨w.heap.size, 3, none⟩) (v := .int .i64 v.last) (by go_simp); clear hb) | (go_at_call 47; first | (refine (C1.out _).mono ?_; rintro e w2 ⟨rfl, hb2⟩; clear C1; replace y0 := Ext.cell hb2 y0; replace y1 := Ext.cell hb2 y1; replace y2 := Ext.cell hb2 y2; replace y3 := Ext.cell hb2 y3; replace L0 := Ext.cell hb2 L0; replace L1 := Ext.cell hb2 L1; replace B0 := Ext.cell hb2 B0; replace B1 := Ext.cell hb2 B1; replace hR := (hb2.block _ (Array.getElem?_eq_some_iff.1 hR).1).trans hR; replace E3 := E3.trans hb2; clear hb2) | (refine (C2.out _).mono ?_; rintro e w3 ⟨rfl, hb2⟩; clear C2; replace y0 := Ext.cell hb2 y0; replace y1 := Ext.cell hb2 y1; replace y2 := Ext.cell hb2 y2; replace y3 := Ext.cell hb2 y3; replace L0 := Ext.cell hb2 L0; replace L1 := Ext.cell hb2 L1; replace B0 := Ext.cell hb2 B0; replace B1 := Ext.cell hb2 B1; replace hR := (hb2.block _ (Array.getElem?_eq_some_iff.1 hR).1).trans hR; replace E3 := E3.trans hb2; clear hb2; replace k0 := Ext.cell E3 k0; replace k1 := Ext.cell E3 k1; replace k2 := Ext.cell E3 k2; replace k3 := Ext.cell E3 k3; replace k4 := Ext.cell E3 k4; replace k5 := Ext.cell E3 k5; replace k6 := Ext.cell E3 k6; replace k7 := Ext.cell E3 k7; replace k8 := Ext.cell E3 k8; replace k9 := Ext.cell E3 k9; replace k10 := Ext.cell E3 k10; have hly := lt_of_cell y1; have hlL := lt_of_cell L0; have hlB := lt_of_cell B0; have hlk := lt_of_cell k0)))
  go_cut [33] (fun sa wx => w3 = wx ∧ sa = .bool false)
  case first =>
    rcases hcase with e1 | ⟨rfl, e2⟩
    all_goals
      go_wp2_with fail
      go_meet
      exact ⟨rfl, rfl⟩
  case rest =>
    obtain ⟨rfl, rfl⟩ := hcut
    clear hcase
    have i1n : 0 < v.units.length := by omega
    have i1e : ¬ v.units = [] := by intro e; rw [e] at i1n; simp at i1n
    go_upto_region 8 with fail
    go_cut [9, 8] (fun sa sb wc => ∃ t, sa = .pointer (some ⟨t, 0, none⟩) ∧ sb = .int .i64 q.2 ∧ Ext w3 wc ∧ w3.heap.size ≤ t ∧ wc.heap[t]? = some (.cells #[.int .i64 q.1.1, .int .i64 q.1.2] 26 (0, 0)))
    case first =>
      go_region_held3 (fun w' => w'.cell? ⟨w.heap.size + 1, 0, none⟩ = some (.int .i64 l1) ∧ w'.cell? ⟨w.heap.size + 1, 1, none⟩ = some (.int .i64 l2) ∧ w'.cell? ⟨w.heap.size + 1 + 1, 0, none⟩ = some (.int .i64 b1) ∧ w'.cell? ⟨w.heap.size + 1 + 1, 1, none⟩ = some (.int .i64 b2) ∧ w'.cell? ⟨w.heap.size, 1, none⟩ = some (.slice (some ⟨b, off, none⟩) v.units.length cap) ∧ w'.cell? ⟨b, off, none⟩ = some (.int .i64 u0.kind) ∧ w'.cell? ⟨b, off + 1, none⟩ = some (.int .i64 u0.length) ∧ w'.cell? ⟨b, off + 2, none⟩ = some (.int .i64 u0.behind) ∧ w'.cell? ⟨b, off + 3, none⟩ = some (.int .i64 u0.front) ∧ w'.cell? ⟨b, off + 4, none⟩ = some (.int .i64 u0.rear) ∧ w'.cell? ⟨b, off + 5, none⟩ = some (.int .i64 u0.width) ∧ w'.cell? ⟨b, off + 6, none⟩ = some (.int .i64 u0.height) ∧ w'.cell? ⟨b, off + 7, none⟩ = some (.int .i64 u0.mass) ∧ w'.cell? ⟨b, off + 8, none⟩ = some (.int .i64 u0.steer) ∧ w'.cell? ⟨b, off + 9, none⟩ = some (.int .i64 u0.most) ∧ w'.cell? ⟨b, off + 10, none⟩ = some (.slice (ex 0).1 u0.axles.length (ex 0).2)) (refine ⟨?_, ?_, ?_, ?_, ?_, ?_, ?_, ?_, ?_, ?_, ?_, ?_, ?_, ?_, ?_, ?_⟩ <;> (repeat' (with_reducible (first | assumption | refine Ext.cell hbZ ?_ | refine Ext.cell hbE ?_ | refine Ext.cell (Ext.refl _).drew ?_ | refine cell_set_ne (by first | omega | (simp; omega)) ?_ | refine Ext.cell ((Ext.refl _).alloc _) ?_)))) (first
        | (go_at_call 49; refine (CP.out _ (by (repeat' (first | exact Ext.refl _ | assumption | refine Ext.alloc ?_ _ | refine Ext.drew ?_ | refine Ext.drewN ?_ _ | refine Ext.set ?_ (by first | exact Nat.le_refl _ | exact le1 _ | exact le2 _ | exact le3 _ | exact le4 _ | exact le5 _ | exact le6 _) _ | refine Ext.trans ?_ (by assumption))))).mono ?_; rintro e wE ⟨rfl, hbE⟩; have zE := (show Ext w3 wE from by (repeat' (first | exact Ext.refl _ | assumption | refine Ext.alloc ?_ _ | refine Ext.drew ?_ | refine Ext.drewN ?_ _ | refine Ext.set ?_ (by first | exact Nat.le_refl _ | exact le1 _ | exact le2 _ | exact le3 _ | exact le4 _ | exact le5 _ | exact le6 _) _ | refine Ext.trans ?_ (by assumption)))).sz; (try (replace yW := (hbE.block _ (Array.getElem?_eq_some_iff.1 yW).1).trans yW)); (try (have yW : wE.heap[w3.heap.size]? = some (.cells #[.int .i64 0, .int .i64 0] 26 (0, 0)) := new_kept (W := w3.drew) hbE)); skip)
        | (go_at_call 48; refine (CQ.out _).mono ?_; rintro e wZ ⟨rfl, hbZ⟩; unfold ptV; have zZ := (show Ext w3 wZ from by (repeat' (first | exact Ext.refl _ | assumption | refine Ext.alloc ?_ _ | refine Ext.drew ?_ | refine Ext.drewN ?_ _ | refine Ext.set ?_ (by first | exact Nat.le_refl _ | exact le1 _ | exact le2 _ | exact le3 _ | exact le4 _ | exact le5 _ | exact le6 _) _ | refine Ext.trans ?_ (by assumption)))).sz; (try (replace yE := (hbZ.block _ (Array.getElem?_eq_some_iff.1 yE).1).trans yE)); (try (replace yW := (hbZ.block _ (Array.getElem?_eq_some_iff.1 yW).1).trans yW)); (try (have yW : wZ.heap[w3.heap.size]? = some (.cells #[.int .i64 0, .int .i64 0] 26 (0, 0)) := new_kept (W := w3.drew) hbZ)); (try (have yE : wZ.heap[wE.heap.size]? = some (.cells #[.int .i64 0, .int .i64 0] 26 (0, 0)) := new_kept (W := wE) hbZ)); (try (have c0 : wZ.cell? ⟨w3.heap.size, 0, none⟩ = some (.int .i64 0) := World.news_of_block yW 0 _ rfl; have c1 : wZ.cell? ⟨w3.heap.size, 1, none⟩ = some (.int .i64 0) := World.news_of_block yW 1 _ rfl; have f0 := blk_frz yW 0; have f1 := blk_frz yW 1)); (try (have c0 : wZ.cell? ⟨wE.heap.size, 0, none⟩ = some (.int .i64 0) := World.news_of_block yE 0 _ rfl; have c1 : wZ.cell? ⟨wE.heap.size, 1, none⟩ = some (.int .i64 0) := World.news_of_block yE 1 _ rfl; have f0 := blk_frz yE 0; have f1 := blk_frz yE 1)); skip))
      all_goals
        go_wp2_with fail
        go_meet
        first
          | exact ⟨wZ.heap.size, rfl, rfl, by (repeat' (first | exact Ext.refl _ | assumption | refine Ext.alloc ?_ _ | refine Ext.drew ?_ | refine Ext.drewN ?_ _ | refine Ext.set ?_ (by first | exact Nat.le_refl _ | exact le1 _ | exact le2 _ | exact le3 _ | exact le4 _ | exact le5 _ | exact le6 _) _ | refine Ext.trans ?_ (by assumption))), zZ, World.alloc_heap_new wZ _⟩
          | exact ⟨wE.heap.size, rfl, rfl, ((show Ext w3 wZ from by (repeat' (first | exact Ext.refl _ | assumption | refine Ext.alloc ?_ _ | refine Ext.drew ?_ | refine Ext.drewN ?_ _ | refine Ext.set ?_ (by first | exact Nat.le_refl _ | exact le1 _ | exact le2 _ | exact le3 _ | exact le4 _ | exact le5 _ | exact le6 _) _ | refine Ext.trans ?_ (by assumption)))).set (p := ⟨wE.heap.size, 0, none⟩) zE _).set (p := ⟨wE.heap.size, 1, none⟩) zE _, zE, two1 _ (two0 _ yE)⟩
          | exact ⟨w3.heap.size, rfl, rfl, ((show Ext w3 wZ from by (repeat' (first | exact Ext.refl _ | assumption | refine Ext.alloc ?_ _ | refine Ext.drew ?_ | refine Ext.drewN ?_ _ | refine Ext.set ?_ (by first | exact Nat.le_refl _ | exact le1 _ | exact le2 _ | exact le3 _ | exact le4 _ | exact le5 _ | exact le6 _) _ | refine Ext.trans ?_ (by assumption)))).set (p := ⟨w3.heap.size, 0, none⟩) (Nat.le_refl _) _).set (p := ⟨w3.heap.size, 1, none⟩) (Nat.le_refl _) _, (Nat.le_refl _), two1 _ (two0 _ yW)⟩
    case rest =>
      obtain ⟨t, rfl, rfl, E7, ht, hT⟩ := hcut
      generalize wc = W5 at *
      clear i1n i1e
      have EW5 := E3.trans E7
      have hs35 := E7.sz
      by_cases hn : q.2 = 0
      case neg =>
        have hR9 := E7.blk hR
        have r0 : W5.cell? ⟨w.heap.size + 1 + 1 + 1, 0, none⟩ = some (.int .i64 0) := World.news_of_block hR9 0 _ rfl
        have r1 : W5.cell? ⟨w.heap.size + 1 + 1 + 1, 1, none⟩ = some (.int .i64 0) := World.news_of_block hR9 1 _ rfl
        have r2 : W5.cell? ⟨w.heap.size + 1 + 1 + 1, 2, none⟩ = some (.slice none 0 0) := World.news_of_block hR9 2 _ rfl
        have f0 := blk_frz hR9 0
        have f1 := blk_frz hR9 1
        have f2 := blk_frz hR9 2
        go_wp2_with fail
        have hR2 := three_set (.int .i64 0) (.int .i64 0) (.slice none 0 0) hR9
        have ER2 := ((EW5.set (p := ⟨w.heap.size + 1 + 1 + 1, 0, none⟩) (le3 _) (.int .i64 0)).set (p := ⟨w.heap.size + 1 + 1 + 1, 1, none⟩) (le3 _) (.int .i64 0)).set (p := ⟨w.heap.size + 1 + 1 + 1, 2, none⟩) (le3 _) (.slice none 0 0)
        generalize (((W5.setCell ⟨w.heap.size + 1 + 1 + 1, 0, none⟩ (.int .i64 0)).setCell ⟨w.heap.size + 1 + 1 + 1, 1, none⟩ (.int .i64 0)).setCell ⟨w.heap.size + 1 + 1 + 1, 2, none⟩ (.slice none 0 0)) = WF at *
        have n0 : WF.cell? ⟨w.heap.size + 1 + 1 + 1, 0, none⟩ = some (.int .i64 0) := World.news_of_block hR2 0 _ rfl
        have n1 : WF.cell? ⟨w.heap.size + 1 + 1 + 1, 1, none⟩ = some (.int .i64 0) := World.news_of_block hR2 1 _ rfl
        have n2 : WF.cell? ⟨w.heap.size + 1 + 1 + 1, 2, none⟩ = some (.slice none 0 0) := World.news_of_block hR2 2 _ rfl
        refine bodyPost_ret (v := poseEV (0, 0) (.slice none 0 0) q.2) (by simp [results, Try.results12, go_sem, n0, n1, n2, poseEV]) rfl ?_
        rw [← HPo.out]
        unfold StrR
        rw [HR.out, if_neg hn]
        exact ⟨_, rfl, .inl ⟨none, 0, rfl, rfl⟩, ER2⟩
      case pos =>
        have HQ0 := Lib.hid hn
        have hz5 := fst_lt hT
        have L05 := Ext.cell E7 L0
        have L15 := Ext.cell E7 L1
        have y15 := Ext.cell E7 y1
        have hlL5 := lt_of_cell L05
        have hly5 := lt_of_cell y15
        have c0 : W5.cell? ⟨t, 0, none⟩ = some (.int .i64 q.1.1) := World.news_of_block hT 0 _ rfl
        have c1 : W5.cell? ⟨t, 1, none⟩ = some (.int .i64 q.1.2) := World.news_of_block hT 1 _ rfl
        go_upto_region 13 with fail
        clear hn
        have h56 : Ext W5 (((W5.alloc (.cells #[.int .i64 q.1.1, .int .i64 q.1.2] 26)).alloc (.cells #[.int .i64 l1, .int .i64 l2, .slice (some ⟨W5.heap.size, 0, none⟩) 1 1] 29)).alloc (.cells #[.int .i64 l1, .int .i64 l2] 26)) := (((Ext.refl W5).alloc _).alloc _).alloc _
        have hO6 : OwnP W5.heap.size (((W5.alloc (.cells #[.int .i64 q.1.1, .int .i64 q.1.2] 26)).alloc (.cells #[.int .i64 l1, .int .i64 l2, .slice (some ⟨W5.heap.size, 0, none⟩) 1 1] 29)).alloc (.cells #[.int .i64 l1, .int .i64 l2] 26)) (.slice (some ⟨W5.heap.size, 0, none⟩) 1 1) [q.1] := ((OwnP.one W5 q.1).ext ((Ext.refl _).alloc _)).ext ((Ext.refl _).alloc _)
        have hP6 : (((W5.alloc (.cells #[.int .i64 q.1.1, .int .i64 q.1.2] 26)).alloc (.cells #[.int .i64 l1, .int .i64 l2, .slice (some ⟨W5.heap.size, 0, none⟩) 1 1] 29)).alloc (.cells #[.int .i64 l1, .int .i64 l2] 26)).heap[W5.heap.size + 1]? = some (.cells #[.int .i64 l1, .int .i64 l2, .slice (some ⟨W5.heap.size, 0, none⟩) 1 1] 29 (0, 0)) := heap_old (new_at (by simp))
        have hF6 : (((W5.alloc (.cells #[.int .i64 q.1.1, .int .i64 q.1.2] 26)).alloc (.cells #[.int .i64 l1, .int .i64 l2, .slice (some ⟨W5.heap.size, 0, none⟩) 1 1] 29)).alloc (.cells #[.int .i64 l1, .int .i64 l2] 26)).heap[W5.heap.size + 1 + 1]? = some (.cells #[.int .i64 l1, .int .i64 l2] 26 (0, 0)) := new_at (by simp)
        have hA6 := h56.blk hT
        generalize (((W5.alloc (.cells #[.int .i64 q.1.1, .int .i64 q.1.2] 26)).alloc (.cells #[.int .i64 l1, .int .i64 l2, .slice (some ⟨W5.heap.size, 0, none⟩) 1 1] 29)).alloc (.cells #[.int .i64 l1, .int .i64 l2] 26)) = W6 at *
        have E6 := E7.trans h56
        have hss := h56.sz
        clear c0 c1 hT L05 L15 y15 E7 k0 k1 k2 k3 k4 k5 k6 k7 k8 k9 k10 B0 B1
        have hml : v.units.length = m + 1 := HUS.out.2.1
        have HML := Lib.hid hml
        have h0v : v.units[0]? = some u0 := by rw [HUS.out.1]; rfl
        have H0V := Lib.hid h0v
        clear hml h0v
        go_wp2_with fail
        go_loopw [12] (fun i wr => ∃ (k : Nat) (pre : List Pt) (vs : Value) (ax fr : Pt) (pu : CUnit), k ≤ m ∧ i = .int .i64 ((k : Int) + 1) ∧ pre.length = k + 1 ∧ v.units[k]? = some pu ∧ wr.heap[t]? = some (.cells #[.int .i64 ax.1, .int .i64 ax.2] 26 (0, 0)) ∧ wr.heap[W5.heap.size + 1]? = some (.cells #[.int .i64 l1, .int .i64 l2, vs] 29 (0, 0)) ∧ wr.heap[W5.heap.size + 1 + 1]? = some (.cells #[.int .i64 fr.1, .int .i64 fr.2] 26 (0, 0)) ∧ OwnP W5.heap.size wr vs pre ∧ vs.ownBlock ≠ some (W5.heap.size + 1 + 1) ∧ (pre ++ (tailN ax fr pu (us.drop k)).1, (tailN ax fr pu (us.drop k)).2) = (q.1 :: r.1, r.2) ∧ Ext w3 wr) (fun i _ => m + 1 - (intOf i).toNat)
        case atStart => exact ⟨0, [q.1], _, q.1, (l1, l2), u0, by omega, by rfl, rfl, H0V.out, hA6, hP6, hF6, hO6, by simp [Value.ownBlock]; omega, by simp only [List.drop_zero]; rw [HTL.out]; rfl, E6⟩
        case round =>
          obtain ⟨k, pre, vs, ax, fr, pu, hk, rfl, hpl, hpu, hA, hP, hF, hO, hvf, hT, E⟩ := hrel
          clear hA6 hP6 hF6 hO6 E6 h56
          have EW := E3.trans E
          have hs := E.sz
          obtain ⟨A9, c9, rfl⟩ := own_len hO
          have y1r := Ext.cell E y1
          have hm12 : m ≤ 11 := by have := HLN.out; have := HML.out; omega
          by_cases hlt : k < m
          · have hku : k + 1 < v.units.length := by have := HML.out; omega
            obtain ⟨u, hu⟩ := some_of_lt hku
            have huk : us[k]? = some u := by have h1 := HUS.out.1; rw [h1] at hu; simpa using hu
            obtain ⟨b', off', e', hax, hc⟩ := HU.out.at' (k + 1) u hu
            simp only [Option.some.injEq, Addr.mk.injEq, and_true] at e'
            obtain ⟨rfl, rfl⟩ := e'
            obtain ⟨b', off', e', hpx, hpc⟩ := HU.out.at' k pu hpu
            simp only [Option.some.injEq, Addr.mk.injEq, and_true] at e'
            obtain ⟨rfl, rfl⟩ := e'
            have hvu := HV.out u (mem_of_some hu)
            have hvp := HV.out pu (mem_of_some hpu)
            rw [drop_some huk] at hT
            obtain ⟨j, hj⟩ : ∃ j, placeS ax fr (rearN pu) 0 = j := ⟨_, rfl⟩
            obtain ⟨z, hz⟩ : ∃ z, placeS ax fr (rearN pu - pulledN u) 0 = z := ⟨_, rfl⟩
            rw [tailN_step hj hz] at hT
            obtain ⟨ax1, ax2⟩ := ax
            obtain ⟨fr1, fr2⟩ := fr
            have CE := fun w' (he : Ext w w') => rear_c (.slice (ex k).1 pu.axles.length (ex k).2) pu w' hvp (hpx.ext RAxle.stable he)
            have CU := fun w' (he : Ext w w') => Rpulled_c (.slice (ex (k + 1)).1 u.axles.length (ex (k + 1)).2) u w' hvu (hax.ext RAxle.stable he)
            have CJ := fun w' => RPlace_c ax1 ax2 fr1 fr2 (rearN pu) 0 w'
            rw [hj] at CJ
            have CZ := fun w' => RPlace_c ax1 ax2 fr1 fr2 (rearN pu - pulledN u) 0 w'
            rw [hz] at CZ
            have ew := IntWalk.i64_in (rearN pu - pulledN u) (by have := rear_bds hvp; have := pulled_bds hvu; have := unitB_bds hvu; omega)
            generalize rearN pu = RN at *
            generalize pulledN u = PU at *
            have k0 := Ext.cell EW (hc 0 _ rfl)
            have k1 := Ext.cell EW (hc 1 _ rfl)
            have k2 := Ext.cell EW (hc 2 _ rfl)
            have k3 := Ext.cell EW (hc 3 _ rfl)
            have k4 := Ext.cell EW (hc 4 _ rfl)
            have k5 := Ext.cell EW (hc 5 _ rfl)
            have k6 := Ext.cell EW (hc 6 _ rfl)
            have k7 := Ext.cell EW (hc 7 _ rfl)
            have k8 := Ext.cell EW (hc 8 _ rfl)
            have k9 := Ext.cell EW (hc 9 _ rfl)
            have k10 := Ext.cell EW (hc 10 _ rfl)
            have m0 := Ext.cell EW (hpc 0 _ rfl)
            have m1 := Ext.cell EW (hpc 1 _ rfl)
            have m2 := Ext.cell EW (hpc 2 _ rfl)
            have m3 := Ext.cell EW (hpc 3 _ rfl)
            have m4 := Ext.cell EW (hpc 4 _ rfl)
            have m5 := Ext.cell EW (hpc 5 _ rfl)
            have m6 := Ext.cell EW (hpc 6 _ rfl)
            have m7 := Ext.cell EW (hpc 7 _ rfl)
            have m8 := Ext.cell EW (hpc 8 _ rfl)
            have m9 := Ext.cell EW (hpc 9 _ rfl)
            have m10 := Ext.cell EW (hpc 10 _ rfl)
            simp only [Nat.add_zero] at k0 m0
            have HCE := Lib.hid CE
            have HCJ := Lib.hid CJ
            have HCU := Lib.hid CU
            have HCZ := Lib.hid CZ
            have HTT := Lib.hid hT
            have HOO := Lib.hid hO
            have HPL := Lib.hid hpl
            have HU1 := Lib.hid hu
            have hpl12 : pre.length ≤ 12 := by omega
            have hrow : ∀ n, wr.heap.size ≤ n → (Value.slice A9 pre.length c9).ownBlock ≠ some n := fun n hn e => by have := row_lt hO e; omega
            have hrot : (Value.slice A9 pre.length c9).ownBlock ≠ some t := own_ne hO hz5
            have ew1 : IntKind.i64.wrap ((k : Int) + 1 - 1) = (k : Int) := by rw [IntWalk.i64_in ((k : Int) + 1 - 1) (by omega)]; omega
            have ew2 := IntWalk.i64_in ((k : Int) + 1 + 1) (by omega)
            have ew3 := IntWalk.i64_in (k : Int) (by omega)
            have i1 : (0 : Int) ≤ (k : Int) := by omega
            have i2 : (k : Int) < (v.units.length : Int) := by omega
            have i3 : (k : Int) + 1 < (v.units.length : Int) := by omega
            have i4 : (0 : Int) ≤ (k : Int) + 1 := by omega
            have HROW := Lib.hid hrow
            have HROT := Lib.hid hrot
            have HVF := Lib.hid hvf
            have hlA := fst_lt hA
            have hlF := fst_lt hF
            have a0 : wr.cell? ⟨t, 0, none⟩ = some (.int .i64 ax1) := World.news_of_block hA 0 _ rfl
            have a1 : wr.cell? ⟨t, 1, none⟩ = some (.int .i64 ax2) := World.news_of_block hA 1 _ rfl
            have g0 : wr.cell? ⟨W5.heap.size + 1 + 1, 0, none⟩ = some (.int .i64 fr1) := World.news_of_block hF 0 _ rfl
            have g1 : wr.cell? ⟨W5.heap.size + 1 + 1, 1, none⟩ = some (.int .i64 fr2) := World.news_of_block hF 1 _ rfl
            clear CE CJ CU CZ hT hvu hvp hc hpc hax hpx hu hpu huk hj hz hO hrow hrot hpl hku hvf
            go_upto_region 16 with fail
            go_cut [13, 14] from 55 to 110 (fun sa sb wc => ∃ t, sa = .pointer (some ⟨t, 0, none⟩) ∧ sb = .int .i64 j.2 ∧ Ext wr wc ∧ wr.heap.size ≤ t ∧ wc.heap[t]? = some (.cells #[.int .i64 j.1.1, .int .i64 j.1.2] 26 (0, 0)))
            case first =>
              go_region_held3 (fun w' => w'.cell? ⟨t, 0, none⟩ = some (.int .i64 ax1) ∧ w'.cell? ⟨t, 1, none⟩ = some (.int .i64 ax2) ∧ w'.cell? ⟨W5.heap.size + 1 + 1, 0, none⟩ = some (.int .i64 fr1) ∧ w'.cell? ⟨W5.heap.size + 1 + 1, 1, none⟩ = some (.int .i64 fr2) ∧ w'.cell? ⟨w.heap.size, 1, none⟩ = some (.slice (some ⟨b, off, none⟩) v.units.length cap) ∧ w'.cell? ⟨b, off + k * 11, none⟩ = some (.int .i64 pu.kind) ∧ w'.cell? ⟨b, off + k * 11 + 1, none⟩ = some (.int .i64 pu.length) ∧ w'.cell? ⟨b, off + k * 11 + 2, none⟩ = some (.int .i64 pu.behind) ∧ w'.cell? ⟨b, off + k * 11 + 3, none⟩ = some (.int .i64 pu.front) ∧ w'.cell? ⟨b, off + k * 11 + 4, none⟩ = some (.int .i64 pu.rear) ∧ w'.cell? ⟨b, off + k * 11 + 5, none⟩ = some (.int .i64 pu.width) ∧ w'.cell? ⟨b, off + k * 11 + 6, none⟩ = some (.int .i64 pu.height) ∧ w'.cell? ⟨b, off + k * 11 + 7, none⟩ = some (.int .i64 pu.mass) ∧ w'.cell? ⟨b, off + k * 11 + 8, none⟩ = some (.int .i64 pu.steer) ∧ w'.cell? ⟨b, off + k * 11 + 9, none⟩ = some (.int .i64 pu.most) ∧ w'.cell? ⟨b, off + k * 11 + 10, none⟩ = some (.slice (ex k).1 pu.axles.length (ex k).2)) (refine ⟨?_, ?_, ?_, ?_, ?_, ?_, ?_, ?_, ?_, ?_, ?_, ?_, ?_, ?_, ?_, ?_⟩ <;> (repeat' (with_reducible (first | assumption | refine Ext.cell hbZ ?_ | refine Ext.cell hbE ?_ | refine Ext.cell (Ext.refl _).drew ?_ | refine cell_set_ne (by first | omega | (simp; omega)) ?_ | refine Ext.cell ((Ext.refl _).alloc _) ?_)))) (first
                | (go_at_call 51; refine (HCE.out _ (by (repeat' (first | exact Ext.refl _ | assumption | refine Ext.alloc ?_ _ | refine Ext.drew ?_ | refine Ext.drewN ?_ _ | refine Ext.set ?_ (by first | exact Nat.le_refl _ | exact le1 _ | exact le2 _ | exact le3 _ | exact le4 _ | exact le5 _ | exact le6 _) _ | refine Ext.trans ?_ (by assumption))))).mono ?_; rintro e wE ⟨rfl, hbE⟩; have zE := (show Ext wr wE from by (repeat' (first | exact Ext.refl _ | assumption | refine Ext.alloc ?_ _ | refine Ext.drew ?_ | refine Ext.drewN ?_ _ | refine Ext.set ?_ (by first | exact Nat.le_refl _ | exact le1 _ | exact le2 _ | exact le3 _ | exact le4 _ | exact le5 _ | exact le6 _) _ | refine Ext.trans ?_ (by assumption)))).sz; (try (replace yW := (hbE.block _ (Array.getElem?_eq_some_iff.1 yW).1).trans yW)); (try (have yW : wE.heap[wr.heap.size]? = some (.cells #[.int .i64 0, .int .i64 0] 26 (0, 0)) := new_kept (W := wr.drew) hbE)); skip)
                | (go_at_call 50; refine (HCJ.out _).mono ?_; rintro e wZ ⟨rfl, hbZ⟩; unfold ptV; have zZ := (show Ext wr wZ from by (repeat' (first | exact Ext.refl _ | assumption | refine Ext.alloc ?_ _ | refine Ext.drew ?_ | refine Ext.drewN ?_ _ | refine Ext.set ?_ (by first | exact Nat.le_refl _ | exact le1 _ | exact le2 _ | exact le3 _ | exact le4 _ | exact le5 _ | exact le6 _) _ | refine Ext.trans ?_ (by assumption)))).sz; (try (replace yE := (hbZ.block _ (Array.getElem?_eq_some_iff.1 yE).1).trans yE)); (try (replace yW := (hbZ.block _ (Array.getElem?_eq_some_iff.1 yW).1).trans yW)); (try (have yW : wZ.heap[wr.heap.size]? = some (.cells #[.int .i64 0, .int .i64 0] 26 (0, 0)) := new_kept (W := wr.drew) hbZ)); (try (have yE : wZ.heap[wE.heap.size]? = some (.cells #[.int .i64 0, .int .i64 0] 26 (0, 0)) := new_kept (W := wE) hbZ)); (try (have c0 : wZ.cell? ⟨wr.heap.size, 0, none⟩ = some (.int .i64 0) := World.news_of_block yW 0 _ rfl; have c1 : wZ.cell? ⟨wr.heap.size, 1, none⟩ = some (.int .i64 0) := World.news_of_block yW 1 _ rfl; have f0 := blk_frz yW 0; have f1 := blk_frz yW 1)); (try (have c0 : wZ.cell? ⟨wE.heap.size, 0, none⟩ = some (.int .i64 0) := World.news_of_block yE 0 _ rfl; have c1 : wZ.cell? ⟨wE.heap.size, 1, none⟩ = some (.int .i64 0) := World.news_of_block yE 1 _ rfl; have f0 := blk_frz yE 0; have f1 := blk_frz yE 1)); skip))
              all_goals
                go_wp2_with fail
                go_meet
                first
                  | exact ⟨wZ.heap.size, rfl, rfl, by (repeat' (first | exact Ext.refl _ | assumption | refine Ext.alloc ?_ _ | refine Ext.drew ?_ | refine Ext.drewN ?_ _ | refine Ext.set ?_ (by first | exact Nat.le_refl _ | exact le1 _ | exact le2 _ | exact le3 _ | exact le4 _ | exact le5 _ | exact le6 _) _ | refine Ext.trans ?_ (by assumption))), zZ, World.alloc_heap_new wZ _⟩
                  | exact ⟨wE.heap.size, rfl, rfl, ((show Ext wr wZ from by (repeat' (first | exact Ext.refl _ | assumption | refine Ext.alloc ?_ _ | refine Ext.drew ?_ | refine Ext.drewN ?_ _ | refine Ext.set ?_ (by first | exact Nat.le_refl _ | exact le1 _ | exact le2 _ | exact le3 _ | exact le4 _ | exact le5 _ | exact le6 _) _ | refine Ext.trans ?_ (by assumption)))).set (p := ⟨wE.heap.size, 0, none⟩) zE _).set (p := ⟨wE.heap.size, 1, none⟩) zE _, zE, two1 _ (two0 _ yE)⟩
                  | exact ⟨wr.heap.size, rfl, rfl, ((show Ext wr wZ from by (repeat' (first | exact Ext.refl _ | assumption | refine Ext.alloc ?_ _ | refine Ext.drew ?_ | refine Ext.drewN ?_ _ | refine Ext.set ?_ (by first | exact Nat.le_refl _ | exact le1 _ | exact le2 _ | exact le3 _ | exact le4 _ | exact le5 _ | exact le6 _) _ | refine Ext.trans ?_ (by assumption)))).set (p := ⟨wr.heap.size, 0, none⟩) (Nat.le_refl _) _).set (p := ⟨wr.heap.size, 1, none⟩) (Nat.le_refl _) _, (Nat.le_refl _), two1 _ (two0 _ yW)⟩
            case rest =>
              obtain ⟨tj, rfl, rfl, E8, htj, hTj⟩ := hcut
              generalize wc = W8 at *
              have E9 := E.trans E8
              have EW8 := E3.trans E9
              have hs78 := E8.sz
              by_cases hn : j.2 = 0
              case neg =>
                have hrj : r.2 = j.2 := by have := HTT.out; rw [if_neg hn] at this; exact (Prod.mk.inj this).2.symm
                have ER := E3.trans E9
                have hR9 := (E9).blk hR
                have r0 : W8.cell? ⟨w.heap.size + 1 + 1 + 1, 0, none⟩ = some (.int .i64 0) := World.news_of_block hR9 0 _ rfl
                have r1 : W8.cell? ⟨w.heap.size + 1 + 1 + 1, 1, none⟩ = some (.int .i64 0) := World.news_of_block hR9 1 _ rfl
                have r2 : W8.cell? ⟨w.heap.size + 1 + 1 + 1, 2, none⟩ = some (.slice none 0 0) := World.news_of_block hR9 2 _ rfl
                have f0 := blk_frz hR9 0
                have f1 := blk_frz hR9 1
                have f2 := blk_frz hR9 2
                have HRJ := Lib.hid hrj
                have HNN := Lib.hid hn
                clear hrj
                go_wp2_with fail
                have hR2 := three_set (.int .i64 0) (.int .i64 0) (.slice none 0 0) hR9
                have ER2 := ((ER.set (p := ⟨w.heap.size + 1 + 1 + 1, 0, none⟩) (le3 _) (.int .i64 0)).set (p := ⟨w.heap.size + 1 + 1 + 1, 1, none⟩) (le3 _) (.int .i64 0)).set (p := ⟨w.heap.size + 1 + 1 + 1, 2, none⟩) (le3 _) (.slice none 0 0)
                generalize (((W8.setCell ⟨w.heap.size + 1 + 1 + 1, 0, none⟩ (.int .i64 0)).setCell ⟨w.heap.size + 1 + 1 + 1, 1, none⟩ (.int .i64 0)).setCell ⟨w.heap.size + 1 + 1 + 1, 2, none⟩ (.slice none 0 0)) = WF at *
                have n0 : WF.cell? ⟨w.heap.size + 1 + 1 + 1, 0, none⟩ = some (.int .i64 0) := World.news_of_block hR2 0 _ rfl
                have n1 : WF.cell? ⟨w.heap.size + 1 + 1 + 1, 1, none⟩ = some (.int .i64 0) := World.news_of_block hR2 1 _ rfl
                have n2 : WF.cell? ⟨w.heap.size + 1 + 1 + 1, 2, none⟩ = some (.slice none 0 0) := World.news_of_block hR2 2 _ rfl
                refine bodyPost_ret (v := poseEV (0, 0) (.slice none 0 0) j.2) (by simp [results, Try.results12, go_sem, n0, n1, n2, poseEV]) rfl ?_
                rw [← HPo.out]
                unfold StrR
                rw [HR.out, if_pos HQ0.out, if_neg (by rw [HRJ.out]; exact HNN.out), HRJ.out]
                exact ⟨_, rfl, .inl ⟨none, 0, rfl, rfl⟩, ER2⟩
              case pos =>
                have HJ0 := Lib.hid hn
                replace a0 := Ext.cell E8 a0
                replace a1 := Ext.cell E8 a1
                replace g0 := Ext.cell E8 g0
                replace g1 := Ext.cell E8 g1
                replace y1r := Ext.cell E8 y1r
                replace k0 := Ext.cell E8 k0
                replace k1 := Ext.cell E8 k1
                replace k2 := Ext.cell E8 k2
                replace k3 := Ext.cell E8 k3
                replace k4 := Ext.cell E8 k4
                replace k5 := Ext.cell E8 k5
                replace k6 := Ext.cell E8 k6
                replace k7 := Ext.cell E8 k7
                replace k8 := Ext.cell E8 k8
                replace k9 := Ext.cell E8 k9
                replace k10 := Ext.cell E8 k10
                replace m0 := Ext.cell E8 m0
                replace m1 := Ext.cell E8 m1
                replace m2 := Ext.cell E8 m2
                replace m3 := Ext.cell E8 m3
                replace m4 := Ext.cell E8 m4
                replace m5 := Ext.cell E8 m5
                replace m6 := Ext.cell E8 m6
                replace m7 := Ext.cell E8 m7
                replace m8 := Ext.cell E8 m8
                replace m9 := Ext.cell E8 m9
                replace m10 := Ext.cell E8 m10
                go_upto_region 19 with fail
                go_cut [15, 14] from 55 to 110 (fun sa sb wc => ∃ t, sa = .pointer (some ⟨t, 0, none⟩) ∧ sb = .int .i64 z.2 ∧ Ext W8 wc ∧ W8.heap.size ≤ t ∧ wc.heap[t]? = some (.cells #[.int .i64 z.1.1, .int .i64 z.1.2] 26 (0, 0)))
                case first =>
                  go_region_held3 (fun w' => w'.cell? ⟨t, 0, none⟩ = some (.int .i64 ax1) ∧ w'.cell? ⟨t, 1, none⟩ = some (.int .i64 ax2) ∧ w'.cell? ⟨W5.heap.size + 1 + 1, 0, none⟩ = some (.int .i64 fr1) ∧ w'.cell? ⟨W5.heap.size + 1 + 1, 1, none⟩ = some (.int .i64 fr2) ∧ w'.cell? ⟨w.heap.size, 1, none⟩ = some (.slice (some ⟨b, off, none⟩) v.units.length cap) ∧ w'.cell? ⟨b, off + k * 11, none⟩ = some (.int .i64 pu.kind) ∧ w'.cell? ⟨b, off + k * 11 + 1, none⟩ = some (.int .i64 pu.length) ∧ w'.cell? ⟨b, off + k * 11 + 2, none⟩ = some (.int .i64 pu.behind) ∧ w'.cell? ⟨b, off + k * 11 + 3, none⟩ = some (.int .i64 pu.front) ∧ w'.cell? ⟨b, off + k * 11 + 4, none⟩ = some (.int .i64 pu.rear) ∧ w'.cell? ⟨b, off + k * 11 + 5, none⟩ = some (.int .i64 pu.width) ∧ w'.cell? ⟨b, off + k * 11 + 6, none⟩ = some (.int .i64 pu.height) ∧ w'.cell? ⟨b, off + k * 11 + 7, none⟩ = some (.int .i64 pu.mass) ∧ w'.cell? ⟨b, off + k * 11 + 8, none⟩ = some (.int .i64 pu.steer) ∧ w'.cell? ⟨b, off + k * 11 + 9, none⟩ = some (.int .i64 pu.most) ∧ w'.cell? ⟨b, off + k * 11 + 10, none⟩ = some (.slice (ex k).1 pu.axles.length (ex k).2) ∧ w'.cell? ⟨b, off + (k + 1) * 11, none⟩ = some (.int .i64 u.kind) ∧ w'.cell? ⟨b, off + (k + 1) * 11 + 1, none⟩ = some (.int .i64 u.length) ∧ w'.cell? ⟨b, off + (k + 1) * 11 + 2, none⟩ = some (.int .i64 u.behind) ∧ w'.cell? ⟨b, off + (k + 1) * 11 + 3, none⟩ = some (.int .i64 u.front) ∧ w'.cell? ⟨b, off + (k + 1) * 11 + 4, none⟩ = some (.int .i64 u.rear) ∧ w'.cell? ⟨b, off + (k + 1) * 11 + 5, none⟩ = some (.int .i64 u.width) ∧ w'.cell? ⟨b, off + (k + 1) * 11 + 6, none⟩ = some (.int .i64 u.height) ∧ w'.cell? ⟨b, off + (k + 1) * 11 + 7, none⟩ = some (.int .i64 u.mass) ∧ w'.cell? ⟨b, off + (k + 1) * 11 + 8, none⟩ = some (.int .i64 u.steer) ∧ w'.cell? ⟨b, off + (k + 1) * 11 + 9, none⟩ = some (.int .i64 u.most) ∧ w'.cell? ⟨b, off + (k + 1) * 11 + 10, none⟩ = some (.slice (ex (k + 1)).1 u.axles.length (ex (k + 1)).2)) (refine ⟨?_, ?_, ?_, ?_, ?_, ?_, ?_, ?_, ?_, ?_, ?_, ?_, ?_, ?_, ?_, ?_, ?_, ?_, ?_, ?_, ?_, ?_, ?_, ?_, ?_, ?_, ?_⟩ <;> (repeat' (with_reducible (first | assumption | refine Ext.cell hbZ ?_ | refine Ext.cell hbP ?_ | refine Ext.cell hbE ?_ | refine Ext.cell (Ext.refl _).drew ?_ | refine cell_set_ne (by first | omega | (simp; omega)) ?_ | refine Ext.cell ((Ext.refl _).alloc _) ?_)))) (first
                    | (go_at_call 51; refine (HCE.out _ (by (repeat' (first | exact Ext.refl _ | assumption | refine Ext.alloc ?_ _ | refine Ext.drew ?_ | refine Ext.drewN ?_ _ | refine Ext.set ?_ (by first | exact Nat.le_refl _ | exact le1 _ | exact le2 _ | exact le3 _ | exact le4 _ | exact le5 _ | exact le6 _) _ | refine Ext.trans ?_ (by assumption))))).mono ?_; rintro e wE ⟨rfl, hbE⟩; have zE := (show Ext W8 wE from by (repeat' (first | exact Ext.refl _ | assumption | refine Ext.alloc ?_ _ | refine Ext.drew ?_ | refine Ext.drewN ?_ _ | refine Ext.set ?_ (by first | exact Nat.le_refl _ | exact le1 _ | exact le2 _ | exact le3 _ | exact le4 _ | exact le5 _ | exact le6 _) _ | refine Ext.trans ?_ (by assumption)))).sz; (try (replace yP := (hbE.block _ (Array.getElem?_eq_some_iff.1 yP).1).trans yP)); (try (replace yW := (hbE.block _ (Array.getElem?_eq_some_iff.1 yW).1).trans yW)); (try (have yW : wE.heap[W8.heap.size]? = some (.cells #[.int .i64 0, .int .i64 0] 26 (0, 0)) := new_kept (W := W8.drew) hbE)); (try (have yP : wE.heap[wP.heap.size]? = some (.cells #[.int .i64 0, .int .i64 0] 26 (0, 0)) := new_kept (W := wP) hbE)); skip)
                    | (go_at_call 49; refine (HCU.out _ (by (repeat' (first | exact Ext.refl _ | assumption | refine Ext.alloc ?_ _ | refine Ext.drew ?_ | refine Ext.drewN ?_ _ | refine Ext.set ?_ (by first | exact Nat.le_refl _ | exact le1 _ | exact le2 _ | exact le3 _ | exact le4 _ | exact le5 _ | exact le6 _) _ | refine Ext.trans ?_ (by assumption))))).mono ?_; rintro e wP ⟨rfl, hbP⟩; have zP := (show Ext W8 wP from by (repeat' (first | exact Ext.refl _ | assumption | refine Ext.alloc ?_ _ | refine Ext.drew ?_ | refine Ext.drewN ?_ _ | refine Ext.set ?_ (by first | exact Nat.le_refl _ | exact le1 _ | exact le2 _ | exact le3 _ | exact le4 _ | exact le5 _ | exact le6 _) _ | refine Ext.trans ?_ (by assumption)))).sz; (try (replace yE := (hbP.block _ (Array.getElem?_eq_some_iff.1 yE).1).trans yE)); (try (replace yW := (hbP.block _ (Array.getElem?_eq_some_iff.1 yW).1).trans yW)); (try (have yW : wP.heap[W8.heap.size]? = some (.cells #[.int .i64 0, .int .i64 0] 26 (0, 0)) := new_kept (W := W8.drew) hbP)); (try (have yE : wP.heap[wE.heap.size]? = some (.cells #[.int .i64 0, .int .i64 0] 26 (0, 0)) := new_kept (W := wE) hbP)); skip)
                    | (go_at_call 50; refine (HCZ.out _).mono ?_; rintro e wZ ⟨rfl, hbZ⟩; unfold ptV; have zZ := (show Ext W8 wZ from by (repeat' (first | exact Ext.refl _ | assumption | refine Ext.alloc ?_ _ | refine Ext.drew ?_ | refine Ext.drewN ?_ _ | refine Ext.set ?_ (by first | exact Nat.le_refl _ | exact le1 _ | exact le2 _ | exact le3 _ | exact le4 _ | exact le5 _ | exact le6 _) _ | refine Ext.trans ?_ (by assumption)))).sz; (try (replace yP := (hbZ.block _ (Array.getElem?_eq_some_iff.1 yP).1).trans yP)); (try (replace yE := (hbZ.block _ (Array.getElem?_eq_some_iff.1 yE).1).trans yE)); (try (replace yW := (hbZ.block _ (Array.getElem?_eq_some_iff.1 yW).1).trans yW)); (try (have yW : wZ.heap[W8.heap.size]? = some (.cells #[.int .i64 0, .int .i64 0] 26 (0, 0)) := new_kept (W := W8.drew) hbZ)); (try (have yE : wZ.heap[wE.heap.size]? = some (.cells #[.int .i64 0, .int .i64 0] 26 (0, 0)) := new_kept (W := wE) hbZ)); (try (have yP : wZ.heap[wP.heap.size]? = some (.cells #[.int .i64 0, .int .i64 0] 26 (0, 0)) := new_kept (W := wP) hbZ)); (try (have c0 : wZ.cell? ⟨W8.heap.size, 0, none⟩ = some (.int .i64 0) := World.news_of_block yW 0 _ rfl; have c1 : wZ.cell? ⟨W8.heap.size, 1, none⟩ = some (.int .i64 0) := World.news_of_block yW 1 _ rfl; have f0 := blk_frz yW 0; have f1 := blk_frz yW 1)); (try (have c0 : wZ.cell? ⟨wE.heap.size, 0, none⟩ = some (.int .i64 0) := World.news_of_block yE 0 _ rfl; have c1 : wZ.cell? ⟨wE.heap.size, 1, none⟩ = some (.int .i64 0) := World.news_of_block yE 1 _ rfl; have f0 := blk_frz yE 0; have f1 := blk_frz yE 1)); (try (have c0 : wZ.cell? ⟨wP.heap.size, 0, none⟩ = some (.int .i64 0) := World.news_of_block yP 0 _ rfl; have c1 : wZ.cell? ⟨wP.heap.size, 1, none⟩ = some (.int .i64 0) := World.news_of_block yP 1 _ rfl; have f0 := blk_frz yP 0; have f1 := blk_frz yP 1)); skip))
                  all_goals
                    go_wp2_with fail
                    go_meet
                    first
                      | exact ⟨wZ.heap.size, rfl, rfl, by (repeat' (first | exact Ext.refl _ | assumption | refine Ext.alloc ?_ _ | refine Ext.drew ?_ | refine Ext.drewN ?_ _ | refine Ext.set ?_ (by first | exact Nat.le_refl _ | exact le1 _ | exact le2 _ | exact le3 _ | exact le4 _ | exact le5 _ | exact le6 _) _ | refine Ext.trans ?_ (by assumption))), zZ, World.alloc_heap_new wZ _⟩
                      | exact ⟨wE.heap.size, rfl, rfl, ((show Ext W8 wZ from by (repeat' (first | exact Ext.refl _ | assumption | refine Ext.alloc ?_ _ | refine Ext.drew ?_ | refine Ext.drewN ?_ _ | refine Ext.set ?_ (by first | exact Nat.le_refl _ | exact le1 _ | exact le2 _ | exact le3 _ | exact le4 _ | exact le5 _ | exact le6 _) _ | refine Ext.trans ?_ (by assumption)))).set (p := ⟨wE.heap.size, 0, none⟩) zE _).set (p := ⟨wE.heap.size, 1, none⟩) zE _, zE, two1 _ (two0 _ yE)⟩
                      | exact ⟨wP.heap.size, rfl, rfl, ((show Ext W8 wZ from by (repeat' (first | exact Ext.refl _ | assumption | refine Ext.alloc ?_ _ | refine Ext.drew ?_ | refine Ext.drewN ?_ _ | refine Ext.set ?_ (by first | exact Nat.le_refl _ | exact le1 _ | exact le2 _ | exact le3 _ | exact le4 _ | exact le5 _ | exact le6 _) _ | refine Ext.trans ?_ (by assumption)))).set (p := ⟨wP.heap.size, 0, none⟩) zP _).set (p := ⟨wP.heap.size, 1, none⟩) zP _, zP, two1 _ (two0 _ yP)⟩
                      | exact ⟨W8.heap.size, rfl, rfl, ((show Ext W8 wZ from by (repeat' (first | exact Ext.refl _ | assumption | refine Ext.alloc ?_ _ | refine Ext.drew ?_ | refine Ext.drewN ?_ _ | refine Ext.set ?_ (by first | exact Nat.le_refl _ | exact le1 _ | exact le2 _ | exact le3 _ | exact le4 _ | exact le5 _ | exact le6 _) _ | refine Ext.trans ?_ (by assumption)))).set (p := ⟨W8.heap.size, 0, none⟩) (Nat.le_refl _) _).set (p := ⟨W8.heap.size, 1, none⟩) (Nat.le_refl _) _, (Nat.le_refl _), two1 _ (two0 _ yW)⟩
                case rest =>
                  obtain ⟨tz, rfl, rfl, E10, htz, hTz⟩ := hcut
                  generalize wc = wd at *
                  have E11 := E9.trans E10
                  by_cases hn : z.2 = 0
                  case neg =>
                    have hrj : r.2 = z.2 := by have := HTT.out; rw [if_pos HJ0.out, if_neg hn] at this; exact (Prod.mk.inj this).2.symm
                    have ER := E3.trans E11
                    have hR9 := (E11).blk hR
                    have r0 : wd.cell? ⟨w.heap.size + 1 + 1 + 1, 0, none⟩ = some (.int .i64 0) := World.news_of_block hR9 0 _ rfl
                    have r1 : wd.cell? ⟨w.heap.size + 1 + 1 + 1, 1, none⟩ = some (.int .i64 0) := World.news_of_block hR9 1 _ rfl
                    have r2 : wd.cell? ⟨w.heap.size + 1 + 1 + 1, 2, none⟩ = some (.slice none 0 0) := World.news_of_block hR9 2 _ rfl
                    have f0 := blk_frz hR9 0
                    have f1 := blk_frz hR9 1
                    have f2 := blk_frz hR9 2
                    have HRJ := Lib.hid hrj
                    have HNN := Lib.hid hn
                    clear hrj
                    go_wp2_with fail
                    have hR2 := three_set (.int .i64 0) (.int .i64 0) (.slice none 0 0) hR9
                    have ER2 := ((ER.set (p := ⟨w.heap.size + 1 + 1 + 1, 0, none⟩) (le3 _) (.int .i64 0)).set (p := ⟨w.heap.size + 1 + 1 + 1, 1, none⟩) (le3 _) (.int .i64 0)).set (p := ⟨w.heap.size + 1 + 1 + 1, 2, none⟩) (le3 _) (.slice none 0 0)
                    generalize (((wd.setCell ⟨w.heap.size + 1 + 1 + 1, 0, none⟩ (.int .i64 0)).setCell ⟨w.heap.size + 1 + 1 + 1, 1, none⟩ (.int .i64 0)).setCell ⟨w.heap.size + 1 + 1 + 1, 2, none⟩ (.slice none 0 0)) = WF at *
                    have n0 : WF.cell? ⟨w.heap.size + 1 + 1 + 1, 0, none⟩ = some (.int .i64 0) := World.news_of_block hR2 0 _ rfl
                    have n1 : WF.cell? ⟨w.heap.size + 1 + 1 + 1, 1, none⟩ = some (.int .i64 0) := World.news_of_block hR2 1 _ rfl
                    have n2 : WF.cell? ⟨w.heap.size + 1 + 1 + 1, 2, none⟩ = some (.slice none 0 0) := World.news_of_block hR2 2 _ rfl
                    refine bodyPost_ret (v := poseEV (0, 0) (.slice none 0 0) z.2) (by simp [results, Try.results12, go_sem, n0, n1, n2, poseEV]) rfl ?_
                    rw [← HPo.out]
                    unfold StrR
                    rw [HR.out, if_pos HQ0.out, if_neg (by rw [HRJ.out]; exact HNN.out), HRJ.out]
                    exact ⟨_, rfl, .inl ⟨none, 0, rfl, rfl⟩, ER2⟩
                  case pos =>
                    have HZ0 := Lib.hid hn
                    have hEr := E8.trans E10
                    have hA9 := hEr.blk hA
                    have hF9 := hEr.blk hF
                    have hP9 := hEr.blk hP
                    have hJ9 := E10.blk hTj
                    have hO9 := HOO.out.ext hEr
                    have hsr := hEr.sz
                    have hs3 := E11.sz
                    clear a0 a1 g0 g1 y1r k0 k1 k2 k3 k4 k5 k6 k7 k8 k9 k10 m0 m1 m2 m3 m4 m5 m6 m7 m8 m9 m10
                    have z0 : wd.cell? ⟨tz, 0, none⟩ = some (.int .i64 z.1.1) := World.news_of_block hTz 0 _ rfl
                    have z1 : wd.cell? ⟨tz, 1, none⟩ = some (.int .i64 z.1.2) := World.news_of_block hTz 1 _ rfl
                    have j0 : wd.cell? ⟨tj, 0, none⟩ = some (.int .i64 j.1.1) := World.news_of_block hJ9 0 _ rfl
                    have j1 : wd.cell? ⟨tj, 1, none⟩ = some (.int .i64 j.1.2) := World.news_of_block hJ9 1 _ rfl
                    have a0 : wd.cell? ⟨t, 0, none⟩ = some (.int .i64 ax1) := World.news_of_block hA9 0 _ rfl
                    have a1 : wd.cell? ⟨t, 1, none⟩ = some (.int .i64 ax2) := World.news_of_block hA9 1 _ rfl
                    have g0 : wd.cell? ⟨W5.heap.size + 1 + 1, 0, none⟩ = some (.int .i64 fr1) := World.news_of_block hF9 0 _ rfl
                    have g1 : wd.cell? ⟨W5.heap.size + 1 + 1, 1, none⟩ = some (.int .i64 fr2) := World.news_of_block hF9 1 _ rfl
                    have fa0 := blk_frz hA9 0
                    have ff0 := blk_frz hF9 0
                    have fa1 := blk_frz hA9 1
                    have ff1 := blk_frz hF9 1
                    have n1 : t ≠ tj := by omega
                    have n2 : t ≠ tz := by omega
                    have n3 : t ≠ W5.heap.size + 1 + 1 := by omega
                    have n4 : tj ≠ t := by omega
                    go_upto_region 24 with fail
                    have hA12 : ((((wd.setCell ⟨t, 0, none⟩ (.int .i64 z.1.1)).setCell ⟨t, 1, none⟩ (.int .i64 z.1.2)).setCell ⟨W5.heap.size + 1 + 1, 0, none⟩ (.int .i64 j.1.1)).setCell ⟨W5.heap.size + 1 + 1, 1, none⟩ (.int .i64 j.1.2)).heap[t]? = some (.cells #[.int .i64 z.1.1, .int .i64 z.1.2] 26 (0, 0)) := (heap_ne n3).trans ((heap_ne n3).trans (two1 _ (two0 _ hA9)))
                    have hF12 : ((((wd.setCell ⟨t, 0, none⟩ (.int .i64 z.1.1)).setCell ⟨t, 1, none⟩ (.int .i64 z.1.2)).setCell ⟨W5.heap.size + 1 + 1, 0, none⟩ (.int .i64 j.1.1)).setCell ⟨W5.heap.size + 1 + 1, 1, none⟩ (.int .i64 j.1.2)).heap[W5.heap.size + 1 + 1]? = some (.cells #[.int .i64 j.1.1, .int .i64 j.1.2] 26 (0, 0)) := two1 _ (two0 _ ((heap_ne n3.symm).trans ((heap_ne n3.symm).trans hF9)))
                    have hP12 : ((((wd.setCell ⟨t, 0, none⟩ (.int .i64 z.1.1)).setCell ⟨t, 1, none⟩ (.int .i64 z.1.2)).setCell ⟨W5.heap.size + 1 + 1, 0, none⟩ (.int .i64 j.1.1)).setCell ⟨W5.heap.size + 1 + 1, 1, none⟩ (.int .i64 j.1.2)).heap[W5.heap.size + 1]? = some (.cells #[.int .i64 l1, .int .i64 l2, .slice A9 pre.length c9] 29 (0, 0)) := (heap_ne (by omega)).trans ((heap_ne (by omega)).trans ((heap_ne (by omega)).trans ((heap_ne (by omega)).trans hP9)))
                    have hO12 : OwnP W5.heap.size ((((wd.setCell ⟨t, 0, none⟩ (.int .i64 z.1.1)).setCell ⟨t, 1, none⟩ (.int .i64 z.1.2)).setCell ⟨W5.heap.size + 1 + 1, 0, none⟩ (.int .i64 j.1.1)).setCell ⟨W5.heap.size + 1 + 1, 1, none⟩ (.int .i64 j.1.2)) (.slice A9 pre.length c9) pre := own_set (own_set (own_set (own_set hO9 HROT.out) HROT.out) HVF.out) HVF.out
                    have E12 : Ext w3 ((((wd.setCell ⟨t, 0, none⟩ (.int .i64 z.1.1)).setCell ⟨t, 1, none⟩ (.int .i64 z.1.2)).setCell ⟨W5.heap.size + 1 + 1, 0, none⟩ (.int .i64 j.1.1)).setCell ⟨W5.heap.size + 1 + 1, 1, none⟩ (.int .i64 j.1.2)) := (((E11.set (p := ⟨t, 0, none⟩) ht _).set (p := ⟨t, 1, none⟩) ht _).set (p := ⟨W5.heap.size + 1 + 1, 0, none⟩) (by show w3.heap.size ≤ W5.heap.size + 1 + 1; omega) _).set (p := ⟨W5.heap.size + 1 + 1, 1, none⟩) (by show w3.heap.size ≤ W5.heap.size + 1 + 1; omega) _
                    generalize ((((wd.setCell ⟨t, 0, none⟩ (.int .i64 z.1.1)).setCell ⟨t, 1, none⟩ (.int .i64 z.1.2)).setCell ⟨W5.heap.size + 1 + 1, 0, none⟩ (.int .i64 j.1.1)).setCell ⟨W5.heap.size + 1 + 1, 1, none⟩ (.int .i64 j.1.2)) = W9 at *
                    clear hA9 hF9 hP9 hO9 hJ9 hTz hTj hA hF hP E8 E10 E9 E11 EW8 EW E hEr z0 z1 j0 j1 a0 a1 g0 g1 fa0 fa1 ff0 ff1
                    have a0 : W9.cell? ⟨t, 0, none⟩ = some (.int .i64 z.1.1) := World.news_of_block hA12 0 _ rfl
                    have a1 : W9.cell? ⟨t, 1, none⟩ = some (.int .i64 z.1.2) := World.news_of_block hA12 1 _ rfl
                    have p2 : W9.cell? ⟨W5.heap.size + 1, 2, none⟩ = some (.slice A9 pre.length c9) := World.news_of_block hP12 2 _ rfl
                    have hlA9 := fst_lt hA12
                    have hlF9 := fst_lt hF12
                    have hlP9 := fst_lt hP12
                    obtain ⟨ip, hip, hz0, hz1, hz2⟩ := info_parts infoPoint
                    have hne9 : (Value.slice A9 pre.length c9).ownBlock ≠ some (W5.heap.size + 1) := row_ne hO12 hP12 (fun cur e => by cases e)
                    go_upto_region 15 with (at_builtin; refine wpList_append_lies _ rfl _ _ 27 rfl W5.heap.size 26 ip _ 2 16 Try.underlying27 hip hz0 hz1 hz2 rfl (by omega) (.slice A9 pre.length c9) pre.length (flatP pre) rfl ((hO12.alloc _)) ⟨W9.heap.size, 0, none⟩ 1 1 [.int .i64 z.1.1, .int .i64 z.1.2] rfl rfl (World.news_of_block (cs := #[.int .i64 z.1.1, .int .i64 z.1.2]) (t := 26) (fr := (0, 0)) (heap_alloc_new _ _)) (by simp [Value.oneCell']) (by omega) (by unfold maxLen; omega) (by omega) (by simp; omega) (W9.heap.size + 1) (by simp) ?_; intro g8 cap8 w8 hown8 hgrow8 hat8 hlt8; have hP8n := (hgrow8.block (W5.heap.size + 1) (by simp; omega) (fun e => hne9 e.symm)).trans (((Ext.refl W9).alloc _).blk hP12); have p28 : w8.cell? ⟨W5.heap.size + 1, 2, none⟩ = some (.slice A9 pre.length c9) := World.news_of_block hP8n 2 _ rfl; have fp8 := blk_frz hP8n 2)
                    have EG : Ext w3 w8 := Ext.grown (E12.alloc _) hgrow8 (fun g hg => by have := own_ge hO12 g hg; omega)
                    have hA13 := (hgrow8.block t (by simp; omega) (fun e => HROT.out e.symm)).trans (((Ext.refl W9).alloc (.cells #[.int .i64 z.1.1, .int .i64 z.1.2] 26)).blk hA12)
                    have hF13 := (hgrow8.block (W5.heap.size + 1 + 1) (by simp; omega) (fun e => HVF.out e.symm)).trans (((Ext.refl W9).alloc (.cells #[.int .i64 z.1.1, .int .i64 z.1.2] 26)).blk hF12)
                    have EGs := EG.set (p := ⟨W5.heap.size + 1, 2, none⟩) (by show w3.heap.size ≤ W5.heap.size + 1; omega) (.slice (some ⟨g8, 0, none⟩) (pre.length + 1) cap8)
                    have hP14 := blk_set 2 (.slice (some ⟨g8, 0, none⟩) (pre.length + 1) cap8) hP8n
                    simp only [List.setIfInBounds_toArray, List.set_cons_zero, List.set_cons_succ] at hP14
                    have hO14 := own_set (b := W5.heap.size + 1) (o := 2) (u := (.slice (some ⟨g8, 0, none⟩) (pre.length + 1) cap8)) hown8 (row_ne hown8 hP8n (fun cur e => by cases e))
                    replace hO14 : OwnP W5.heap.size (w8.setCell ⟨W5.heap.size + 1, 2, none⟩ (.slice (some ⟨g8, 0, none⟩) (pre.length + 1) cap8)) (.slice (some ⟨g8, 0, none⟩) (pre.length + 1) cap8) (pre ++ [z.1]) := by unfold OwnP; rw [flatP_snoc, List.length_append]; exact hO14
                    have hA14 := (heap_ne (b := t) (c := W5.heap.size + 1) (o := 2) (u := (.slice (some ⟨g8, 0, none⟩) (pre.length + 1) cap8)) (by omega)).trans hA13
                    have hF14 := (heap_ne (b := W5.heap.size + 1 + 1) (c := W5.heap.size + 1) (o := 2) (u := (.slice (some ⟨g8, 0, none⟩) (pre.length + 1) cap8)) (by omega)).trans hF13
                    have hvf14 : (Value.slice (some ⟨g8, 0, none⟩) (pre.length + 1) cap8).ownBlock ≠ some (W5.heap.size + 1 + 1) := by rcases hat8 with h | h; (intro e; exact HVF.out (by rw [h]; simpa [Value.ownBlock] using e)); (intro e; have h2 : g8 = W5.heap.size + 1 + 1 := (by simpa [Value.ownBlock] using e); omega)
                    clear hgrow8 hown8 hat8 hlt8 hA13 hF13 hP8n p28 fp8 a0 a1 p2 EG
                    generalize (w8.setCell ⟨W5.heap.size + 1, 2, none⟩ (.slice (some ⟨g8, 0, none⟩) (pre.length + 1) cap8)) = WF at *
                    go_wp2_with fail
                    go_roundw
                    case rel =>
                      refine ⟨k + 1, pre ++ [z.1], .slice (some ⟨g8, 0, none⟩) (pre.length + 1) cap8, z.1, j.1, u, ?_, ?_, ?_, ?_, ?_, ?_, ?_, ?_, ?_, ?_, ?_⟩
                      · omega
                      · go_num
                      · rw [List.length_append, HPL.out]; rfl
                      · exact HU1.out
                      · exact hA14
                      · exact hP14
                      · exact hF14
                      · exact hO14
                      · exact hvf14
                      · have := HTT.out
                        rw [if_pos HJ0.out, if_pos HZ0.out] at this
                        rw [← this]
                        simp
                      · exact EGs
                    case measure => simp [intOf]; omega
          · have hkm : k = m := by omega
            have hT2 := hT
            rw [List.drop_eq_nil_of_le (by have := HUS.out.2.2; omega)] at hT2
            simp only [tailN, List.append_nil, Prod.mk.injEq] at hT2
            have C9 := fun w' (he : Ext w3 w') (hp : Pts w' (.slice A9 pre.length c9) pre) => CR.out w' (E3.trans he) (.slice A9 pre.length c9) pre hp
            have hO9 := hO.pts
            have hR9 := E.blk hR
            have y0r := Ext.cell E y0
            have y2r := Ext.cell E y2
            have y3r := Ext.cell E y3
            have p0 : wr.cell? ⟨W5.heap.size + 1, 0, none⟩ = some (.int .i64 l1) := World.news_of_block hP 0 _ rfl
            have p1 : wr.cell? ⟨W5.heap.size + 1, 1, none⟩ = some (.int .i64 l2) := World.news_of_block hP 1 _ rfl
            have p2 : wr.cell? ⟨W5.heap.size + 1, 2, none⟩ = some (.slice A9 pre.length c9) := World.news_of_block hP 2 _ rfl
            have HO9 := Lib.hid hO9
            have HOO := Lib.hid hO
            have HPP := Lib.hid hP
            have HT2 := Lib.hid hT2
            unfold poseV at *
            have hni : ¬ (k : Int) + 1 < (v.units.length : Int) := by have := HML.out; omega
            clear hA hF hT hO hP hvf hO9 hT2 hkm hlt hk hpl hpu
            by_cases h9 : poseE v (l1, l2) pre = 0
            · rw [h9] at C9
              replace C9 := Lib.hid C9
              have H9 := Lib.hid h9
              clear h9
              go_wp2_with (go_at_call 15; refine (C9.out _ E (HO9.out)).mono ?_; rintro e wd ⟨rfl, hbd⟩; replace hR9 := hbd.blk hR9; have r0 : wd.cell? ⟨w.heap.size + 1 + 1 + 1, 0, none⟩ = some (.int .i64 0) := World.news_of_block hR9 0 _ rfl; have r1 : wd.cell? ⟨w.heap.size + 1 + 1 + 1, 1, none⟩ = some (.int .i64 0) := World.news_of_block hR9 1 _ rfl; have r2 : wd.cell? ⟨w.heap.size + 1 + 1 + 1, 2, none⟩ = some (.slice none 0 0) := World.news_of_block hR9 2 _ rfl; have f0 := blk_frz hR9 0; have f1 := blk_frz hR9 1; have f2 := blk_frz hR9 2; have ED := EW.trans hbd; replace p0 := Ext.cell hbd p0; replace p1 := Ext.cell hbd p1; replace p2 := Ext.cell hbd p2)
              have hR2 := three_set (.int .i64 l1) (.int .i64 l2) (.slice A9 pre.length c9) hR9
              have ER2 := ((ED.set (p := ⟨w.heap.size + 1 + 1 + 1, 0, none⟩) (le3 _) (.int .i64 l1)).set (p := ⟨w.heap.size + 1 + 1 + 1, 1, none⟩) (le3 _) (.int .i64 l2)).set (p := ⟨w.heap.size + 1 + 1 + 1, 2, none⟩) (le3 _) (.slice A9 pre.length c9)
              have HOd := HOO.out.ext hbd
              have hn9 : (Value.slice A9 pre.length c9).ownBlock ≠ some (w.heap.size + 1 + 1 + 1) := own_ne HOd (by have := fst_lt hR; omega)
              have HOF : OwnP W5.heap.size (((wd.setCell ⟨w.heap.size + 1 + 1 + 1, 0, none⟩ (.int .i64 l1)).setCell ⟨w.heap.size + 1 + 1 + 1, 1, none⟩ (.int .i64 l2)).setCell ⟨w.heap.size + 1 + 1 + 1, 2, none⟩ (.slice A9 pre.length c9)) (.slice A9 pre.length c9) pre := own_set (own_set (own_set HOd hn9) hn9) hn9
              generalize (((wd.setCell ⟨w.heap.size + 1 + 1 + 1, 0, none⟩ (.int .i64 l1)).setCell ⟨w.heap.size + 1 + 1 + 1, 1, none⟩ (.int .i64 l2)).setCell ⟨w.heap.size + 1 + 1 + 1, 2, none⟩ (.slice A9 pre.length c9)) = WF at *
              have n0 : WF.cell? ⟨w.heap.size + 1 + 1 + 1, 0, none⟩ = some (.int .i64 l1) := World.news_of_block hR2 0 _ rfl
              have n1 : WF.cell? ⟨w.heap.size + 1 + 1 + 1, 1, none⟩ = some (.int .i64 l2) := World.news_of_block hR2 1 _ rfl
              have n2 : WF.cell? ⟨w.heap.size + 1 + 1 + 1, 2, none⟩ = some (.slice A9 pre.length c9) := World.news_of_block hR2 2 _ rfl
              refine bodyPost_ret (v := poseEV (l1, l2) (.slice A9 pre.length c9) 0) (by simp [results, Try.results12, go_sem, n0, n1, n2, poseEV]) rfl ?_
              rw [← HPo.out]
              unfold StrR
              rw [HR.out, if_pos HQ0.out, if_pos HT2.out.2.symm, ← HT2.out.1, if_pos H9.out]
              exact ⟨_, rfl, HOF.pts, ER2⟩
            · have h9n := h9
              obtain ⟨PE, hPE⟩ : ∃ PE, poseE v (l1, l2) pre = PE := ⟨_, rfl⟩
              rw [hPE] at C9 h9
              have HPE := Lib.hid hPE
              clear hPE h9n
              replace C9 := Lib.hid C9
              have H9 := Lib.hid h9
              skip
              go_wp2_with (go_at_call 15; refine (C9.out _ E (HO9.out)).mono ?_; rintro e wd ⟨rfl, hbd⟩; replace hR9 := hbd.blk hR9; have r0 : wd.cell? ⟨w.heap.size + 1 + 1 + 1, 0, none⟩ = some (.int .i64 0) := World.news_of_block hR9 0 _ rfl; have r1 : wd.cell? ⟨w.heap.size + 1 + 1 + 1, 1, none⟩ = some (.int .i64 0) := World.news_of_block hR9 1 _ rfl; have r2 : wd.cell? ⟨w.heap.size + 1 + 1 + 1, 2, none⟩ = some (.slice none 0 0) := World.news_of_block hR9 2 _ rfl; have f0 := blk_frz hR9 0; have f1 := blk_frz hR9 1; have f2 := blk_frz hR9 2; have ED := EW.trans hbd; replace p0 := Ext.cell hbd p0; replace p1 := Ext.cell hbd p1; replace p2 := Ext.cell hbd p2)
              have hR2 := three_set (.int .i64 0) (.int .i64 0) (.slice none 0 0) hR9
              have ER2 := ((ED.set (p := ⟨w.heap.size + 1 + 1 + 1, 0, none⟩) (le3 _) (.int .i64 0)).set (p := ⟨w.heap.size + 1 + 1 + 1, 1, none⟩) (le3 _) (.int .i64 0)).set (p := ⟨w.heap.size + 1 + 1 + 1, 2, none⟩) (le3 _) (.slice none 0 0)
              generalize (((wd.setCell ⟨w.heap.size + 1 + 1 + 1, 0, none⟩ (.int .i64 0)).setCell ⟨w.heap.size + 1 + 1 + 1, 1, none⟩ (.int .i64 0)).setCell ⟨w.heap.size + 1 + 1 + 1, 2, none⟩ (.slice none 0 0)) = WF at *
              have n0 : WF.cell? ⟨w.heap.size + 1 + 1 + 1, 0, none⟩ = some (.int .i64 0) := World.news_of_block hR2 0 _ rfl
              have n1 : WF.cell? ⟨w.heap.size + 1 + 1 + 1, 1, none⟩ = some (.int .i64 0) := World.news_of_block hR2 1 _ rfl
              have n2 : WF.cell? ⟨w.heap.size + 1 + 1 + 1, 2, none⟩ = some (.slice none 0 0) := World.news_of_block hR2 2 _ rfl
              refine bodyPost_ret (v := poseEV (0, 0) (.slice none 0 0) 9) (by simp [results, Try.results12, go_sem, n0, n1, n2, poseEV]) rfl ?_
              rw [← HPo.out]
              unfold StrR
              rw [HR.out, if_pos HQ0.out, if_pos HT2.out.2.symm, ← HT2.out.1, if_neg (by rw [HPE.out]; exact H9.out)]
              exact ⟨_, rfl, .inl ⟨none, 0, rfl, rfl⟩, ER2⟩
end
end Go.Proofs.Ytgikfliibimkdaa
