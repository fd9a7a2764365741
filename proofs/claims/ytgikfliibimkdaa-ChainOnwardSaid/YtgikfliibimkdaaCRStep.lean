/- Contract: Step, by the reference. -/
import Derived.Test.YtgikfliibimkdaaCStepS
import Derived.Test.YtgikfliibimkdaaCRJoint
import Derived.Test.YtgikfliibimkdaaUntil
import Derived.Test.YtgikfliibimkdaaCSame
namespace Go.Proofs.Ytgikfliibimkdaa
open Go.RowKit Go.Shelf

section
variable {vu vp vst : Value} {v : CVeh} {ps : List Pt} {st : List Int}
set_option maxRecDepth 100000 in
set_option maxHeartbeats 6400000 in
theorem RStep_pose (o1 o2 l1 l2 : Int) (w : World) (hs : Sl 11 RUnit w vu v.units) (hp : Pts w vp ps) (hst : Sl 1 RNum w vst st) (h : ¬ poseE v (o1, o2) ps = 0) :
    Calls Try.prog 25 #[vehV v vu, poseV (o1, o2) vp, .agg #[.int .i64 l1, .int .i64 l2], vst] w (StepR v (o1, o2) ps (l1, l2) st w) := by
  have CC := fun w' (h : Ext w w') => RCheckPose_c (lead := (o1, o2)) w' (hs.ext RUnit.stable h) (hp.ext h)
  have HR := Lib.hid (stepS_pose (lead := (l1, l2)) (st := st) h)
  obtain ⟨A, cap, rfl, hl, hl2⟩ := hs.shape
  obtain ⟨Ap, capp, rfl⟩ := pts_shape hp
  obtain ⟨As, caps, rfl, hls, hls2⟩ := hst.shape
  obtain ⟨Post, hPost⟩ : ∃ Post, StepR v (o1, o2) ps (l1, l2) st w = Post := ⟨_, rfl⟩
  rw [hPost]
  have HPo := Lib.hid hPost
  unfold vehV poseV at *
  simp only at CC ⊢
  have HN := h
  generalize poseE v (o1, o2) ps = PE at *
  replace CC := Lib.hid CC
  clear hs hp hst h hPost
  go_enter Try.func25, Try.ntmps25
  go_upto_region 3 with (go_at_call 15; refine (CC.out _ (by (repeat' (first | exact Ext.refl _ | assumption | refine Ext.alloc ?_ _ | refine Ext.drew ?_ | refine Ext.drewN ?_ _ | refine Ext.set ?_ (by first | exact Nat.le_refl _ | exact le1 _ | exact le2 _ | exact le3 _ | exact le4 _ | exact le5 _ | exact le6 _) _ | refine Ext.trans ?_ (by assumption))))).mono ?_; rintro e w1 ⟨rfl, hb⟩; have y0 := Ext.cell hb (p := ⟨w.heap.size, 0, none⟩) (v := .string v.name) (by go_simp); have y1 := Ext.cell hb (p := ⟨w.heap.size, 1, none⟩) (v := .slice A v.units.length cap) (by go_simp); have y2 := Ext.cell hb (p := ⟨w.heap.size, 2, none⟩) (v := .int .i64 v.first) (by go_simp); have y3 := Ext.cell hb (p := ⟨w.heap.size, 3, none⟩) (v := .int .i64 v.last) (by go_simp); have t0 := Ext.cell hb (p := ⟨w.heap.size + 1, 0, none⟩) (v := .int .i64 o1) (by go_simp); have t1 := Ext.cell hb (p := ⟨w.heap.size + 1, 1, none⟩) (v := .int .i64 o2) (by go_simp); have t2 := Ext.cell hb (p := ⟨w.heap.size + 1, 2, none⟩) (v := .slice Ap ps.length capp) (by go_simp); have L0 := Ext.cell hb (p := ⟨w.heap.size + 1 + 1, 0, none⟩) (v := .int .i64 l1) (by go_simp); have L1 := Ext.cell hb (p := ⟨w.heap.size + 1 + 1, 1, none⟩) (v := .int .i64 l2) (by go_simp); have hR : w1.heap[w.heap.size + 1 + 1 + 1]? = some (.cells #[.int .i64 0, .int .i64 0, .slice none 0 0] 29 (0, 0)) := (hb.block _ (by simp)).trans (new_at (by simp)); have E3 : Ext w w1 := (((((Ext.refl w).alloc _).alloc _).alloc _).alloc _).trans hb; clear hb; have r0 : w1.cell? ⟨w.heap.size + 1 + 1 + 1, 0, none⟩ = some (.int .i64 0) := World.news_of_block hR 0 _ rfl; have r1 : w1.cell? ⟨w.heap.size + 1 + 1 + 1, 1, none⟩ = some (.int .i64 0) := World.news_of_block hR 1 _ rfl; have r2 : w1.cell? ⟨w.heap.size + 1 + 1 + 1, 2, none⟩ = some (.slice none 0 0) := World.news_of_block hR 2 _ rfl; have f0 := blk_frz hR 0; have f1 := blk_frz hR 1; have f2 := blk_frz hR 2; have hlR := fst_lt hR; have hly := lt_of_cell y0; have hlt := lt_of_cell t0; have hlL := lt_of_cell L0)
  go_wp2_with fail
  have hR2 := three_set (.int .i64 0) (.int .i64 0) (.slice none 0 0) hR
  have ER2 := ((E3.set (p := ⟨w.heap.size + 1 + 1 + 1, 0, none⟩) (le3 _) (.int .i64 0)).set (p := ⟨w.heap.size + 1 + 1 + 1, 1, none⟩) (le3 _) (.int .i64 0)).set (p := ⟨w.heap.size + 1 + 1 + 1, 2, none⟩) (le3 _) (.slice none 0 0)
  generalize (((w1.setCell ⟨w.heap.size + 1 + 1 + 1, 0, none⟩ (.int .i64 0)).setCell ⟨w.heap.size + 1 + 1 + 1, 1, none⟩ (.int .i64 0)).setCell ⟨w.heap.size + 1 + 1 + 1, 2, none⟩ (.slice none 0 0)) = WF at *
  have n0 : WF.cell? ⟨w.heap.size + 1 + 1 + 1, 0, none⟩ = some (.int .i64 0) := World.news_of_block hR2 0 _ rfl
  have n1 : WF.cell? ⟨w.heap.size + 1 + 1 + 1, 1, none⟩ = some (.int .i64 0) := World.news_of_block hR2 1 _ rfl
  have n2 : WF.cell? ⟨w.heap.size + 1 + 1 + 1, 2, none⟩ = some (.slice none 0 0) := World.news_of_block hR2 2 _ rfl
  refine bodyPost_ret (v := poseEV (0, 0) (.slice none 0 0) PE) (by simp [results, Try.results25, go_sem, n0, n1, n2, poseEV]) rfl ?_
  rw [← HPo.out]
  unfold StepR
  rw [HR.out]
  exact ⟨_, rfl, .inl ⟨none, 0, rfl, rfl⟩, (fun g hg => by simp [Value.ownBlock] at hg), ER2⟩
set_option maxRecDepth 100000 in
set_option maxHeartbeats 6400000 in
theorem RStep_lead (o1 o2 l1 l2 : Int) (w : World) (hs : Sl 11 RUnit w vu v.units) (hp : Pts w vp ps) (hst : Sl 1 RNum w vst st) (h : poseE v (o1, o2) ps = 0) (h2 : okPt (l1, l2) = false) :
    Calls Try.prog 25 #[vehV v vu, poseV (o1, o2) vp, .agg #[.int .i64 l1, .int .i64 l2], vst] w (StepR v (o1, o2) ps (l1, l2) st w) := by
  have CC := fun w' (h : Ext w w') => RCheckPose_c (lead := (o1, o2)) w' (hs.ext RUnit.stable h) (hp.ext h)
  rw [h] at CC
  have C1 := fun w => Is_c l1 l2 w
  rw [h2] at C1
  have HR := Lib.hid (stepS_lead (st := st) h h2)
  obtain ⟨A, cap, rfl, hl, hl2⟩ := hs.shape
  obtain ⟨Ap, capp, rfl⟩ := pts_shape hp
  obtain ⟨As, caps, rfl, hls, hls2⟩ := hst.shape
  obtain ⟨Post, hPost⟩ : ∃ Post, StepR v (o1, o2) ps (l1, l2) st w = Post := ⟨_, rfl⟩
  rw [hPost]
  have HPo := Lib.hid hPost
  unfold vehV poseV at *
  simp only at CC ⊢
  replace CC := Lib.hid CC
  replace C1 := Lib.hid C1
  clear hs hp hst h hPost
  go_enter Try.func25, Try.ntmps25
  go_upto_region 5 with (first | (go_at_call 15; refine (CC.out _ (by (repeat' (first | exact Ext.refl _ | assumption | refine Ext.alloc ?_ _ | refine Ext.drew ?_ | refine Ext.drewN ?_ _ | refine Ext.set ?_ (by first | exact Nat.le_refl _ | exact le1 _ | exact le2 _ | exact le3 _ | exact le4 _ | exact le5 _ | exact le6 _) _ | refine Ext.trans ?_ (by assumption))))).mono ?_; rintro e w1 ⟨rfl, hb⟩; have y0 := Ext.cell hb (p := ⟨w.heap.size, 0, none⟩) (v := .string v.name) (by go_simp); have y1 := Ext.cell hb (p := ⟨w.heap.size, 1, none⟩) (v := .slice A v.units.length cap) (by go_simp); have y2 := Ext.cell hb (p := ⟨w.heap.size, 2, none⟩) (v := .int .i64 v.first) (by go_simp); have y3 := Ext.cell hb (p := ⟨w.heap.size, 3, none⟩) (v := .int .i64 v.last) (by go_simp); have t0 := Ext.cell hb (p := ⟨w.heap.size + 1, 0, none⟩) (v := .int .i64 o1) (by go_simp); have t1 := Ext.cell hb (p := ⟨w.heap.size + 1, 1, none⟩) (v := .int .i64 o2) (by go_simp); have t2 := Ext.cell hb (p := ⟨w.heap.size + 1, 2, none⟩) (v := .slice Ap ps.length capp) (by go_simp); have L0 := Ext.cell hb (p := ⟨w.heap.size + 1 + 1, 0, none⟩) (v := .int .i64 l1) (by go_simp); have L1 := Ext.cell hb (p := ⟨w.heap.size + 1 + 1, 1, none⟩) (v := .int .i64 l2) (by go_simp); have hR : w1.heap[w.heap.size + 1 + 1 + 1]? = some (.cells #[.int .i64 0, .int .i64 0, .slice none 0 0] 29 (0, 0)) := (hb.block _ (by simp)).trans (new_at (by simp)); have E3 : Ext w w1 := (((((Ext.refl w).alloc _).alloc _).alloc _).alloc _).trans hb; clear hb) | (go_at_call 47; refine (C1.out _).mono ?_; rintro e w2 ⟨rfl, hb⟩; replace y0 := Ext.cell hb y0; replace y1 := Ext.cell hb y1; replace y2 := Ext.cell hb y2; replace y3 := Ext.cell hb y3; replace t0 := Ext.cell hb t0; replace t1 := Ext.cell hb t1; replace t2 := Ext.cell hb t2; replace L0 := Ext.cell hb L0; replace L1 := Ext.cell hb L1; replace hR := hb.blk hR; replace E3 := E3.trans hb; clear hb; have r0 : w2.cell? ⟨w.heap.size + 1 + 1 + 1, 0, none⟩ = some (.int .i64 0) := World.news_of_block hR 0 _ rfl; have r1 : w2.cell? ⟨w.heap.size + 1 + 1 + 1, 1, none⟩ = some (.int .i64 0) := World.news_of_block hR 1 _ rfl; have r2 : w2.cell? ⟨w.heap.size + 1 + 1 + 1, 2, none⟩ = some (.slice none 0 0) := World.news_of_block hR 2 _ rfl; have f0 := blk_frz hR 0; have f1 := blk_frz hR 1; have f2 := blk_frz hR 2; have hlR := fst_lt hR; have hly := lt_of_cell y0; have hlt := lt_of_cell t0; have hlL := lt_of_cell L0))
  go_wp2_with fail
  have hR2 := three_set (.int .i64 0) (.int .i64 0) (.slice none 0 0) hR
  have ER2 := ((E3.set (p := ⟨w.heap.size + 1 + 1 + 1, 0, none⟩) (le3 _) (.int .i64 0)).set (p := ⟨w.heap.size + 1 + 1 + 1, 1, none⟩) (le3 _) (.int .i64 0)).set (p := ⟨w.heap.size + 1 + 1 + 1, 2, none⟩) (le3 _) (.slice none 0 0)
  generalize (((w2.setCell ⟨w.heap.size + 1 + 1 + 1, 0, none⟩ (.int .i64 0)).setCell ⟨w.heap.size + 1 + 1 + 1, 1, none⟩ (.int .i64 0)).setCell ⟨w.heap.size + 1 + 1 + 1, 2, none⟩ (.slice none 0 0)) = WF at *
  have n0 : WF.cell? ⟨w.heap.size + 1 + 1 + 1, 0, none⟩ = some (.int .i64 0) := World.news_of_block hR2 0 _ rfl
  have n1 : WF.cell? ⟨w.heap.size + 1 + 1 + 1, 1, none⟩ = some (.int .i64 0) := World.news_of_block hR2 1 _ rfl
  have n2 : WF.cell? ⟨w.heap.size + 1 + 1 + 1, 2, none⟩ = some (.slice none 0 0) := World.news_of_block hR2 2 _ rfl
  refine bodyPost_ret (v := poseEV (0, 0) (.slice none 0 0) 2) (by simp [results, Try.results25, go_sem, n0, n1, n2, poseEV]) rfl ?_
  rw [← HPo.out]
  unfold StepR
  rw [HR.out]
  exact ⟨_, rfl, .inl ⟨none, 0, rfl, rfl⟩, (fun g hg => by simp [Value.ownBlock] at hg), ER2⟩
set_option maxRecDepth 100000 in
set_option maxHeartbeats 6400000 in
theorem RStep_steer (o1 o2 l1 l2 : Int) (w : World) (hs : Sl 11 RUnit w vu v.units) (hp : Pts w vp ps) (hst : Sl 1 RNum w vst st) (h : poseE v (o1, o2) ps = 0) (h2 : okPt (l1, l2) = true) (h3 : ¬ steerE v st = 0) :
    Calls Try.prog 25 #[vehV v vu, poseV (o1, o2) vp, .agg #[.int .i64 l1, .int .i64 l2], vst] w (StepR v (o1, o2) ps (l1, l2) st w) := by
  have CC := fun w' (h : Ext w w') => RCheckPose_c (lead := (o1, o2)) w' (hs.ext RUnit.stable h) (hp.ext h)
  rw [h] at CC
  have C1 := fun w => Is_c l1 l2 w
  rw [h2] at C1
  have C2 := fun w' (h' : Ext w w') => Rsteering_c vu vst v st w' (hs.ext RUnit.stable h') (hst.ext RNum.stable h') (puts_len h).2.1
  have HR := Lib.hid (stepS_steer h h2 h3)
  obtain ⟨A, cap, rfl, hl, hl2⟩ := hs.shape
  obtain ⟨Ap, capp, rfl⟩ := pts_shape hp
  obtain ⟨As, caps, rfl, hls, hls2⟩ := hst.shape
  obtain ⟨Post, hPost⟩ : ∃ Post, StepR v (o1, o2) ps (l1, l2) st w = Post := ⟨_, rfl⟩
  rw [hPost]
  have HPo := Lib.hid hPost
  unfold vehV poseV at *
  simp only at CC C2 ⊢
  have HN := h3
  generalize steerE v st = SE at *
  replace CC := Lib.hid CC
  replace C1 := Lib.hid C1
  replace C2 := Lib.hid C2
  clear hs hp hst h h3 hPost
  go_enter Try.func25, Try.ntmps25
  go_upto_region 8 with (first | (go_at_call 15; refine (CC.out _ (by (repeat' (first | exact Ext.refl _ | assumption | refine Ext.alloc ?_ _ | refine Ext.drew ?_ | refine Ext.drewN ?_ _ | refine Ext.set ?_ (by first | exact Nat.le_refl _ | exact le1 _ | exact le2 _ | exact le3 _ | exact le4 _ | exact le5 _ | exact le6 _) _ | refine Ext.trans ?_ (by assumption))))).mono ?_; rintro e w1 ⟨rfl, hb⟩; have y0 := Ext.cell hb (p := ⟨w.heap.size, 0, none⟩) (v := .string v.name) (by go_simp); have y1 := Ext.cell hb (p := ⟨w.heap.size, 1, none⟩) (v := .slice A v.units.length cap) (by go_simp); have y2 := Ext.cell hb (p := ⟨w.heap.size, 2, none⟩) (v := .int .i64 v.first) (by go_simp); have y3 := Ext.cell hb (p := ⟨w.heap.size, 3, none⟩) (v := .int .i64 v.last) (by go_simp); have t0 := Ext.cell hb (p := ⟨w.heap.size + 1, 0, none⟩) (v := .int .i64 o1) (by go_simp); have t1 := Ext.cell hb (p := ⟨w.heap.size + 1, 1, none⟩) (v := .int .i64 o2) (by go_simp); have t2 := Ext.cell hb (p := ⟨w.heap.size + 1, 2, none⟩) (v := .slice Ap ps.length capp) (by go_simp); have L0 := Ext.cell hb (p := ⟨w.heap.size + 1 + 1, 0, none⟩) (v := .int .i64 l1) (by go_simp); have L1 := Ext.cell hb (p := ⟨w.heap.size + 1 + 1, 1, none⟩) (v := .int .i64 l2) (by go_simp); have hR : w1.heap[w.heap.size + 1 + 1 + 1]? = some (.cells #[.int .i64 0, .int .i64 0, .slice none 0 0] 29 (0, 0)) := (hb.block _ (by simp)).trans (new_at (by simp)); have E3 : Ext w w1 := (((((Ext.refl w).alloc _).alloc _).alloc _).alloc _).trans hb; clear hb) | (go_at_call 47; refine (C1.out _).mono ?_; rintro e w2 ⟨rfl, hb⟩; replace y0 := Ext.cell hb y0; replace y1 := Ext.cell hb y1; replace y2 := Ext.cell hb y2; replace y3 := Ext.cell hb y3; replace t0 := Ext.cell hb t0; replace t1 := Ext.cell hb t1; replace t2 := Ext.cell hb t2; replace L0 := Ext.cell hb L0; replace L1 := Ext.cell hb L1; replace hR := hb.blk hR; replace E3 := E3.trans hb; clear hb) | (go_at_call 60; refine (C2.out _ E3).mono ?_; rintro e w3 ⟨rfl, hb⟩; replace y0 := Ext.cell hb y0; replace y1 := Ext.cell hb y1; replace y2 := Ext.cell hb y2; replace y3 := Ext.cell hb y3; replace t0 := Ext.cell hb t0; replace t1 := Ext.cell hb t1; replace t2 := Ext.cell hb t2; replace L0 := Ext.cell hb L0; replace L1 := Ext.cell hb L1; replace hR := hb.blk hR; replace E3 := E3.trans hb; clear hb; have r0 : w3.cell? ⟨w.heap.size + 1 + 1 + 1, 0, none⟩ = some (.int .i64 0) := World.news_of_block hR 0 _ rfl; have r1 : w3.cell? ⟨w.heap.size + 1 + 1 + 1, 1, none⟩ = some (.int .i64 0) := World.news_of_block hR 1 _ rfl; have r2 : w3.cell? ⟨w.heap.size + 1 + 1 + 1, 2, none⟩ = some (.slice none 0 0) := World.news_of_block hR 2 _ rfl; have f0 := blk_frz hR 0; have f1 := blk_frz hR 1; have f2 := blk_frz hR 2; have hlR := fst_lt hR; have hly := lt_of_cell y0; have hlt := lt_of_cell t0; have hlL := lt_of_cell L0))
  go_wp2_with fail
  have hR2 := three_set (.int .i64 0) (.int .i64 0) (.slice none 0 0) hR
  have ER2 := ((E3.set (p := ⟨w.heap.size + 1 + 1 + 1, 0, none⟩) (le3 _) (.int .i64 0)).set (p := ⟨w.heap.size + 1 + 1 + 1, 1, none⟩) (le3 _) (.int .i64 0)).set (p := ⟨w.heap.size + 1 + 1 + 1, 2, none⟩) (le3 _) (.slice none 0 0)
  generalize (((w3.setCell ⟨w.heap.size + 1 + 1 + 1, 0, none⟩ (.int .i64 0)).setCell ⟨w.heap.size + 1 + 1 + 1, 1, none⟩ (.int .i64 0)).setCell ⟨w.heap.size + 1 + 1 + 1, 2, none⟩ (.slice none 0 0)) = WF at *
  have n0 : WF.cell? ⟨w.heap.size + 1 + 1 + 1, 0, none⟩ = some (.int .i64 0) := World.news_of_block hR2 0 _ rfl
  have n1 : WF.cell? ⟨w.heap.size + 1 + 1 + 1, 1, none⟩ = some (.int .i64 0) := World.news_of_block hR2 1 _ rfl
  have n2 : WF.cell? ⟨w.heap.size + 1 + 1 + 1, 2, none⟩ = some (.slice none 0 0) := World.news_of_block hR2 2 _ rfl
  refine bodyPost_ret (v := poseEV (0, 0) (.slice none 0 0) SE) (by simp [results, Try.results25, go_sem, n0, n1, n2, poseEV]) rfl ?_
  rw [← HPo.out]
  unfold StepR
  rw [HR.out]
  exact ⟨_, rfl, .inl ⟨none, 0, rfl, rfl⟩, (fun g hg => by simp [Value.ownBlock] at hg), ER2⟩
set_option maxRecDepth 100000 in
set_option maxHeartbeats 6400000 in
theorem RStep_go (o1 o2 l1 l2 : Int) (w : World) (hs : Sl 11 RUnit w vu v.units) (hp : Pts w vp ps) (hst : Sl 1 RNum w vst st) (h : poseE v (o1, o2) ps = 0) (h2 : okPt (l1, l2) = true) (h3 : steerE v st = 0) :
    Calls Try.prog 25 #[vehV v vu, poseV (o1, o2) vp, .agg #[.int .i64 l1, .int .i64 l2], vst] w (StepR v (o1, o2) ps (l1, l2) st w) := by
  have CC := fun w' (h : Ext w w') => RCheckPose_c (lead := (o1, o2)) w' (hs.ext RUnit.stable h) (hp.ext h)
  rw [h] at CC
  have C1 := fun w => Is_c l1 l2 w
  rw [h2] at C1
  have C2 := fun w' (h' : Ext w w') => Rsteering_c vu vst v st w' (hs.ext RUnit.stable h') (hst.ext RNum.stable h') (puts_len h).2.1
  rw [h3] at C2
  have CR := fun w' (he : Ext w w') vq pq (hq : Pts w' vq pq) => RCheckPose_c (v := v) (lead := (l1, l2)) (vp := vq) (ps := pq) w' (hs.ext RUnit.stable he) hq
  obtain ⟨r, hr⟩ : ∃ r, stepN (l1, l2) v.units ps st = r := ⟨_, rfl⟩
  have HR := Lib.hid (stepS_go h h2 h3 hr)
  have HTL := Lib.hid hr
  have hpl := puts_len h
  have hsl := steer_len h3
  have HLEN := Lib.hid (And.intro hpl.2.2 (And.intro hsl.1 (vehE_len hpl.2.1)))
  have HV := Lib.hid (vehE_units hpl.2.1)
  have HSB := Lib.hid hsl.2
  have HPT := Lib.hid hp
  have HST := Lib.hid hst
  obtain ⟨A, cap, rfl, hl, hl2⟩ := hs.shape
  obtain ⟨Ap, capp, rfl⟩ := pts_shape hp
  obtain ⟨As, caps, rfl, hls, hls2⟩ := hst.shape
  obtain ⟨Post, hPost⟩ : ∃ Post, StepR v (o1, o2) ps (l1, l2) st w = Post := ⟨_, rfl⟩
  rw [hPost]
  have HPo := Lib.hid hPost
  unfold vehV poseV at *
  simp only at CC C2 CR ⊢
  obtain ⟨ex, hU⟩ := ucells hs
  have HU := Lib.hid hU
  replace CC := Lib.hid CC
  replace C1 := Lib.hid C1
  replace C2 := Lib.hid C2
  replace CR := Lib.hid CR
  clear hs hp hst h h2 h3 hPost hr hpl hsl hU
  go_enter Try.func25, Try.ntmps25
  go_upto_region 9 with (first | (go_at_call 15; refine (CC.out _ (by (repeat' (first | exact Ext.refl _ | assumption | refine Ext.alloc ?_ _ | refine Ext.drew ?_ | refine Ext.drewN ?_ _ | refine Ext.set ?_ (by first | exact Nat.le_refl _ | exact le1 _ | exact le2 _ | exact le3 _ | exact le4 _ | exact le5 _ | exact le6 _) _ | refine Ext.trans ?_ (by assumption))))).mono ?_; rintro e w1 ⟨rfl, hb⟩; have y0 := Ext.cell hb (p := ⟨w.heap.size, 0, none⟩) (v := .string v.name) (by go_simp); have y1 := Ext.cell hb (p := ⟨w.heap.size, 1, none⟩) (v := .slice A v.units.length cap) (by go_simp); have y2 := Ext.cell hb (p := ⟨w.heap.size, 2, none⟩) (v := .int .i64 v.first) (by go_simp); have y3 := Ext.cell hb (p := ⟨w.heap.size, 3, none⟩) (v := .int .i64 v.last) (by go_simp); have t0 := Ext.cell hb (p := ⟨w.heap.size + 1, 0, none⟩) (v := .int .i64 o1) (by go_simp); have t1 := Ext.cell hb (p := ⟨w.heap.size + 1, 1, none⟩) (v := .int .i64 o2) (by go_simp); have t2 := Ext.cell hb (p := ⟨w.heap.size + 1, 2, none⟩) (v := .slice Ap ps.length capp) (by go_simp); have L0 := Ext.cell hb (p := ⟨w.heap.size + 1 + 1, 0, none⟩) (v := .int .i64 l1) (by go_simp); have L1 := Ext.cell hb (p := ⟨w.heap.size + 1 + 1, 1, none⟩) (v := .int .i64 l2) (by go_simp); have hR : w1.heap[w.heap.size + 1 + 1 + 1]? = some (.cells #[.int .i64 0, .int .i64 0, .slice none 0 0] 29 (0, 0)) := (hb.block _ (by simp)).trans (new_at (by simp)); have E3 : Ext w w1 := (((((Ext.refl w).alloc _).alloc _).alloc _).alloc _).trans hb; clear hb) | (go_at_call 47; refine (C1.out _).mono ?_; rintro e w2 ⟨rfl, hb⟩; replace y0 := Ext.cell hb y0; replace y1 := Ext.cell hb y1; replace y2 := Ext.cell hb y2; replace y3 := Ext.cell hb y3; replace t0 := Ext.cell hb t0; replace t1 := Ext.cell hb t1; replace t2 := Ext.cell hb t2; replace L0 := Ext.cell hb L0; replace L1 := Ext.cell hb L1; replace hR := hb.blk hR; replace E3 := E3.trans hb; clear hb) | (go_at_call 60; refine (C2.out _ E3).mono ?_; rintro e w3 ⟨rfl, hb⟩; replace y0 := Ext.cell hb y0; replace y1 := Ext.cell hb y1; replace y2 := Ext.cell hb y2; replace y3 := Ext.cell hb y3; replace t0 := Ext.cell hb t0; replace t1 := Ext.cell hb t1; replace t2 := Ext.cell hb t2; replace L0 := Ext.cell hb L0; replace L1 := Ext.cell hb L1; replace hR := hb.blk hR; replace E3 := E3.trans hb; clear hb; have r0 : w3.cell? ⟨w.heap.size + 1 + 1 + 1, 0, none⟩ = some (.int .i64 0) := World.news_of_block hR 0 _ rfl; have r1 : w3.cell? ⟨w.heap.size + 1 + 1 + 1, 1, none⟩ = some (.int .i64 0) := World.news_of_block hR 1 _ rfl; have r2 : w3.cell? ⟨w.heap.size + 1 + 1 + 1, 2, none⟩ = some (.slice none 0 0) := World.news_of_block hR 2 _ rfl; have f0 := blk_frz hR 0; have f1 := blk_frz hR 1; have f2 := blk_frz hR 2; have hlR := fst_lt hR; have hly := lt_of_cell y0; have hlt := lt_of_cell t0; have hlL := lt_of_cell L0))
  go_upto_region 11 with fail
  have h34 : Ext w3 ((w3.alloc (.cells #[.int .i64 l1, .int .i64 l2, .slice none 0 0] 29)).alloc (.cells #[.int .i64 l1, .int .i64 l2] 26)) := ((Ext.refl w3).alloc _).alloc _
  have hP4 : ((w3.alloc (.cells #[.int .i64 l1, .int .i64 l2, .slice none 0 0] 29)).alloc (.cells #[.int .i64 l1, .int .i64 l2] 26)).heap[w3.heap.size]? = some (.cells #[.int .i64 l1, .int .i64 l2, .slice none 0 0] 29 (0, 0)) := heap_old (new_at rfl)
  have hJ4 : ((w3.alloc (.cells #[.int .i64 l1, .int .i64 l2, .slice none 0 0] 29)).alloc (.cells #[.int .i64 l1, .int .i64 l2] 26)).heap[w3.heap.size + 1]? = some (.cells #[.int .i64 l1, .int .i64 l2] 26 (0, 0)) := new_at (by simp)
  have hz4 : w3.heap.size + 1 < ((w3.alloc (.cells #[.int .i64 l1, .int .i64 l2, .slice none 0 0] 29)).alloc (.cells #[.int .i64 l1, .int .i64 l2] 26)).heap.size := by simp
  generalize ((w3.alloc (.cells #[.int .i64 l1, .int .i64 l2, .slice none 0 0] 29)).alloc (.cells #[.int .i64 l1, .int .i64 l2] 26)) = W4 at *
  have y1q := Ext.cell h34 y1
  clear r0 r1 r2 f0 f1 f2
  go_wp2_with fail
  go_loopw [13] (fun i wr => ∃ (k : Nat) (pre : List Pt) (vs : Value) (jt : Pt), k ≤ v.units.length ∧ i = .int .i64 k ∧ pre.length = k ∧ wr.heap[w3.heap.size]? = some (.cells #[.int .i64 l1, .int .i64 l2, vs] 29 (0, 0)) ∧ OwnP (w3.heap.size + 1 + 1) wr vs pre ∧ wr.heap[w3.heap.size + 1]? = some (.cells #[.int .i64 jt.1, .int .i64 jt.2] 26 (0, 0)) ∧ (pre ++ (stepN jt (v.units.drop k) (ps.drop k) (st.drop k)).1, (stepN jt (v.units.drop k) (ps.drop k) (st.drop k)).2) = r ∧ Ext w3 wr) (fun i _ => v.units.length - (intOf i).toNat)
  case atStart => exact ⟨0, [], .slice none 0 0, (l1, l2), by omega, rfl, rfl, hP4, OwnP.nil _ _, hJ4, by simp only [List.drop_zero, List.nil_append]; rw [HTL.out], h34⟩
  case round =>
    obtain ⟨k, pre, vs, jt, hk, rfl, hpl, hP, hO, hJ, hT, E⟩ := hrel
    clear hP4 hJ4 h34 y1q
    have EW := E3.trans E
    have hs := E.sz
    obtain ⟨A9, c9, rfl⟩ := own_len hO
    have y1r := Ext.cell E y1
    have hl12 : v.units.length ≤ 12 := by have := HLEN.out; omega
    by_cases hlt : k < v.units.length
    case neg =>
      have hkn : k = v.units.length := by omega
      have hT2 : (pre, 0) = r := by rw [List.drop_eq_nil_of_le (show v.units.length ≤ k by omega), stepN_nil] at hT; simpa using hT
      subst hT2
      have C9 := fun w' (he : Ext w3 w') (hq : Pts w' (.slice A9 pre.length c9) pre) => CR.out w' (E3.trans he) (.slice A9 pre.length c9) pre hq
      have hO9 := hO.pts
      have hR9 := E.blk hR
      have y0z := Ext.cell E y0
      have y2z := Ext.cell E y2
      have y3z := Ext.cell E y3
      have q0 : wr.cell? ⟨w3.heap.size, 0, none⟩ = some (.int .i64 l1) := World.news_of_block hP 0 _ rfl
      have q1 : wr.cell? ⟨w3.heap.size, 1, none⟩ = some (.int .i64 l2) := World.news_of_block hP 1 _ rfl
      have q2 : wr.cell? ⟨w3.heap.size, 2, none⟩ = some (.slice A9 pre.length c9) := World.news_of_block hP 2 _ rfl
      have hlq := lt_of_cell q0
      have HO9 := Lib.hid hO9
      have HOZ := Lib.hid hO
      have ERZ := E3.trans E
      have hli : ¬ (k : Int) < (v.units.length : Int) := by omega
      unfold poseEV at *
      clear hO9 hO hP hJ hT hkn hlt hk hpl
      by_cases h9 : poseE v (l1, l2) pre = 0
      · rw [h9] at C9
        replace C9 := Lib.hid C9
        have H9 := Lib.hid h9
        clear h9
        go_wp2_with (go_at_call 15; refine (C9.out _ E (HO9.out)).mono ?_; rintro e wd ⟨rfl, hbd⟩; replace hR9 := hbd.blk hR9; have r0 : wd.cell? ⟨w.heap.size + 1 + 1 + 1, 0, none⟩ = some (.int .i64 0) := World.news_of_block hR9 0 _ rfl; have r1 : wd.cell? ⟨w.heap.size + 1 + 1 + 1, 1, none⟩ = some (.int .i64 0) := World.news_of_block hR9 1 _ rfl; have r2 : wd.cell? ⟨w.heap.size + 1 + 1 + 1, 2, none⟩ = some (.slice none 0 0) := World.news_of_block hR9 2 _ rfl; have f0 := blk_frz hR9 0; have f1 := blk_frz hR9 1; have f2 := blk_frz hR9 2; have ED := ERZ.trans hbd; replace q0 := Ext.cell hbd q0; replace q1 := Ext.cell hbd q1; replace q2 := Ext.cell hbd q2)
        have hR2 := three_set (.int .i64 l1) (.int .i64 l2) (.slice A9 pre.length c9) hR9
        have ER2 := ((ED.set (p := ⟨w.heap.size + 1 + 1 + 1, 0, none⟩) (le3 _) (.int .i64 l1)).set (p := ⟨w.heap.size + 1 + 1 + 1, 1, none⟩) (le3 _) (.int .i64 l2)).set (p := ⟨w.heap.size + 1 + 1 + 1, 2, none⟩) (le3 _) (.slice A9 pre.length c9)
        have HOd := HOZ.out.ext hbd
        have hn9 : (Value.slice A9 pre.length c9).ownBlock ≠ some (w.heap.size + 1 + 1 + 1) := own_ne HOd (by have := fst_lt hR; omega)
        have HOF : OwnP (w3.heap.size + 1 + 1) (((wd.setCell ⟨w.heap.size + 1 + 1 + 1, 0, none⟩ (.int .i64 l1)).setCell ⟨w.heap.size + 1 + 1 + 1, 1, none⟩ (.int .i64 l2)).setCell ⟨w.heap.size + 1 + 1 + 1, 2, none⟩ (.slice A9 pre.length c9)) (.slice A9 pre.length c9) pre := own_set (own_set (own_set HOd hn9) hn9) hn9
        generalize (((wd.setCell ⟨w.heap.size + 1 + 1 + 1, 0, none⟩ (.int .i64 l1)).setCell ⟨w.heap.size + 1 + 1 + 1, 1, none⟩ (.int .i64 l2)).setCell ⟨w.heap.size + 1 + 1 + 1, 2, none⟩ (.slice A9 pre.length c9)) = WF at *
        have n0 : WF.cell? ⟨w.heap.size + 1 + 1 + 1, 0, none⟩ = some (.int .i64 l1) := World.news_of_block hR2 0 _ rfl
        have n1 : WF.cell? ⟨w.heap.size + 1 + 1 + 1, 1, none⟩ = some (.int .i64 l2) := World.news_of_block hR2 1 _ rfl
        have n2 : WF.cell? ⟨w.heap.size + 1 + 1 + 1, 2, none⟩ = some (.slice A9 pre.length c9) := World.news_of_block hR2 2 _ rfl
        refine bodyPost_ret (v := poseEV (l1, l2) (.slice A9 pre.length c9) 0) (by simp [results, Try.results25, go_sem, n0, n1, n2, poseEV]) rfl ?_
        rw [← HPo.out]
        unfold StepR
        rw [HR.out, if_pos trivial, if_pos H9.out]
        exact ⟨_, rfl, HOF.pts, (fun g hg => by have h7 := own_ge HOF g hg; have h8 := E3.sz; omega), ER2⟩
      · obtain ⟨PE, hPE⟩ : ∃ PE, poseE v (l1, l2) pre = PE := ⟨_, rfl⟩
        rw [hPE] at C9 h9
        have HPE := Lib.hid hPE
        clear hPE
        replace C9 := Lib.hid C9
        have H9 := Lib.hid h9
        go_wp2_with (go_at_call 15; refine (C9.out _ E (HO9.out)).mono ?_; rintro e wd ⟨rfl, hbd⟩; replace hR9 := hbd.blk hR9; have r0 : wd.cell? ⟨w.heap.size + 1 + 1 + 1, 0, none⟩ = some (.int .i64 0) := World.news_of_block hR9 0 _ rfl; have r1 : wd.cell? ⟨w.heap.size + 1 + 1 + 1, 1, none⟩ = some (.int .i64 0) := World.news_of_block hR9 1 _ rfl; have r2 : wd.cell? ⟨w.heap.size + 1 + 1 + 1, 2, none⟩ = some (.slice none 0 0) := World.news_of_block hR9 2 _ rfl; have f0 := blk_frz hR9 0; have f1 := blk_frz hR9 1; have f2 := blk_frz hR9 2; have ED := ERZ.trans hbd; replace q0 := Ext.cell hbd q0; replace q1 := Ext.cell hbd q1; replace q2 := Ext.cell hbd q2)
        have hR2 := three_set (.int .i64 0) (.int .i64 0) (.slice none 0 0) hR9
        have ER2 := ((ED.set (p := ⟨w.heap.size + 1 + 1 + 1, 0, none⟩) (le3 _) (.int .i64 0)).set (p := ⟨w.heap.size + 1 + 1 + 1, 1, none⟩) (le3 _) (.int .i64 0)).set (p := ⟨w.heap.size + 1 + 1 + 1, 2, none⟩) (le3 _) (.slice none 0 0)
        generalize (((wd.setCell ⟨w.heap.size + 1 + 1 + 1, 0, none⟩ (.int .i64 0)).setCell ⟨w.heap.size + 1 + 1 + 1, 1, none⟩ (.int .i64 0)).setCell ⟨w.heap.size + 1 + 1 + 1, 2, none⟩ (.slice none 0 0)) = WF at *
        have n0 : WF.cell? ⟨w.heap.size + 1 + 1 + 1, 0, none⟩ = some (.int .i64 0) := World.news_of_block hR2 0 _ rfl
        have n1 : WF.cell? ⟨w.heap.size + 1 + 1 + 1, 1, none⟩ = some (.int .i64 0) := World.news_of_block hR2 1 _ rfl
        have n2 : WF.cell? ⟨w.heap.size + 1 + 1 + 1, 2, none⟩ = some (.slice none 0 0) := World.news_of_block hR2 2 _ rfl
        refine bodyPost_ret (v := poseEV (0, 0) (.slice none 0 0) 9) (by simp [results, Try.results25, go_sem, n0, n1, n2, poseEV]) rfl ?_
        rw [← HPo.out]
        unfold StepR
        rw [HR.out, if_pos trivial, if_neg (by rw [HPE.out]; exact H9.out)]
        exact ⟨_, rfl, .inl ⟨none, 0, rfl, rfl⟩, (fun g hg => by simp [Value.ownBlock] at hg), ER2⟩
    case pos =>
      obtain ⟨u, hu⟩ := some_of_lt hlt
      obtain ⟨⟨a1, a2⟩, ha⟩ := some_of_lt (show k < ps.length by have := HLEN.out; omega)
      obtain ⟨s, hsx⟩ := some_of_lt (show k < st.length by have := HLEN.out; omega)
      obtain ⟨b, off, rfl, hax, hc⟩ := HU.out.at' k u hu
      obtain ⟨pb, poff, rfl, p0, p1⟩ := pts_at HPT.out ha
      obtain ⟨sb, soff, css, rfl, _, ⟨rfl, _, _⟩, hcs⟩ := HST.out.at hsx
      have hvu := HV.out u (mem_of_some hu)
      have hmost := unit_most hvu
      have hsr := steerB_at HSB.out hu hsx
      rw [drop_some hu, drop_some ha, drop_some hsx] at hT
      obtain ⟨p, hp⟩ : ∃ p, pullTS jt (a1, a2) (pulledN u) s = p := ⟨_, rfl⟩
      obtain ⟨j, hj⟩ : ∃ j, placeS p.1 jt (rearN u) 0 = j := ⟨_, rfl⟩
      rw [stepN_step hp hj] at hT
      obtain ⟨j1, j2⟩ := jt
      have CU := fun w' (he : Ext w w') => Rpulled_c (.slice (ex k).1 u.axles.length (ex k).2) u w' hvu (hax.ext RAxle.stable he)
      have CPl := fun w' => RpullT_c j1 j2 a1 a2 (pulledN u) s w' (by omega) (by omega)
      rw [hp] at CPl
      have CE := fun w' (he : Ext w w') => rear_c (.slice (ex k).1 u.axles.length (ex k).2) u w' hvu (hax.ext RAxle.stable he)
      have CJ := fun w' => RPlace_c p.1.1 p.1.2 j1 j2 (rearN u) 0 w'
      have hj2 : placeS (p.1.1, p.1.2) (j1, j2) (rearN u) 0 = j := hj
      rw [hj2] at CJ
      generalize pulledN u = PU at *
      generalize rearN u = RN at *
      have k0 := Ext.cell EW (hc 0 _ rfl)
      have k1 := Ext.cell EW (hc 1 _ rfl)
      have k2 := Ext.cell EW (hc 2 _ rfl)
      have k3 := Ext.cell EW (hc 3 _ rfl)
      have k4 := Ext.cell EW (hc 4 _ rfl)
      have k5 := Ext.cell EW (hc 5 _ rfl)
      have k6 := Ext.cell EW (hc 6 _ rfl)
      have k7 := Ext.cell EW (hc 7 _ rfl)
      have k8 := Ext.cell EW (hc 8 _ rfl)
      have k9 := Ext.cell EW (hc 9 _ rfl)
      have k10 := Ext.cell EW (hc 10 _ rfl)
      simp only [Nat.add_zero] at k0
      have s0 := Ext.cell EW (hcs 0 _ rfl)
      simp only [Nat.add_zero, Nat.mul_one] at s0
      replace p0 := Ext.cell EW p0
      replace p1 := Ext.cell EW p1
      have t2r := Ext.cell E t2
      have HCU := Lib.hid CU
      have HCP := Lib.hid CPl
      have HCE := Lib.hid CE
      have HCJ := Lib.hid CJ
      have HTT := Lib.hid hT
      have HOO := Lib.hid hO
      have HPL := Lib.hid hpl
      have hpl12 : pre.length ≤ 12 := by omega
      have hrow : ∀ n, wr.heap.size ≤ n → (Value.slice A9 pre.length c9).ownBlock ≠ some n := fun n hn e => by have := row_lt hO e; omega
      have hroj : (Value.slice A9 pre.length c9).ownBlock ≠ some (w3.heap.size + 1) := own_ne hO (Nat.lt_succ_self _)
      have HROW := Lib.hid hrow
      have HROJ := Lib.hid hroj
      have i1 : (0 : Int) ≤ (k : Int) := by omega
      have i2 : (k : Int) < (v.units.length : Int) := by omega
      have i3 : (k : Int) < (ps.length : Int) := by have := HLEN.out; omega
      have i4 : (k : Int) < (st.length : Int) := by have := HLEN.out; omega
      have ew1 := IntWalk.i64_in ((v.units.length : Int) - 1) (by omega)
      have ew2 := IntWalk.i64_in ((k : Int) + 1) (by omega)
      have hlJ := fst_lt hJ
      have hlP := fst_lt hP
      have hlk := lt_of_cell k0
      have hlp0 := lt_of_cell p0
      have hls0 := lt_of_cell s0
      have HLT := Lib.hid hlt
      have HCU0 := Lib.hid hc
      clear CU CPl CE CJ hT hvu hmost hsr hax hc hcs hu ha hsx hp hj hj2 hO hpl hrow hroj hk hlt
      go_upto_region 14 with fail
      have hJ7 := hJ
      have hP7 := hP
      have j0 : wr.cell? ⟨w3.heap.size + 1, 0, none⟩ = some (.int .i64 j1) := World.news_of_block hJ7 0 _ rfl
      have j00 : wr.cell? ⟨w3.heap.size + 1, 1, none⟩ = some (.int .i64 j2) := World.news_of_block hJ7 1 _ rfl
      go_cut [14, 15] from 37 to 95 (fun sa sb wc => ∃ t, sa = .pointer (some ⟨t, 0, none⟩) ∧ sb = .int .i64 p.2 ∧ Ext wr wc ∧ wr.heap.size ≤ t ∧ wc.heap[t]? = some (.cells #[.int .i64 p.1.1, .int .i64 p.1.2] 26 (0, 0)))
      case first =>
        go_region_held3 (fun w' => w'.cell? ⟨w3.heap.size + 1, 0, none⟩ = some (.int .i64 j1) ∧ w'.cell? ⟨w3.heap.size + 1, 1, none⟩ = some (.int .i64 j2) ∧ w'.cell? ⟨w.heap.size + 1, 2, none⟩ = some (.slice (some ⟨pb, poff, none⟩) ps.length capp) ∧ w'.cell? ⟨pb, poff + k * 2, none⟩ = some (.int .i64 a1) ∧ w'.cell? ⟨pb, poff + k * 2 + 1, none⟩ = some (.int .i64 a2) ∧ w'.cell? ⟨sb, soff + k, none⟩ = some (.int .i64 s) ∧ w'.cell? ⟨w.heap.size, 1, none⟩ = some (.slice (some ⟨b, off, none⟩) v.units.length cap) ∧ w'.cell? ⟨b, off + k * 11, none⟩ = some (.int .i64 u.kind) ∧ w'.cell? ⟨b, off + k * 11 + 1, none⟩ = some (.int .i64 u.length) ∧ w'.cell? ⟨b, off + k * 11 + 2, none⟩ = some (.int .i64 u.behind) ∧ w'.cell? ⟨b, off + k * 11 + 3, none⟩ = some (.int .i64 u.front) ∧ w'.cell? ⟨b, off + k * 11 + 4, none⟩ = some (.int .i64 u.rear) ∧ w'.cell? ⟨b, off + k * 11 + 5, none⟩ = some (.int .i64 u.width) ∧ w'.cell? ⟨b, off + k * 11 + 6, none⟩ = some (.int .i64 u.height) ∧ w'.cell? ⟨b, off + k * 11 + 7, none⟩ = some (.int .i64 u.mass) ∧ w'.cell? ⟨b, off + k * 11 + 8, none⟩ = some (.int .i64 u.steer) ∧ w'.cell? ⟨b, off + k * 11 + 9, none⟩ = some (.int .i64 u.most) ∧ w'.cell? ⟨b, off + k * 11 + 10, none⟩ = some (.slice (ex k).1 u.axles.length (ex k).2)) (refine ⟨?_, ?_, ?_, ?_, ?_, ?_, ?_, ?_, ?_, ?_, ?_, ?_, ?_, ?_, ?_, ?_, ?_, ?_⟩ <;> (repeat' (with_reducible (first | assumption | refine Ext.cell hbZ ?_ | refine Ext.cell hbE ?_ | refine Ext.cell (Ext.refl _).drew ?_ | refine cell_set_ne (by first | omega | (simp; omega)) ?_ | refine Ext.cell ((Ext.refl _).alloc _) ?_)))) (first
          | (go_at_call 49; refine (HCU.out _ (by (repeat' (first | exact Ext.refl _ | assumption | refine Ext.alloc ?_ _ | refine Ext.drew ?_ | refine Ext.drewN ?_ _ | refine Ext.set ?_ (by first | exact Nat.le_refl _ | exact le1 _ | exact le2 _ | exact le3 _ | exact le4 _ | exact le5 _ | exact le6 _) _ | refine Ext.trans ?_ (by assumption))))).mono ?_; rintro e wE ⟨rfl, hbE⟩; have zE := (show Ext wr wE from by (repeat' (first | exact Ext.refl _ | assumption | refine Ext.alloc ?_ _ | refine Ext.drew ?_ | refine Ext.drewN ?_ _ | refine Ext.set ?_ (by first | exact Nat.le_refl _ | exact le1 _ | exact le2 _ | exact le3 _ | exact le4 _ | exact le5 _ | exact le6 _) _ | refine Ext.trans ?_ (by assumption)))).sz; (try (replace yW := (hbE.block _ (Array.getElem?_eq_some_iff.1 yW).1).trans yW)); (try (have yW : wE.heap[wr.heap.size]? = some (.cells #[.int .i64 0, .int .i64 0] 26 (0, 0)) := new_kept (W := wr.drew) hbE)); skip)
          | (go_at_call 61; refine (HCP.out _).mono ?_; rintro e wZ ⟨rfl, hbZ⟩; unfold ptV; have zZ := (show Ext wr wZ from by (repeat' (first | exact Ext.refl _ | assumption | refine Ext.alloc ?_ _ | refine Ext.drew ?_ | refine Ext.drewN ?_ _ | refine Ext.set ?_ (by first | exact Nat.le_refl _ | exact le1 _ | exact le2 _ | exact le3 _ | exact le4 _ | exact le5 _ | exact le6 _) _ | refine Ext.trans ?_ (by assumption)))).sz; (try (replace yE := (hbZ.block _ (Array.getElem?_eq_some_iff.1 yE).1).trans yE)); (try (replace yW := (hbZ.block _ (Array.getElem?_eq_some_iff.1 yW).1).trans yW)); (try (have yW : wZ.heap[wr.heap.size]? = some (.cells #[.int .i64 0, .int .i64 0] 26 (0, 0)) := new_kept (W := wr.drew) hbZ)); (try (have yE : wZ.heap[wE.heap.size]? = some (.cells #[.int .i64 0, .int .i64 0] 26 (0, 0)) := new_kept (W := wE) hbZ)); (try (have c0 : wZ.cell? ⟨wr.heap.size, 0, none⟩ = some (.int .i64 0) := World.news_of_block yW 0 _ rfl; have c1 : wZ.cell? ⟨wr.heap.size, 1, none⟩ = some (.int .i64 0) := World.news_of_block yW 1 _ rfl; have f0 := blk_frz yW 0; have f1 := blk_frz yW 1)); (try (have c0 : wZ.cell? ⟨wE.heap.size, 0, none⟩ = some (.int .i64 0) := World.news_of_block yE 0 _ rfl; have c1 : wZ.cell? ⟨wE.heap.size, 1, none⟩ = some (.int .i64 0) := World.news_of_block yE 1 _ rfl; have f0 := blk_frz yE 0; have f1 := blk_frz yE 1)); skip))
        all_goals
          go_wp2_with fail
          go_meet
          first
            | exact ⟨wZ.heap.size, rfl, rfl, by (repeat' (first | exact Ext.refl _ | assumption | refine Ext.alloc ?_ _ | refine Ext.drew ?_ | refine Ext.drewN ?_ _ | refine Ext.set ?_ (by first | exact Nat.le_refl _ | exact le1 _ | exact le2 _ | exact le3 _ | exact le4 _ | exact le5 _ | exact le6 _) _ | refine Ext.trans ?_ (by assumption))), zZ, World.alloc_heap_new wZ _⟩
            | exact ⟨wE.heap.size, rfl, rfl, ((show Ext wr wZ from by (repeat' (first | exact Ext.refl _ | assumption | refine Ext.alloc ?_ _ | refine Ext.drew ?_ | refine Ext.drewN ?_ _ | refine Ext.set ?_ (by first | exact Nat.le_refl _ | exact le1 _ | exact le2 _ | exact le3 _ | exact le4 _ | exact le5 _ | exact le6 _) _ | refine Ext.trans ?_ (by assumption)))).set (p := ⟨wE.heap.size, 0, none⟩) zE _).set (p := ⟨wE.heap.size, 1, none⟩) zE _, zE, two1 _ (two0 _ yE)⟩
            | exact ⟨wr.heap.size, rfl, rfl, ((show Ext wr wZ from by (repeat' (first | exact Ext.refl _ | assumption | refine Ext.alloc ?_ _ | refine Ext.drew ?_ | refine Ext.drewN ?_ _ | refine Ext.set ?_ (by first | exact Nat.le_refl _ | exact le1 _ | exact le2 _ | exact le3 _ | exact le4 _ | exact le5 _ | exact le6 _) _ | refine Ext.trans ?_ (by assumption)))).set (p := ⟨wr.heap.size, 0, none⟩) (Nat.le_refl _) _).set (p := ⟨wr.heap.size, 1, none⟩) (Nat.le_refl _) _, (Nat.le_refl _), two1 _ (two0 _ yW)⟩
      case rest =>
        obtain ⟨t, rfl, rfl, E8, ht, hTt⟩ := hcut
        generalize wc = W8 at *
        have E9 := E.trans E8
        have EW8 := E3.trans E9
        have hs78 := E8.sz
        by_cases hn : p.2 = 0
        case neg =>
          have hrj : r.2 = p.2 := by have h9 := HTT.out; rw [if_neg hn] at h9; rw [← h9]
          have ER := E3.trans E9
          have hR9 := (E9).blk hR
          have r0 : W8.cell? ⟨w.heap.size + 1 + 1 + 1, 0, none⟩ = some (.int .i64 0) := World.news_of_block hR9 0 _ rfl
          have r1 : W8.cell? ⟨w.heap.size + 1 + 1 + 1, 1, none⟩ = some (.int .i64 0) := World.news_of_block hR9 1 _ rfl
          have r2 : W8.cell? ⟨w.heap.size + 1 + 1 + 1, 2, none⟩ = some (.slice none 0 0) := World.news_of_block hR9 2 _ rfl
          have f0 := blk_frz hR9 0
          have f1 := blk_frz hR9 1
          have f2 := blk_frz hR9 2
          have HRJ := Lib.hid hrj
          have HNN := Lib.hid hn
          clear hrj
          go_wp2_with fail
          have hR2 := three_set (.int .i64 0) (.int .i64 0) (.slice none 0 0) hR9
          have ER2 := ((ER.set (p := ⟨w.heap.size + 1 + 1 + 1, 0, none⟩) (le3 _) (.int .i64 0)).set (p := ⟨w.heap.size + 1 + 1 + 1, 1, none⟩) (le3 _) (.int .i64 0)).set (p := ⟨w.heap.size + 1 + 1 + 1, 2, none⟩) (le3 _) (.slice none 0 0)
          generalize (((W8.setCell ⟨w.heap.size + 1 + 1 + 1, 0, none⟩ (.int .i64 0)).setCell ⟨w.heap.size + 1 + 1 + 1, 1, none⟩ (.int .i64 0)).setCell ⟨w.heap.size + 1 + 1 + 1, 2, none⟩ (.slice none 0 0)) = WF at *
          have n0 : WF.cell? ⟨w.heap.size + 1 + 1 + 1, 0, none⟩ = some (.int .i64 0) := World.news_of_block hR2 0 _ rfl
          have n1 : WF.cell? ⟨w.heap.size + 1 + 1 + 1, 1, none⟩ = some (.int .i64 0) := World.news_of_block hR2 1 _ rfl
          have n2 : WF.cell? ⟨w.heap.size + 1 + 1 + 1, 2, none⟩ = some (.slice none 0 0) := World.news_of_block hR2 2 _ rfl
          refine bodyPost_ret (v := poseEV (0, 0) (.slice none 0 0) p.2) (by simp [results, Try.results25, go_sem, n0, n1, n2, poseEV]) rfl ?_
          rw [← HPo.out]
          unfold StepR
          rw [HR.out, if_neg (by rw [HRJ.out]; exact HNN.out), HRJ.out]
          exact ⟨_, rfl, .inl ⟨none, 0, rfl, rfl⟩, (fun g hg => by simp [Value.ownBlock] at hg), ER2⟩
        case pos =>
          have HP0 := Lib.hid hn
          have hP8 := E8.blk hP7
          have hJ8 := E8.blk hJ7
          have hEr := E8
          have hO8 := HOO.out.ext hEr
          clear j0 j00 p0 p1 s0 t2r
          replace y1r := Ext.cell E8 y1r
          replace k0 := Ext.cell E8 k0
          replace k1 := Ext.cell E8 k1
          replace k2 := Ext.cell E8 k2
          replace k3 := Ext.cell E8 k3
          replace k4 := Ext.cell E8 k4
          replace k5 := Ext.cell E8 k5
          replace k6 := Ext.cell E8 k6
          replace k7 := Ext.cell E8 k7
          replace k8 := Ext.cell E8 k8
          replace k9 := Ext.cell E8 k9
          replace k10 := Ext.cell E8 k10
          have hlk8 := lt_of_cell k0
          obtain ⟨ip, hip, hz0, hz1, hz2⟩ := info_parts infoPoint
          have hsr := hEr.sz
          have hs3 := E9.sz
          have q2 : W8.cell? ⟨w3.heap.size, 2, none⟩ = some (.slice A9 pre.length c9) := World.news_of_block hP8 2 _ rfl
          have b0 : W8.cell? ⟨t, 0, none⟩ = some (.int .i64 p.1.1) := World.news_of_block hTt 0 _ rfl
          have b1 : W8.cell? ⟨t, 1, none⟩ = some (.int .i64 p.1.2) := World.news_of_block hTt 1 _ rfl
          have hltt := fst_lt hTt
          have hlj := fst_lt hJ8
          have hlpp := fst_lt hP8
          have hne9 : (Value.slice A9 pre.length c9).ownBlock ≠ some w3.heap.size := row_ne hO8 hP8 (fun cur e => by cases e)
          go_upto_region 18 with (at_builtin; refine wpList_append_lies _ rfl _ _ 27 rfl (w3.heap.size + 1 + 1) 26 ip _ 2 16 Try.underlying27 hip hz0 hz1 hz2 rfl (by omega) (.slice A9 pre.length c9) pre.length (flatP pre) rfl ((hO8.alloc _)) ⟨W8.heap.size, 0, none⟩ 1 1 [.int .i64 p.1.1, .int .i64 p.1.2] rfl rfl (World.news_of_block (cs := #[.int .i64 p.1.1, .int .i64 p.1.2]) (t := 26) (fr := (0, 0)) (heap_alloc_new _ _)) (by simp [Value.oneCell']) (by omega) (by unfold maxLen; omega) (by omega) (by simp; omega) (W8.heap.size + 1) (by simp) ?_; intro g8 cap8 w8 hown8 hgrow8 hat8 hlt8; have hP8n := (hgrow8.block w3.heap.size (by simp; omega) (fun e => hne9 e.symm)).trans (((Ext.refl W8).alloc _).blk hP8); have p28 : w8.cell? ⟨w3.heap.size, 2, none⟩ = some (.slice A9 pre.length c9) := World.news_of_block hP8n 2 _ rfl; have fp8 := blk_frz hP8n 2)
          have EG : Ext w3 w8 := Ext.grown (E9.alloc _) hgrow8 (fun g hg => by have := own_ge hO8 g hg; omega)
          have hT10 := (hgrow8.block t (by simp; omega) (fun e => HROW.out _ (by omega) e.symm)).trans (((Ext.refl W8).alloc (.cells #[.int .i64 p.1.1, .int .i64 p.1.2] 26)).blk hTt)
          have hJ10 := (hgrow8.block (w3.heap.size + 1) (by simp; omega) (fun e => HROJ.out e.symm)).trans (((Ext.refl W8).alloc (.cells #[.int .i64 p.1.1, .int .i64 p.1.2] 26)).blk hJ8)
          have EGs := EG.set (p := ⟨w3.heap.size, 2, none⟩) (Nat.le_refl _) (.slice (some ⟨g8, 0, none⟩) (pre.length + 1) cap8)
          have hP11 := blk_set 2 (.slice (some ⟨g8, 0, none⟩) (pre.length + 1) cap8) hP8n
          simp only [List.setIfInBounds_toArray, List.set_cons_zero, List.set_cons_succ] at hP11
          have hO11 := own_set (b := w3.heap.size) (o := 2) (u := (.slice (some ⟨g8, 0, none⟩) (pre.length + 1) cap8)) hown8 (row_ne hown8 hP8n (fun cur e => by cases e))
          replace hO11 : OwnP (w3.heap.size + 1 + 1) (w8.setCell ⟨w3.heap.size, 2, none⟩ (.slice (some ⟨g8, 0, none⟩) (pre.length + 1) cap8)) (.slice (some ⟨g8, 0, none⟩) (pre.length + 1) cap8) (pre ++ [p.1]) := by unfold OwnP; rw [flatP_snoc, List.length_append]; exact hO11
          have hT11 := (heap_ne (b := t) (c := w3.heap.size) (o := 2) (u := (.slice (some ⟨g8, 0, none⟩) (pre.length + 1) cap8)) (by omega)).trans hT10
          have hJ11 := (heap_ne (b := w3.heap.size + 1) (c := w3.heap.size) (o := 2) (u := (.slice (some ⟨g8, 0, none⟩) (pre.length + 1) cap8)) (by omega)).trans hJ10
          generalize (w8.setCell ⟨w3.heap.size, 2, none⟩ (.slice (some ⟨g8, 0, none⟩) (pre.length + 1) cap8)) = W9 at *
          clear hgrow8 hown8 hat8 hlt8 hP8n p28 fp8 EG hT10 hJ10 hP8 hJ8 hTt hP7 hJ7 q2 b0 b1 hO8 hP hJ E9 EW8 E8 hEr EW E y1r k0 k1 k2 k3 k4 k5 k6 k7 k8 k9 k10
          have y1z := Ext.cell EGs y1
          have EWZ := E3.trans EGs
          have k0 := Ext.cell EWZ (HCU0.out 0 _ rfl)
          have k1 := Ext.cell EWZ (HCU0.out 1 _ rfl)
          have k2 := Ext.cell EWZ (HCU0.out 2 _ rfl)
          have k3 := Ext.cell EWZ (HCU0.out 3 _ rfl)
          have k4 := Ext.cell EWZ (HCU0.out 4 _ rfl)
          have k5 := Ext.cell EWZ (HCU0.out 5 _ rfl)
          have k6 := Ext.cell EWZ (HCU0.out 6 _ rfl)
          have k7 := Ext.cell EWZ (HCU0.out 7 _ rfl)
          have k8 := Ext.cell EWZ (HCU0.out 8 _ rfl)
          have k9 := Ext.cell EWZ (HCU0.out 9 _ rfl)
          have k10 := Ext.cell EWZ (HCU0.out 10 _ rfl)
          simp only [Nat.add_zero] at k0
          by_cases hl : k + 1 = v.units.length
          case pos =>
            have hli : ¬ (k : Int) + 1 < (v.units.length : Int) := by omega
            have hT2 : (pre ++ [p.1], 0) = r := by have h9 := HTT.out; rw [if_pos HP0.out, List.drop_eq_nil_of_le (show v.units.length ≤ k + 1 by omega), if_pos rfl] at h9; exact h9
            have HT2 := Lib.hid hT2
            have HL := Lib.hid hl
            clear hT2 hl
            go_wp2_with fail
            go_roundw
            case rel =>
              refine ⟨k + 1, pre ++ [p.1], _, (j1, j2), by have := HL.out; omega, by go_num, by rw [List.length_append, HPL.out]; rfl, hP11, hO11, hJ11, ?_, EGs⟩
              rw [List.drop_eq_nil_of_le (show v.units.length ≤ k + 1 by have := HL.out; omega), stepN_nil]
              simpa using HT2.out
            case measure => simp [intOf]; omega
          case neg =>
            have hk1 : k + 1 < v.units.length := by have := HLT.out; omega
            have hli : (k : Int) + 1 < (v.units.length : Int) := by omega
            have hde : ¬ v.units.drop (k + 1) = [] := by intro e; have := congrArg List.length e; rw [List.length_drop] at this; simp at this; omega
            have hT3 : (pre ++ (if j.2 = 0 then (p.1 :: (stepN j.1 (v.units.drop (k + 1)) (ps.drop (k + 1)) (st.drop (k + 1))).1, (stepN j.1 (v.units.drop (k + 1)) (ps.drop (k + 1)) (st.drop (k + 1))).2) else ([p.1], j.2)).1, (if j.2 = 0 then (p.1 :: (stepN j.1 (v.units.drop (k + 1)) (ps.drop (k + 1)) (st.drop (k + 1))).1, (stepN j.1 (v.units.drop (k + 1)) (ps.drop (k + 1)) (st.drop (k + 1))).2) else ([p.1], j.2)).2) = r := by have h9 := HTT.out; rw [if_pos HP0.out, if_neg hde] at h9; exact h9
            have HT3 := Lib.hid hT3
            clear hde hT3 hl
            have j0 : W9.cell? ⟨w3.heap.size + 1, 0, none⟩ = some (.int .i64 j1) := World.news_of_block hJ11 0 _ rfl
            have j00 : W9.cell? ⟨w3.heap.size + 1, 1, none⟩ = some (.int .i64 j2) := World.news_of_block hJ11 1 _ rfl
            have b0 : W9.cell? ⟨t, 0, none⟩ = some (.int .i64 p.1.1) := World.news_of_block hT11 0 _ rfl
            have b1 : W9.cell? ⟨t, 1, none⟩ = some (.int .i64 p.1.2) := World.news_of_block hT11 1 _ rfl
            have hlj9 := fst_lt hJ11
            have hlt9 := fst_lt hT11
            go_upto_region 19 with fail
            go_cut [15] from 37 to 95 (fun sa wc => sa = .int .i64 j.2 ∧ ∃ wz, Ext W9 wz ∧ wc = ((wz.setCell ⟨w3.heap.size + 1, 0, none⟩ (.int .i64 j.1.1)).setCell ⟨w3.heap.size + 1, 1, none⟩ (.int .i64 j.1.2)))
            case first =>
              refine until_region 12 (S := (fun w' => w'.cell? ⟨w3.heap.size + 1, 0, none⟩ = some (.int .i64 j1) ∧ w'.cell? ⟨w3.heap.size + 1, 1, none⟩ = some (.int .i64 j2) ∧ w'.cell? ⟨t, 0, none⟩ = some (.int .i64 p.1.1) ∧ w'.cell? ⟨t, 1, none⟩ = some (.int .i64 p.1.2) ∧ w'.cell? ⟨w.heap.size, 1, none⟩ = some (.slice (some ⟨b, off, none⟩) v.units.length cap) ∧ w'.cell? ⟨b, off + k * 11, none⟩ = some (.int .i64 u.kind) ∧ w'.cell? ⟨b, off + k * 11 + 1, none⟩ = some (.int .i64 u.length) ∧ w'.cell? ⟨b, off + k * 11 + 2, none⟩ = some (.int .i64 u.behind) ∧ w'.cell? ⟨b, off + k * 11 + 3, none⟩ = some (.int .i64 u.front) ∧ w'.cell? ⟨b, off + k * 11 + 4, none⟩ = some (.int .i64 u.rear) ∧ w'.cell? ⟨b, off + k * 11 + 5, none⟩ = some (.int .i64 u.width) ∧ w'.cell? ⟨b, off + k * 11 + 6, none⟩ = some (.int .i64 u.height) ∧ w'.cell? ⟨b, off + k * 11 + 7, none⟩ = some (.int .i64 u.mass) ∧ w'.cell? ⟨b, off + k * 11 + 8, none⟩ = some (.int .i64 u.steer) ∧ w'.cell? ⟨b, off + k * 11 + 9, none⟩ = some (.int .i64 u.most) ∧ w'.cell? ⟨b, off + k * 11 + 10, none⟩ = some (.slice (ex k).1 u.axles.length (ex k).2))) (by kernel_rfl) ⟨j0, j00, b0, b1, y1z, k0, k1, k2, k3, k4, k5, k6, k7, k8, k9, k10⟩ (fun hHeld => ?_)
              refine until_take (i := 0) (v := ?_) rfl (by kernel_rfl) (by kernel_rfl) (by kernel_rfl) (by kernel_rfl) (fun _ _ _ h => h) (Or.inl ⟨by rfl, ?_⟩) (by assumption) ?_
              rotate_left
              · (intro w hSw; (try dsimp only at hSw); go_simp; (first | done | with_reducible rfl))
              simp only [Act.put, List.setIfInBounds_toArray, List.set_cons_zero, List.set_cons_succ]
              refine until_take (i := 1) (v := ?_) rfl (by kernel_rfl) (by kernel_rfl) (by kernel_rfl) (by kernel_rfl) (fun _ _ _ h => h) (Or.inl ⟨by rfl, ?_⟩) (by assumption) ?_
              rotate_left
              · (intro w hSw; (try dsimp only at hSw); go_simp; (first | done | with_reducible rfl))
              simp only [Act.put, List.setIfInBounds_toArray, List.set_cons_zero, List.set_cons_succ]
              refine until_take (i := 2) (v := ?_) rfl (by kernel_rfl) (by kernel_rfl) (by kernel_rfl) (by kernel_rfl) (fun _ _ _ h => h) (Or.inl ⟨by rfl, ?_⟩) (by assumption) ?_
              rotate_left
              · (intro w hSw; (try dsimp only at hSw); go_simp; (first | done | with_reducible rfl))
              simp only [Act.put, List.setIfInBounds_toArray, List.set_cons_zero, List.set_cons_succ]
              refine until_take (i := 3) (v := ?_) rfl (by kernel_rfl) (by kernel_rfl) (by kernel_rfl) (by kernel_rfl) (fun _ _ _ h => h) (Or.inl ⟨by rfl, ?_⟩) (by assumption) ?_
              rotate_left
              · (intro w hSw; (try dsimp only at hSw); go_simp; (first | done | with_reducible rfl))
              simp only [Act.put, List.setIfInBounds_toArray, List.set_cons_zero, List.set_cons_succ]
              refine until_take (i := 4) (v := ?_) rfl (by kernel_rfl) (by kernel_rfl) (by kernel_rfl) (by kernel_rfl) (fun _ _ _ h => h) (Or.inl ⟨by rfl, ?_⟩) (by assumption) ?_
              rotate_left
              · (intro w hSw; (try dsimp only at hSw); go_simp; (first | done | with_reducible rfl))
              simp only [Act.put, List.setIfInBounds_toArray, List.set_cons_zero, List.set_cons_succ]
              refine until_take (i := 5) (v := ?_) rfl (by kernel_rfl) (by kernel_rfl) (by kernel_rfl) (by kernel_rfl) (fun _ _ _ h => h) (Or.inl ⟨by rfl, ?_⟩) (by assumption) ?_
              rotate_left
              · (intro w hSw; (try dsimp only at hSw); go_simp; (first | done | with_reducible rfl))
              simp only [Act.put, List.setIfInBounds_toArray, List.set_cons_zero, List.set_cons_succ]
              refine until_take (i := 6) (v := ?_) rfl (by kernel_rfl) (by kernel_rfl) (by kernel_rfl) (by kernel_rfl) (fun _ _ _ h => h) (Or.inl ⟨by rfl, ?_⟩) (by assumption) ?_
              rotate_left
              · (intro w hSw; (try dsimp only at hSw); go_simp; (first | done | with_reducible rfl))
              simp only [Act.put, List.setIfInBounds_toArray, List.set_cons_zero, List.set_cons_succ]
              refine until_one (i := 7) rfl (by kernel_rfl) (by rfl) (fun K hK => ?_)
              go_simp
              (go_at_call 51; refine (HCE.out _ (show Ext w _ from EWZ.drew)).mono ?_; rintro e wE ⟨rfl, hbE⟩; go_wp2_with fail)
              have EE : Ext W9 wE := (Ext.refl W9).drew.trans hbE
              refine hK.out _ _ ⟨Ext.cell EE j0, Ext.cell EE j00, Ext.cell EE b0, Ext.cell EE b1, Ext.cell EE y1z, Ext.cell EE k0, Ext.cell EE k1, Ext.cell EE k2, Ext.cell EE k3, Ext.cell EE k4, Ext.cell EE k5, Ext.cell EE k6, Ext.cell EE k7, Ext.cell EE k8, Ext.cell EE k9, Ext.cell EE k10⟩ (fun hHeld => ?_)
              refine until_one (i := 8) rfl (by kernel_rfl) (by rfl) (fun K hK => ?_)
              go_simp
              (go_at_call 50; refine (HCJ.out _).mono ?_; rintro e wZ ⟨rfl, hbZ⟩; unfold ptV; go_wp2_with fail)
              have EZ : Ext W9 wZ := EE.trans hbZ
              refine hK.out _ _ ⟨Ext.cell EZ j0, Ext.cell EZ j00, Ext.cell EZ b0, Ext.cell EZ b1, Ext.cell EZ y1z, Ext.cell EZ k0, Ext.cell EZ k1, Ext.cell EZ k2, Ext.cell EZ k3, Ext.cell EZ k4, Ext.cell EZ k5, Ext.cell EZ k6, Ext.cell EZ k7, Ext.cell EZ k8, Ext.cell EZ k9, Ext.cell EZ k10⟩ (fun hHeld => ?_)
              refine until_takeY (i := 9) (v := ?_) rfl (by kernel_rfl) (by kernel_rfl) (by kernel_rfl) (by rfl) (fun _ _ _ h => h) (Or.inl ⟨by rfl, ?_⟩) (by assumption) ?_
              rotate_left
              · (intro w; go_simp; (first | done | with_reducible rfl))
              simp only [Act.put, List.setIfInBounds_toArray, List.set_cons_zero, List.set_cons_succ]
              refine until_takeY (i := 10) (v := ?_) rfl (by kernel_rfl) (by kernel_rfl) (by kernel_rfl) (by rfl) (fun _ _ _ h => h) (Or.inl ⟨by rfl, ?_⟩) (by assumption) ?_
              rotate_left
              · (intro w; go_simp; (first | done | with_reducible rfl))
              simp only [Act.put, List.setIfInBounds_toArray, List.set_cons_zero, List.set_cons_succ]
              refine until_takeY (i := 11) (v := ?_) rfl (by kernel_rfl) (by kernel_rfl) (by kernel_rfl) (by rfl) (fun _ _ _ h => h) (Or.inl ⟨by rfl, ?_⟩) (by assumption) ?_
              rotate_left
              · (intro w; go_simp; (first | done | with_reducible rfl))
              simp only [Act.put, List.setIfInBounds_toArray, List.set_cons_zero, List.set_cons_succ]
              have jZ := EZ.blk hJ11
              have jZ0 : wZ.cell? ⟨w3.heap.size + 1, 0, none⟩ = some (.int .i64 j1) := World.news_of_block jZ 0 _ rfl
              have jZ1 : wZ.cell? ⟨w3.heap.size + 1, 1, none⟩ = some (.int .i64 j2) := World.news_of_block jZ 1 _ rfl
              have fZ0 := blk_frz jZ 0
              have fZ1 := blk_frz jZ 1
              refine until_last (st := 12) rfl (by kernel_rfl) (fun K hK => ?_)
              go_simp
              refine hK.out _ _ ?_
              refine uany_take (i := 13) (v := ?_) rfl (by kernel_rfl) (by kernel_rfl) (by kernel_rfl) (fun _ _ _ h => h) (Or.inl ⟨by rfl, ?_⟩) ?_
              rotate_left
              · (intro w; go_simp; (first | done | with_reducible rfl))
              simp only [Act.put, List.setIfInBounds_toArray, List.set_cons_zero, List.set_cons_succ]
              refine uany_done (by kernel_rfl) ?_ _
              go_wp2_with fail
              go_meet
              exact ⟨rfl, wZ, EZ, rfl⟩
            case rest =>
              obtain ⟨rfl, wz, Ez, hwc⟩ := hcut
              have hPz := Ez.blk hP11
              have hJz := Ez.blk hJ11
              have hOz := hO11.ext Ez
              have E12 := EGs.trans Ez
              have hgj : (Value.slice (some ⟨g8, 0, none⟩) (pre.length + 1) cap8).ownBlock ≠ some (w3.heap.size + 1) := own_ne hO11 (Nat.lt_succ_self _)
              have hPF : wc.heap[w3.heap.size]? = some (.cells #[.int .i64 l1, .int .i64 l2, (.slice (some ⟨g8, 0, none⟩) (pre.length + 1) cap8)] 29 (0, 0)) := by rw [hwc]; exact (heap_ne (by omega)).trans ((heap_ne (by omega)).trans hPz)
              have hJF : wc.heap[w3.heap.size + 1]? = some (.cells #[.int .i64 j.1.1, .int .i64 j.1.2] 26 (0, 0)) := by rw [hwc]; exact two1 _ (two0 _ hJz)
              have hOF : OwnP (w3.heap.size + 1 + 1) wc (.slice (some ⟨g8, 0, none⟩) (pre.length + 1) cap8) (pre ++ [p.1]) := by rw [hwc]; exact own_set (own_set hOz hgj) hgj
              have EF : Ext w3 wc := by rw [hwc]; exact (E12.set (p := ⟨w3.heap.size + 1, 0, none⟩) (by show w3.heap.size ≤ w3.heap.size + 1; omega) _).set (p := ⟨w3.heap.size + 1, 1, none⟩) (by show w3.heap.size ≤ w3.heap.size + 1; omega) _
              generalize wc = W10 at *
              clear hwc hPz hJz hOz E12 Ez j0 j00 b0 b1 hP11 hJ11 hO11 hT11 y1z k0 k1 k2 k3 k4 k5 k6 k7 k8 k9 k10
              have y1z := Ext.cell EF y1
              by_cases hn : j.2 = 0
              case neg =>
                have HRX := HT3.out
                rw [if_neg hn] at HRX
                have hrj : r.2 = j.2 := by rw [← HRX]
                have ER := E3.trans EF
                have hR9 := EF.blk hR
                have r0 : W10.cell? ⟨w.heap.size + 1 + 1 + 1, 0, none⟩ = some (.int .i64 0) := World.news_of_block hR9 0 _ rfl
                have r1 : W10.cell? ⟨w.heap.size + 1 + 1 + 1, 1, none⟩ = some (.int .i64 0) := World.news_of_block hR9 1 _ rfl
                have r2 : W10.cell? ⟨w.heap.size + 1 + 1 + 1, 2, none⟩ = some (.slice none 0 0) := World.news_of_block hR9 2 _ rfl
                have f0 := blk_frz hR9 0
                have f1 := blk_frz hR9 1
                have f2 := blk_frz hR9 2
                have HRJ := Lib.hid hrj
                have HNN := Lib.hid hn
                clear hrj HRX
                go_wp2_with fail
                have hR2 := three_set (.int .i64 0) (.int .i64 0) (.slice none 0 0) hR9
                have ER2 := ((ER.set (p := ⟨w.heap.size + 1 + 1 + 1, 0, none⟩) (le3 _) (.int .i64 0)).set (p := ⟨w.heap.size + 1 + 1 + 1, 1, none⟩) (le3 _) (.int .i64 0)).set (p := ⟨w.heap.size + 1 + 1 + 1, 2, none⟩) (le3 _) (.slice none 0 0)
                generalize (((W10.setCell ⟨w.heap.size + 1 + 1 + 1, 0, none⟩ (.int .i64 0)).setCell ⟨w.heap.size + 1 + 1 + 1, 1, none⟩ (.int .i64 0)).setCell ⟨w.heap.size + 1 + 1 + 1, 2, none⟩ (.slice none 0 0)) = WF at *
                have n0 : WF.cell? ⟨w.heap.size + 1 + 1 + 1, 0, none⟩ = some (.int .i64 0) := World.news_of_block hR2 0 _ rfl
                have n1 : WF.cell? ⟨w.heap.size + 1 + 1 + 1, 1, none⟩ = some (.int .i64 0) := World.news_of_block hR2 1 _ rfl
                have n2 : WF.cell? ⟨w.heap.size + 1 + 1 + 1, 2, none⟩ = some (.slice none 0 0) := World.news_of_block hR2 2 _ rfl
                refine bodyPost_ret (v := poseEV (0, 0) (.slice none 0 0) j.2) (by simp [results, Try.results25, go_sem, n0, n1, n2, poseEV]) rfl ?_
                rw [← HPo.out]
                unfold StepR
                rw [HR.out, if_neg (by rw [HRJ.out]; exact HNN.out), HRJ.out]
                exact ⟨_, rfl, .inl ⟨none, 0, rfl, rfl⟩, (fun g hg => by simp [Value.ownBlock] at hg), ER2⟩
              case pos =>
                have HJ0 := Lib.hid hn
                go_wp2_with fail
                go_roundw
                case rel =>
                  refine ⟨k + 1, pre ++ [p.1], _, j.1, by omega, by go_num, by rw [List.length_append, HPL.out]; rfl, hPF, hOF, hJF, ?_, EF⟩
                  have h9 := HT3.out
                  rw [if_pos HJ0.out] at h9
                  rw [← h9]
                  simp
                case measure => simp [intOf]; omega
end
end Go.Proofs.Ytgikfliibimkdaa
