/- Contract: Back, by the program: what it refuses at once. -/
import Derived.Test.YtgikfliibimkdaaCBackF
import Derived.Test.YtgikfliibimkdaaCSame
namespace Go.Proofs.Ytgikfliibimkdaa
open Go.RowKit Go.Shelf

section
variable {vu vp vst : Value} {v : CVeh} {ps : List Pt} {st : List Int}
set_option maxRecDepth 100000 in
set_option maxHeartbeats 6400000 in
theorem Back_pose (o1 o2 l1 l2 : Int) (w : World) (hs : Sl 11 RUnit w vu v.units) (hp : Pts w vp ps) (hst : Sl 1 RNum w vst st) (h : ¬ poseE v (o1, o2) ps = 0) :
    Calls Try.prog 26 #[vehV v vu, poseV (o1, o2) vp, .agg #[.int .i64 l1, .int .i64 l2], vst] w (BackR v (o1, o2) ps (l1, l2) st w) := by
  have CC := fun w' (h : Ext w w') => CheckPose_c (lead := (o1, o2)) w' (hs.ext RUnit.stable h) (hp.ext h)
  have HR := Lib.hid (backS_pose (tail := (l1, l2)) (st := st) h)
  obtain ⟨A, cap, rfl, hl, hl2⟩ := hs.shape
  obtain ⟨Ap, capp, rfl⟩ := pts_shape hp
  obtain ⟨As, caps, rfl, hls, hls2⟩ := hst.shape
  obtain ⟨Post, hPost⟩ : ∃ Post, BackR v (o1, o2) ps (l1, l2) st w = Post := ⟨_, rfl⟩
  rw [hPost]
  have HPo := Lib.hid hPost
  unfold vehV poseV at *
  simp only at CC ⊢
  have HN := h
  generalize poseE v (o1, o2) ps = PE at *
  replace CC := Lib.hid CC
  clear hs hp hst h hPost
  go_enter Try.func26, Try.ntmps26
  go_upto_region 3 with (go_at_call 14; refine (CC.out _ (by (repeat' (first | exact Ext.refl _ | assumption | refine Ext.alloc ?_ _ | refine Ext.drew ?_ | refine Ext.drewN ?_ _ | refine Ext.set ?_ (by first | exact Nat.le_refl _ | exact le1 _ | exact le2 _ | exact le3 _ | exact le4 _ | exact le5 _ | exact le6 _) _ | refine Ext.trans ?_ (by assumption))))).mono ?_; rintro e w1 ⟨rfl, hb⟩; have y0 := Ext.cell hb (p := ⟨w.heap.size, 0, none⟩) (v := .string v.name) (by go_simp); have y1 := Ext.cell hb (p := ⟨w.heap.size, 1, none⟩) (v := .slice A v.units.length cap) (by go_simp); have y2 := Ext.cell hb (p := ⟨w.heap.size, 2, none⟩) (v := .int .i64 v.first) (by go_simp); have y3 := Ext.cell hb (p := ⟨w.heap.size, 3, none⟩) (v := .int .i64 v.last) (by go_simp); have t0 := Ext.cell hb (p := ⟨w.heap.size + 1, 0, none⟩) (v := .int .i64 o1) (by go_simp); have t1 := Ext.cell hb (p := ⟨w.heap.size + 1, 1, none⟩) (v := .int .i64 o2) (by go_simp); have t2 := Ext.cell hb (p := ⟨w.heap.size + 1, 2, none⟩) (v := .slice Ap ps.length capp) (by go_simp); have L0 := Ext.cell hb (p := ⟨w.heap.size + 1 + 1, 0, none⟩) (v := .int .i64 l1) (by go_simp); have L1 := Ext.cell hb (p := ⟨w.heap.size + 1 + 1, 1, none⟩) (v := .int .i64 l2) (by go_simp); have S0 := Ext.cell hb (p := ⟨w.heap.size + 1 + 1 + 1, 0, none⟩) (v := .slice As st.length caps) (by go_simp); have hR : w1.heap[w.heap.size + 1 + 1 + 1 + 1]? = some (.cells #[.int .i64 0, .int .i64 0, .slice none 0 0] 29 (0, 0)) := (hb.block _ (by simp)).trans (heap_old (new_at (by simp))); have hE : w1.heap[w.heap.size + 1 + 1 + 1 + 1 + 1]? = some (.cells #[.int .i64 0] 32 (0, 0)) := (hb.block _ (by simp)).trans (new_at (by simp)); have E3 : Ext w w1 := (((((((Ext.refl w).alloc _).alloc _).alloc _).alloc _).alloc _).alloc _).trans hb; clear hb; have r0 : w1.cell? ⟨w.heap.size + 1 + 1 + 1 + 1, 0, none⟩ = some (.int .i64 0) := World.news_of_block hR 0 _ rfl; have r1 : w1.cell? ⟨w.heap.size + 1 + 1 + 1 + 1, 1, none⟩ = some (.int .i64 0) := World.news_of_block hR 1 _ rfl; have r2 : w1.cell? ⟨w.heap.size + 1 + 1 + 1 + 1, 2, none⟩ = some (.slice none 0 0) := World.news_of_block hR 2 _ rfl; have e0 : w1.cell? ⟨w.heap.size + 1 + 1 + 1 + 1 + 1, 0, none⟩ = some (.int .i64 0) := World.news_of_block hE 0 _ rfl; have f0 := blk_frz hR 0; have f1 := blk_frz hR 1; have f2 := blk_frz hR 2; have fe := blk_frz hE 0; have hlR := fst_lt hR; have hlE := fst_lt hE; have hly := lt_of_cell y0; have hlt := lt_of_cell t0; have hlL := lt_of_cell L0; have hlS := lt_of_cell S0)
  go_wp2_with fail
  have hR2 := three_set (.int .i64 0) (.int .i64 0) (.slice none 0 0) hR
  have hE2 : (((w1.setCell ⟨w.heap.size + 1 + 1 + 1 + 1, 0, none⟩ (.int .i64 0)).setCell ⟨w.heap.size + 1 + 1 + 1 + 1, 1, none⟩ (.int .i64 0)).setCell ⟨w.heap.size + 1 + 1 + 1 + 1, 2, none⟩ (.slice none 0 0)).heap[w.heap.size + 1 + 1 + 1 + 1 + 1]? = some (.cells #[.int .i64 0] 32 (0, 0)) := (heap_ne (by omega)).trans ((heap_ne (by omega)).trans ((heap_ne (by omega)).trans hE))
  have hR3 : ((((w1.setCell ⟨w.heap.size + 1 + 1 + 1 + 1, 0, none⟩ (.int .i64 0)).setCell ⟨w.heap.size + 1 + 1 + 1 + 1, 1, none⟩ (.int .i64 0)).setCell ⟨w.heap.size + 1 + 1 + 1 + 1, 2, none⟩ (.slice none 0 0)).setCell ⟨w.heap.size + 1 + 1 + 1 + 1 + 1, 0, none⟩ (.int .i64 PE)).heap[w.heap.size + 1 + 1 + 1 + 1]? = some (.cells #[.int .i64 0, .int .i64 0, .slice none 0 0] 29 (0, 0)) := (heap_ne (by omega)).trans hR2
  have hE3 := one_set (.int .i64 PE) hE2
  have ER2 := (((E3.set (p := ⟨w.heap.size + 1 + 1 + 1 + 1, 0, none⟩) (le4 _) (.int .i64 0)).set (p := ⟨w.heap.size + 1 + 1 + 1 + 1, 1, none⟩) (le4 _) (.int .i64 0)).set (p := ⟨w.heap.size + 1 + 1 + 1 + 1, 2, none⟩) (le4 _) (.slice none 0 0)).set (p := ⟨w.heap.size + 1 + 1 + 1 + 1 + 1, 0, none⟩) (le5 _) (.int .i64 PE)
  generalize ((((w1.setCell ⟨w.heap.size + 1 + 1 + 1 + 1, 0, none⟩ (.int .i64 0)).setCell ⟨w.heap.size + 1 + 1 + 1 + 1, 1, none⟩ (.int .i64 0)).setCell ⟨w.heap.size + 1 + 1 + 1 + 1, 2, none⟩ (.slice none 0 0)).setCell ⟨w.heap.size + 1 + 1 + 1 + 1 + 1, 0, none⟩ (.int .i64 PE)) = WF at *
  have n0 : WF.cell? ⟨w.heap.size + 1 + 1 + 1 + 1, 0, none⟩ = some (.int .i64 0) := World.news_of_block hR3 0 _ rfl
  have n1 : WF.cell? ⟨w.heap.size + 1 + 1 + 1 + 1, 1, none⟩ = some (.int .i64 0) := World.news_of_block hR3 1 _ rfl
  have n2 : WF.cell? ⟨w.heap.size + 1 + 1 + 1 + 1, 2, none⟩ = some (.slice none 0 0) := World.news_of_block hR3 2 _ rfl
  have n3 : WF.cell? ⟨w.heap.size + 1 + 1 + 1 + 1 + 1, 0, none⟩ = some (.int .i64 PE) := World.news_of_block hE3 0 _ rfl
  refine bodyPost_ret (v := poseEV (0, 0) (.slice none 0 0) PE) (by simp [results, Try.results26, go_sem, n0, n1, n2, n3, poseEV]) rfl ?_
  rw [← HPo.out]
  unfold BackR
  rw [HR.out]
  exact ⟨_, rfl, .inl ⟨none, 0, rfl, rfl⟩, ER2⟩
set_option maxRecDepth 100000 in
set_option maxHeartbeats 6400000 in
theorem Back_tail (o1 o2 l1 l2 : Int) (w : World) (hs : Sl 11 RUnit w vu v.units) (hp : Pts w vp ps) (hst : Sl 1 RNum w vst st) (h : poseE v (o1, o2) ps = 0) (h2 : okPt (l1, l2) = false) :
    Calls Try.prog 26 #[vehV v vu, poseV (o1, o2) vp, .agg #[.int .i64 l1, .int .i64 l2], vst] w (BackR v (o1, o2) ps (l1, l2) st w) := by
  have CC := fun w' (h : Ext w w') => CheckPose_c (lead := (o1, o2)) w' (hs.ext RUnit.stable h) (hp.ext h)
  rw [h] at CC
  have C1 := fun w => Check_c l1 l2 w
  rw [show checkS (l1, l2) = 2 by simp [checkS, h2]] at C1
  have HR := Lib.hid (backS_tail (st := st) h h2)
  obtain ⟨A, cap, rfl, hl, hl2⟩ := hs.shape
  obtain ⟨Ap, capp, rfl⟩ := pts_shape hp
  obtain ⟨As, caps, rfl, hls, hls2⟩ := hst.shape
  obtain ⟨Post, hPost⟩ : ∃ Post, BackR v (o1, o2) ps (l1, l2) st w = Post := ⟨_, rfl⟩
  rw [hPost]
  have HPo := Lib.hid hPost
  unfold vehV poseV at *
  simp only at CC ⊢
  replace CC := Lib.hid CC
  replace C1 := Lib.hid C1
  clear hs hp hst h hPost
  go_enter Try.func26, Try.ntmps26
  go_upto_region 5 with (first | (go_at_call 14; refine (CC.out _ (by (repeat' (first | exact Ext.refl _ | assumption | refine Ext.alloc ?_ _ | refine Ext.drew ?_ | refine Ext.drewN ?_ _ | refine Ext.set ?_ (by first | exact Nat.le_refl _ | exact le1 _ | exact le2 _ | exact le3 _ | exact le4 _ | exact le5 _ | exact le6 _) _ | refine Ext.trans ?_ (by assumption))))).mono ?_; rintro e w1 ⟨rfl, hb⟩; have y0 := Ext.cell hb (p := ⟨w.heap.size, 0, none⟩) (v := .string v.name) (by go_simp); have y1 := Ext.cell hb (p := ⟨w.heap.size, 1, none⟩) (v := .slice A v.units.length cap) (by go_simp); have y2 := Ext.cell hb (p := ⟨w.heap.size, 2, none⟩) (v := .int .i64 v.first) (by go_simp); have y3 := Ext.cell hb (p := ⟨w.heap.size, 3, none⟩) (v := .int .i64 v.last) (by go_simp); have t0 := Ext.cell hb (p := ⟨w.heap.size + 1, 0, none⟩) (v := .int .i64 o1) (by go_simp); have t1 := Ext.cell hb (p := ⟨w.heap.size + 1, 1, none⟩) (v := .int .i64 o2) (by go_simp); have t2 := Ext.cell hb (p := ⟨w.heap.size + 1, 2, none⟩) (v := .slice Ap ps.length capp) (by go_simp); have L0 := Ext.cell hb (p := ⟨w.heap.size + 1 + 1, 0, none⟩) (v := .int .i64 l1) (by go_simp); have L1 := Ext.cell hb (p := ⟨w.heap.size + 1 + 1, 1, none⟩) (v := .int .i64 l2) (by go_simp); have S0 := Ext.cell hb (p := ⟨w.heap.size + 1 + 1 + 1, 0, none⟩) (v := .slice As st.length caps) (by go_simp); have hR : w1.heap[w.heap.size + 1 + 1 + 1 + 1]? = some (.cells #[.int .i64 0, .int .i64 0, .slice none 0 0] 29 (0, 0)) := (hb.block _ (by simp)).trans (heap_old (new_at (by simp))); have hE : w1.heap[w.heap.size + 1 + 1 + 1 + 1 + 1]? = some (.cells #[.int .i64 0] 32 (0, 0)) := (hb.block _ (by simp)).trans (new_at (by simp)); have E3 : Ext w w1 := (((((((Ext.refl w).alloc _).alloc _).alloc _).alloc _).alloc _).alloc _).trans hb; clear hb) | (go_at_call 40; refine (C1.out _).mono ?_; rintro e w2 ⟨rfl, hb⟩; replace y0 := Ext.cell hb y0; replace y1 := Ext.cell hb y1; replace y2 := Ext.cell hb y2; replace y3 := Ext.cell hb y3; replace t0 := Ext.cell hb t0; replace t1 := Ext.cell hb t1; replace t2 := Ext.cell hb t2; replace L0 := Ext.cell hb L0; replace L1 := Ext.cell hb L1; replace S0 := Ext.cell hb S0; replace hR := hb.blk hR; replace hE := hb.blk hE; replace E3 := E3.trans hb; clear hb; have r0 : w2.cell? ⟨w.heap.size + 1 + 1 + 1 + 1, 0, none⟩ = some (.int .i64 0) := World.news_of_block hR 0 _ rfl; have r1 : w2.cell? ⟨w.heap.size + 1 + 1 + 1 + 1, 1, none⟩ = some (.int .i64 0) := World.news_of_block hR 1 _ rfl; have r2 : w2.cell? ⟨w.heap.size + 1 + 1 + 1 + 1, 2, none⟩ = some (.slice none 0 0) := World.news_of_block hR 2 _ rfl; have e0 : w2.cell? ⟨w.heap.size + 1 + 1 + 1 + 1 + 1, 0, none⟩ = some (.int .i64 0) := World.news_of_block hE 0 _ rfl; have f0 := blk_frz hR 0; have f1 := blk_frz hR 1; have f2 := blk_frz hR 2; have fe := blk_frz hE 0; have hlR := fst_lt hR; have hlE := fst_lt hE; have hly := lt_of_cell y0; have hlt := lt_of_cell t0; have hlL := lt_of_cell L0; have hlS := lt_of_cell S0))
  go_wp2_with fail
  have hR2 := three_set (.int .i64 0) (.int .i64 0) (.slice none 0 0) hR
  have hE2 : (((w2.setCell ⟨w.heap.size + 1 + 1 + 1 + 1, 0, none⟩ (.int .i64 0)).setCell ⟨w.heap.size + 1 + 1 + 1 + 1, 1, none⟩ (.int .i64 0)).setCell ⟨w.heap.size + 1 + 1 + 1 + 1, 2, none⟩ (.slice none 0 0)).heap[w.heap.size + 1 + 1 + 1 + 1 + 1]? = some (.cells #[.int .i64 0] 32 (0, 0)) := (heap_ne (by omega)).trans ((heap_ne (by omega)).trans ((heap_ne (by omega)).trans hE))
  have hR3 : ((((w2.setCell ⟨w.heap.size + 1 + 1 + 1 + 1, 0, none⟩ (.int .i64 0)).setCell ⟨w.heap.size + 1 + 1 + 1 + 1, 1, none⟩ (.int .i64 0)).setCell ⟨w.heap.size + 1 + 1 + 1 + 1, 2, none⟩ (.slice none 0 0)).setCell ⟨w.heap.size + 1 + 1 + 1 + 1 + 1, 0, none⟩ (.int .i64 2)).heap[w.heap.size + 1 + 1 + 1 + 1]? = some (.cells #[.int .i64 0, .int .i64 0, .slice none 0 0] 29 (0, 0)) := (heap_ne (by omega)).trans hR2
  have hE3 := one_set (.int .i64 2) hE2
  have ER2 := (((E3.set (p := ⟨w.heap.size + 1 + 1 + 1 + 1, 0, none⟩) (le4 _) (.int .i64 0)).set (p := ⟨w.heap.size + 1 + 1 + 1 + 1, 1, none⟩) (le4 _) (.int .i64 0)).set (p := ⟨w.heap.size + 1 + 1 + 1 + 1, 2, none⟩) (le4 _) (.slice none 0 0)).set (p := ⟨w.heap.size + 1 + 1 + 1 + 1 + 1, 0, none⟩) (le5 _) (.int .i64 2)
  generalize ((((w2.setCell ⟨w.heap.size + 1 + 1 + 1 + 1, 0, none⟩ (.int .i64 0)).setCell ⟨w.heap.size + 1 + 1 + 1 + 1, 1, none⟩ (.int .i64 0)).setCell ⟨w.heap.size + 1 + 1 + 1 + 1, 2, none⟩ (.slice none 0 0)).setCell ⟨w.heap.size + 1 + 1 + 1 + 1 + 1, 0, none⟩ (.int .i64 2)) = WF at *
  have n0 : WF.cell? ⟨w.heap.size + 1 + 1 + 1 + 1, 0, none⟩ = some (.int .i64 0) := World.news_of_block hR3 0 _ rfl
  have n1 : WF.cell? ⟨w.heap.size + 1 + 1 + 1 + 1, 1, none⟩ = some (.int .i64 0) := World.news_of_block hR3 1 _ rfl
  have n2 : WF.cell? ⟨w.heap.size + 1 + 1 + 1 + 1, 2, none⟩ = some (.slice none 0 0) := World.news_of_block hR3 2 _ rfl
  have n3 : WF.cell? ⟨w.heap.size + 1 + 1 + 1 + 1 + 1, 0, none⟩ = some (.int .i64 2) := World.news_of_block hE3 0 _ rfl
  refine bodyPost_ret (v := poseEV (0, 0) (.slice none 0 0) 2) (by simp [results, Try.results26, go_sem, n0, n1, n2, n3, poseEV]) rfl ?_
  rw [← HPo.out]
  unfold BackR
  rw [HR.out]
  exact ⟨_, rfl, .inl ⟨none, 0, rfl, rfl⟩, ER2⟩
set_option maxRecDepth 100000 in
set_option maxHeartbeats 6400000 in
theorem Back_state (o1 o2 l1 l2 : Int) (w : World) (hs : Sl 11 RUnit w vu v.units) (hp : Pts w vp ps) (hst : Sl 1 RNum w vst st) (h : poseE v (o1, o2) ps = 0) (h2 : okPt (l1, l2) = true) (h3 : backB v.units = false) :
    Calls Try.prog 26 #[vehV v vu, poseV (o1, o2) vp, .agg #[.int .i64 l1, .int .i64 l2], vst] w (BackR v (o1, o2) ps (l1, l2) st w) := by
  have CC := fun w' (h : Ext w w') => CheckPose_c (lead := (o1, o2)) w' (hs.ext RUnit.stable h) (hp.ext h)
  rw [h] at CC
  have C1 := fun w => Check_c l1 l2 w
  rw [show checkS (l1, l2) = 0 by simp [checkS, h2]] at C1
  have CF := fun w' (h' : Ext w w') => backs_c vu v.units w' (hs.ext RUnit.stable h')
  rw [h3] at CF
  have HR := Lib.hid (backS_state (st := st) h h2 h3)
  obtain ⟨A, cap, rfl, hl, hl2⟩ := hs.shape
  obtain ⟨Ap, capp, rfl⟩ := pts_shape hp
  obtain ⟨As, caps, rfl, hls, hls2⟩ := hst.shape
  obtain ⟨Post, hPost⟩ : ∃ Post, BackR v (o1, o2) ps (l1, l2) st w = Post := ⟨_, rfl⟩
  rw [hPost]
  have HPo := Lib.hid hPost
  unfold vehV poseV at *
  simp only at CC ⊢
  replace CC := Lib.hid CC
  replace C1 := Lib.hid C1
  replace CF := Lib.hid CF
  clear hs hp hst h h3 hPost
  go_enter Try.func26, Try.ntmps26
  go_upto_region 7 with (first | (go_at_call 14; refine (CC.out _ (by (repeat' (first | exact Ext.refl _ | assumption | refine Ext.alloc ?_ _ | refine Ext.drew ?_ | refine Ext.drewN ?_ _ | refine Ext.set ?_ (by first | exact Nat.le_refl _ | exact le1 _ | exact le2 _ | exact le3 _ | exact le4 _ | exact le5 _ | exact le6 _) _ | refine Ext.trans ?_ (by assumption))))).mono ?_; rintro e w1 ⟨rfl, hb⟩; have y0 := Ext.cell hb (p := ⟨w.heap.size, 0, none⟩) (v := .string v.name) (by go_simp); have y1 := Ext.cell hb (p := ⟨w.heap.size, 1, none⟩) (v := .slice A v.units.length cap) (by go_simp); have y2 := Ext.cell hb (p := ⟨w.heap.size, 2, none⟩) (v := .int .i64 v.first) (by go_simp); have y3 := Ext.cell hb (p := ⟨w.heap.size, 3, none⟩) (v := .int .i64 v.last) (by go_simp); have t0 := Ext.cell hb (p := ⟨w.heap.size + 1, 0, none⟩) (v := .int .i64 o1) (by go_simp); have t1 := Ext.cell hb (p := ⟨w.heap.size + 1, 1, none⟩) (v := .int .i64 o2) (by go_simp); have t2 := Ext.cell hb (p := ⟨w.heap.size + 1, 2, none⟩) (v := .slice Ap ps.length capp) (by go_simp); have L0 := Ext.cell hb (p := ⟨w.heap.size + 1 + 1, 0, none⟩) (v := .int .i64 l1) (by go_simp); have L1 := Ext.cell hb (p := ⟨w.heap.size + 1 + 1, 1, none⟩) (v := .int .i64 l2) (by go_simp); have S0 := Ext.cell hb (p := ⟨w.heap.size + 1 + 1 + 1, 0, none⟩) (v := .slice As st.length caps) (by go_simp); have hR : w1.heap[w.heap.size + 1 + 1 + 1 + 1]? = some (.cells #[.int .i64 0, .int .i64 0, .slice none 0 0] 29 (0, 0)) := (hb.block _ (by simp)).trans (heap_old (new_at (by simp))); have hE : w1.heap[w.heap.size + 1 + 1 + 1 + 1 + 1]? = some (.cells #[.int .i64 0] 32 (0, 0)) := (hb.block _ (by simp)).trans (new_at (by simp)); have E3 : Ext w w1 := (((((((Ext.refl w).alloc _).alloc _).alloc _).alloc _).alloc _).alloc _).trans hb; clear hb) | (go_at_call 40; refine (C1.out _).mono ?_; rintro e w2 ⟨rfl, hb⟩; replace y0 := Ext.cell hb y0; replace y1 := Ext.cell hb y1; replace y2 := Ext.cell hb y2; replace y3 := Ext.cell hb y3; replace t0 := Ext.cell hb t0; replace t1 := Ext.cell hb t1; replace t2 := Ext.cell hb t2; replace L0 := Ext.cell hb L0; replace L1 := Ext.cell hb L1; replace S0 := Ext.cell hb S0; replace hR := hb.blk hR; replace hE := hb.blk hE; replace E3 := E3.trans hb; clear hb) | (go_at_call 62; refine (CF.out _ E3).mono ?_; rintro e w4 ⟨rfl, hb⟩; replace y0 := Ext.cell hb y0; replace y1 := Ext.cell hb y1; replace y2 := Ext.cell hb y2; replace y3 := Ext.cell hb y3; replace t0 := Ext.cell hb t0; replace t1 := Ext.cell hb t1; replace t2 := Ext.cell hb t2; replace L0 := Ext.cell hb L0; replace L1 := Ext.cell hb L1; replace S0 := Ext.cell hb S0; replace hR := hb.blk hR; replace hE := hb.blk hE; replace E3 := E3.trans hb; clear hb; have r0 : w4.cell? ⟨w.heap.size + 1 + 1 + 1 + 1, 0, none⟩ = some (.int .i64 0) := World.news_of_block hR 0 _ rfl; have r1 : w4.cell? ⟨w.heap.size + 1 + 1 + 1 + 1, 1, none⟩ = some (.int .i64 0) := World.news_of_block hR 1 _ rfl; have r2 : w4.cell? ⟨w.heap.size + 1 + 1 + 1 + 1, 2, none⟩ = some (.slice none 0 0) := World.news_of_block hR 2 _ rfl; have e0 : w4.cell? ⟨w.heap.size + 1 + 1 + 1 + 1 + 1, 0, none⟩ = some (.int .i64 0) := World.news_of_block hE 0 _ rfl; have f0 := blk_frz hR 0; have f1 := blk_frz hR 1; have f2 := blk_frz hR 2; have fe := blk_frz hE 0; have hlR := fst_lt hR; have hlE := fst_lt hE; have hly := lt_of_cell y0; have hlt := lt_of_cell t0; have hlL := lt_of_cell L0; have hlS := lt_of_cell S0))
  go_wp2_with fail
  have hR2 := three_set (.int .i64 0) (.int .i64 0) (.slice none 0 0) hR
  have hE2 : (((w4.setCell ⟨w.heap.size + 1 + 1 + 1 + 1, 0, none⟩ (.int .i64 0)).setCell ⟨w.heap.size + 1 + 1 + 1 + 1, 1, none⟩ (.int .i64 0)).setCell ⟨w.heap.size + 1 + 1 + 1 + 1, 2, none⟩ (.slice none 0 0)).heap[w.heap.size + 1 + 1 + 1 + 1 + 1]? = some (.cells #[.int .i64 0] 32 (0, 0)) := (heap_ne (by omega)).trans ((heap_ne (by omega)).trans ((heap_ne (by omega)).trans hE))
  have hR3 : ((((w4.setCell ⟨w.heap.size + 1 + 1 + 1 + 1, 0, none⟩ (.int .i64 0)).setCell ⟨w.heap.size + 1 + 1 + 1 + 1, 1, none⟩ (.int .i64 0)).setCell ⟨w.heap.size + 1 + 1 + 1 + 1, 2, none⟩ (.slice none 0 0)).setCell ⟨w.heap.size + 1 + 1 + 1 + 1 + 1, 0, none⟩ (.int .i64 10)).heap[w.heap.size + 1 + 1 + 1 + 1]? = some (.cells #[.int .i64 0, .int .i64 0, .slice none 0 0] 29 (0, 0)) := (heap_ne (by omega)).trans hR2
  have hE3 := one_set (.int .i64 10) hE2
  have ER2 := (((E3.set (p := ⟨w.heap.size + 1 + 1 + 1 + 1, 0, none⟩) (le4 _) (.int .i64 0)).set (p := ⟨w.heap.size + 1 + 1 + 1 + 1, 1, none⟩) (le4 _) (.int .i64 0)).set (p := ⟨w.heap.size + 1 + 1 + 1 + 1, 2, none⟩) (le4 _) (.slice none 0 0)).set (p := ⟨w.heap.size + 1 + 1 + 1 + 1 + 1, 0, none⟩) (le5 _) (.int .i64 10)
  generalize ((((w4.setCell ⟨w.heap.size + 1 + 1 + 1 + 1, 0, none⟩ (.int .i64 0)).setCell ⟨w.heap.size + 1 + 1 + 1 + 1, 1, none⟩ (.int .i64 0)).setCell ⟨w.heap.size + 1 + 1 + 1 + 1, 2, none⟩ (.slice none 0 0)).setCell ⟨w.heap.size + 1 + 1 + 1 + 1 + 1, 0, none⟩ (.int .i64 10)) = WF at *
  have n0 : WF.cell? ⟨w.heap.size + 1 + 1 + 1 + 1, 0, none⟩ = some (.int .i64 0) := World.news_of_block hR3 0 _ rfl
  have n1 : WF.cell? ⟨w.heap.size + 1 + 1 + 1 + 1, 1, none⟩ = some (.int .i64 0) := World.news_of_block hR3 1 _ rfl
  have n2 : WF.cell? ⟨w.heap.size + 1 + 1 + 1 + 1, 2, none⟩ = some (.slice none 0 0) := World.news_of_block hR3 2 _ rfl
  have n3 : WF.cell? ⟨w.heap.size + 1 + 1 + 1 + 1 + 1, 0, none⟩ = some (.int .i64 10) := World.news_of_block hE3 0 _ rfl
  refine bodyPost_ret (v := poseEV (0, 0) (.slice none 0 0) 10) (by simp [results, Try.results26, go_sem, n0, n1, n2, n3, poseEV]) rfl ?_
  rw [← HPo.out]
  unfold BackR
  rw [HR.out]
  exact ⟨_, rfl, .inl ⟨none, 0, rfl, rfl⟩, ER2⟩
set_option maxRecDepth 100000 in
set_option maxHeartbeats 6400000 in
theorem Back_steer (o1 o2 l1 l2 : Int) (w : World) (hs : Sl 11 RUnit w vu v.units) (hp : Pts w vp ps) (hst : Sl 1 RNum w vst st) (h : poseE v (o1, o2) ps = 0) (h2 : okPt (l1, l2) = true) (h3 : backB v.units = true) (h4 : ¬ steerE v st = 0) :
    Calls Try.prog 26 #[vehV v vu, poseV (o1, o2) vp, .agg #[.int .i64 l1, .int .i64 l2], vst] w (BackR v (o1, o2) ps (l1, l2) st w) := by
  have CC := fun w' (h : Ext w w') => CheckPose_c (lead := (o1, o2)) w' (hs.ext RUnit.stable h) (hp.ext h)
  rw [h] at CC
  have C1 := fun w => Check_c l1 l2 w
  rw [show checkS (l1, l2) = 0 by simp [checkS, h2]] at C1
  have CF := fun w' (h' : Ext w w') => backs_c vu v.units w' (hs.ext RUnit.stable h')
  rw [h3] at CF
  have C2 := fun w' (h' : Ext w w') => checkSteer_c vu vst v st w' (hs.ext RUnit.stable h') (hst.ext RNum.stable h') (puts_len h).2.1
  have HR := Lib.hid (backS_steer h h2 h3 h4)
  obtain ⟨A, cap, rfl, hl, hl2⟩ := hs.shape
  obtain ⟨Ap, capp, rfl⟩ := pts_shape hp
  obtain ⟨As, caps, rfl, hls, hls2⟩ := hst.shape
  obtain ⟨Post, hPost⟩ : ∃ Post, BackR v (o1, o2) ps (l1, l2) st w = Post := ⟨_, rfl⟩
  rw [hPost]
  have HPo := Lib.hid hPost
  unfold vehV poseV at *
  simp only at CC C2 ⊢
  have HN := h4
  generalize steerE v st = SE at *
  replace CC := Lib.hid CC
  replace C1 := Lib.hid C1
  replace CF := Lib.hid CF
  replace C2 := Lib.hid C2
  clear hs hp hst h h3 h4 hPost
  go_enter Try.func26, Try.ntmps26
  go_upto_region 10 with (first | (go_at_call 14; refine (CC.out _ (by (repeat' (first | exact Ext.refl _ | assumption | refine Ext.alloc ?_ _ | refine Ext.drew ?_ | refine Ext.drewN ?_ _ | refine Ext.set ?_ (by first | exact Nat.le_refl _ | exact le1 _ | exact le2 _ | exact le3 _ | exact le4 _ | exact le5 _ | exact le6 _) _ | refine Ext.trans ?_ (by assumption))))).mono ?_; rintro e w1 ⟨rfl, hb⟩; have y0 := Ext.cell hb (p := ⟨w.heap.size, 0, none⟩) (v := .string v.name) (by go_simp); have y1 := Ext.cell hb (p := ⟨w.heap.size, 1, none⟩) (v := .slice A v.units.length cap) (by go_simp); have y2 := Ext.cell hb (p := ⟨w.heap.size, 2, none⟩) (v := .int .i64 v.first) (by go_simp); have y3 := Ext.cell hb (p := ⟨w.heap.size, 3, none⟩) (v := .int .i64 v.last) (by go_simp); have t0 := Ext.cell hb (p := ⟨w.heap.size + 1, 0, none⟩) (v := .int .i64 o1) (by go_simp); have t1 := Ext.cell hb (p := ⟨w.heap.size + 1, 1, none⟩) (v := .int .i64 o2) (by go_simp); have t2 := Ext.cell hb (p := ⟨w.heap.size + 1, 2, none⟩) (v := .slice Ap ps.length capp) (by go_simp); have L0 := Ext.cell hb (p := ⟨w.heap.size + 1 + 1, 0, none⟩) (v := .int .i64 l1) (by go_simp); have L1 := Ext.cell hb (p := ⟨w.heap.size + 1 + 1, 1, none⟩) (v := .int .i64 l2) (by go_simp); have S0 := Ext.cell hb (p := ⟨w.heap.size + 1 + 1 + 1, 0, none⟩) (v := .slice As st.length caps) (by go_simp); have hR : w1.heap[w.heap.size + 1 + 1 + 1 + 1]? = some (.cells #[.int .i64 0, .int .i64 0, .slice none 0 0] 29 (0, 0)) := (hb.block _ (by simp)).trans (heap_old (new_at (by simp))); have hE : w1.heap[w.heap.size + 1 + 1 + 1 + 1 + 1]? = some (.cells #[.int .i64 0] 32 (0, 0)) := (hb.block _ (by simp)).trans (new_at (by simp)); have E3 : Ext w w1 := (((((((Ext.refl w).alloc _).alloc _).alloc _).alloc _).alloc _).alloc _).trans hb; clear hb) | (go_at_call 40; refine (C1.out _).mono ?_; rintro e w2 ⟨rfl, hb⟩; replace y0 := Ext.cell hb y0; replace y1 := Ext.cell hb y1; replace y2 := Ext.cell hb y2; replace y3 := Ext.cell hb y3; replace t0 := Ext.cell hb t0; replace t1 := Ext.cell hb t1; replace t2 := Ext.cell hb t2; replace L0 := Ext.cell hb L0; replace L1 := Ext.cell hb L1; replace S0 := Ext.cell hb S0; replace hR := hb.blk hR; replace hE := hb.blk hE; replace E3 := E3.trans hb; clear hb) | (go_at_call 62; refine (CF.out _ E3).mono ?_; rintro e w4 ⟨rfl, hb⟩; replace y0 := Ext.cell hb y0; replace y1 := Ext.cell hb y1; replace y2 := Ext.cell hb y2; replace y3 := Ext.cell hb y3; replace t0 := Ext.cell hb t0; replace t1 := Ext.cell hb t1; replace t2 := Ext.cell hb t2; replace L0 := Ext.cell hb L0; replace L1 := Ext.cell hb L1; replace S0 := Ext.cell hb S0; replace hR := hb.blk hR; replace hE := hb.blk hE; replace E3 := E3.trans hb; clear hb) | (go_at_call 55; refine (C2.out _ E3).mono ?_; rintro e w3 ⟨rfl, hb⟩; replace y0 := Ext.cell hb y0; replace y1 := Ext.cell hb y1; replace y2 := Ext.cell hb y2; replace y3 := Ext.cell hb y3; replace t0 := Ext.cell hb t0; replace t1 := Ext.cell hb t1; replace t2 := Ext.cell hb t2; replace L0 := Ext.cell hb L0; replace L1 := Ext.cell hb L1; replace S0 := Ext.cell hb S0; replace hR := hb.blk hR; replace hE := hb.blk hE; replace E3 := E3.trans hb; clear hb; have r0 : w3.cell? ⟨w.heap.size + 1 + 1 + 1 + 1, 0, none⟩ = some (.int .i64 0) := World.news_of_block hR 0 _ rfl; have r1 : w3.cell? ⟨w.heap.size + 1 + 1 + 1 + 1, 1, none⟩ = some (.int .i64 0) := World.news_of_block hR 1 _ rfl; have r2 : w3.cell? ⟨w.heap.size + 1 + 1 + 1 + 1, 2, none⟩ = some (.slice none 0 0) := World.news_of_block hR 2 _ rfl; have e0 : w3.cell? ⟨w.heap.size + 1 + 1 + 1 + 1 + 1, 0, none⟩ = some (.int .i64 0) := World.news_of_block hE 0 _ rfl; have f0 := blk_frz hR 0; have f1 := blk_frz hR 1; have f2 := blk_frz hR 2; have fe := blk_frz hE 0; have hlR := fst_lt hR; have hlE := fst_lt hE; have hly := lt_of_cell y0; have hlt := lt_of_cell t0; have hlL := lt_of_cell L0; have hlS := lt_of_cell S0))
  go_wp2_with fail
  have hR2 := three_set (.int .i64 0) (.int .i64 0) (.slice none 0 0) hR
  have hE2 : (((w3.setCell ⟨w.heap.size + 1 + 1 + 1 + 1, 0, none⟩ (.int .i64 0)).setCell ⟨w.heap.size + 1 + 1 + 1 + 1, 1, none⟩ (.int .i64 0)).setCell ⟨w.heap.size + 1 + 1 + 1 + 1, 2, none⟩ (.slice none 0 0)).heap[w.heap.size + 1 + 1 + 1 + 1 + 1]? = some (.cells #[.int .i64 0] 32 (0, 0)) := (heap_ne (by omega)).trans ((heap_ne (by omega)).trans ((heap_ne (by omega)).trans hE))
  have hR3 : ((((w3.setCell ⟨w.heap.size + 1 + 1 + 1 + 1, 0, none⟩ (.int .i64 0)).setCell ⟨w.heap.size + 1 + 1 + 1 + 1, 1, none⟩ (.int .i64 0)).setCell ⟨w.heap.size + 1 + 1 + 1 + 1, 2, none⟩ (.slice none 0 0)).setCell ⟨w.heap.size + 1 + 1 + 1 + 1 + 1, 0, none⟩ (.int .i64 SE)).heap[w.heap.size + 1 + 1 + 1 + 1]? = some (.cells #[.int .i64 0, .int .i64 0, .slice none 0 0] 29 (0, 0)) := (heap_ne (by omega)).trans hR2
  have hE3 := one_set (.int .i64 SE) hE2
  have ER2 := (((E3.set (p := ⟨w.heap.size + 1 + 1 + 1 + 1, 0, none⟩) (le4 _) (.int .i64 0)).set (p := ⟨w.heap.size + 1 + 1 + 1 + 1, 1, none⟩) (le4 _) (.int .i64 0)).set (p := ⟨w.heap.size + 1 + 1 + 1 + 1, 2, none⟩) (le4 _) (.slice none 0 0)).set (p := ⟨w.heap.size + 1 + 1 + 1 + 1 + 1, 0, none⟩) (le5 _) (.int .i64 SE)
  generalize ((((w3.setCell ⟨w.heap.size + 1 + 1 + 1 + 1, 0, none⟩ (.int .i64 0)).setCell ⟨w.heap.size + 1 + 1 + 1 + 1, 1, none⟩ (.int .i64 0)).setCell ⟨w.heap.size + 1 + 1 + 1 + 1, 2, none⟩ (.slice none 0 0)).setCell ⟨w.heap.size + 1 + 1 + 1 + 1 + 1, 0, none⟩ (.int .i64 SE)) = WF at *
  have n0 : WF.cell? ⟨w.heap.size + 1 + 1 + 1 + 1, 0, none⟩ = some (.int .i64 0) := World.news_of_block hR3 0 _ rfl
  have n1 : WF.cell? ⟨w.heap.size + 1 + 1 + 1 + 1, 1, none⟩ = some (.int .i64 0) := World.news_of_block hR3 1 _ rfl
  have n2 : WF.cell? ⟨w.heap.size + 1 + 1 + 1 + 1, 2, none⟩ = some (.slice none 0 0) := World.news_of_block hR3 2 _ rfl
  have n3 : WF.cell? ⟨w.heap.size + 1 + 1 + 1 + 1 + 1, 0, none⟩ = some (.int .i64 SE) := World.news_of_block hE3 0 _ rfl
  refine bodyPost_ret (v := poseEV (0, 0) (.slice none 0 0) SE) (by simp [results, Try.results26, go_sem, n0, n1, n2, n3, poseEV]) rfl ?_
  rw [← HPo.out]
  unfold BackR
  rw [HR.out]
  exact ⟨_, rfl, .inl ⟨none, 0, rfl, rfl⟩, ER2⟩
end
end Go.Proofs.Ytgikfliibimkdaa
