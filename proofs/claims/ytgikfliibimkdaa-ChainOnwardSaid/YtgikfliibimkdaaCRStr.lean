/- Contract: Straight, by the reference: what it refuses at once. -/
import Derived.Test.YtgikfliibimkdaaCStr
import Derived.Test.YtgikfliibimkdaaCRPose
namespace Go.Proofs.Ytgikfliibimkdaa
open Go.RowKit Go.Shelf

section
variable {vu : Value} {v : CVeh}
set_option maxRecDepth 100000 in
set_option maxHeartbeats 1600000 in
theorem RStraight_veh (l1 l2 b1 b2 : Int) (w : World) (hs : Sl 11 RUnit w vu v.units) (h : ¬ vehE v = 0) :
    Calls Try.prog 12 #[vehV v vu, .agg #[.int .i64 l1, .int .i64 l2], .agg #[.int .i64 b1, .int .i64 b2]] w (StrR v (l1, l2) (b1, b2) w) := by
  have CV := fun w' (h : Ext w w') => RVCheck_c vu v w' (hs.ext RUnit.stable h)
  obtain ⟨A, cap, rfl, hl, hl2⟩ := hs.shape
  have HR := Lib.hid (straightS_veh (lead := (l1, l2)) (behind := (b1, b2)) h)
  obtain ⟨Post, hPost⟩ : ∃ Post, StrR v (l1, l2) (b1, b2) w = Post := ⟨_, rfl⟩
  rw [hPost]
  have HPo := Lib.hid hPost
  clear hPost
  unfold vehV at *
  have HN := h
  generalize vehE v = E at *
  replace CV := Lib.hid CV
  clear hs h
  go_enter Try.func12, Try.ntmps12
  go_wp2_with (go_at_call 46; refine (CV.out _ (by (repeat' (first | exact Ext.refl _ | assumption | refine Ext.alloc ?_ _ | refine Ext.drew ?_ | refine Ext.drewN ?_ _ | refine Ext.set ?_ (by first | exact Nat.le_refl _ | exact le1 _ | exact le2 _ | exact le3 _ | exact le4 _ | exact le5 _ | exact le6 _) _ | refine Ext.trans ?_ (by assumption))))).mono ?_; rintro e w1 ⟨rfl, hb1⟩; obtain ⟨hc, hf⟩ := bcell hb1)
  refine bodyPost_ret (v := poseEV (0, 0) (.slice none 0 0) E) (by simp [results, Try.results12, go_sem, hc, poseEV]) rfl ?_
  rw [← HPo.out]
  unfold StrR
  rw [HR.out]
  exact ⟨_, rfl, .inl ⟨none, 0, rfl, rfl⟩, by (repeat' (first | exact Ext.refl _ | assumption | refine Ext.alloc ?_ _ | refine Ext.drew ?_ | refine Ext.drewN ?_ _ | refine Ext.set ?_ (by first | exact Nat.le_refl _ | exact le1 _ | exact le2 _ | exact le3 _ | exact le4 _ | exact le5 _ | exact le6 _) _ | refine Ext.trans ?_ (by assumption)))⟩
set_option maxRecDepth 100000 in
set_option maxHeartbeats 1600000 in
theorem RStraight_pts (l1 l2 b1 b2 : Int) (w : World) (hs : Sl 11 RUnit w vu v.units) (h : vehE v = 0) (h2 : (okPt (l1, l2) && okPt (b1, b2)) = false) :
    Calls Try.prog 12 #[vehV v vu, .agg #[.int .i64 l1, .int .i64 l2], .agg #[.int .i64 b1, .int .i64 b2]] w (StrR v (l1, l2) (b1, b2) w) := by
  have CV := fun w' (h : Ext w w') => RVCheck_c vu v w' (hs.ext RUnit.stable h)
  rw [h] at CV
  obtain ⟨A, cap, rfl, hl, hl2⟩ := hs.shape
  have C1 := fun w => Is_c l1 l2 w
  have C2 := fun w => Is_c b1 b2 w
  have HR := Lib.hid (straightS_pts (lead := (l1, l2)) (behind := (b1, b2)) h h2)
  obtain ⟨Post, hPost⟩ : ∃ Post, StrR v (l1, l2) (b1, b2) w = Post := ⟨_, rfl⟩
  rw [hPost]
  have HPo := Lib.hid hPost
  clear hPost
  unfold vehV at *
  replace CV := Lib.hid CV
  clear hs h
  cases h3 : okPt (l1, l2)
  case true =>
    rw [h3, Bool.true_and] at h2
    rw [h3] at C1
    rw [h2] at C2
    replace C1 := Lib.hid C1
    replace C2 := Lib.hid C2
    clear h2 h3
    go_enter Try.func12, Try.ntmps12
    go_upto_region 5 with (first | (go_at_call 46; refine (CV.out _ (by (repeat' (first | exact Ext.refl _ | assumption | refine Ext.alloc ?_ _ | refine Ext.drew ?_ | refine Ext.drewN ?_ _ | refine Ext.set ?_ (by first | exact Nat.le_refl _ | exact le1 _ | exact le2 _ | exact le3 _ | exact le4 _ | exact le5 _ | exact le6 _) _ | refine Ext.trans ?_ (by assumption))))).mono ?_; rintro e w1 ⟨rfl, hb⟩; have L0 := Ext.cell hb (p := ⟨w.heap.size + 1, 0, none⟩) (v := .int .i64 l1) (by go_simp); have L1 := Ext.cell hb (p := ⟨w.heap.size + 1, 1, none⟩) (v := .int .i64 l2) (by go_simp); have B0 := Ext.cell hb (p := ⟨w.heap.size + 1 + 1, 0, none⟩) (v := .int .i64 b1) (by go_simp); have B1 := Ext.cell hb (p := ⟨w.heap.size + 1 + 1, 1, none⟩) (v := .int .i64 b2) (by go_simp); have hR : w1.heap[w.heap.size + 1 + 1 + 1]? = some (.cells #[.int .i64 0, .int .i64 0, .slice none 0 0] 29 (0, 0)) := (hb.block _ (by simp)).trans (new_at (by simp)); have E3 : Ext w w1 := (((((Ext.refl w).alloc _).alloc _).alloc _).alloc _).trans hb; clear hb) | (go_at_call 47; first | (refine (C1.out _).mono ?_; rintro e w2 ⟨rfl, hb2⟩; clear C1; replace L0 := Ext.cell hb2 L0; replace L1 := Ext.cell hb2 L1; replace B0 := Ext.cell hb2 B0; replace B1 := Ext.cell hb2 B1; replace hR := (hb2.block _ (Array.getElem?_eq_some_iff.1 hR).1).trans hR; replace E3 := E3.trans hb2; clear hb2) | (refine (C2.out _).mono ?_; rintro e w3 ⟨rfl, hb2⟩; replace L0 := Ext.cell hb2 L0; replace L1 := Ext.cell hb2 L1; replace B0 := Ext.cell hb2 B0; replace B1 := Ext.cell hb2 B1; replace hR := (hb2.block _ (Array.getElem?_eq_some_iff.1 hR).1).trans hR; replace E3 := E3.trans hb2; clear hb2; have r0 : w3.cell? ⟨w.heap.size + 1 + 1 + 1, 0, none⟩ = some (.int .i64 0) := World.news_of_block hR 0 _ rfl; have r1 : w3.cell? ⟨w.heap.size + 1 + 1 + 1, 1, none⟩ = some (.int .i64 0) := World.news_of_block hR 1 _ rfl; have r2 : w3.cell? ⟨w.heap.size + 1 + 1 + 1, 2, none⟩ = some (.slice none 0 0) := World.news_of_block hR 2 _ rfl; have f0 := blk_frz hR 0; have f1 := blk_frz hR 1; have f2 := blk_frz hR 2)))
    go_wp2_with fail
    have hR2 := three_set (.int .i64 0) (.int .i64 0) (.slice none 0 0) hR
    have ER2 := ((E3.set (p := ⟨w.heap.size + 1 + 1 + 1, 0, none⟩) (le3 _) (.int .i64 0)).set (p := ⟨w.heap.size + 1 + 1 + 1, 1, none⟩) (le3 _) (.int .i64 0)).set (p := ⟨w.heap.size + 1 + 1 + 1, 2, none⟩) (le3 _) (.slice none 0 0)
    generalize (((w3.setCell ⟨w.heap.size + 1 + 1 + 1, 0, none⟩ (.int .i64 0)).setCell ⟨w.heap.size + 1 + 1 + 1, 1, none⟩ (.int .i64 0)).setCell ⟨w.heap.size + 1 + 1 + 1, 2, none⟩ (.slice none 0 0)) = WF at *
    have n0 : WF.cell? ⟨w.heap.size + 1 + 1 + 1, 0, none⟩ = some (.int .i64 0) := World.news_of_block hR2 0 _ rfl
    have n1 : WF.cell? ⟨w.heap.size + 1 + 1 + 1, 1, none⟩ = some (.int .i64 0) := World.news_of_block hR2 1 _ rfl
    have n2 : WF.cell? ⟨w.heap.size + 1 + 1 + 1, 2, none⟩ = some (.slice none 0 0) := World.news_of_block hR2 2 _ rfl
    refine bodyPost_ret (v := poseEV (0, 0) (.slice none 0 0) 2) (by simp [results, Try.results12, go_sem, n0, n1, n2, poseEV]) rfl ?_
    rw [← HPo.out]
    unfold StrR
    rw [HR.out]
    exact ⟨_, rfl, .inl ⟨none, 0, rfl, rfl⟩, ER2⟩
  case false =>
    rw [h3] at C1
    replace C1 := Lib.hid C1
    clear h2 h3 C2
    go_enter Try.func12, Try.ntmps12
    go_upto_region 5 with (first | (go_at_call 46; refine (CV.out _ (by (repeat' (first | exact Ext.refl _ | assumption | refine Ext.alloc ?_ _ | refine Ext.drew ?_ | refine Ext.drewN ?_ _ | refine Ext.set ?_ (by first | exact Nat.le_refl _ | exact le1 _ | exact le2 _ | exact le3 _ | exact le4 _ | exact le5 _ | exact le6 _) _ | refine Ext.trans ?_ (by assumption))))).mono ?_; rintro e w1 ⟨rfl, hb⟩; have L0 := Ext.cell hb (p := ⟨w.heap.size + 1, 0, none⟩) (v := .int .i64 l1) (by go_simp); have L1 := Ext.cell hb (p := ⟨w.heap.size + 1, 1, none⟩) (v := .int .i64 l2) (by go_simp); have B0 := Ext.cell hb (p := ⟨w.heap.size + 1 + 1, 0, none⟩) (v := .int .i64 b1) (by go_simp); have B1 := Ext.cell hb (p := ⟨w.heap.size + 1 + 1, 1, none⟩) (v := .int .i64 b2) (by go_simp); have hR : w1.heap[w.heap.size + 1 + 1 + 1]? = some (.cells #[.int .i64 0, .int .i64 0, .slice none 0 0] 29 (0, 0)) := (hb.block _ (by simp)).trans (new_at (by simp)); have E3 : Ext w w1 := (((((Ext.refl w).alloc _).alloc _).alloc _).alloc _).trans hb; clear hb) | (go_at_call 47; (refine (C1.out _).mono ?_; rintro e w3 ⟨rfl, hb2⟩; replace L0 := Ext.cell hb2 L0; replace L1 := Ext.cell hb2 L1; replace B0 := Ext.cell hb2 B0; replace B1 := Ext.cell hb2 B1; replace hR := (hb2.block _ (Array.getElem?_eq_some_iff.1 hR).1).trans hR; replace E3 := E3.trans hb2; clear hb2; have r0 : w3.cell? ⟨w.heap.size + 1 + 1 + 1, 0, none⟩ = some (.int .i64 0) := World.news_of_block hR 0 _ rfl; have r1 : w3.cell? ⟨w.heap.size + 1 + 1 + 1, 1, none⟩ = some (.int .i64 0) := World.news_of_block hR 1 _ rfl; have r2 : w3.cell? ⟨w.heap.size + 1 + 1 + 1, 2, none⟩ = some (.slice none 0 0) := World.news_of_block hR 2 _ rfl; have f0 := blk_frz hR 0; have f1 := blk_frz hR 1; have f2 := blk_frz hR 2)))
    go_wp2_with fail
    have hR2 := three_set (.int .i64 0) (.int .i64 0) (.slice none 0 0) hR
    have ER2 := ((E3.set (p := ⟨w.heap.size + 1 + 1 + 1, 0, none⟩) (le3 _) (.int .i64 0)).set (p := ⟨w.heap.size + 1 + 1 + 1, 1, none⟩) (le3 _) (.int .i64 0)).set (p := ⟨w.heap.size + 1 + 1 + 1, 2, none⟩) (le3 _) (.slice none 0 0)
    generalize (((w3.setCell ⟨w.heap.size + 1 + 1 + 1, 0, none⟩ (.int .i64 0)).setCell ⟨w.heap.size + 1 + 1 + 1, 1, none⟩ (.int .i64 0)).setCell ⟨w.heap.size + 1 + 1 + 1, 2, none⟩ (.slice none 0 0)) = WF at *
    have n0 : WF.cell? ⟨w.heap.size + 1 + 1 + 1, 0, none⟩ = some (.int .i64 0) := World.news_of_block hR2 0 _ rfl
    have n1 : WF.cell? ⟨w.heap.size + 1 + 1 + 1, 1, none⟩ = some (.int .i64 0) := World.news_of_block hR2 1 _ rfl
    have n2 : WF.cell? ⟨w.heap.size + 1 + 1 + 1, 2, none⟩ = some (.slice none 0 0) := World.news_of_block hR2 2 _ rfl
    refine bodyPost_ret (v := poseEV (0, 0) (.slice none 0 0) 2) (by simp [results, Try.results12, go_sem, n0, n1, n2, poseEV]) rfl ?_
    rw [← HPo.out]
    unfold StrR
    rw [HR.out]
    exact ⟨_, rfl, .inl ⟨none, 0, rfl, rfl⟩, ER2⟩
set_option maxRecDepth 100000 in
set_option maxHeartbeats 1600000 in
theorem RStraight_same (l1 l2 : Int) (w : World) (hs : Sl 11 RUnit w vu v.units) (h : vehE v = 0) (h2 : okPt (l1, l2) = true) :
    Calls Try.prog 12 #[vehV v vu, .agg #[.int .i64 l1, .int .i64 l2], .agg #[.int .i64 l1, .int .i64 l2]] w (StrR v (l1, l2) (l1, l2) w) := by
  have CV := fun w' (h : Ext w w') => RVCheck_c vu v w' (hs.ext RUnit.stable h)
  rw [h] at CV
  obtain ⟨A, cap, rfl, hl, hl2⟩ := hs.shape
  have C1 := fun w => Is_c l1 l2 w
  rw [h2] at C1
  obtain ⟨u0, us, hus⟩ : ∃ u0 us, v.units = u0 :: us := by
    have hln := vehE_len h
    match hv : v.units with
    | [] => rw [hv] at hln; simp at hln
    | u :: us => exact ⟨u, us, rfl⟩
  have hvu := vehE_units h u0 (by rw [hus]; simp)
  have hpb := pulled_bds hvu
  have hub := unitB_bds hvu
  have hr0 := straightS_go h h2 h2 hus (pullS_same h2 (inB_iff.2 (show 1 ≤ pulledN u0 ∧ pulledN u0 ≤ 16777216 by omega))) rfl
  rw [if_neg (by decide)] at hr0
  have HR := Lib.hid hr0
  obtain ⟨Post, hPost⟩ : ∃ Post, StrR v (l1, l2) (l1, l2) w = Post := ⟨_, rfl⟩
  rw [hPost]
  have HPo := Lib.hid hPost
  unfold vehV at *
  replace CV := Lib.hid CV
  replace C1 := Lib.hid C1
  clear hPost hs h h2 hvu hpb hub hr0 hus
  go_enter Try.func12, Try.ntmps12
  go_wp2_with (first | (go_at_call 46; refine (CV.out _ (by (repeat' (first | exact Ext.refl _ | assumption | refine Ext.alloc ?_ _ | refine Ext.drew ?_ | refine Ext.drewN ?_ _ | refine Ext.set ?_ (by first | exact Nat.le_refl _ | exact le1 _ | exact le2 _ | exact le3 _ | exact le4 _ | exact le5 _ | exact le6 _) _ | refine Ext.trans ?_ (by assumption))))).mono ?_; rintro e w1 ⟨rfl, hb⟩; obtain ⟨hc, hf⟩ := bcell hb; have hz := hb.sz; simp only [size_alloc] at hz) | (go_at_call 47; refine (C1.out _).mono ?_; rintro e w2 ⟨rfl, hb2⟩; (first | (replace hb := Ext.trans hb hb2; clear hb2 hc hf; obtain ⟨hc, hf⟩ := bcell hb) | (obtain ⟨hc, hf⟩ := bcell hb2; have hb := hb2; clear hb2)); have hz := Ext.sz hb; repeat (first | rw [size_alloc] at hz | rw [size_drewN] at hz | rw [size_drew] at hz | rw [size_setCell] at hz)))
  refine bodyPost_ret (v := poseEV (0, 0) (.slice none 0 0) 9) (by simp [results, Try.results12, go_sem, hc, poseEV]) rfl ?_
  rw [← HPo.out]
  unfold StrR
  rw [HR.out]
  exact ⟨_, rfl, .inl ⟨none, 0, rfl, rfl⟩, by (repeat' (first | exact Ext.refl _ | assumption | refine Ext.alloc ?_ _ | refine Ext.drew ?_ | refine Ext.drewN ?_ _ | refine Ext.set ?_ (by first | exact Nat.le_refl _ | exact le1 _ | exact le2 _ | exact le3 _ | exact le4 _ | exact le5 _ | exact le6 _) _ | refine Ext.trans ?_ (by assumption)))⟩
end
end Go.Proofs.Ytgikfliibimkdaa
