
/- Contract: Straight, by the program: what it refuses at once. -/
import Derived.Test.YtcbjecpfijogcaaGreatCJoint2
import Derived.Test.YtcbjecpfijogcaaGreatCStrS
import Derived.Test.YtcbjecpfijogcaaGreatCJoint
namespace Go.Proofs.YtcbjecpfijogcaaGreat
open Go.RowKit Go.Shelf

theorem three_set {W : World} {b : Nat} {t : TypeId} {x y z : Value} (u0 u1 u2 : Value) (h : W.heap[b]? = some (.cells #[x, y, z] t (0, 0))) : (((W.setCell ⟨b, 0, none⟩ u0).setCell ⟨b, 1, none⟩ u1).setCell ⟨b, 2, none⟩ u2).heap[b]? = some (.cells #[u0, u1, u2] t (0, 0)) := by
  have := blk_set 2 u2 (blk_set 1 u1 (blk_set 0 u0 h))
  simpa using this
section
variable {vu : Value} {v : CVeh}
set_option maxRecDepth 100000 in
set_option maxHeartbeats 1600000 in
theorem Straight_veh (l1 l2 b1 b2 : Int) (w : World) (hs : Sl 11 RUnit w vu v.units) (h : ¬ vehE v = 0) :
    Calls Tryz.prog 26 #[vehV v vu, .agg #[.int .i64 l1, .int .i64 l2], .agg #[.int .i64 b1, .int .i64 b2]] w (StrR v (l1, l2) (b1, b2) w) := by
  have CV := fun w' (h : Ext w w') => VCheck_c vu v w' (hs.ext RUnit.stable h)
  obtain ⟨A, cap, rfl, hl, hl2⟩ := hs.shape
  have HR := Lib.hid (straightS_veh (lead := (l1, l2)) (behind := (b1, b2)) h)
  obtain ⟨Post, hPost⟩ : ∃ Post, StrR v (l1, l2) (b1, b2) w = Post := ⟨_, rfl⟩
  rw [hPost]
  have HPo := Lib.hid hPost
  clear hPost
  unfold vehV at *
  have HN := h
  generalize vehE v = E at *
  replace CV := Lib.hid CV
  clear hs h
  go_enter Tryz.func26, Tryz.ntmps26
  go_wp2_with (go_at_call 38; refine (CV.out _ (by (repeat' (first | exact Ext.refl _ | assumption | refine Ext.alloc ?_ _ | refine Ext.drew ?_ | refine Ext.drewN ?_ _ | refine Ext.set ?_ (by first | exact Nat.le_refl _ | exact le1 _ | exact le2 _ | exact le3 _ | exact le4 _ | exact le5 _ | exact le6 _) _ | refine Ext.trans ?_ (by assumption))))).mono ?_; rintro e w1 ⟨rfl, hb1⟩; obtain ⟨hc, hf⟩ := bcell hb1)
  refine bodyPost_ret (v := poseEV (0, 0) (.slice none 0 0) E) (by simp [results, Tryz.results26, go_sem, hc, poseEV]) rfl ?_
  rw [← HPo.out]
  unfold StrR
  rw [HR.out]
  exact ⟨_, rfl, .inl ⟨none, 0, rfl, rfl⟩, by (repeat' (first | exact Ext.refl _ | assumption | refine Ext.alloc ?_ _ | refine Ext.drew ?_ | refine Ext.drewN ?_ _ | refine Ext.set ?_ (by first | exact Nat.le_refl _ | exact le1 _ | exact le2 _ | exact le3 _ | exact le4 _ | exact le5 _ | exact le6 _) _ | refine Ext.trans ?_ (by assumption)))⟩
set_option maxRecDepth 100000 in
set_option maxHeartbeats 1600000 in
theorem Straight_pts (l1 l2 b1 b2 : Int) (w : World) (hs : Sl 11 RUnit w vu v.units) (h : vehE v = 0) (h2 : (okPt (l1, l2) && okPt (b1, b2)) = false) :
    Calls Tryz.prog 26 #[vehV v vu, .agg #[.int .i64 l1, .int .i64 l2], .agg #[.int .i64 b1, .int .i64 b2]] w (StrR v (l1, l2) (b1, b2) w) := by
  have CV := fun w' (h : Ext w w') => VCheck_c vu v w' (hs.ext RUnit.stable h)
  rw [h] at CV
  obtain ⟨A, cap, rfl, hl, hl2⟩ := hs.shape
  have C1 := fun w => Check_c l1 l2 w
  have C2 := fun w => Check_c b1 b2 w
  have HR := Lib.hid (straightS_pts (lead := (l1, l2)) (behind := (b1, b2)) h h2)
  obtain ⟨Post, hPost⟩ : ∃ Post, StrR v (l1, l2) (b1, b2) w = Post := ⟨_, rfl⟩
  rw [hPost]
  have HPo := Lib.hid hPost
  clear hPost
  unfold vehV at *
  replace CV := Lib.hid CV
  clear hs h
  cases h3 : okPt (l1, l2)
  case true =>
    rw [h3, Bool.true_and] at h2
    rw [show checkS (l1, l2) = 0 by simp [checkS, h3]] at C1
    rw [show checkS (b1, b2) = 2 by simp [checkS, h2]] at C2
    replace C1 := Lib.hid C1
    replace C2 := Lib.hid C2
    clear h2 h3
    go_enter Tryz.func26, Tryz.ntmps26
    go_wp2_with (first | (go_at_call 38; refine (CV.out _ (by (repeat' (first | exact Ext.refl _ | assumption | refine Ext.alloc ?_ _ | refine Ext.drew ?_ | refine Ext.drewN ?_ _ | refine Ext.set ?_ (by first | exact Nat.le_refl _ | exact le1 _ | exact le2 _ | exact le3 _ | exact le4 _ | exact le5 _ | exact le6 _) _ | refine Ext.trans ?_ (by assumption))))).mono ?_; rintro e w1 ⟨rfl, hb⟩; obtain ⟨hc, hf⟩ := bcell hb; have hz := hb.sz; simp only [size_alloc] at hz) | (go_at_call 43; first | (refine (C1.out _).mono ?_; rintro e w2 ⟨rfl, hb2⟩; (first | (replace hb := Ext.trans hb hb2; clear hb2 hc hf; obtain ⟨hc, hf⟩ := bcell hb) | (obtain ⟨hc, hf⟩ := bcell hb2; have hb := hb2; clear hb2)); have hz := Ext.sz hb; repeat (first | rw [size_alloc] at hz | rw [size_drewN] at hz | rw [size_drew] at hz | rw [size_setCell] at hz)) | (refine (C2.out _).mono ?_; rintro e w3 ⟨rfl, hb2⟩; (first | (replace hb := Ext.trans hb hb2; clear hb2 hc hf; obtain ⟨hc, hf⟩ := bcell hb) | (obtain ⟨hc, hf⟩ := bcell hb2; have hb := hb2; clear hb2)); have hz := Ext.sz hb; repeat (first | rw [size_alloc] at hz | rw [size_drewN] at hz | rw [size_drew] at hz | rw [size_setCell] at hz))))
    refine bodyPost_ret (v := poseEV (0, 0) (.slice none 0 0) 2) (by simp [results, Tryz.results26, go_sem, hc, poseEV]) rfl ?_
    rw [← HPo.out]
    unfold StrR
    rw [HR.out]
    exact ⟨_, rfl, .inl ⟨none, 0, rfl, rfl⟩, by (repeat' (first | exact Ext.refl _ | assumption | refine Ext.alloc ?_ _ | refine Ext.drew ?_ | refine Ext.drewN ?_ _ | refine Ext.set ?_ (by first | exact Nat.le_refl _ | exact le1 _ | exact le2 _ | exact le3 _ | exact le4 _ | exact le5 _ | exact le6 _) _ | refine Ext.trans ?_ (by assumption)))⟩
  case false =>
    rw [show checkS (l1, l2) = 2 by simp [checkS, h3]] at C1
    replace C1 := Lib.hid C1
    clear h2 h3 C2
    go_enter Tryz.func26, Tryz.ntmps26
    go_wp2_with (first | (go_at_call 38; refine (CV.out _ (by (repeat' (first | exact Ext.refl _ | assumption | refine Ext.alloc ?_ _ | refine Ext.drew ?_ | refine Ext.drewN ?_ _ | refine Ext.set ?_ (by first | exact Nat.le_refl _ | exact le1 _ | exact le2 _ | exact le3 _ | exact le4 _ | exact le5 _ | exact le6 _) _ | refine Ext.trans ?_ (by assumption))))).mono ?_; rintro e w1 ⟨rfl, hb⟩; obtain ⟨hc, hf⟩ := bcell hb; have hz := hb.sz; simp only [size_alloc] at hz) | (go_at_call 43; refine (C1.out _).mono ?_; rintro e w2 ⟨rfl, hb2⟩; (first | (replace hb := Ext.trans hb hb2; clear hb2 hc hf; obtain ⟨hc, hf⟩ := bcell hb) | (obtain ⟨hc, hf⟩ := bcell hb2; have hb := hb2; clear hb2)); have hz := Ext.sz hb; repeat (first | rw [size_alloc] at hz | rw [size_drewN] at hz | rw [size_drew] at hz | rw [size_setCell] at hz)))
    refine bodyPost_ret (v := poseEV (0, 0) (.slice none 0 0) 2) (by simp [results, Tryz.results26, go_sem, hc, poseEV]) rfl ?_
    rw [← HPo.out]
    unfold StrR
    rw [HR.out]
    exact ⟨_, rfl, .inl ⟨none, 0, rfl, rfl⟩, by (repeat' (first | exact Ext.refl _ | assumption | refine Ext.alloc ?_ _ | refine Ext.drew ?_ | refine Ext.drewN ?_ _ | refine Ext.set ?_ (by first | exact Nat.le_refl _ | exact le1 _ | exact le2 _ | exact le3 _ | exact le4 _ | exact le5 _ | exact le6 _) _ | refine Ext.trans ?_ (by assumption)))⟩
end
end Go.Proofs.YtcbjecpfijogcaaGreat
