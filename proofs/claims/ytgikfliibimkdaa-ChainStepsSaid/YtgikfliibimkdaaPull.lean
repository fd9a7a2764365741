
/- Contracts of Place (the reference's) and Pull (both texts). -/
import Derived.Test.YtgikfliibimkdaaTop
namespace Go.Proofs.Ytgikfliibimkdaa
open Go.RowKit

theorem placeS_2 {a h : Int × Int} {x y : Int} (h1 : (okPt a && okPt h) = false) : placeS a h x y = ((0, 0), 2) := by simp only [placeS, h1, if_true]
theorem placeS_3 {a h : Int × Int} {x y : Int} (h1 : okPt a = true) (h2 : okPt h = true) (h3 : (inB x (-16777216) 16777216 && inB y (-16777216) 16777216) = false) : placeS a h x y = ((0, 0), 3) := by simp [placeS, h1, h2, h3]
theorem placeS_9 {a : Int × Int} {x y : Int} (h1 : okPt a = true) (h3 : inB x (-16777216) 16777216 = true) (h4 : inB y (-16777216) 16777216 = true) : placeS a a x y = ((0, 0), 9) := by simp [placeS, h1, h3, h4]
theorem placeS_r {a h : Int × Int} {x y : Int} (h1 : okPt a = true) (h2 : okPt h = true) (h3 : inB x (-16777216) 16777216 = true) (h4 : inB y (-16777216) 16777216 = true) (hne : ¬ a = h) : placeS a h x y = resS (putP a h x y) := by
  simp only [placeS, h1, h2, h3, h4, Bool.and_self, Bool.true_eq_false, if_false]; rw [if_neg hne]

set_option maxRecDepth 100000 in
set_option maxHeartbeats 1600000 in
theorem RPlace_c (ax ay hx hy x y : Int) (w : World) :
    Calls Try.prog 50 #[.agg #[.int .i64 ax, .int .i64 ay], .agg #[.int .i64 hx, .int .i64 hy], .int .i64 x, .int .i64 y] w fun e w' => e = .returned (ptV (placeS (ax, ay) (hx, hy) x y)) ∧ Ext w w' := by
  cases h1 : okPt (ax, ay)
  · rw [placeS_2 (by simp [h1])]
    go_enter Try.func50, Try.ntmps50
    go_wp2_with (go_at_call 47; refine (Is_c _ _ _).mono ?_; rintro e w' ⟨rfl, hb2⟩; (first | (replace hb := Ext.trans hb hb2; clear hb2 hc hf; obtain ⟨hc, hf⟩ := bcell hb) | (obtain ⟨hc, hf⟩ := bcell hb2; have hb := hb2; clear hb2)); have hz := Ext.sz hb; repeat (first | rw [size_alloc] at hz | rw [size_drewN] at hz | rw [size_drew] at hz | rw [size_setCell] at hz))
    exact bodyPost_ret (v := ptV ((0, 0), 2)) (by simp [results, Try.results50, go_sem, hc, ptV]) rfl ⟨rfl, by (repeat' (first | exact Ext.refl _ | assumption | refine Ext.alloc ?_ _ | refine Ext.drew ?_ | refine Ext.drewN ?_ _ | refine Ext.set ?_ (by first | exact Nat.le_refl _ | exact le1 _ | exact le2 _ | exact le3 _ | exact le4 _ | exact le5 _ | exact le6 _) _ | refine Ext.trans ?_ (by assumption)))⟩
  cases h2 : okPt (hx, hy)
  · rw [placeS_2 (by simp [h2])]
    go_enter Try.func50, Try.ntmps50
    go_wp2_with (go_at_call 47; refine (Is_c _ _ _).mono ?_; rintro e w' ⟨rfl, hb2⟩; (first | (replace hb := Ext.trans hb hb2; clear hb2 hc hf; obtain ⟨hc, hf⟩ := bcell hb) | (obtain ⟨hc, hf⟩ := bcell hb2; have hb := hb2; clear hb2)); have hz := Ext.sz hb; repeat (first | rw [size_alloc] at hz | rw [size_drewN] at hz | rw [size_drew] at hz | rw [size_setCell] at hz))
    exact bodyPost_ret (v := ptV ((0, 0), 2)) (by simp [results, Try.results50, go_sem, hc, ptV]) rfl ⟨rfl, by (repeat' (first | exact Ext.refl _ | assumption | refine Ext.alloc ?_ _ | refine Ext.drew ?_ | refine Ext.drewN ?_ _ | refine Ext.set ?_ (by first | exact Nat.le_refl _ | exact le1 _ | exact le2 _ | exact le3 _ | exact le4 _ | exact le5 _ | exact le6 _) _ | refine Ext.trans ?_ (by assumption)))⟩
  cases h3 : inB x (-16777216) 16777216
  · rw [placeS_3 h1 h2 (by simp [h3])]
    go_enter Try.func50, Try.ntmps50
    go_wp2_with (first | (go_at_call 47; refine (Is_c _ _ _).mono ?_; rintro e w' ⟨rfl, hb2⟩; (first | (replace hb := Ext.trans hb hb2; clear hb2 hc hf; obtain ⟨hc, hf⟩ := bcell hb) | (obtain ⟨hc, hf⟩ := bcell hb2; have hb := hb2; clear hb2)); have hz := Ext.sz hb; repeat (first | rw [size_alloc] at hz | rw [size_drewN] at hz | rw [size_drew] at hz | rw [size_setCell] at hz)) | (go_at_call 81; refine (In_c _ _ _ _).mono ?_; rintro e w' ⟨rfl, rfl⟩))
    exact bodyPost_ret (v := ptV ((0, 0), 3)) (by simp [results, Try.results50, go_sem, hc, ptV]) rfl ⟨rfl, by (repeat' (first | exact Ext.refl _ | assumption | refine Ext.alloc ?_ _ | refine Ext.drew ?_ | refine Ext.drewN ?_ _ | refine Ext.set ?_ (by first | exact Nat.le_refl _ | exact le1 _ | exact le2 _ | exact le3 _ | exact le4 _ | exact le5 _ | exact le6 _) _ | refine Ext.trans ?_ (by assumption)))⟩
  cases h4 : inB y (-16777216) 16777216
  · rw [placeS_3 h1 h2 (by simp [h4])]
    go_enter Try.func50, Try.ntmps50
    go_wp2_with (first | (go_at_call 47; refine (Is_c _ _ _).mono ?_; rintro e w' ⟨rfl, hb2⟩; (first | (replace hb := Ext.trans hb hb2; clear hb2 hc hf; obtain ⟨hc, hf⟩ := bcell hb) | (obtain ⟨hc, hf⟩ := bcell hb2; have hb := hb2; clear hb2)); have hz := Ext.sz hb; repeat (first | rw [size_alloc] at hz | rw [size_drewN] at hz | rw [size_drew] at hz | rw [size_setCell] at hz)) | (go_at_call 81; refine (In_c _ _ _ _).mono ?_; rintro e w' ⟨rfl, rfl⟩))
    exact bodyPost_ret (v := ptV ((0, 0), 3)) (by simp [results, Try.results50, go_sem, hc, ptV]) rfl ⟨rfl, by (repeat' (first | exact Ext.refl _ | assumption | refine Ext.alloc ?_ _ | refine Ext.drew ?_ | refine Ext.drewN ?_ _ | refine Ext.set ?_ (by first | exact Nat.le_refl _ | exact le1 _ | exact le2 _ | exact le3 _ | exact le4 _ | exact le5 _ | exact le6 _) _ | refine Ext.trans ?_ (by assumption)))⟩
  by_cases hne : (ax, ay) = (hx, hy)
  · obtain ⟨rfl, rfl⟩ : ax = hx ∧ ay = hy := by simpa using hne
    rw [placeS_9 h1 h3 h4]
    clear hne
    go_enter Try.func50, Try.ntmps50
    go_wp2_with (first | (go_at_call 47; refine (Is_c _ _ _).mono ?_; rintro e w' ⟨rfl, hb2⟩; (first | (replace hb := Ext.trans hb hb2; clear hb2 hc hf; obtain ⟨hc, hf⟩ := bcell hb) | (obtain ⟨hc, hf⟩ := bcell hb2; have hb := hb2; clear hb2)); have hz := Ext.sz hb; repeat (first | rw [size_alloc] at hz | rw [size_drewN] at hz | rw [size_drew] at hz | rw [size_setCell] at hz)) | (go_at_call 81; refine (In_c _ _ _ _).mono ?_; rintro e w' ⟨rfl, rfl⟩))
    exact bodyPost_ret (v := ptV ((0, 0), 9)) (by simp [results, Try.results50, go_sem, hc, ptV]) rfl ⟨rfl, by (repeat' (first | exact Ext.refl _ | assumption | refine Ext.alloc ?_ _ | refine Ext.drew ?_ | refine Ext.drewN ?_ _ | refine Ext.set ?_ (by first | exact Nat.le_refl _ | exact le1 _ | exact le2 _ | exact le3 _ | exact le4 _ | exact le5 _ | exact le6 _) _ | refine Ext.trans ?_ (by assumption)))⟩
  · rw [placeS_r h1 h2 h3 h4 hne]
    have h5 : (ax = hx ∧ ¬ ay = hy) ∨ ¬ ax = hx := by
      by_cases e : ax = hx
      · exact .inl ⟨e, fun e2 => hne (by rw [e, e2])⟩
      · exact .inr e
    have h6 : ¬ (hx - ax = 0 ∧ hy - ay = 0) := fun h => hne (by rw [show ax = hx by omega, show ay = hy by omega])
    have hP := fun w => Put_c ax ay hx hy x y w h6 h1 h2 (inB_iff.1 h3) (inB_iff.1 h4)
    have HP := Lib.hid hP
    clear hP h6 hne
    generalize hPp : putP (ax, ay) (hx, hy) x y = p at *
    obtain ⟨px, py⟩ := p
    clear hPp
    rcases h5 with ⟨rfl, h5⟩ | h5
    all_goals
      go_enter Try.func50, Try.ntmps50
      go_wp2_with (first | (go_at_call 47; refine (Is_c _ _ _).mono ?_; rintro e w' ⟨rfl, hb2⟩; (first | (replace hb := Ext.trans hb hb2; clear hb2 hc hf; obtain ⟨hc, hf⟩ := bcell hb) | (obtain ⟨hc, hf⟩ := bcell hb2; have hb := hb2; clear hb2)); have hz := Ext.sz hb; repeat (first | rw [size_alloc] at hz | rw [size_drewN] at hz | rw [size_drew] at hz | rw [size_setCell] at hz)) | (go_at_call 81; refine (In_c _ _ _ _).mono ?_; rintro e w' ⟨rfl, rfl⟩) | (go_at_call 83; refine (HP.out _).mono ?_; rintro e w' ⟨rfl, hb2⟩; (first | (replace hb := Ext.trans hb hb2; clear hb2 hc hf; obtain ⟨hc, hf⟩ := bcell hb) | (obtain ⟨hc, hf⟩ := bcell hb2; have hb := hb2; clear hb2)); have hz := Ext.sz hb; repeat (first | rw [size_alloc] at hz | rw [size_drewN] at hz | rw [size_drew] at hz | rw [size_setCell] at hz)) | (go_at_call 82; refine (result_ref_c _ _ _).mono ?_; rintro e w' ⟨he, hb2⟩; unfold ptV at he; subst he; (first | (replace hb := Ext.trans hb hb2; clear hb2 hc hf; obtain ⟨hc, hf⟩ := bcell hb) | (obtain ⟨hc, hf⟩ := bcell hb2; have hb := hb2; clear hb2)); have hz := Ext.sz hb; repeat (first | rw [size_alloc] at hz | rw [size_drewN] at hz | rw [size_drew] at hz | rw [size_setCell] at hz)))
      exact bodyPost_ret (v := ptV (resS (px, py))) (by simp [results, Try.results50, go_sem, hc, ptV]) rfl ⟨rfl, by (repeat' (first | exact Ext.refl _ | assumption | refine Ext.alloc ?_ _ | refine Ext.drew ?_ | refine Ext.drewN ?_ _ | refine Ext.set ?_ (by first | exact Nat.le_refl _ | exact le1 _ | exact le2 _ | exact le3 _ | exact le4 _ | exact le5 _ | exact le6 _) _ | refine Ext.trans ?_ (by assumption)))⟩

def pullS (h a : Int × Int) (l : Int) : (Int × Int) × Int :=
  if (okPt a && okPt h) = false then ((0, 0), 2)
  else if inB l 1 16777216 = false then ((0, 0), 3)
  else if a = h then ((0, 0), 9)
  else resS (putP h a l 0)
theorem pullS_2 {h a : Int × Int} {l : Int} (h1 : (okPt a && okPt h) = false) : pullS h a l = ((0, 0), 2) := by simp only [pullS, h1, if_true]
theorem pullS_3 {h a : Int × Int} {l : Int} (h1 : okPt a = true) (h2 : okPt h = true) (h3 : inB l 1 16777216 = false) : pullS h a l = ((0, 0), 3) := by simp [pullS, h1, h2, h3]
theorem pullS_9 {a : Int × Int} {l : Int} (h1 : okPt a = true) (h3 : inB l 1 16777216 = true) : pullS a a l = ((0, 0), 9) := by simp [pullS, h1, h3]
theorem pullS_r {h a : Int × Int} {l : Int} (h1 : okPt a = true) (h2 : okPt h = true) (h3 : inB l 1 16777216 = true) (hne : ¬ a = h) : pullS h a l = resS (putP h a l 0) := by
  simp only [pullS, h1, h2, h3, Bool.and_self, Bool.true_eq_false, if_false]; rw [if_neg hne]

set_option maxRecDepth 100000 in
set_option maxHeartbeats 1600000 in
theorem RPull_c (hx hy ax ay l : Int) (w : World) :
    Calls Try.prog 48 #[.agg #[.int .i64 hx, .int .i64 hy], .agg #[.int .i64 ax, .int .i64 ay], .int .i64 l] w fun e w' => e = .returned (ptV (pullS (hx, hy) (ax, ay) l)) ∧ Ext w w' := by
  cases h1 : okPt (ax, ay)
  · rw [pullS_2 (by simp [h1])]
    go_enter Try.func48, Try.ntmps48
    go_wp2_with (go_at_call 47; refine (Is_c _ _ _).mono ?_; rintro e w' ⟨rfl, hb2⟩; (first | (replace hb := Ext.trans hb hb2; clear hb2 hc hf; obtain ⟨hc, hf⟩ := bcell hb) | (obtain ⟨hc, hf⟩ := bcell hb2; have hb := hb2; clear hb2)); have hz := Ext.sz hb; repeat (first | rw [size_alloc] at hz | rw [size_drewN] at hz | rw [size_drew] at hz | rw [size_setCell] at hz))
    exact bodyPost_ret (v := ptV ((0, 0), 2)) (by simp [results, Try.results48, go_sem, hc, ptV]) rfl ⟨rfl, by (repeat' (first | exact Ext.refl _ | assumption | refine Ext.alloc ?_ _ | refine Ext.drew ?_ | refine Ext.drewN ?_ _ | refine Ext.set ?_ (by first | exact Nat.le_refl _ | exact le1 _ | exact le2 _ | exact le3 _ | exact le4 _ | exact le5 _ | exact le6 _) _ | refine Ext.trans ?_ (by assumption)))⟩
  cases h2 : okPt (hx, hy)
  · rw [pullS_2 (by simp [h2])]
    go_enter Try.func48, Try.ntmps48
    go_wp2_with (go_at_call 47; refine (Is_c _ _ _).mono ?_; rintro e w' ⟨rfl, hb2⟩; (first | (replace hb := Ext.trans hb hb2; clear hb2 hc hf; obtain ⟨hc, hf⟩ := bcell hb) | (obtain ⟨hc, hf⟩ := bcell hb2; have hb := hb2; clear hb2)); have hz := Ext.sz hb; repeat (first | rw [size_alloc] at hz | rw [size_drewN] at hz | rw [size_drew] at hz | rw [size_setCell] at hz))
    exact bodyPost_ret (v := ptV ((0, 0), 2)) (by simp [results, Try.results48, go_sem, hc, ptV]) rfl ⟨rfl, by (repeat' (first | exact Ext.refl _ | assumption | refine Ext.alloc ?_ _ | refine Ext.drew ?_ | refine Ext.drewN ?_ _ | refine Ext.set ?_ (by first | exact Nat.le_refl _ | exact le1 _ | exact le2 _ | exact le3 _ | exact le4 _ | exact le5 _ | exact le6 _) _ | refine Ext.trans ?_ (by assumption)))⟩
  cases h3 : inB l 1 16777216
  · rw [pullS_3 h1 h2 h3]
    go_enter Try.func48, Try.ntmps48
    go_wp2_with (first | (go_at_call 47; refine (Is_c _ _ _).mono ?_; rintro e w' ⟨rfl, hb2⟩; (first | (replace hb := Ext.trans hb hb2; clear hb2 hc hf; obtain ⟨hc, hf⟩ := bcell hb) | (obtain ⟨hc, hf⟩ := bcell hb2; have hb := hb2; clear hb2)); have hz := Ext.sz hb; repeat (first | rw [size_alloc] at hz | rw [size_drewN] at hz | rw [size_drew] at hz | rw [size_setCell] at hz)) | (go_at_call 81; refine (In_c _ _ _ _).mono ?_; rintro e w' ⟨rfl, rfl⟩))
    exact bodyPost_ret (v := ptV ((0, 0), 3)) (by simp [results, Try.results48, go_sem, hc, ptV]) rfl ⟨rfl, by (repeat' (first | exact Ext.refl _ | assumption | refine Ext.alloc ?_ _ | refine Ext.drew ?_ | refine Ext.drewN ?_ _ | refine Ext.set ?_ (by first | exact Nat.le_refl _ | exact le1 _ | exact le2 _ | exact le3 _ | exact le4 _ | exact le5 _ | exact le6 _) _ | refine Ext.trans ?_ (by assumption)))⟩
  by_cases hne : (ax, ay) = (hx, hy)
  · obtain ⟨rfl, rfl⟩ : ax = hx ∧ ay = hy := by simpa using hne
    rw [pullS_9 h1 h3]
    clear hne
    go_enter Try.func48, Try.ntmps48
    go_wp2_with (first | (go_at_call 47; refine (Is_c _ _ _).mono ?_; rintro e w' ⟨rfl, hb2⟩; (first | (replace hb := Ext.trans hb hb2; clear hb2 hc hf; obtain ⟨hc, hf⟩ := bcell hb) | (obtain ⟨hc, hf⟩ := bcell hb2; have hb := hb2; clear hb2)); have hz := Ext.sz hb; repeat (first | rw [size_alloc] at hz | rw [size_drewN] at hz | rw [size_drew] at hz | rw [size_setCell] at hz)) | (go_at_call 81; refine (In_c _ _ _ _).mono ?_; rintro e w' ⟨rfl, rfl⟩))
    exact bodyPost_ret (v := ptV ((0, 0), 9)) (by simp [results, Try.results48, go_sem, hc, ptV]) rfl ⟨rfl, by (repeat' (first | exact Ext.refl _ | assumption | refine Ext.alloc ?_ _ | refine Ext.drew ?_ | refine Ext.drewN ?_ _ | refine Ext.set ?_ (by first | exact Nat.le_refl _ | exact le1 _ | exact le2 _ | exact le3 _ | exact le4 _ | exact le5 _ | exact le6 _) _ | refine Ext.trans ?_ (by assumption)))⟩
  · rw [pullS_r h1 h2 h3 hne]
    have h5 : (ax = hx ∧ ¬ ay = hy) ∨ ¬ ax = hx := by
      by_cases e : ax = hx
      · exact .inl ⟨e, fun e2 => hne (by rw [e, e2])⟩
      · exact .inr e
    have h6 : ¬ (ax - hx = 0 ∧ ay - hy = 0) := fun h => hne (by rw [show ax = hx by omega, show ay = hy by omega])
    have h7 := inB_iff.1 h3
    have hP := fun w => Put_c hx hy ax ay l 0 w h6 h2 h1 ⟨by omega, by omega⟩ ⟨by omega, by omega⟩
    have HP := Lib.hid hP
    clear hP h6 hne h7
    generalize hPp : putP (hx, hy) (ax, ay) l 0 = p at *
    obtain ⟨px, py⟩ := p
    clear hPp
    rcases h5 with ⟨rfl, h5⟩ | h5
    all_goals
      go_enter Try.func48, Try.ntmps48
      go_wp2_with (first | (go_at_call 47; refine (Is_c _ _ _).mono ?_; rintro e w' ⟨rfl, hb2⟩; (first | (replace hb := Ext.trans hb hb2; clear hb2 hc hf; obtain ⟨hc, hf⟩ := bcell hb) | (obtain ⟨hc, hf⟩ := bcell hb2; have hb := hb2; clear hb2)); have hz := Ext.sz hb; repeat (first | rw [size_alloc] at hz | rw [size_drewN] at hz | rw [size_drew] at hz | rw [size_setCell] at hz)) | (go_at_call 81; refine (In_c _ _ _ _).mono ?_; rintro e w' ⟨rfl, rfl⟩) | (go_at_call 83; refine (HP.out _).mono ?_; rintro e w' ⟨rfl, hb2⟩; (first | (replace hb := Ext.trans hb hb2; clear hb2 hc hf; obtain ⟨hc, hf⟩ := bcell hb) | (obtain ⟨hc, hf⟩ := bcell hb2; have hb := hb2; clear hb2)); have hz := Ext.sz hb; repeat (first | rw [size_alloc] at hz | rw [size_drewN] at hz | rw [size_drew] at hz | rw [size_setCell] at hz)) | (go_at_call 82; refine (result_ref_c _ _ _).mono ?_; rintro e w' ⟨he, hb2⟩; unfold ptV at he; subst he; (first | (replace hb := Ext.trans hb hb2; clear hb2 hc hf; obtain ⟨hc, hf⟩ := bcell hb) | (obtain ⟨hc, hf⟩ := bcell hb2; have hb := hb2; clear hb2)); have hz := Ext.sz hb; repeat (first | rw [size_alloc] at hz | rw [size_drewN] at hz | rw [size_drew] at hz | rw [size_setCell] at hz)))
      exact bodyPost_ret (v := ptV (resS (px, py))) (by simp [results, Try.results48, go_sem, hc, ptV]) rfl ⟨rfl, by (repeat' (first | exact Ext.refl _ | assumption | refine Ext.alloc ?_ _ | refine Ext.drew ?_ | refine Ext.drewN ?_ _ | refine Ext.set ?_ (by first | exact Nat.le_refl _ | exact le1 _ | exact le2 _ | exact le3 _ | exact le4 _ | exact le5 _ | exact le6 _) _ | refine Ext.trans ?_ (by assumption)))⟩

set_option maxRecDepth 100000 in
set_option maxHeartbeats 1600000 in
theorem Pull_c (hx hy ax ay l : Int) (w : World) :
    Calls Try.prog 41 #[.agg #[.int .i64 hx, .int .i64 hy], .agg #[.int .i64 ax, .int .i64 ay], .int .i64 l] w fun e w' => e = .returned (ptV (pullS (hx, hy) (ax, ay) l)) ∧ Ext w w' := by
  cases h1 : (okPt (ax, ay) && okPt (hx, hy))
  · rw [pullS_2 h1]
    have hA : RowKit.Hid ([(ax, ay), (hx, hy)].all okPt = false) := by simp [RowKit.Hid] at h1 ⊢; exact h1
    clear h1
    go_enter Try.func41, Try.ntmps41
    go_wp2_with (go_at_call 58; refine (valid_c _ [(ax, ay), (hx, hy)] _ (two_pts _ _ _ _ _ _ ?_ ?_ ?_ ?_)).mono ?_)
    · go_simp
    · go_simp
    · go_simp
    · go_simp
    rintro e w' ⟨he, hb2⟩
    rw [hA.out] at he; subst he
    (first | (replace hb := Ext.trans hb hb2; clear hb2 hc hf; obtain ⟨hc, hf⟩ := bcell hb) | (obtain ⟨hc, hf⟩ := bcell hb2; have hb := hb2; clear hb2)); have hz := Ext.sz hb; repeat (first | rw [size_alloc] at hz | rw [size_drewN] at hz | rw [size_drew] at hz | rw [size_setCell] at hz)
    go_wp2
    exact bodyPost_ret (v := ptV ((0, 0), 2)) (by simp [results, Try.results41, go_sem, hc, ptV]) rfl ⟨rfl, by (repeat' (first | exact Ext.refl _ | assumption | refine Ext.alloc ?_ _ | refine Ext.drew ?_ | refine Ext.drewN ?_ _ | refine Ext.set ?_ (by first | exact Nat.le_refl _ | exact le1 _ | exact le2 _ | exact le3 _ | exact le4 _ | exact le5 _ | exact le6 _) _ | refine Ext.trans ?_ (by assumption)))⟩
  have hA : RowKit.Hid ([(ax, ay), (hx, hy)].all okPt = true) := by simp [RowKit.Hid] at h1 ⊢; exact h1
  simp only [Bool.and_eq_true] at h1
  obtain ⟨h1, h2⟩ := h1
  cases h3 : inB l 1 16777216
  · rw [pullS_3 h1 h2 h3]
    clear h1 h2
    go_enter Try.func41, Try.ntmps41
    go_wp2_with (go_at_call 58; refine (valid_c _ [(ax, ay), (hx, hy)] _ (two_pts _ _ _ _ _ _ ?_ ?_ ?_ ?_)).mono ?_)
    · go_simp
    · go_simp
    · go_simp
    · go_simp
    rintro e w' ⟨he, hb2⟩
    rw [hA.out] at he; subst he
    (first | (replace hb := Ext.trans hb hb2; clear hb2 hc hf; obtain ⟨hc, hf⟩ := bcell hb) | (obtain ⟨hc, hf⟩ := bcell hb2; have hb := hb2; clear hb2)); have hz := Ext.sz hb; repeat (first | rw [size_alloc] at hz | rw [size_drewN] at hz | rw [size_drew] at hz | rw [size_setCell] at hz)
    go_wp2_with (go_at_call 72; refine (within_c _ _ _ _).mono ?_; rintro e w' ⟨rfl, rfl⟩)
    exact bodyPost_ret (v := ptV ((0, 0), 3)) (by simp [results, Try.results41, go_sem, hc, ptV]) rfl ⟨rfl, by (repeat' (first | exact Ext.refl _ | assumption | refine Ext.alloc ?_ _ | refine Ext.drew ?_ | refine Ext.drewN ?_ _ | refine Ext.set ?_ (by first | exact Nat.le_refl _ | exact le1 _ | exact le2 _ | exact le3 _ | exact le4 _ | exact le5 _ | exact le6 _) _ | refine Ext.trans ?_ (by assumption)))⟩
  have h7 := inB_iff.1 h3
  have hC : ∀ w, Calls Try.prog 78 #[.agg #[.int .i64 hx, .int .i64 hy], .agg #[.int .i64 ax, .int .i64 ay], .int .i64 l, .int .i64 0] w fun e w' => e = .returned (ptV (pullS (hx, hy) (ax, ay) l)) ∧ Ext w w' := by
    intro w
    by_cases hne : ax - hx = 0 ∧ ay - hy = 0
    · obtain rfl : ax = hx := by omega
      obtain rfl : ay = hy := by omega
      rw [pullS_9 h1 h3]; exact place_eq ax ay l 0 w h1
    · rw [pullS_r h1 h2 h3 (by simp only [Prod.mk.injEq]; omega)]
      exact place_ne hx hy ax ay l 0 w hne h2 h1 ⟨by omega, by omega⟩ ⟨by omega, by omega⟩
  have HC := Lib.hid hC
  clear hC h1 h2 h7
  go_enter Try.func41, Try.ntmps41
  go_wp2_with (go_at_call 58; refine (valid_c _ [(ax, ay), (hx, hy)] _ (two_pts _ _ _ _ _ _ ?_ ?_ ?_ ?_)).mono ?_)
  · go_simp
  · go_simp
  · go_simp
  · go_simp
  rintro e w' ⟨he, hb2⟩
  rw [hA.out] at he; subst he
  (first | (replace hb := Ext.trans hb hb2; clear hb2 hc hf; obtain ⟨hc, hf⟩ := bcell hb) | (obtain ⟨hc, hf⟩ := bcell hb2; have hb := hb2; clear hb2)); have hz := Ext.sz hb; repeat (first | rw [size_alloc] at hz | rw [size_drewN] at hz | rw [size_drew] at hz | rw [size_setCell] at hz)
  go_wp2_with (first | (go_at_call 72; refine (within_c _ _ _ _).mono ?_; rintro e w' ⟨rfl, rfl⟩) | (go_at_call 78; refine (HC.out _).mono ?_; rintro e w2 ⟨he, hb2⟩; unfold ptV at he; subst he; (first | (replace hb := Ext.trans hb hb2; clear hb2 hc hf; obtain ⟨hc, hf⟩ := bcell hb) | (obtain ⟨hc, hf⟩ := bcell hb2; have hb := hb2; clear hb2)); have hz := Ext.sz hb; repeat (first | rw [size_alloc] at hz | rw [size_drewN] at hz | rw [size_drew] at hz | rw [size_setCell] at hz)))
  exact bodyPost_ret (v := ptV (pullS (hx, hy) (ax, ay) l)) (by simp [results, Try.results41, go_sem, hc, ptV]) rfl ⟨rfl, by (repeat' (first | exact Ext.refl _ | assumption | refine Ext.alloc ?_ _ | refine Ext.drew ?_ | refine Ext.drewN ?_ _ | refine Ext.set ?_ (by first | exact Nat.le_refl _ | exact le1 _ | exact le2 _ | exact le3 _ | exact le4 _ | exact le5 _ | exact le6 _) _ | refine Ext.trans ?_ (by assumption)))⟩
end Go.Proofs.Ytgikfliibimkdaa
