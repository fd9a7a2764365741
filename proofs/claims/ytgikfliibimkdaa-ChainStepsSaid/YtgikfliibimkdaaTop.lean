
/- The contract of Place. -/
import Derived.Test.YtgikfliibimkdaaPlace
namespace Go.Proofs.Ytgikfliibimkdaa
open Go.RowKit

/-- 'place' and 'Place', 'Pull' as both texts have them -/
def placeS (a h : Int × Int) (x y : Int) : (Int × Int) × Int :=
  if (okPt a && okPt h) = false then ((0, 0), 2)
  else if (inB x (-16777216) 16777216 && inB y (-16777216) 16777216) = false then ((0, 0), 3)
  else if a = h then ((0, 0), 9)
  else resS (putP a h x y)

theorem two_pts (w : World) (x y z u : Int) (b : Nat) (h1 : w.cell? ⟨b, 0, none⟩ = some (.int .i64 x)) (h2 : w.cell? ⟨b, 1, none⟩ = some (.int .i64 y)) (h3 : w.cell? ⟨b, 2, none⟩ = some (.int .i64 z)) (h4 : w.cell? ⟨b, 3, none⟩ = some (.int .i64 u)) : Pts w (.slice (some ⟨b, 0, none⟩) 2 2) [(x, y), (z, u)] :=
  .inr ⟨b, 0, 2, rfl, by simp, by simp, fun i hi => by
    have : i = 0 ∨ i = 1 := by simp at hi; omega
    rcases this with rfl | rfl
    · exact ⟨h1, h2⟩
    · exact ⟨h3, h4⟩⟩

theorem inB_iff {x lo hi : Int} : inB x lo hi = true ↔ lo ≤ x ∧ x ≤ hi := by simp [inB]

set_option maxRecDepth 100000 in
set_option maxHeartbeats 1600000 in
theorem Place_c (ax ay hx hy x y : Int) (w : World) :
    Calls Try.prog 57 #[.agg #[.int .i64 ax, .int .i64 ay], .agg #[.int .i64 hx, .int .i64 hy], .int .i64 x, .int .i64 y] w fun e w' => e = .returned (ptV (placeS (ax, ay) (hx, hy) x y)) ∧ Ext w w' := by
  cases h1 : (okPt (ax, ay) && okPt (hx, hy))
  · have hS : placeS (ax, ay) (hx, hy) x y = ((0, 0), 2) := by simp only [placeS, h1, if_true]
    rw [hS]; clear hS
    have hA : RowKit.Hid ([(ax, ay), (hx, hy)].all okPt = false) := by simp [RowKit.Hid] at h1 ⊢; exact h1
    clear h1
    go_enter Try.func57, Try.ntmps57
    go_wp2_with (go_at_call 58; refine (valid_c _ [(ax, ay), (hx, hy)] _ (two_pts _ _ _ _ _ _ ?_ ?_ ?_ ?_)).mono ?_)
    · go_simp
    · go_simp
    · go_simp
    · go_simp
    rintro e w' ⟨he, hb⟩
    rw [hA.out] at he; subst he
    obtain ⟨hc, hf⟩ := bcell hb
    go_wp2
    exact bodyPost_ret (v := ptV ((0, 0), 2)) (by simp [results, Try.results57, go_sem, hc, ptV]) rfl ⟨rfl, ((((Ext.refl w).alloc _).alloc _).alloc _ |>.alloc _ |>.trans hb).set (le2 _) _ |>.set (le2 _) _⟩
  · have hA : RowKit.Hid ([(ax, ay), (hx, hy)].all okPt = true) := by simp [RowKit.Hid] at h1 ⊢; exact h1
    cases h2 : (inB x (-16777216) 16777216 && inB y (-16777216) 16777216)
    · have hS : placeS (ax, ay) (hx, hy) x y = ((0, 0), 3) := by simp [placeS, h1, h2]
      rw [hS]; clear hS h1
      cases h3 : inB x (-16777216) 16777216
      all_goals
        have h4 := h2
        rw [h3] at h4
        simp only [Bool.false_and, Bool.true_and] at h4
        clear h2
        go_enter Try.func57, Try.ntmps57
        go_wp2_with (go_at_call 58; refine (valid_c _ [(ax, ay), (hx, hy)] _ (two_pts _ _ _ _ _ _ ?_ ?_ ?_ ?_)).mono ?_)
        · go_simp
        · go_simp
        · go_simp
        · go_simp
        rintro e w' ⟨he, hb⟩
        rw [hA.out] at he; subst he
        obtain ⟨hc, hf⟩ := bcell hb
        go_wp2_with (go_at_call 72; refine (within_c _ _ _ _).mono ?_; rintro e w' ⟨rfl, rfl⟩)
        exact bodyPost_ret (v := ptV ((0, 0), 3)) (by simp [results, Try.results57, go_sem, hc, ptV]) rfl ⟨rfl, ((((Ext.refl w).alloc _).alloc _).alloc _ |>.alloc _ |>.trans hb).set (le2 _) _ |>.set (le2 _) _⟩
    · have h3 := h2
      simp only [Bool.and_eq_true] at h1 h3
      obtain ⟨p1, p2⟩ := h1
      obtain ⟨p3, p4⟩ := h3
      clear h2
      have hC : ∀ w, Calls Try.prog 78 #[.agg #[.int .i64 ax, .int .i64 ay], .agg #[.int .i64 hx, .int .i64 hy], .int .i64 x, .int .i64 y] w fun e w' => e = .returned (ptV (placeS (ax, ay) (hx, hy) x y)) ∧ Ext w w' := by
        intro w
        by_cases hne : hx - ax = 0 ∧ hy - ay = 0
        · obtain rfl : ax = hx := by omega
          obtain rfl : ay = hy := by omega
          have hS : placeS (ax, ay) (ax, ay) x y = ((0, 0), 9) := by simp [placeS, p1, p3, p4]
          rw [hS]; exact place_eq ax ay x y w p1
        · have hS : placeS (ax, ay) (hx, hy) x y = resS (putP (ax, ay) (hx, hy) x y) := by
            simp only [placeS, p1, p2, p3, p4, Bool.and_self, Bool.true_eq_false, if_false]
            rw [if_neg]
            simp only [Prod.mk.injEq]; omega
          rw [hS]; exact place_ne ax ay hx hy x y w hne p1 p2 (inB_iff.1 p3) (inB_iff.1 p4)
      have HC := Lib.hid hC
      clear hC p1 p2
      go_enter Try.func57, Try.ntmps57
      go_wp2_with (go_at_call 58; refine (valid_c _ [(ax, ay), (hx, hy)] _ (two_pts _ _ _ _ _ _ ?_ ?_ ?_ ?_)).mono ?_)
      · go_simp
      · go_simp
      · go_simp
      · go_simp
      rintro e w' ⟨he, hb⟩
      rw [hA.out] at he; subst he
      obtain ⟨hc, hf⟩ := bcell hb
      go_wp2_with (first | (go_at_call 72; refine (within_c _ _ _ _).mono ?_; rintro e w' ⟨rfl, rfl⟩) | (go_at_call 78; refine (HC.out _).mono ?_; rintro e w2 ⟨he, hb2⟩; unfold ptV at he; subst he; have hb3 := Ext.trans hb hb2; clear hb hb2 hc hf; obtain ⟨hc, hf⟩ := bcell hb3))
      exact bodyPost_ret (v := ptV (placeS (ax, ay) (hx, hy) x y)) (by simp [results, Try.results57, go_sem, hc, ptV]) rfl ⟨rfl, ((((Ext.refl w).alloc _).alloc _).alloc _ |>.alloc _ |>.trans hb3).set (le2 _) _ |>.set (le2 _) _⟩
end Go.Proofs.Ytgikfliibimkdaa
