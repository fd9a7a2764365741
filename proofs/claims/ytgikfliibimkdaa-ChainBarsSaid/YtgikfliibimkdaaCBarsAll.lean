/- CBarsAll: several texts in one. -/
import Derived.Test.YtgikfliibimkdaaCStep
import Derived.Test.YtgikfliibimkdaaCRStep
import Derived.Test.YtgikfliibimkdaaCLong
import Derived.Test.YtgikfliibimkdaaCJoint
import Derived.Test.YtgikfliibimkdaaCRCheck
import Derived.Test.YtgikfliibimkdaaCStepS
import Derived.Test.YtgikfliibimkdaaPullMath
import Derived.Test.YtgikfliibimkdaaCStrC
import Derived.Test.YtgikfliibimkdaaCSame
import Derived.Deep.OwnRows
import Derived.Test.YtgikfliibimkdaaCOpen
import Derived.Test.YtgikfliibimkdaaRows
import Derived.ProofKit
import Derived.OpenShut
import Derived.ChangeOld
import Derived.Lib.SmallJoins
import Derived.Deep.Slices
import Derived.Deep.Fields
import Derived.ChangeSame
/- Contracts: Step (both texts), Pulled, the law's valid. -/
namespace Go.Proofs.Ytgikfliibimkdaa
open Go.RowKit Go.Shelf

section
variable {vu vp vst : Value} {v : CVeh} {ps : List Pt} {st : List Int}
theorem Step_c (o1 o2 l1 l2 : Int) (w : World) (hs : Sl 11 RUnit w vu v.units) (hp : Pts w vp ps) (hst : Sl 1 RNum w vst st) :
    Calls Try.prog 21 #[vehV v vu, poseV (o1, o2) vp, .agg #[.int .i64 l1, .int .i64 l2], vst] w (StepR v (o1, o2) ps (l1, l2) st w) := by
  by_cases h : poseE v (o1, o2) ps = 0
  · cases h2 : okPt (l1, l2)
    · exact Step_lead o1 o2 l1 l2 w hs hp hst h h2
    · by_cases h3 : steerE v st = 0
      · exact Step_go o1 o2 l1 l2 w hs hp hst h h2 h3
      · exact Step_steer o1 o2 l1 l2 w hs hp hst h h2 h3
  · exact Step_pose o1 o2 l1 l2 w hs hp hst h
theorem RStep_c (o1 o2 l1 l2 : Int) (w : World) (hs : Sl 11 RUnit w vu v.units) (hp : Pts w vp ps) (hst : Sl 1 RNum w vst st) :
    Calls Try.prog 25 #[vehV v vu, poseV (o1, o2) vp, .agg #[.int .i64 l1, .int .i64 l2], vst] w (StepR v (o1, o2) ps (l1, l2) st w) := by
  by_cases h : poseE v (o1, o2) ps = 0
  · cases h2 : okPt (l1, l2)
    · exact RStep_lead o1 o2 l1 l2 w hs hp hst h h2
    · by_cases h3 : steerE v st = 0
      · exact RStep_go o1 o2 l1 l2 w hs hp hst h h2 h3
      · exact RStep_steer o1 o2 l1 l2 w hs hp hst h h2 h3
  · exact RStep_pose o1 o2 l1 l2 w hs hp hst h
end
end Go.Proofs.Ytgikfliibimkdaa
/- Contracts: Pulled, the law's valid. -/
namespace Go.Proofs.Ytgikfliibimkdaa
open Go.RowKit Go.Shelf

section
variable {vu : Value} {v : CVeh}
set_option maxRecDepth 100000 in
set_option maxHeartbeats 1600000 in
theorem Pulled_ok (k : Nat) (w : World) (hs : Sl 11 RUnit w vu v.units) (hE : vehE v = 0) {u : CUnit} (hu : v.units[k]? = some u) :
    Calls Try.prog 22 #[vehV v vu, .int .i64 k] w fun e w' => e = .returned (.tuple #[.int .i64 (pulledN u), .int .i64 0]) ∧ Ext w w' := by
  have CV := fun w' (h : Ext w w') => VCheck_c vu v w' (hs.ext RUnit.stable h)
  rw [hE] at CV
  replace CV := Lib.hid CV
  have hvu := vehE_units hE u (mem_of_some hu)
  have hk := lt_of_some hu
  obtain ⟨A, cap, rfl, hl, hl2⟩ := hs.shape
  obtain ⟨b, off, csu, rfl, _, ⟨vx, rfl, hax⟩, hc⟩ := hs.at hu
  obtain ⟨A2, cap2, rfl, _, _⟩ := hax.shape
  have CP := Lib.hid (fun w' => pulled_x A2 u.axles.length cap2 u w' hvu)
  have k0 := hc 0 _ rfl
  have k1 := hc 1 _ rfl
  have k2 := hc 2 _ rfl
  have k3 := hc 3 _ rfl
  have k4 := hc 4 _ rfl
  have k5 := hc 5 _ rfl
  have k6 := hc 6 _ rfl
  have k7 := hc 7 _ rfl
  have k8 := hc 8 _ rfl
  have k9 := hc 9 _ rfl
  have k10 := hc 10 _ rfl
  simp only [Nat.add_zero] at k0
  have i0 : ¬ (k : Int) < 0 := by omega
  have i1 : (0 : Int) ≤ (k : Int) := by omega
  have i2 : (k : Int) < (v.units.length : Int) := by omega
  have i3 : ¬ (v.units.length : Int) ≤ (k : Int) := by omega
  generalize pulledN u = PU at *
  unfold vehV
  clear hs hE hvu hu hk hc hax
  go_enter Try.func22, Try.ntmps22
  go_wp2_with (first
    | (go_at_call 39; refine (CV.out _ (by (repeat' (first | exact Ext.refl _ | assumption | refine Ext.alloc ?_ _ | refine Ext.drew ?_ | refine Ext.drewN ?_ _ | refine Ext.set ?_ (by first | exact Nat.le_refl _ | exact le1 _ | exact le2 _ | exact le3 _ | exact le4 _ | exact le5 _ | exact le6 _) _ | refine Ext.trans ?_ (by assumption))))).mono ?_; rintro e w1 ⟨rfl, hb⟩; have y1 := Ext.cell hb (p := ⟨w.heap.size, 1, none⟩) (v := .slice (some ⟨b, off, none⟩) v.units.length cap) (by go_simp); have E1 : Ext w w1 := ((Ext.refl w).alloc _).trans hb; replace k0 := Ext.cell E1 k0; replace k1 := Ext.cell E1 k1; replace k2 := Ext.cell E1 k2; replace k3 := Ext.cell E1 k3; replace k4 := Ext.cell E1 k4; replace k5 := Ext.cell E1 k5; replace k6 := Ext.cell E1 k6; replace k7 := Ext.cell E1 k7; replace k8 := Ext.cell E1 k8; replace k9 := Ext.cell E1 k9; replace k10 := Ext.cell E1 k10; clear hb)
    | (go_at_call 42; refine (CP.out _).mono ?_; rintro e w2 ⟨rfl, hb2⟩))
  exact bodyPost_ret (v := .tuple #[.int .i64 PU, .int .i64 0]) (by simp [results, Try.results22, go_sem]) rfl ⟨rfl, by (repeat' (first | exact Ext.refl _ | assumption | refine Ext.alloc ?_ _ | refine Ext.drew ?_ | refine Ext.drewN ?_ _ | refine Ext.set ?_ (by first | exact Nat.le_refl _ | exact le1 _ | exact le2 _ | exact le3 _ | exact le4 _ | exact le5 _ | exact le6 _) _ | refine Ext.trans ?_ (by assumption)))⟩
set_option maxRecDepth 100000 in
set_option maxHeartbeats 1600000 in
theorem lvalid_c (w : World) (hs : Sl 11 RUnit w vu v.units) :
    Calls Try.prog 20 #[vehV v vu] w fun e w' => e = .returned (.bool (!longB v && decide (vehE v = 0))) ∧ Ext w w' := by
  have CL := fun w' (h : Ext w w') => long_c vu v w' (hs.ext RUnit.stable h)
  have CV := fun w' (h : Ext w w') => RVCheck_c vu v w' (hs.ext RUnit.stable h)
  obtain ⟨A, cap, rfl, hl, hl2⟩ := hs.shape
  unfold vehV at *
  clear hs
  cases h : longB v
  · by_cases h2 : vehE v = 0
    · rw [h] at CL
      rw [h2] at CV ⊢
      replace CL := Lib.hid CL
      replace CV := Lib.hid CV
      clear h h2
      go_enter Try.func20, Try.ntmps20
      go_wp2_with (first
        | (go_at_call 9; refine (CL.out _ (by (repeat' (first | exact Ext.refl _ | assumption | refine Ext.alloc ?_ _ | refine Ext.drew ?_ | refine Ext.drewN ?_ _ | refine Ext.set ?_ (by first | exact Nat.le_refl _ | exact le1 _ | exact le2 _ | exact le3 _ | exact le4 _ | exact le5 _ | exact le6 _) _ | refine Ext.trans ?_ (by assumption))))).mono ?_; rintro e w1 ⟨rfl, hb1⟩; obtain ⟨hc, hf⟩ := bcell hb1)
        | (go_at_call 46; refine (CV.out _ (by (repeat' (first | exact Ext.refl _ | assumption | refine Ext.alloc ?_ _ | refine Ext.drew ?_ | refine Ext.drewN ?_ _ | refine Ext.set ?_ (by first | exact Nat.le_refl _ | exact le1 _ | exact le2 _ | exact le3 _ | exact le4 _ | exact le5 _ | exact le6 _) _ | refine Ext.trans ?_ (by assumption))))).mono ?_; rintro e w2 ⟨rfl, hb2⟩))
      go_ret
      exact ⟨by rfl, by (repeat' (first | exact Ext.refl _ | assumption | refine Ext.alloc ?_ _ | refine Ext.drew ?_ | refine Ext.drewN ?_ _ | refine Ext.set ?_ (by first | exact Nat.le_refl _ | exact le1 _ | exact le2 _ | exact le3 _ | exact le4 _ | exact le5 _ | exact le6 _) _ | refine Ext.trans ?_ (by assumption)))⟩
    · rw [h] at CL
      have hd : decide (vehE v = 0) = false := decide_eq_false h2
      rw [hd]
      generalize vehE v = E at *
      replace CL := Lib.hid CL
      replace CV := Lib.hid CV
      clear h hd
      go_enter Try.func20, Try.ntmps20
      go_wp2_with (first
        | (go_at_call 9; refine (CL.out _ (by (repeat' (first | exact Ext.refl _ | assumption | refine Ext.alloc ?_ _ | refine Ext.drew ?_ | refine Ext.drewN ?_ _ | refine Ext.set ?_ (by first | exact Nat.le_refl _ | exact le1 _ | exact le2 _ | exact le3 _ | exact le4 _ | exact le5 _ | exact le6 _) _ | refine Ext.trans ?_ (by assumption))))).mono ?_; rintro e w1 ⟨rfl, hb1⟩; obtain ⟨hc, hf⟩ := bcell hb1)
        | (go_at_call 46; refine (CV.out _ (by (repeat' (first | exact Ext.refl _ | assumption | refine Ext.alloc ?_ _ | refine Ext.drew ?_ | refine Ext.drewN ?_ _ | refine Ext.set ?_ (by first | exact Nat.le_refl _ | exact le1 _ | exact le2 _ | exact le3 _ | exact le4 _ | exact le5 _ | exact le6 _) _ | refine Ext.trans ?_ (by assumption))))).mono ?_; rintro e w2 ⟨rfl, hb2⟩))
      go_ret
      exact ⟨by simp [h2], by (repeat' (first | exact Ext.refl _ | assumption | refine Ext.alloc ?_ _ | refine Ext.drew ?_ | refine Ext.drewN ?_ _ | refine Ext.set ?_ (by first | exact Nat.le_refl _ | exact le1 _ | exact le2 _ | exact le3 _ | exact le4 _ | exact le5 _ | exact le6 _) _ | refine Ext.trans ?_ (by assumption)))⟩
  · rw [h] at CL
    replace CL := Lib.hid CL
    clear h CV
    go_enter Try.func20, Try.ntmps20
    go_wp2_with (go_at_call 9; refine (CL.out _ (by (repeat' (first | exact Ext.refl _ | assumption | refine Ext.alloc ?_ _ | refine Ext.drew ?_ | refine Ext.drewN ?_ _ | refine Ext.set ?_ (by first | exact Nat.le_refl _ | exact le1 _ | exact le2 _ | exact le3 _ | exact le4 _ | exact le5 _ | exact le6 _) _ | refine Ext.trans ?_ (by assumption))))).mono ?_; rintro e w1 ⟨rfl, hb1⟩)
    go_ret
    exact ⟨by rfl, by (repeat' (first | exact Ext.refl _ | assumption | refine Ext.alloc ?_ _ | refine Ext.drew ?_ | refine Ext.drewN ?_ _ | refine Ext.set ?_ (by first | exact Nat.le_refl _ | exact le1 _ | exact le2 _ | exact le3 _ | exact le4 _ | exact le5 _ | exact le6 _) _ | refine Ext.trans ?_ (by assumption)))⟩
end
end Go.Proofs.Ytgikfliibimkdaa
/- The plain law of ChainBars: behind a step without steering each unit is as far behind its joint as its pulled length, but for 2. -/
namespace Go.Proofs.Ytgikfliibimkdaa
open Go.RowKit Go.Shelf

theorem pullS_ok {h a p : Pt} {l : Int} (hp : pullS h a l = (p, 0)) : okPt h = true ∧ okPt a = true ∧ (1 ≤ l ∧ l ≤ 16777216) ∧ ¬ a = h ∧ okPt p = true ∧ p = putP h a l 0 := by
  cases h1 : (okPt a && okPt h)
  · rw [pullS_2 h1] at hp; simp at hp
  · simp only [Bool.and_eq_true] at h1
    cases h3 : inB l 1 16777216
    · rw [pullS_3 h1.1 h1.2 h3] at hp; simp at hp
    · by_cases he : a = h
      · subst he
        rw [pullS_9 h1.1 h3] at hp; simp at hp
      · rw [pullS_r h1.1 h1.2 h3 he] at hp
        cases h4 : okPt (putP h a l 0)
        · rw [resS_no h4] at hp; simp at hp
        · rw [resS_yes h4] at hp
          simp only [Prod.mk.injEq, and_true] at hp
          exact ⟨h1.2, h1.1, inB_iff.1 h3, he, by rw [← hp]; exact h4, hp.symm⟩
theorem bar_fact {h a p : Pt} {l : Int} (hp : pullS h a l = (p, 0)) (hl : l ≤ 131072) (hd : l ≤ 16 * farS a h) : -2 ≤ farS p h - l ∧ farS p h - l ≤ 2 := by
  obtain ⟨oh, oa, ⟨hl1, _⟩, hne, _, hpp⟩ := pullS_ok hp
  obtain ⟨hx, hy⟩ := h
  obtain ⟨yx, yy⟩ := a
  obtain ⟨px, py⟩ := p
  obtain ⟨a1, a2, a3, a4⟩ := okPt_bd oh
  obtain ⟨b1, b2, b3, b4⟩ := okPt_bd oa
  unfold farS at *
  simp only at hd ⊢
  have hne2 : ¬ (yx = hx ∧ yy = hy) := fun h => hne (by rw [h.1, h.2])
  have hne' : ¬ (yx - hx = 0 ∧ yy - hy = 0) := by omega
  have PB := put_bds (x := 1) (y := 0) hne' (by omega) (by omega) (by omega) (by omega) (by omega) (by omega) (by omega) (by omega)
  obtain ⟨c1, c2, c3, c4, c5, _, _, _, _, _, _, _, _, c14, c15, _⟩ := PB
  rw [show (hx - yx) * (hx - yx) + (hy - yy) * (hy - yy) = (yx - hx) * (yx - hx) + (yy - hy) * (yy - hy) by grind] at hd
  rw [show (hx - px) * (hx - px) + (hy - py) * (hy - py) = (px - hx) * (px - hx) + (py - hy) * (py - hy) by grind]
  generalize hu : yx - hx = u at *
  generalize hv : yy - hy = v at *
  have s1 := Pl.near_spec (32 * (u * l)) _ c14
  have s2 := Pl.near_spec (32 * (v * l)) _ c14
  have g1 := Pl.isqrt_le (1024 * (u * u + v * v)) (by omega)
  have g2 := Pl.lt_isqrt (1024 * (u * u + v * v)) (by omega)
  have g3 : 32 ≤ Pl.isqrt (1024 * (u * u + v * v)) := Pl.isqrt_ge (by omega) (by omega) (by omega)
  have g4 : 32 * Pl.isqrt (u * u + v * v) ≤ Pl.isqrt (1024 * (u * u + v * v)) := by
    have k1 := Pl.isqrt_le (u * u + v * v) (by omega)
    have k2 := Pl.isqrt_nonneg (u * u + v * v)
    refine Pl.isqrt_ge (by omega) (by omega) ?_
    have e : 32 * Pl.isqrt (u * u + v * v) * (32 * Pl.isqrt (u * u + v * v)) = 1024 * (Pl.isqrt (u * u + v * v) * Pl.isqrt (u * u + v * v)) := by grind
    omega
  have hput : putP (hx, hy) (yx, yy) l 0 = (hx + Pl.near (32 * (u * l)) (Pl.isqrt (1024 * (u * u + v * v))), hy + Pl.near (32 * (v * l)) (Pl.isqrt (1024 * (u * u + v * v)))) := by
    simp only [putP, hu, hv, Int.mul_zero, Int.sub_zero, Int.add_zero]
  rw [hput] at hpp
  generalize hr : Pl.isqrt (1024 * (u * u + v * v)) = r at *
  generalize hA : Pl.near (32 * (u * l)) r = A at *
  generalize hB : Pl.near (32 * (v * l)) r = B at *
  simp only [Prod.mk.injEq] at hpp
  obtain ⟨rfl, rfl⟩ := hpp
  rw [show hx + A - hx = A by omega, show hy + B - hy = B by omega]
  have far := Pl.pulled_far g3 g1 g2 hl1 (by omega) s1.1 s1.2 s2.1 s2.2
  have hAB : 0 ≤ A * A + B * B := by have := Pl.sq_nonneg A; have := Pl.sq_nonneg B; omega
  have k1 := Pl.isqrt_le_of hAB (by omega) far.1
  have k2 := Pl.isqrt_nonneg (A * A + B * B)
  have k3 : 2 ≤ l → l - 2 ≤ Pl.isqrt (A * A + B * B) := fun h => Pl.isqrt_ge hAB (by omega) (far.2 h)
  omega
theorem pullTS_zero (h a : Pt) (l : Int) : pullTS h a l 0 = pullS h a l := by unfold pullTS; rw [if_neg (by simp)]
/-- each unit's axle is the one that its joint pulls -/
theorem bars : ∀ (us : List CUnit) (ps : List Pt) (ss : List Int) (jt : Pt) (k : Nat) (c : CPut) (a : Pt), (∀ s ∈ ss, s = 0) → (stepN jt us ps ss).2 = 0 → (putsN jt us (stepN jt us ps ss).1)[k]? = some c → ps[k]? = some a →
    pullS c.joint a (pulledN c.unit) = (c.axle, 0)
  | [], ps, ss, jt, k, c, a, _, _, hc, _ => by
    rw [stepN_nil] at hc
    simp [putsN] at hc
  | u :: us, [], ss, jt, k, c, a, _, _, _, ha => by simp at ha
  | u :: us, x :: ps, [], jt, k, c, a, _, _, hc, _ => by simp [stepN, putsN] at hc
  | u :: us, x :: ps, s :: ss, jt, k, c, a, hz, h0, hc, ha => by
    obtain rfl : s = 0 := hz s (by simp)
    obtain ⟨p, hp⟩ : ∃ p, pullS jt x (pulledN u) = p := ⟨_, rfl⟩
    obtain ⟨j, hj⟩ : ∃ j, placeS p.1 jt (rearN u) 0 = j := ⟨_, rfl⟩
    rw [stepN_step (p := p) (by rw [pullTS_zero]; exact hp) hj] at h0 hc
    by_cases hp0 : p.2 = 0
    · rw [if_pos hp0] at h0 hc
      have hfirst : ∀ l, k = 0 → (putsN jt (u :: us) (p.1 :: l))[k]? = some c → pullS c.joint a (pulledN c.unit) = (c.axle, 0) := fun l hk hc => by
        subst hk
        simp only [putsN] at hc
        split at hc
        · simp at hc
        · simp only [List.getElem?_cons_zero, Option.some.injEq] at hc ha
          subst hc ha
          rw [hp]
          exact Prod.ext rfl hp0
      cases k with
      | zero =>
        by_cases hus : us = []
        · rw [if_pos hus] at hc
          exact hfirst _ rfl hc
        · rw [if_neg hus] at hc
          by_cases hj0 : j.2 = 0
          · rw [if_pos hj0] at hc
            exact hfirst _ rfl hc
          · rw [if_neg hj0] at hc
            exact hfirst _ rfl hc
      | succ k =>
        by_cases hus : us = []
        · rw [if_pos hus] at hc
          subst hus
          simp only [putsN] at hc
          split at hc
          · simp at hc
          · simp only [List.getElem?_cons_succ] at hc
            split at hc <;> simp at hc
        · rw [if_neg hus] at h0 hc
          by_cases hj0 : j.2 = 0
          · rw [if_pos hj0] at h0 hc
            simp only [putsN, hj, if_pos hj0] at hc
            split at hc
            · simp at hc
            · simp only [List.getElem?_cons_succ] at hc ha
              exact bars us ps ss j.1 k c a (fun s hs => hz s (by simp [hs])) h0 hc ha
          · rw [if_neg hj0] at h0
            exact absurd h0 hj0
    · rw [if_neg hp0] at h0
      exact absurd h0 hp0
end Go.Proofs.Ytgikfliibimkdaa
/- The law ChainBars, walked. -/
namespace Go.Proofs.Ytgikfliibimkdaa
open Go.RowKit Go.Shelf

/-! ### the errors of a step without steering -/
theorem resS_err (p : Pt) : (resS p).2 = 0 ∨ (resS p).2 = 4 := by
  cases h : okPt p
  · rw [resS_no h]; exact .inr rfl
  · rw [resS_yes h]; exact .inl rfl
theorem pullS_err {h a : Pt} {l : Int} (h1 : 1 ≤ l) (h2 : l ≤ 16777216) : (pullS h a l).2 = 0 ∨ (pullS h a l).2 = 2 ∨ (pullS h a l).2 = 4 ∨ (pullS h a l).2 = 9 := by
  cases h3 : (okPt a && okPt h)
  · rw [pullS_2 h3]; exact .inr (.inl rfl)
  · simp only [Bool.and_eq_true] at h3
    have h4 : inB l 1 16777216 = true := inB_iff.2 ⟨h1, h2⟩
    by_cases he : a = h
    · subst he
      rw [pullS_9 h3.1 h4]; exact .inr (.inr (.inr rfl))
    · rw [pullS_r h3.1 h3.2 h4 he]
      rcases resS_err (putP h a l 0) with h5 | h5
      · exact .inl h5
      · exact .inr (.inr (.inl h5))
theorem placeS_err {a h : Pt} {x : Int} (h1 : -16777216 ≤ x) (h2 : x ≤ 16777216) : (placeS a h x 0).2 = 0 ∨ (placeS a h x 0).2 = 2 ∨ (placeS a h x 0).2 = 4 ∨ (placeS a h x 0).2 = 9 := by
  cases h3 : (okPt a && okPt h)
  · rw [placeS_2 h3]; exact .inr (.inl rfl)
  · simp only [Bool.and_eq_true] at h3
    have h4 : inB x (-16777216) 16777216 = true := inB_iff.2 ⟨h1, h2⟩
    have h5 : inB 0 (-16777216) 16777216 = true := by decide
    by_cases he : a = h
    · subst he
      rw [placeS_9 h3.1 h4 h5]; exact .inr (.inr (.inr rfl))
    · rw [placeS_r h3.1 h3.2 h4 h5 he]
      rcases resS_err (putP a h x 0) with h6 | h6
      · exact .inl h6
      · exact .inr (.inr (.inl h6))
theorem step_err : ∀ (us : List CUnit) (ps : List Pt) (ss : List Int) (jt : Pt), (∀ u ∈ us, unitB u = true) → (∀ s ∈ ss, s = 0) → (stepN jt us ps ss).2 = 0 ∨ (stepN jt us ps ss).2 = 2 ∨ (stepN jt us ps ss).2 = 4 ∨ (stepN jt us ps ss).2 = 9
  | [], ps, ss, jt, _, _ => by rw [stepN_nil]; exact .inl rfl
  | u :: us, [], ss, jt, _, _ => .inl rfl
  | u :: us, x :: ps, [], jt, _, _ => .inl rfl
  | u :: us, x :: ps, s :: ss, jt, hv, hz => by
    obtain rfl : s = 0 := hz s (by simp)
    have hu := hv u (by simp)
    have b1 := pulled_bds hu
    have b2 := unitB_bds hu
    have b3 := rear_bds hu
    obtain ⟨p, hp⟩ : ∃ p, pullS jt x (pulledN u) = p := ⟨_, rfl⟩
    obtain ⟨j, hj⟩ : ∃ j, placeS p.1 jt (rearN u) 0 = j := ⟨_, rfl⟩
    rw [stepN_step (p := p) (by rw [pullTS_zero]; exact hp) hj]
    by_cases hp0 : p.2 = 0
    · rw [if_pos hp0]
      by_cases hus : us = []
      · rw [if_pos hus]; exact .inl rfl
      · rw [if_neg hus]
        by_cases hj0 : j.2 = 0
        · rw [if_pos hj0]
          exact step_err us ps ss j.1 (fun u hu => hv u (by simp [hu])) (fun s hs => hz s (by simp [hs]))
        · rw [if_neg hj0, ← hj]
          exact placeS_err (by omega) (by omega)
    · rw [if_neg hp0, ← hp]
      exact pullS_err (by omega) (by omega)
theorem stepS_err {v : CVeh} {old lead : Pt} {ps : List Pt} {st : List Int} (h : poseE v old ps = 0) (h2 : steerE v st = 0) (hz : ∀ s ∈ st, s = 0) : (stepS v old ps lead st).2.2 = 0 ∨ (stepS v old ps lead st).2.2 = 2 ∨ (stepS v old ps lead st).2.2 = 4 ∨ (stepS v old ps lead st).2.2 = 9 := by
  cases hl : okPt lead
  · rw [stepS_lead h hl]; exact .inr (.inl rfl)
  · rw [stepS_go h hl h2 rfl]
    split
    · split
      · exact .inl rfl
      · exact .inr (.inr (.inr rfl))
    · exact step_err v.units ps st lead (vehE_units (puts_len h).2.1) hz
theorem steer_zero {v : CVeh} (hv : ∀ u ∈ v.units, unitB u = true) : steerE v (List.replicate v.units.length 0) = 0 := by
  unfold steerE
  rw [if_pos (by simp)]
  have key : ∀ us : List CUnit, (∀ u ∈ us, unitB u = true) → steerB us (List.replicate us.length 0) = true := by
    intro us
    induction us with
    | nil => intro _; rfl
    | cons u us ih =>
      intro h
      have hu := unit_most (h u (by simp))
      show (inB 0 (-u.most) u.most && steerB us (List.replicate us.length 0)) = true
      rw [inB_iff.2 ⟨by omega, by omega⟩, ih (fun x hx => h x (by simp [hx]))]
      rfl
  rw [key v.units hv]
  rfl
theorem sl_zeros {W : World} {b n : Nat} (h : ∀ i, i < n → W.cell? ⟨b, i, none⟩ = some (.int .i64 0)) (hn : n ≤ 9223372036854775807) : Sl 1 RNum W (.slice (some ⟨b, 0, none⟩) n n) (List.replicate n 0) :=
  ⟨some ⟨b, 0, none⟩, n, by simp, by simpa using hn, by simp, fun i x hi => by
    obtain ⟨hi1, rfl⟩ := List.getElem?_eq_some_iff.1 hi
    simp only [List.length_replicate] at hi1
    refine ⟨b, 0, [.int .i64 0], rfl, rfl, ⟨by simp, by simp, by simp⟩, fun j c hj => ?_⟩
    match j, hj with
    | 0, hj =>
      simp only [List.getElem?_cons_zero, Option.some.injEq] at hj
      subst hj
      simpa using h i hi1
    | j + 1, hj => simp at hj⟩
theorem stepS_ok {v : CVeh} {old lead p : Pt} {ps xs : List Pt} {st : List Int} (h : stepS v old ps lead st = (p, xs, 0)) :
    p = lead ∧ xs = (stepN lead v.units ps st).1 ∧ (stepN lead v.units ps st).2 = 0 ∧ poseE v lead xs = 0 := by
  by_cases h1 : poseE v old ps = 0
  · cases h2 : okPt lead
    · rw [stepS_lead h1 h2] at h; simp at h
    · by_cases h3 : steerE v st = 0
      · rw [stepS_go h1 h2 h3 rfl] at h
        by_cases h4 : (stepN lead v.units ps st).2 = 0
        · rw [if_pos h4] at h
          by_cases h5 : poseE v lead (stepN lead v.units ps st).1 = 0
          · rw [if_pos h5] at h
            simp only [Prod.mk.injEq, and_true] at h
            exact ⟨h.1.symm, h.2.symm, h4, by rw [← h.2]; exact h5⟩
          · rw [if_neg h5] at h; simp at h
        · rw [if_neg h4] at h
          simp only [Prod.mk.injEq] at h
          exact absurd h.2.2 h4
      · rw [stepS_steer h1 h2 h3] at h
        simp only [Prod.mk.injEq] at h
        exact absurd h.2.2 h3
  · rw [stepS_pose h1] at h
    simp only [Prod.mk.injEq] at h
    exact absurd h.2.2 h1
theorem infoInt : (Try.prog.info? 3).map (fun i => (i.zero, i.size, i.bytes)) = some (some (.int .i64 0), 1, 8) := by kernel_rfl
end Go.Proofs.Ytgikfliibimkdaa
/- The law ChainBars, walked. -/
namespace Go.Proofs.Ytgikfliibimkdaa
open Go.RowKit Go.Shelf

theorem pts_set {w : World} {x : Value} {l : List Pt} (h : Pts w x l) {b o : Nat} {u : Value} (hne : x.ownBlock ≠ some b) : Pts (w.setCell ⟨b, o, none⟩ u) x l := by
  rcases h with h | ⟨g, off, cap, rfl, h1, h2, hc⟩
  · exact .inl h
  · have hgb : g ≠ b := fun e => hne (by rw [e]; rfl)
    exact .inr ⟨g, off, cap, rfl, h1, h2, fun i hi => ⟨cell_set_ne hgb (hc i hi).1, cell_set_ne hgb (hc i hi).2⟩⟩
theorem distS_ok {a b : Pt} (h1 : okPt a = true) (h2 : okPt b = true) : distS a b = (farS a b, 0) := by simp [distS, h1, h2]
theorem farS_bd {a b : Pt} (h1 : okPt a = true) (h2 : okPt b = true) : 0 ≤ farS a b ∧ farS a b ≤ 67108864 := by
  obtain ⟨ax, ay⟩ := a
  obtain ⟨bx, by'⟩ := b
  obtain ⟨a1, a2, a3, a4⟩ := okPt_bd h1
  obtain ⟨a5, a6, a7, a8⟩ := okPt_bd h2
  obtain ⟨c1, c2, c3, c4⟩ := dist_bd (u := bx - ax) (v := by' - ay) (by omega) (by omega) (by omega) (by omega)
  exact ⟨Pl.isqrt_nonneg _, Pl.isqrt_le_of (by simp only; omega) (by omega) (by simp only; omega)⟩
/-- how far two numbers are apart -/
theorem distance3_c (a b : Int) (w : World) (h1 : -4000000000000000000 ≤ a) (h2 : a ≤ 4000000000000000000) (h3 : -4000000000000000000 ≤ b) (h4 : b ≤ 4000000000000000000) :
    Calls Try.prog 24 #[.int .i64 a, .int .i64 b] w fun e w' => e = .returned (.int .i64 (max (a - b) (b - a))) ∧ w = w' := by
  go_enter Try.func24, Try.ntmps24
  go_wp2
  go_ret
  exact ⟨rfl, rfl⟩
/-- a bar: what the law's inner loop compares -/
theorem bar_all {v : CVeh} {n nx : _} {pax : List Pt} {m : Nat} (hv : ∀ u ∈ v.units, unitB u = true) (hpe : poseE v n nx = 0) (hnx : nx = (stepN n v.units pax (List.replicate v.units.length 0)).1) (hst : (stepN n v.units pax (List.replicate v.units.length 0)).2 = 0)
    (hlen : pax.length = v.units.length) (hm : m < v.units.length) :
    ∃ (u : CUnit) (j a x : Pt), v.units[m]? = some u ∧ pax[m]? = some a ∧ nx[m]? = some x ∧ jointS v n nx (m : Int) = (j, 0) ∧ distS a j = (farS a j, 0) ∧ distS x j = (farS x j, 0) ∧
      (0 ≤ farS a j ∧ farS a j ≤ 67108864) ∧ (0 ≤ farS x j ∧ farS x j ≤ 67108864) ∧ (10 ≤ pulledN u ∧ pulledN u ≤ 131072) ∧ (pulledN u ≤ 16 * farS a j → -2 ≤ farS x j - pulledN u ∧ farS x j - pulledN u ≤ 2) := by
  obtain ⟨c, hc⟩ := some_of_lt (show m < (putsN n v.units nx).length by rw [(puts_len hpe).1]; exact hm)
  obtain ⟨a, ha⟩ := some_of_lt (show m < pax.length by omega)
  have hcu := putsN_at _ _ _ _ _ hc
  have hb := bars v.units pax (List.replicate v.units.length 0) n m c a (fun s hs => List.eq_of_mem_replicate hs) hst (by rw [← hnx]; exact hc) ha
  obtain ⟨oj, oa, hl, _, ox, _⟩ := pullS_ok hb
  have hu := hv c.unit (mem_of_some hcu.1)
  have b1 := pulled_bds hu
  have b2 := unitB_bds hu
  exact ⟨c.unit, c.joint, a, c.axle, hcu.1, ha, hcu.2, jointS_in hpe hm hc, distS_ok oa oj, distS_ok ox oj, farS_bd oa oj, farS_bd ox oj, ⟨b1.1, by omega⟩, bar_fact hb (by omega)⟩
section
variable {vu vl : Value} {v : CVeh} {ld : List Pt}
set_option maxRecDepth 100000 in
set_option maxHeartbeats 1600000 in
theorem bars_no (l1 l2 b1 b2 : Int) (w : World) (hs : Sl 11 RUnit w vu v.units) (hld : Pts w vl ld) (h : (!longB v && decide (vehE v = 0)) = false) :
    Calls Try.prog 4 #[vehV v vu, .agg #[.int .i64 l1, .int .i64 l2], .agg #[.int .i64 b1, .int .i64 b2], vl] w fun e w' => e = .returned (.bool true) ∧ Ext w w' := by
  have CL := fun w' (h : Ext w w') => lvalid_c (v := v) w' (hs.ext RUnit.stable h)
  rw [h] at CL
  have CW := Lib.hid (fun w => cworks_c w)
  obtain ⟨A, cap, rfl, hl, hl2⟩ := hs.shape
  obtain ⟨Al, capl, rfl⟩ := pts_shape hld
  unfold vehV at *
  replace CL := Lib.hid CL
  clear hs hld h
  go_enter Try.func4, Try.ntmps4
  go_wp2_with (first | (go_at_call 20; refine (CL.out _ (by (repeat' (first | exact Ext.refl _ | assumption | refine Ext.alloc ?_ _ | refine Ext.drew ?_ | refine Ext.drewN ?_ _ | refine Ext.set ?_ (by first | exact Nat.le_refl _ | exact le1 _ | exact le2 _ | exact le3 _ | exact le4 _ | exact le5 _ | exact le6 _) _ | refine Ext.trans ?_ (by assumption))))).mono ?_; rintro e w1 ⟨rfl, hb1⟩) | (go_at_call 10; refine (CW.out _).mono ?_; rintro e wW ⟨rfl, hbW⟩))
  go_ret
  exact ⟨rfl, by (repeat' (first | exact Ext.refl _ | assumption | refine Ext.alloc ?_ _ | refine Ext.drew ?_ | refine Ext.drewN ?_ _ | refine Ext.set ?_ (by first | exact Nat.le_refl _ | exact le1 _ | exact le2 _ | exact le3 _ | exact le4 _ | exact le5 _ | exact le6 _) _ | refine Ext.trans ?_ (by assumption)))⟩
set_option maxRecDepth 100000 in
set_option maxHeartbeats 1600000 in
theorem bars_err (l1 l2 b1 b2 : Int) (w : World) (hs : Sl 11 RUnit w vu v.units) (hld : Pts w vl ld) (h : (!longB v && decide (vehE v = 0)) = true) (h2 : ¬ (straightS v (l1, l2) (b1, b2)).2.2 = 0) :
    Calls Try.prog 4 #[vehV v vu, .agg #[.int .i64 l1, .int .i64 l2], .agg #[.int .i64 b1, .int .i64 b2], vl] w fun e w' => e = .returned (.bool true) ∧ Ext w w' := by
  have CL := fun w' (h : Ext w w') => lvalid_c (v := v) w' (hs.ext RUnit.stable h)
  rw [h] at CL
  have CW := Lib.hid (fun w => cworks_c w)
  have CS := fun w' (h : Ext w w') => Straight_c l1 l2 b1 b2 w' (hs.ext RUnit.stable h)
  obtain ⟨A, cap, rfl, hl, hl2⟩ := hs.shape
  obtain ⟨Al, capl, rfl⟩ := pts_shape hld
  obtain ⟨⟨⟨s1, s2⟩, sl, se⟩, hS⟩ : ∃ S, straightS v (l1, l2) (b1, b2) = S := ⟨_, rfl⟩
  unfold vehV StrR poseEV at *
  rw [hS] at CS h2
  simp only at CS h2
  replace CL := Lib.hid CL
  replace CS := Lib.hid CS
  clear hs hld h hS
  go_enter Try.func4, Try.ntmps4
  go_wp2_with (first | (go_at_call 20; refine (CL.out _ (by (repeat' (first | exact Ext.refl _ | assumption | refine Ext.alloc ?_ _ | refine Ext.drew ?_ | refine Ext.drewN ?_ _ | refine Ext.set ?_ (by first | exact Nat.le_refl _ | exact le1 _ | exact le2 _ | exact le3 _ | exact le4 _ | exact le5 _ | exact le6 _) _ | refine Ext.trans ?_ (by assumption))))).mono ?_; rintro e w1 ⟨rfl, hb⟩; have y0 := Ext.cell hb (p := ⟨w.heap.size, 0, none⟩) (v := .string v.name) (by go_simp); have y1 := Ext.cell hb (p := ⟨w.heap.size, 1, none⟩) (v := .slice A v.units.length cap) (by go_simp); have y2 := Ext.cell hb (p := ⟨w.heap.size, 2, none⟩) (v := .int .i64 v.first) (by go_simp); have y3 := Ext.cell hb (p := ⟨w.heap.size, 3, none⟩) (v := .int .i64 v.last) (by go_simp); have L0 := Ext.cell hb (p := ⟨w.heap.size + 1, 0, none⟩) (v := .int .i64 l1) (by go_simp); have L1 := Ext.cell hb (p := ⟨w.heap.size + 1, 1, none⟩) (v := .int .i64 l2) (by go_simp); have B0 := Ext.cell hb (p := ⟨w.heap.size + 1 + 1, 0, none⟩) (v := .int .i64 b1) (by go_simp); have B1 := Ext.cell hb (p := ⟨w.heap.size + 1 + 1, 1, none⟩) (v := .int .i64 b2) (by go_simp); have E1 : Ext w w1 := ((((Ext.refl w).alloc _).alloc _).alloc _).trans hb; have hly := lt_of_cell y0; clear hb) | (go_at_call 11; refine (CS.out _ E1).mono ?_; rintro e w2 ⟨va, rfl, hpa, hb⟩; obtain ⟨A0, c0, rfl⟩ := pts_shape hpa; replace y0 := Ext.cell hb y0; replace y1 := Ext.cell hb y1; replace y2 := Ext.cell hb y2; replace y3 := Ext.cell hb y3; replace L0 := Ext.cell hb L0; replace L1 := Ext.cell hb L1; replace B0 := Ext.cell hb B0; replace B1 := Ext.cell hb B1; have E2 := E1.trans hb; have hly2 := lt_of_cell y0; clear hb) | (go_at_call 10; refine (CW.out _).mono ?_; rintro e wW ⟨rfl, hbW⟩))
  go_ret
  exact ⟨rfl, by (repeat' (first | exact Ext.refl _ | assumption | refine Ext.alloc ?_ _ | refine Ext.drew ?_ | refine Ext.drewN ?_ _ | refine Ext.set ?_ (by first | exact Nat.le_refl _ | exact le1 _ | exact le2 _ | exact le3 _ | exact le4 _ | exact le5 _ | exact le6 _) _ | refine Ext.trans ?_ (by assumption)))⟩
theorem straight_ok {v : CVeh} {lead behind : Pt} (h : (straightS v lead behind).2.2 = 0) : poseE v (straightS v lead behind).1 (straightS v lead behind).2.1 = 0 := by
  by_cases hE : vehE v = 0
  · cases h2 : (okPt lead && okPt behind)
    · rw [straightS_pts hE h2] at h; cases h
    · simp only [Bool.and_eq_true] at h2
      match hv : v.units with
      | [] => have := vehE_len hE; rw [hv] at this; simp at this
      | u :: us =>
        have h3 := straightS_go hE h2.1 h2.2 hv rfl rfl
        rw [h3] at h ⊢
        split at h
        · split at h
          · split at h
            · rename_i h4 h5 h6
              rw [if_pos h4, if_pos h5, if_pos h6]
              exact h6
            · cases h
          · rename_i h5; exact absurd h h5
        · rename_i h4; exact absurd h h4
  · rw [straightS_veh hE] at h; exact absurd h hE
set_option maxRecDepth 100000 in
set_option maxHeartbeats 6400000 in
theorem bars_go (l1 l2 b1 b2 : Int) (w : World) (hs : Sl 11 RUnit w vu v.units) (hld : Pts w vl ld) (h : (!longB v && decide (vehE v = 0)) = true) (h2 : (straightS v (l1, l2) (b1, b2)).2.2 = 0) :
    Calls Try.prog 4 #[vehV v vu, .agg #[.int .i64 l1, .int .i64 l2], .agg #[.int .i64 b1, .int .i64 b2], vl] w fun e w' => e = .returned (.bool true) ∧ Ext w w' := by
  have CL := fun w' (h : Ext w w') => lvalid_c (v := v) w' (hs.ext RUnit.stable h)
  rw [h] at CL
  have hE : vehE v = 0 := by simp only [Bool.and_eq_true, decide_eq_true_eq] at h; exact h.2
  have CW := Lib.hid (fun w => cworks_c w)
  have CS := fun w' (h : Ext w w') => Straight_c l1 l2 b1 b2 w' (hs.ext RUnit.stable h)
  have HSL := Lib.hid hs
  have HLD := Lib.hid hld
  have HE := Lib.hid hE
  have HV := Lib.hid (vehE_units hE)
  have HLN := Lib.hid (vehE_len hE)
  have hS0 := straight_ok h2
  obtain ⟨A, cap, rfl, hl, hl2⟩ := hs.shape
  obtain ⟨Al, capl, rfl⟩ := pts_shape hld
  have hll := pts_len hld
  obtain ⟨⟨⟨s1, s2⟩, sl, se⟩, hS⟩ : ∃ S, straightS v (l1, l2) (b1, b2) = S := ⟨_, rfl⟩
  unfold vehV StrR poseEV at *
  rw [hS] at CS h2 hS0
  simp only at CS h2 hS0
  subst h2
  replace CL := Lib.hid CL
  replace CS := Lib.hid CS
  have HS0 := Lib.hid hS0
  have hmk := run_make_row' (P := Try.prog) 42 3 (.int .i64 0) 8 Try.underlying42 infoInt rfl .i64 .i64 v.units.length (by have := vehE_len hE; omega) hl
  have hmz : ∀ (W : World) (i : Nat), i < v.units.length → (W.alloc (.cells (madeCells #[.int .i64 0] v.units.length) 3)).cell? ⟨W.heap.size, i, none⟩ = some (.int .i64 0) := fun W i hi => (World.rowIs_made W (.int .i64 0) v.units.length 3).cell hi
  obtain ⟨MC, hMC⟩ : ∃ MC, madeCells #[.int .i64 0] v.units.length = MC := ⟨_, rfl⟩
  rw [hMC] at hmk hmz
  have HMZ := Lib.hid hmz
  clear hs hld h hE hS hS0 hmz hMC
  go_enter Try.func4, Try.ntmps4
  go_upto_region 6 with (first | (go_at_call 20; refine (CL.out _ (by (repeat' (first | exact Ext.refl _ | assumption | refine Ext.alloc ?_ _ | refine Ext.drew ?_ | refine Ext.drewN ?_ _ | refine Ext.set ?_ (by first | exact Nat.le_refl _ | exact le1 _ | exact le2 _ | exact le3 _ | exact le4 _ | exact le5 _ | exact le6 _) _ | refine Ext.trans ?_ (by assumption))))).mono ?_; rintro e w1 ⟨rfl, hb⟩; have y0 := Ext.cell hb (p := ⟨w.heap.size, 0, none⟩) (v := .string v.name) (by go_simp); have y1 := Ext.cell hb (p := ⟨w.heap.size, 1, none⟩) (v := .slice A v.units.length cap) (by go_simp); have y2 := Ext.cell hb (p := ⟨w.heap.size, 2, none⟩) (v := .int .i64 v.first) (by go_simp); have y3 := Ext.cell hb (p := ⟨w.heap.size, 3, none⟩) (v := .int .i64 v.last) (by go_simp); have L0 := Ext.cell hb (p := ⟨w.heap.size + 1, 0, none⟩) (v := .int .i64 l1) (by go_simp); have L1 := Ext.cell hb (p := ⟨w.heap.size + 1, 1, none⟩) (v := .int .i64 l2) (by go_simp); have B0 := Ext.cell hb (p := ⟨w.heap.size + 1 + 1, 0, none⟩) (v := .int .i64 b1) (by go_simp); have B1 := Ext.cell hb (p := ⟨w.heap.size + 1 + 1, 1, none⟩) (v := .int .i64 b2) (by go_simp); have E1 : Ext w w1 := ((((Ext.refl w).alloc _).alloc _).alloc _).trans hb; have hly := lt_of_cell y0; clear hb) | (go_at_call 11; refine (CS.out _ E1).mono ?_; rintro e w2 ⟨va, rfl, hpa, hb⟩; obtain ⟨A0, c0, rfl⟩ := pts_shape hpa; replace y0 := Ext.cell hb y0; replace y1 := Ext.cell hb y1; replace y2 := Ext.cell hb y2; replace y3 := Ext.cell hb y3; replace L0 := Ext.cell hb L0; replace L1 := Ext.cell hb L1; replace B0 := Ext.cell hb B0; replace B1 := Ext.cell hb B1; have E2 := E1.trans hb; have hly2 := lt_of_cell y0; clear hb))
  have hA3 : (w2.alloc (.cells #[.int .i64 s1, .int .i64 s2, .slice A0 sl.length c0] 29)).heap[w2.heap.size]? = some (.cells #[.int .i64 s1, .int .i64 s2, .slice A0 sl.length c0] 29 (0, 0)) := new_at rfl
  have E23 : Ext w2 (w2.alloc (.cells #[.int .i64 s1, .int .i64 s2, .slice A0 sl.length c0] 29)) := (Ext.refl w2).alloc _
  have hp3 := hpa.ext E23
  generalize (w2.alloc (.cells #[.int .i64 s1, .int .i64 s2, .slice A0 sl.length c0] 29)) = W3 at *
  clear hpa L0 L1 B0 B1
  go_wp2_with fail
  go_loopw [11] (fun i wr => ∃ (k : Nat) (pl : Pt) (pax : List Pt) (va : Value), k ≤ ld.length ∧ k ≤ 12 ∧ i = .int .i64 k ∧ wr.heap[w2.heap.size]? = some (.cells #[.int .i64 pl.1, .int .i64 pl.2, va] 29 (0, 0)) ∧ Pts wr va pax ∧ poseE v pl pax = 0 ∧ Ext w2 wr) (fun i _ => 12 - (intOf i).toNat)
  case atStart => exact ⟨0, (s1, s2), sl, _, by omega, by omega, rfl, hA3, hp3, HS0.out, E23⟩
  case round =>
    obtain ⟨k, pl, pax, va, hk, hk12, rfl, hA, hpx, hp0, E⟩ := hrel
    clear hA3 hp3 E23
    have EW := E2.trans E
    by_cases hlt : k < ld.length ∧ k < 12
    case neg =>
      have hx : (¬ (k : Int) < (ld.length : Int)) ∨ ((k : Int) < (ld.length : Int) ∧ ¬ (k : Int) < 12) := by omega
      clear hpx hA
      rcases hx with hx | ⟨hx, hx2⟩
      all_goals
        go_wp2_with (go_at_call 10; refine (CW.out _).mono ?_; rintro e wW ⟨rfl, hbW⟩)
        go_ret
        exact ⟨rfl, by (repeat' (first | exact Ext.refl _ | assumption | refine Ext.alloc ?_ _ | refine Ext.drew ?_ | refine Ext.drewN ?_ _ | refine Ext.set ?_ (by first | exact Nat.le_refl _ | exact le1 _ | exact le2 _ | exact le3 _ | exact le4 _ | exact le5 _ | exact le6 _) _ | refine Ext.trans ?_ (by assumption)))⟩
    case pos =>
      obtain ⟨p1, p2⟩ := pl
      obtain ⟨Ax, cx, rfl⟩ := pts_shape hpx
      obtain ⟨⟨q1, q2⟩, hq⟩ := some_of_lt hlt.1
      obtain ⟨lb, lo, rfl, g0, g1⟩ := pts_at HLD.out hq
      have i1 : (0 : Int) ≤ (k : Int) := by omega
      have i2 : (k : Int) < (ld.length : Int) := by omega
      have i3 : (k : Int) < 12 := by omega
      have ew := IntWalk.i64_in ((k : Int) + 1) (by omega)
      have hpl := puts_len hp0
      have hst0 := steer_zero HV.out
      have hzz : ∀ s ∈ List.replicate v.units.length (0 : Int), s = 0 := fun s hs => List.eq_of_mem_replicate hs
      have herr := stepS_err (lead := (q1, q2)) hp0 hst0 hzz
      obtain ⟨⟨⟨n1, n2⟩, nx, ne⟩, hN⟩ : ∃ S, stepS v (p1, p2) pax (q1, q2) (List.replicate v.units.length 0) = S := ⟨_, rfl⟩
      have CT := fun w' (he : Ext wr w') vst (hst : Sl 1 RNum w' vst (List.replicate v.units.length 0)) => Step_c (v := v) (vst := vst) (st := List.replicate v.units.length 0) p1 p2 q1 q2 w' (HSL.out.ext RUnit.stable (EW.trans he)) (hpx.ext he) hst
      unfold StepR at CT
      rw [hN] at CT herr
      simp only at CT herr
      unfold vehV poseV poseEV at CT
      have y0r := Ext.cell E y0
      have y1r := Ext.cell E y1
      have y2r := Ext.cell E y2
      have y3r := Ext.cell E y3
      have g0r := Ext.cell EW g0
      have g1r := Ext.cell EW g1
      have x0 : wr.cell? ⟨w2.heap.size, 0, none⟩ = some (.int .i64 p1) := World.news_of_block hA 0 _ rfl
      have x1 : wr.cell? ⟨w2.heap.size, 1, none⟩ = some (.int .i64 p2) := World.news_of_block hA 1 _ rfl
      have x2 : wr.cell? ⟨w2.heap.size, 2, none⟩ = some (.slice Ax pax.length cx) := World.news_of_block hA 2 _ rfl
      have hc1 := CT (wr.alloc (.cells MC 3)).drew ((Ext.refl wr).alloc _).drew (.slice (some ⟨wr.heap.size, 0, none⟩) v.units.length v.units.length) (sl_zeros (fun i hi => Ext.cell (Ext.refl _).drew (HMZ.out wr i hi)) hl)
      have hc2 := CT ((wr.alloc (.cells #[.int .i64 0, .int .i64 0, .slice none 0 0] 29)).alloc (.cells MC 3)).drew (((Ext.refl wr).alloc _).alloc _).drew (.slice (some ⟨wr.heap.size + 1, 0, none⟩) v.units.length v.units.length) (sl_zeros (fun i hi => Ext.cell (Ext.refl _).drew (by have h5 := HMZ.out (wr.alloc (.cells #[.int .i64 0, .int .i64 0, .slice none 0 0] 29)) i hi; rw [size_alloc] at h5; exact h5)) hl)
      have hc3 := CT ((wr.alloc (.cells MC 3)).alloc (.cells #[.int .i64 0, .int .i64 0, .slice none 0 0] 29)).drew (((Ext.refl wr).alloc _).alloc _).drew (.slice (some ⟨wr.heap.size, 0, none⟩) v.units.length v.units.length) (sl_zeros (fun i hi => Ext.cell (Ext.refl _).drew (Ext.cell ((Ext.refl _).alloc _) (HMZ.out wr i hi))) hl)
      have hla := lt_of_cell y0r
      have hlb := lt_of_cell x0
      have hlc := lt_of_cell g0r
      have nA : w.heap.size ≠ wr.heap.size := by omega
      have nB : w2.heap.size ≠ wr.heap.size := by omega
      have nC : lb ≠ wr.heap.size := by omega
      have nD : w.heap.size ≠ wr.heap.size + 1 := by omega
      have nE : w2.heap.size ≠ wr.heap.size + 1 := by omega
      have nF : lb ≠ wr.heap.size + 1 := by omega
      dsimp only at hc1 hc2 hc3
      have HC1 := Lib.hid hc1
      have HC2 := Lib.hid hc2
      have HC3 := Lib.hid hc3
      have HN := Lib.hid hN
      have HER := Lib.hid herr
      have HP0 := Lib.hid hp0
      have HPX := Lib.hid hpx
      have HAA := Lib.hid hA
      have HLT := Lib.hid hlt
      clear hc1 hc2 hc3 CT hN herr hp0 hpx hA hlt hpl hst0 hzz hq g0 g1
      go_upto_region 9 with fail
      go_cut [12, 13] from 37 to 173 (fun sa sb wc => ∃ (t : Nat) (Ay : Option Addr) (cy : Nat), sa = .pointer (some ⟨t, 0, none⟩) ∧ sb = .int .i64 ne ∧ Ext wr wc ∧ wr.heap.size ≤ t ∧ wc.heap[t]? = some (.cells #[.int .i64 n1, .int .i64 n2, .slice Ay nx.length cy] 29 (0, 0)) ∧ Pts wc (.slice Ay nx.length cy) nx ∧ (∀ g, (Value.slice Ay nx.length cy).ownBlock = some g → wr.heap.size ≤ g))
      case first =>
        go_region_held3 (fun w' => w'.cell? ⟨w.heap.size, 0, none⟩ = some (.string v.name) ∧ w'.cell? ⟨w.heap.size, 1, none⟩ = some (.slice A v.units.length cap) ∧ w'.cell? ⟨w.heap.size, 2, none⟩ = some (.int .i64 v.first) ∧ w'.cell? ⟨w.heap.size, 3, none⟩ = some (.int .i64 v.last) ∧ w'.cell? ⟨w2.heap.size, 0, none⟩ = some (.int .i64 p1) ∧ w'.cell? ⟨w2.heap.size, 1, none⟩ = some (.int .i64 p2) ∧ w'.cell? ⟨w2.heap.size, 2, none⟩ = some (.slice Ax pax.length cx) ∧ w'.cell? ⟨lb, lo + k * 2, none⟩ = some (.int .i64 q1) ∧ w'.cell? ⟨lb, lo + k * 2 + 1, none⟩ = some (.int .i64 q2)) (refine ⟨?_, ?_, ?_, ?_, ?_, ?_, ?_, ?_, ?_⟩ <;> (repeat' (with_reducible (first | assumption | refine Ext.cell hbS ?_ | refine Ext.cell (Ext.refl _).drew ?_ | refine cell_set_ne nA ?_ | refine cell_set_ne nB ?_ | refine cell_set_ne nC ?_ | refine cell_set_ne nD ?_ | refine cell_set_ne nE ?_ | refine cell_set_ne nF ?_ | refine Ext.cell ((Ext.refl _).alloc _) ?_)))) ((go_at_call 21; first
          | (with_reducible refine HC1.out.mono ?_; rintro e wS ⟨vy, rfl, hy, hown, hbS⟩; obtain ⟨Ay, cy, rfl⟩ := pts_shape hy; have ES : Ext wr wS := ((Ext.refl wr).alloc _).drew.trans hbS; have hSz := ES.sz)
          | (with_reducible refine HC2.out.mono ?_; rintro e wS ⟨vy, rfl, hy, hown, hbS⟩; obtain ⟨Ay, cy, rfl⟩ := pts_shape hy; have ES : Ext wr wS := (((Ext.refl wr).alloc _).alloc _).drew.trans hbS; have hSz := ES.sz; have yc : wS.heap[wr.heap.size]? = some (.cells #[.int .i64 0, .int .i64 0, .slice none 0 0] 29 (0, 0)) := hbS.blk ((Ext.refl _).drew.blk (((Ext.refl _).alloc _).blk (new_at (W := wr) rfl))); have c0 : wS.cell? ⟨wr.heap.size, 0, none⟩ = some (.int .i64 0) := news_at yc 0 _ rfl; have c1 : wS.cell? ⟨wr.heap.size, 1, none⟩ = some (.int .i64 0) := news_at yc 1 _ rfl; have c2 : wS.cell? ⟨wr.heap.size, 2, none⟩ = some (.slice none 0 0) := news_at yc 2 _ rfl; have f0 := blk_frz yc 0; have f1 := blk_frz yc 1; have f2 := blk_frz yc 2)
          | (with_reducible refine HC3.out.mono ?_; rintro e wS ⟨vy, rfl, hy, hown, hbS⟩; obtain ⟨Ay, cy, rfl⟩ := pts_shape hy; have ES : Ext wr wS := (((Ext.refl wr).alloc _).alloc _).drew.trans hbS; have hSz := ES.sz; have yc : wS.heap[wr.heap.size + 1]? = some (.cells #[.int .i64 0, .int .i64 0, .slice none 0 0] 29 (0, 0)) := hbS.blk ((Ext.refl _).drew.blk (new_at (size_alloc _ _))); have c0 : wS.cell? ⟨wr.heap.size + 1, 0, none⟩ = some (.int .i64 0) := news_at yc 0 _ rfl; have c1 : wS.cell? ⟨wr.heap.size + 1, 1, none⟩ = some (.int .i64 0) := news_at yc 1 _ rfl; have c2 : wS.cell? ⟨wr.heap.size + 1, 2, none⟩ = some (.slice none 0 0) := news_at yc 2 _ rfl; have f0 := blk_frz yc 0; have f1 := blk_frz yc 1; have f2 := blk_frz yc 2)))
        all_goals
          go_wp2_with fail
          go_meet
          have hge : ∀ g, (Value.slice Ay nx.length cy).ownBlock = some g → wr.heap.size ≤ g := fun g hg => by have h7 := hown g hg; (try rw [size_drew] at h7); (repeat rw [size_alloc] at h7); omega
          first
            | exact ⟨wS.heap.size, Ay, cy, rfl, rfl, ES.alloc _, hSz, new_at rfl, hy.ext ((Ext.refl wS).alloc _), hge⟩
            | (have hnb : (Value.slice Ay nx.length cy).ownBlock ≠ some wr.heap.size := fun hg => by have h7 := hown _ hg; (try rw [size_drew] at h7); (repeat rw [size_alloc] at h7); omega
               exact ⟨wr.heap.size, Ay, cy, rfl, rfl, ((ES.set (p := ⟨wr.heap.size, 0, none⟩) (Nat.le_refl _) _).set (p := ⟨wr.heap.size, 1, none⟩) (Nat.le_refl _) _).set (p := ⟨wr.heap.size, 2, none⟩) (Nat.le_refl _) _, Nat.le_refl _, three_set _ _ _ yc, pts_set (pts_set (pts_set hy hnb) hnb) hnb, hge⟩)
            | (have hnb : (Value.slice Ay nx.length cy).ownBlock ≠ some (wr.heap.size + 1) := fun hg => by have h7 := hown _ hg; (try rw [size_drew] at h7); (repeat rw [size_alloc] at h7); omega
               exact ⟨wr.heap.size + 1, Ay, cy, rfl, rfl, ((ES.set (p := ⟨wr.heap.size + 1, 0, none⟩) (le1 _) _).set (p := ⟨wr.heap.size + 1, 1, none⟩) (le1 _) _).set (p := ⟨wr.heap.size + 1, 2, none⟩) (le1 _) _, le1 _, three_set _ _ _ yc, pts_set (pts_set (pts_set hy hnb) hnb) hnb, hge⟩)
      case rest =>
        obtain ⟨t, Ay, cy, rfl, rfl, E9, ht, hT, hPn, hown⟩ := hcut
        generalize wc = W9 at *
        by_cases hn : ne = 0
        case neg =>
          have h3 : ne = 2 ∨ ne = 4 ∨ ne = 9 := by
            rcases HER.out with h | h | h | h
            · exact absurd h hn
            · exact .inl h
            · exact .inr (.inl h)
            · exact .inr (.inr h)
          clear hn hT hPn hown HC1 HC2 HC3
          rcases h3 with rfl | rfl | rfl
          all_goals
            go_wp2_with (go_at_call 10; refine (CW.out _).mono ?_; rintro e wW ⟨rfl, hbW⟩)
            go_ret
            exact ⟨rfl, by (repeat' (first | exact Ext.refl _ | assumption | refine Ext.alloc ?_ _ | refine Ext.drew ?_ | refine Ext.drewN ?_ _ | refine Ext.set ?_ (by first | exact Nat.le_refl _ | exact le1 _ | exact le2 _ | exact le3 _ | exact le4 _ | exact le5 _ | exact le6 _) _ | refine Ext.trans ?_ (by assumption)))⟩
        case pos =>
          subst hn
          obtain ⟨hpq, hnx, hst, hpe⟩ := stepS_ok HN.out
          simp only [Prod.mk.injEq] at hpq
          obtain ⟨rfl, rfl⟩ := hpq
          have hl1 := (puts_len hpe).2.2
          have hl2 := (puts_len HP0.out).2.2
          have hl1i : (nx.length : Int) = (v.units.length : Int) := by omega
          have hl2i : (pax.length : Int) = (v.units.length : Int) := by omega
          have CK := fun w' (he : Ext W9 w') => CheckPose_c (v := v) (lead := (n1, n2)) w' (HSL.out.ext RUnit.stable (EW.trans (E9.trans he))) (hPn.ext he)
          rw [hpe] at CK
          unfold vehV poseV at CK
          dsimp only at CK
          have HCK := Lib.hid CK
          have t0 : W9.cell? ⟨t, 0, none⟩ = some (.int .i64 n1) := news_at hT 0 _ rfl
          have t1 : W9.cell? ⟨t, 1, none⟩ = some (.int .i64 n2) := news_at hT 1 _ rfl
          have t2 : W9.cell? ⟨t, 2, none⟩ = some (.slice Ay nx.length cy) := news_at hT 2 _ rfl
          replace y0r := Ext.cell E9 y0r
          replace y1r := Ext.cell E9 y1r
          replace y2r := Ext.cell E9 y2r
          replace y3r := Ext.cell E9 y3r
          replace g0r := Ext.cell E9 g0r
          replace g1r := Ext.cell E9 g1r
          replace x2 := Ext.cell E9 x2
          have HPE := Lib.hid (And.intro hpe (And.intro hnx hst))
          have HPN := Lib.hid hPn
          have HL := Lib.hid (And.intro hl1 hl2)
          clear CK hpe hnx hst hPn hl1 hl2 HC1 HC2 HC3 x0 x1
          go_upto_region 12 with fail
          go_cut [106] from 37 to 173 (fun sa wc => sa = .bool false ∧ Ext W9 wc)
          case first =>
            go_region_held3 (fun w' => w'.cell? ⟨t, 0, none⟩ = some (.int .i64 n1) ∧ w'.cell? ⟨t, 1, none⟩ = some (.int .i64 n2) ∧ w'.cell? ⟨t, 2, none⟩ = some (.slice Ay nx.length cy) ∧ w'.cell? ⟨lb, lo + k * 2, none⟩ = some (.int .i64 n1) ∧ w'.cell? ⟨lb, lo + k * 2 + 1, none⟩ = some (.int .i64 n2) ∧ w'.cell? ⟨w.heap.size, 0, none⟩ = some (.string v.name) ∧ w'.cell? ⟨w.heap.size, 1, none⟩ = some (.slice A v.units.length cap) ∧ w'.cell? ⟨w.heap.size, 2, none⟩ = some (.int .i64 v.first) ∧ w'.cell? ⟨w.heap.size, 3, none⟩ = some (.int .i64 v.last) ∧ w'.cell? ⟨w2.heap.size, 2, none⟩ = some (.slice Ax pax.length cx)) (refine ⟨?_, ?_, ?_, ?_, ?_, ?_, ?_, ?_, ?_, ?_⟩ <;> (repeat' (with_reducible (first | assumption | refine Ext.cell hbK ?_ | refine Ext.cell (Ext.refl _).drew ?_)))) ((go_at_call 14; refine (HCK.out _ (by (repeat' (first | exact Ext.refl _ | assumption | refine Ext.alloc ?_ _ | refine Ext.drew ?_ | refine Ext.drewN ?_ _ | refine Ext.set ?_ (by first | exact Nat.le_refl _ | exact le1 _ | exact le2 _ | exact le3 _ | exact le4 _ | exact le5 _ | exact le6 _) _ | refine Ext.trans ?_ (by assumption))))).mono ?_; rintro e wK ⟨rfl, hbK⟩))
            all_goals
              go_wp2_with fail
              go_meet
              exact ⟨rfl, by (repeat' (first | exact Ext.refl _ | assumption | refine Ext.alloc ?_ _ | refine Ext.drew ?_ | refine Ext.drewN ?_ _ | refine Ext.set ?_ (by first | exact Nat.le_refl _ | exact le1 _ | exact le2 _ | exact le3 _ | exact le4 _ | exact le5 _ | exact le6 _) _ | refine Ext.trans ?_ (by assumption)))⟩
          case rest =>
            obtain ⟨rfl, E12⟩ := hcut
            generalize wc = W12 at *
            have EA := (E.trans E9).trans E12
            have hA := E12.blk (E9.blk HAA.out)
            have hpn := HPN.out.ext E12
            have hpx := HPX.out.ext (E9.trans E12)
            have EV := EW.trans (E9.trans E12)
            have hT2 := E12.blk hT
            replace y0r := Ext.cell E12 y0r
            replace y1r := Ext.cell E12 y1r
            replace y2r := Ext.cell E12 y2r
            replace y3r := Ext.cell E12 y3r
            replace x2 := Ext.cell E12 x2
            replace t0 := Ext.cell E12 t0
            replace t1 := Ext.cell E12 t1
            replace t2 := Ext.cell E12 t2
            have nHA := Lib.hid hA
            have nHT := Lib.hid hT2
            have nPN := Lib.hid hpn
            have nPX := Lib.hid hpx
            have hmu := HLN.out
            have hns : ∀ g, (Value.slice Ay nx.length cy).ownBlock = some g → w2.heap.size < g := fun g hg => by have := hown g hg; omega
            have HNS := Lib.hid hns
            clear hA hT hT2 hpn hpx hown E9 E12 hns g0r g1r hl1i hl2i HCK
            go_wp2_with fail
            go_loopw [14] (fun i wr => ∃ m : Nat, m ≤ v.units.length ∧ i = .int .i64 m ∧ Ext W12 wr) (fun i _ => v.units.length - (intOf i).toNat)
            case atStart => exact ⟨0, by omega, rfl, Ext.refl _⟩
            case round =>
              obtain ⟨m, hm, rfl, El⟩ := hrel
              have y0l := Ext.cell El y0r
              have y1l := Ext.cell El y1r
              have y2l := Ext.cell El y2r
              have y3l := Ext.cell El y3r
              have x2l := Ext.cell El x2
              have t0l := Ext.cell El t0
              have t1l := Ext.cell El t1
              have t2l := Ext.cell El t2
              by_cases hlt2 : m < v.units.length
              case neg =>
                have ix : ¬ (m : Int) < (v.units.length : Int) := by omega
                have hAl := El.blk nHA.out
                have hPl := nPN.out.ext El
                have f0 := blk_frz hAl 0
                have f1 := blk_frz hAl 1
                have f2 := blk_frz hAl 2
                have hla0 := fst_lt hAl
                have z0l : wr.cell? ⟨w2.heap.size, 0, none⟩ = some (.int .i64 p1) := World.news_of_block hAl 0 _ rfl
                have z1l : wr.cell? ⟨w2.heap.size, 1, none⟩ = some (.int .i64 p2) := World.news_of_block hAl 1 _ rfl
                have hnb : (Value.slice Ay nx.length cy).ownBlock ≠ some w2.heap.size := fun hg => by have := HNS.out _ hg; omega
                have HF := Lib.hid (show ∃ (k' : Nat) (pl : Pt) (pax' : List Pt) (va : Value), k' ≤ ld.length ∧ k' ≤ 12 ∧ Value.int .i64 ((k : Int) + 1) = .int .i64 k' ∧ (((wr.setCell ⟨w2.heap.size, 0, none⟩ (.int .i64 n1)).setCell ⟨w2.heap.size, 1, none⟩ (.int .i64 n2)).setCell ⟨w2.heap.size, 2, none⟩ (.slice Ay nx.length cy)).heap[w2.heap.size]? = some (.cells #[.int .i64 pl.1, .int .i64 pl.2, va] 29 (0, 0)) ∧ Pts (((wr.setCell ⟨w2.heap.size, 0, none⟩ (.int .i64 n1)).setCell ⟨w2.heap.size, 1, none⟩ (.int .i64 n2)).setCell ⟨w2.heap.size, 2, none⟩ (.slice Ay nx.length cy)) va pax' ∧ poseE v pl pax' = 0 ∧ Ext w2 (((wr.setCell ⟨w2.heap.size, 0, none⟩ (.int .i64 n1)).setCell ⟨w2.heap.size, 1, none⟩ (.int .i64 n2)).setCell ⟨w2.heap.size, 2, none⟩ (.slice Ay nx.length cy)) from ⟨k + 1, (n1, n2), nx, _, HLT.out.1, HLT.out.2, by simp, three_set _ _ _ hAl, pts_set (pts_set (pts_set hPl hnb) hnb) hnb, HPE.out.1, (((EA.trans El).set (p := ⟨w2.heap.size, 0, none⟩) (Nat.le_refl _) _).set (p := ⟨w2.heap.size, 1, none⟩) (Nat.le_refl _) _).set (p := ⟨w2.heap.size, 2, none⟩) (Nat.le_refl _) _⟩)
                clear hAl hPl hnb hlt2
                go_wp2_with fail
                go_roundw
                case rel => exact HF.out
                case measure => have h8 := HLT.out; simp [intOf]; omega
              case pos =>
                obtain ⟨u, ⟨j1, j2⟩, ⟨a1, a2⟩, ⟨c1, c2⟩, hu, ha, hcx, hJ, hd1, hd2, hD1, hD2, hPL, hB⟩ := bar_all HV.out HPE.out.1 HPE.out.2.1 HPE.out.2.2 HL.out.2 hlt2
                obtain ⟨pb, po, rfl, p0, p1'⟩ := pts_at (nPX.out.ext El) ha
                obtain ⟨qb, qo, rfl, q0, q1'⟩ := pts_at (nPN.out.ext El) hcx
                have CJ := fun w' (he : Ext wr w') => Joint_in (lead := (n1, n2)) m w' (HSL.out.ext RUnit.stable (EV.trans (El.trans he))) (nPN.out.ext (El.trans he)) HPE.out.1 hlt2
                rw [hJ] at CJ
                have CP := fun w' (he : Ext wr w') => Pulled_ok m w' (HSL.out.ext RUnit.stable (EV.trans (El.trans he))) HE.out hu
                have CD1 := fun w' => Distance_c a1 a2 j1 j2 w'
                have CD2 := fun w' => Distance_c c1 c2 j1 j2 w'
                rw [hd1] at CD1
                rw [hd2] at CD2
                unfold vehV poseV ptV at CJ
                unfold vehV at CP
                unfold i2V at CD1 CD2
                dsimp only at CJ CP CD1 CD2
                generalize farS (a1, a2) (j1, j2) = D1 at *
                generalize farS (c1, c2) (j1, j2) = D2 at *
                generalize pulledN u = PL at *
                have CDs := fun w' => distance3_c D2 PL w' (by omega) (by omega) (by omega) (by omega)
                have HCJ := Lib.hid CJ
                have HCP := Lib.hid CP
                have HC1 := Lib.hid CD1
                have HC2 := Lib.hid CD2
                have HCD := Lib.hid CDs
                have HB := Lib.hid hB
                have k1 : (0 : Int) ≤ (m : Int) := by omega
                have k2 : (m : Int) < (v.units.length : Int) := by omega
                have k3 : (m : Int) < (pax.length : Int) := by have := HL.out.2; omega
                have k4 : (m : Int) < (nx.length : Int) := by have := HL.out.1; omega
                have em := IntWalk.i64_in ((m : Int) + 1) (by omega)
                have ed := IntWalk.i64_in (16 * D1) (by omega)
                have lt1 := lt_of_cell y0l
                have lt2 := lt_of_cell x2l
                have lt3 := lt_of_cell p0
                have lt4 := lt_of_cell q0
                have lt5 := lt_of_cell t0l
                have HLT2 := Lib.hid hlt2
                clear CJ CP CD1 CD2 CDs hB hu ha hcx hJ hd1 hd2 hlt2 y0r y1r y2r y3r x2 t0 t1 t2
                go_upto_region 19 with (first
                  | (go_at_call 16; refine (HCJ.out _ (by (repeat' (first | exact Ext.refl _ | assumption | refine Ext.alloc ?_ _ | refine Ext.drew ?_ | refine Ext.drewN ?_ _ | refine Ext.set ?_ (by first | exact Nat.le_refl _ | exact le1 _ | exact le2 _ | exact le3 _ | exact le4 _ | exact le5 _ | exact le6 _) _ | refine Ext.trans ?_ (by assumption))))).mono ?_; rintro e wJ ⟨rfl, hbJ⟩; replace y0l := Ext.cell hbJ y0l; replace y1l := Ext.cell hbJ y1l; replace y2l := Ext.cell hbJ y2l; replace y3l := Ext.cell hbJ y3l; replace x2l := Ext.cell hbJ x2l; replace t0l := Ext.cell hbJ t0l; replace t1l := Ext.cell hbJ t1l; replace t2l := Ext.cell hbJ t2l; replace p0 := Ext.cell hbJ p0; replace p1' := Ext.cell hbJ p1'; replace q0 := Ext.cell hbJ q0; replace q1' := Ext.cell hbJ q1'; have l1 := lt_of_cell y0l; have l2 := lt_of_cell x2l; have l3 := lt_of_cell p0; have l4 := lt_of_cell q0; have l5 := lt_of_cell t0l; have EJ : Ext wr wJ := hbJ; clear hbJ)
                  | (go_at_call 22; refine (HCP.out _ (by (repeat' (first | exact Ext.refl _ | assumption | refine Ext.alloc ?_ _ | refine Ext.drew ?_ | refine Ext.drewN ?_ _ | refine Ext.set ?_ (by first | exact Nat.le_refl _ | exact le1 _ | exact le2 _ | exact le3 _ | exact le4 _ | exact le5 _ | exact le6 _) _ | refine Ext.trans ?_ (by assumption))))).mono ?_; rintro e wP ⟨rfl, hbP⟩; have J0 := Ext.cell hbP (p := ⟨wJ.heap.size, 0, none⟩) (v := .int .i64 j1) (by go_simp); have J1 := Ext.cell hbP (p := ⟨wJ.heap.size, 1, none⟩) (v := .int .i64 j2) (by go_simp); have hbQ : Ext wJ wP := ((Ext.refl wJ).alloc _).trans hbP; clear hbP; replace y0l := Ext.cell hbQ y0l; replace y1l := Ext.cell hbQ y1l; replace y2l := Ext.cell hbQ y2l; replace y3l := Ext.cell hbQ y3l; replace x2l := Ext.cell hbQ x2l; replace t0l := Ext.cell hbQ t0l; replace t1l := Ext.cell hbQ t1l; replace t2l := Ext.cell hbQ t2l; replace p0 := Ext.cell hbQ p0; replace p1' := Ext.cell hbQ p1'; replace q0 := Ext.cell hbQ q0; replace q1' := Ext.cell hbQ q1'; have EP : Ext wr wP := EJ.trans hbQ; clear hbQ l1 l2 l3 l4 l5 EJ))
                go_cut [19, 20] from 107 to 172 (fun sa sb wc => sa = .int .i64 D1 ∧ sb = .int .i64 0 ∧ Ext wP wc)
                case first =>
                  go_region_held3 (fun w' => w'.cell? ⟨w2.heap.size, 2, none⟩ = some (.slice (some ⟨pb, po, none⟩) pax.length cx) ∧ w'.cell? ⟨pb, po + m * 2, none⟩ = some (.int .i64 a1) ∧ w'.cell? ⟨pb, po + m * 2 + 1, none⟩ = some (.int .i64 a2) ∧ w'.cell? ⟨wJ.heap.size, 0, none⟩ = some (.int .i64 j1) ∧ w'.cell? ⟨wJ.heap.size, 1, none⟩ = some (.int .i64 j2)) (refine ⟨?_, ?_, ?_, ?_, ?_⟩ <;> (repeat' (with_reducible (first | assumption | refine Ext.cell hbD ?_ | refine Ext.cell (Ext.refl _).drew ?_)))) ((go_at_call 23; refine (HC1.out _).mono ?_; rintro e wD ⟨rfl, hbD⟩))
                  all_goals
                    go_wp2_with fail
                    go_meet
                    exact ⟨rfl, rfl, by (repeat' (first | exact Ext.refl _ | assumption | refine Ext.alloc ?_ _ | refine Ext.drew ?_ | refine Ext.drewN ?_ _ | refine Ext.set ?_ (by first | exact Nat.le_refl _ | exact le1 _ | exact le2 _ | exact le3 _ | exact le4 _ | exact le5 _ | exact le6 _) _ | refine Ext.trans ?_ (by assumption)))⟩
                case rest =>
                  obtain ⟨rfl, rfl, E19⟩ := hcut
                  generalize wc = W19 at *
                  replace t2l := Ext.cell E19 t2l
                  replace q0 := Ext.cell E19 q0
                  replace q1' := Ext.cell E19 q1'
                  replace J0 := Ext.cell E19 J0
                  replace J1 := Ext.cell E19 J1
                  have EQ := EP.trans E19
                  clear E19 p0 p1' x2l y0l y1l y2l y3l t0l t1l HC1 EP
                  go_upto_region 20 with fail
                  go_cut [21, 22] from 107 to 172 (fun sa sb wc => sa = .int .i64 D2 ∧ sb = .int .i64 0 ∧ Ext W19 wc)
                  case first =>
                    go_region_held3 (fun w' => w'.cell? ⟨t, 2, none⟩ = some (.slice (some ⟨qb, qo, none⟩) nx.length cy) ∧ w'.cell? ⟨qb, qo + m * 2, none⟩ = some (.int .i64 c1) ∧ w'.cell? ⟨qb, qo + m * 2 + 1, none⟩ = some (.int .i64 c2) ∧ w'.cell? ⟨wJ.heap.size, 0, none⟩ = some (.int .i64 j1) ∧ w'.cell? ⟨wJ.heap.size, 1, none⟩ = some (.int .i64 j2)) (refine ⟨?_, ?_, ?_, ?_, ?_⟩ <;> (repeat' (with_reducible (first | assumption | refine Ext.cell hbD ?_ | refine Ext.cell (Ext.refl _).drew ?_)))) ((go_at_call 23; refine (HC2.out _).mono ?_; rintro e wD ⟨rfl, hbD⟩))
                    all_goals
                      go_wp2_with fail
                      go_meet
                      exact ⟨rfl, rfl, by (repeat' (first | exact Ext.refl _ | assumption | refine Ext.alloc ?_ _ | refine Ext.drew ?_ | refine Ext.drewN ?_ _ | refine Ext.set ?_ (by first | exact Nat.le_refl _ | exact le1 _ | exact le2 _ | exact le3 _ | exact le4 _ | exact le5 _ | exact le6 _) _ | refine Ext.trans ?_ (by assumption)))⟩
                  case rest =>
                    obtain ⟨rfl, rfl, E20⟩ := hcut
                    generalize wc = W20 at *
                    have EZ := EQ.trans E20
                    have EZZ := El.trans EZ
                    clear E20 EQ t2l q0 q1' J0 J1 HC2
                    by_cases hd : PL ≤ 16 * D1
                    · have hmx : ¬ (2 : Int) < max (D2 - PL) (PL - D2) := by have := HB.out hd; omega
                      go_wp2_with (go_at_call 24; refine (HCD.out _).mono ?_; rintro e w' ⟨rfl, rfl⟩)
                      go_roundw
                      case rel => exact ⟨m + 1, HLT2.out, by go_num, EZZ⟩
                      case measure => have := HLT2.out; simp [intOf]; omega
                    · go_wp2_with (go_at_call 24; refine (HCD.out _).mono ?_; rintro e w' ⟨rfl, rfl⟩)
                      go_roundw
                      case rel => exact ⟨m + 1, HLT2.out, by go_num, EZZ⟩
                      case measure => have := HLT2.out; simp [intOf]; omega
theorem bars_law (l1 l2 b1 b2 : Int) (w : World) (hs : Sl 11 RUnit w vu v.units) (hld : Pts w vl ld) :
    Calls Try.prog 4 #[vehV v vu, .agg #[.int .i64 l1, .int .i64 l2], .agg #[.int .i64 b1, .int .i64 b2], vl] w fun e w' => e = .returned (.bool true) ∧ Ext w w' := by
  cases h : (!longB v && decide (vehE v = 0))
  · exact bars_no l1 l2 b1 b2 w hs hld h
  · by_cases h2 : (straightS v (l1, l2) (b1, b2)).2.2 = 0
    · exact bars_go l1 l2 b1 b2 w hs hld h h2
    · exact bars_err l1 l2 b1 b2 w hs hld h h2
end
end Go.Proofs.Ytgikfliibimkdaa
/- ChainBars: the given statement: for every input the law returns true, and each argument reads behind the call as it read before. -/
namespace Go.Proofs.Ytgikfliibimkdaa
namespace OfChainBars
open Go.ChangeShapes Go.WideShapes Go.ChangeAt Go.RowKit Go.Joins Go.Deep

theorem own : ownKnob Try.prog.godebug = none := by kernel_rfl
theorem laidOut : laidOutB Try.prog = true := by kernel_rfl
theorem cells_26 : Try.prog.cellsOf 26 = 2 := by kernel_rfl

set_option maxRecDepth 100000 in
theorem lifted (os : Os) (started : os.Started) (H : Type) (enc : TypeId × Value → H) :
    ReturnsInHanded {} Try.checked os 4 .any (Rows.chainBarsSpec.pre6 enc Try.prog Try.f4 Rows.chainBarsRow.domain false) (Rows.chainBarsSpec.post enc Try.prog Try.f4 false true false false) := by
  refine returnsInHanded_of_change (C := Try.checked) own started (by kernel_rfl) Try.func4
    (ChangeSpec.witness6 (enc := enc) (C := Try.checked) false ⟨#[], #[.agg #[.string ⟨#[]⟩, .slice none 0 0, .int .i64 0, .int .i64 0], .agg #[.int .i64 0, .int .i64 0], .agg #[.int .i64 0, .int .i64 0], .slice none 0 0], []⟩ 8 (by kernel_rfl) (by kernel_rfl) (by kernel_rfl) (by kernel_rfl)) ?_
  intro W base args ds gs before hval0 hW hcnd _
  have hval : ∀ (j : Nat) t v, Try.f4.params[j]? = some t → args[j]? = some v → Value.okWide Try.prog W .any base t v := hval0
  have hW' := hW
  obtain ⟨p, q, hA0, hV, rfl, hfz, hnd⟩ := hW
  have hA : DataW.TrodAll enc Try.prog W 0 (fun _ => true) true Try.f4.params.toList args.toList ds p := hA0
  rw [Try.params4] at hA hval
  obtain ⟨v0, vs0, d0, ds0, p0, q0, hargs, rfl, rfl, h0, r0⟩ := trodAll_cons hA
  obtain ⟨v1, vs1, d1, ds1, p1, q1, rfl, rfl, rfl, h1, r1⟩ := trodAll_cons r0
  obtain ⟨v2, vs2, d2, ds2, p2, q2, rfl, rfl, rfl, h2, r2⟩ := trodAll_cons r1
  obtain ⟨v3, vs3, d3, ds3, p3, q3, rfl, rfl, rfl, h3, r3⟩ := trodAll_cons r2
  obtain ⟨rfl, rfl, rfl⟩ := trodAll_nil r3
  obtain rfl : args = #[v0, v1, v2, v3] := by cases args; simp_all
  obtain ⟨rfl, rfl⟩ := trodVars_none hV
  have k0 := h0
  have lt0 : ∀ x ∈ p0, x.block < W.heap.size := by obtain ⟨m, hm⟩ := k0; exact DataW.trod_lt m _ _ _ hm
  have k1 := h1
  have lt1 : ∀ x ∈ p1, x.block < W.heap.size := by obtain ⟨m, hm⟩ := k1; exact DataW.trod_lt m _ _ _ hm
  have k2 := h2
  have lt2 : ∀ x ∈ p2, x.block < W.heap.size := by obtain ⟨m, hm⟩ := k2; exact DataW.trod_lt m _ _ _ hm
  have k3 := h3
  have lt3 : ∀ x ∈ p3, x.block < W.heap.size := by obtain ⟨m, hm⟩ := k3; exact DataW.trod_lt m _ _ _ hm
  obtain ⟨cv0, vu0, rfl, s0⟩ := open_veh (hval 0 24 v0 rfl rfl) h0
  obtain ⟨c1_0, c1_1, y1_0, y1_1, m1, rfl, rfl, _, hy1_0, hy1_1⟩ := open_agg2 Try.underlying26 (by kernel_rfl) cells_26 (hval 1 26 v1 rfl rfl) h1
  obtain ⟨x1_0, e1_0, _, w1_0⟩ := DataW.trod_int Try.underlying2 hy1_0
  obtain ⟨x1_1, e1_1, _, w1_1⟩ := DataW.trod_int Try.underlying2 hy1_1
  simp at e1_0 e1_1
  subst e1_0 e1_1
  obtain ⟨c2_0, c2_1, y2_0, y2_1, m2, rfl, rfl, _, hy2_0, hy2_1⟩ := open_agg2 Try.underlying26 (by kernel_rfl) cells_26 (hval 2 26 v2 rfl rfl) h2
  obtain ⟨x2_0, e2_0, _, w2_0⟩ := DataW.trod_int Try.underlying2 hy2_0
  obtain ⟨x2_1, e2_1, _, w2_1⟩ := DataW.trod_int Try.underlying2 hy2_1
  simp at e2_0 e2_1
  subst e2_0 e2_1
  obtain ⟨A3, n3, cap3, rfl⟩ := okWide_slice Try.underlying27 (hval 3 27 v3 rfl rfl)
  obtain ⟨fu3, hfu3⟩ := h3
  obtain ⟨l3, s3⟩ := opens_pts (v := .slice A3 n3 cap3) hfu3
  clear hA0 hval0
  refine (bars_law x1_0 x1_1 x2_0 x2_1 W s0 s3).mono fun e W' ⟨he, bel⟩ => ?_
  subst he
  exact ⟨_, rfl, _, _, _, [], _, [], hW', trodAll_mk1 (shut_bool Try.underlying4 _), (trodAll_cons_mk (Below.trod laidOut (by kernel_rfl) (of_decide_eq_true (by kernel_rfl)) k0 bel lt0) (trodAll_cons_mk (Below.trod laidOut (by kernel_rfl) (of_decide_eq_true (by kernel_rfl)) k1 bel lt1) (trodAll_cons_mk (Below.trod laidOut (by kernel_rfl) (of_decide_eq_true (by kernel_rfl)) k2 bel lt2) (trodAll_cons_mk (Below.trod laidOut (by kernel_rfl) (of_decide_eq_true (by kernel_rfl)) k3 bel lt3) trodAll_mk0)))), rfl, Below.frame bel _, fun h => by cases h⟩

theorem over : Rows.chainBarsRow.holds Try.pinned (OpenSpec.ofChange Rows.chainBarsSpec) :=
  OpenClaim.holds_of_wide 4 Try.f4 rfl rfl rfl rfl rfl rfl rfl ⟨rfl, rfl, rfl, rfl, rfl⟩ rfl rfl rfl rfl rfl (by kernel_rfl) Try.func4 (by kernel_rfl)
    (of_decide_eq_true (by kernel_rfl)) (by unfold Func.isWrapper; rw [if_neg (of_decide_eq_false (by kernel_rfl))]; exact ⟨rfl, rfl⟩)
    (fun os started H enc _ => lifted os started H enc)
end OfChainBars

theorem chainBars_holds : Rows.ChainBarsSaid := OfChainBars.over
end Go.Proofs.Ytgikfliibimkdaa
