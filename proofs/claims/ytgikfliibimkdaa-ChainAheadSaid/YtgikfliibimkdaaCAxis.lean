/- The plain law of ChainAhead: a vehicle on an axis. -/
import Derived.Test.YtgikfliibimkdaaCStepS
import Derived.Test.YtgikfliibimkdaaPlaneA
import Derived.Test.YtgikfliibimkdaaCBackS
import Derived.Test.YtgikfliibimkdaaCJoint
namespace Go.Proofs.Ytgikfliibimkdaa
open Go.RowKit Go.Shelf

/-- a direction along an axis -/
def isDir (d : Int × Int) : Prop := d = (1, 0) ∨ d = (-1, 0) ∨ d = (0, 1) ∨ d = (0, -1)
def axP (d : Int × Int) (t : Int) : Pt := (d.1 * t, d.2 * t)
theorem near_mul0 {k d : Int} (h : 1 ≤ d) : Pl.near (k * d) d = k := by
  unfold Pl.near
  rw [Int.mul_ediv_cancel _ (by omega), if_neg (by omega)]
theorem isqrt_sq {k : Int} (h : 0 ≤ k) : Pl.isqrt (k * k) = k :=
  Int.le_antisymm (Pl.isqrt_le_of (Int.mul_nonneg h h) h (Int.le_refl _)) (Pl.isqrt_ge (Int.mul_nonneg h h) h (Int.le_refl _))
theorem ok_axis {d : Int × Int} (hd : isDir d) {t : Int} (h1 : -16777216 ≤ t) (h2 : t ≤ 16777216) : okPt (axP d t) = true := by
  unfold axP
  rw [okPt_iff]
  rcases hd with rfl | rfl | rfl | rfl <;> simp only <;> omega
theorem axP_inj {d : Int × Int} (hd : isDir d) {s t : Int} (h : axP d s = axP d t) : s = t := by
  unfold axP at h
  simp only [Prod.mk.injEq] at h
  rcases hd with rfl | rfl | rfl | rfl <;> simp only at h <;> omega
/-- on an axis a bar has no rounding -/
theorem put_axis {d : Int × Int} (hd : isDir d) {h s l : Int} (hne : ¬ s = h) : putP (axP d h) (axP d s) l 0 = axP d (h + if s < h then -l else l) := by
  have key : ∀ u : Int, ¬ u = 0 → Pl.near (32 * (u * l)) (Pl.isqrt (1024 * (u * u))) = if u < 0 then -l else l := by
    intro u hu
    by_cases h0 : u < 0
    · rw [if_pos h0, show 1024 * (u * u) = (-32 * u) * (-32 * u) by grind, isqrt_sq (by omega), show 32 * (u * l) = (-l) * (-32 * u) by grind]
      exact near_mul0 (by omega)
    · rw [if_neg h0, show 1024 * (u * u) = (32 * u) * (32 * u) by grind, isqrt_sq (by omega), show 32 * (u * l) = l * (32 * u) by grind]
      exact near_mul0 (by omega)
  have key0 : ∀ u : Int, ¬ u = 0 → Pl.near 0 (Pl.isqrt (1024 * (u * u))) = 0 := by
    intro u hu
    have h1 : 1 ≤ Pl.isqrt (1024 * (u * u)) := by
      refine Pl.isqrt_ge (Int.mul_nonneg (by omega) ?_) (by omega) ?_
      · rcases Int.le_total 0 u with h | h
        · exact Int.mul_nonneg h h
        · exact Int.mul_nonneg_of_nonpos_of_nonpos h h
      · have h2 : 1 ≤ u * u := by
          rcases Int.lt_or_gt_of_ne hu with h | h
          · exact Int.mul_pos_of_neg_of_neg h h
          · exact Int.mul_pos h h
        omega
    have := near_mul0 (k := 0) h1
    simpa using this
  unfold putP axP
  rcases hd with rfl | rfl | rfl | rfl
  all_goals
    simp only [Int.one_mul, Int.zero_mul, Int.neg_mul, Int.mul_zero, Int.sub_zero, Int.sub_self, Int.add_zero, Int.zero_add]
  · rw [key (s - h) (by omega), key0 (s - h) (by omega)]
    by_cases hc : s < h
    · rw [if_pos hc, if_pos (by omega)]
    · rw [if_neg hc, if_neg (by omega)]
  · have e : (-s - -h) = -(s - h) := by omega
    rw [e, show -(s - h) * -(s - h) = (s - h) * (s - h) by grind]
    have k1 := key (-(s - h)) (by omega)
    rw [show -(s - h) * -(s - h) = (s - h) * (s - h) by grind] at k1
    rw [k1, key0 (s - h) (by omega)]
    by_cases hc : s < h
    · rw [if_pos hc, if_neg (by omega)]; exact Prod.ext (by first | rfl | (simp only; omega)) (by first | rfl | (simp only; omega))
    · rw [if_neg hc, if_pos (by omega)]; exact Prod.ext (by first | rfl | (simp only; omega)) (by first | rfl | (simp only; omega))
  · rw [key (s - h) (by omega), key0 (s - h) (by omega)]
    by_cases hc : s < h
    · rw [if_pos hc, if_pos (by omega)]
    · rw [if_neg hc, if_neg (by omega)]
  · have e : (-s - -h) = -(s - h) := by omega
    rw [e, show -(s - h) * -(s - h) = (s - h) * (s - h) by grind]
    have k1 := key (-(s - h)) (by omega)
    rw [show -(s - h) * -(s - h) = (s - h) * (s - h) by grind] at k1
    rw [k1, key0 (s - h) (by omega)]
    by_cases hc : s < h
    · rw [if_pos hc, if_neg (by omega)]; exact Prod.ext (by first | rfl | (simp only; omega)) (by first | rfl | (simp only; omega))
    · rw [if_neg hc, if_pos (by omega)]; exact Prod.ext (by first | rfl | (simp only; omega)) (by first | rfl | (simp only; omega))
theorem pull_axis {d : Int × Int} (hd : isDir d) {h s l t : Int} (hne : ¬ s = h) (b1 : -16777216 ≤ h) (b2 : h ≤ 16777216) (b3 : -16777216 ≤ s) (b4 : s ≤ 16777216) (l1 : 1 ≤ l) (l2 : l ≤ 16777216)
    (ht : (h + if s < h then -l else l) = t) (b5 : -16777216 ≤ t) (b6 : t ≤ 16777216) : pullS (axP d h) (axP d s) l = (axP d t, 0) := by
  rw [pullS_r (ok_axis hd b3 b4) (ok_axis hd b1 b2) (inB_iff.2 ⟨l1, l2⟩) (fun e => hne (axP_inj hd e)), put_axis hd hne, ht, resS_yes (ok_axis hd b5 b6)]
theorem place_axis {d : Int × Int} (hd : isDir d) {a j x t : Int} (hne : ¬ j = a) (b1 : -16777216 ≤ a) (b2 : a ≤ 16777216) (b3 : -16777216 ≤ j) (b4 : j ≤ 16777216) (l1 : -16777216 ≤ x) (l2 : x ≤ 16777216)
    (ht : (a + if j < a then -x else x) = t) (b5 : -16777216 ≤ t) (b6 : t ≤ 16777216) : placeS (axP d a) (axP d j) x 0 = (axP d t, 0) := by
  rw [placeS_r (ok_axis hd b1 b2) (ok_axis hd b3 b4) (inB_iff.2 ⟨l1, l2⟩) (by decide) (fun e => hne (axP_inj hd e).symm), put_axis hd hne, ht, resS_yes (ok_axis hd b5 b6)]

/-- where the axles of units stand, behind a joint -/
def xsN : Int → List CUnit → List Int
  | _, [] => []
  | j, u :: us => (j - pulledN u) :: xsN (j - u.length - u.behind) us
/-- where the last joint stands -/
def endN : Int → List CUnit → Int
  | j, [] => j
  | j, u :: us => endN (j - u.length - u.behind) us
theorem xsN_len : ∀ (us : List CUnit) (j : Int), (xsN j us).length = us.length
  | [], _ => rfl
  | u :: us, j => by rw [xsN, List.length_cons, List.length_cons, xsN_len us]
/-- what a joint has to keep to, ahead of so many units -/
def roomB (j : Int) (us : List CUnit) : Prop := -16000000 ≤ j - 300000 * (us.length : Int) ∧ j ≤ 16000000
theorem roomB.next {j : Int} {u : CUnit} {us : List CUnit} (h : roomB j (u :: us)) (hu : unitB u = true) : roomB (j - u.length - u.behind) us := by
  have b := unitB_bds hu
  unfold roomB at *
  simp only [List.length_cons] at h
  omega
theorem unit_nums {u : CUnit} (hu : unitB u = true) : (10 ≤ pulledN u ∧ pulledN u ≤ 131072) ∧ (100 ≤ u.length ∧ u.length ≤ 131072) ∧ (-u.length ≤ u.behind ∧ u.behind ≤ 131072) ∧ rearN u = pulledN u - u.length - u.behind := by
  have b := unitB_bds hu
  have c := pulled_bds hu
  exact ⟨⟨c.1, by omega⟩, b.1, b.2.1, rfl⟩
/-- the units stand where they stand -/
theorem puts_axis {d : Int × Int} (hd : isDir d) : ∀ (us : List CUnit) (j : Int), (∀ u ∈ us, unitB u = true) → roomB j us →
    (putsN (axP d j) us ((xsN j us).map (axP d))).length = us.length ∧
    (∀ (k : Nat) (c : CPut), (putsN (axP d j) us ((xsN j us).map (axP d)))[k]? = some c → ∃ t, us[k]? = some c.unit ∧ c.joint = axP d t ∧ c.axle = axP d (t - pulledN c.unit) ∧ roomB t (us.drop k) ∧ (k + 1 = us.length → t - c.unit.length - c.unit.behind = endN j us))
  | [], j, _, _ => ⟨rfl, fun k c h => by simp [putsN] at h⟩
  | u :: us, j, hv, hr => by
    have hu := hv u (by simp)
    have n := unit_nums hu
    have hr2 := hr.next hu
    have hr0 := hr
    unfold roomB at hr hr2
    simp only [List.length_cons] at hr
    have hok : okPt (axP d (j - pulledN u)) = true := ok_axis hd (by omega) (by omega)
    have hne : ¬ axP d (j - pulledN u) = axP d j := fun e => by have := axP_inj hd e; omega
    have hpl : placeS (axP d (j - pulledN u)) (axP d j) (rearN u) 0 = (axP d (j - u.length - u.behind), 0) :=
      place_axis hd (by omega) (by omega) (by omega) (by omega) (by omega) (by omega) (by omega) (by rw [if_neg (by omega)]; omega) (by omega) (by omega)
    have ih := puts_axis hd us (j - u.length - u.behind) (fun x hx => hv x (by simp [hx])) (hr0.next hu)
    have hput : putsN (axP d j) (u :: us) ((xsN j (u :: us)).map (axP d)) = ⟨u, axP d j, axP d (j - pulledN u)⟩ :: putsN (axP d (j - u.length - u.behind)) us ((xsN (j - u.length - u.behind) us).map (axP d)) := by
      simp only [xsN, List.map_cons, putsN]
      rw [if_neg (by simp [hok, hne]), hpl]
      simp
    rw [hput]
    refine ⟨by rw [List.length_cons, List.length_cons, ih.1], fun k c hc => ?_⟩
    cases k with
    | zero =>
      simp only [List.getElem?_cons_zero, Option.some.injEq] at hc
      subst hc
      refine ⟨j, rfl, rfl, rfl, hr0, fun h => ?_⟩
      have h0 : us = [] := by
        simp only [List.length_cons] at h
        exact List.length_eq_zero_iff.1 (by omega)
      subst h0
      rfl
    | succ k =>
      simp only [List.getElem?_cons_succ] at hc
      obtain ⟨t, h1, h2, h3, h4, h5⟩ := ih.2 k c hc
      exact ⟨t, h1, h2, h3, h4, fun h => h5 (by simp only [List.length_cons] at h; omega)⟩
/-- the pose of a vehicle on an axis is valid -/
theorem pose_axis {d : Int × Int} (hd : isDir d) {v : CVeh} {n : Int} (hE : vehE v = 0) (hr : roomB n v.units) : poseE v (axP d n) ((xsN n v.units).map (axP d)) = 0 := by
  refine poseE_ok hE ?_
  have h := puts_axis hd v.units n (vehE_units hE) hr
  unfold roomB at hr
  unfold poseB
  rw [h.1, ok_axis hd (by omega) (by omega), List.length_map, xsN_len]
  simp
/-- it stands straight -/
theorem tail_axis {d : Int × Int} (hd : isDir d) : ∀ (us : List CUnit) (j : Int) (prev : CUnit), (∀ u ∈ us, unitB u = true) → unitB prev = true → roomB j (prev :: us) →
    tailN (axP d (j - pulledN prev)) (axP d j) prev us = ((xsN (j - prev.length - prev.behind) us).map (axP d), 0)
  | [], j, prev, _, _, _ => rfl
  | u :: us, j, prev, hv, hp, hr => by
    have hu := hv u (by simp)
    have n := unit_nums hu
    have m := unit_nums hp
    have hr2 := hr.next hp
    have hr3 := hr2.next hu
    have hr4 := hr2
    unfold roomB at hr hr2 hr3
    simp only [List.length_cons] at hr hr2
    have h1 : placeS (axP d (j - pulledN prev)) (axP d j) (rearN prev) 0 = (axP d (j - prev.length - prev.behind), 0) :=
      place_axis hd (by omega) (by omega) (by omega) (by omega) (by omega) (by omega) (by omega) (by rw [if_neg (by omega)]; omega) (by omega) (by omega)
    have h2 : placeS (axP d (j - pulledN prev)) (axP d j) (rearN prev - pulledN u) 0 = (axP d (j - prev.length - prev.behind - pulledN u), 0) :=
      place_axis hd (by omega) (by omega) (by omega) (by omega) (by omega) (by omega) (by omega) (by rw [if_neg (by omega)]; omega) (by omega) (by omega)
    rw [tailN_step h1 h2, if_pos rfl, if_pos rfl, tail_axis hd us (j - prev.length - prev.behind) u (fun x hx => hv x (by simp [hx])) hu hr4]
    rfl
theorem straight_axis {d : Int × Int} (hd : isDir d) {v : CVeh} (hE : vehE v = 0) : straightS v (axP d 0) (axP d (-1000)) = (axP d 0, (xsN 0 v.units).map (axP d), 0) := by
  have hv := vehE_units hE
  have hl := vehE_len hE
  have hr : roomB 0 v.units := by unfold roomB; omega
  have hpe := pose_axis hd hE hr
  match hu : v.units with
  | [] => rw [hu] at hl; simp at hl
  | u :: us =>
    rw [hu] at hv hr hpe
    have n := unit_nums (hv u (by simp))
    have hp : pullS (axP d 0) (axP d (-1000)) (pulledN u) = (axP d (0 - pulledN u), 0) :=
      pull_axis hd (by omega) (by omega) (by omega) (by omega) (by omega) (by omega) (by omega) (by rw [if_pos (by omega)]; omega) (by omega) (by omega)
    have ht := tail_axis hd us 0 u (fun x hx => hv x (by simp [hx])) (hv u (by simp)) hr
    rw [straightS_go hE (ok_axis hd (by omega) (by omega)) (ok_axis hd (by omega) (by omega)) hu hp ht, if_pos rfl, if_pos rfl]
    have e : axP d (0 - pulledN u) :: (xsN (0 - u.length - u.behind) us).map (axP d) = (xsN 0 (u :: us)).map (axP d) := rfl
    simp only
    rw [e, if_pos hpe]
/-- a step along the axis -/
theorem step_axis {d : Int × Int} (hd : isDir d) : ∀ (us : List CUnit) (j0 j : Int), (∀ u ∈ us, unitB u = true) → roomB j0 us → roomB j us → j0 ≤ j →
    stepN (axP d j) us ((xsN j0 us).map (axP d)) (List.replicate us.length 0) = ((xsN j us).map (axP d), 0)
  | [], _, _, _, _, _, _ => stepN_nil _ _ _
  | u :: us, j0, j, hv, hr0, hr, hle => by
    have hu := hv u (by simp)
    have n := unit_nums hu
    have hr2 := hr.next hu
    have hr20 := hr0.next hu
    have hrr := hr
    have hrr0 := hr0
    unfold roomB at hr hr0
    simp only [List.length_cons] at hr hr0
    have hp : pullTS (axP d j) (axP d (j0 - pulledN u)) (pulledN u) 0 = (axP d (j - pulledN u), 0) := by
      unfold pullTS
      rw [if_neg (by simp)]
      exact pull_axis hd (by omega) (by omega) (by omega) (by omega) (by omega) (by omega) (by omega) (by rw [if_pos (by omega)]; omega) (by omega) (by omega)
    have hj : placeS (axP d (j - pulledN u)) (axP d j) (rearN u) 0 = (axP d (j - u.length - u.behind), 0) :=
      place_axis hd (by omega) (by omega) (by omega) (by omega) (by omega) (by omega) (by omega) (by rw [if_neg (by omega)]; omega) (by omega) (by omega)
    have ih := step_axis hd us (j0 - u.length - u.behind) (j - u.length - u.behind) (fun x hx => hv x (by simp [hx])) hr20 hr2 (by omega)
    simp only [xsN, List.map_cons, List.length_cons, List.replicate_succ]
    rw [stepN_step hp hj, if_pos rfl, if_pos rfl, ih]
    by_cases hus : us = []
    · subst hus
      rfl
    · rw [if_neg hus]
theorem steer_zero0 {v : CVeh} (hv : ∀ u ∈ v.units, unitB u = true) : steerE v (List.replicate v.units.length 0) = 0 := by
  unfold steerE
  rw [if_pos (by simp)]
  have key : ∀ us : List CUnit, (∀ u ∈ us, unitB u = true) → steerB us (List.replicate us.length 0) = true := by
    intro us
    induction us with
    | nil => intro _; rfl
    | cons u us ih =>
      intro h
      have hu := unit_most (h u (by simp))
      show (inB 0 (-u.most) u.most && steerB us (List.replicate us.length 0)) = true
      rw [inB_iff.2 ⟨by omega, by omega⟩, ih (fun x hx => h x (by simp [hx]))]
      rfl
  rw [key v.units hv]
  rfl
theorem stepS_axis {d : Int × Int} (hd : isDir d) {v : CVeh} {n m : Int} (hE : vehE v = 0) (hn : roomB n v.units) (hm : roomB m v.units) (hle : n ≤ m) :
    stepS v (axP d n) ((xsN n v.units).map (axP d)) (axP d m) (List.replicate v.units.length 0) = (axP d m, (xsN m v.units).map (axP d), 0) := by
  have hmm := hm
  unfold roomB at hmm
  rw [stepS_go (pose_axis hd hE hn) (ok_axis hd (by omega) (by omega)) (steer_zero0 (vehE_units hE)) (step_axis hd v.units n m (vehE_units hE) hn hm hle), if_pos rfl]
  simp only
  rw [if_pos (pose_axis hd hE hm)]
/-! ### the joints, one behind the other -/
theorem endN_snoc : ∀ (us : List CUnit) (j : Int) (u : CUnit), endN j (us ++ [u]) = endN j us - u.length - u.behind
  | [], _, _ => rfl
  | _ :: us, _, u => endN_snoc us _ u
theorem endN_take {us : List CUnit} {j : Int} {k : Nat} {u : CUnit} (hu : us[k]? = some u) : endN j (us.take (k + 1)) = endN j (us.take k) - u.length - u.behind := by
  rw [List.take_add_one, hu]
  exact endN_snoc _ _ _
theorem xsN_at : ∀ (us : List CUnit) (j : Int) (k : Nat) (u : CUnit), us[k]? = some u → (xsN j us)[k]? = some (endN j (us.take k) - pulledN u)
  | [], _, _, _, h => by simp at h
  | a :: us, j, 0, u, h => by
    simp only [List.getElem?_cons_zero, Option.some.injEq] at h
    subst h
    rfl
  | a :: us, j, k + 1, u, h => by
    simp only [List.getElem?_cons_succ] at h
    exact xsN_at us _ k u h
theorem roomB.at : ∀ (us : List CUnit) (j : Int) (k : Nat), (∀ u ∈ us, unitB u = true) → k ≤ us.length → roomB j us → roomB (endN j (us.take k)) (us.drop k)
  | us, j, 0, _, _, h => h
  | [], j, k + 1, _, hk, _ => by simp at hk
  | a :: us, j, k + 1, hv, hk, h => roomB.at us _ k (fun x hx => hv x (by simp [hx])) (by simpa using hk) (h.next (hv a (by simp)))
theorem pulled_len {u : CUnit} (h : u.steer = 0) : pulledN u = u.length := by
  unfold pulledN
  rw [h, show u.length * (1000 - 0) = u.length * 1000 by omega]
  exact Int.mul_tdiv_cancel _ (by decide)
/-- a step back to its tail leaves it where it stands -/
theorem back_axis {d : Int × Int} (hd : isDir d) {us : List CUnit} {n : Int} (hv : ∀ u ∈ us, unitB u = true) (hb : backB us = true) (hr : roomB n us) : ∀ (k : Nat) (acc : List Pt), k ≤ us.length →
    backK us ((xsN n us).map (axP d)) (List.replicate us.length 0) k (axP d (endN n (us.take k))) acc = (((xsN n us).map (axP d)).take k ++ acc, axP d n, 0)
  | 0, acc, _ => rfl
  | k + 1, acc, hk => by
    obtain ⟨u, hu⟩ := some_of_lt (show k < us.length by omega)
    have hx := xsN_at us n k u hu
    have hxs : ((xsN n us).map (axP d))[k]? = some (axP d (endN n (us.take k) - pulledN u)) := by rw [List.getElem?_map, hx]; rfl
    have hss : (List.replicate us.length (0 : Int))[k]? = some 0 := by rw [List.getElem?_replicate, if_pos (by omega)]
    have hg := backB_at hb hu
    have hpl := pulled_len hg.2
    have hun := unit_nums (hv u (mem_of_some hu))
    have r1 := roomB.at us n k hv (by omega) hr
    have r2 := roomB.at us n (k + 1) hv hk hr
    rw [endN_take hu] at r2 ⊢
    unfold roomB at r1 r2
    rw [hpl] at hxs hun
    have ih := fun acc' => back_axis hd hv hb hr k acc' (by omega)
    generalize endN n (us.take k) = J at *
    have hp : pullTS (axP d (J - u.length - u.behind)) (axP d (J - u.length)) u.behind 0 = (axP d (J - u.length), 0) := by
      unfold pullTS
      rw [if_neg (by simp)]
      exact pull_axis hd (by omega) (by omega) (by omega) (by omega) (by omega) (by omega) (by omega) (by rw [if_neg (by omega)]; omega) (by omega) (by omega)
    have hj : placeS (axP d (J - u.length)) (axP d (J - u.length - u.behind)) (-u.length) 0 = (axP d J, 0) :=
      place_axis hd (by omega) (by omega) (by omega) (by omega) (by omega) (by omega) (by omega) (by rw [if_pos (by omega)]; omega) (by omega) (by omega)
    rw [backK_step hu hxs hss hp hj, if_pos rfl, if_pos rfl]
    simp only
    rw [ih, List.take_add_one, hxs]
    simp
theorem backS_axis {d : Int × Int} (hd : isDir d) {v : CVeh} {n : Int} (hE : vehE v = 0) (hn : roomB n v.units) :
    backS v (axP d n) ((xsN n v.units).map (axP d)) (axP d (endN n v.units)) (List.replicate v.units.length 0) = (if backB v.units = true then (axP d n, (xsN n v.units).map (axP d), 0) else ((0, 0), [], 10)) := by
  have hv := vehE_units hE
  have hpe := pose_axis hd hE hn
  have r := roomB.at v.units n v.units.length hv (Nat.le_refl _) hn
  rw [List.take_length] at r
  have hok : okPt (axP d (endN n v.units)) = true := by
    unfold roomB at r
    exact ok_axis hd (by omega) (by omega)
  cases hb : backB v.units
  · rw [backS_state hpe hok hb, if_neg (by decide)]
  · have hk := back_axis hd hv hb hn v.units.length [] (Nat.le_refl _)
    rw [List.take_length] at hk
    rw [backS_go hpe hok hb (steer_zero0 hv) hk, if_pos rfl, if_pos rfl]
    have e : ((xsN n v.units).map (axP d)).take v.units.length ++ [] = (xsN n v.units).map (axP d) := by
      rw [List.append_nil, List.take_of_length_le (by rw [List.length_map, xsN_len]; exact Nat.le_refl _)]
    simp only [e]
    rw [if_pos hpe]
/-- its last joint -/
theorem joint_axis {d : Int × Int} (hd : isDir d) {v : CVeh} {n : Int} (hE : vehE v = 0) (hn : roomB n v.units) :
    jointS v (axP d n) ((xsN n v.units).map (axP d)) (v.units.length : Int) = (axP d (endN n v.units), 0) := by
  have hv := vehE_units hE
  have hl := vehE_len hE
  have hpe := pose_axis hd hE hn
  have hp := puts_axis hd v.units n hv hn
  obtain ⟨c, hc⟩ := some_of_lt (show v.units.length - 1 < (putsN (axP d n) v.units ((xsN n v.units).map (axP d))).length by rw [hp.1]; omega)
  obtain ⟨t, h1, h2, h3, h4, h5⟩ := hp.2 _ c hc
  have hu := hv c.unit (mem_of_some h1)
  have hun := unit_nums hu
  have h6 := h5 (by omega)
  have hd2 : v.units.drop (v.units.length - 1) = c.unit :: v.units.drop (v.units.length - 1 + 1) := drop_some h1
  rw [hd2] at h4
  have h7 := h4.next hu
  unfold roomB at h4 h7
  simp only [List.length_cons] at h4
  rw [jointS_end hpe hc, h2, h3]
  exact place_axis hd (by omega) (by omega) (by omega) (by omega) (by omega) (by omega) (by omega) (by rw [if_neg (by omega)]; omega) (by omega) (by omega)
/-- what Folded looks at -/
def dotP (c e : CPut) : Int := (c.joint.1 - c.axle.1) * (e.joint.1 - e.axle.1) + (c.joint.2 - c.axle.2) * (e.joint.2 - e.axle.2)
theorem dot_axis {d : Int × Int} (hd : isDir d) {us : List CUnit} {n : Int} (hv : ∀ u ∈ us, unitB u = true) (hn : roomB n us) {k : Nat} {c e : CPut}
    (hc : (putsN (axP d n) us ((xsN n us).map (axP d)))[k]? = some c) (he : (putsN (axP d n) us ((xsN n us).map (axP d)))[k + 1]? = some e) : 0 ≤ dotP c e := by
  have hp := puts_axis hd us n hv hn
  obtain ⟨t, h1, h2, h3, _, _⟩ := hp.2 _ c hc
  obtain ⟨s, g1, g2, g3, _, _⟩ := hp.2 _ e he
  have u1 := (unit_nums (hv c.unit (mem_of_some h1))).1
  have u2 := (unit_nums (hv e.unit (mem_of_some g1))).1
  have hm : 0 ≤ pulledN c.unit * pulledN e.unit := Int.mul_nonneg (by omega) (by omega)
  unfold dotP
  rw [h2, h3, g2, g3]
  unfold axP
  generalize pulledN c.unit = P at *
  generalize pulledN e.unit = R at *
  rcases hd with rfl | rfl | rfl | rfl
  all_goals
    simp only [Int.one_mul, Int.zero_mul, Int.neg_mul, Int.sub_self, Int.mul_zero, Int.add_zero, Int.zero_add]
  · rw [show t - (t - P) = P by omega, show s - (s - R) = R by omega]; exact hm
  · rw [show -t - -(t - P) = -P by omega, show -s - -(s - R) = -R by omega, Int.neg_mul_neg]; exact hm
  · rw [show t - (t - P) = P by omega, show s - (s - R) = R by omega]; exact hm
  · rw [show -t - -(t - P) = -P by omega, show -s - -(s - R) = -R by omega, Int.neg_mul_neg]; exact hm
end Go.Proofs.Ytgikfliibimkdaa
