
/- What holds of a unit in a valid pose: its corners, its places, and how far they are apart. -/
import Derived.Test.YtcbjecpfijogcaaGreatCBodySAll
import Derived.Test.YtcbjecpfijogcaaGreatCCornMath
namespace Go.Proofs.YtcbjecpfijogcaaGreat
open Go.RowKit

theorem puts_ne : ∀ (us : List CUnit) (xs : List Pt) (j : Pt), ∀ c ∈ putsN j us xs, ¬ c.axle = c.joint
  | [], xs, _, c, hc => by cases xs <;> simp [putsN] at hc
  | _ :: _, [], _, c, hc => by simp [putsN] at hc
  | u :: us, a :: xs, j, c, hc => by
    simp only [putsN] at hc
    split at hc
    · simp at hc
    · rename_i h
      rcases List.mem_cons.1 hc with rfl | hc
      · intro e; exact h (.inr e)
      · split at hc
        · exact puts_ne us xs _ c hc
        · simp at hc
theorem Pl.near_mono {n m r : Int} (hr : 1 ≤ r) (h : n ≤ m) : Pl.near n r ≤ Pl.near m r := by
  have h1 := Int.ediv_le_ediv (show 0 < r by omega) h
  unfold Pl.near
  rcases Int.lt_or_eq_of_le h1 with k | k
  · split <;> split <;> omega
  · rw [k]
    generalize m / r * r = z
    split <;> split <;> omega
theorem lin_max (P Q B F W x y : Int) (hx : B ≤ x ∧ x ≤ F) (hy : -W ≤ y ∧ y ≤ W) : ∃ X Y, (X = F ∨ X = B) ∧ (Y = W ∨ Y = -W) ∧ P * x + Q * y ≤ P * X + Q * Y := by
  rcases Int.le_total 0 P with p0 | p0 <;> rcases Int.le_total 0 Q with q0 | q0
  · refine ⟨F, W, .inl rfl, .inl rfl, ?_⟩
    have m1 := Int.mul_le_mul_of_nonneg_left hx.2 p0
    have m2 := Int.mul_le_mul_of_nonneg_left hy.2 q0
    omega
  · refine ⟨F, -W, .inl rfl, .inr rfl, ?_⟩
    have m1 := Int.mul_le_mul_of_nonneg_left hx.2 p0
    have m2 := Int.mul_le_mul_of_nonpos_left q0 hy.1
    omega
  · refine ⟨B, W, .inr rfl, .inl rfl, ?_⟩
    have m1 := Int.mul_le_mul_of_nonpos_left p0 hx.1
    have m2 := Int.mul_le_mul_of_nonneg_left hy.2 q0
    omega
  · refine ⟨B, -W, .inr rfl, .inr rfl, ?_⟩
    have m1 := Int.mul_le_mul_of_nonpos_left p0 hx.1
    have m2 := Int.mul_le_mul_of_nonpos_left q0 hy.1
    omega
theorem put_between {a h : HPt} {B F W x y : Int} (hr : 1 ≤ Pl.isqrt (1024 * ((h.1 - a.1) * (h.1 - a.1) + (h.2 - a.2) * (h.2 - a.2)))) (hx : B ≤ x ∧ x ≤ F) (hy : -W ≤ y ∧ y ≤ W)
    (hc : ∀ X Y, (X = F ∨ X = B) → (Y = W ∨ Y = -W) → okPt (putP a h X Y) = true) : okPt (putP a h x y) = true := by
  have hc1 : ∀ X Y, (X = F ∨ X = B) → (Y = W ∨ Y = -W) → (-16777216 ≤ (putP a h X Y).1 ∧ (putP a h X Y).1 ≤ 16777216) ∧ (-16777216 ≤ (putP a h X Y).2 ∧ (putP a h X Y).2 ≤ 16777216) := by
    intro X Y h1 h2
    have h3 := hc X Y h1 h2
    generalize putP a h X Y = z at *
    obtain ⟨z1, z2⟩ := z
    exact okPt_iff.1 h3
  clear hc
  unfold putP at *
  simp only at hc1
  rw [okPt_iff]
  generalize h.1 - a.1 = u at *
  generalize h.2 - a.2 = v at *
  generalize Pl.isqrt (1024 * (u * u + v * v)) = r at *
  obtain ⟨X1, Y1, a1, a2, a3⟩ := lin_max u (-v) B F W x y hx hy
  obtain ⟨X2, Y2, b1, b2, b3⟩ := lin_max (-u) v B F W x y hx hy
  obtain ⟨X3, Y3, c1, c2, c3⟩ := lin_max v u B F W x y hx hy
  obtain ⟨X4, Y4, d1, d2, d3⟩ := lin_max (-v) (-u) B F W x y hx hy
  simp only [Int.neg_mul] at a3 b3 c3 d3
  have m1 := Pl.near_mono (n := 32 * (u * x - v * y)) (m := 32 * (u * X1 - v * Y1)) hr (by omega)
  have m2 := Pl.near_mono (n := 32 * (u * X2 - v * Y2)) (m := 32 * (u * x - v * y)) hr (by omega)
  have m3 := Pl.near_mono (n := 32 * (v * x + u * y)) (m := 32 * (v * X3 + u * Y3)) hr (by omega)
  have m4 := Pl.near_mono (n := 32 * (v * X4 + u * Y4)) (m := 32 * (v * x + u * y)) hr (by omega)
  have e1 := (hc1 X1 Y1 a1 a2).1.2
  have e2 := (hc1 X2 Y2 b1 b2).1.1
  have e3 := (hc1 X3 Y3 c1 c2).2.2
  have e4 := (hc1 X4 Y4 d1 d2).2.1
  omega
theorem root_pos {a h : HPt} (hne : ¬ a = h) : 1 ≤ Pl.isqrt (1024 * ((h.1 - a.1) * (h.1 - a.1) + (h.2 - a.2) * (h.2 - a.2))) := by
  have n1 := Pl.sq_nonneg (h.1 - a.1)
  have n2 := Pl.sq_nonneg (h.2 - a.2)
  refine Pl.isqrt_ge (by omega) (by omega) ?_
  by_cases hz : (h.1 - a.1) * (h.1 - a.1) = 0 ∧ (h.2 - a.2) * (h.2 - a.2) = 0
  · exfalso
    apply hne
    have k1 : h.1 - a.1 = 0 := by rcases Int.mul_eq_zero.1 hz.1 with k | k <;> exact k
    have k2 : h.2 - a.2 = 0 := by rcases Int.mul_eq_zero.1 hz.2 with k | k <;> exact k
    ext <;> omega
  · omega
theorem sort_sub_corners {l : List HPt} {p : HPt} (hp : p ∈ cornersP l) : p ∈ l := by
  by_cases h : (sortP l).length < 2
  · have e : cornersP l = sortP l := by unfold cornersP; rw [if_pos h]
    rw [e] at hp
    exact (sort_mem l p).1 hp
  · obtain ⟨mn, mx, A, B, H⟩ := hull_of (l := l) (by omega)
    exact H.sub p hp
/-- what the law asks of a unit that stands -/
structure CornF (c : CPut) : Prop where
  oa : okPt c.axle = true
  oj : okPt c.joint = true
  ne : ¬ c.axle = c.joint
  ub : unitB c.unit = true
theorem cornF_of {v : CVeh} {lead : Pt} {ps : List Pt} {k : Nat} {c : CPut} (h : poseE v lead ps = 0) (hc : (putsN lead v.units ps)[k]? = some c) : CornF c := by
  have hm := List.mem_of_getElem? hc
  have hl : okPt lead = true := by
    cases hk : okPt lead
    · rw [poseE_no (puts_len h).2.1 (poseB_lead hk)] at h; cases h
    · rfl
  obtain ⟨h1, h2⟩ := puts_ok v.units ps lead hl c hm
  exact ⟨h2, h1, puts_ne v.units ps lead c hm, vehE_units (puts_len h).2.1 c.unit (mem_of_some (putsN_at _ _ _ _ _ hc).1)⟩
section
variable {c : CPut}
theorem CornF.rng (H : CornF c) : (0 ≤ c.unit.front ∧ c.unit.front ≤ 131072) ∧ (0 ≤ c.unit.rear ∧ c.unit.rear ≤ 131072) ∧ (0 ≤ c.unit.width ∧ c.unit.width ≤ 131072) ∧ (100 ≤ c.unit.length ∧ c.unit.length ≤ 131072) ∧ (10 ≤ pulledN c.unit ∧ pulledN c.unit ≤ c.unit.length) := by
  obtain ⟨f1, f2, f3⟩ := fbd H.ub
  exact ⟨f1, f2, f3, (unitB_bds H.ub).1, pulled_bds H.ub⟩
theorem CornF.place (H : CornF c) {x y : Int} (hx : -524288 ≤ x ∧ x ≤ 524288) (hy : -131072 ≤ y ∧ y ≤ 131072) : placeS c.axle c.joint x y = resS (putP c.axle c.joint x y) :=
  placeS_r H.oa H.oj (inB_iff.2 (by omega)) (inB_iff.2 (by omega)) H.ne
theorem res_err (p : Pt) : (resS p).2 = 0 ∨ (resS p).2 = 4 := by
  unfold resS
  split
  · exact .inl rfl
  · exact .inr rfl
theorem firstE_err : ∀ {l : List (Pt × Int)}, (∀ r ∈ l, r.2 = 0 ∨ r.2 = 4) → firstE l = 0 ∨ firstE l = 4
  | [], _ => .inl rfl
  | q :: l, h => by
    rcases h q (by simp) with k | k
    · rw [firstE_ok k]; exact firstE_err (fun r hr => h r (List.mem_cons_of_mem _ hr))
    · rw [firstE_bad (by omega)]; exact .inr k
theorem CornF.bodyR (H : CornF c) : bodyR c = [resS (putP c.axle c.joint (pulledN c.unit + c.unit.front) c.unit.width), resS (putP c.axle c.joint (pulledN c.unit + c.unit.front) (-c.unit.width)), resS (putP c.axle c.joint (pulledN c.unit - c.unit.length - c.unit.rear) c.unit.width), resS (putP c.axle c.joint (pulledN c.unit - c.unit.length - c.unit.rear) (-c.unit.width))] := by
  obtain ⟨r1, r2, r3, r4, r5⟩ := H.rng
  unfold Go.Proofs.YtcbjecpfijogcaaGreat.bodyR
  rw [H.place (by omega) (by omega), H.place (by omega) (by omega), H.place (by omega) (by omega), H.place (by omega) (by omega)]
theorem CornF.err (H : CornF c) : firstE (Go.Proofs.YtcbjecpfijogcaaGreat.bodyR c) = 0 ∨ firstE (Go.Proofs.YtcbjecpfijogcaaGreat.bodyR c) = 4 := by
  rw [H.bodyR]
  apply firstE_err
  intro r hr
  simp only [List.mem_cons, List.not_mem_nil, or_false] at hr
  rcases hr with rfl | rfl | rfl | rfl <;> exact res_err _
theorem res_ok {p : Pt} (h : (resS p).2 = 0) : okPt p = true ∧ resS p = (p, 0) := by
  unfold resS at *
  by_cases k : okPt p = true
  · rw [if_pos k]; exact ⟨k, rfl⟩
  · rw [if_neg k] at h; cases h
theorem CornF.corners (H : CornF c) (h0 : firstE (Go.Proofs.YtcbjecpfijogcaaGreat.bodyR c) = 0) : ∀ X Y, (X = pulledN c.unit + c.unit.front ∨ X = pulledN c.unit - c.unit.length - c.unit.rear) → (Y = c.unit.width ∨ Y = -c.unit.width) → okPt (putP c.axle c.joint X Y) = true := by
  rw [H.bodyR] at h0
  have ha := firstE_all h0
  intro X Y hX hY
  rcases hX with rfl | rfl <;> rcases hY with rfl | rfl
  · exact (res_ok (ha _ (by simp))).1
  · exact (res_ok (ha _ (by simp))).1
  · exact (res_ok (ha _ (by simp))).1
  · exact (res_ok (ha _ (by simp))).1
theorem CornF.body (H : CornF c) (h0 : firstE (Go.Proofs.YtcbjecpfijogcaaGreat.bodyR c) = 0) : (Go.Proofs.YtcbjecpfijogcaaGreat.bodyR c).map (·.1) = [putP c.axle c.joint (pulledN c.unit + c.unit.front) c.unit.width, putP c.axle c.joint (pulledN c.unit + c.unit.front) (-c.unit.width), putP c.axle c.joint (pulledN c.unit - c.unit.length - c.unit.rear) c.unit.width, putP c.axle c.joint (pulledN c.unit - c.unit.length - c.unit.rear) (-c.unit.width)] := by
  have hc := H.corners h0
  rw [H.bodyR]
  simp only [List.map_cons, List.map_nil]
  rw [resS_yes (hc _ _ (.inl rfl) (.inl rfl)), resS_yes (hc _ _ (.inl rfl) (.inr rfl)), resS_yes (hc _ _ (.inr rfl) (.inl rfl)), resS_yes (hc _ _ (.inr rfl) (.inr rfl))]
/-- each place within the body -/
theorem CornF.inside (H : CornF c) (h0 : firstE (Go.Proofs.YtcbjecpfijogcaaGreat.bodyR c) = 0) {x y : Int} (hx : pulledN c.unit - c.unit.length - c.unit.rear ≤ x ∧ x ≤ pulledN c.unit + c.unit.front) (hy : -c.unit.width ≤ y ∧ y ≤ c.unit.width) :
    placeS c.axle c.joint x y = (putP c.axle c.joint x y, 0) ∧ okPt (putP c.axle c.joint x y) = true ∧
    cornersP (cornersP (growP 1 (cornersP ((Go.Proofs.YtcbjecpfijogcaaGreat.bodyR c).map (·.1)))) ++ [putP c.axle c.joint x y]) = cornersP (growP 1 (cornersP ((Go.Proofs.YtcbjecpfijogcaaGreat.bodyR c).map (·.1)))) := by
  obtain ⟨r1, r2, r3, r4, r5⟩ := H.rng
  have hr := root_pos H.ne
  have ho := put_between hr hx hy (H.corners h0)
  rw [H.place (by omega) (by omega), resS_yes ho, H.body h0]
  exact ⟨rfl, ho, body_has hr hx hy⟩
theorem CornF.wide (H : CornF c) {x : Int} (hd : c.unit.width ≤ 16 * farS c.axle c.joint) : -4 ≤ farS (putP c.axle c.joint x c.unit.width) (putP c.axle c.joint x (-c.unit.width)) - 2 * c.unit.width ∧ farS (putP c.axle c.joint x c.unit.width) (putP c.axle c.joint x (-c.unit.width)) - 2 * c.unit.width ≤ 4 := by
  unfold farS at *
  have h9 := wide_far (x := x) (root_pos H.ne) H.rng.2.2.1.1 hd _ rfl
  simp only at h9
  exact h9
theorem CornF.long (H : CornF c) {x y W : Int} (hL : 0 ≤ x - y) (hd : x - y ≤ 16 * farS c.axle c.joint) : -4 ≤ farS (putP c.axle c.joint x W) (putP c.axle c.joint y W) - (x - y) ∧ farS (putP c.axle c.joint x W) (putP c.axle c.joint y W) - (x - y) ≤ 4 := by
  unfold farS at *
  have h9 := long_far (W := W) (root_pos H.ne) hL hd _ rfl
  simp only at h9
  exact h9
end
end Go.Proofs.YtcbjecpfijogcaaGreat
