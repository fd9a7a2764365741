/- The plain law of ChainOnward: a step of the first units is the step of all, cut short; what following can refuse. -/
import Derived.Test.YtgikfliibimkdaaCBars
import Derived.Test.YtgikfliibimkdaaCFolS
import Derived.Test.YtgikfliibimkdaaPlaneB
namespace Go.Proofs.Ytgikfliibimkdaa
open Go.RowKit Go.Shelf

/-! ### points on a guide are points -/
theorem ptAt_ok {l : List Pt} {k : Nat} {s : Int} (ha : l.all okPt = true) (hk : k + 1 < l.length) (h0 : 0 ≤ s) (hs : s ≤ farAt l k) (hd : 0 < farAt l k) : okPt (ptAt l k s (farAt l k)) = true := by
  obtain ⟨a1, a2, a3, a4⟩ := okPt_bd (x := (l.getD k (0, 0)).1) (y := (l.getD k (0, 0)).2) (okAt ha (by omega))
  obtain ⟨a5, a6, a7, a8⟩ := okPt_bd (x := (l.getD (k + 1) (0, 0)).1) (y := (l.getD (k + 1) (0, 0)).2) (okAt ha hk)
  have key : ∀ (p q d : Int), -16777216 ≤ p → p ≤ 16777216 → -16777216 ≤ q → q ≤ 16777216 → s ≤ d → 0 < d → -16777216 ≤ p + Pl.near ((q - p) * s) d ∧ p + Pl.near ((q - p) * s) d ≤ 16777216 := by
    intro p q d b1 b2 b3 b4 hsd hd
    have hd1 : 1 ≤ d := by omega
    by_cases h : p ≤ q
    · have e1 : (q - p) * s ≤ (q - p) * d := Int.mul_le_mul_of_nonneg_left hsd (by omega)
      have e2 : 0 ≤ (q - p) * s := Int.mul_nonneg (by omega) h0
      have e3 := Pl.near_le hd1 e1
      have e4 := Pl.le_near (n := (q - p) * s) (k := 0) hd1 (by omega)
      omega
    · have e1 : (p - q) * s ≤ (p - q) * d := Int.mul_le_mul_of_nonneg_left hsd (by omega)
      have e2 : 0 ≤ (p - q) * s := Int.mul_nonneg (by omega) h0
      have e5 : (q - p) * s = -((p - q) * s) := by rw [← Int.neg_mul]; congr 1; omega
      have e6 : (q - p) * d = -((p - q) * d) := by rw [← Int.neg_mul]; congr 1; omega
      have e3 := Pl.le_near (n := (q - p) * s) (k := q - p) hd1 (by omega)
      have e4 := Pl.near_le (n := (q - p) * s) (k := 0) hd1 (by omega)
      omega
  unfold ptAt
  rw [okPt_iff]
  exact ⟨key _ _ _ (by omega) (by omega) (by omega) (by omega) hs hd, key _ _ _ (by omega) (by omega) (by omega) (by omega) hs hd⟩
theorem atN_ok {l : List Pt} (ha : l.all okPt = true) (hz : ¬ l.length = 0) : ∀ (f k : Nat) (s : Int), k + f < l.length → 0 ≤ s → okPt (atN l f k s).1 = true
  | 0, _, _, _, _ => okAt ha (by omega)
  | f + 1, k, s, hk, h0 => by
    have hb := farAt_bd ha (k := k) (by omega)
    by_cases h : 0 < farAt l k ∧ s ≤ farAt l k
    · rw [atN_yes h]
      exact ptAt_ok ha (by omega) h0 h.2 h.1
    · rw [atN_no h]
      exact atN_ok ha hz f (k + 1) _ (by omega) (by omega)
theorem atS_ok {l : List Pt} (ha : l.all okPt = true) (hz : ¬ l.length = 0) {s : Int} (h0 : 0 ≤ s) : okPt (atS l s).1 = true := atN_ok ha hz _ 0 s (by omega) h0
theorem atS_last {l : List Pt} : (atS l (longS l)).1 = l.getD (l.length - 1) (0, 0) := by
  unfold atS
  rw [longS_rest]
  by_cases h : 0 < restN l (l.length - 1) 0
  · rw [at_last l _ 0 h, Nat.zero_add]
  · have hz : restN l (l.length - 1) 0 = 0 := by have := restN_nonneg l (l.length - 1) 0; omega
    rw [hz, at_first l _ 0 rfl]
    have := rest_zero (l := l) (l.length - 1) 0 hz
    rw [Nat.zero_add] at this
    exact this.symm

/-! ### what a step without steering refuses, on valid points -/
theorem placeS_ok {a h p : Pt} {x y : Int} (hp : placeS a h x y = (p, 0)) : okPt a = true ∧ okPt h = true ∧ ¬ a = h ∧ okPt p = true := by
  cases h3 : (okPt a && okPt h)
  · rw [placeS_2 h3] at hp; simp at hp
  · simp only [Bool.and_eq_true] at h3
    cases h4 : (inB x (-16777216) 16777216 && inB y (-16777216) 16777216)
    · rw [placeS_3 h3.1 h3.2 h4] at hp; simp at hp
    · simp only [Bool.and_eq_true] at h4
      by_cases he : a = h
      · subst he
        rw [placeS_9 h3.1 h4.1 h4.2] at hp; simp at hp
      · rw [placeS_r h3.1 h3.2 h4.1 h4.2 he] at hp
        refine ⟨h3.1, h3.2, he, ?_⟩
        cases h5 : okPt (putP a h x y)
        · rw [resS_no h5] at hp; simp at hp
        · rw [resS_yes h5] at hp
          simp only [Prod.mk.injEq, and_true] at hp
          rw [← hp]; exact h5
theorem pull49 {h a : Pt} {l : Int} (h1 : 1 ≤ l) (h2 : l ≤ 16777216) (k1 : okPt h = true) (k2 : okPt a = true) : (pullS h a l).2 = 0 ∨ (pullS h a l).2 = 4 ∨ (pullS h a l).2 = 9 := by
  have h4 : inB l 1 16777216 = true := inB_iff.2 ⟨h1, h2⟩
  by_cases he : a = h
  · subst he
    rw [pullS_9 k2 h4]; exact .inr (.inr rfl)
  · rw [pullS_r k2 k1 h4 he]
    rcases resS_err (putP h a l 0) with h5 | h5
    · exact .inl h5
    · exact .inr (.inl h5)
theorem place49 {a h : Pt} {x : Int} (h1 : -16777216 ≤ x) (h2 : x ≤ 16777216) (k1 : okPt a = true) (k2 : okPt h = true) : (placeS a h x 0).2 = 0 ∨ (placeS a h x 0).2 = 4 ∨ (placeS a h x 0).2 = 9 := by
  have h4 : inB x (-16777216) 16777216 = true := inB_iff.2 ⟨h1, h2⟩
  have h5 : inB 0 (-16777216) 16777216 = true := by decide
  by_cases he : a = h
  · subst he
    rw [placeS_9 k1 h4 h5]; exact .inr (.inr rfl)
  · rw [placeS_r k1 k2 h4 h5 he]
    rcases resS_err (putP a h x 0) with h6 | h6
    · exact .inl h6
    · exact .inr (.inl h6)
theorem step49 : ∀ (us : List CUnit) (ps : List Pt) (ss : List Int) (jt : Pt), (∀ u ∈ us, unitB u = true) → (∀ s ∈ ss, s = 0) → (∀ a ∈ ps, okPt a = true) → okPt jt = true → (stepN jt us ps ss).2 = 0 ∨ (stepN jt us ps ss).2 = 4 ∨ (stepN jt us ps ss).2 = 9
  | [], ps, ss, jt, _, _, _, _ => by rw [stepN_nil]; exact .inl rfl
  | u :: us, [], ss, jt, _, _, _, _ => .inl rfl
  | u :: us, x :: ps, [], jt, _, _, _, _ => .inl rfl
  | u :: us, x :: ps, s :: ss, jt, hv, hz, ha, hj1 => by
    obtain rfl : s = 0 := hz s (by simp)
    have hu := hv u (by simp)
    have b1 := pulled_bds hu
    have b2 := unitB_bds hu
    have b3 := rear_bds hu
    obtain ⟨p, hp⟩ : ∃ p, pullS jt x (pulledN u) = p := ⟨_, rfl⟩
    obtain ⟨j, hj⟩ : ∃ j, placeS p.1 jt (rearN u) 0 = j := ⟨_, rfl⟩
    rw [stepN_step (p := p) (by rw [pullTS_zero]; exact hp) hj]
    by_cases hp0 : p.2 = 0
    · rw [if_pos hp0]
      have hpk := (pullS_ok (p := p.1) (by rw [hp, ← hp0])).2.2.2.2.1
      by_cases hus : us = []
      · rw [if_pos hus]; exact .inl rfl
      · rw [if_neg hus]
        by_cases hj0 : j.2 = 0
        · rw [if_pos hj0]
          have hjk := (placeS_ok (p := j.1) (by rw [hj, ← hj0])).2.2.2
          exact step49 us ps ss j.1 (fun u hu => hv u (by simp [hu])) (fun s hs => hz s (by simp [hs])) (fun a h => ha a (by simp [h])) hjk
        · rw [if_neg hj0, ← hj]
          exact place49 (by omega) (by omega) hpk hj1
    · rw [if_neg hp0, ← hp]
      exact pull49 (by omega) (by omega) hj1 (ha x (by simp))
theorem puts_ok : ∀ (us : List CUnit) (xs : List Pt) (j : Pt), (putsN j us xs).length = us.length → xs.length = us.length → ∀ a ∈ xs, okPt a = true
  | [], [], _, _, _ => by simp
  | [], _ :: _, _, _, h => by simp at h
  | _ :: _, [], _, _, h => by simp at h
  | u :: us, x :: xs, j, h, hl => by
    simp only [putsN] at h
    split at h
    · simp at h
    · rename_i hn
      simp only [List.length_cons] at h hl
      intro a ha
      rcases List.mem_cons.1 ha with rfl | ha
      · cases hk : okPt a
        · exact absurd (.inl hk) hn
        · rfl
      · split at h
        · exact puts_ok us xs (placeS x j (rearN u) 0).1 (by omega) (by omega) a ha
        · simp only [List.length_nil] at h
          have : xs.length = 0 := by omega
          rw [List.length_eq_zero_iff.1 this] at ha
          simp at ha
theorem pose_ok {v : CVeh} {lead : Pt} {ps : List Pt} (h : poseE v lead ps = 0) : (∀ a ∈ ps, okPt a = true) ∧ okPt lead = true := by
  have hl := puts_len h
  refine ⟨puts_ok v.units ps lead hl.1 hl.2.2, ?_⟩
  cases hk : okPt lead
  · rw [poseE_no hl.2.1 (poseB_lead hk)] at h; cases h
  · rfl
theorem stepS49 {v : CVeh} {old lead : Pt} {ps : List Pt} {st : List Int} (h : poseE v old ps = 0) (h2 : steerE v st = 0) (hz : ∀ s ∈ st, s = 0) (hl : okPt lead = true) : (stepS v old ps lead st).2.2 = 0 ∨ (stepS v old ps lead st).2.2 = 4 ∨ (stepS v old ps lead st).2.2 = 9 := by
  rw [stepS_go h hl h2 rfl]
  split
  · split
    · exact .inl rfl
    · exact .inr (.inr rfl)
  · exact step49 v.units ps st lead (vehE_units (puts_len h).2.1) hz (pose_ok h).1 hl

/-! ### the first units alone -/
theorem puts_take : ∀ (us : List CUnit) (xs : List Pt) (j : Pt) (k : Nat), putsN j (us.take k) (xs.take k) = (putsN j us xs).take k
  | _, _, _, 0 => by simp [putsN]
  | [], [], _, k + 1 => by simp [putsN]
  | [], _ :: _, _, k + 1 => by simp [putsN]
  | _ :: _, [], _, k + 1 => by simp [putsN]
  | u :: us, x :: xs, j, k + 1 => by
    simp only [List.take_succ_cons, putsN]
    split
    · simp
    · rw [List.take_succ_cons]
      congr 1
      split
      · exact puts_take us xs _ k
      · simp
theorem step_take : ∀ (us : List CUnit) (ps : List Pt) (ss : List Int) (jt : Pt) (k : Nat), ps.length = us.length → ss.length = us.length → (stepN jt us ps ss).2 = 0 → stepN jt (us.take k) (ps.take k) (ss.take k) = ((stepN jt us ps ss).1.take k, 0)
  | us, ps, ss, jt, 0, _, _, _ => by rw [List.take_zero, stepN_nil, List.take_zero]
  | [], ps, ss, jt, k + 1, _, _, _ => by rw [List.take_nil, stepN_nil, stepN_nil, List.take_nil]
  | u :: us, [], ss, jt, k + 1, h, _, _ => by simp at h
  | u :: us, x :: ps, [], jt, k + 1, _, h, _ => by simp at h
  | u :: us, x :: ps, s :: ss, jt, k + 1, hp, hs, h => by
    obtain ⟨p, hpp⟩ : ∃ p, pullTS jt x (pulledN u) s = p := ⟨_, rfl⟩
    obtain ⟨j, hj⟩ : ∃ j, placeS p.1 jt (rearN u) 0 = j := ⟨_, rfl⟩
    have e := stepN_step (us := us) (ps := ps) (ss := ss) hpp hj
    have e2 := stepN_step (us := us.take k) (ps := ps.take k) (ss := ss.take k) hpp hj
    rw [e] at h
    rw [List.take_succ_cons, List.take_succ_cons, List.take_succ_cons, e, e2]
    by_cases hp0 : p.2 = 0
    · rw [if_pos hp0] at h ⊢
      rw [if_pos hp0]
      by_cases hus : us = []
      · subst hus
        simp
      · rw [if_neg hus] at h ⊢
        by_cases hj0 : j.2 = 0
        · rw [if_pos hj0] at h ⊢
          have ih := step_take us ps ss j.1 k (by simpa using hp) (by simpa using hs) h
          by_cases hk : us.take k = []
          · have hk0 : k = 0 := by
              rcases List.take_eq_nil_iff.1 hk with h | h
              · exact h
              · exact absurd h hus
            subst hk0
            rw [if_pos hj0]
            simp
          · rw [if_neg hk, if_pos hj0, ih, List.take_succ_cons]
        · rw [if_neg hj0] at h
          exact absurd h hj0
    · rw [if_neg hp0] at h
      exact absurd h hp0
/-- the first units of a vehicle -/
def shortV (v : CVeh) (k : Nat) : CVeh := { v with units := v.units.take k, first := 0, last := 0 }
section
variable {v : CVeh} {k : Nat}
theorem short_veh (h : vehE v = 0) (h1 : 1 ≤ k) (h2 : k ≤ v.units.length) : vehE (shortV v k) = 0 := by
  obtain ⟨hm, hh, ha⟩ := vehE_zero h
  have hlen : (v.units.take k).length = k := by rw [List.length_take]; omega
  have e1 : manyB (shortV v k) = false := by
    unfold manyB at hm ⊢
    simp only [Bool.or_eq_false_iff, decide_eq_false_iff_not, List.any_eq_false] at hm ⊢
    refine ⟨by show ¬ 12 < (v.units.take k).length; omega, fun u hu => hm.2 u (List.mem_of_mem_take hu)⟩
  have e2 : headB (shortV v k) = true := by
    unfold headB at hh ⊢
    simp only [Bool.and_eq_true, decide_eq_true_eq] at hh ⊢
    refine ⟨⟨⟨hh.1.1.1, by show 1 ≤ (v.units.take k).length; omega⟩, ?_⟩, by show (0 : Int) ≤ 0 ∧ (0 : Int) ≤ 0 ∧ (0 : Int) < ((v.units.take k).length : Int); omega⟩
    have hk0 := hh.1.2
    unfold kind0 at hk0 ⊢
    show (match v.units.take k with | [] => 1 | u :: _ => u.kind) = 0
    cases hu : v.units with
    | nil => rw [hu] at h2; simp at h2; omega
    | cons u us =>
      rw [hu] at hk0
      obtain ⟨k', rfl⟩ : ∃ k', k = k' + 1 := ⟨k - 1, by omega⟩
      exact hk0
  have e3 : (shortV v k).units.all unitB = true := List.all_eq_true.2 (fun u hu => List.all_eq_true.1 ha u (List.mem_of_mem_take hu))
  unfold vehE
  rw [e1, e2, e3]
  rfl
theorem short_pose {lead : Pt} {ps : List Pt} (h : poseE v lead ps = 0) (h1 : 1 ≤ k) (h2 : k ≤ v.units.length) : poseE (shortV v k) lead (ps.take k) = 0 := by
  obtain ⟨hp, hv, hl⟩ := puts_len h
  have hlen : (v.units.take k).length = k := by rw [List.length_take]; omega
  have hlen2 : (ps.take k).length = k := by rw [List.length_take]; omega
  refine poseE_ok (short_veh hv h1 h2) ?_
  rw [poseB_eq (by show (ps.take k).length = (v.units.take k).length; omega) (pose_ok h).2]
  show decide ((putsN lead (v.units.take k) (ps.take k)).length = (v.units.take k).length) = true
  rw [puts_take, List.length_take, hp, hlen]
  simp
  omega
theorem short_step {old lead p : Pt} {ps xs : List Pt} (h : stepS v old ps lead (List.replicate v.units.length 0) = (p, xs, 0)) (hp : poseE v old ps = 0) (h1 : 1 ≤ k) (h2 : k ≤ v.units.length) :
    stepS (shortV v k) old (ps.take k) lead (List.replicate (shortV v k).units.length 0) = (p, xs.take k, 0) := by
  obtain ⟨rfl, hx, hn, hpo⟩ := stepS_ok h
  obtain ⟨_, hv, hl⟩ := puts_len hp
  have hlen : (shortV v k).units.length = k := by show (v.units.take k).length = k; rw [List.length_take]; omega
  have hst := steer_zero (v := shortV v k) (fun u hu => vehE_units hv u (List.mem_of_mem_take hu))
  have e : stepN p (shortV v k).units (ps.take k) (List.replicate (shortV v k).units.length 0) = (xs.take k, 0) := by
    have := step_take v.units ps (List.replicate v.units.length 0) p k hl (by simp) hn
    rw [List.take_replicate, ← hx, show min k v.units.length = k by omega] at this
    rw [hlen]
    exact this
  rw [stepS_go (short_pose hp h1 h2) (pose_ok hpo).2 hst e]
  simp only
  rw [if_pos trivial, if_pos (short_pose hpo h1 h2)]
end

/-! ### following -/
section
variable {v : CVeh} {old : CPos} {f : Nat → Pt}
def zerosF (v : CVeh) (_ : Nat) : List Int := List.replicate v.units.length 0
theorem fol_pose : ∀ (j : Nat) {s : CPos × List CPos}, poseE v old.1 old.2 = 0 → folK v old f (zerosF v) j = .inl s → poseE v s.1.1 s.1.2 = 0
  | 0, s, h, hk => by
    simp only [folK, Sum.inl.injEq] at hk
    subst hk
    exact h
  | j + 1, s, h, hk => by
    cases hj : folK v old f (zerosF v) j with
    | inr e => simp only [folK, hj] at hk; cases hk
    | inl t =>
      by_cases he : stepE v t.1 (f j) (zerosF v j) = 0
      · rw [folK_ok hj he, Sum.inl.injEq] at hk
        subst hk
        obtain ⟨⟨p, xs, e⟩, hS⟩ : ∃ x, stepS v t.1.1 t.1.2 (f j) (zerosF v j) = x := ⟨_, rfl⟩
        unfold stepE at he
        rw [hS] at he
        simp only at he
        subst he
        obtain ⟨rfl, _, _, hp⟩ := stepS_ok hS
        unfold stepP
        rw [hS]
        exact hp
      · rw [folK_bad hj he] at hk; cases hk
theorem fol_err : ∀ (j : Nat) {e : Int}, poseE v old.1 old.2 = 0 → (∀ i, okPt (f i) = true) → folK v old f (zerosF v) j = .inr e → e = 4 ∨ e = 9
  | 0, e, _, _, hk => by simp only [folK] at hk; cases hk
  | j + 1, e, h, hf, hk => by
    cases hj : folK v old f (zerosF v) j with
    | inr e' =>
      simp only [folK, hj, Sum.inr.injEq] at hk
      subst hk
      exact fol_err j h hf hj
    | inl t =>
      by_cases he : stepE v t.1 (f j) (zerosF v j) = 0
      · rw [folK_ok hj he] at hk; cases hk
      · rw [folK_bad hj he, Sum.inr.injEq] at hk
        subst hk
        have hp := fol_pose j h hj
        rcases stepS49 (st := zerosF v j) hp (steer_zero (vehE_units (puts_len hp).2.1)) (fun s hs => (List.mem_replicate.1 hs).2) (hf j) with h9 | h9 | h9
        · exact absurd h9 he
        · exact .inl h9
        · exact .inr h9
theorem fol_short {k : Nat} (h1 : 1 ≤ k) (h2 : k ≤ v.units.length) : ∀ (j : Nat) {s : CPos × List CPos}, poseE v old.1 old.2 = 0 → folK v old f (zerosF v) j = .inl s →
    folK (shortV v k) (old.1, old.2.take k) f (zerosF (shortV v k)) j = .inl ((s.1.1, s.1.2.take k), s.2.map (fun q => (q.1, q.2.take k)))
  | 0, s, _, hk => by
    simp only [folK, Sum.inl.injEq] at hk
    subst hk
    rfl
  | j + 1, s, h, hk => by
    cases hj : folK v old f (zerosF v) j with
    | inr e => simp only [folK, hj] at hk; cases hk
    | inl t =>
      by_cases he : stepE v t.1 (f j) (zerosF v j) = 0
      · rw [folK_ok hj he, Sum.inl.injEq] at hk
        subst hk
        have ih := fol_short h1 h2 j h hj
        obtain ⟨⟨p, xs, e⟩, hS⟩ : ∃ x, stepS v t.1.1 t.1.2 (f j) (zerosF v j) = x := ⟨_, rfl⟩
        have he' := he
        unfold stepE at he'
        rw [hS] at he'
        simp only at he'
        subst he'
        have hss := short_step (k := k) hS (fol_pose j h hj) h1 h2
        have hE : stepE (shortV v k) (t.1.1, t.1.2.take k) (f j) (zerosF (shortV v k) j) = 0 := by unfold stepE zerosF; rw [hss]
        have hP : stepP (shortV v k) (t.1.1, t.1.2.take k) (f j) (zerosF (shortV v k) j) = (p, xs.take k) := by unfold stepP zerosF; rw [hss]
        have hP0 : stepP v t.1 (f j) (zerosF v j) = (p, xs) := by unfold stepP; rw [hS]
        rw [folK_ok ih hE, hP, hP0]
        simp
      · rw [folK_bad hj he] at hk; cases hk
theorem fol_prefix : ∀ (j : Nat) {s : CPos × List CPos}, folK v old f (zerosF v) j = .inl s → ∀ i, i < j → ∃ p q, folK v old f (zerosF v) i = .inl (p, s.2.take i) ∧ s.2[i]? = some q ∧ stepS v p.1 p.2 (f i) (zerosF v i) = (q.1, q.2, 0) ∧ folK v old f (zerosF v) (i + 1) = .inl (q, s.2.take (i + 1))
  | 0, s, hk, i, hi => by omega
  | j + 1, s, hk, i, hi => by
    cases hj : folK v old f (zerosF v) j with
    | inr e => simp only [folK, hj] at hk; cases hk
    | inl t =>
      by_cases he : stepE v t.1 (f j) (zerosF v j) = 0
      · have hk' := hk
        rw [folK_ok hj he, Sum.inl.injEq] at hk'
        have hlt := folK_len hj
        subst hk'
        by_cases hij : i < j
        · obtain ⟨p, q, a1, a2, a3, a4⟩ := fol_prefix j hj i hij
          refine ⟨p, q, ?_, ?_, a3, ?_⟩
          · rw [a1, List.take_append_of_le_length (by omega)]
          · simp only
            rw [List.getElem?_append_left (by omega)]; exact a2
          · rw [a4, List.take_append_of_le_length (by omega)]
        · obtain rfl : i = j := by omega
          obtain ⟨⟨p, xs, e⟩, hS⟩ : ∃ x, stepS v t.1.1 t.1.2 (f i) (zerosF v i) = x := ⟨_, rfl⟩
          have hP0 : stepP v t.1 (f i) (zerosF v i) = (p, xs) := by unfold stepP; rw [hS]
          unfold stepE at he
          rw [hS] at he
          simp only at he
          subst he
          refine ⟨t.1, (p, xs), ?_, ?_, hS, ?_⟩
          · simp only
            rw [hj, List.take_append_of_le_length (by omega), List.take_of_length_le (by omega)]
          · simp only
            rw [List.getElem?_append_right (by omega), hlt, hP0]
            simp
          · rw [hk, hP0]
            simp only
            rw [List.take_of_length_le (by simp [hlt])]
      · rw [folK_bad hj he] at hk; cases hk
end
end Go.Proofs.Ytgikfliibimkdaa
