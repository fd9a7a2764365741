/- The law ChainBars, walked. -/
import Derived.Test.YtgikfliibimkdaaCStepC
import Derived.Test.YtgikfliibimkdaaCPulled
import Derived.Test.YtgikfliibimkdaaCBarMath
import Derived.Test.YtgikfliibimkdaaCStrC
namespace Go.Proofs.Ytgikfliibimkdaa
open Go.RowKit Go.Shelf

/-! ### the errors of a step without steering -/
theorem resS_err (p : Pt) : (resS p).2 = 0 ∨ (resS p).2 = 4 := by
  cases h : okPt p
  · rw [resS_no h]; exact .inr rfl
  · rw [resS_yes h]; exact .inl rfl
theorem pullS_err {h a : Pt} {l : Int} (h1 : 1 ≤ l) (h2 : l ≤ 16777216) : (pullS h a l).2 = 0 ∨ (pullS h a l).2 = 2 ∨ (pullS h a l).2 = 4 ∨ (pullS h a l).2 = 9 := by
  cases h3 : (okPt a && okPt h)
  · rw [pullS_2 h3]; exact .inr (.inl rfl)
  · simp only [Bool.and_eq_true] at h3
    have h4 : inB l 1 16777216 = true := inB_iff.2 ⟨h1, h2⟩
    by_cases he : a = h
    · subst he
      rw [pullS_9 h3.1 h4]; exact .inr (.inr (.inr rfl))
    · rw [pullS_r h3.1 h3.2 h4 he]
      rcases resS_err (putP h a l 0) with h5 | h5
      · exact .inl h5
      · exact .inr (.inr (.inl h5))
theorem placeS_err {a h : Pt} {x : Int} (h1 : -16777216 ≤ x) (h2 : x ≤ 16777216) : (placeS a h x 0).2 = 0 ∨ (placeS a h x 0).2 = 2 ∨ (placeS a h x 0).2 = 4 ∨ (placeS a h x 0).2 = 9 := by
  cases h3 : (okPt a && okPt h)
  · rw [placeS_2 h3]; exact .inr (.inl rfl)
  · simp only [Bool.and_eq_true] at h3
    have h4 : inB x (-16777216) 16777216 = true := inB_iff.2 ⟨h1, h2⟩
    have h5 : inB 0 (-16777216) 16777216 = true := by decide
    by_cases he : a = h
    · subst he
      rw [placeS_9 h3.1 h4 h5]; exact .inr (.inr (.inr rfl))
    · rw [placeS_r h3.1 h3.2 h4 h5 he]
      rcases resS_err (putP a h x 0) with h6 | h6
      · exact .inl h6
      · exact .inr (.inr (.inl h6))
theorem step_err : ∀ (us : List CUnit) (ps : List Pt) (ss : List Int) (jt : Pt), (∀ u ∈ us, unitB u = true) → (∀ s ∈ ss, s = 0) → (stepN jt us ps ss).2 = 0 ∨ (stepN jt us ps ss).2 = 2 ∨ (stepN jt us ps ss).2 = 4 ∨ (stepN jt us ps ss).2 = 9
  | [], ps, ss, jt, _, _ => by rw [stepN_nil]; exact .inl rfl
  | u :: us, [], ss, jt, _, _ => .inl rfl
  | u :: us, x :: ps, [], jt, _, _ => .inl rfl
  | u :: us, x :: ps, s :: ss, jt, hv, hz => by
    obtain rfl : s = 0 := hz s (by simp)
    have hu := hv u (by simp)
    have b1 := pulled_bds hu
    have b2 := unitB_bds hu
    have b3 := rear_bds hu
    obtain ⟨p, hp⟩ : ∃ p, pullS jt x (pulledN u) = p := ⟨_, rfl⟩
    obtain ⟨j, hj⟩ : ∃ j, placeS p.1 jt (rearN u) 0 = j := ⟨_, rfl⟩
    rw [stepN_step (p := p) (by rw [pullTS_zero]; exact hp) hj]
    by_cases hp0 : p.2 = 0
    · rw [if_pos hp0]
      by_cases hus : us = []
      · rw [if_pos hus]; exact .inl rfl
      · rw [if_neg hus]
        by_cases hj0 : j.2 = 0
        · rw [if_pos hj0]
          exact step_err us ps ss j.1 (fun u hu => hv u (by simp [hu])) (fun s hs => hz s (by simp [hs]))
        · rw [if_neg hj0, ← hj]
          exact placeS_err (by omega) (by omega)
    · rw [if_neg hp0, ← hp]
      exact pullS_err (by omega) (by omega)
theorem stepS_err {v : CVeh} {old lead : Pt} {ps : List Pt} {st : List Int} (h : poseE v old ps = 0) (h2 : steerE v st = 0) (hz : ∀ s ∈ st, s = 0) : (stepS v old ps lead st).2.2 = 0 ∨ (stepS v old ps lead st).2.2 = 2 ∨ (stepS v old ps lead st).2.2 = 4 ∨ (stepS v old ps lead st).2.2 = 9 := by
  cases hl : okPt lead
  · rw [stepS_lead h hl]; exact .inr (.inl rfl)
  · rw [stepS_go h hl h2 rfl]
    split
    · split
      · exact .inl rfl
      · exact .inr (.inr (.inr rfl))
    · exact step_err v.units ps st lead (vehE_units (puts_len h).2.1) hz
theorem steer_zero {v : CVeh} (hv : ∀ u ∈ v.units, unitB u = true) : steerE v (List.replicate v.units.length 0) = 0 := by
  unfold steerE
  rw [if_pos (by simp)]
  have key : ∀ us : List CUnit, (∀ u ∈ us, unitB u = true) → steerB us (List.replicate us.length 0) = true := by
    intro us
    induction us with
    | nil => intro _; rfl
    | cons u us ih =>
      intro h
      have hu := unit_most (h u (by simp))
      show (inB 0 (-u.most) u.most && steerB us (List.replicate us.length 0)) = true
      rw [inB_iff.2 ⟨by omega, by omega⟩, ih (fun x hx => h x (by simp [hx]))]
      rfl
  rw [key v.units hv]
  rfl
theorem sl_zeros {W : World} {b n : Nat} (h : ∀ i, i < n → W.cell? ⟨b, i, none⟩ = some (.int .i64 0)) (hn : n ≤ 9223372036854775807) : Sl 1 RNum W (.slice (some ⟨b, 0, none⟩) n n) (List.replicate n 0) :=
  ⟨some ⟨b, 0, none⟩, n, by simp, by simpa using hn, by simp, fun i x hi => by
    obtain ⟨hi1, rfl⟩ := List.getElem?_eq_some_iff.1 hi
    simp only [List.length_replicate] at hi1
    refine ⟨b, 0, [.int .i64 0], rfl, rfl, ⟨by simp, by simp, by simp⟩, fun j c hj => ?_⟩
    match j, hj with
    | 0, hj =>
      simp only [List.getElem?_cons_zero, Option.some.injEq] at hj
      subst hj
      simpa using h i hi1
    | j + 1, hj => simp at hj⟩
theorem stepS_ok {v : CVeh} {old lead p : Pt} {ps xs : List Pt} {st : List Int} (h : stepS v old ps lead st = (p, xs, 0)) :
    p = lead ∧ xs = (stepN lead v.units ps st).1 ∧ (stepN lead v.units ps st).2 = 0 ∧ poseE v lead xs = 0 := by
  by_cases h1 : poseE v old ps = 0
  · cases h2 : okPt lead
    · rw [stepS_lead h1 h2] at h; simp at h
    · by_cases h3 : steerE v st = 0
      · rw [stepS_go h1 h2 h3 rfl] at h
        by_cases h4 : (stepN lead v.units ps st).2 = 0
        · rw [if_pos h4] at h
          by_cases h5 : poseE v lead (stepN lead v.units ps st).1 = 0
          · rw [if_pos h5] at h
            simp only [Prod.mk.injEq, and_true] at h
            exact ⟨h.1.symm, h.2.symm, h4, by rw [← h.2]; exact h5⟩
          · rw [if_neg h5] at h; simp at h
        · rw [if_neg h4] at h
          simp only [Prod.mk.injEq] at h
          exact absurd h.2.2 h4
      · rw [stepS_steer h1 h2 h3] at h
        simp only [Prod.mk.injEq] at h
        exact absurd h.2.2 h3
  · rw [stepS_pose h1] at h
    simp only [Prod.mk.injEq] at h
    exact absurd h.2.2 h1
theorem infoInt : (Try.prog.info? 3).map (fun i => (i.zero, i.size, i.bytes)) = some (some (.int .i64 0), 1, 8) := by kernel_rfl
end Go.Proofs.Ytgikfliibimkdaa
