/- The plain law of ChainBars: behind a step without steering each unit is as far behind its joint as its pulled length, but for 2. -/
import Derived.Test.YtgikfliibimkdaaCStepS
import Derived.Test.YtgikfliibimkdaaPlaneA
namespace Go.Proofs.Ytgikfliibimkdaa
open Go.RowKit Go.Shelf

theorem pullS_ok {h a p : Pt} {l : Int} (hp : pullS h a l = (p, 0)) : okPt h = true ∧ okPt a = true ∧ (1 ≤ l ∧ l ≤ 16777216) ∧ ¬ a = h ∧ okPt p = true ∧ p = putP h a l 0 := by
  cases h1 : (okPt a && okPt h)
  · rw [pullS_2 h1] at hp; simp at hp
  · simp only [Bool.and_eq_true] at h1
    cases h3 : inB l 1 16777216
    · rw [pullS_3 h1.1 h1.2 h3] at hp; simp at hp
    · by_cases he : a = h
      · subst he
        rw [pullS_9 h1.1 h3] at hp; simp at hp
      · rw [pullS_r h1.1 h1.2 h3 he] at hp
        cases h4 : okPt (putP h a l 0)
        · rw [resS_no h4] at hp; simp at hp
        · rw [resS_yes h4] at hp
          simp only [Prod.mk.injEq, and_true] at hp
          exact ⟨h1.2, h1.1, inB_iff.1 h3, he, by rw [← hp]; exact h4, hp.symm⟩
theorem bar_fact {h a p : Pt} {l : Int} (hp : pullS h a l = (p, 0)) (hl : l ≤ 131072) (hd : l ≤ 16 * farS a h) : -2 ≤ farS p h - l ∧ farS p h - l ≤ 2 := by
  obtain ⟨oh, oa, ⟨hl1, _⟩, hne, _, hpp⟩ := pullS_ok hp
  obtain ⟨hx, hy⟩ := h
  obtain ⟨yx, yy⟩ := a
  obtain ⟨px, py⟩ := p
  obtain ⟨a1, a2, a3, a4⟩ := okPt_bd oh
  obtain ⟨b1, b2, b3, b4⟩ := okPt_bd oa
  unfold farS at *
  simp only at hd ⊢
  have hne2 : ¬ (yx = hx ∧ yy = hy) := fun h => hne (by rw [h.1, h.2])
  have hne' : ¬ (yx - hx = 0 ∧ yy - hy = 0) := by omega
  have PB := put_bds (x := 1) (y := 0) hne' (by omega) (by omega) (by omega) (by omega) (by omega) (by omega) (by omega) (by omega)
  obtain ⟨c1, c2, c3, c4, c5, _, _, _, _, _, _, _, _, c14, c15, _⟩ := PB
  rw [show (hx - yx) * (hx - yx) + (hy - yy) * (hy - yy) = (yx - hx) * (yx - hx) + (yy - hy) * (yy - hy) by grind] at hd
  rw [show (hx - px) * (hx - px) + (hy - py) * (hy - py) = (px - hx) * (px - hx) + (py - hy) * (py - hy) by grind]
  generalize hu : yx - hx = u at *
  generalize hv : yy - hy = v at *
  have s1 := Pl.near_spec (32 * (u * l)) _ c14
  have s2 := Pl.near_spec (32 * (v * l)) _ c14
  have g1 := Pl.isqrt_le (1024 * (u * u + v * v)) (by omega)
  have g2 := Pl.lt_isqrt (1024 * (u * u + v * v)) (by omega)
  have g3 : 32 ≤ Pl.isqrt (1024 * (u * u + v * v)) := Pl.isqrt_ge (by omega) (by omega) (by omega)
  have g4 : 32 * Pl.isqrt (u * u + v * v) ≤ Pl.isqrt (1024 * (u * u + v * v)) := by
    have k1 := Pl.isqrt_le (u * u + v * v) (by omega)
    have k2 := Pl.isqrt_nonneg (u * u + v * v)
    refine Pl.isqrt_ge (by omega) (by omega) ?_
    have e : 32 * Pl.isqrt (u * u + v * v) * (32 * Pl.isqrt (u * u + v * v)) = 1024 * (Pl.isqrt (u * u + v * v) * Pl.isqrt (u * u + v * v)) := by grind
    omega
  have hput : putP (hx, hy) (yx, yy) l 0 = (hx + Pl.near (32 * (u * l)) (Pl.isqrt (1024 * (u * u + v * v))), hy + Pl.near (32 * (v * l)) (Pl.isqrt (1024 * (u * u + v * v)))) := by
    simp only [putP, hu, hv, Int.mul_zero, Int.sub_zero, Int.add_zero]
  rw [hput] at hpp
  generalize hr : Pl.isqrt (1024 * (u * u + v * v)) = r at *
  generalize hA : Pl.near (32 * (u * l)) r = A at *
  generalize hB : Pl.near (32 * (v * l)) r = B at *
  simp only [Prod.mk.injEq] at hpp
  obtain ⟨rfl, rfl⟩ := hpp
  rw [show hx + A - hx = A by omega, show hy + B - hy = B by omega]
  have far := Pl.pulled_far g3 g1 g2 hl1 (by omega) s1.1 s1.2 s2.1 s2.2
  have hAB : 0 ≤ A * A + B * B := by have := Pl.sq_nonneg A; have := Pl.sq_nonneg B; omega
  have k1 := Pl.isqrt_le_of hAB (by omega) far.1
  have k2 := Pl.isqrt_nonneg (A * A + B * B)
  have k3 : 2 ≤ l → l - 2 ≤ Pl.isqrt (A * A + B * B) := fun h => Pl.isqrt_ge hAB (by omega) (far.2 h)
  omega
theorem pullTS_zero (h a : Pt) (l : Int) : pullTS h a l 0 = pullS h a l := by unfold pullTS; rw [if_neg (by simp)]
/-- each unit's axle is the one that its joint pulls -/
theorem bars : ∀ (us : List CUnit) (ps : List Pt) (ss : List Int) (jt : Pt) (k : Nat) (c : CPut) (a : Pt), (∀ s ∈ ss, s = 0) → (stepN jt us ps ss).2 = 0 → (putsN jt us (stepN jt us ps ss).1)[k]? = some c → ps[k]? = some a →
    pullS c.joint a (pulledN c.unit) = (c.axle, 0)
  | [], ps, ss, jt, k, c, a, _, _, hc, _ => by
    rw [stepN_nil] at hc
    simp [putsN] at hc
  | u :: us, [], ss, jt, k, c, a, _, _, _, ha => by simp at ha
  | u :: us, x :: ps, [], jt, k, c, a, _, _, hc, _ => by simp [stepN, putsN] at hc
  | u :: us, x :: ps, s :: ss, jt, k, c, a, hz, h0, hc, ha => by
    obtain rfl : s = 0 := hz s (by simp)
    obtain ⟨p, hp⟩ : ∃ p, pullS jt x (pulledN u) = p := ⟨_, rfl⟩
    obtain ⟨j, hj⟩ : ∃ j, placeS p.1 jt (rearN u) 0 = j := ⟨_, rfl⟩
    rw [stepN_step (p := p) (by rw [pullTS_zero]; exact hp) hj] at h0 hc
    by_cases hp0 : p.2 = 0
    · rw [if_pos hp0] at h0 hc
      have hfirst : ∀ l, k = 0 → (putsN jt (u :: us) (p.1 :: l))[k]? = some c → pullS c.joint a (pulledN c.unit) = (c.axle, 0) := fun l hk hc => by
        subst hk
        simp only [putsN] at hc
        split at hc
        · simp at hc
        · simp only [List.getElem?_cons_zero, Option.some.injEq] at hc ha
          subst hc ha
          rw [hp]
          exact Prod.ext rfl hp0
      cases k with
      | zero =>
        by_cases hus : us = []
        · rw [if_pos hus] at hc
          exact hfirst _ rfl hc
        · rw [if_neg hus] at hc
          by_cases hj0 : j.2 = 0
          · rw [if_pos hj0] at hc
            exact hfirst _ rfl hc
          · rw [if_neg hj0] at hc
            exact hfirst _ rfl hc
      | succ k =>
        by_cases hus : us = []
        · rw [if_pos hus] at hc
          subst hus
          simp only [putsN] at hc
          split at hc
          · simp at hc
          · simp only [List.getElem?_cons_succ] at hc
            split at hc <;> simp at hc
        · rw [if_neg hus] at h0 hc
          by_cases hj0 : j.2 = 0
          · rw [if_pos hj0] at h0 hc
            simp only [putsN, hj, if_pos hj0] at hc
            split at hc
            · simp at hc
            · simp only [List.getElem?_cons_succ] at hc ha
              exact bars us ps ss j.1 k c a (fun s hs => hz s (by simp [hs])) h0 hc ha
          · rw [if_neg hj0] at h0
            exact absurd h0 hj0
    · rw [if_neg hp0] at h0
      exact absurd h0 hp0
end Go.Proofs.Ytgikfliibimkdaa
