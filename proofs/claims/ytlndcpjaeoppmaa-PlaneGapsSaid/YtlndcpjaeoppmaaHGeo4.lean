
/- The gap of two hulls, plainly: it is the least growth by which they meet; it is the same for both orders, 0 just if they meet, and a hull that is moved changes it by at most the way. -/
import Derived.Test.YtlndcpjaeoppmaaHGeoAll
import Derived.Test.YtlndcpjaeoppmaaHRGap
namespace Go.Proofs.Ytlndcpjaeoppmaa
open Go.RowKit

def magD (d : HPt) : Int := d.1.natAbs + d.2.natAbs
theorem mag_pos (d : HPt) : 0 ≤ magD d := by unfold magD; omega
/-- no direction parts two lists by more than t -/
def NearP (t : Int) (a b : List HPt) : Prop := ∀ d, ∃ p ∈ a, ∃ q ∈ b, dotP d q ≤ dotP d p + t * magD d
theorem near_mono {s t : Int} {a b : List HPt} (h : s ≤ t) (k : NearP s a b) : NearP t a b := by
  intro d
  obtain ⟨p, hp, q, hq, k⟩ := k d
  have := Int.mul_le_mul_of_nonneg_right h (mag_pos d)
  exact ⟨p, hp, q, hq, by omega⟩
theorem near_symm {t : Int} {a b : List HPt} (k : NearP t a b) : NearP t b a := by
  intro d
  obtain ⟨p, hp, q, hq, k⟩ := k (neP d)
  rw [dot_neg, dot_neg] at k
  have : magD (neP d) = magD d := by unfold magD neP; simp only; omega
  rw [this] at k
  exact ⟨q, hq, p, hp, by omega⟩
theorem mul_mag {x y t : Int} (h : -t ≤ y ∧ y ≤ t) : x * y ≤ t * x.natAbs := by
  rcases Int.le_total 0 x with hx | hx
  · have e : (x.natAbs : Int) = x := by omega
    rw [e, Int.mul_comm t x]
    exact Int.mul_le_mul_of_nonneg_left h.2 hx
  · have e : (x.natAbs : Int) = -x := by omega
    have k := Int.mul_le_mul_of_nonneg_left (show -y ≤ t by omega) (show 0 ≤ -x by omega)
    rw [Int.neg_mul_neg] at k
    rw [e, Int.mul_comm t (-x)]
    exact k
theorem dot_mag {d v : HPt} {t : Int} (h1 : -t ≤ v.1 ∧ v.1 ≤ t) (h2 : -t ≤ v.2 ∧ v.2 ≤ t) : dotP d v ≤ t * magD d := by
  have a := mul_mag (x := d.1) h1
  have b := mul_mag (x := d.2) h2
  unfold dotP magD
  rw [Int.mul_add]
  omega
theorem near_of {t : Int} {a b : List HPt} {p q : HPt} (hp : p ∈ a) (hq : q ∈ b) (h1 : -t ≤ q.1 - p.1 ∧ q.1 - p.1 ≤ t) (h2 : -t ≤ q.2 - p.2 ∧ q.2 - p.2 ≤ t) : NearP t a b := by
  intro d
  refine ⟨p, hp, q, hq, ?_⟩
  have := dot_mag (d := d) (v := dif q p) (t := t) h1 h2
  rw [dot_dif] at this
  omega
theorem meet_near {a b : List HPt} (ha : cornersP a = a) (hb : cornersP b = b) (ha0 : a ≠ []) (hb0 : b ≠ []) : meetB a b = true ↔ NearP 0 a b := by
  rw [meet_iff ha hb ha0 hb0]
  constructor
  · intro h d
    by_cases k : ∃ p ∈ a, ∃ q ∈ b, dotP d q ≤ dotP d p + 0 * magD d
    · exact k
    · exfalso
      apply h
      refine ⟨d, fun p hp q hq => ?_⟩
      by_cases m : dotP d p < dotP d q
      · exact m
      · exact absurd ⟨p, hp, q, hq, by omega⟩ k
  · rintro h ⟨d, k⟩
    obtain ⟨p, hp, q, hq, m⟩ := h d
    have := k p hp q hq
    omega
theorem grow_top (d p : HPt) (t : Int) : ∃ r ∈ rgP t p, dotP d r = dotP d p + t * magD d := by
  obtain ⟨d1, d2⟩ := d
  obtain ⟨p1, p2⟩ := p
  unfold rgP dotP magD
  simp only [List.mem_cons, List.not_mem_nil, or_false]
  rcases Int.le_total 0 d1 with h1 | h1 <;> rcases Int.le_total 0 d2 with h2 | h2
  · refine ⟨(p1 + t, p2 + t), by simp, ?_⟩
    rw [show (d1.natAbs : Int) = d1 by omega, show (d2.natAbs : Int) = d2 by omega]; grind
  · refine ⟨(p1 + t, p2 - t), by simp, ?_⟩
    rw [show (d1.natAbs : Int) = d1 by omega, show (d2.natAbs : Int) = -d2 by omega]; grind
  · refine ⟨(p1 - t, p2 + t), by simp, ?_⟩
    rw [show (d1.natAbs : Int) = -d1 by omega, show (d2.natAbs : Int) = d2 by omega]; grind
  · refine ⟨(p1 - t, p2 - t), by simp, ?_⟩
    rw [show (d1.natAbs : Int) = -d1 by omega, show (d2.natAbs : Int) = -d2 by omega]; grind
theorem grow_le {d p r : HPt} {t : Int} (ht : 0 ≤ t) (h : r ∈ rgP t p) : dotP d r ≤ dotP d p + t * magD d := by
  have hv : (-t ≤ (dif r p).1 ∧ (dif r p).1 ≤ t) ∧ (-t ≤ (dif r p).2 ∧ (dif r p).2 ≤ t) := by
    unfold dif
    simp only [rgP, List.mem_cons, List.not_mem_nil, or_false] at h
    rcases h with rfl | rfl | rfl | rfl <;> simp only <;> omega
  have := dot_mag (d := d) hv.1 hv.2
  rw [dot_dif] at this
  omega
theorem grow_ne {a : List HPt} (t : Int) (ha0 : a ≠ []) : growP t a ≠ [] := by
  intro e
  have h := grow_len t a
  rw [e] at h
  have := List.length_pos_iff.2 ha0
  simp only [List.length_nil] at h
  omega
theorem corners_ne {a : List HPt} (ha0 : a ≠ []) : cornersP a ≠ [] := List.ne_nil_of_length_pos (corners_pos (List.length_pos_iff.2 ha0))
/-- a hull that is grown by t meets another one just if no direction parts them by more than t -/
theorem grow_near {t : Int} {a b : List HPt} (ht : 0 ≤ t) (hb : cornersP b = b) (ha0 : a ≠ []) (hb0 : b ≠ []) : meetB (cornersP (growP t a)) b = true ↔ NearP t a b := by
  rw [meet_near (corners_idem _) hb (corners_ne (grow_ne t ha0)) hb0]
  constructor
  · intro h d
    obtain ⟨p, hp, q, hq, k⟩ := h d
    obtain ⟨o, ho, hr⟩ := List.mem_flatMap.1 (corners_sub hp)
    have := grow_le (d := d) ht hr
    exact ⟨o, ho, q, hq, by omega⟩
  · intro h d
    obtain ⟨p, hp, q, hq, k⟩ := h d
    obtain ⟨r, hr, e⟩ := grow_top d p t
    obtain ⟨s, hs, m⟩ := support (grow_ne t ha0) d
    have := m r (List.mem_flatMap.2 ⟨p, hp, hr⟩)
    exact ⟨s, hs, q, hq, by omega⟩
/-- halving finds the least -/
theorem gapF_least {P : Int → Bool} (hm : ∀ s t, 0 ≤ s → s ≤ t → P s = true → P t = true) : ∀ (n : Nat) (lo hi : Int), 0 ≤ lo → lo ≤ hi → hi - lo ≤ n → (∀ t, 0 ≤ t → t < lo → P t = false) → P hi = true →
    lo ≤ gapF P n lo hi ∧ gapF P n lo hi ≤ hi ∧ P (gapF P n lo hi) = true ∧ ∀ t, 0 ≤ t → t < gapF P n lo hi → P t = false
  | 0, lo, hi, h0, h1, h2, h3, h4 => by
    have : lo = hi := by omega
    subst this
    exact ⟨Int.le_refl _, h1, h4, h3⟩
  | n + 1, lo, hi, h0, h1, h2, h3, h4 => by
    by_cases h : lo < hi
    · cases hp : P ((lo + hi) / 2)
      · rw [gapF_part h hp]
        obtain ⟨k1, k2, k3, k4⟩ := gapF_least hm n ((lo + hi) / 2 + 1) hi (by omega) (by omega) (by omega) (fun t t0 t1 => by
          cases hq : P t
          · rfl
          · rw [hm t _ t0 (show t ≤ (lo + hi) / 2 by omega) hq] at hp
            cases hp) h4
        exact ⟨by omega, k2, k3, k4⟩
      · rw [gapF_meet h hp]
        obtain ⟨k1, k2, k3, k4⟩ := gapF_least hm n lo ((lo + hi) / 2) h0 (by omega) (by omega) h3 hp
        exact ⟨k1, by omega, k3, k4⟩
    · rw [gapF_end h]
      have : lo = hi := by omega
      subst this
      exact ⟨Int.le_refl _, h1, h4, h3⟩
theorem near_all {a b : List HPt} (ha0 : a ≠ []) (hb0 : b ≠ []) (ha : ∀ p ∈ a, okPt p = true) (hb : ∀ p ∈ b, okPt p = true) : NearP 33554432 a b := by
  obtain ⟨p, hp⟩ := List.exists_mem_of_ne_nil a ha0
  obtain ⟨q, hq⟩ := List.exists_mem_of_ne_nil b hb0
  have h1 := ha p hp
  have h2 := hb q hq
  obtain ⟨p1, p2⟩ := p
  obtain ⟨q1, q2⟩ := q
  rw [okPt_iff] at h1 h2
  exact near_of hp hq (by simp only; omega) (by simp only; omega)
/-- two hulls -/
structure TwoH (a b : List HPt) : Prop where
  ca : cornersP a = a
  cb : cornersP b = b
  a0 : a ≠ []
  b0 : b ≠ []
  oa : ∀ p ∈ a, okPt p = true
  ob : ∀ p ∈ b, okPt p = true
theorem TwoH.symm {a b : List HPt} (h : TwoH a b) : TwoH b a := ⟨h.cb, h.ca, h.b0, h.a0, h.ob, h.oa⟩
theorem gap_spec {a b : List HPt} (h : TwoH a b) : 0 ≤ gapP a b ∧ gapP a b ≤ 33554432 ∧ NearP (gapP a b) a b ∧ ∀ t, 0 ≤ t → t < gapP a b → ¬ NearP t a b := by
  have hm : ∀ s t, 0 ≤ s → s ≤ t → (fun t => meetB (cornersP (growP t a)) b) s = true → (fun t => meetB (cornersP (growP t a)) b) t = true := by
    intro s t h0 h1 h2
    exact (grow_near (by omega) h.cb h.a0 h.b0).2 (near_mono h1 ((grow_near h0 h.cb h.a0 h.b0).1 h2))
  obtain ⟨k1, k2, k3, k4⟩ := gapF_least hm 33554432 0 33554432 (by omega) (by omega) (by omega) (fun t t0 t1 => by omega) ((grow_near (by omega) h.cb h.a0 h.b0).2 (near_all h.a0 h.b0 h.oa h.ob))
  refine ⟨k1, k2, (grow_near k1 h.cb h.a0 h.b0).1 k3, fun t t0 t1 hn => ?_⟩
  have := k4 t t0 t1
  have this2 : meetB (cornersP (growP t a)) b = false := this
  rw [(grow_near t0 h.cb h.a0 h.b0).2 hn] at this2
  cases this2
/-- a gap is at most a growth by which they meet -/
theorem gap_le {a b : List HPt} (h : TwoH a b) {t : Int} (ht : 0 ≤ t) (hn : NearP t a b) : gapP a b ≤ t := by
  obtain ⟨_, _, _, k⟩ := gap_spec h
  by_cases c : gapP a b ≤ t
  · exact c
  · exact absurd hn (k t ht (by omega))
theorem gap_iff {a b : List HPt} (h : TwoH a b) {t : Int} (ht : 0 ≤ t) : NearP t a b ↔ gapP a b ≤ t := ⟨gap_le h ht, fun k => near_mono k (gap_spec h).2.2.1⟩
theorem gap_symm {a b : List HPt} (h : TwoH a b) : gapP a b = gapP b a := by
  obtain ⟨k1, _, k3, _⟩ := gap_spec h
  obtain ⟨m1, _, m3, _⟩ := gap_spec h.symm
  have a1 := gap_le h m1 (near_symm m3)
  have a2 := gap_le h.symm k1 (near_symm k3)
  omega
theorem meet_symm {a b : List HPt} (h : TwoH a b) : meetB a b = meetB b a := by
  rw [Bool.eq_iff_iff, meet_near h.ca h.cb h.a0 h.b0, meet_near h.cb h.ca h.b0 h.a0]
  exact ⟨near_symm, near_symm⟩
theorem gap_zero {a b : List HPt} (h : TwoH a b) : meetB a b = decide (gapP a b = 0) := by
  rw [Bool.eq_iff_iff, meet_near h.ca h.cb h.a0 h.b0, decide_eq_true_eq, gap_iff h (Int.le_refl 0)]
  have := (gap_spec h).1
  omega
/-- no line parts two hulls that meet -/
theorem check_meet {a b : List HPt} (h : TwoH a b) (he : errHs [a, b] = 0) (hm : meetB a b = true) (x y k : Int) : ¬ checkE a b x y k = 0 := by
  unfold checkE
  rw [if_pos he]
  by_cases hl : lineB x y k = true
  · rw [if_pos hl]
    by_cases hp : partsB a b (x, y) k = true
    · exfalso
      unfold partsB at hp
      simp only [Bool.and_eq_true, List.all_eq_true, decide_eq_true_eq] at hp
      refine (meet_iff h.ca h.cb h.a0 h.b0).1 hm ⟨(x, y), fun p hp' q hq => ?_⟩
      have h1 := hp.1 p hp'
      have h2 := hp.2 q hq
      omega
    · rw [if_neg hp]; decide
  · rw [if_neg hl]; decide
/-- a point that both hulls contain -/
theorem both_meet {a b : List HPt} (h : TwoH a b) (q : HPt) (h1 : meetB a [q] = true) (h2 : meetB b [q] = true) : meetB a b = true := by
  rw [meet_iff h.ca h.cb h.a0 h.b0]
  rintro ⟨d, k⟩
  rw [meet_iff h.ca (corners_one q) h.a0 (by simp)] at h1
  rw [meet_iff h.cb (corners_one q) h.b0 (by simp)] at h2
  by_cases c : ∀ p ∈ a, dotP d p < dotP d q
  · exact h1 ⟨d, fun p hp y hy => by
      have : y = q := by simpa using hy
      rw [this]; exact c p hp⟩
  · apply h2
    refine ⟨neP d, fun p hp y hy => ?_⟩
    have : y = q := by simpa using hy
    rw [this, dot_neg, dot_neg]
    have c' : ∃ p ∈ a, ¬ dotP d p < dotP d q := by
      by_cases m : ∃ p ∈ a, ¬ dotP d p < dotP d q
      · exact m
      · exfalso
        apply c
        intro p hp
        by_cases m2 : dotP d p < dotP d q
        · exact m2
        · exact absurd ⟨p, hp, m2⟩ m
    obtain ⟨o, ho, hc⟩ := c'
    have := k o ho p hp
    omega
/-! ### a hull that is moved -/
def movP (v : HPt) (p : HPt) : HPt := (p.1 + v.1, p.2 + v.2)
theorem mov_lt {v a b : HPt} : ltP (movP v a) (movP v b) ↔ ltP a b := by unfold ltP movP; simp only; omega
theorem mov_inj {v a b : HPt} : movP v a = movP v b ↔ a = b := by
  obtain ⟨a1, a2⟩ := a
  obtain ⟨b1, b2⟩ := b
  unfold movP
  simp only [Prod.mk.injEq]
  omega
theorem mov_cross (v a b c : HPt) : crossP (movP v a) (movP v b) (movP v c) = crossP a b c := by unfold crossP movP; simp only; grind
theorem pop_mov (v : HPt) : ∀ (st : List HPt) (x : HPt), popP (st.map (movP v)) (movP v x) = (popP st x).map (movP v)
  | [], _ => rfl
  | [_], _ => rfl
  | b :: a :: r, x => by
    rw [List.map_cons, List.map_cons, popP, popP, mov_cross]
    split
    · exact pop_mov v (a :: r) x
    · rfl
theorem fold_mov (v : HPt) : ∀ (l st : List HPt), (l.map (movP v)).foldl pushP (st.map (movP v)) = (l.foldl pushP st).map (movP v)
  | [], _ => rfl
  | x :: l, st => by
    rw [List.map_cons, List.foldl_cons, List.foldl_cons, ← fold_mov v l (pushP st x)]
    unfold pushP
    rw [pop_mov, List.map_cons]
theorem side_mov (v : HPt) (l : List HPt) : sideP (l.map (movP v)) = (sideP l).map (movP v) := by
  unfold sideP
  have := fold_mov v l []
  rw [List.map_nil] at this
  rw [this, List.map_reverse]
theorem sort_mov (v : HPt) (l : List HPt) : sortP (l.map (movP v)) = (sortP l).map (movP v) := by
  refine srt_unique (sort_srt _) ?_ (fun y => ?_)
  · have := sort_srt l
    unfold Srt at *
    rw [List.pairwise_map]
    exact this.imp (fun h => mov_lt.2 h)
  · rw [sort_mem]
    constructor
    · intro h
      obtain ⟨x, hx, rfl⟩ := List.mem_map.1 h
      exact List.mem_map.2 ⟨x, (sort_mem l x).2 hx, rfl⟩
    · intro h
      obtain ⟨x, hx, rfl⟩ := List.mem_map.1 h
      exact List.mem_map.2 ⟨x, (sort_mem l x).1 hx, rfl⟩
theorem corners_mov (v : HPt) (l : List HPt) : cornersP (l.map (movP v)) = (cornersP l).map (movP v) := by
  unfold cornersP
  rw [sort_mov, List.length_map]
  split
  · rfl
  · rw [← List.map_reverse, side_mov, side_mov, List.map_append, List.map_dropLast, List.map_dropLast]
theorem near_mov {s t : Int} {v : HPt} {a b : List HPt} (h1 : -t ≤ v.1 ∧ v.1 ≤ t) (h2 : -t ≤ v.2 ∧ v.2 ≤ t) (k : NearP s a b) : NearP (s + t) a (b.map (movP v)) := by
  intro d
  obtain ⟨p, hp, q, hq, k⟩ := k d
  refine ⟨p, hp, movP v q, List.mem_map.2 ⟨q, hq, rfl⟩, ?_⟩
  have e : dotP d (movP v q) = dotP d q + dotP d v := by unfold dotP movP; simp only; grind
  have := dot_mag (d := d) h1 h2
  rw [e, Int.add_mul]
  omega
theorem near_mov_back {s t : Int} {v : HPt} {a b : List HPt} (h1 : -t ≤ v.1 ∧ v.1 ≤ t) (h2 : -t ≤ v.2 ∧ v.2 ≤ t) (k : NearP s a (b.map (movP v))) : NearP (s + t) a b := by
  intro d
  obtain ⟨p, hp, q', hq', k⟩ := k d
  obtain ⟨q, hq, rfl⟩ := List.mem_map.1 hq'
  refine ⟨p, hp, q, hq, ?_⟩
  have e : dotP d (movP v q) = dotP d q + dotP d v := by unfold dotP movP; simp only; grind
  have := dot_mag (d := d) (v := neP v) (t := t) (by unfold neP; simp only; omega) (by unfold neP; simp only; omega)
  rw [dot_neg_r] at this
  rw [Int.add_mul]
  omega
/-- moved by at most t, the gap changes by at most t -/
theorem gap_mov {t : Int} {v : HPt} {a b : List HPt} (h : TwoH a b) (h' : TwoH a (b.map (movP v))) (h1 : -t ≤ v.1 ∧ v.1 ≤ t) (h2 : -t ≤ v.2 ∧ v.2 ≤ t) : gapP a (b.map (movP v)) ≤ gapP a b + t ∧ gapP a b ≤ gapP a (b.map (movP v)) + t := by
  obtain ⟨k1, _, k3, _⟩ := gap_spec h
  obtain ⟨m1, _, m3, _⟩ := gap_spec h'
  exact ⟨gap_le h' (by omega) (near_mov h1 h2 k3), gap_le h (by omega) (near_mov_back h1 h2 m3)⟩
end Go.Proofs.Ytlndcpjaeoppmaa
