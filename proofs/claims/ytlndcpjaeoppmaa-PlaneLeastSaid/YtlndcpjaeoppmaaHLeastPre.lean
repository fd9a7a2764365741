
/- HLeastPre: several texts in one. -/
import Derived.Test.YtlndcpjaeoppmaaHGeoAll
import Derived.Test.YtlndcpjaeoppmaaHRGap
import Derived.Test.YtlndcpjaeoppmaaHTopsB
import Derived.Test.YtlndcpjaeoppmaaHWorks
import Derived.Test.YtlndcpjaeoppmaaFew
/- The gap of two hulls, plainly: it is the least growth by which they meet; it is the same for both orders, 0 just if they meet, and a hull that is moved changes it by at most the way. -/
namespace Go.Proofs.Ytlndcpjaeoppmaa
open Go.RowKit

def magD (d : HPt) : Int := d.1.natAbs + d.2.natAbs
theorem mag_pos (d : HPt) : 0 ≤ magD d := by unfold magD; omega
/-- no direction parts two lists by more than t -/
def NearP (t : Int) (a b : List HPt) : Prop := ∀ d, ∃ p ∈ a, ∃ q ∈ b, dotP d q ≤ dotP d p + t * magD d
theorem near_mono {s t : Int} {a b : List HPt} (h : s ≤ t) (k : NearP s a b) : NearP t a b := by
  intro d
  obtain ⟨p, hp, q, hq, k⟩ := k d
  have := Int.mul_le_mul_of_nonneg_right h (mag_pos d)
  exact ⟨p, hp, q, hq, by omega⟩
theorem near_symm {t : Int} {a b : List HPt} (k : NearP t a b) : NearP t b a := by
  intro d
  obtain ⟨p, hp, q, hq, k⟩ := k (neP d)
  rw [dot_neg, dot_neg] at k
  have : magD (neP d) = magD d := by unfold magD neP; simp only; omega
  rw [this] at k
  exact ⟨q, hq, p, hp, by omega⟩
theorem mul_mag {x y t : Int} (h : -t ≤ y ∧ y ≤ t) : x * y ≤ t * x.natAbs := by
  rcases Int.le_total 0 x with hx | hx
  · have e : (x.natAbs : Int) = x := by omega
    rw [e, Int.mul_comm t x]
    exact Int.mul_le_mul_of_nonneg_left h.2 hx
  · have e : (x.natAbs : Int) = -x := by omega
    have k := Int.mul_le_mul_of_nonneg_left (show -y ≤ t by omega) (show 0 ≤ -x by omega)
    rw [Int.neg_mul_neg] at k
    rw [e, Int.mul_comm t (-x)]
    exact k
theorem dot_mag {d v : HPt} {t : Int} (h1 : -t ≤ v.1 ∧ v.1 ≤ t) (h2 : -t ≤ v.2 ∧ v.2 ≤ t) : dotP d v ≤ t * magD d := by
  have a := mul_mag (x := d.1) h1
  have b := mul_mag (x := d.2) h2
  unfold dotP magD
  rw [Int.mul_add]
  omega
theorem near_of {t : Int} {a b : List HPt} {p q : HPt} (hp : p ∈ a) (hq : q ∈ b) (h1 : -t ≤ q.1 - p.1 ∧ q.1 - p.1 ≤ t) (h2 : -t ≤ q.2 - p.2 ∧ q.2 - p.2 ≤ t) : NearP t a b := by
  intro d
  refine ⟨p, hp, q, hq, ?_⟩
  have := dot_mag (d := d) (v := dif q p) (t := t) h1 h2
  rw [dot_dif] at this
  omega
theorem meet_near {a b : List HPt} (ha : cornersP a = a) (hb : cornersP b = b) (ha0 : a ≠ []) (hb0 : b ≠ []) : meetB a b = true ↔ NearP 0 a b := by
  rw [meet_iff ha hb ha0 hb0]
  constructor
  · intro h d
    by_cases k : ∃ p ∈ a, ∃ q ∈ b, dotP d q ≤ dotP d p + 0 * magD d
    · exact k
    · exfalso
      apply h
      refine ⟨d, fun p hp q hq => ?_⟩
      by_cases m : dotP d p < dotP d q
      · exact m
      · exact absurd ⟨p, hp, q, hq, by omega⟩ k
  · rintro h ⟨d, k⟩
    obtain ⟨p, hp, q, hq, m⟩ := h d
    have := k p hp q hq
    omega
theorem grow_top (d p : HPt) (t : Int) : ∃ r ∈ rgP t p, dotP d r = dotP d p + t * magD d := by
  obtain ⟨d1, d2⟩ := d
  obtain ⟨p1, p2⟩ := p
  unfold rgP dotP magD
  simp only [List.mem_cons, List.not_mem_nil, or_false]
  rcases Int.le_total 0 d1 with h1 | h1 <;> rcases Int.le_total 0 d2 with h2 | h2
  · refine ⟨(p1 + t, p2 + t), by simp, ?_⟩
    rw [show (d1.natAbs : Int) = d1 by omega, show (d2.natAbs : Int) = d2 by omega]; grind
  · refine ⟨(p1 + t, p2 - t), by simp, ?_⟩
    rw [show (d1.natAbs : Int) = d1 by omega, show (d2.natAbs : Int) = -d2 by omega]; grind
  · refine ⟨(p1 - t, p2 + t), by simp, ?_⟩
    rw [show (d1.natAbs : Int) = -d1 by omega, show (d2.natAbs : Int) = d2 by omega]; grind
  · refine ⟨(p1 - t, p2 - t), by simp, ?_⟩
    rw [show (d1.natAbs : Int) = -d1 by omega, show (d2.natAbs : Int) = -d2 by omega]; grind
theorem grow_le {d p r : HPt} {t : Int} (ht : 0 ≤ t) (h : r ∈ rgP t p) : dotP d r ≤ dotP d p + t * magD d := by
  have hv : (-t ≤ (dif r p).1 ∧ (dif r p).1 ≤ t) ∧ (-t ≤ (dif r p).2 ∧ (dif r p).2 ≤ t) := by
    unfold dif
    simp only [rgP, List.mem_cons, List.not_mem_nil, or_false] at h
    rcases h with rfl | rfl | rfl | rfl <;> simp only <;> omega
  have := dot_mag (d := d) hv.1 hv.2
  rw [dot_dif] at this
  omega
theorem grow_ne {a : List HPt} (t : Int) (ha0 : a ≠ []) : growP t a ≠ [] := by
  intro e
  have h := grow_len t a
  rw [e] at h
  have := List.length_pos_iff.2 ha0
  simp only [List.length_nil] at h
  omega
theorem corners_ne {a : List HPt} (ha0 : a ≠ []) : cornersP a ≠ [] := List.ne_nil_of_length_pos (corners_pos (List.length_pos_iff.2 ha0))
/-- a hull that is grown by t meets another one just if no direction parts them by more than t -/
theorem grow_near {t : Int} {a b : List HPt} (ht : 0 ≤ t) (hb : cornersP b = b) (ha0 : a ≠ []) (hb0 : b ≠ []) : meetB (cornersP (growP t a)) b = true ↔ NearP t a b := by
  rw [meet_near (corners_idem _) hb (corners_ne (grow_ne t ha0)) hb0]
  constructor
  · intro h d
    obtain ⟨p, hp, q, hq, k⟩ := h d
    obtain ⟨o, ho, hr⟩ := List.mem_flatMap.1 (corners_sub hp)
    have := grow_le (d := d) ht hr
    exact ⟨o, ho, q, hq, by omega⟩
  · intro h d
    obtain ⟨p, hp, q, hq, k⟩ := h d
    obtain ⟨r, hr, e⟩ := grow_top d p t
    obtain ⟨s, hs, m⟩ := support (grow_ne t ha0) d
    have := m r (List.mem_flatMap.2 ⟨p, hp, hr⟩)
    exact ⟨s, hs, q, hq, by omega⟩
/-- halving finds the least -/
theorem gapF_least {P : Int → Bool} (hm : ∀ s t, 0 ≤ s → s ≤ t → P s = true → P t = true) : ∀ (n : Nat) (lo hi : Int), 0 ≤ lo → lo ≤ hi → hi - lo ≤ n → (∀ t, 0 ≤ t → t < lo → P t = false) → P hi = true →
    lo ≤ gapF P n lo hi ∧ gapF P n lo hi ≤ hi ∧ P (gapF P n lo hi) = true ∧ ∀ t, 0 ≤ t → t < gapF P n lo hi → P t = false
  | 0, lo, hi, h0, h1, h2, h3, h4 => by
    have : lo = hi := by omega
    subst this
    exact ⟨Int.le_refl _, h1, h4, h3⟩
  | n + 1, lo, hi, h0, h1, h2, h3, h4 => by
    by_cases h : lo < hi
    · cases hp : P ((lo + hi) / 2)
      · rw [gapF_part h hp]
        obtain ⟨k1, k2, k3, k4⟩ := gapF_least hm n ((lo + hi) / 2 + 1) hi (by omega) (by omega) (by omega) (fun t t0 t1 => by
          cases hq : P t
          · rfl
          · rw [hm t _ t0 (show t ≤ (lo + hi) / 2 by omega) hq] at hp
            cases hp) h4
        exact ⟨by omega, k2, k3, k4⟩
      · rw [gapF_meet h hp]
        obtain ⟨k1, k2, k3, k4⟩ := gapF_least hm n lo ((lo + hi) / 2) h0 (by omega) (by omega) h3 hp
        exact ⟨k1, by omega, k3, k4⟩
    · rw [gapF_end h]
      have : lo = hi := by omega
      subst this
      exact ⟨Int.le_refl _, h1, h4, h3⟩
theorem near_all {a b : List HPt} (ha0 : a ≠ []) (hb0 : b ≠ []) (ha : ∀ p ∈ a, okPt p = true) (hb : ∀ p ∈ b, okPt p = true) : NearP 33554432 a b := by
  obtain ⟨p, hp⟩ := List.exists_mem_of_ne_nil a ha0
  obtain ⟨q, hq⟩ := List.exists_mem_of_ne_nil b hb0
  have h1 := ha p hp
  have h2 := hb q hq
  obtain ⟨p1, p2⟩ := p
  obtain ⟨q1, q2⟩ := q
  rw [okPt_iff] at h1 h2
  exact near_of hp hq (by simp only; omega) (by simp only; omega)
/-- two hulls -/
structure TwoH (a b : List HPt) : Prop where
  ca : cornersP a = a
  cb : cornersP b = b
  a0 : a ≠ []
  b0 : b ≠ []
  oa : ∀ p ∈ a, okPt p = true
  ob : ∀ p ∈ b, okPt p = true
theorem TwoH.symm {a b : List HPt} (h : TwoH a b) : TwoH b a := ⟨h.cb, h.ca, h.b0, h.a0, h.ob, h.oa⟩
theorem gap_spec {a b : List HPt} (h : TwoH a b) : 0 ≤ gapP a b ∧ gapP a b ≤ 33554432 ∧ NearP (gapP a b) a b ∧ ∀ t, 0 ≤ t → t < gapP a b → ¬ NearP t a b := by
  have hm : ∀ s t, 0 ≤ s → s ≤ t → (fun t => meetB (cornersP (growP t a)) b) s = true → (fun t => meetB (cornersP (growP t a)) b) t = true := by
    intro s t h0 h1 h2
    exact (grow_near (by omega) h.cb h.a0 h.b0).2 (near_mono h1 ((grow_near h0 h.cb h.a0 h.b0).1 h2))
  obtain ⟨k1, k2, k3, k4⟩ := gapF_least hm 33554432 0 33554432 (by omega) (by omega) (by omega) (fun t t0 t1 => by omega) ((grow_near (by omega) h.cb h.a0 h.b0).2 (near_all h.a0 h.b0 h.oa h.ob))
  refine ⟨k1, k2, (grow_near k1 h.cb h.a0 h.b0).1 k3, fun t t0 t1 hn => ?_⟩
  have := k4 t t0 t1
  have this2 : meetB (cornersP (growP t a)) b = false := this
  rw [(grow_near t0 h.cb h.a0 h.b0).2 hn] at this2
  cases this2
/-- a gap is at most a growth by which they meet -/
theorem gap_le {a b : List HPt} (h : TwoH a b) {t : Int} (ht : 0 ≤ t) (hn : NearP t a b) : gapP a b ≤ t := by
  obtain ⟨_, _, _, k⟩ := gap_spec h
  by_cases c : gapP a b ≤ t
  · exact c
  · exact absurd hn (k t ht (by omega))
theorem gap_iff {a b : List HPt} (h : TwoH a b) {t : Int} (ht : 0 ≤ t) : NearP t a b ↔ gapP a b ≤ t := ⟨gap_le h ht, fun k => near_mono k (gap_spec h).2.2.1⟩
theorem gap_symm {a b : List HPt} (h : TwoH a b) : gapP a b = gapP b a := by
  obtain ⟨k1, _, k3, _⟩ := gap_spec h
  obtain ⟨m1, _, m3, _⟩ := gap_spec h.symm
  have a1 := gap_le h m1 (near_symm m3)
  have a2 := gap_le h.symm k1 (near_symm k3)
  omega
theorem meet_symm {a b : List HPt} (h : TwoH a b) : meetB a b = meetB b a := by
  rw [Bool.eq_iff_iff, meet_near h.ca h.cb h.a0 h.b0, meet_near h.cb h.ca h.b0 h.a0]
  exact ⟨near_symm, near_symm⟩
theorem gap_zero {a b : List HPt} (h : TwoH a b) : meetB a b = decide (gapP a b = 0) := by
  rw [Bool.eq_iff_iff, meet_near h.ca h.cb h.a0 h.b0, decide_eq_true_eq, gap_iff h (Int.le_refl 0)]
  have := (gap_spec h).1
  omega
/-- no line parts two hulls that meet -/
theorem check_meet {a b : List HPt} (h : TwoH a b) (he : errHs [a, b] = 0) (hm : meetB a b = true) (x y k : Int) : ¬ checkE a b x y k = 0 := by
  unfold checkE
  rw [if_pos he]
  by_cases hl : lineB x y k = true
  · rw [if_pos hl]
    by_cases hp : partsB a b (x, y) k = true
    · exfalso
      unfold partsB at hp
      simp only [Bool.and_eq_true, List.all_eq_true, decide_eq_true_eq] at hp
      refine (meet_iff h.ca h.cb h.a0 h.b0).1 hm ⟨(x, y), fun p hp' q hq => ?_⟩
      have h1 := hp.1 p hp'
      have h2 := hp.2 q hq
      omega
    · rw [if_neg hp]; decide
  · rw [if_neg hl]; decide
/-- a point that both hulls contain -/
theorem both_meet {a b : List HPt} (h : TwoH a b) (q : HPt) (h1 : meetB a [q] = true) (h2 : meetB b [q] = true) : meetB a b = true := by
  rw [meet_iff h.ca h.cb h.a0 h.b0]
  rintro ⟨d, k⟩
  rw [meet_iff h.ca (corners_one q) h.a0 (by simp)] at h1
  rw [meet_iff h.cb (corners_one q) h.b0 (by simp)] at h2
  by_cases c : ∀ p ∈ a, dotP d p < dotP d q
  · exact h1 ⟨d, fun p hp y hy => by
      have : y = q := by simpa using hy
      rw [this]; exact c p hp⟩
  · apply h2
    refine ⟨neP d, fun p hp y hy => ?_⟩
    have : y = q := by simpa using hy
    rw [this, dot_neg, dot_neg]
    have c' : ∃ p ∈ a, ¬ dotP d p < dotP d q := by
      by_cases m : ∃ p ∈ a, ¬ dotP d p < dotP d q
      · exact m
      · exfalso
        apply c
        intro p hp
        by_cases m2 : dotP d p < dotP d q
        · exact m2
        · exact absurd ⟨p, hp, m2⟩ m
    obtain ⟨o, ho, hc⟩ := c'
    have := k o ho p hp
    omega
/-! ### a hull that is moved -/
def movP (v : HPt) (p : HPt) : HPt := (p.1 + v.1, p.2 + v.2)
theorem mov_lt {v a b : HPt} : ltP (movP v a) (movP v b) ↔ ltP a b := by unfold ltP movP; simp only; omega
theorem mov_inj {v a b : HPt} : movP v a = movP v b ↔ a = b := by
  obtain ⟨a1, a2⟩ := a
  obtain ⟨b1, b2⟩ := b
  unfold movP
  simp only [Prod.mk.injEq]
  omega
theorem mov_cross (v a b c : HPt) : crossP (movP v a) (movP v b) (movP v c) = crossP a b c := by unfold crossP movP; simp only; grind
theorem pop_mov (v : HPt) : ∀ (st : List HPt) (x : HPt), popP (st.map (movP v)) (movP v x) = (popP st x).map (movP v)
  | [], _ => rfl
  | [_], _ => rfl
  | b :: a :: r, x => by
    rw [List.map_cons, List.map_cons, popP, popP, mov_cross]
    split
    · exact pop_mov v (a :: r) x
    · rfl
theorem fold_mov (v : HPt) : ∀ (l st : List HPt), (l.map (movP v)).foldl pushP (st.map (movP v)) = (l.foldl pushP st).map (movP v)
  | [], _ => rfl
  | x :: l, st => by
    rw [List.map_cons, List.foldl_cons, List.foldl_cons, ← fold_mov v l (pushP st x)]
    unfold pushP
    rw [pop_mov, List.map_cons]
theorem side_mov (v : HPt) (l : List HPt) : sideP (l.map (movP v)) = (sideP l).map (movP v) := by
  unfold sideP
  have := fold_mov v l []
  rw [List.map_nil] at this
  rw [this, List.map_reverse]
theorem sort_mov (v : HPt) (l : List HPt) : sortP (l.map (movP v)) = (sortP l).map (movP v) := by
  refine srt_unique (sort_srt _) ?_ (fun y => ?_)
  · have := sort_srt l
    unfold Srt at *
    rw [List.pairwise_map]
    exact this.imp (fun h => mov_lt.2 h)
  · rw [sort_mem]
    constructor
    · intro h
      obtain ⟨x, hx, rfl⟩ := List.mem_map.1 h
      exact List.mem_map.2 ⟨x, (sort_mem l x).2 hx, rfl⟩
    · intro h
      obtain ⟨x, hx, rfl⟩ := List.mem_map.1 h
      exact List.mem_map.2 ⟨x, (sort_mem l x).1 hx, rfl⟩
theorem corners_mov (v : HPt) (l : List HPt) : cornersP (l.map (movP v)) = (cornersP l).map (movP v) := by
  unfold cornersP
  rw [sort_mov, List.length_map]
  split
  · rfl
  · rw [← List.map_reverse, side_mov, side_mov, List.map_append, List.map_dropLast, List.map_dropLast]
theorem near_mov {s t : Int} {v : HPt} {a b : List HPt} (h1 : -t ≤ v.1 ∧ v.1 ≤ t) (h2 : -t ≤ v.2 ∧ v.2 ≤ t) (k : NearP s a b) : NearP (s + t) a (b.map (movP v)) := by
  intro d
  obtain ⟨p, hp, q, hq, k⟩ := k d
  refine ⟨p, hp, movP v q, List.mem_map.2 ⟨q, hq, rfl⟩, ?_⟩
  have e : dotP d (movP v q) = dotP d q + dotP d v := by unfold dotP movP; simp only; grind
  have := dot_mag (d := d) h1 h2
  rw [e, Int.add_mul]
  omega
theorem near_mov_back {s t : Int} {v : HPt} {a b : List HPt} (h1 : -t ≤ v.1 ∧ v.1 ≤ t) (h2 : -t ≤ v.2 ∧ v.2 ≤ t) (k : NearP s a (b.map (movP v))) : NearP (s + t) a b := by
  intro d
  obtain ⟨p, hp, q', hq', k⟩ := k d
  obtain ⟨q, hq, rfl⟩ := List.mem_map.1 hq'
  refine ⟨p, hp, q, hq, ?_⟩
  have e : dotP d (movP v q) = dotP d q + dotP d v := by unfold dotP movP; simp only; grind
  have := dot_mag (d := d) (v := neP v) (t := t) (by unfold neP; simp only; omega) (by unfold neP; simp only; omega)
  rw [dot_neg_r] at this
  rw [Int.add_mul]
  omega
/-- moved by at most t, the gap changes by at most t -/
theorem gap_mov {t : Int} {v : HPt} {a b : List HPt} (h : TwoH a b) (h' : TwoH a (b.map (movP v))) (h1 : -t ≤ v.1 ∧ v.1 ≤ t) (h2 : -t ≤ v.2 ∧ v.2 ≤ t) : gapP a (b.map (movP v)) ≤ gapP a b + t ∧ gapP a b ≤ gapP a (b.map (movP v)) + t := by
  obtain ⟨k1, _, k3, _⟩ := gap_spec h
  obtain ⟨m1, _, m3, _⟩ := gap_spec h'
  exact ⟨gap_le h' (by omega) (near_mov h1 h2 k3), gap_le h (by omega) (near_mov_back h1 h2 m3)⟩
end Go.Proofs.Ytlndcpjaeoppmaa
/- The corners of a hull: each one is there once and is the farthest point in some direction; it turns to the left at each of them; without one of them the hull does not contain it. -/
namespace Go.Proofs.Ytlndcpjaeoppmaa
open Go.RowKit

theorem adj_split : ∀ (X : List HPt) {Y : List HPt} {m a b : HPt}, Adj a b (X ++ m :: Y) → Adj a b (X ++ [m]) ∨ Adj a b (m :: Y)
  | [], _, _, _, _, h => .inr h
  | x :: X, Y, m, a, b, h => by
    rcases adj_cons.1 h with ⟨e, s, e2⟩ | h
    · left
      change X ++ m :: Y = b :: s at e2
      refine adj_cons.2 (.inl ⟨e, ?_⟩)
      rcases X with _ | ⟨y, X⟩
      · simp only [List.nil_append, List.cons.injEq] at e2
        exact ⟨[], by rw [← e2.1]; rfl⟩
      · simp only [List.cons_append, List.cons.injEq] at e2
        exact ⟨X ++ [m], by rw [← e2.1]; rfl⟩
    · rcases adj_split X h with k | k
      · exact .inl (adj_cons.2 (.inr k))
      · exact .inr k
theorem cyc_adj {m : HPt} {T : List HPt} {i : Nat} (hi : i < (m :: T).length) : Adj ((m :: T).getD i (0, 0)) ((m :: T).getD ((i + 1) % (m :: T).length) (0, 0)) ((m :: T) ++ [m]) := by
  have hl : ((m :: T) ++ [m]).length = (m :: T).length + 1 := by simp
  have h1 : i < ((m :: T) ++ [m]).length := by omega
  have h2 : i + 1 < ((m :: T) ++ [m]).length := by omega
  refine ⟨((m :: T) ++ [m]).take i, ((m :: T) ++ [m]).drop (i + 2), ?_⟩
  have e1 : ((m :: T) ++ [m])[i] = (m :: T).getD i (0, 0) := by rw [getD_lt hi, List.getElem_append_left hi]
  have e2 : ((m :: T) ++ [m])[i + 1] = (m :: T).getD ((i + 1) % (m :: T).length) (0, 0) := by
    by_cases k : i + 1 < (m :: T).length
    · rw [Nat.mod_eq_of_lt k, getD_lt k, List.getElem_append_left k]
    · have e : i + 1 = (m :: T).length := by omega
      have : (i + 1) % (m :: T).length = 0 := by rw [e, Nat.mod_self]
      rw [this, List.getElem_append_right (by omega)]
      simp
  have e3 : ((m :: T) ++ [m]).drop i = ((m :: T) ++ [m])[i] :: ((m :: T) ++ [m])[i + 1] :: ((m :: T) ++ [m]).drop (i + 2) := by
    rw [List.drop_eq_getElem_cons h1, List.drop_eq_getElem_cons h2]
  rw [← e1, ← e2, ← e3, List.take_append_drop]
theorem desc_nodup : ∀ {st : List HPt}, Desc st → st.Nodup
  | [], _ => List.nodup_nil
  | t :: _, h => List.nodup_cons.2 ⟨fun k => ltP_irrefl t (h.lt t k), desc_nodup h.tail⟩
theorem nodup_rev {l : List HPt} (h : l.reverse.Nodup) : l.Nodup := by
  unfold List.Nodup at *
  rw [List.pairwise_reverse] at h
  exact h.imp (fun k => Ne.symm k)
section
variable {l : List HPt} {mn mx : HPt} {A B : List HPt}
theorem HullOf.nodup_lo (h : HullOf l mn mx A B) : (mn :: (A ++ [mx])).Nodup := nodup_rev (desc_nodup h.clo.desc)
theorem HullOf.nodup_up (h : HullOf l mn mx A B) : (mx :: (B ++ [mn])).Nodup := by
  have := nodup_rev (desc_nodup h.cup.desc)
  unfold List.Nodup at *
  rw [List.pairwise_map] at this
  exact this.imp (fun k e => k (congrArg neP e))
theorem HullOf.lo_mem (h : HullOf l mn mx A B) {q : HPt} (hq : q ∈ mn :: (A ++ [mx])) : q ∈ l := h.sub q (h.onto (.inl hq))
theorem HullOf.up_mem (h : HullOf l mn mx A B) {q : HPt} (hq : q ∈ mx :: (B ++ [mn])) : q ∈ l := h.sub q (h.onto (.inr hq))
theorem HullOf.conv_lo {X Y : List HPt} {r p n : HPt} (h : HullOf l mn mx A B) (e : mn :: (A ++ [mx]) = X ++ r :: p :: n :: Y) : 0 < crossP r p n := by
  have hc := h.clo.conv
  rw [e] at hc
  exact conv_mid hc
theorem HullOf.conv_up {X Y : List HPt} {r p n : HPt} (h : HullOf l mn mx A B) (e : mx :: (B ++ [mn]) = X ++ r :: p :: n :: Y) : 0 < crossP r p n := by
  have hc := h.cup.conv
  rw [e] at hc
  have e4 : (X ++ r :: p :: n :: Y).map neP = X.map neP ++ neP r :: neP p :: neP n :: Y.map neP := by simp
  rw [e4] at hc
  have hD := conv_mid hc
  rwa [cross_ne] at hD
theorem mid_lo {A : List HPt} {mn mx p : HPt} (hp : p ∈ A) : ∃ X r n Y, mn :: (A ++ [mx]) = X ++ r :: p :: n :: Y := by
  obtain ⟨A1, A2, e⟩ := List.append_of_mem hp
  obtain ⟨X, r, n, Y, e2⟩ := mid_list (P := mn :: A1) (Q := A2 ++ [mx]) (p := p) (by simp) (by simp)
  exact ⟨X, r, n, Y, by rw [← e2, e]; simp⟩
theorem adj_12 {X Y : List HPt} {r p n : HPt} : Adj r p (X ++ r :: p :: n :: Y) := ⟨X, n :: Y, rfl⟩
theorem adj_23 {X Y : List HPt} {r p n : HPt} : Adj p n (X ++ r :: p :: n :: Y) := ⟨X ++ [r], Y, by simp⟩
theorem HullOf.nodup (h : HullOf l mn mx A B) : (cornersP l).Nodup := by
  have n1 := h.nodup_lo
  have n2 := h.nodup_up
  have n1' := n1
  have n2' := n2
  rw [← List.cons_append, List.nodup_append] at n1 n2
  rw [h.hull, List.nodup_append]
  refine ⟨n1.1, n2.1, ?_⟩
  intro p hp q hq e
  subst e
  rcases List.mem_cons.1 hp with rfl | hp
  · exact n2.2.2 _ hq _ (by simp) rfl
  · rcases List.mem_cons.1 hq with rfl | hq
    · exact n1.2.2 _ (List.mem_cons_of_mem _ hp) _ (by simp) rfl
    · obtain ⟨X, r, n, Y, e⟩ := mid_lo (mn := mn) (mx := mx) hp
      obtain ⟨X', n', r', Y', e'⟩ := mid_lo (mn := mx) (mx := mn) hq
      have hD := h.conv_lo e
      have hD' := h.conv_up e'
      have a1 : Adj r p (mn :: (A ++ [mx])) := by rw [e]; exact adj_12
      have a2 : Adj p n (mn :: (A ++ [mx])) := by rw [e]; exact adj_23
      have b1 : Adj n' p (mx :: (B ++ [mn])) := by rw [e']; exact adj_12
      have b2 : Adj p r' (mx :: (B ++ [mn])) := by rw [e']; exact adj_23
      have l1 := h.adj_lo a1
      have l2 := h.adj_lo a2
      have l3 := h.adj_up b1
      have l4 := h.adj_up b2
      have c1 := (h.side (.inl a2)).2 n' (h.up_mem (adj_mem b1).1)
      have c2 := (h.side (.inl a1)).2 r' (h.up_mem (adj_mem b2).2)
      have k1 : 0 < crs (dif p r) (dif n p) := by rw [cross_uv] at hD; exact hD
      have k2 : 0 ≤ crs (dif n p) (dif n' p) := c1
      have k3 : 0 < crs (dif n' p) (dif p r') := by
        have : crs (dif n' p) (dif p r') = crossP n' p r' := by unfold crossP crs dif; simp only; grind
        rw [this]; exact hD'
      have k4 : crs (dif p r) (dif p r') ≤ 0 := by
        have : crs (dif p r) (dif p r') = - crossP r p r' := by unfold crossP crs dif; simp only; grind
        rw [this]; omega
      have m1 := crs_trans_l (pos_of_lt l1) (pos_of_lt l2) (pos_of_lt l3) k1 k2
      have m2 := crs_trans_l (pos_of_lt l1) (pos_of_lt l3) (pos_of_lt l4) m1 (Int.le_of_lt k3)
      omega
theorem far_mid {r p n : HPt} (hD : 0 < crossP r p n) (h1 : ∀ x ∈ l, 0 ≤ crossP r p x) (h2 : ∀ x ∈ l, 0 ≤ crossP p n x) : ∃ d, ∀ x ∈ l, ¬ x = p → dotP d x < dotP d p := by
  refine ⟨(n.2 - r.2, r.1 - n.1), fun x hx hne => ?_⟩
  have c1 := h1 x hx
  have c2 := h2 x hx
  have e : dotP (n.2 - r.2, r.1 - n.1) x = dotP (n.2 - r.2, r.1 - n.1) p - (crossP r p x + crossP p n x) := by unfold dotP crossP; simp only; grind
  by_cases hz : crossP r p x = 0 ∧ crossP p n x = 0
  · exfalso
    apply hne
    have e1 : crossP r p n * (x.1 - p.1) = crossP r p x * (n.1 - p.1) - crossP p n x * (p.1 - r.1) := by unfold crossP; grind
    have e2 : crossP r p n * (x.2 - p.2) = crossP r p x * (n.2 - p.2) - crossP p n x * (p.2 - r.2) := by unfold crossP; grind
    rw [hz.1, hz.2, Int.zero_mul, Int.zero_mul, Int.sub_zero] at e1 e2
    rcases Int.mul_eq_zero.1 e1 with k | k
    · omega
    · rcases Int.mul_eq_zero.1 e2 with m | m
      · omega
      · ext <;> omega
  · omega
/-- each corner is the farthest point in some direction -/
theorem HullOf.far {p : HPt} (h : HullOf l mn mx A B) (hp : p ∈ cornersP l) : ∃ d, ∀ x ∈ l, ¬ x = p → dotP d x < dotP d p := by
  rw [h.hull] at hp
  rcases List.mem_append.1 hp with hp | hp
  · rcases List.mem_cons.1 hp with rfl | hp
    · obtain ⟨d, k⟩ := lex_part_lt (h := l.filter (fun x => decide (¬ x = p))) (p := p) (by
        intro x hx
        obtain ⟨h1, h2⟩ := List.mem_filter.1 hx
        rcases h.least x h1 with e | e
        · exact absurd e (by simpa using h2)
        · exact e)
      exact ⟨d, fun x hx hne => k x (List.mem_filter.2 ⟨hx, by simpa using hne⟩)⟩
    · obtain ⟨X, r, n, Y, e⟩ := mid_lo (mn := mn) (mx := mx) hp
      exact far_mid (h.conv_lo e) (h.side (.inl (by rw [e]; exact adj_12))).2 (h.side (.inl (by rw [e]; exact adj_23))).2
  · rcases List.mem_cons.1 hp with rfl | hp
    · obtain ⟨d, k⟩ := lex_part_gt (h := l.filter (fun x => decide (¬ x = p))) (p := p) (by
        intro x hx
        obtain ⟨h1, h2⟩ := List.mem_filter.1 hx
        rcases h.most x h1 with e | e
        · exact absurd e (by simpa using h2)
        · exact e)
      exact ⟨d, fun x hx hne => k x (List.mem_filter.2 ⟨hx, by simpa using hne⟩)⟩
    · obtain ⟨X, r, n, Y, e⟩ := mid_lo (mn := mx) (mx := mn) hp
      exact far_mid (h.conv_up e) (h.side (.inr (by rw [e]; exact adj_12))).2 (h.side (.inr (by rw [e]; exact adj_23))).2
end
theorem no_mid {l : List HPt} {x m y : HPt} (H : ∃ d, ∀ x ∈ l, ¬ x = m → dotP d x < dotP d m) (hx : x ∈ l) (hy : y ∈ l) (h1 : ltP x m) (h2 : ltP m y) : ¬ crossP x m y = 0 := by
  intro h
  obtain ⟨d, k⟩ := H
  have k1 := k x hx (ne_of_lt h1)
  have k2 := k y hy (fun e => ne_of_lt h2 e.symm)
  have c : crs (dif m x) (dif y m) = 0 := by rw [← cross_uv]; exact h
  have := par_dot (e := neP d) (pos_of_lt h1) (pos_of_lt h2) c (by rw [dot_neg, dot_dif]; omega)
  rw [dot_neg, dot_dif] at this
  omega
theorem cross_zero {a b c : HPt} (h : crossP a b c = 0) : crossP b c a = 0 ∧ crossP c a b = 0 ∧ crossP b a c = 0 ∧ crossP a c b = 0 ∧ crossP c b a = 0 := by
  have e1 := cross_cyc a b c
  have e2 := cross_cyc b c a
  have e3 := cross_swap a b c
  have e4 := cross_cyc a c b
  have e5 := cross_cyc c b a
  refine ⟨by omega, by omega, by omega, by omega, by omega⟩
/-- what PlaneLeast says of a hull -/
structure LeastH (p h : List HPt) : Prop where
  ne : h ≠ []
  sub : ∀ x ∈ h, x ∈ p
  nodup : h.Nodup
  first : ∀ i, i < h.length → ¬ ltP (h.getD i (0, 0)) (h.getD 0 (0, 0))
  turn : ∀ i, i < h.length → 2 < h.length → 0 < crossP (h.getD i (0, 0)) (h.getD ((i + 1) % h.length) (0, 0)) (h.getD ((i + 2) % h.length) (0, 0))
  left : ∀ i, i < h.length → 1 < h.length → ∀ x ∈ p, 0 ≤ crossP (h.getD i (0, 0)) (h.getD ((i + 1) % h.length) (0, 0)) x
  one : h.length = 1 → ∀ x ∈ p, x = h.getD 0 (0, 0)
  far : ∀ q ∈ h, ∃ d, ∀ x ∈ p, ¬ x = q → dotP d x < dotP d q
theorem nodup_get {h : List HPt} (hn : h.Nodup) {i j : Nat} (hi : i < h.length) (hj : j < h.length) (e : h.getD i (0, 0) = h.getD j (0, 0)) : i = j := by
  rw [getD_lt hi, getD_lt hj] at e
  have k := List.pairwise_iff_getElem.1 hn
  rcases Nat.lt_trichotomy i j with h1 | h1 | h1
  · exact absurd e (k i j hi hj h1)
  · exact h1
  · exact absurd e.symm (k j i hj hi h1)
theorem least_of {p : List HPt} (h0 : p ≠ []) : LeastH p (cornersP p) := by
  by_cases h : (sortP p).length < 2
  · have e : cornersP p = sortP p := by unfold cornersP; rw [if_pos h]
    have hne := corners_pos (List.length_pos_iff.2 h0)
    rw [e] at hne ⊢
    obtain ⟨a, ha⟩ : ∃ a, sortP p = [a] := by
      rcases hs : sortP p with _ | ⟨a, _ | ⟨b, r⟩⟩
      · rw [hs] at hne; simp at hne
      · exact ⟨a, rfl⟩
      · rw [hs] at h; simp only [List.length_cons] at h; omega
    have hall : ∀ x ∈ p, x = a := by
      intro x hx
      have := (sort_mem p x).2 hx
      rw [ha] at this
      simpa using this
    have hap : a ∈ p := (sort_mem p a).1 (by rw [ha]; simp)
    rw [ha]
    refine ⟨by simp, ?_, by simp, ?_, ?_, ?_, ?_, ?_⟩
    · intro x hx
      have : x = a := by simpa using hx
      rw [this]; exact hap
    · intro i hi
      have : i = 0 := by simp at hi; omega
      subst this
      exact ltP_irrefl _
    · intro i _ h2; simp at h2
    · intro i _ h2; simp at h2
    · intro _ x hx; rw [hall x hx]; rfl
    · intro q hq
      have : q = a := by simpa using hq
      exact ⟨(0, 0), fun x hx hne => absurd ((hall x hx).trans this.symm) hne⟩
  · obtain ⟨mn, mx, A, B, H⟩ := hull_of (l := p) (by omega)
    have e : cornersP p = mn :: (A ++ mx :: B) := by rw [H.hull]; rfl
    have hnd := H.nodup
    have hsub := H.sub
    have hfar : ∀ q ∈ cornersP p, ∃ d, ∀ x ∈ p, ¬ x = q → dotP d x < dotP d q := fun q hq => H.far hq
    have hleft : ∀ i, i < (cornersP p).length → ∀ x ∈ p, 0 ≤ crossP ((cornersP p).getD i (0, 0)) ((cornersP p).getD ((i + 1) % (cornersP p).length) (0, 0)) x := by
      intro i hi
      rw [e] at hi ⊢
      have hadj := cyc_adj hi
      have e2 : mn :: (A ++ mx :: B) ++ [mn] = (mn :: A) ++ mx :: (B ++ [mn]) := by simp
      rw [e2] at hadj
      rcases adj_split _ hadj with k | k
      · exact (H.side (.inl (by simpa using k))).2
      · exact (H.side (.inr k)).2
    refine ⟨by rw [e]; simp, hsub, hnd, ?_, ?_, fun i hi _ => hleft i hi, ?_, hfar⟩
    · intro i hi hlt
      have hm := get_mem hi
      have e0 : (cornersP p).getD 0 (0, 0) = mn := by rw [e]; rfl
      rw [e0] at hlt
      rcases H.least _ (hsub _ hm) with k | k
      · rw [k] at hlt; exact ltP_irrefl _ hlt
      · exact ltP_irrefl _ (ltP_trans k hlt)
    · intro i hi h2
      have hn0 : 0 < (cornersP p).length := by omega
      have j1 := Nat.mod_lt (i + 1) hn0
      have j2 := Nat.mod_lt (i + 2) hn0
      have ma := get_mem hi
      have mb := get_mem j1
      have mc := get_mem j2
      have hge := hleft i hi _ (hsub _ mc)
      have d1 : ¬ i = (i + 1) % (cornersP p).length := by
        by_cases k : i + 1 < (cornersP p).length
        · rw [Nat.mod_eq_of_lt k]; omega
        · have : i + 1 = (cornersP p).length := by omega
          rw [this, Nat.mod_self]; omega
      have d2 : ¬ i = (i + 2) % (cornersP p).length := by
        by_cases k : i + 2 < (cornersP p).length
        · rw [Nat.mod_eq_of_lt k]; omega
        · rw [Nat.mod_eq_sub_mod (by omega), Nat.mod_eq_of_lt (by omega)]; omega
      have d3 : ¬ (i + 1) % (cornersP p).length = (i + 2) % (cornersP p).length := by
        by_cases k : i + 2 < (cornersP p).length
        · rw [Nat.mod_eq_of_lt k, Nat.mod_eq_of_lt (by omega)]; omega
        · by_cases k2 : i + 1 < (cornersP p).length
          · rw [Nat.mod_eq_of_lt k2, Nat.mod_eq_sub_mod (by omega), Nat.mod_eq_of_lt (by omega)]; omega
          · rw [Nat.mod_eq_sub_mod (show (cornersP p).length ≤ i + 1 by omega), Nat.mod_eq_sub_mod (show (cornersP p).length ≤ i + 2 by omega), Nat.mod_eq_of_lt (by omega), Nat.mod_eq_of_lt (by omega)]; omega
      have n1 := fun x => d1 (nodup_get hnd hi j1 x)
      have n2 := fun x => d2 (nodup_get hnd hi j2 x)
      have n3 := fun x => d3 (nodup_get hnd j1 j2 x)
      generalize (cornersP p).getD i (0, 0) = a at *
      generalize (cornersP p).getD ((i + 1) % (cornersP p).length) (0, 0) = b at *
      generalize (cornersP p).getD ((i + 2) % (cornersP p).length) (0, 0) = c at *
      rcases Int.lt_or_eq_of_le hge with k | k
      · exact k
      · exfalso
        obtain ⟨z1, z2, z3, z4, z5⟩ := cross_zero k.symm
        have z0 := k.symm
        have sa := hsub _ ma
        have sb := hsub _ mb
        have sc := hsub _ mc
        have tot : ∀ {x y : HPt}, ¬ x = y → ltP x y ∨ ltP y x := by
          intro x y hne
          by_cases q : ltP x y
          · exact .inl q
          · exact .inr (ltP_total q hne)
        rcases tot n1 with q1 | q1 <;> rcases tot n3 with q3 | q3 <;> rcases tot n2 with q2 | q2
        · exact no_mid (hfar b mb) sa sc q1 q3 z0
        · exact no_mid (hfar b mb) sa sc q1 q3 z0
        · exact no_mid (hfar c mc) sa sb q2 q3 z4
        · exact no_mid (hfar a ma) sc sb q2 q1 z2
        · exact no_mid (hfar a ma) sb sc q1 q2 z3
        · exact no_mid (hfar c mc) sb sa q3 q2 z1
        · exact no_mid (hfar b mb) sc sa q3 q1 z5
        · exact no_mid (hfar b mb) sc sa q3 q1 z5
    · intro h1 x hx
      exfalso
      rw [e] at h1
      simp only [List.length_cons, List.length_append] at h1
      omega
/-- a hull contains all its points -/
theorem hull_has {p : List HPt} (h0 : p ≠ []) {x : HPt} (hx : x ∈ p) : meetB (cornersP p) [x] = true := by
  rw [meet_iff (corners_idem p) (corners_one x) (List.ne_nil_of_length_pos (corners_pos (List.length_pos_iff.2 h0))) (by simp)]
  rintro ⟨d, k⟩
  obtain ⟨s, hs, ks⟩ := support h0 d
  have := k s hs x (by simp)
  have := ks x hx
  omega
/-- without a corner it does not contain it -/
theorem least_out {p : List HPt} (h0 : p ≠ []) {i : Nat} (hi : i < (cornersP p).length) (h1 : 1 < (cornersP p).length) : meetB (cornersP ((cornersP p).eraseIdx i)) [(cornersP p).getD i (0, 0)] = false := by
  have L := least_of h0
  obtain ⟨d, k⟩ := L.far _ (get_mem hi)
  have hne : (cornersP p).eraseIdx i ≠ [] := by
    apply List.ne_nil_of_length_pos
    rw [List.length_eraseIdx_of_lt hi]
    omega
  have hm := meet_iff (corners_idem ((cornersP p).eraseIdx i)) (corners_one ((cornersP p).getD i (0, 0))) (List.ne_nil_of_length_pos (corners_pos (List.length_pos_iff.2 hne))) (by simp)
  cases hb : meetB (cornersP ((cornersP p).eraseIdx i)) [(cornersP p).getD i (0, 0)]
  · rfl
  · exfalso
    refine hm.1 hb ⟨d, fun x hx q hq => ?_⟩
    have hq' : q = (cornersP p).getD i (0, 0) := by simpa using hq
    rw [hq']
    have hx' := corners_sub hx
    refine k x (L.sub x (List.mem_of_mem_eraseIdx hx')) ?_
    intro e
    obtain ⟨j, hj, hji, hj3⟩ := List.mem_eraseIdx_iff_getElem.1 hx'
    have := nodup_get L.nodup hj hi (by rw [getD_lt hj, hj3, e])
    omega
end Go.Proofs.Ytlndcpjaeoppmaa
/- What few points give: their hull is a hull; contracts of few and Hull for these laws. -/
namespace Go.Proofs.Ytlndcpjaeoppmaa
open Go.RowKit Go.Shelf

theorem few_ok {l : List HPt} (hw : ∀ q ∈ l, (Lit.int .i8 q.1).wf = true ∧ (Lit.int .i8 q.2).wf = true) (n : Nat) : ∀ p ∈ l.take n, (-128 ≤ p.1 ∧ p.1 ≤ 127) ∧ (-128 ≤ p.2 ∧ p.2 ≤ 127) := by
  intro p hp
  have h := hw p (List.mem_of_mem_take hp)
  exact ⟨bounds_i8 h.1, bounds_i8 h.2⟩
theorem ok_small {p : HPt} (h : (-128 ≤ p.1 ∧ p.1 ≤ 127) ∧ (-128 ≤ p.2 ∧ p.2 ≤ 127)) : okPt p = true := by
  obtain ⟨p1, p2⟩ := p
  simp only at h
  rw [okPt_iff]
  omega
theorem errPts_good {L : List HPt} (hok : ∀ p ∈ L, okPt p = true) (hn : L.length ≤ 256) : errPts L = 0 := by
  have : L.all okPt = true := List.all_eq_true.2 hok
  unfold errPts
  rw [if_neg (by omega), if_pos this]
theorem isHull_good {L : List HPt} (h0 : L ≠ []) (hok : ∀ p ∈ L, okPt p = true) (hn : L.length ≤ 100) : isHullB (cornersP L) = true := by
  have h1 := corners_len L
  unfold isHullB
  rw [decide_eq_true (corners_pos (List.length_pos_iff.2 h0)), decide_eq_true (errPts_good (fun p hp => hok p (corners_sub hp)) (by omega)), decide_eq_true (corners_idem L)]
  rfl
theorem hullS_good {L : List HPt} (h0 : L ≠ []) (hok : ∀ p ∈ L, okPt p = true) (hn : L.length ≤ 256) : hullS L = (cornersP L, 0) := hullS_ok (errPts_good hok hn) (by intro e; exact h0 (List.eq_nil_of_length_eq_zero e))
theorem errHs_good {a b : List HPt} (ha : isHullB a = true) (hb : isHullB b = true) : errHs [a, b] = 0 := by
  have h1 := (isHull_facts ha).2.1
  have h2 := (isHull_facts hb).2.1
  rw [errHs_two, if_neg (by omega), if_pos ⟨ha, hb⟩]
theorem twoH_good {a b : List HPt} (ha : isHullB a = true) (hb : isHullB b = true) : TwoH a b := by
  obtain ⟨a1, _, a3, _, a5⟩ := isHull_facts ha
  obtain ⟨b1, _, b3, _, b5⟩ := isHull_facts hb
  exact ⟨a5, b5, List.ne_nil_of_length_pos a1, List.ne_nil_of_length_pos b1, a3, b3⟩
theorem insideS_good {a : List HPt} (ha : isHullB a = true) {q : HPt} (hq : okPt q = true) : insideS a q = (meetB a [q], 0) := by
  unfold insideS
  rw [if_pos (errHs_good ha ha), if_pos hq]
theorem meetE_good {a b : List HPt} (ha : isHullB a = true) (hb : isHullB b = true) : meetE a b = (meetB a b, 0) := by unfold meetE; rw [if_pos (errHs_good ha hb)]
theorem gapE_good {a b : List HPt} (ha : isHullB a = true) (hb : isHullB b = true) : gapE a b = (gapP a b, 0) := by unfold gapE; rw [if_pos (errHs_good ha hb)]
theorem partE_good {a b : List HPt} (ha : isHullB a = true) (hb : isHullB b = true) : partE a b = if meetB a b = true then 5 else 0 := by unfold partE; rw [if_pos (errHs_good ha hb)]
theorem pairs_shape {k : IntKind} {w : World} {v : Value} {l : List HPt} (h : Pairs k w v l) : ∃ A c, v = .slice A l.length c ∧ l.length ≤ 9223372036854775807 := by
  rcases h with ⟨a, c, rfl, rfl⟩ | ⟨b, off, cap, rfl, h1, _, _⟩
  · exact ⟨_, _, rfl, by simp⟩
  · exact ⟨_, _, rfl, h1⟩
theorem pairs_ext {k : IntKind} {w w' : World} {v : Value} {l : List HPt} (h : Pairs k w v l) (he : Ext w w') : Pairs k w' v l := by
  rcases h with h | ⟨b, off, cap, h1, h2, h3, h4⟩
  · exact .inl h
  · exact .inr ⟨b, off, cap, h1, h2, h3, fun i hi => ⟨he.cell (h4 i hi).1, he.cell (h4 i hi).2⟩⟩
/-- 'few', at a later world -/
theorem few_at (v : Value) (l : List HPt) (n : Nat) (w W : World) (h : Ext w W) (hp : Pairs .i8 w v l) (hw : ∀ q ∈ l, (Lit.int .i8 q.1).wf = true ∧ (Lit.int .i8 q.2).wf = true) (hn : n ≤ 100) :
    Calls Try.prog 8 #[v, .int .i64 n] W fun e w' => ∃ A c, e = .returned (.slice A (l.take n).length c) ∧ Pts w' (.slice A (l.take n).length c) (l.take n) ∧ Ext W w' := by
  refine (few_c v l n W (pairs_ext hp h) hw hn).mono ?_
  rintro e w' ⟨v', rfl, hv, he⟩
  have hv2 := pts_of_own hv
  obtain ⟨A, c, rfl, _⟩ := hv2.shapeH
  exact ⟨A, c, rfl, hv2, he⟩
/-- 'Hull', of few points -/
theorem hull_at {L a : List HPt} {e0 : Int} (hS : hullS L = (a, e0)) (v : Value) (W : World) (h : Pts W v L) :
    Calls Try.prog 9 #[v] W fun e w' => ∃ A c, e = .returned (.tuple #[.slice A a.length c, .int .i64 e0]) ∧ Pts w' (.slice A a.length c) a ∧ Ext W w' := by
  refine (Hull_c v L W h).mono ?_
  rintro e w' ⟨v', rfl, hv, he⟩
  rw [hS] at hv ⊢
  simp only at hv ⊢
  obtain ⟨A, c, rfl, _⟩ := hv.shapeH
  exact ⟨A, c, rfl, hv, he⟩
end Go.Proofs.Ytlndcpjaeoppmaa
/- What the law PlaneLeast asks of points and their hull; the sign of three points; no points. -/
namespace Go.Proofs.Ytlndcpjaeoppmaa
open Go.RowKit Go.Shelf

/-- what the law asks of points and their hull -/
structure LeastF (p h : List HPt) : Prop where
  n0 : 0 < h.length
  n1 : h.length ≤ 20
  small : ∀ k, k < h.length → (-128 ≤ (h.getD k (0, 0)).1 ∧ (h.getD k (0, 0)).1 ≤ 127) ∧ (-128 ≤ (h.getD k (0, 0)).2 ∧ (h.getD k (0, 0)).2 ≤ 127)
  turn : ∀ k, k < h.length → 2 < h.length → 0 < crossP (h.getD k (0, 0)) (h.getD ((k + 1) % h.length) (0, 0)) (h.getD ((k + 2) % h.length) (0, 0))
  left : ∀ k, k < h.length → ∀ x ∈ p, 0 ≤ crossP (h.getD k (0, 0)) (h.getD ((k + 1) % h.length) (0, 0)) x
  first : ∀ k, k < h.length → ¬ ltP (h.getD k (0, 0)) (h.getD 0 (0, 0))
  one : h.length = 1 → ∀ x ∈ p, x = h.getD 0 (0, 0)
  sub : ∀ k, k < h.length → h.getD k (0, 0) ∈ p
  ins : ∀ x ∈ p, insideS h x = (true, 0)
  rest : ∀ k, k < h.length → 1 < h.length → hullS (h.take k ++ h.drop (k + 1)) = (cornersP (h.take k ++ h.drop (k + 1)), 0)
  out : ∀ k, k < h.length → 1 < h.length → insideS (cornersP (h.take k ++ h.drop (k + 1))) (h.getD k (0, 0)) = (false, 0)
  again : ∀ k, hullS (p.drop k ++ p) = (h, 0)
theorem leastF_of {p : List HPt} (h0 : p ≠ []) (hs : ∀ q ∈ p, (-128 ≤ q.1 ∧ q.1 ≤ 127) ∧ (-128 ≤ q.2 ∧ q.2 ≤ 127)) (hl : p.length ≤ 10) : LeastF p (cornersP p) := by
  have L := least_of h0
  have hlen := corners_len p
  have hok : ∀ q ∈ p, okPt q = true := fun q hq => ok_small (hs q hq)
  have ih := isHull_good h0 hok (by omega)
  have hr : ∀ k, k < (cornersP p).length → 1 < (cornersP p).length → (cornersP p).take k ++ (cornersP p).drop (k + 1) ≠ [] := by
    intro k hk h1 e
    have := congrArg List.length e
    simp only [List.length_append, List.length_take, List.length_drop, List.length_nil] at this
    omega
  have hm : ∀ k, ∀ x ∈ (cornersP p).take k ++ (cornersP p).drop (k + 1), x ∈ p := by
    intro k x hx
    rcases List.mem_append.1 hx with hx | hx
    · exact L.sub x (List.mem_of_mem_take hx)
    · exact L.sub x (List.mem_of_mem_drop hx)
  have hrl : ∀ k, ((cornersP p).take k ++ (cornersP p).drop (k + 1)).length ≤ 20 := by
    intro k
    simp only [List.length_append, List.length_take, List.length_drop]
    omega
  refine ⟨List.length_pos_iff.2 L.ne, by omega, fun k hk => hs _ (L.sub _ (get_mem hk)), L.turn, ?_, L.first, L.one, fun k hk => L.sub _ (get_mem hk), ?_, ?_, ?_, ?_⟩
  · intro k hk x hx
    by_cases h1 : 1 < (cornersP p).length
    · exact L.left k hk h1 x hx
    · have h2 : (cornersP p).length = 1 := by omega
      have hk0 : k = 0 := by omega
      rw [h2, Nat.mod_one, hk0]
      have : crossP ((cornersP p).getD 0 (0, 0)) ((cornersP p).getD 0 (0, 0)) x = 0 := by unfold crossP; grind
      omega
  · intro x hx
    rw [insideS_good ih (hok x hx), hull_has h0 hx]
  · intro k hk h1
    exact hullS_good (hr k hk h1) (fun x hx => hok x (hm k x hx)) (by have := hrl k; omega)
  · intro k hk h1
    have i2 := isHull_good (hr k hk h1) (fun x hx => hok x (hm k x hx)) (by have := hrl k; omega)
    rw [insideS_good i2 (hok _ (L.sub _ (get_mem hk)))]
    have := least_out h0 hk h1
    rw [List.eraseIdx_eq_take_drop_succ] at this
    rw [this]
  · intro k
    have e : cornersP (p.drop k ++ p) = cornersP p := corners_mem (fun q => by
      rw [List.mem_append]
      exact ⟨fun h => h.elim (fun h => List.mem_of_mem_drop h) id, .inr⟩)
    rw [← e]
    refine hullS_good (by intro e2; exact h0 (List.append_eq_nil_iff.1 e2).2) (fun q hq => ?_) (by rw [List.length_append, List.length_drop]; omega)
    rcases List.mem_append.1 hq with hq | hq
    · exact hok q (List.mem_of_mem_drop hq)
    · exact hok q hq
theorem pts_cells {w : World} {A : Option Addr} {n c : Nat} {l : List HPt} (h : Pts w (.slice A n c) l) (h0 : 0 < l.length) : ∃ b off, A = some ⟨b, off, none⟩ ∧ l.length ≤ c ∧ PtCells w b off l := by
  rcases h with ⟨_, _, _, h2⟩ | ⟨b, off, cap, h1, _, h3, hc⟩
  · rw [h2] at h0; simp at h0
  · simp only [Value.slice.injEq] at h1
    exact ⟨b, off, h1.1, by omega, hc⟩
theorem heap3_first (W : World) (o1 o2 o3 : Obj) : (((W.alloc o1).alloc o2).alloc o3).heap[W.heap.size]? = some o1 := (Below.heap_alloc ((W.alloc o1).alloc o2) o3 W.heap.size (by rw [size_alloc, size_alloc]; omega)).trans (heap2_first W o1 o2)
theorem heap3_second (W : World) (o1 o2 o3 : Obj) : (((W.alloc o1).alloc o2).alloc o3).heap[W.heap.size + 1]? = some o2 := (Below.heap_alloc ((W.alloc o1).alloc o2) o3 (W.heap.size + 1) (by rw [size_alloc, size_alloc]; omega)).trans (heap2_second W o1 o2)
theorem heap3_third (W : World) (o1 o2 o3 : Obj) : (((W.alloc o1).alloc o2).alloc o3).heap[W.heap.size + 1 + 1]? = some o3 := by
  have h := World.alloc_heap_new ((W.alloc o1).alloc o2) o3
  rwa [size_alloc, size_alloc] at h
set_option maxRecDepth 100000 in
set_option maxHeartbeats 1600000 in
theorem sign_c (a1 a2 b1 b2 c1 c2 : Int) (w : World) (ha : (-128 ≤ a1 ∧ a1 ≤ 127) ∧ (-128 ≤ a2 ∧ a2 ≤ 127)) (hb : (-128 ≤ b1 ∧ b1 ≤ 127) ∧ (-128 ≤ b2 ∧ b2 ≤ 127)) (hc : (-128 ≤ c1 ∧ c1 ≤ 127) ∧ (-128 ≤ c2 ∧ c2 ≤ 127)) :
    Calls Try.prog 12 #[.agg #[.int .i64 a1, .int .i64 a2], .agg #[.int .i64 b1, .int .i64 b2], .agg #[.int .i64 c1, .int .i64 c2]] w fun e w' => e = .returned (.int .i64 (crossP (a1, a2) (b1, b2) (c1, c2))) ∧ Ext w w' := by
  have e1 := IntWalk.i64_in (b1 - a1) (by omega)
  have e2 := IntWalk.i64_in (c2 - a2) (by omega)
  have e3 := IntWalk.i64_in (b2 - a2) (by omega)
  have e4 := IntWalk.i64_in (c1 - a1) (by omega)
  obtain ⟨m1, m2⟩ := Pl.mul_bd (a := b1 - a1) (b := c2 - a2) (A := 256) (B := 256) (by omega) (by omega) (by omega) (by omega)
  obtain ⟨m3, m4⟩ := Pl.mul_bd (a := b2 - a2) (b := c1 - a1) (A := 256) (B := 256) (by omega) (by omega) (by omega) (by omega)
  have e5 := IntWalk.i64_in ((b1 - a1) * (c2 - a2)) (by omega)
  have e6 := IntWalk.i64_in ((b2 - a2) * (c1 - a1)) (by omega)
  have e7 := IntWalk.i64_in ((b1 - a1) * (c2 - a2) - (b2 - a2) * (c1 - a1)) (by omega)
  have hX : crossP (a1, a2) (b1, b2) (c1, c2) = (b1 - a1) * (c2 - a2) - (b2 - a2) * (c1 - a1) := rfl
  rw [hX]
  clear hX m1 m2 m3 m4 ha hb hc
  go_enter Try.func12, Try.ntmps12
  go_wp2
  go_ret
  exact ⟨rfl, by (repeat' (first | exact Ext.refl _ | assumption | refine Ext.alloc ?_ _ | refine Ext.drew ?_ | refine Ext.drewN ?_ _ | refine Ext.set ?_ (by first | exact Nat.le_refl _ | exact le1 _ | exact le2 _ | exact le3 _ | exact le4 _ | exact le5 _ | exact le6 _) _ | refine Ext.trans ?_ (by assumption)))⟩
set_option maxRecDepth 100000 in
set_option maxHeartbeats 1600000 in
theorem least_none (va : Value) (f : Int) (w : World) (ha : Pairs .i8 w va []) :
    Calls Try.prog 3 #[va, .int .u8 f] w fun e w' => e = .returned (.bool true) ∧ Ext w w' := by
  have FA : ∀ W, Ext w W → Calls Try.prog 8 #[va, .int .i64 10] W fun e w' => ∃ A c, e = .returned (.slice A 0 c) ∧ Pts w' (.slice A 0 c) [] ∧ Ext W w' := fun W h => few_at va [] 10 w W h ha (by simp) (by omega)
  have HA := Lib.hid (fun v W => hull_at (show hullS [] = ([], 5) from rfl) v W)
  replace FA := Lib.hid FA
  clear ha
  go_enter Try.func3, Try.ntmps3
  go_wp2_with (first
    | (go_at_call 8; refine (FA.out _ (by (repeat' (first | exact Ext.refl _ | assumption | refine Ext.alloc ?_ _ | refine Ext.drew ?_ | refine Ext.drewN ?_ _ | refine Ext.set ?_ (by first | exact Nat.le_refl _ | exact le1 _ | exact le2 _ | exact le3 _ | exact le4 _ | exact le5 _ | exact le6 _) _ | refine Ext.trans ?_ (by assumption))))).mono ?_; rintro e w1 ⟨A1, c1, rfl, hp1, hb1⟩; replace hp1 := Lib.hid hp1; clear FA)
    | (go_at_call 9; refine (HA.out _ _ hp1.out).mono ?_; rintro e w2 ⟨A2, c2, rfl, hp2, hb2⟩; replace hp2 := Lib.hid hp2; clear HA)
    | (go_at_call 10; refine (works_c _).mono ?_; rintro e w5 ⟨rfl, hb5⟩))
  go_ret
  exact ⟨rfl, by (repeat' (first | exact Ext.refl _ | assumption | refine Ext.alloc ?_ _ | refine Ext.drew ?_ | refine Ext.drewN ?_ _ | refine Ext.set ?_ (by first | exact Nat.le_refl _ | exact le1 _ | exact le2 _ | exact le3 _ | exact le4 _ | exact le5 _ | exact le6 _) _ | refine Ext.trans ?_ (by assumption)))⟩
end Go.Proofs.Ytlndcpjaeoppmaa
