
/- LGeoAll: several texts in one. -/
import Derived.Test.YtkkeblgahbpmmaaHullMath
/- Directions of points and of hulls, plainly. -/
namespace Go.Proofs.Ytkkeblgahbpmmaa
open Go.RowKit

def dotP (d p : HPt) : Int := d.1 * p.1 + d.2 * p.2
def nxtP (h : List HPt) (i : Nat) : HPt := h.getD ((i + 1) % h.length) (0, 0)
def sdP (h : List HPt) (i : Nat) : HPt := ((nxtP h i).1 - (h.getD i (0, 0)).1, (nxtP h i).2 - (h.getD i (0, 0)).2)
def rdP (s : HPt) : List HPt := [(s.1, s.2), (-s.1, -s.2), (s.2, -s.1), (-s.2, s.1)]
def rdirs (h : List HPt) : List HPt := (List.range h.length).flatMap (fun i => rdP (sdP h i))
def fdP (a b : List HPt) : HPt := ((b.getD 0 (0, 0)).1 - (a.getD 0 (0, 0)).1, (b.getD 0 (0, 0)).2 - (a.getD 0 (0, 0)).2)
def adirs (a b : List HPt) : List HPt := [fdP a b] ++ rdirs a ++ rdirs b
theorem get_mem {h : List HPt} {i : Nat} (hi : i < h.length) : h.getD i (0, 0) ∈ h := by
  rw [getD_lt hi]
  exact List.getElem_mem _
end Go.Proofs.Ytkkeblgahbpmmaa
/- The chain below a sorted list: it turns to the left, all points lie above it, and it is the only one; the hull of a list, its sides; a hull stays when points are added that it contains. -/
namespace Go.Proofs.Ytkkeblgahbpmmaa
open Go.RowKit

def crs (u v : HPt) : Int := u.1 * v.2 - u.2 * v.1
def posV (u : HPt) : Prop := 0 < u.1 ∨ (u.1 = 0 ∧ 0 < u.2)
def dif (b a : HPt) : HPt := (b.1 - a.1, b.2 - a.2)
theorem crossP_crs (a b c : HPt) : crossP a b c = crs (dif b a) (dif c a) := rfl
theorem pos_of_lt {a b : HPt} (h : ltP a b) : posV (dif b a) := by unfold ltP at h; unfold posV dif; simp only; omega
theorem pos_add {u v : HPt} (hu : posV u) (hv : posV v) : posV (u.1 + v.1, u.2 + v.2) := by unfold posV at *; simp only; omega
/-- of three vectors of a half-plane: the turns add up -/
theorem crs_trans {u v w : HPt} (hu : posV u) (hv : posV v) (hw : posV w) (h1 : 0 ≤ crs u v) (h2 : 0 ≤ crs v w) : 0 ≤ crs u w := by
  obtain ⟨u1, u2⟩ := u
  obtain ⟨v1, v2⟩ := v
  obtain ⟨w1, w2⟩ := w
  unfold posV crs at *
  simp only at *
  have hu0 : 0 ≤ u1 := by omega
  have hw0 : 0 ≤ w1 := by omega
  rcases hv with hv | ⟨hv1, hv2⟩
  · have e : v1 * (u1 * w2 - u2 * w1) = u1 * (v1 * w2 - v2 * w1) + w1 * (u1 * v2 - u2 * v1) := by grind
    have h : 0 ≤ v1 * (u1 * w2 - u2 * w1) := by rw [e]; exact Int.add_nonneg (Int.mul_nonneg hu0 h2) (Int.mul_nonneg hw0 h1)
    exact Int.nonneg_of_mul_nonneg_right h hv
  · subst hv1
    have h3 : 0 ≤ -(v2 * w1) := by simpa using h2
    have hw1 : w1 = 0 := by
      rcases Int.lt_or_eq_of_le hw0 with h | h
      · have := Int.mul_pos hv2 h; omega
      · exact h.symm
    subst hw1
    have : 0 < w2 := by omega
    simp only [Int.mul_zero, Int.sub_zero]
    exact Int.mul_nonneg hu0 (by omega)
/-- the same, strictly, if the first turn is -/
theorem crs_trans_l {u v w : HPt} (hu : posV u) (hv : posV v) (hw : posV w) (h1 : 0 < crs u v) (h2 : 0 ≤ crs v w) : 0 < crs u w := by
  obtain ⟨u1, u2⟩ := u
  obtain ⟨v1, v2⟩ := v
  obtain ⟨w1, w2⟩ := w
  have h0 := crs_trans hu hv hw (Int.le_of_lt h1) h2
  rcases Int.lt_or_eq_of_le h0 with h | h
  · exact h
  exfalso
  unfold posV crs at *
  simp only at *
  have hu0 : 0 ≤ u1 := by omega
  have hw0 : 0 ≤ w1 := by omega
  have e1 : v1 * (u1 * w2 - u2 * w1) = u1 * (v1 * w2 - v2 * w1) + w1 * (u1 * v2 - u2 * v1) := by grind
  have e2 : v2 * (u1 * w2 - u2 * w1) = u2 * (v1 * w2 - v2 * w1) + w2 * (u1 * v2 - u2 * v1) := by grind
  rw [← h] at e1 e2
  have p1 := Int.mul_nonneg hu0 h2
  have p2 := Int.mul_nonneg hw0 (Int.le_of_lt h1)
  have hw1 : w1 = 0 := by
    rcases Int.lt_or_eq_of_le hw0 with k | k
    · have := Int.mul_pos k h1; omega
    · exact k.symm
  subst hw1
  have hw2 : 0 < w2 := by omega
  have p3 := Int.mul_pos hw2 h1
  have hu1 : u1 = 0 := by
    have h5 : u1 * w2 = 0 := by simpa using h.symm
    rcases Int.mul_eq_zero.1 h5 with k | k
    · exact k
    · omega
  subst hu1
  have : 0 < u2 := by omega
  have p4 := Int.mul_nonneg (Int.le_of_lt this) h2
  simp only [Int.mul_zero, Int.zero_mul, Int.sub_zero] at e2 p3 p4
  omega
theorem crs_trans_r {u v w : HPt} (hu : posV u) (hv : posV v) (hw : posV w) (h1 : 0 ≤ crs u v) (h2 : 0 < crs v w) : 0 < crs u w := by
  obtain ⟨u1, u2⟩ := u
  obtain ⟨v1, v2⟩ := v
  obtain ⟨w1, w2⟩ := w
  have h0 := crs_trans hu hv hw h1 (Int.le_of_lt h2)
  rcases Int.lt_or_eq_of_le h0 with h | h
  · exact h
  exfalso
  unfold posV crs at *
  simp only at *
  have hu0 : 0 ≤ u1 := by omega
  have hw0 : 0 ≤ w1 := by omega
  have e1 : v1 * (u1 * w2 - u2 * w1) = u1 * (v1 * w2 - v2 * w1) + w1 * (u1 * v2 - u2 * v1) := by grind
  have e2 : v2 * (u1 * w2 - u2 * w1) = u2 * (v1 * w2 - v2 * w1) + w2 * (u1 * v2 - u2 * v1) := by grind
  rw [← h] at e1 e2
  have p1 := Int.mul_nonneg hu0 (Int.le_of_lt h2)
  have p2 := Int.mul_nonneg hw0 h1
  have hu1 : u1 = 0 := by
    rcases Int.lt_or_eq_of_le hu0 with k | k
    · have := Int.mul_pos k h2; omega
    · exact k.symm
  subst hu1
  have hu2 : 0 < u2 := by omega
  have p3 := Int.mul_pos hu2 h2
  have hw1 : w1 = 0 := by
    have h5 : u2 * w1 = 0 := by have := h; rw [Int.zero_mul] at this; omega
    rcases Int.mul_eq_zero.1 h5 with k | k
    · omega
    · exact k
  subst hw1
  have : 0 < w2 := by omega
  have p4 := Int.mul_nonneg (Int.le_of_lt this) h1
  simp only [Int.mul_zero, Int.zero_mul, Int.sub_zero] at e2 p3 p4
  omega
/-- a stack, its top first: the top is the greatest -/
def Desc : List HPt → Prop
  | b :: a :: r => ltP a b ∧ Desc (a :: r)
  | _ => True
/-- it turns to the left at each point -/
def Conv : List HPt → Prop
  | c :: b :: a :: r => 0 < crossP a b c ∧ Conv (b :: a :: r)
  | _ => True
/-- a point is on or above each piece -/
def Above (y : HPt) : List HPt → Prop
  | b :: a :: r => 0 ≤ crossP a b y ∧ Above y (a :: r)
  | _ => True
theorem Desc.tail {b : HPt} {r : List HPt} (h : Desc (b :: r)) : Desc r := by
  cases r with
  | nil => trivial
  | cons a r => exact h.2
theorem Conv.tail {b : HPt} {r : List HPt} (h : Conv (b :: r)) : Conv r := by
  rcases r with _ | ⟨a, _ | ⟨c, r⟩⟩
  · trivial
  · trivial
  · exact h.2
theorem Above.tail {y b : HPt} {r : List HPt} (h : Above y (b :: r)) : Above y r := by
  cases r with
  | nil => trivial
  | cons a r => exact h.2
theorem Desc.lt : ∀ {t : HPt} {r : List HPt}, Desc (t :: r) → ∀ s ∈ r, ltP s t
  | t, [], _, s, hs => by simp at hs
  | t, a :: r, h, s, hs => by
    rcases List.mem_cons.1 hs with rfl | hs
    · exact h.1
    · exact ltP_trans (Desc.lt h.2 s hs) h.1
theorem cross_four (a b x y : HPt) : crossP a x y = crossP a b y + crossP b x y - crossP a b x := by unfold crossP; grind
theorem cross_self (a b : HPt) : crossP a b a = 0 := by unfold crossP; grind
theorem cross_self2 (a b : HPt) : crossP a b b = 0 := by unfold crossP; grind
theorem cross_uv {a b c : HPt} : crossP a b c = crs (dif b a) (dif c b) := by unfold crossP crs dif; simp only; grind
theorem cross_yu {s t y : HPt} : crossP s t y = crs (dif t y) (dif t s) := by unfold crossP crs dif; simp only; grind
theorem cross_ty {t x y : HPt} : crossP t x y = crs (dif t y) (dif x t) := by unfold crossP crs dif; simp only; grind
theorem crs_anti (u v : HPt) : crs u v = - crs v u := by unfold crs; grind
/-- two turns to the left, one behind the other -/
theorem cross_next {q r s x : HPt} (h1 : ltP q r) (h2 : ltP r s) (h3 : ltP s x) (a : 0 < crossP q r s) (b : 0 < crossP r s x) : 0 < crossP q r x := by
  have hp := pos_of_lt h1
  have hq := pos_of_lt h2
  have hr := pos_of_lt h3
  rw [cross_uv] at a b
  have := crs_trans_l hp hq hr a (Int.le_of_lt b)
  have e : crossP q r x = crs (dif r q) (dif s r) + crs (dif r q) (dif x s) := by unfold crossP crs dif; simp only; grind
  omega
/-- a new greatest point lies above all pieces -/
theorem above_new : ∀ (st : List HPt) (x : HPt), Desc (x :: st) → Conv (x :: st) → Above x st
  | [], _, _, _ => trivial
  | [_], _, _, _ => trivial
  | t :: s :: r, x, hd, hc => by
    refine ⟨Int.le_of_lt hc.1, above_new (s :: r) x ⟨ltP_trans hd.2.1 hd.1, hd.2.2⟩ ?_⟩
    rcases r with _ | ⟨q, r⟩
    · trivial
    · exact ⟨cross_next hd.2.2.1 hd.2.1 hd.1 hc.2.1 hc.1, hc.2.2⟩
/-- what a pop leaves -/
theorem pop_spec {P : List HPt} (x : HPt) (hx : ∀ y ∈ P, ltP y x) : ∀ (st : List HPt), st ≠ [] → Desc st → Conv st → (∀ y ∈ P, Above y st) → (∀ s ∈ st, s ∈ P) →
    (∀ t r, st = t :: r → ∀ y ∈ P, (y = t ∨ ltP t y) → 0 ≤ crossP t x y) →
    ∃ t r, popP st x = t :: r ∧ (∃ pre, st = pre ++ t :: r) ∧ (∀ y ∈ P, (y = t ∨ ltP t y) → 0 ≤ crossP t x y) ∧ (∀ s q, r = s :: q → 0 < crossP s t x) ∧ Desc (t :: r) ∧ Conv (t :: r) ∧ ∀ y ∈ P, Above y (t :: r)
  | [], h0, _, _, _, _, _ => absurd rfl h0
  | [t], _, hd, hc, ha, _, hq => ⟨t, [], rfl, ⟨[], rfl⟩, hq t [] rfl, (fun s q e => by cases e), hd, hc, ha⟩
  | b :: a :: r, _, hd, hc, ha, hm, hq => by
    by_cases hcr : crossP a b x ≤ 0
    · rw [popP_drop hcr]
      obtain ⟨t, r', h1, ⟨pre, h2⟩, h3⟩ := pop_spec x hx (a :: r) (by simp) hd.2 hc.tail (fun y hy => (ha y hy).tail) (fun s hs => hm s (List.mem_cons_of_mem _ hs)) (by
        intro t r' e y hy hty
        cases e
        have hab := (ha y hy).1
        by_cases hyb : y = b ∨ ltP b y
        · have := hq b _ rfl y hy hyb
          rw [cross_four a b x y]
          omega
        · rcases hty with rfl | hty
          · rw [cross_self]; exact Int.le_refl _
          · have hyb' : ltP y b := by
              have h5 : ¬ ltP b y := fun h => hyb (.inr h)
              have h6 : ¬ b = y := fun h => hyb (.inl h.symm)
              exact ltP_total h5 h6
            have hxx : ltP a x := hx a (hm a (by simp))
            have k1 : 0 ≤ crs (dif x a) (dif b a) := by
              have e : crossP a b x = crs (dif b a) (dif x a) := rfl
              rw [crs_anti]
              omega
            exact crs_trans (pos_of_lt hxx) (pos_of_lt hd.1) (pos_of_lt hty) k1 hab)
      exact ⟨t, r', h1, ⟨b :: pre, by rw [h2]; rfl⟩, h3⟩
    · rw [popP_keep hcr]
      refine ⟨b, a :: r, rfl, ⟨[], rfl⟩, hq b _ rfl, ?_, hd, hc, ha⟩
      intro s q e
      cases e
      omega
/-- what a chain is, over the points that have been seen -/
structure Chain (P st : List HPt) : Prop where
  ne : st ≠ []
  desc : Desc st
  conv : Conv st
  above : ∀ y ∈ P, Above y st
  mem : ∀ s ∈ st, s ∈ P
  head : ∀ t r, st = t :: r → ∀ y ∈ P, y = t ∨ ltP y t
  last : ∀ pre m, st = pre ++ [m] → ∀ y ∈ P, y = m ∨ ltP m y
theorem Chain.push {P st : List HPt} (h : Chain P st) {x : HPt} (hx : ∀ y ∈ P, ltP y x) : Chain (P ++ [x]) (pushP st x) := by
  obtain ⟨t, r, h1, ⟨pre, h2⟩, h3, h4, h5, h6, h7⟩ := pop_spec x hx st h.ne h.desc h.conv h.above h.mem (by
    intro t r e y hy hty
    rcases h.head t r e y hy with rfl | hlt
    · rw [cross_self]; exact Int.le_refl _
    · rcases hty with rfl | hty
      · rw [cross_self]; exact Int.le_refl _
      · exact absurd (ltP_trans hlt hty) (ltP_irrefl y))
  have htm : t ∈ P := h.mem t (by rw [h2]; simp)
  have htx := hx t htm
  unfold pushP
  rw [h1]
  have hd : Desc (x :: t :: r) := ⟨htx, h5⟩
  have hc : Conv (x :: t :: r) := by
    rcases r with _ | ⟨s, q⟩
    · trivial
    · exact ⟨h4 s q rfl, h6⟩
  have hmem : ∀ s ∈ t :: r, s ∈ P := fun s hs => h.mem s (by rw [h2]; exact List.mem_append.2 (.inr hs))
  refine ⟨by simp, hd, hc, ?_, ?_, ?_, ?_⟩
  · intro y hy
    rcases List.mem_append.1 hy with hy | hy
    · refine ⟨?_, h7 y hy⟩
      by_cases hty : y = t ∨ ltP t y
      · exact h3 y hy hty
      · have hyt : ltP y t := by
          have k5 : ¬ ltP t y := fun k => hty (.inr k)
          have k6 : ¬ t = y := fun k => hty (.inl k.symm)
          exact ltP_total k5 k6
        rcases r with _ | ⟨s, q⟩
        · rcases h.last pre t h2 y hy with rfl | hlt
          · exact absurd hyt (ltP_irrefl y)
          · exact absurd (ltP_trans hlt hyt) (ltP_irrefl t)
        · have a1 := (h7 y hy).1
          have a2 := h4 s q rfl
          rw [cross_yu] at a1
          rw [cross_uv] at a2
          rw [cross_ty]
          exact crs_trans (pos_of_lt hyt) (pos_of_lt h5.1) (pos_of_lt htx) a1 (Int.le_of_lt a2)
    · have : y = x := by simpa using hy
      subst this
      refine ⟨?_, above_new _ _ hd hc⟩
      rw [cross_self2]; exact Int.le_refl _
  · intro s hs
    rcases List.mem_cons.1 hs with rfl | hs
    · simp
    · exact List.mem_append.2 (.inl (hmem s hs))
  · intro t' r' e y hy
    cases e
    rcases List.mem_append.1 hy with hy | hy
    · exact .inr (hx y hy)
    · exact .inl (by simpa using hy)
  · intro pre' m e y hy
    have hm : ∃ pre2, t :: r = pre2 ++ [m] := by
      rcases pre' with _ | ⟨p, pre'⟩
      · simp at e
      · simp only [List.cons_append, List.cons.injEq] at e
        exact ⟨pre', e.2⟩
    obtain ⟨pre2, e2⟩ := hm
    have e3 : st = (pre ++ pre2) ++ [m] := by rw [h2, e2, List.append_assoc]
    rcases List.mem_append.1 hy with hy | hy
    · exact h.last _ m e3 y hy
    · have : y = x := by simpa using hy
      subst this
      exact .inr (hx m (h.mem m (by rw [e3]; simp)))
theorem Chain.one (x : HPt) : Chain [x] [x] := by
  refine ⟨by simp, trivial, trivial, fun _ _ => trivial, fun _ h => h, ?_, ?_⟩
  · intro t r e y hy
    cases e
    exact .inl (by simpa using hy)
  · intro pre m e y hy
    rcases pre with _ | ⟨p, pre⟩
    · simp at e
      subst e
      exact .inl (by simpa using hy)
    · simp at e
theorem chain_fold : ∀ (l P st : List HPt), Chain P st → Srt (P ++ l) → Chain (P ++ l) (l.foldl pushP st)
  | [], P, st, h, _ => by simpa using h
  | x :: l, P, st, h, hs => by
    have hx : ∀ y ∈ P, ltP y x := by
      intro y hy
      exact (List.pairwise_append.1 hs).2.2 y hy x (by simp)
    have := chain_fold l (P ++ [x]) (pushP st x) (h.push hx) (by rw [List.append_assoc]; exact hs)
    rw [List.append_assoc] at this
    exact this
/-- the chain below a sorted list -/
theorem chain_sorted {l : List HPt} (h0 : l ≠ []) (hs : Srt l) : Chain l (sideP l).reverse := by
  rcases l with _ | ⟨x, l⟩
  · exact absurd rfl h0
  · have := chain_fold l [x] [x] (Chain.one x) hs
    unfold sideP
    rw [List.reverse_reverse]
    exact this
/-- a chain over the points of a property -/
structure ChainP (P : HPt → Prop) (st : List HPt) : Prop where
  ne : st ≠ []
  desc : Desc st
  conv : Conv st
  above : ∀ y, P y → Above y st
  mem : ∀ s ∈ st, P s
  head : ∀ t r, st = t :: r → ∀ y, P y → y = t ∨ ltP y t
  last : ∀ pre m, st = pre ++ [m] → ∀ y, P y → y = m ∨ ltP m y
theorem Chain.toP {l st : List HPt} (h : Chain l st) : ChainP (· ∈ l) st := ⟨h.ne, h.desc, h.conv, h.above, h.mem, h.head, h.last⟩
theorem ChainP.tail {P : HPt → Prop} {t s : HPt} {r : List HPt} (h : ChainP P (t :: s :: r)) : ChainP (fun y => P y ∧ (y = s ∨ ltP y s)) (s :: r) := by
  refine ⟨by simp, h.desc.tail, h.conv.tail, fun y hy => (h.above y hy.1).tail, ?_, ?_, ?_⟩
  · intro a ha
    refine ⟨h.mem a (List.mem_cons_of_mem _ ha), ?_⟩
    rcases List.mem_cons.1 ha with rfl | ha
    · exact .inl rfl
    · exact .inr (h.desc.tail.lt a ha)
  · intro a b e y hy
    cases e
    exact hy.2
  · intro pre m e y hy
    exact h.last (t :: pre) m (by rw [e]; rfl) y hy.1
theorem cross_cyc (a b c : HPt) : crossP a b c = crossP b c a := by unfold crossP; grind
theorem cross_swap (a b c : HPt) : crossP a b c = - crossP a c b := by unfold crossP; grind
theorem list_last {α : Type} : ∀ (l : List α), l ≠ [] → ∃ pre m, l = pre ++ [m]
  | [], h => absurd rfl h
  | [a], _ => ⟨[], a, rfl⟩
  | a :: b :: l, _ => by
    obtain ⟨pre, m, e⟩ := list_last (b :: l) (by simp)
    exact ⟨a :: pre, m, by rw [e]; rfl⟩
/-- the second point of one chain is not below that of another one -/
theorem second_not {P : HPt → Prop} {t s s' : HPt} {r r' : List HPt} (h : ChainP P (t :: s :: r)) (h' : ChainP P (t :: s' :: r')) (hlt : ltP s s') : False := by
  have hs := h.mem s (by simp)
  have hs' := h'.mem s' (by simp)
  have a1 := (h.above s' hs').1
  have a2 := (h'.above s hs).1
  have e1 : crossP s' t s = - crossP s t s' := by
    rw [cross_cyc s' t s, cross_cyc t s s']
    exact cross_swap s s' t
  have e0 : crossP s t s' = 0 := by omega
  rcases r' with _ | ⟨q, r'⟩
  · rcases h'.last [t] s' rfl s hs with k | k
    · rw [k] at hlt; exact ltP_irrefl _ hlt
    · exact ltP_irrefl _ (ltP_trans hlt k)
  · have c1 := h'.conv.1
    have d1 := h'.desc.2.1
    have d2 := h'.desc.1
    have a3 := (h'.above s hs).2.1
    rw [cross_uv] at c1
    rw [cross_yu] at a3
    have k0 : crs (dif t s') (dif s' s) = 0 := by
      have : crs (dif t s') (dif s' s) = crossP s t s' := by unfold crossP crs dif; simp only; grind
      rw [this, e0]
    have := crs_trans_l (pos_of_lt d1) (pos_of_lt d2) (pos_of_lt hlt) c1 (by omega)
    rw [crs_anti] at a3
    omega
theorem chain_unique : ∀ (st st' : List HPt) (P : HPt → Prop), ChainP P st → ChainP P st' → st = st'
  | [], _, _, h, _ => absurd rfl h.ne
  | _ :: _, [], _, _, h' => absurd rfl h'.ne
  | [t], [t'], P, h, h' => by
    rcases h.head t [] rfl t' (h'.mem t' (by simp)) with k | k
    · rw [k]
    · rcases h'.head t' [] rfl t (h.mem t (by simp)) with m | m
      · rw [m]
      · exact absurd (ltP_trans k m) (ltP_irrefl _)
  | [t], t' :: s' :: r', P, h, h' => by
    exfalso
    have hs := h'.mem s' (by simp)
    have ht := h'.mem t' (by simp)
    rcases h.head t [] rfl t' ht with k | k
    · subst k
      rcases h.last [] t' rfl s' hs with m | m
      · exact ltP_irrefl _ (m ▸ h'.desc.1)
      · exact ltP_irrefl _ (ltP_trans m h'.desc.1)
    · rcases h'.head t' _ rfl t (h.mem t (by simp)) with m | m
      · rw [m] at k; exact ltP_irrefl _ k
      · exact ltP_irrefl _ (ltP_trans k m)
  | t :: s :: r, [t'], P, h, h' => by
    exfalso
    have hs := h.mem s (by simp)
    have ht := h.mem t (by simp)
    rcases h'.head t' [] rfl t ht with k | k
    · subst k
      rcases h'.last [] t rfl s hs with m | m
      · exact ltP_irrefl _ (m ▸ h.desc.1)
      · exact ltP_irrefl _ (ltP_trans m h.desc.1)
    · rcases h.head t _ rfl t' (h'.mem t' (by simp)) with m | m
      · rw [m] at k; exact ltP_irrefl _ k
      · exact ltP_irrefl _ (ltP_trans k m)
  | t :: s :: r, t' :: s' :: r', P, h, h' => by
    have ht : t = t' := by
      rcases h'.head t' _ rfl t (h.mem t (by simp)) with k | k
      · exact k
      · rcases h.head t _ rfl t' (h'.mem t' (by simp)) with m | m
        · exact m.symm
        · exact absurd (ltP_trans k m) (ltP_irrefl _)
    subst ht
    have hss : s = s' := by
      by_cases e : s = s'
      · exact e
      · exfalso
        by_cases k : ltP s s'
        · exact second_not h h' k
        · exact second_not h' h (ltP_total k e)
    subst hss
    have := chain_unique (s :: r) (s :: r') _ h.tail h'.tail
    rw [this]
/-! ### the other side, by turning the plane round -/
def neP (p : HPt) : HPt := (-p.1, -p.2)
theorem ne_ne (p : HPt) : neP (neP p) = p := by unfold neP; simp
theorem ne_map (l : List HPt) : (l.map neP).map neP = l := by
  induction l with
  | nil => rfl
  | cons a l ih => rw [List.map_cons, List.map_cons, ih, ne_ne]
theorem cross_ne (a b c : HPt) : crossP (neP a) (neP b) (neP c) = crossP a b c := by unfold crossP neP; simp only; grind
theorem lt_ne {a b : HPt} : ltP (neP a) (neP b) ↔ ltP b a := by unfold ltP neP; simp only; omega
theorem pop_ne : ∀ (st : List HPt) (x : HPt), popP (st.map neP) (neP x) = (popP st x).map neP
  | [], _ => rfl
  | [_], _ => rfl
  | b :: a :: r, x => by
    have ih := pop_ne (a :: r) x
    by_cases h : crossP a b x ≤ 0
    · rw [popP_drop h, ← ih]
      show popP (neP b :: neP a :: r.map neP) (neP x) = _
      rw [popP_drop (by rw [cross_ne]; exact h)]
      rfl
    · rw [popP_keep h]
      show popP (neP b :: neP a :: r.map neP) (neP x) = _
      rw [popP_keep (by rw [cross_ne]; exact h)]
      rfl
theorem fold_ne : ∀ (l st : List HPt), (l.map neP).foldl pushP (st.map neP) = (l.foldl pushP st).map neP
  | [], _ => rfl
  | x :: l, st => by
    have e : pushP (st.map neP) (neP x) = (pushP st x).map neP := by unfold pushP; rw [pop_ne]; rfl
    rw [List.map_cons, List.foldl_cons, List.foldl_cons, e, fold_ne l]
theorem side_ne (l : List HPt) : sideP (l.map neP) = (sideP l).map neP := by
  unfold sideP
  have := fold_ne l []
  rw [List.map_nil] at this
  rw [this, List.map_reverse]
theorem srt_ne {l : List HPt} (h : Srt l) : Srt (l.reverse.map neP) := by
  unfold Srt at *
  rw [List.pairwise_map, List.pairwise_reverse]
  exact h.imp (fun hab => lt_ne.2 hab)
/-- neighbours in a list -/
def Adj (a b : HPt) (l : List HPt) : Prop := ∃ p s, l = p ++ a :: b :: s
theorem adj_cons {a b c : HPt} {l : List HPt} : Adj a b (c :: l) ↔ (c = a ∧ ∃ s, l = b :: s) ∨ Adj a b l := by
  constructor
  · rintro ⟨p, s, e⟩
    rcases p with _ | ⟨q, p⟩
    · simp only [List.nil_append, List.cons.injEq] at e
      exact .inl ⟨e.1, s, e.2⟩
    · simp only [List.cons_append, List.cons.injEq] at e
      exact .inr ⟨p, s, e.2⟩
  · rintro (⟨rfl, s, rfl⟩ | ⟨p, s, rfl⟩)
    · exact ⟨[], s, rfl⟩
    · exact ⟨c :: p, s, rfl⟩
theorem adj_rev {a b : HPt} {l : List HPt} : Adj a b l.reverse ↔ Adj b a l := by
  have k : ∀ (a b : HPt) (l : List HPt), Adj b a l → Adj a b l.reverse := by
    rintro a b l ⟨p, s, rfl⟩
    exact ⟨s.reverse, p.reverse, by simp⟩
  refine ⟨fun h => ?_, k a b l⟩
  have := k b a _ h
  rwa [List.reverse_reverse] at this
theorem adj_map {a b : HPt} {l : List HPt} (h : Adj a b l) : Adj (neP a) (neP b) (l.map neP) := by
  obtain ⟨p, s, rfl⟩ := h
  exact ⟨p.map neP, s.map neP, by simp⟩
theorem adj_map' {a b : HPt} {l : List HPt} (h : Adj a b (l.map neP)) : Adj (neP a) (neP b) l := by
  have := adj_map h
  rwa [ne_map] at this
theorem adj_mem {a b : HPt} {l : List HPt} (h : Adj a b l) : a ∈ l ∧ b ∈ l := by
  obtain ⟨p, s, rfl⟩ := h
  simp
/-- above each piece, said of a chain from below -/
theorem above_adj {y : HPt} : ∀ {st : List HPt}, Above y st ↔ ∀ a b, Adj b a st → 0 ≤ crossP a b y
  | [] => ⟨fun _ a b h => by obtain ⟨p, s, e⟩ := h; simp at e, fun _ => trivial⟩
  | [t] => ⟨fun _ a b h => by obtain ⟨p, s, e⟩ := h; rcases p with _ | ⟨q, p⟩ <;> simp at e, fun _ => trivial⟩
  | t :: s :: r => by
    have ih := above_adj (y := y) (st := s :: r)
    constructor
    · intro h a b hab
      rcases adj_cons.1 hab with ⟨rfl, q, e⟩ | k
      · simp only [List.cons.injEq] at e
        rw [← e.1]; exact h.1
      · exact ih.1 h.2 a b k
    · intro h
      exact ⟨h s t ⟨[], r, rfl⟩, ih.2 (fun a b k => h a b (adj_cons.2 (.inr k)))⟩
theorem low_side {l : List HPt} (h0 : l ≠ []) (hs : Srt l) : Chain l (sideP l).reverse := chain_sorted h0 hs
theorem up_side {l : List HPt} (h0 : l ≠ []) (hs : Srt l) : Chain (l.reverse.map neP) ((sideP l.reverse).map neP).reverse := by
  rw [← side_ne]
  exact chain_sorted (by simpa using h0) (srt_ne hs)
/-- a hull of two points or more: its lower and its upper side -/
structure HullOf (l : List HPt) (mn mx : HPt) (A B : List HPt) : Prop where
  lo : sideP (sortP l) = mn :: (A ++ [mx])
  up : sideP (sortP l).reverse = mx :: (B ++ [mn])
  lt : ltP mn mx
  mem1 : mn ∈ l
  mem2 : mx ∈ l
  least : ∀ y ∈ l, y = mn ∨ ltP mn y
  most : ∀ y ∈ l, y = mx ∨ ltP y mx
  hull : cornersP l = (mn :: A) ++ (mx :: B)
  clo : Chain (sortP l) (mn :: (A ++ [mx])).reverse
  cup : Chain ((sortP l).reverse.map neP) ((mx :: (B ++ [mn])).map neP).reverse
theorem ends_of {l c : List HPt} (hc : Chain l c.reverse) (h2 : ∃ x ∈ l, ∃ y ∈ l, ltP x y) : ∃ mn mx A, c = mn :: (A ++ [mx]) ∧ ltP mn mx ∧ mn ∈ l ∧ mx ∈ l ∧ (∀ y ∈ l, y = mn ∨ ltP mn y) ∧ (∀ y ∈ l, y = mx ∨ ltP y mx) := by
  have hne : c ≠ [] := by intro e; exact hc.ne (by rw [e]; rfl)
  obtain ⟨pre, mx, e⟩ := list_last c hne
  have hmost := hc.head mx pre.reverse (by rw [e]; simp)
  have hmx := hc.mem mx (by rw [e]; simp)
  rcases pre with _ | ⟨mn, A⟩
  · exfalso
    have hleast := hc.last [] mx (by rw [e]; simp)
    obtain ⟨x, hx, y, hy, hxy⟩ := h2
    have k1 : ∀ z ∈ l, z = mx := by
      intro z hz
      rcases hmost z hz with k | k
      · exact k
      · rcases hleast z hz with m | m
        · exact m
        · exact absurd (ltP_trans k m) (ltP_irrefl _)
    rw [k1 x hx, k1 y hy] at hxy
    exact ltP_irrefl _ hxy
  · have hleast := hc.last (A ++ [mx]).reverse mn (by rw [e]; simp)
    have hmn := hc.mem mn (by rw [e]; simp)
    refine ⟨mn, mx, A, by rw [e]; rfl, ?_, hmn, hmx, hleast, hmost⟩
    have hd := hc.desc
    rw [e] at hd
    have e2 : (mn :: A ++ [mx]).reverse = mx :: (A.reverse ++ [mn]) := by simp
    rw [e2] at hd
    exact hd.lt mn (by simp)
theorem least_unique {l : List HPt} {m m' : HPt} (h : m ∈ l) (h' : m' ∈ l) (k : ∀ y ∈ l, y = m ∨ ltP m y) (k' : ∀ y ∈ l, y = m' ∨ ltP m' y) : m = m' := by
  rcases k m' h' with a | a
  · exact a.symm
  · rcases k' m h with b | b
    · exact b
    · exact absurd (ltP_trans a b) (ltP_irrefl _)
theorem most_unique {l : List HPt} {m m' : HPt} (h : m ∈ l) (h' : m' ∈ l) (k : ∀ y ∈ l, y = m ∨ ltP y m) (k' : ∀ y ∈ l, y = m' ∨ ltP y m') : m = m' := by
  rcases k m' h' with a | a
  · exact a.symm
  · rcases k' m h with b | b
    · exact b
    · exact absurd (ltP_trans a b) (ltP_irrefl _)
theorem srt_two {l : List HPt} (hs : Srt l) (h : 2 ≤ l.length) : ∃ x ∈ l, ∃ y ∈ l, ltP x y := by
  rcases l with _ | ⟨a, _ | ⟨b, l⟩⟩
  · simp at h
  · simp at h
  · exact ⟨a, by simp, b, by simp, (List.pairwise_cons.1 hs).1 b (by simp)⟩
theorem hull_of {l : List HPt} (h : 2 ≤ (sortP l).length) : ∃ mn mx A B, HullOf l mn mx A B := by
  have hs := sort_srt l
  have h0 : sortP l ≠ [] := by intro e; rw [e] at h; simp at h
  obtain ⟨x, hx, y, hy, hxy⟩ := srt_two hs h
  have c1 := low_side h0 hs
  have c2 := up_side h0 hs
  obtain ⟨mn, mx, A, e1, l1, m1, m2, k1, k2⟩ := ends_of c1 ⟨x, hx, y, hy, hxy⟩
  have c2' := c2
  obtain ⟨mn', mx', B', e2, l2, m3, m4, k3, k4⟩ := ends_of c2' ⟨neP y, List.mem_map.2 ⟨y, List.mem_reverse.2 hy, rfl⟩, neP x, List.mem_map.2 ⟨x, List.mem_reverse.2 hx, rfl⟩, lt_ne.2 hxy⟩
  have back : ∀ z, z ∈ (sortP l).reverse.map neP → neP z ∈ sortP l := by
    intro z hz
    obtain ⟨q, hq, rfl⟩ := List.mem_map.1 hz
    rw [ne_ne]
    exact List.mem_reverse.1 hq
  have fwd : ∀ z, z ∈ sortP l → neP z ∈ (sortP l).reverse.map neP := fun z hz => List.mem_map.2 ⟨z, List.mem_reverse.2 hz, rfl⟩
  have u1 : mx = neP mn' := most_unique m2 (back _ m3) k2 (by
    intro z hz
    rcases k3 _ (fwd z hz) with k | k
    · left; rw [← k, ne_ne]
    · right
      have := lt_ne.2 k
      rwa [ne_ne] at this)
  have u2 : mn = neP mx' := least_unique m1 (back _ m4) k1 (by
    intro z hz
    rcases k4 _ (fwd z hz) with k | k
    · left; rw [← k, ne_ne]
    · right
      have := lt_ne.2 k
      rwa [ne_ne] at this)
  have e3 : sideP (sortP l).reverse = mx :: (B'.map neP ++ [mn]) := by
    have := congrArg (List.map neP) e2
    rw [ne_map] at this
    rw [this]
    simp only [List.map_cons, List.map_append, List.map_nil]
    rw [← u1, ← u2]
  have hsm := sort_mem l
  refine ⟨mn, mx, A, B'.map neP, e1, e3, l1, (hsm _).1 m1, (hsm _).1 m2, (fun y hy => k1 y ((hsm y).2 hy)), (fun y hy => k2 y ((hsm y).2 hy)), ?_, by rw [← e1]; exact c1, by rw [← e3]; exact c2⟩
  unfold cornersP
  rw [if_neg (by omega), e1, e3]
  have d1 : (mn :: (A ++ [mx])).dropLast = mn :: A := by rw [← List.cons_append, List.dropLast_concat]
  have d2 : (mx :: (B'.map neP ++ [mn])).dropLast = mx :: B'.map neP := by rw [← List.cons_append, List.dropLast_concat]
  rw [d1, d2]
/-- a point in the hull -/
structure InP (l : List HPt) (mn mx : HPt) (A B : List HPt) (p : HPt) : Prop where
  lo : ∀ a b, Adj a b (mn :: (A ++ [mx])) → 0 ≤ crossP a b p
  up : ∀ a b, Adj a b (mx :: (B ++ [mn])) → 0 ≤ crossP a b p
  least : p = mn ∨ ltP mn p
  most : p = mx ∨ ltP p mx
theorem HullOf.inP {l : List HPt} {mn mx : HPt} {A B : List HPt} (h : HullOf l mn mx A B) {p : HPt} (hp : p ∈ l) : InP l mn mx A B p := by
  refine ⟨?_, ?_, h.least p hp, h.most p hp⟩
  · intro a b hab
    exact above_adj.1 (h.clo.above p ((sort_mem l p).2 hp)) a b (adj_rev.2 hab)
  · intro a b hab
    have := above_adj.1 (h.cup.above (neP p) (List.mem_map.2 ⟨p, List.mem_reverse.2 ((sort_mem l p).2 hp), rfl⟩)) (neP a) (neP b) (adj_rev.2 (adj_map hab))
    rwa [cross_ne] at this
/-- the hull of a list between the corners and all that the hull contains -/
theorem corners_keep {l m : List HPt} {mn mx : HPt} {A B : List HPt} (h : HullOf l mn mx A B) (h1 : ∀ p ∈ cornersP l, p ∈ m) (h2 : ∀ p ∈ m, InP l mn mx A B p) : cornersP m = cornersP l ∧ HullOf m mn mx A B := by
  have hmn : mn ∈ m := h1 mn (by rw [h.hull]; simp)
  have hmx : mx ∈ m := h1 mx (by rw [h.hull]; simp)
  have hsm := sort_mem m
  have hs := sort_srt m
  have h0 : sortP m ≠ [] := by intro e; have := (hsm mn).2 hmn; rw [e] at this; simp at this
  have sublo : ∀ p ∈ mn :: (A ++ [mx]), p ∈ m := by
    intro p hp
    apply h1
    rw [h.hull]
    simp only [List.mem_cons, List.mem_append, List.not_mem_nil, or_false] at hp ⊢
    rcases hp with hp | hp | hp
    · exact .inl (.inl hp)
    · exact .inl (.inr hp)
    · exact .inr (.inl hp)
  have subup : ∀ p ∈ mx :: (B ++ [mn]), p ∈ m := by
    intro p hp
    apply h1
    rw [h.hull]
    simp only [List.mem_cons, List.mem_append, List.not_mem_nil, or_false] at hp ⊢
    rcases hp with hp | hp | hp
    · exact .inr (.inl hp)
    · exact .inr (.inr hp)
    · exact .inl (.inl hp)
  have clo : Chain (sortP m) (mn :: (A ++ [mx])).reverse := by
    refine ⟨h.clo.ne, h.clo.desc, h.clo.conv, ?_, ?_, ?_, ?_⟩
    · intro y hy
      exact above_adj.2 (fun a b hab => (h2 y ((hsm y).1 hy)).lo a b (adj_rev.1 hab))
    · intro s hs
      exact (hsm s).2 (sublo s (List.mem_reverse.1 hs))
    · intro t r e y hy
      have : t = mx := by simp at e; exact e.1.symm
      rw [this]
      exact (h2 y ((hsm y).1 hy)).most
    · intro pre q e y hy
      have : q = mn := by
        have := congrArg List.reverse e
        simp at this
        exact this.1.symm
      rw [this]
      exact (h2 y ((hsm y).1 hy)).least
  have cup : Chain ((sortP m).reverse.map neP) ((mx :: (B ++ [mn])).map neP).reverse := by
    have hy' : ∀ y, y ∈ (sortP m).reverse.map neP → ∃ q ∈ m, y = neP q := by
      intro y hy
      obtain ⟨q, hq, rfl⟩ := List.mem_map.1 hy
      exact ⟨q, (hsm q).1 (List.mem_reverse.1 hq), rfl⟩
    refine ⟨h.cup.ne, h.cup.desc, h.cup.conv, ?_, ?_, ?_, ?_⟩
    · intro y hy
      obtain ⟨q, hq, rfl⟩ := hy' y hy
      refine above_adj.2 (fun a b hab => ?_)
      have := (h2 q hq).up (neP a) (neP b) (adj_map' (adj_rev.1 hab))
      rw [← cross_ne] at this
      rwa [ne_ne, ne_ne] at this
    · intro s hs
      obtain ⟨q, hq, rfl⟩ := List.mem_map.1 (List.mem_reverse.1 hs)
      exact List.mem_map.2 ⟨q, List.mem_reverse.2 ((hsm q).2 (subup q hq)), rfl⟩
    · intro t r e y hy
      obtain ⟨q, hq, rfl⟩ := hy' y hy
      have : t = neP mn := by simp at e; exact e.1.symm
      rw [this]
      rcases (h2 q hq).least with k | k
      · left; rw [k]
      · right; exact lt_ne.2 k
    · intro pre r e y hy
      obtain ⟨q, hq, rfl⟩ := hy' y hy
      have : r = neP mx := by
        have := congrArg List.reverse e
        simp at this
        exact this.1.symm
      rw [this]
      rcases (h2 q hq).most with k | k
      · left; rw [k]
      · right; exact lt_ne.2 k
  have e1 : sideP (sortP m) = mn :: (A ++ [mx]) := by
    have := chain_unique _ _ _ (low_side h0 hs).toP clo.toP
    have := congrArg List.reverse this
    simpa using this
  have e2 : sideP (sortP m).reverse = mx :: (B ++ [mn]) := by
    have := chain_unique _ _ _ (up_side h0 hs).toP cup.toP
    have := congrArg List.reverse this
    rw [List.reverse_reverse, List.reverse_reverse] at this
    have := congrArg (List.map neP) this
    rwa [ne_map, ne_map] at this
  have hlen : ¬ (sortP m).length < 2 := by
    intro hl
    have h3 := (hsm mn).2 hmn
    have h4 := (hsm mx).2 hmx
    rcases hq : sortP m with _ | ⟨a, _ | ⟨b, r⟩⟩
    · exact h0 hq
    · rw [hq] at h3 h4
      simp at h3 h4
      have := h.lt
      rw [h3, h4] at this
      exact ltP_irrefl _ this
    · rw [hq] at hl; simp only [List.length_cons] at hl; omega
  have e3 : cornersP m = (mn :: A) ++ (mx :: B) := by
    unfold cornersP
    rw [if_neg hlen, e1, e2]
    have d1 : (mn :: (A ++ [mx])).dropLast = mn :: A := by rw [← List.cons_append, List.dropLast_concat]
    have d2 : (mx :: (B ++ [mn])).dropLast = mx :: B := by rw [← List.cons_append, List.dropLast_concat]
    rw [d1, d2]
  exact ⟨by rw [e3, h.hull], e1, e2, h.lt, hmn, hmx, fun y hy => (h2 y hy).least, fun y hy => (h2 y hy).most, e3, clo, cup⟩
end Go.Proofs.Ytkkeblgahbpmmaa
/- The corners of a hull and their sides; two hulls that some direction parts are parted by one of the definition's directions; what a hull contains. -/
namespace Go.Proofs.Ytkkeblgahbpmmaa
open Go.RowKit

theorem HullOf.sub {l : List HPt} {mn mx : HPt} {A B : List HPt} (h : HullOf l mn mx A B) : ∀ p ∈ cornersP l, p ∈ l := by
  have low : ∀ p ∈ mn :: (A ++ [mx]), p ∈ l := fun p hp => (sort_mem l p).1 (h.clo.mem p (List.mem_reverse.2 hp))
  have upp : ∀ p ∈ mx :: (B ++ [mn]), p ∈ l := by
    intro p hp
    obtain ⟨q, hq, e⟩ := List.mem_map.1 (h.cup.mem (neP p) (List.mem_reverse.2 (List.mem_map.2 ⟨p, hp, rfl⟩)))
    have : q = p := by
      have := congrArg neP e
      rwa [ne_ne, ne_ne] at this
    rw [← this]
    exact (sort_mem l q).1 (List.mem_reverse.1 hq)
  intro p hp
  rw [h.hull] at hp
  rcases List.mem_append.1 hp with hp | hp
  · exact low p (by simp only [List.mem_cons, List.mem_append] at hp ⊢; rcases hp with hp | hp <;> simp [hp])
  · exact upp p (by simp only [List.mem_cons, List.mem_append] at hp ⊢; rcases hp with hp | hp <;> simp [hp])
theorem sort_sort {l : List HPt} (h : Srt l) : sortP l = l := srt_unique (sort_srt l) h (fun y => sort_mem l y)
/-- the hull of a hull is that hull -/
theorem corners_idem (l : List HPt) : cornersP (cornersP l) = cornersP l := by
  by_cases h : (sortP l).length < 2
  · have e : cornersP l = sortP l := by unfold cornersP; rw [if_pos h]
    rw [e]
    unfold cornersP
    rw [sort_sort (sort_srt l), if_pos h]
  · obtain ⟨mn, mx, A, B, H⟩ := hull_of (l := l) (by omega)
    exact (corners_keep H (fun p hp => hp) (fun p hp => H.inP (H.sub p hp))).1
theorem adj_right {a b : HPt} {l t : List HPt} (h : Adj a b l) : Adj a b (l ++ t) := by
  obtain ⟨p, s, rfl⟩ := h
  exact ⟨p, s ++ t, by simp⟩
theorem adj_left {a b : HPt} {l t : List HPt} (h : Adj a b l) : Adj a b (t ++ l) := by
  obtain ⟨p, s, rfl⟩ := h
  exact ⟨t ++ p, s, by simp⟩
/-- the directions at a side -/
theorem side_dirs {m : HPt} {T : List HPt} {a b : HPt} (hab : Adj a b ((m :: T) ++ [m])) : ∀ d ∈ rdP (b.1 - a.1, b.2 - a.2), d ∈ rdirs (m :: T) := by
  obtain ⟨p, s, e⟩ := hab
  have hlen : p.length + s.length + 2 = T.length + 2 := by
    have := congrArg List.length e
    simp only [List.length_append, List.length_cons, List.length_nil] at this
    omega
  have hi : p.length < (m :: T).length := by rw [List.length_cons]; omega
  have ha : (m :: T)[p.length]? = some a := by
    have h1 : ((m :: T) ++ [m])[p.length]? = some a := by rw [e, List.getElem?_append_right (Nat.le_refl _), Nat.sub_self]; rfl
    rwa [List.getElem?_append_left hi] at h1
  have hb : ((m :: T) ++ [m])[p.length + 1]? = some b := by rw [e, List.getElem?_append_right (by omega), show p.length + 1 - p.length = 1 by omega]; rfl
  have hga : (m :: T).getD p.length (0, 0) = a := by rw [List.getD_eq_getElem?_getD, ha]; rfl
  have hgb : nxtP (m :: T) p.length = b := by
    unfold nxtP
    by_cases h : p.length + 1 < (m :: T).length
    · rw [Nat.mod_eq_of_lt h, List.getD_eq_getElem?_getD]
      rw [List.getElem?_append_left h] at hb
      rw [hb]; rfl
    · have e2 : p.length + 1 = (m :: T).length := by omega
      rw [e2, Nat.mod_self]
      rw [e2, List.getElem?_append_right (Nat.le_refl _), Nat.sub_self] at hb
      simp at hb
      rw [← hb]; rfl
  intro d hd
  refine List.mem_flatMap.2 ⟨p.length, List.mem_range.2 hi, ?_⟩
  unfold sdP
  rw [hga, hgb]
  exact hd
theorem rd_ne {s d : HPt} (h : d ∈ rdP (-s.1, -s.2)) : d ∈ rdP s := by
  unfold rdP at *
  simp only [List.mem_cons, List.not_mem_nil, or_false, Int.neg_neg] at *
  rcases h with h | h | h | h <;> simp [h]
theorem par_dot {e u z : HPt} (hu : posV u) (hz : posV z) (h : crs u z = 0) (he : dotP e u ≤ 0) : dotP e z ≤ 0 := by
  obtain ⟨e1, e2⟩ := e
  obtain ⟨u1, u2⟩ := u
  obtain ⟨z1, z2⟩ := z
  unfold posV crs dotP at *
  simp only at *
  have hz0 : 0 ≤ z1 := by omega
  rcases hu with hu | ⟨hu1, hu2⟩
  · have k : u1 * (e1 * z1 + e2 * z2) = z1 * (e1 * u1 + e2 * u2) + e2 * (u1 * z2 - u2 * z1) := by grind
    rw [h, Int.mul_zero, Int.add_zero] at k
    have k2 : u1 * (e1 * z1 + e2 * z2) ≤ 0 := by
      rw [k]
      exact Int.mul_nonpos_of_nonneg_of_nonpos hz0 he
    by_cases k3 : e1 * z1 + e2 * z2 ≤ 0
    · exact k3
    · have := Int.mul_pos hu (show 0 < e1 * z1 + e2 * z2 by omega)
      omega
  · subst hu1
    have hz1 : z1 = 0 := by
      have k : u2 * z1 = 0 := by rw [Int.zero_mul] at h; omega
      rcases Int.mul_eq_zero.1 k with k | k
      · omega
      · exact k
    subst hz1
    have hz2 : 0 < z2 := by omega
    simp only [Int.mul_zero, Int.zero_add] at he ⊢
    have he2 : e2 ≤ 0 := by
      by_cases k : e2 ≤ 0
      · exact k
      · have := Int.mul_pos (show 0 < e2 by omega) hu2
        omega
    exact Int.mul_nonpos_of_nonpos_of_nonneg he2 (by omega)
theorem dot_dif (e x p : HPt) : dotP e (dif x p) = dotP e x - dotP e p := by unfold dotP dif; simp only; grind
theorem loc_zero {p n r x e : HPt} (h0 : crossP r p n = 0) (h2 : 0 ≤ crossP p n x) (h3 : 0 ≤ crossP r p x) (hn : ltP p n) (hr : ltP p r) (hx : x = p ∨ ltP p x) (eu : dotP e (dif n p) ≤ 0) : dotP e x ≤ dotP e p := by
  rcases hx with rfl | hx
  · exact Int.le_refl _
  · have c1 : crs (dif n p) (dif r p) = 0 := by
      have : crs (dif n p) (dif r p) = crossP r p n := by unfold crossP crs dif; simp only; grind
      rw [this, h0]
    have c3 : 0 ≤ crs (dif x p) (dif r p) := by
      have : crs (dif x p) (dif r p) = crossP r p x := by unfold crossP crs dif; simp only; grind
      rw [this]; exact h3
    have c2 : crs (dif n p) (dif x p) = 0 := by
      rcases Int.lt_or_eq_of_le h2 with k | k
      · have := crs_trans_l (pos_of_lt hn) (pos_of_lt hx) (pos_of_lt hr) k c3
        omega
      · exact k.symm
    have := par_dot (pos_of_lt hn) (pos_of_lt hx) c2 eu
    rw [dot_dif] at this
    omega
theorem dot_ne (e p : HPt) : dotP (neP e) (neP p) = dotP e p := by unfold dotP neP; simp only; grind
theorem dif_ne (a b : HPt) : dif (neP a) (neP b) = neP (dif a b) := by unfold dif neP; simp only; ext <;> simp <;> omega
/-- what holds of the neighbours of a corner holds of the whole hull -/
theorem loc_lem {p n r x e : HPt} (h1 : 0 ≤ crossP r p n) (h2 : 0 ≤ crossP p n x) (h3 : 0 ≤ crossP r p x)
    (hz : 0 < crossP r p n ∨ (ltP p n ∧ ltP p r ∧ (x = p ∨ ltP p x)) ∨ (ltP n p ∧ ltP r p ∧ (x = p ∨ ltP x p)))
    (eu : dotP e (dif n p) ≤ 0) (ew : dotP e (dif r p) ≤ 0) : dotP e x ≤ dotP e p := by
  rcases Int.lt_or_eq_of_le h1 with hD | hD
  · have k : crossP r p n * (dotP e x - dotP e p) = crossP r p x * dotP e (dif n p) + crossP p n x * dotP e (dif r p) := by unfold crossP dotP dif; simp only; grind
    have k1 := Int.mul_nonpos_of_nonneg_of_nonpos h3 eu
    have k2 := Int.mul_nonpos_of_nonneg_of_nonpos h2 ew
    by_cases k3 : dotP e x ≤ dotP e p
    · exact k3
    · have := Int.mul_pos hD (show 0 < dotP e x - dotP e p by omega)
      omega
  · rcases hz with hz | ⟨a, b, c⟩ | ⟨a, b, c⟩
    · omega
    · exact loc_zero hD.symm h2 h3 a b c eu
    · have := loc_zero (p := neP p) (n := neP n) (r := neP r) (x := neP x) (e := neP e) (by rw [cross_ne]; exact hD.symm) (by rw [cross_ne]; exact h2) (by rw [cross_ne]; exact h3) (lt_ne.2 a) (lt_ne.2 b) (by
        rcases c with c | c
        · left; rw [c]
        · right; exact lt_ne.2 c) (by rw [dif_ne, dot_ne]; exact eu)
      rwa [dot_ne, dot_ne] at this
/-- a corner of a hull: the two sides at it say all -/
structure Vtx (L H : List HPt) (p u w : HPt) : Prop where
  loc : ∀ e, dotP e u ≤ 0 → dotP e w ≤ 0 → ∀ x ∈ L, dotP e x ≤ dotP e p
  du : ∀ d ∈ rdP u, d ∈ rdirs H
  dw : ∀ d ∈ rdP w, d ∈ rdirs H
  triv : u = (0, 0) → H = [p]
  eu : ∃ n ∈ H, u = dif n p
  ew : ∃ r ∈ H, w = dif r p
theorem Desc.suffix : ∀ {a b : List HPt}, Desc (a ++ b) → Desc b
  | [], _, h => h
  | _ :: a, _, h => Desc.suffix (a := a) h.tail
theorem Conv.suffix : ∀ {a b : List HPt}, Conv (a ++ b) → Conv b
  | [], _, h => h
  | _ :: a, _, h => Conv.suffix (a := a) h.tail
theorem adj_lt {c : List HPt} {a b : HPt} (h : Desc c.reverse) (hab : Adj a b c) : ltP a b := by
  obtain ⟨p, s, rfl⟩ := hab
  have e : (p ++ a :: b :: s).reverse = s.reverse ++ (b :: a :: p.reverse) := by simp
  rw [e] at h
  exact h.suffix.1
theorem conv_mid {X Y : List HPt} {r p n : HPt} (h : Conv (X ++ r :: p :: n :: Y).reverse) : 0 < crossP r p n := by
  have e : (X ++ r :: p :: n :: Y).reverse = Y.reverse ++ (n :: p :: r :: X.reverse) := by simp
  rw [e] at h
  exact h.suffix.1
theorem mid_list {P Q : List HPt} {p : HPt} (hP : P ≠ []) (hQ : Q ≠ []) : ∃ X r n Y, P ++ p :: Q = X ++ r :: p :: n :: Y := by
  obtain ⟨X, r, rfl⟩ := list_last P hP
  rcases Q with _ | ⟨n, Y⟩
  · exact absurd rfl hQ
  · exact ⟨X, r, n, Y, by simp⟩
section
variable {l : List HPt} {mn mx : HPt} {A B : List HPt}
theorem HullOf.side {a b : HPt} (h : HullOf l mn mx A B) (hab : Adj a b (mn :: (A ++ [mx])) ∨ Adj a b (mx :: (B ++ [mn]))) : (∀ d ∈ rdP (dif b a), d ∈ rdirs (cornersP l)) ∧ ∀ p ∈ l, 0 ≤ crossP a b p := by
  constructor
  · have e : cornersP l = mn :: (A ++ mx :: B) := by rw [h.hull]; rfl
    rw [e]
    refine side_dirs ?_
    rcases hab with k | k
    · have := adj_right (t := B ++ [mn]) k
      have e2 : mn :: (A ++ [mx]) ++ (B ++ [mn]) = mn :: (A ++ mx :: B) ++ [mn] := by simp
      rwa [e2] at this
    · have := adj_left (t := mn :: A) k
      have e2 : mn :: A ++ mx :: (B ++ [mn]) = mn :: (A ++ mx :: B) ++ [mn] := by simp
      rwa [e2] at this
  · intro p hp
    have := h.inP hp
    rcases hab with k | k
    · exact this.lo a b k
    · exact this.up a b k
theorem HullOf.onto {q : HPt} (h : HullOf l mn mx A B) (hq : q ∈ mn :: (A ++ [mx]) ∨ q ∈ mx :: (B ++ [mn])) : q ∈ cornersP l := by
  rw [h.hull]
  simp only [List.mem_cons, List.mem_append, List.not_mem_nil, or_false] at hq ⊢
  rcases hq with (hq | hq | hq) | (hq | hq | hq) <;> simp [hq]
theorem vtx_mk {r p n : HPt} (h : HullOf l mn mx A B) (hpn : Adj p n (mn :: (A ++ [mx])) ∨ Adj p n (mx :: (B ++ [mn]))) (hrp : Adj r p (mn :: (A ++ [mx])) ∨ Adj r p (mx :: (B ++ [mn]))) (hD : 0 ≤ crossP r p n) (hne : ¬ n = p)
    (hz : 0 < crossP r p n ∨ (ltP p n ∧ ltP p r ∧ ∀ x ∈ l, x = p ∨ ltP p x) ∨ (ltP n p ∧ ltP r p ∧ ∀ x ∈ l, x = p ∨ ltP x p)) : Vtx l (cornersP l) p (dif n p) (dif r p) := by
  obtain ⟨s1, k1⟩ := h.side hpn
  obtain ⟨s2, k2⟩ := h.side hrp
  refine ⟨?_, s1, ?_, ?_, ?_, ?_⟩
  · intro e eu ew x hx
    refine loc_lem hD (k1 x hx) (k2 x hx) ?_ eu ew
    rcases hz with z | ⟨a, b, c⟩ | ⟨a, b, c⟩
    · exact .inl z
    · exact .inr (.inl ⟨a, b, c x hx⟩)
    · exact .inr (.inr ⟨a, b, c x hx⟩)
  · intro d hd
    apply s2
    apply rd_ne
    have e : dif r p = (-(dif p r).1, -(dif p r).2) := by unfold dif; ext <;> simp only <;> omega
    rwa [e] at hd
  · intro e
    exfalso
    apply hne
    unfold dif at e
    simp only [Prod.mk.injEq] at e
    ext <;> omega
  · exact ⟨n, h.onto (hpn.imp (fun k => (adj_mem k).2) (fun k => (adj_mem k).2)), rfl⟩
  · exact ⟨r, h.onto (hrp.imp (fun k => (adj_mem k).1) (fun k => (adj_mem k).1)), rfl⟩
theorem HullOf.adj_lo {a b : HPt} (h : HullOf l mn mx A B) (hab : Adj a b (mn :: (A ++ [mx]))) : ltP a b := adj_lt h.clo.desc hab
theorem HullOf.adj_up {a b : HPt} (h : HullOf l mn mx A B) (hab : Adj a b (mx :: (B ++ [mn]))) : ltP b a := lt_ne.1 (adj_lt h.cup.desc (adj_map hab))
theorem ne_of_lt {a b : HPt} (h : ltP a b) : ¬ a = b := fun e => ltP_irrefl b (e ▸ h)
theorem vtx_of {p : HPt} (h : HullOf l mn mx A B) (hp : p ∈ cornersP l) : ∃ u w, Vtx l (cornersP l) p u w := by
  rw [h.hull] at hp
  rcases List.mem_append.1 hp with hp | hp
  · rcases List.mem_cons.1 hp with rfl | hp
    · obtain ⟨n, Y, e1⟩ : ∃ n Y, A ++ [mx] = n :: Y := by
        rcases A with _ | ⟨a, A⟩
        · exact ⟨mx, [], rfl⟩
        · exact ⟨a, A ++ [mx], rfl⟩
      obtain ⟨X, r, e2⟩ := list_last (mx :: B) (by simp)
      have a1 : Adj p n (p :: (A ++ [mx])) := ⟨[], Y, by rw [e1]; rfl⟩
      have a2 : Adj r p (mx :: (B ++ [p])) := ⟨X, [], by rw [← List.cons_append, e2]; simp⟩
      have l1 := h.adj_lo a1
      have l2 := h.adj_up a2
      have hn : n ∈ l := (sort_mem l n).1 (h.clo.mem n (List.mem_reverse.2 (adj_mem a1).2))
      exact ⟨_, _, vtx_mk h (.inl a1) (.inr a2) ((h.inP hn).up _ _ a2) (fun e => ne_of_lt l1 e.symm) (.inr (.inl ⟨l1, l2, h.least⟩))⟩
    · obtain ⟨A1, A2, e⟩ := List.append_of_mem hp
      obtain ⟨X, r, n, Y, e2⟩ := mid_list (P := mn :: A1) (Q := A2 ++ [mx]) (p := p) (by simp) (by simp)
      have e3 : mn :: (A ++ [mx]) = X ++ r :: p :: n :: Y := by rw [← e2, e]; simp
      have a1 : Adj p n (mn :: (A ++ [mx])) := ⟨X ++ [r], Y, by rw [e3]; simp⟩
      have a2 : Adj r p (mn :: (A ++ [mx])) := ⟨X, n :: Y, e3⟩
      have hc := h.clo.conv
      rw [e3] at hc
      have hD := conv_mid hc
      exact ⟨_, _, vtx_mk h (.inl a1) (.inl a2) (Int.le_of_lt hD) (fun e => ne_of_lt (h.adj_lo a1) e.symm) (.inl hD)⟩
  · rcases List.mem_cons.1 hp with rfl | hp
    · obtain ⟨n, Y, e1⟩ : ∃ n Y, B ++ [mn] = n :: Y := by
        rcases B with _ | ⟨a, B⟩
        · exact ⟨mn, [], rfl⟩
        · exact ⟨a, B ++ [mn], rfl⟩
      obtain ⟨X, r, e2⟩ := list_last (mn :: A) (by simp)
      have a1 : Adj p n (p :: (B ++ [mn])) := ⟨[], Y, by rw [e1]; rfl⟩
      have a2 : Adj r p (mn :: (A ++ [p])) := ⟨X, [], by rw [← List.cons_append, e2]; simp⟩
      have l1 := h.adj_up a1
      have l2 := h.adj_lo a2
      have hn : n ∈ l := by
        have k := (h.cup.mem (neP n) (List.mem_reverse.2 (List.mem_map.2 ⟨n, (adj_mem a1).2, rfl⟩)))
        obtain ⟨q, hq, e⟩ := List.mem_map.1 k
        have : q = n := by
          have := congrArg neP e
          rwa [ne_ne, ne_ne] at this
        rw [← this]
        exact (sort_mem l q).1 (List.mem_reverse.1 hq)
      exact ⟨_, _, vtx_mk h (.inr a1) (.inl a2) ((h.inP hn).lo _ _ a2) (ne_of_lt l1) (.inr (.inr ⟨l1, l2, h.most⟩))⟩
    · obtain ⟨B1, B2, e⟩ := List.append_of_mem hp
      obtain ⟨X, r, n, Y, e2⟩ := mid_list (P := mx :: B1) (Q := B2 ++ [mn]) (p := p) (by simp) (by simp)
      have e3 : mx :: (B ++ [mn]) = X ++ r :: p :: n :: Y := by rw [← e2, e]; simp
      have a1 : Adj p n (mx :: (B ++ [mn])) := ⟨X ++ [r], Y, by rw [e3]; simp⟩
      have a2 : Adj r p (mx :: (B ++ [mn])) := ⟨X, n :: Y, e3⟩
      have hc := h.cup.conv
      rw [e3] at hc
      have e4 : (X ++ r :: p :: n :: Y).map neP = X.map neP ++ neP r :: neP p :: neP n :: Y.map neP := by simp
      rw [e4] at hc
      have hD := conv_mid hc
      rw [cross_ne] at hD
      exact ⟨_, _, vtx_mk h (.inr a1) (.inr a2) (Int.le_of_lt hD) (ne_of_lt (h.adj_up a1)) (.inl hD)⟩
end
/-- each corner of a hull has its two sides -/
theorem hull_vtx {H : List HPt} (hH : cornersP H = H) {p : HPt} (hp : p ∈ H) : ∃ u w, Vtx H H p u w := by
  by_cases h : (sortP H).length < 2
  · have e : H = sortP H := by
      have : cornersP H = sortP H := by unfold cornersP; rw [if_pos h]
      rw [← this, hH]
    rw [← e] at h
    rcases H with _ | ⟨a, _ | ⟨b, r⟩⟩
    · simp at hp
    · have : p = a := by simpa using hp
      subst this
      have hd : ∀ d ∈ rdP (0, 0), d ∈ rdirs [p] := by
        intro d hd
        refine List.mem_flatMap.2 ⟨0, by simp, ?_⟩
        have : sdP [p] 0 = (0, 0) := by unfold sdP nxtP; simp
        rw [this]
        exact hd
      have h00 : ((0, 0) : HPt) = dif p p := by unfold dif; simp
      refine ⟨(0, 0), (0, 0), ?_, hd, hd, fun _ => rfl, ⟨p, by simp, h00⟩, ⟨p, by simp, h00⟩⟩
      intro e _ _ x hx
      have : x = p := by simpa using hx
      rw [this]; exact Int.le_refl _
    · simp only [List.length_cons] at h; omega
  · obtain ⟨mn, mx, A, B, k⟩ := hull_of (l := H) (by omega)
    have := vtx_of k (p := p) (by rw [hH]; exact hp)
    rwa [hH] at this
/-! ### directions that part -/
def perp (u : HPt) : HPt := (-u.2, u.1)
theorem dot_perp (u x : HPt) : dotP (perp u) x = crs u x := by unfold dotP perp crs; simp only; grind
theorem dot_neg (u x : HPt) : dotP (neP u) x = - dotP u x := by unfold dotP neP; simp only; grind
theorem plu (d a b c : HPt) : dotP d a * crs b c + dotP d b * crs c a + dotP d c * crs a b = 0 := by unfold dotP crs; grind
theorem crs_self (u : HPt) : crs u u = 0 := by unfold crs; grind
theorem crs_tr {d a b c : HPt} (ha : dotP d a < 0) (hb : dotP d b < 0) (hc : dotP d c < 0) (h1 : 0 ≤ crs a b) (h2 : 0 ≤ crs b c) : 0 ≤ crs a c := by
  have k := plu d a b c
  rw [crs_anti c a] at k
  have k1 : dotP d a * crs b c ≤ 0 := Int.mul_nonpos_of_nonpos_of_nonneg (Int.le_of_lt ha) h2
  have k2 : dotP d c * crs a b ≤ 0 := Int.mul_nonpos_of_nonpos_of_nonneg (Int.le_of_lt hc) h1
  by_cases h : 0 ≤ crs a c
  · exact h
  · have := Int.mul_pos_of_neg_of_neg hb (show crs a c < 0 by omega)
    rw [Int.mul_neg] at k
    omega
/-- the outermost of some vectors of a half-plane, on the left -/
theorem extreme_l {d : HPt} : ∀ (U : List HPt), U ≠ [] → (∀ u ∈ U, dotP d u < 0) → ∃ m ∈ U, ∀ u ∈ U, 0 ≤ crs u m
  | [], h, _ => absurd rfl h
  | [a], _, _ => ⟨a, by simp, fun u hu => by have : u = a := by simpa using hu
                                             rw [this, crs_self]; exact Int.le_refl _⟩
  | a :: b :: U, _, h => by
    obtain ⟨m, hm, k⟩ := extreme_l (b :: U) (by simp) (fun u hu => h u (List.mem_cons_of_mem _ hu))
    have hmd := h m (List.mem_cons_of_mem _ hm)
    have had := h a (by simp)
    by_cases hc : 0 ≤ crs m a
    · refine ⟨a, by simp, fun u hu => ?_⟩
      rcases List.mem_cons.1 hu with rfl | hu
      · rw [crs_self]; exact Int.le_refl _
      · exact crs_tr (h u (List.mem_cons_of_mem _ hu)) hmd had (k u hu) hc
    · refine ⟨m, List.mem_cons_of_mem _ hm, fun u hu => ?_⟩
      rcases List.mem_cons.1 hu with rfl | hu
      · rw [crs_anti]; omega
      · exact k u hu
theorem extreme_r {d : HPt} : ∀ (U : List HPt), U ≠ [] → (∀ u ∈ U, dotP d u < 0) → ∃ m ∈ U, ∀ u ∈ U, 0 ≤ crs m u
  | [], h, _ => absurd rfl h
  | [a], _, _ => ⟨a, by simp, fun u hu => by have : u = a := by simpa using hu
                                             rw [this, crs_self]; exact Int.le_refl _⟩
  | a :: b :: U, _, h => by
    obtain ⟨m, hm, k⟩ := extreme_r (b :: U) (by simp) (fun u hu => h u (List.mem_cons_of_mem _ hu))
    have hmd := h m (List.mem_cons_of_mem _ hm)
    have had := h a (by simp)
    by_cases hc : 0 ≤ crs a m
    · refine ⟨a, by simp, fun u hu => ?_⟩
      rcases List.mem_cons.1 hu with rfl | hu
      · rw [crs_self]; exact Int.le_refl _
      · exact crs_tr had hmd (h u (List.mem_cons_of_mem _ hu)) hc (k u hu)
    · refine ⟨m, List.mem_cons_of_mem _ hm, fun u hu => ?_⟩
      rcases List.mem_cons.1 hu with rfl | hu
      · rw [crs_anti]; omega
      · exact k u hu
theorem mem_rd {u : HPt} : u ∈ rdP u ∧ neP u ∈ rdP u ∧ perp u ∈ rdP u ∧ neP (perp u) ∈ rdP u := by
  unfold rdP neP perp
  simp
theorem dot_zero (d : HPt) : dotP d (0, 0) = 0 := by unfold dotP; simp
theorem self_pos {v : HPt} (h : ¬ v = (0, 0)) : 0 < dotP v v := by
  obtain ⟨a, b⟩ := v
  unfold dotP
  simp only
  have h1 : 0 ≤ a * a := by rcases Int.le_total 0 a with k | k
                            · exact Int.mul_nonneg k k
                            · exact Int.mul_nonneg_of_nonpos_of_nonpos k k
  have h2 : 0 ≤ b * b := by rcases Int.le_total 0 b with k | k
                            · exact Int.mul_nonneg k k
                            · exact Int.mul_nonneg_of_nonpos_of_nonpos k k
  rcases Int.lt_or_eq_of_le h1 with k | k
  · omega
  · rcases Int.lt_or_eq_of_le h2 with m | m
    · omega
    · exfalso
      apply h
      have ha : a = 0 := by rcases Int.mul_eq_zero.1 k.symm with q | q <;> exact q
      have hb : b = 0 := by rcases Int.mul_eq_zero.1 m.symm with q | q <;> exact q
      rw [ha, hb]
/-- of a direction that some vectors do not follow, and another one does, comes one along or across one of them -/
theorem part_vec (U : List HPt) (d v : HPt) (hU : ∀ u ∈ U, dotP d u ≤ 0) (hv : 0 < dotP d v) : (∀ u ∈ U, u = (0, 0)) ∨ ∃ u ∈ U, ∃ e ∈ rdP u, (∀ x ∈ U, dotP e x ≤ 0) ∧ 0 < dotP e v := by
  by_cases h0 : ∀ u ∈ U, u = (0, 0)
  · exact .inl h0
  · right
    by_cases hz : ∃ u ∈ U, u ≠ (0, 0) ∧ dotP d u = 0
    · obtain ⟨u, hu, hne, hdu⟩ := hz
      have hn := self_pos hne
      -- |u|² d = crs u d · perp u
      have id : ∀ x, dotP u u * dotP d x = crs u d * dotP (perp u) x := by
        intro x
        have e1 : dotP u u * dotP d x = dotP d u * dotP u x + crs u d * dotP (perp u) x := by unfold dotP crs perp; simp only; grind
        rw [e1, hdu, Int.zero_mul, Int.zero_add]
      have hc : crs u d ≠ 0 := by
        intro k
        have := id v
        rw [k, Int.zero_mul] at this
        have := Int.mul_pos hn hv
        omega
      rcases Int.lt_or_lt_of_ne hc with k | k
      · refine ⟨u, hu, neP (perp u), mem_rd.2.2.2, ?_, ?_⟩
        · intro x hx
          rw [dot_neg]
          have h1 := id x
          have h2 := Int.mul_nonpos_of_nonneg_of_nonpos (Int.le_of_lt hn) (hU x hx)
          by_cases h3 : 0 ≤ dotP (perp u) x
          · omega
          · have := Int.mul_pos_of_neg_of_neg k (show dotP (perp u) x < 0 by omega)
            omega
        · rw [dot_neg]
          have h1 := id v
          have h2 := Int.mul_pos hn hv
          by_cases h3 : 0 ≤ dotP (perp u) v
          · have := Int.mul_nonpos_of_nonpos_of_nonneg (Int.le_of_lt k) h3
            omega
          · omega
      · refine ⟨u, hu, perp u, mem_rd.2.2.1, ?_, ?_⟩
        · intro x hx
          have h1 := id x
          have h2 := Int.mul_nonpos_of_nonneg_of_nonpos (Int.le_of_lt hn) (hU x hx)
          by_cases h3 : dotP (perp u) x ≤ 0
          · exact h3
          · have := Int.mul_pos k (show 0 < dotP (perp u) x by omega)
            omega
        · have h1 := id v
          have h2 := Int.mul_pos hn hv
          by_cases h3 : 0 < dotP (perp u) v
          · exact h3
          · have := Int.mul_nonpos_of_nonneg_of_nonpos (Int.le_of_lt k) (show dotP (perp u) v ≤ 0 by omega)
            omega
    · have hV : ∀ u ∈ U.filter (fun u => decide (u ≠ (0, 0))), dotP d u < 0 := by
        intro u hu
        obtain ⟨a, b⟩ := List.mem_filter.1 hu
        have b' : u ≠ (0, 0) := by simpa using b
        have h1 := hU u a
        rcases Int.lt_or_eq_of_le h1 with k | k
        · exact k
        · exact absurd ⟨u, a, b', k⟩ hz
      have hVne : U.filter (fun u => decide (u ≠ (0, 0))) ≠ [] := by
        intro e
        apply h0
        intro u hu
        by_cases k : u = (0, 0)
        · exact k
        · have : u ∈ U.filter (fun u => decide (u ≠ (0, 0))) := List.mem_filter.2 ⟨hu, by simpa using k⟩
          rw [e] at this
          simp at this
      obtain ⟨L, hL, kL⟩ := extreme_l _ hVne hV
      obtain ⟨R, hR, kR⟩ := extreme_r _ hVne hV
      have toU : ∀ {P : HPt → Prop}, P (0, 0) → (∀ u ∈ U.filter (fun u => decide (u ≠ (0, 0))), P u) → ∀ u ∈ U, P u := by
        intro P p0 pf u hu
        by_cases k : u = (0, 0)
        · rw [k]; exact p0
        · exact pf u (List.mem_filter.2 ⟨hu, by simpa using k⟩)
      have hLU := (List.mem_filter.1 hL).1
      have hRU := (List.mem_filter.1 hR).1
      have hdL := hV L hL
      have hdR := hV R hR
      have hD := kL R hR
      rcases Int.lt_or_eq_of_le hD with hD | hD
      · have id : crs R L * dotP d v = crs v L * dotP d R + crs R v * dotP d L := by unfold dotP crs; grind
        have h1 := Int.mul_pos hD hv
        by_cases h2 : 0 ≤ crs v L
        · have h3 := Int.mul_nonpos_of_nonneg_of_nonpos h2 (Int.le_of_lt hdR)
          by_cases h4 : 0 ≤ crs R v
          · have := Int.mul_nonpos_of_nonneg_of_nonpos h4 (Int.le_of_lt hdL)
            omega
          · refine ⟨R, hRU, neP (perp R), mem_rd.2.2.2, ?_, ?_⟩
            · apply toU
              · rw [dot_zero]; exact Int.le_refl _
              · intro u hu
                rw [dot_neg, dot_perp]
                have := kR u hu
                omega
            · rw [dot_neg, dot_perp]; omega
        · refine ⟨L, hLU, perp L, mem_rd.2.2.1, ?_, ?_⟩
          · apply toU
            · rw [dot_zero]; exact Int.le_refl _
            · intro u hu
              rw [dot_perp, crs_anti]
              have := kL u hu
              omega
          · rw [dot_perp, crs_anti]; omega
      · -- all on one ray
        have ray : ∀ u ∈ U.filter (fun u => decide (u ≠ (0, 0))), crs u L = 0 := by
          intro u hu
          have k := plu d R u L
          rw [crs_anti L R, ← hD] at k
          have k1 := kL u hu
          have k2 := kR u hu
          have k3 := Int.mul_nonpos_of_nonpos_of_nonneg (Int.le_of_lt hdL) k2
          rcases Int.lt_or_eq_of_le k1 with m | m
          · have := Int.mul_neg_of_neg_of_pos hdR m
            simp at k
            omega
          · exact m.symm
        rcases Int.lt_trichotomy (crs L v) 0 with c | c | c
        · refine ⟨L, hLU, neP (perp L), mem_rd.2.2.2, ?_, ?_⟩
          · apply toU
            · rw [dot_zero]; exact Int.le_refl _
            · intro u hu
              rw [dot_neg, dot_perp, crs_anti, ray u hu]; simp
          · rw [dot_neg, dot_perp]; omega
        · refine ⟨L, hLU, neP L, mem_rd.2.1, ?_, ?_⟩
          · apply toU
            · rw [dot_zero]; exact Int.le_refl _
            · intro u hu
              rw [dot_neg]
              have e : dotP L u * dotP d L = dotP L L * dotP d u + crs u L * crs L d := by unfold dotP crs; grind
              rw [ray u hu, Int.zero_mul, Int.add_zero] at e
              have hLn : ¬ L = (0, 0) := by simpa using (List.mem_filter.1 hL).2
              have k1 := Int.mul_neg_of_pos_of_neg (self_pos hLn) (hV u hu)
              by_cases k2 : 0 ≤ dotP L u
              · omega
              · have := Int.mul_pos_of_neg_of_neg (show dotP L u < 0 by omega) hdL
                omega
          · rw [dot_neg]
            have e : dotP L v * dotP d L = dotP L L * dotP d v + crs v L * crs L d := by unfold dotP crs; grind
            rw [crs_anti v L, c] at e
            have hLn : ¬ L = (0, 0) := by simpa using (List.mem_filter.1 hL).2
            have k1 := Int.mul_pos (self_pos hLn) hv
            simp only [Int.neg_zero, Int.zero_mul, Int.add_zero] at e
            by_cases k2 : 0 ≤ dotP L v
            · have := Int.mul_nonpos_of_nonneg_of_nonpos k2 (Int.le_of_lt hdL)
              omega
            · omega
        · refine ⟨L, hLU, perp L, mem_rd.2.2.1, ?_, ?_⟩
          · apply toU
            · rw [dot_zero]; exact Int.le_refl _
            · intro u hu
              rw [dot_perp, crs_anti, ray u hu]; simp
          · rw [dot_perp]; exact c
theorem argmax (f : HPt → Int) : ∀ (l : List HPt), l ≠ [] → ∃ p ∈ l, ∀ x ∈ l, f x ≤ f p
  | [], h => absurd rfl h
  | [a], _ => by
    refine ⟨a, by simp, fun x hx => ?_⟩
    have : x = a := by simpa using hx
    rw [this]; exact Int.le_refl _
  | a :: b :: l, _ => by
    obtain ⟨m, hm, k⟩ := argmax f (b :: l) (by simp)
    by_cases h : f m ≤ f a
    · refine ⟨a, by simp, fun x hx => ?_⟩
      rcases List.mem_cons.1 hx with rfl | hx
      · exact Int.le_refl _
      · exact Int.le_trans (k x hx) h
    · refine ⟨m, List.mem_cons_of_mem _ hm, fun x hx => ?_⟩
      rcases List.mem_cons.1 hx with rfl | hx
      · omega
      · exact k x hx
theorem dot_neg_r (e u : HPt) : dotP e (neP u) = - dotP e u := by unfold dotP neP; simp only; grind
/-- two hulls that some direction parts are parted by one of the definition's directions -/
theorem sat {a b : List HPt} (ha : cornersP a = a) (hb : cornersP b = b) (ha0 : a ≠ []) (hb0 : b ≠ []) (d : HPt) (h : ∀ p ∈ a, ∀ q ∈ b, dotP d p < dotP d q) : ∃ e ∈ adirs a b, ∀ p ∈ a, ∀ q ∈ b, dotP e p < dotP e q := by
  obtain ⟨p, hp, kp⟩ := argmax (dotP d) a ha0
  obtain ⟨q, hq, kq⟩ := argmax (fun x => - dotP d x) b hb0
  obtain ⟨u, w, V⟩ := hull_vtx ha hp
  obtain ⟨u', w', V'⟩ := hull_vtx hb hq
  have hv : 0 < dotP d (dif q p) := by rw [dot_dif]; have := h p hp q hq; omega
  have hU : ∀ x ∈ [u, w, neP u', neP w'], dotP d x ≤ 0 := by
    obtain ⟨n, hn, rfl⟩ := V.eu
    obtain ⟨r, hr, rfl⟩ := V.ew
    obtain ⟨n', hn', rfl⟩ := V'.eu
    obtain ⟨r', hr', rfl⟩ := V'.ew
    have a1 := kp n hn
    have a2 := kp r hr
    have a3 : - dotP d n' ≤ - dotP d q := kq n' hn'
    have a4 : - dotP d r' ≤ - dotP d q := kq r' hr'
    intro x hx
    simp only [List.mem_cons, List.not_mem_nil, or_false] at hx
    rcases hx with rfl | rfl | rfl | rfl
    · rw [dot_dif]; omega
    · rw [dot_dif]; omega
    · rw [dot_neg_r, dot_dif]; omega
    · rw [dot_neg_r, dot_dif]; omega
  rcases part_vec _ d (dif q p) hU hv with hz | ⟨x, hx, e, he, k1, k2⟩
  · have ea := V.triv (hz u (by simp))
    have eb := V'.triv (by
      have := hz (neP u') (by simp)
      have := congrArg neP this
      rw [ne_ne] at this
      rw [this]
      unfold neP; simp)
    rw [ea, eb]
    refine ⟨dif q p, ?_, ?_⟩
    · unfold adirs
      have : fdP [p] [q] = dif q p := rfl
      rw [this]; simp
    · intro x hx y hy
      have e1 : x = p := by simpa using hx
      have e2 : y = q := by simpa using hy
      have hne : ¬ dif q p = (0, 0) := by intro k; rw [k, dot_zero] at hv; omega
      have := self_pos hne
      rw [dot_dif] at this
      rw [e1, e2]; omega
  · have hed : e ∈ adirs a b := by
      unfold adirs
      simp only [List.mem_cons, List.not_mem_nil, or_false] at hx
      rcases hx with rfl | rfl | rfl | rfl
      · exact List.mem_append.2 (.inl (List.mem_append.2 (.inr (V.du e he))))
      · exact List.mem_append.2 (.inl (List.mem_append.2 (.inr (V.dw e he))))
      · exact List.mem_append.2 (.inr (V'.du e (rd_ne he)))
      · exact List.mem_append.2 (.inr (V'.dw e (rd_ne he)))
    have c1 := V.loc e (k1 u (by simp)) (k1 w (by simp))
    have c2 := V'.loc (neP e) (by have := k1 (neP u') (by simp); rw [dot_neg_r] at this; rw [dot_neg]; exact this) (by have := k1 (neP w') (by simp); rw [dot_neg_r] at this; rw [dot_neg]; exact this)
    rw [dot_dif] at k2
    refine ⟨e, hed, fun x hx y hy => ?_⟩
    have d1 := c1 x hx
    have d2 := c2 y hy
    rw [dot_neg, dot_neg] at d2
    omega
/-- a hull keeps the greatest of each direction -/
theorem support {l : List HPt} (h0 : l ≠ []) (d : HPt) : ∃ s ∈ cornersP l, ∀ x ∈ l, dotP d x ≤ dotP d s := by
  by_cases h : (sortP l).length < 2
  · have e : cornersP l = sortP l := by unfold cornersP; rw [if_pos h]
    obtain ⟨s, hs, k⟩ := argmax (dotP d) l h0
    exact ⟨s, by rw [e]; exact (sort_mem l s).2 hs, k⟩
  · obtain ⟨mn, mx, A, B, H⟩ := hull_of (l := l) (by omega)
    have hne : cornersP l ≠ [] := by rw [H.hull]; simp
    obtain ⟨s, hs, k⟩ := argmax (dotP d) _ hne
    obtain ⟨u, w, V⟩ := vtx_of H hs
    refine ⟨s, hs, V.loc d ?_ ?_⟩
    · obtain ⟨n, hn, rfl⟩ := V.eu
      rw [dot_dif]
      have := k n hn
      omega
    · obtain ⟨r, hr, rfl⟩ := V.ew
      rw [dot_dif]
      have := k r hr
      omega
theorem bound_y (p : HPt) : ∀ (h : List HPt), ∃ M : Int, 0 < M ∧ ∀ x ∈ h, x.2 - p.2 < M ∧ p.2 - x.2 < M
  | [] => ⟨1, by omega, fun x hx => by simp at hx⟩
  | a :: h => by
    obtain ⟨M, h0, k⟩ := bound_y p h
    refine ⟨M + (a.2 - p.2).natAbs + 1, by omega, fun x hx => ?_⟩
    rcases List.mem_cons.1 hx with rfl | hx
    · omega
    · have := k x hx
      omega
theorem lex_part_lt {h : List HPt} {p : HPt} (k : ∀ x ∈ h, ltP p x) : ∃ d, ∀ x ∈ h, dotP d x < dotP d p := by
  obtain ⟨M, h0, b⟩ := bound_y p h
  refine ⟨(-M, -1), fun x hx => ?_⟩
  obtain ⟨b1, b2⟩ := b x hx
  unfold dotP
  simp only
  rcases k x hx with c | ⟨c1, c2⟩
  · have e : M * (x.1 - p.1) = M * x.1 - M * p.1 := by grind
    have e2 : M ≤ M * (x.1 - p.1) := by
      have := Int.mul_le_mul_of_nonneg_left (show (1 : Int) ≤ x.1 - p.1 by omega) (Int.le_of_lt h0)
      omega
    have e3 : -M * x.1 = - (M * x.1) := by grind
    have e4 : -M * p.1 = - (M * p.1) := by grind
    omega
  · rw [c1]; omega
theorem lex_part_gt {h : List HPt} {p : HPt} (k : ∀ x ∈ h, ltP x p) : ∃ d, ∀ x ∈ h, dotP d x < dotP d p := by
  obtain ⟨M, h0, b⟩ := bound_y p h
  refine ⟨(M, 1), fun x hx => ?_⟩
  obtain ⟨b1, b2⟩ := b x hx
  unfold dotP
  simp only
  rcases k x hx with c | ⟨c1, c2⟩
  · have e : M * (p.1 - x.1) = M * p.1 - M * x.1 := by grind
    have e2 : M ≤ M * (p.1 - x.1) := by
      have := Int.mul_le_mul_of_nonneg_left (show (1 : Int) ≤ p.1 - x.1 by omega) (Int.le_of_lt h0)
      omega
    omega
  · rw [c1]; omega
theorem corners_one (p : HPt) : cornersP [p] = [p] := by
  have e : sortP [p] = [p] := sort_sort (by unfold Srt; simp)
  unfold cornersP
  rw [e]; rfl
/-- a hull contains a point just if no direction parts them -/
theorem has_iff {h : List HPt} (hh : cornersP h = h) (h0 : h ≠ []) (p : HPt) : cornersP (h ++ [p]) = h ↔ ¬ ∃ d, ∀ x ∈ h, dotP d x < dotP d p := by
  constructor
  · rintro e ⟨d, k⟩
    obtain ⟨s, hs, ks⟩ := support (l := h ++ [p]) (by simp) d
    rw [e] at hs
    have a := k s hs
    have b := ks p (by simp)
    omega
  · intro hn
    by_cases h2 : (sortP h).length < 2
    · have e : h = sortP h := by
        have : cornersP h = sortP h := by unfold cornersP; rw [if_pos h2]
        rw [← this, hh]
      rw [← e] at h2
      rcases h with _ | ⟨a, _ | ⟨b, r⟩⟩
      · exact absurd rfl h0
      · have hpa : p = a := by
          by_cases k : p = a
          · exact k
          · exfalso
            apply hn
            refine ⟨dif p a, fun x hx => ?_⟩
            have : x = a := by simpa using hx
            have hne : ¬ dif p a = (0, 0) := by
              intro e
              apply k
              unfold dif at e
              simp only [Prod.mk.injEq] at e
              ext <;> omega
            have := self_pos hne
            rw [dot_dif] at this
            subst x
            omega
        have e2 : sortP ([a] ++ [p]) = [a] := srt_unique (sort_srt _) (by unfold Srt; simp) (fun y => by rw [sort_mem]; simp [hpa])
        unfold cornersP
        rw [e2]; rfl
      · simp only [List.length_cons] at h2; omega
    · obtain ⟨mn, mx, A, B, H⟩ := hull_of (l := h) (by omega)
      have edge : ∀ a b, (Adj a b (mn :: (A ++ [mx])) ∨ Adj a b (mx :: (B ++ [mn]))) → 0 ≤ crossP a b p := by
        intro a b hab
        by_cases k : 0 ≤ crossP a b p
        · exact k
        · exfalso
          apply hn
          refine ⟨neP (perp (dif b a)), fun x hx => ?_⟩
          have k2 := (H.side hab).2 x hx
          rw [dot_neg, dot_neg, dot_perp, dot_perp]
          have e1 : crossP a b x = crs (dif b a) x - crs (dif b a) a := by unfold crossP crs dif; simp only; grind
          have e2 : crossP a b p = crs (dif b a) p - crs (dif b a) a := by unfold crossP crs dif; simp only; grind
          omega
      have hP : InP h mn mx A B p := by
        refine ⟨fun a b k => edge a b (.inl k), fun a b k => edge a b (.inr k), ?_, ?_⟩
        · by_cases k1 : ltP mn p
          · exact .inr k1
          · by_cases k2 : p = mn
            · exact .inl k2
            · exfalso
              have k3 : ltP p mn := ltP_total k1 (fun e => k2 e.symm)
              apply hn
              apply lex_part_lt
              intro x hx
              rcases H.least x hx with e | e
              · rw [e]; exact k3
              · exact ltP_trans k3 e
        · by_cases k1 : ltP p mx
          · exact .inr k1
          · by_cases k2 : p = mx
            · exact .inl k2
            · exfalso
              have k3 : ltP mx p := ltP_total k1 k2
              apply hn
              apply lex_part_gt
              intro x hx
              rcases H.most x hx with e | e
              · rw [e]; exact k3
              · exact ltP_trans e k3
      have := (corners_keep H (m := h ++ [p]) (fun q hq => by rw [hh] at hq; exact List.mem_append.2 (.inl hq)) (fun q hq => by
        rcases List.mem_append.1 hq with hq | hq
        · exact H.inP hq
        · have : q = p := by simpa using hq
          rw [this]; exact hP)).1
      rw [this, hh]
end Go.Proofs.Ytkkeblgahbpmmaa
/- The corners of a hull: each one is there once and is the farthest point in some direction; it turns to the left at each of them; without one of them the hull does not contain it. -/
namespace Go.Proofs.Ytkkeblgahbpmmaa
open Go.RowKit

theorem popP_pos : ∀ (st : List HPt) (x : HPt), st ≠ [] → popP st x ≠ []
  | [], _, h => absurd rfl h
  | [b], _, _ => by simp [popP]
  | b :: a :: r, x, _ => by
    unfold popP
    split
    · exact popP_pos (a :: r) x (by simp)
    · simp
theorem side_two {l : List HPt} (h : 2 ≤ l.length) : 2 ≤ (sideP l).length := by
  unfold sideP
  rw [List.length_reverse]
  rcases List.eq_nil_or_concat l with rfl | ⟨m, x, rfl⟩
  · simp at h
  · rw [List.concat_eq_append, List.foldl_append]
    rcases List.eq_nil_or_concat m with rfl | ⟨m2, y, rfl⟩
    · simp at h
    · rw [List.concat_eq_append, List.foldl_append]
      show 2 ≤ (x :: popP (y :: popP (m2.foldl pushP []) y) x).length
      have h1 := popP_pos (y :: popP (m2.foldl pushP []) y) x (by simp)
      have h2 := List.length_pos_iff.2 h1
      rw [List.length_cons]
      omega
theorem side_mem {l : List HPt} {p : HPt} (h : p ∈ sideP l) : p ∈ l := by
  unfold sideP at h
  rcases foldP_mem l [] (List.mem_reverse.1 h) with h | h
  · simp at h
  · exact h
theorem corners_sub {l : List HPt} {p : HPt} (h : p ∈ cornersP l) : p ∈ l := by
  unfold cornersP at h
  split at h
  · exact (sort_mem l p).1 h
  · rcases List.mem_append.1 h with h | h
    · exact (sort_mem l p).1 (side_mem (List.dropLast_subset _ h))
    · exact (sort_mem l p).1 (List.mem_reverse.1 (side_mem (List.dropLast_subset _ h)))
theorem corners_pos {l : List HPt} (h : 0 < l.length) : 0 < (cornersP l).length := by
  unfold cornersP
  split
  · rcases l with _ | ⟨x, l⟩
    · simp at h
    · exact List.length_pos_of_mem ((sort_mem (x :: l) x).2 (by simp))
  · have h1 := side_two (l := sortP l) (by omega)
    rw [List.length_append, List.length_dropLast]
    omega
theorem adj_split : ∀ (X : List HPt) {Y : List HPt} {m a b : HPt}, Adj a b (X ++ m :: Y) → Adj a b (X ++ [m]) ∨ Adj a b (m :: Y)
  | [], _, _, _, _, h => .inr h
  | x :: X, Y, m, a, b, h => by
    rcases adj_cons.1 h with ⟨e, s, e2⟩ | h
    · left
      change X ++ m :: Y = b :: s at e2
      refine adj_cons.2 (.inl ⟨e, ?_⟩)
      rcases X with _ | ⟨y, X⟩
      · simp only [List.nil_append, List.cons.injEq] at e2
        exact ⟨[], by rw [← e2.1]; rfl⟩
      · simp only [List.cons_append, List.cons.injEq] at e2
        exact ⟨X ++ [m], by rw [← e2.1]; rfl⟩
    · rcases adj_split X h with k | k
      · exact .inl (adj_cons.2 (.inr k))
      · exact .inr k
theorem cyc_adj {m : HPt} {T : List HPt} {i : Nat} (hi : i < (m :: T).length) : Adj ((m :: T).getD i (0, 0)) ((m :: T).getD ((i + 1) % (m :: T).length) (0, 0)) ((m :: T) ++ [m]) := by
  have hl : ((m :: T) ++ [m]).length = (m :: T).length + 1 := by simp
  have h1 : i < ((m :: T) ++ [m]).length := by omega
  have h2 : i + 1 < ((m :: T) ++ [m]).length := by omega
  refine ⟨((m :: T) ++ [m]).take i, ((m :: T) ++ [m]).drop (i + 2), ?_⟩
  have e1 : ((m :: T) ++ [m])[i] = (m :: T).getD i (0, 0) := by rw [getD_lt hi, List.getElem_append_left hi]
  have e2 : ((m :: T) ++ [m])[i + 1] = (m :: T).getD ((i + 1) % (m :: T).length) (0, 0) := by
    by_cases k : i + 1 < (m :: T).length
    · rw [Nat.mod_eq_of_lt k, getD_lt k, List.getElem_append_left k]
    · have e : i + 1 = (m :: T).length := by omega
      have : (i + 1) % (m :: T).length = 0 := by rw [e, Nat.mod_self]
      rw [this, List.getElem_append_right (by omega)]
      simp
  have e3 : ((m :: T) ++ [m]).drop i = ((m :: T) ++ [m])[i] :: ((m :: T) ++ [m])[i + 1] :: ((m :: T) ++ [m]).drop (i + 2) := by
    rw [List.drop_eq_getElem_cons h1, List.drop_eq_getElem_cons h2]
  rw [← e1, ← e2, ← e3, List.take_append_drop]
theorem desc_nodup : ∀ {st : List HPt}, Desc st → st.Nodup
  | [], _ => List.nodup_nil
  | t :: _, h => List.nodup_cons.2 ⟨fun k => ltP_irrefl t (h.lt t k), desc_nodup h.tail⟩
theorem nodup_rev {l : List HPt} (h : l.reverse.Nodup) : l.Nodup := by
  unfold List.Nodup at *
  rw [List.pairwise_reverse] at h
  exact h.imp (fun k => Ne.symm k)
section
variable {l : List HPt} {mn mx : HPt} {A B : List HPt}
theorem HullOf.nodup_lo (h : HullOf l mn mx A B) : (mn :: (A ++ [mx])).Nodup := nodup_rev (desc_nodup h.clo.desc)
theorem HullOf.nodup_up (h : HullOf l mn mx A B) : (mx :: (B ++ [mn])).Nodup := by
  have := nodup_rev (desc_nodup h.cup.desc)
  unfold List.Nodup at *
  rw [List.pairwise_map] at this
  exact this.imp (fun k e => k (congrArg neP e))
theorem HullOf.lo_mem (h : HullOf l mn mx A B) {q : HPt} (hq : q ∈ mn :: (A ++ [mx])) : q ∈ l := h.sub q (h.onto (.inl hq))
theorem HullOf.up_mem (h : HullOf l mn mx A B) {q : HPt} (hq : q ∈ mx :: (B ++ [mn])) : q ∈ l := h.sub q (h.onto (.inr hq))
theorem HullOf.conv_lo {X Y : List HPt} {r p n : HPt} (h : HullOf l mn mx A B) (e : mn :: (A ++ [mx]) = X ++ r :: p :: n :: Y) : 0 < crossP r p n := by
  have hc := h.clo.conv
  rw [e] at hc
  exact conv_mid hc
theorem HullOf.conv_up {X Y : List HPt} {r p n : HPt} (h : HullOf l mn mx A B) (e : mx :: (B ++ [mn]) = X ++ r :: p :: n :: Y) : 0 < crossP r p n := by
  have hc := h.cup.conv
  rw [e] at hc
  have e4 : (X ++ r :: p :: n :: Y).map neP = X.map neP ++ neP r :: neP p :: neP n :: Y.map neP := by simp
  rw [e4] at hc
  have hD := conv_mid hc
  rwa [cross_ne] at hD
theorem mid_lo {A : List HPt} {mn mx p : HPt} (hp : p ∈ A) : ∃ X r n Y, mn :: (A ++ [mx]) = X ++ r :: p :: n :: Y := by
  obtain ⟨A1, A2, e⟩ := List.append_of_mem hp
  obtain ⟨X, r, n, Y, e2⟩ := mid_list (P := mn :: A1) (Q := A2 ++ [mx]) (p := p) (by simp) (by simp)
  exact ⟨X, r, n, Y, by rw [← e2, e]; simp⟩
theorem adj_12 {X Y : List HPt} {r p n : HPt} : Adj r p (X ++ r :: p :: n :: Y) := ⟨X, n :: Y, rfl⟩
theorem adj_23 {X Y : List HPt} {r p n : HPt} : Adj p n (X ++ r :: p :: n :: Y) := ⟨X ++ [r], Y, by simp⟩
theorem HullOf.nodup (h : HullOf l mn mx A B) : (cornersP l).Nodup := by
  have n1 := h.nodup_lo
  have n2 := h.nodup_up
  have n1' := n1
  have n2' := n2
  rw [← List.cons_append, List.nodup_append] at n1 n2
  rw [h.hull, List.nodup_append]
  refine ⟨n1.1, n2.1, ?_⟩
  intro p hp q hq e
  subst e
  rcases List.mem_cons.1 hp with rfl | hp
  · exact n2.2.2 _ hq _ (by simp) rfl
  · rcases List.mem_cons.1 hq with rfl | hq
    · exact n1.2.2 _ (List.mem_cons_of_mem _ hp) _ (by simp) rfl
    · obtain ⟨X, r, n, Y, e⟩ := mid_lo (mn := mn) (mx := mx) hp
      obtain ⟨X', n', r', Y', e'⟩ := mid_lo (mn := mx) (mx := mn) hq
      have hD := h.conv_lo e
      have hD' := h.conv_up e'
      have a1 : Adj r p (mn :: (A ++ [mx])) := by rw [e]; exact adj_12
      have a2 : Adj p n (mn :: (A ++ [mx])) := by rw [e]; exact adj_23
      have b1 : Adj n' p (mx :: (B ++ [mn])) := by rw [e']; exact adj_12
      have b2 : Adj p r' (mx :: (B ++ [mn])) := by rw [e']; exact adj_23
      have l1 := h.adj_lo a1
      have l2 := h.adj_lo a2
      have l3 := h.adj_up b1
      have l4 := h.adj_up b2
      have c1 := (h.side (.inl a2)).2 n' (h.up_mem (adj_mem b1).1)
      have c2 := (h.side (.inl a1)).2 r' (h.up_mem (adj_mem b2).2)
      have k1 : 0 < crs (dif p r) (dif n p) := by rw [cross_uv] at hD; exact hD
      have k2 : 0 ≤ crs (dif n p) (dif n' p) := c1
      have k3 : 0 < crs (dif n' p) (dif p r') := by
        have : crs (dif n' p) (dif p r') = crossP n' p r' := by unfold crossP crs dif; simp only; grind
        rw [this]; exact hD'
      have k4 : crs (dif p r) (dif p r') ≤ 0 := by
        have : crs (dif p r) (dif p r') = - crossP r p r' := by unfold crossP crs dif; simp only; grind
        rw [this]; omega
      have m1 := crs_trans_l (pos_of_lt l1) (pos_of_lt l2) (pos_of_lt l3) k1 k2
      have m2 := crs_trans_l (pos_of_lt l1) (pos_of_lt l3) (pos_of_lt l4) m1 (Int.le_of_lt k3)
      omega
theorem far_mid {r p n : HPt} (hD : 0 < crossP r p n) (h1 : ∀ x ∈ l, 0 ≤ crossP r p x) (h2 : ∀ x ∈ l, 0 ≤ crossP p n x) : ∃ d, ∀ x ∈ l, ¬ x = p → dotP d x < dotP d p := by
  refine ⟨(n.2 - r.2, r.1 - n.1), fun x hx hne => ?_⟩
  have c1 := h1 x hx
  have c2 := h2 x hx
  have e : dotP (n.2 - r.2, r.1 - n.1) x = dotP (n.2 - r.2, r.1 - n.1) p - (crossP r p x + crossP p n x) := by unfold dotP crossP; simp only; grind
  by_cases hz : crossP r p x = 0 ∧ crossP p n x = 0
  · exfalso
    apply hne
    have e1 : crossP r p n * (x.1 - p.1) = crossP r p x * (n.1 - p.1) - crossP p n x * (p.1 - r.1) := by unfold crossP; grind
    have e2 : crossP r p n * (x.2 - p.2) = crossP r p x * (n.2 - p.2) - crossP p n x * (p.2 - r.2) := by unfold crossP; grind
    rw [hz.1, hz.2, Int.zero_mul, Int.zero_mul, Int.sub_zero] at e1 e2
    rcases Int.mul_eq_zero.1 e1 with k | k
    · omega
    · rcases Int.mul_eq_zero.1 e2 with m | m
      · omega
      · ext <;> omega
  · omega
/-- each corner is the farthest point in some direction -/
theorem HullOf.far {p : HPt} (h : HullOf l mn mx A B) (hp : p ∈ cornersP l) : ∃ d, ∀ x ∈ l, ¬ x = p → dotP d x < dotP d p := by
  rw [h.hull] at hp
  rcases List.mem_append.1 hp with hp | hp
  · rcases List.mem_cons.1 hp with rfl | hp
    · obtain ⟨d, k⟩ := lex_part_lt (h := l.filter (fun x => decide (¬ x = p))) (p := p) (by
        intro x hx
        obtain ⟨h1, h2⟩ := List.mem_filter.1 hx
        rcases h.least x h1 with e | e
        · exact absurd e (by simpa using h2)
        · exact e)
      exact ⟨d, fun x hx hne => k x (List.mem_filter.2 ⟨hx, by simpa using hne⟩)⟩
    · obtain ⟨X, r, n, Y, e⟩ := mid_lo (mn := mn) (mx := mx) hp
      exact far_mid (h.conv_lo e) (h.side (.inl (by rw [e]; exact adj_12))).2 (h.side (.inl (by rw [e]; exact adj_23))).2
  · rcases List.mem_cons.1 hp with rfl | hp
    · obtain ⟨d, k⟩ := lex_part_gt (h := l.filter (fun x => decide (¬ x = p))) (p := p) (by
        intro x hx
        obtain ⟨h1, h2⟩ := List.mem_filter.1 hx
        rcases h.most x h1 with e | e
        · exact absurd e (by simpa using h2)
        · exact e)
      exact ⟨d, fun x hx hne => k x (List.mem_filter.2 ⟨hx, by simpa using hne⟩)⟩
    · obtain ⟨X, r, n, Y, e⟩ := mid_lo (mn := mx) (mx := mn) hp
      exact far_mid (h.conv_up e) (h.side (.inr (by rw [e]; exact adj_12))).2 (h.side (.inr (by rw [e]; exact adj_23))).2
end
theorem no_mid {l : List HPt} {x m y : HPt} (H : ∃ d, ∀ x ∈ l, ¬ x = m → dotP d x < dotP d m) (hx : x ∈ l) (hy : y ∈ l) (h1 : ltP x m) (h2 : ltP m y) : ¬ crossP x m y = 0 := by
  intro h
  obtain ⟨d, k⟩ := H
  have k1 := k x hx (ne_of_lt h1)
  have k2 := k y hy (fun e => ne_of_lt h2 e.symm)
  have c : crs (dif m x) (dif y m) = 0 := by rw [← cross_uv]; exact h
  have := par_dot (e := neP d) (pos_of_lt h1) (pos_of_lt h2) c (by rw [dot_neg, dot_dif]; omega)
  rw [dot_neg, dot_dif] at this
  omega
theorem cross_zero {a b c : HPt} (h : crossP a b c = 0) : crossP b c a = 0 ∧ crossP c a b = 0 ∧ crossP b a c = 0 ∧ crossP a c b = 0 ∧ crossP c b a = 0 := by
  have e1 := cross_cyc a b c
  have e2 := cross_cyc b c a
  have e3 := cross_swap a b c
  have e4 := cross_cyc a c b
  have e5 := cross_cyc c b a
  refine ⟨by omega, by omega, by omega, by omega, by omega⟩
/-- what PlaneLeast says of a hull -/
structure LeastH (p h : List HPt) : Prop where
  ne : h ≠ []
  sub : ∀ x ∈ h, x ∈ p
  nodup : h.Nodup
  first : ∀ i, i < h.length → ¬ ltP (h.getD i (0, 0)) (h.getD 0 (0, 0))
  turn : ∀ i, i < h.length → 2 < h.length → 0 < crossP (h.getD i (0, 0)) (h.getD ((i + 1) % h.length) (0, 0)) (h.getD ((i + 2) % h.length) (0, 0))
  left : ∀ i, i < h.length → 1 < h.length → ∀ x ∈ p, 0 ≤ crossP (h.getD i (0, 0)) (h.getD ((i + 1) % h.length) (0, 0)) x
  one : h.length = 1 → ∀ x ∈ p, x = h.getD 0 (0, 0)
  far : ∀ q ∈ h, ∃ d, ∀ x ∈ p, ¬ x = q → dotP d x < dotP d q
theorem nodup_get {h : List HPt} (hn : h.Nodup) {i j : Nat} (hi : i < h.length) (hj : j < h.length) (e : h.getD i (0, 0) = h.getD j (0, 0)) : i = j := by
  rw [getD_lt hi, getD_lt hj] at e
  have k := List.pairwise_iff_getElem.1 hn
  rcases Nat.lt_trichotomy i j with h1 | h1 | h1
  · exact absurd e (k i j hi hj h1)
  · exact h1
  · exact absurd e.symm (k j i hj hi h1)
theorem least_of {p : List HPt} (h0 : p ≠ []) : LeastH p (cornersP p) := by
  by_cases h : (sortP p).length < 2
  · have e : cornersP p = sortP p := by unfold cornersP; rw [if_pos h]
    have hne := corners_pos (List.length_pos_iff.2 h0)
    rw [e] at hne ⊢
    obtain ⟨a, ha⟩ : ∃ a, sortP p = [a] := by
      rcases hs : sortP p with _ | ⟨a, _ | ⟨b, r⟩⟩
      · rw [hs] at hne; simp at hne
      · exact ⟨a, rfl⟩
      · rw [hs] at h; simp only [List.length_cons] at h; omega
    have hall : ∀ x ∈ p, x = a := by
      intro x hx
      have := (sort_mem p x).2 hx
      rw [ha] at this
      simpa using this
    have hap : a ∈ p := (sort_mem p a).1 (by rw [ha]; simp)
    rw [ha]
    refine ⟨by simp, ?_, by simp, ?_, ?_, ?_, ?_, ?_⟩
    · intro x hx
      have : x = a := by simpa using hx
      rw [this]; exact hap
    · intro i hi
      have : i = 0 := by simp at hi; omega
      subst this
      exact ltP_irrefl _
    · intro i _ h2; simp at h2
    · intro i _ h2; simp at h2
    · intro _ x hx; rw [hall x hx]; rfl
    · intro q hq
      have : q = a := by simpa using hq
      exact ⟨(0, 0), fun x hx hne => absurd ((hall x hx).trans this.symm) hne⟩
  · obtain ⟨mn, mx, A, B, H⟩ := hull_of (l := p) (by omega)
    have e : cornersP p = mn :: (A ++ mx :: B) := by rw [H.hull]; rfl
    have hnd := H.nodup
    have hsub := H.sub
    have hfar : ∀ q ∈ cornersP p, ∃ d, ∀ x ∈ p, ¬ x = q → dotP d x < dotP d q := fun q hq => H.far hq
    have hleft : ∀ i, i < (cornersP p).length → ∀ x ∈ p, 0 ≤ crossP ((cornersP p).getD i (0, 0)) ((cornersP p).getD ((i + 1) % (cornersP p).length) (0, 0)) x := by
      intro i hi
      rw [e] at hi ⊢
      have hadj := cyc_adj hi
      have e2 : mn :: (A ++ mx :: B) ++ [mn] = (mn :: A) ++ mx :: (B ++ [mn]) := by simp
      rw [e2] at hadj
      rcases adj_split _ hadj with k | k
      · exact (H.side (.inl (by simpa using k))).2
      · exact (H.side (.inr k)).2
    refine ⟨by rw [e]; simp, hsub, hnd, ?_, ?_, fun i hi _ => hleft i hi, ?_, hfar⟩
    · intro i hi hlt
      have hm := get_mem hi
      have e0 : (cornersP p).getD 0 (0, 0) = mn := by rw [e]; rfl
      rw [e0] at hlt
      rcases H.least _ (hsub _ hm) with k | k
      · rw [k] at hlt; exact ltP_irrefl _ hlt
      · exact ltP_irrefl _ (ltP_trans k hlt)
    · intro i hi h2
      have hn0 : 0 < (cornersP p).length := by omega
      have j1 := Nat.mod_lt (i + 1) hn0
      have j2 := Nat.mod_lt (i + 2) hn0
      have ma := get_mem hi
      have mb := get_mem j1
      have mc := get_mem j2
      have hge := hleft i hi _ (hsub _ mc)
      have d1 : ¬ i = (i + 1) % (cornersP p).length := by
        by_cases k : i + 1 < (cornersP p).length
        · rw [Nat.mod_eq_of_lt k]; omega
        · have : i + 1 = (cornersP p).length := by omega
          rw [this, Nat.mod_self]; omega
      have d2 : ¬ i = (i + 2) % (cornersP p).length := by
        by_cases k : i + 2 < (cornersP p).length
        · rw [Nat.mod_eq_of_lt k]; omega
        · rw [Nat.mod_eq_sub_mod (by omega), Nat.mod_eq_of_lt (by omega)]; omega
      have d3 : ¬ (i + 1) % (cornersP p).length = (i + 2) % (cornersP p).length := by
        by_cases k : i + 2 < (cornersP p).length
        · rw [Nat.mod_eq_of_lt k, Nat.mod_eq_of_lt (by omega)]; omega
        · by_cases k2 : i + 1 < (cornersP p).length
          · rw [Nat.mod_eq_of_lt k2, Nat.mod_eq_sub_mod (by omega), Nat.mod_eq_of_lt (by omega)]; omega
          · rw [Nat.mod_eq_sub_mod (show (cornersP p).length ≤ i + 1 by omega), Nat.mod_eq_sub_mod (show (cornersP p).length ≤ i + 2 by omega), Nat.mod_eq_of_lt (by omega), Nat.mod_eq_of_lt (by omega)]; omega
      have n1 := fun x => d1 (nodup_get hnd hi j1 x)
      have n2 := fun x => d2 (nodup_get hnd hi j2 x)
      have n3 := fun x => d3 (nodup_get hnd j1 j2 x)
      generalize (cornersP p).getD i (0, 0) = a at *
      generalize (cornersP p).getD ((i + 1) % (cornersP p).length) (0, 0) = b at *
      generalize (cornersP p).getD ((i + 2) % (cornersP p).length) (0, 0) = c at *
      rcases Int.lt_or_eq_of_le hge with k | k
      · exact k
      · exfalso
        obtain ⟨z1, z2, z3, z4, z5⟩ := cross_zero k.symm
        have z0 := k.symm
        have sa := hsub _ ma
        have sb := hsub _ mb
        have sc := hsub _ mc
        have tot : ∀ {x y : HPt}, ¬ x = y → ltP x y ∨ ltP y x := by
          intro x y hne
          by_cases q : ltP x y
          · exact .inl q
          · exact .inr (ltP_total q hne)
        rcases tot n1 with q1 | q1 <;> rcases tot n3 with q3 | q3 <;> rcases tot n2 with q2 | q2
        · exact no_mid (hfar b mb) sa sc q1 q3 z0
        · exact no_mid (hfar b mb) sa sc q1 q3 z0
        · exact no_mid (hfar c mc) sa sb q2 q3 z4
        · exact no_mid (hfar a ma) sc sb q2 q1 z2
        · exact no_mid (hfar a ma) sb sc q1 q2 z3
        · exact no_mid (hfar c mc) sb sa q3 q2 z1
        · exact no_mid (hfar b mb) sc sa q3 q1 z5
        · exact no_mid (hfar b mb) sc sa q3 q1 z5
    · intro h1 x hx
      exfalso
      rw [e] at h1
      simp only [List.length_cons, List.length_append] at h1
      omega
end Go.Proofs.Ytkkeblgahbpmmaa
/- Going around points: the next corner is the point with all others on its left, of several the farthest one; so one goes around the corners of the hull. -/
namespace Go.Proofs.Ytkkeblgahbpmmaa
open Go.RowKit

def farP (a b : HPt) : Int := (a.1 - b.1) * (a.1 - b.1) + (a.2 - b.2) * (a.2 - b.2)
def nextStep (p nx y : HPt) : HPt := if nx = p ∨ crossP p nx y < 0 ∨ (crossP p nx y = 0 ∧ farP p nx < farP p y) then y else nx
def nextP (p : HPt) (l : List HPt) : HPt := l.foldl (nextStep p) p
def firstStep (f y : HPt) : HPt := if ltP y f then y else f
theorem near_vec {u v d d' : HPt} (ha : 0 < dotP d u) (hb : dotP d v < dotP d u) (hA : dotP d' u < 0) (hB : dotP d' v < 0) (hc : crs u v = 0) : dotP v v < dotP u u := by
  have e0 : dotP d u * dotP d' v - dotP d v * dotP d' u = crs d d' * crs u v := by unfold dotP crs; grind
  rw [hc, Int.mul_zero] at e0
  have e3 : dotP d u * v.1 = dotP d v * u.1 := by
    have : dotP d u * v.1 - dotP d v * u.1 = - (d.2 * crs u v) := by unfold dotP crs; grind
    rw [hc] at this; omega
  have e4 : dotP d u * v.2 = dotP d v * u.2 := by
    have : dotP d u * v.2 - dotP d v * u.2 = d.1 * crs u v := by unfold dotP crs; grind
    rw [hc] at this; omega
  have hU : 0 < dotP u u := self_pos (by rintro rfl; rw [dot_zero] at ha; omega)
  have e2 : dotP d u * dotP d u * dotP v v = dotP d v * dotP d v * dotP u u := by
    have k1 : dotP d u * dotP d u * dotP v v = (dotP d u * v.1) * (dotP d u * v.1) + (dotP d u * v.2) * (dotP d u * v.2) := by
      generalize dotP d u = a
      unfold dotP; grind
    have k2 : dotP d v * dotP d v * dotP u u = (dotP d v * u.1) * (dotP d v * u.1) + (dotP d v * u.2) * (dotP d v * u.2) := by
      generalize dotP d v = a
      unfold dotP; grind
    rw [k1, k2, e3, e4]
  generalize dotP d u = a at *
  generalize dotP d v = b at *
  generalize dotP d' u = A at *
  generalize dotP d' v = B at *
  generalize dotP u u = U at *
  generalize dotP v v = V at *
  have hb0 : 0 < b := by
    apply Int.lt_of_not_ge
    intro h
    have h1 := Int.mul_neg_of_pos_of_neg ha hB
    have h2 := Int.mul_nonneg_of_nonpos_of_nonpos h (Int.le_of_lt hA)
    omega
  apply Int.lt_of_not_ge
  intro h
  have h1 : b * b < a * a := Pl.sq_lt_of_lt (Int.le_of_lt hb0) hb
  have h2 := Int.mul_lt_mul_of_pos_right h1 hU
  have h3 := Int.mul_le_mul_of_nonneg_left h (show 0 ≤ a * a from Int.le_of_lt (Int.mul_pos ha ha))
  omega
theorem far_dot (p x : HPt) : farP p x = dotP (dif x p) (dif x p) := by unfold farP dotP dif; simp only; grind
theorem near_mid {p q x : HPt} {d d' : HPt} (hq1 : dotP d p < dotP d q) (hq2 : dotP d x < dotP d q) (hp1 : dotP d' q < dotP d' p) (hp2 : dotP d' x < dotP d' p) (hc : crossP p q x = 0) : farP p x < farP p q := by
  rw [far_dot, far_dot]
  exact near_vec (d := d) (d' := d') (by rw [dot_dif]; omega) (by rw [dot_dif, dot_dif]; omega) (by rw [dot_dif]; omega) (by rw [dot_dif]; omega) hc
theorem far_self (p : HPt) : farP p p = 0 := by unfold farP; simp
theorem far_nonneg (p q : HPt) : 0 ≤ farP p q := by
  unfold farP
  have h1 := Pl.sq_nonneg (p.1 - q.1)
  have h2 := Pl.sq_nonneg (p.2 - q.2)
  omega
section
variable {l : List HPt} {p q : HPt}
/-- what makes q the corner behind p -/
structure After (l : List HPt) (p q : HPt) : Prop where
  ne : ¬ q = p
  left : ∀ x ∈ l, 0 ≤ crossP p q x
  mid : ∀ x ∈ l, ¬ x = p → ¬ x = q → crossP p q x = 0 → farP p x < farP p q
theorem After.stay (h : After l p q) {y : HPt} (hy : y ∈ l) : nextStep p q y = q := by
  unfold nextStep
  by_cases e : y = q
  · subst e; split <;> rfl
  · rw [if_neg]
    rintro (k | k | ⟨k, m⟩)
    · exact h.ne k
    · have := h.left y hy; omega
    · by_cases e2 : y = p
      · subst e2
        rw [far_self] at m
        have := far_nonneg y q
        omega
      · have := h.mid y hy e2 e k
        omega
theorem After.take (h : After l p q) {nx : HPt} (hn : nx ∈ l ∨ nx = p) : nextStep p nx q = q := by
  unfold nextStep
  by_cases e : nx = p
  · rw [if_pos (.inl e)]
  · by_cases e2 : nx = q
    · subst e2; split <;> rfl
    · have hn' : nx ∈ l := hn.resolve_right e
      rw [if_pos]
      right
      have hs := cross_swap p q nx
      have hl := h.left nx hn'
      rcases Int.lt_or_eq_of_le hl with k | k
      · left; omega
      · right
        exact ⟨by omega, h.mid nx hn' e e2 k.symm⟩
theorem nextStep_or (p nx y : HPt) : nextStep p nx y = nx ∨ nextStep p nx y = y := by
  unfold nextStep
  split
  · exact .inr rfl
  · exact .inl rfl
theorem After.fold (h : After l p q) : ∀ (m : List HPt) (nx : HPt), (∀ y ∈ m, y ∈ l) → (nx ∈ l ∨ nx = p) → (q ∈ m ∨ nx = q) → m.foldl (nextStep p) nx = q
  | [], nx, _, _, h3 => by
    rcases h3 with k | k
    · exact absurd k (by simp)
    · exact k
  | y :: m, nx, h1, h2, h3 => by
    rw [List.foldl_cons]
    have hy := h1 y (by simp)
    have hm := fun z hz => h1 z (List.mem_cons_of_mem y hz)
    by_cases e : nx = q
    · rw [e, h.stay hy]
      exact h.fold m q hm (by rw [← e]; exact h2) (.inr rfl)
    · by_cases e2 : q = y
      · rw [← e2, h.take h2]
        exact h.fold m q hm (.inl (by rw [e2]; exact hy)) (.inr rfl)
      · refine h.fold m _ hm ?_ ?_
        · rcases nextStep_or p nx y with k | k
          · rw [k]; exact h2
          · rw [k]; exact .inl hy
        · rcases h3 with k | k
          · rcases List.mem_cons.1 k with k | k
            · exact absurd k e2
            · exact .inl k
          · exact absurd k e
end
theorem fold_same {p : HPt} : ∀ (l : List HPt), (∀ x ∈ l, x = p) → l.foldl (nextStep p) p = p
  | [], _ => rfl
  | y :: l, h => by
    rw [List.foldl_cons]
    have hy := h y (by simp)
    subst hy
    have : nextStep y y y = y := by unfold nextStep; split <;> rfl
    rw [this]
    exact fold_same l (fun x hx => h x (List.mem_cons_of_mem _ hx))
/-- from a corner one goes to the next one -/
theorem next_corner {l : List HPt} (h0 : l ≠ []) {i : Nat} (hi : i < (cornersP l).length) : nextP ((cornersP l).getD i (0, 0)) l = (cornersP l).getD ((i + 1) % (cornersP l).length) (0, 0) := by
  have H := least_of h0
  by_cases h1 : (cornersP l).length = 1
  · have e : i = 0 := by omega
    subst e
    have e2 : (0 + 1) % (cornersP l).length = 0 := by rw [h1]
    rw [e2]
    exact fold_same l (H.one h1)
  · have hn0 : 0 < (cornersP l).length := by omega
    have j1 := Nat.mod_lt (i + 1) hn0
    have d1 : ¬ (i + 1) % (cornersP l).length = i := by
      by_cases k : i + 1 < (cornersP l).length
      · rw [Nat.mod_eq_of_lt k]; omega
      · have : i + 1 = (cornersP l).length := by omega
        rw [this, Nat.mod_self]; omega
    have hne : ¬ (cornersP l).getD ((i + 1) % (cornersP l).length) (0, 0) = (cornersP l).getD i (0, 0) := fun e => d1 (nodup_get H.nodup j1 hi e)
    have hp := get_mem hi
    have hq := get_mem j1
    obtain ⟨d, kd⟩ := H.far _ hq
    obtain ⟨d', kd'⟩ := H.far _ hp
    have hl := H.left i hi (by omega)
    have sp := H.sub _ hp
    have sq := H.sub _ hq
    generalize (cornersP l).getD ((i + 1) % (cornersP l).length) (0, 0) = q at *
    generalize (cornersP l).getD i (0, 0) = p at *
    have A : After l p q := ⟨hne, hl, fun x hx n1 n2 hc => near_mid (kd p sp (fun e => hne e.symm)) (kd x hx n2) (kd' q sq hne) (kd' x hx n1) hc⟩
    exact A.fold l p (fun _ h => h) (.inr rfl) (.inl sq)
/-- the first corner is the least point -/
theorem corner_least {l : List HPt} (h0 : l ≠ []) : (cornersP l).getD 0 (0, 0) ∈ l ∧ ∀ x ∈ l, x = (cornersP l).getD 0 (0, 0) ∨ ltP ((cornersP l).getD 0 (0, 0)) x := by
  have H := least_of h0
  have hl : 0 < (cornersP l).length := List.length_pos_iff.2 H.ne
  refine ⟨H.sub _ (get_mem hl), ?_⟩
  by_cases h : (sortP l).length < 2
  · have e : cornersP l = sortP l := by unfold cornersP; rw [if_pos h]
    rw [e] at hl H ⊢
    exact fun x hx => .inl (H.one (by omega) x hx)
  · obtain ⟨mn, mx, A, B, K⟩ := hull_of (l := l) (by omega)
    have e : (cornersP l).getD 0 (0, 0) = mn := by rw [K.hull]; rfl
    rw [e]
    exact K.least
theorem first_fold {l : List HPt} {m : HPt} (hm : ∀ x ∈ l, x = m ∨ ltP m x) : ∀ (s : List HPt) (f : HPt), (∀ x ∈ s, x ∈ l) → f ∈ l → (m ∈ s ∨ f = m) → s.foldl firstStep f = m
  | [], f, _, _, h => by
    rcases h with k | k
    · exact absurd k (by simp)
    · exact k
  | y :: s, f, h1, hf, h => by
    rw [List.foldl_cons]
    have hy := h1 y (by simp)
    have hs := fun z hz => h1 z (List.mem_cons_of_mem y hz)
    have hstep : firstStep f y = f ∨ firstStep f y = y := by
      unfold firstStep
      split
      · exact .inr rfl
      · exact .inl rfl
    by_cases e : f = m
    · have : firstStep f y = m := by
        unfold firstStep
        rcases hm y hy with k | k
        · rw [k, e]; split <;> rfl
        · rw [if_neg]
          · exact e
          · rw [e]; intro k2; exact ltP_irrefl _ (ltP_trans k k2)
      rw [this]
      exact first_fold hm s m hs (by rw [← e]; exact hf) (.inr rfl)
    · by_cases e2 : y = m
      · have : firstStep f y = m := by
          unfold firstStep
          rcases hm f hf with k | k
          · exact absurd k e
          · rw [e2, if_pos k]
        rw [this]
        exact first_fold hm s m hs (by rw [← e2]; exact hy) (.inr rfl)
      · refine first_fold hm s _ hs ?_ ?_
        · rcases hstep with k | k
          · rw [k]; exact hf
          · rw [k]; exact hy
        · rcases h with k | k
          · rcases List.mem_cons.1 k with k | k
            · exact absurd k.symm e2
            · exact .inl k
          · exact absurd k e
theorem first_corner {l : List HPt} {a : HPt} {r : List HPt} (e : l = a :: r) : l.foldl firstStep a = (cornersP l).getD 0 (0, 0) := by
  have h0 : l ≠ [] := by rw [e]; simp
  obtain ⟨h1, h2⟩ := corner_least h0
  exact first_fold h2 l a (fun _ h => h) (by rw [e]; simp) (.inl h1)
theorem next_stop {l : List HPt} (h0 : l ≠ []) {i : Nat} (hi : i < (cornersP l).length) : (cornersP l).getD ((i + 1) % (cornersP l).length) (0, 0) = (cornersP l).getD 0 (0, 0) ↔ i + 1 = (cornersP l).length := by
  have H := least_of h0
  have hn0 : 0 < (cornersP l).length := by omega
  constructor
  · intro h
    by_cases k : i + 1 < (cornersP l).length
    · rw [Nat.mod_eq_of_lt k] at h
      have := nodup_get H.nodup k hn0 h
      omega
    · omega
  · intro h
    rw [h, Nat.mod_self]
end Go.Proofs.Ytkkeblgahbpmmaa
