
/- The chain below a sorted list: it turns to the left, all points lie above it, and it is the only one; the hull of a list, its sides; a hull stays when points are added that it contains. -/
import Derived.Test.YtcbjecpfijogcaaGreatHullAll
namespace Go.Proofs.YtcbjecpfijogcaaGreat
open Go.RowKit

def crs (u v : HPt) : Int := u.1 * v.2 - u.2 * v.1
def posV (u : HPt) : Prop := 0 < u.1 ∨ (u.1 = 0 ∧ 0 < u.2)
def dif (b a : HPt) : HPt := (b.1 - a.1, b.2 - a.2)
theorem crossP_crs (a b c : HPt) : crossP a b c = crs (dif b a) (dif c a) := rfl
theorem pos_of_lt {a b : HPt} (h : ltP a b) : posV (dif b a) := by unfold ltP at h; unfold posV dif; simp only; omega
theorem pos_add {u v : HPt} (hu : posV u) (hv : posV v) : posV (u.1 + v.1, u.2 + v.2) := by unfold posV at *; simp only; omega
/-- of three vectors of a half-plane: the turns add up -/
theorem crs_trans {u v w : HPt} (hu : posV u) (hv : posV v) (hw : posV w) (h1 : 0 ≤ crs u v) (h2 : 0 ≤ crs v w) : 0 ≤ crs u w := by
  obtain ⟨u1, u2⟩ := u
  obtain ⟨v1, v2⟩ := v
  obtain ⟨w1, w2⟩ := w
  unfold posV crs at *
  simp only at *
  have hu0 : 0 ≤ u1 := by omega
  have hw0 : 0 ≤ w1 := by omega
  rcases hv with hv | ⟨hv1, hv2⟩
  · have e : v1 * (u1 * w2 - u2 * w1) = u1 * (v1 * w2 - v2 * w1) + w1 * (u1 * v2 - u2 * v1) := by grind
    have h : 0 ≤ v1 * (u1 * w2 - u2 * w1) := by rw [e]; exact Int.add_nonneg (Int.mul_nonneg hu0 h2) (Int.mul_nonneg hw0 h1)
    exact Int.nonneg_of_mul_nonneg_right h hv
  · subst hv1
    have h3 : 0 ≤ -(v2 * w1) := by simpa using h2
    have hw1 : w1 = 0 := by
      rcases Int.lt_or_eq_of_le hw0 with h | h
      · have := Int.mul_pos hv2 h; omega
      · exact h.symm
    subst hw1
    have : 0 < w2 := by omega
    simp only [Int.mul_zero, Int.sub_zero]
    exact Int.mul_nonneg hu0 (by omega)
/-- the same, strictly, if the first turn is -/
theorem crs_trans_l {u v w : HPt} (hu : posV u) (hv : posV v) (hw : posV w) (h1 : 0 < crs u v) (h2 : 0 ≤ crs v w) : 0 < crs u w := by
  obtain ⟨u1, u2⟩ := u
  obtain ⟨v1, v2⟩ := v
  obtain ⟨w1, w2⟩ := w
  have h0 := crs_trans hu hv hw (Int.le_of_lt h1) h2
  rcases Int.lt_or_eq_of_le h0 with h | h
  · exact h
  exfalso
  unfold posV crs at *
  simp only at *
  have hu0 : 0 ≤ u1 := by omega
  have hw0 : 0 ≤ w1 := by omega
  have e1 : v1 * (u1 * w2 - u2 * w1) = u1 * (v1 * w2 - v2 * w1) + w1 * (u1 * v2 - u2 * v1) := by grind
  have e2 : v2 * (u1 * w2 - u2 * w1) = u2 * (v1 * w2 - v2 * w1) + w2 * (u1 * v2 - u2 * v1) := by grind
  rw [← h] at e1 e2
  have p1 := Int.mul_nonneg hu0 h2
  have p2 := Int.mul_nonneg hw0 (Int.le_of_lt h1)
  have hw1 : w1 = 0 := by
    rcases Int.lt_or_eq_of_le hw0 with k | k
    · have := Int.mul_pos k h1; omega
    · exact k.symm
  subst hw1
  have hw2 : 0 < w2 := by omega
  have p3 := Int.mul_pos hw2 h1
  have hu1 : u1 = 0 := by
    have h5 : u1 * w2 = 0 := by simpa using h.symm
    rcases Int.mul_eq_zero.1 h5 with k | k
    · exact k
    · omega
  subst hu1
  have : 0 < u2 := by omega
  have p4 := Int.mul_nonneg (Int.le_of_lt this) h2
  simp only [Int.mul_zero, Int.zero_mul, Int.sub_zero] at e2 p3 p4
  omega
theorem crs_trans_r {u v w : HPt} (hu : posV u) (hv : posV v) (hw : posV w) (h1 : 0 ≤ crs u v) (h2 : 0 < crs v w) : 0 < crs u w := by
  obtain ⟨u1, u2⟩ := u
  obtain ⟨v1, v2⟩ := v
  obtain ⟨w1, w2⟩ := w
  have h0 := crs_trans hu hv hw h1 (Int.le_of_lt h2)
  rcases Int.lt_or_eq_of_le h0 with h | h
  · exact h
  exfalso
  unfold posV crs at *
  simp only at *
  have hu0 : 0 ≤ u1 := by omega
  have hw0 : 0 ≤ w1 := by omega
  have e1 : v1 * (u1 * w2 - u2 * w1) = u1 * (v1 * w2 - v2 * w1) + w1 * (u1 * v2 - u2 * v1) := by grind
  have e2 : v2 * (u1 * w2 - u2 * w1) = u2 * (v1 * w2 - v2 * w1) + w2 * (u1 * v2 - u2 * v1) := by grind
  rw [← h] at e1 e2
  have p1 := Int.mul_nonneg hu0 (Int.le_of_lt h2)
  have p2 := Int.mul_nonneg hw0 h1
  have hu1 : u1 = 0 := by
    rcases Int.lt_or_eq_of_le hu0 with k | k
    · have := Int.mul_pos k h2; omega
    · exact k.symm
  subst hu1
  have hu2 : 0 < u2 := by omega
  have p3 := Int.mul_pos hu2 h2
  have hw1 : w1 = 0 := by
    have h5 : u2 * w1 = 0 := by have := h; rw [Int.zero_mul] at this; omega
    rcases Int.mul_eq_zero.1 h5 with k | k
    · omega
    · exact k
  subst hw1
  have : 0 < w2 := by omega
  have p4 := Int.mul_nonneg (Int.le_of_lt this) h1
  simp only [Int.mul_zero, Int.zero_mul, Int.sub_zero] at e2 p3 p4
  omega
/-- a stack, its top first: the top is the greatest -/
def Desc : List HPt → Prop
  | b :: a :: r => ltP a b ∧ Desc (a :: r)
  | _ => True
/-- it turns to the left at each point -/
def Conv : List HPt → Prop
  | c :: b :: a :: r => 0 < crossP a b c ∧ Conv (b :: a :: r)
  | _ => True
/-- a point is on or above each piece -/
def Above (y : HPt) : List HPt → Prop
  | b :: a :: r => 0 ≤ crossP a b y ∧ Above y (a :: r)
  | _ => True
theorem Desc.tail {b : HPt} {r : List HPt} (h : Desc (b :: r)) : Desc r := by
  cases r with
  | nil => trivial
  | cons a r => exact h.2
theorem Conv.tail {b : HPt} {r : List HPt} (h : Conv (b :: r)) : Conv r := by
  rcases r with _ | ⟨a, _ | ⟨c, r⟩⟩
  · trivial
  · trivial
  · exact h.2
theorem Above.tail {y b : HPt} {r : List HPt} (h : Above y (b :: r)) : Above y r := by
  cases r with
  | nil => trivial
  | cons a r => exact h.2
theorem Desc.lt : ∀ {t : HPt} {r : List HPt}, Desc (t :: r) → ∀ s ∈ r, ltP s t
  | t, [], _, s, hs => by simp at hs
  | t, a :: r, h, s, hs => by
    rcases List.mem_cons.1 hs with rfl | hs
    · exact h.1
    · exact ltP_trans (Desc.lt h.2 s hs) h.1
theorem cross_four (a b x y : HPt) : crossP a x y = crossP a b y + crossP b x y - crossP a b x := by unfold crossP; grind
theorem cross_self (a b : HPt) : crossP a b a = 0 := by unfold crossP; grind
theorem cross_self2 (a b : HPt) : crossP a b b = 0 := by unfold crossP; grind
theorem cross_uv {a b c : HPt} : crossP a b c = crs (dif b a) (dif c b) := by unfold crossP crs dif; simp only; grind
theorem cross_yu {s t y : HPt} : crossP s t y = crs (dif t y) (dif t s) := by unfold crossP crs dif; simp only; grind
theorem cross_ty {t x y : HPt} : crossP t x y = crs (dif t y) (dif x t) := by unfold crossP crs dif; simp only; grind
theorem crs_anti (u v : HPt) : crs u v = - crs v u := by unfold crs; grind
/-- two turns to the left, one behind the other -/
theorem cross_next {q r s x : HPt} (h1 : ltP q r) (h2 : ltP r s) (h3 : ltP s x) (a : 0 < crossP q r s) (b : 0 < crossP r s x) : 0 < crossP q r x := by
  have hp := pos_of_lt h1
  have hq := pos_of_lt h2
  have hr := pos_of_lt h3
  rw [cross_uv] at a b
  have := crs_trans_l hp hq hr a (Int.le_of_lt b)
  have e : crossP q r x = crs (dif r q) (dif s r) + crs (dif r q) (dif x s) := by unfold crossP crs dif; simp only; grind
  omega
/-- a new greatest point lies above all pieces -/
theorem above_new : ∀ (st : List HPt) (x : HPt), Desc (x :: st) → Conv (x :: st) → Above x st
  | [], _, _, _ => trivial
  | [_], _, _, _ => trivial
  | t :: s :: r, x, hd, hc => by
    refine ⟨Int.le_of_lt hc.1, above_new (s :: r) x ⟨ltP_trans hd.2.1 hd.1, hd.2.2⟩ ?_⟩
    rcases r with _ | ⟨q, r⟩
    · trivial
    · exact ⟨cross_next hd.2.2.1 hd.2.1 hd.1 hc.2.1 hc.1, hc.2.2⟩
/-- what a pop leaves -/
theorem pop_spec {P : List HPt} (x : HPt) (hx : ∀ y ∈ P, ltP y x) : ∀ (st : List HPt), st ≠ [] → Desc st → Conv st → (∀ y ∈ P, Above y st) → (∀ s ∈ st, s ∈ P) →
    (∀ t r, st = t :: r → ∀ y ∈ P, (y = t ∨ ltP t y) → 0 ≤ crossP t x y) →
    ∃ t r, popP st x = t :: r ∧ (∃ pre, st = pre ++ t :: r) ∧ (∀ y ∈ P, (y = t ∨ ltP t y) → 0 ≤ crossP t x y) ∧ (∀ s q, r = s :: q → 0 < crossP s t x) ∧ Desc (t :: r) ∧ Conv (t :: r) ∧ ∀ y ∈ P, Above y (t :: r)
  | [], h0, _, _, _, _, _ => absurd rfl h0
  | [t], _, hd, hc, ha, _, hq => ⟨t, [], rfl, ⟨[], rfl⟩, hq t [] rfl, (fun s q e => by cases e), hd, hc, ha⟩
  | b :: a :: r, _, hd, hc, ha, hm, hq => by
    by_cases hcr : crossP a b x ≤ 0
    · rw [popP_drop hcr]
      obtain ⟨t, r', h1, ⟨pre, h2⟩, h3⟩ := pop_spec x hx (a :: r) (by simp) hd.2 hc.tail (fun y hy => (ha y hy).tail) (fun s hs => hm s (List.mem_cons_of_mem _ hs)) (by
        intro t r' e y hy hty
        cases e
        have hab := (ha y hy).1
        by_cases hyb : y = b ∨ ltP b y
        · have := hq b _ rfl y hy hyb
          rw [cross_four a b x y]
          omega
        · rcases hty with rfl | hty
          · rw [cross_self]; exact Int.le_refl _
          · have hyb' : ltP y b := by
              have h5 : ¬ ltP b y := fun h => hyb (.inr h)
              have h6 : ¬ b = y := fun h => hyb (.inl h.symm)
              exact ltP_total h5 h6
            have hxx : ltP a x := hx a (hm a (by simp))
            have k1 : 0 ≤ crs (dif x a) (dif b a) := by
              have e : crossP a b x = crs (dif b a) (dif x a) := rfl
              rw [crs_anti]
              omega
            exact crs_trans (pos_of_lt hxx) (pos_of_lt hd.1) (pos_of_lt hty) k1 hab)
      exact ⟨t, r', h1, ⟨b :: pre, by rw [h2]; rfl⟩, h3⟩
    · rw [popP_keep hcr]
      refine ⟨b, a :: r, rfl, ⟨[], rfl⟩, hq b _ rfl, ?_, hd, hc, ha⟩
      intro s q e
      cases e
      omega
/-- what a chain is, over the points that have been seen -/
structure Chain (P st : List HPt) : Prop where
  ne : st ≠ []
  desc : Desc st
  conv : Conv st
  above : ∀ y ∈ P, Above y st
  mem : ∀ s ∈ st, s ∈ P
  head : ∀ t r, st = t :: r → ∀ y ∈ P, y = t ∨ ltP y t
  last : ∀ pre m, st = pre ++ [m] → ∀ y ∈ P, y = m ∨ ltP m y
theorem Chain.push {P st : List HPt} (h : Chain P st) {x : HPt} (hx : ∀ y ∈ P, ltP y x) : Chain (P ++ [x]) (pushP st x) := by
  obtain ⟨t, r, h1, ⟨pre, h2⟩, h3, h4, h5, h6, h7⟩ := pop_spec x hx st h.ne h.desc h.conv h.above h.mem (by
    intro t r e y hy hty
    rcases h.head t r e y hy with rfl | hlt
    · rw [cross_self]; exact Int.le_refl _
    · rcases hty with rfl | hty
      · rw [cross_self]; exact Int.le_refl _
      · exact absurd (ltP_trans hlt hty) (ltP_irrefl y))
  have htm : t ∈ P := h.mem t (by rw [h2]; simp)
  have htx := hx t htm
  unfold pushP
  rw [h1]
  have hd : Desc (x :: t :: r) := ⟨htx, h5⟩
  have hc : Conv (x :: t :: r) := by
    rcases r with _ | ⟨s, q⟩
    · trivial
    · exact ⟨h4 s q rfl, h6⟩
  have hmem : ∀ s ∈ t :: r, s ∈ P := fun s hs => h.mem s (by rw [h2]; exact List.mem_append.2 (.inr hs))
  refine ⟨by simp, hd, hc, ?_, ?_, ?_, ?_⟩
  · intro y hy
    rcases List.mem_append.1 hy with hy | hy
    · refine ⟨?_, h7 y hy⟩
      by_cases hty : y = t ∨ ltP t y
      · exact h3 y hy hty
      · have hyt : ltP y t := by
          have k5 : ¬ ltP t y := fun k => hty (.inr k)
          have k6 : ¬ t = y := fun k => hty (.inl k.symm)
          exact ltP_total k5 k6
        rcases r with _ | ⟨s, q⟩
        · rcases h.last pre t h2 y hy with rfl | hlt
          · exact absurd hyt (ltP_irrefl y)
          · exact absurd (ltP_trans hlt hyt) (ltP_irrefl t)
        · have a1 := (h7 y hy).1
          have a2 := h4 s q rfl
          rw [cross_yu] at a1
          rw [cross_uv] at a2
          rw [cross_ty]
          exact crs_trans (pos_of_lt hyt) (pos_of_lt h5.1) (pos_of_lt htx) a1 (Int.le_of_lt a2)
    · have : y = x := by simpa using hy
      subst this
      refine ⟨?_, above_new _ _ hd hc⟩
      rw [cross_self2]; exact Int.le_refl _
  · intro s hs
    rcases List.mem_cons.1 hs with rfl | hs
    · simp
    · exact List.mem_append.2 (.inl (hmem s hs))
  · intro t' r' e y hy
    cases e
    rcases List.mem_append.1 hy with hy | hy
    · exact .inr (hx y hy)
    · exact .inl (by simpa using hy)
  · intro pre' m e y hy
    have hm : ∃ pre2, t :: r = pre2 ++ [m] := by
      rcases pre' with _ | ⟨p, pre'⟩
      · simp at e
      · simp only [List.cons_append, List.cons.injEq] at e
        exact ⟨pre', e.2⟩
    obtain ⟨pre2, e2⟩ := hm
    have e3 : st = (pre ++ pre2) ++ [m] := by rw [h2, e2, List.append_assoc]
    rcases List.mem_append.1 hy with hy | hy
    · exact h.last _ m e3 y hy
    · have : y = x := by simpa using hy
      subst this
      exact .inr (hx m (h.mem m (by rw [e3]; simp)))
theorem Chain.one (x : HPt) : Chain [x] [x] := by
  refine ⟨by simp, trivial, trivial, fun _ _ => trivial, fun _ h => h, ?_, ?_⟩
  · intro t r e y hy
    cases e
    exact .inl (by simpa using hy)
  · intro pre m e y hy
    rcases pre with _ | ⟨p, pre⟩
    · simp at e
      subst e
      exact .inl (by simpa using hy)
    · simp at e
theorem chain_fold : ∀ (l P st : List HPt), Chain P st → Srt (P ++ l) → Chain (P ++ l) (l.foldl pushP st)
  | [], P, st, h, _ => by simpa using h
  | x :: l, P, st, h, hs => by
    have hx : ∀ y ∈ P, ltP y x := by
      intro y hy
      exact (List.pairwise_append.1 hs).2.2 y hy x (by simp)
    have := chain_fold l (P ++ [x]) (pushP st x) (h.push hx) (by rw [List.append_assoc]; exact hs)
    rw [List.append_assoc] at this
    exact this
/-- the chain below a sorted list -/
theorem chain_sorted {l : List HPt} (h0 : l ≠ []) (hs : Srt l) : Chain l (sideP l).reverse := by
  rcases l with _ | ⟨x, l⟩
  · exact absurd rfl h0
  · have := chain_fold l [x] [x] (Chain.one x) hs
    unfold sideP
    rw [List.reverse_reverse]
    exact this
/-- a chain over the points of a property -/
structure ChainP (P : HPt → Prop) (st : List HPt) : Prop where
  ne : st ≠ []
  desc : Desc st
  conv : Conv st
  above : ∀ y, P y → Above y st
  mem : ∀ s ∈ st, P s
  head : ∀ t r, st = t :: r → ∀ y, P y → y = t ∨ ltP y t
  last : ∀ pre m, st = pre ++ [m] → ∀ y, P y → y = m ∨ ltP m y
theorem Chain.toP {l st : List HPt} (h : Chain l st) : ChainP (· ∈ l) st := ⟨h.ne, h.desc, h.conv, h.above, h.mem, h.head, h.last⟩
theorem ChainP.tail {P : HPt → Prop} {t s : HPt} {r : List HPt} (h : ChainP P (t :: s :: r)) : ChainP (fun y => P y ∧ (y = s ∨ ltP y s)) (s :: r) := by
  refine ⟨by simp, h.desc.tail, h.conv.tail, fun y hy => (h.above y hy.1).tail, ?_, ?_, ?_⟩
  · intro a ha
    refine ⟨h.mem a (List.mem_cons_of_mem _ ha), ?_⟩
    rcases List.mem_cons.1 ha with rfl | ha
    · exact .inl rfl
    · exact .inr (h.desc.tail.lt a ha)
  · intro a b e y hy
    cases e
    exact hy.2
  · intro pre m e y hy
    exact h.last (t :: pre) m (by rw [e]; rfl) y hy.1
theorem cross_cyc (a b c : HPt) : crossP a b c = crossP b c a := by unfold crossP; grind
theorem cross_swap (a b c : HPt) : crossP a b c = - crossP a c b := by unfold crossP; grind
theorem list_last {α : Type} : ∀ (l : List α), l ≠ [] → ∃ pre m, l = pre ++ [m]
  | [], h => absurd rfl h
  | [a], _ => ⟨[], a, rfl⟩
  | a :: b :: l, _ => by
    obtain ⟨pre, m, e⟩ := list_last (b :: l) (by simp)
    exact ⟨a :: pre, m, by rw [e]; rfl⟩
/-- the second point of one chain is not below that of another one -/
theorem second_not {P : HPt → Prop} {t s s' : HPt} {r r' : List HPt} (h : ChainP P (t :: s :: r)) (h' : ChainP P (t :: s' :: r')) (hlt : ltP s s') : False := by
  have hs := h.mem s (by simp)
  have hs' := h'.mem s' (by simp)
  have a1 := (h.above s' hs').1
  have a2 := (h'.above s hs).1
  have e1 : crossP s' t s = - crossP s t s' := by
    rw [cross_cyc s' t s, cross_cyc t s s']
    exact cross_swap s s' t
  have e0 : crossP s t s' = 0 := by omega
  rcases r' with _ | ⟨q, r'⟩
  · rcases h'.last [t] s' rfl s hs with k | k
    · rw [k] at hlt; exact ltP_irrefl _ hlt
    · exact ltP_irrefl _ (ltP_trans hlt k)
  · have c1 := h'.conv.1
    have d1 := h'.desc.2.1
    have d2 := h'.desc.1
    have a3 := (h'.above s hs).2.1
    rw [cross_uv] at c1
    rw [cross_yu] at a3
    have k0 : crs (dif t s') (dif s' s) = 0 := by
      have : crs (dif t s') (dif s' s) = crossP s t s' := by unfold crossP crs dif; simp only; grind
      rw [this, e0]
    have := crs_trans_l (pos_of_lt d1) (pos_of_lt d2) (pos_of_lt hlt) c1 (by omega)
    rw [crs_anti] at a3
    omega
theorem chain_unique : ∀ (st st' : List HPt) (P : HPt → Prop), ChainP P st → ChainP P st' → st = st'
  | [], _, _, h, _ => absurd rfl h.ne
  | _ :: _, [], _, _, h' => absurd rfl h'.ne
  | [t], [t'], P, h, h' => by
    rcases h.head t [] rfl t' (h'.mem t' (by simp)) with k | k
    · rw [k]
    · rcases h'.head t' [] rfl t (h.mem t (by simp)) with m | m
      · rw [m]
      · exact absurd (ltP_trans k m) (ltP_irrefl _)
  | [t], t' :: s' :: r', P, h, h' => by
    exfalso
    have hs := h'.mem s' (by simp)
    have ht := h'.mem t' (by simp)
    rcases h.head t [] rfl t' ht with k | k
    · subst k
      rcases h.last [] t' rfl s' hs with m | m
      · exact ltP_irrefl _ (m ▸ h'.desc.1)
      · exact ltP_irrefl _ (ltP_trans m h'.desc.1)
    · rcases h'.head t' _ rfl t (h.mem t (by simp)) with m | m
      · rw [m] at k; exact ltP_irrefl _ k
      · exact ltP_irrefl _ (ltP_trans k m)
  | t :: s :: r, [t'], P, h, h' => by
    exfalso
    have hs := h.mem s (by simp)
    have ht := h.mem t (by simp)
    rcases h'.head t' [] rfl t ht with k | k
    · subst k
      rcases h'.last [] t rfl s hs with m | m
      · exact ltP_irrefl _ (m ▸ h.desc.1)
      · exact ltP_irrefl _ (ltP_trans m h.desc.1)
    · rcases h.head t _ rfl t' (h'.mem t' (by simp)) with m | m
      · rw [m] at k; exact ltP_irrefl _ k
      · exact ltP_irrefl _ (ltP_trans k m)
  | t :: s :: r, t' :: s' :: r', P, h, h' => by
    have ht : t = t' := by
      rcases h'.head t' _ rfl t (h.mem t (by simp)) with k | k
      · exact k
      · rcases h.head t _ rfl t' (h'.mem t' (by simp)) with m | m
        · exact m.symm
        · exact absurd (ltP_trans k m) (ltP_irrefl _)
    subst ht
    have hss : s = s' := by
      by_cases e : s = s'
      · exact e
      · exfalso
        by_cases k : ltP s s'
        · exact second_not h h' k
        · exact second_not h' h (ltP_total k e)
    subst hss
    have := chain_unique (s :: r) (s :: r') _ h.tail h'.tail
    rw [this]
/-! ### the other side, by turning the plane round -/
def neP (p : HPt) : HPt := (-p.1, -p.2)
theorem ne_ne (p : HPt) : neP (neP p) = p := by unfold neP; simp
theorem ne_map (l : List HPt) : (l.map neP).map neP = l := by
  induction l with
  | nil => rfl
  | cons a l ih => rw [List.map_cons, List.map_cons, ih, ne_ne]
theorem cross_ne (a b c : HPt) : crossP (neP a) (neP b) (neP c) = crossP a b c := by unfold crossP neP; simp only; grind
theorem lt_ne {a b : HPt} : ltP (neP a) (neP b) ↔ ltP b a := by unfold ltP neP; simp only; omega
theorem pop_ne : ∀ (st : List HPt) (x : HPt), popP (st.map neP) (neP x) = (popP st x).map neP
  | [], _ => rfl
  | [_], _ => rfl
  | b :: a :: r, x => by
    have ih := pop_ne (a :: r) x
    by_cases h : crossP a b x ≤ 0
    · rw [popP_drop h, ← ih]
      show popP (neP b :: neP a :: r.map neP) (neP x) = _
      rw [popP_drop (by rw [cross_ne]; exact h)]
      rfl
    · rw [popP_keep h]
      show popP (neP b :: neP a :: r.map neP) (neP x) = _
      rw [popP_keep (by rw [cross_ne]; exact h)]
      rfl
theorem fold_ne : ∀ (l st : List HPt), (l.map neP).foldl pushP (st.map neP) = (l.foldl pushP st).map neP
  | [], _ => rfl
  | x :: l, st => by
    have e : pushP (st.map neP) (neP x) = (pushP st x).map neP := by unfold pushP; rw [pop_ne]; rfl
    rw [List.map_cons, List.foldl_cons, List.foldl_cons, e, fold_ne l]
theorem side_ne (l : List HPt) : sideP (l.map neP) = (sideP l).map neP := by
  unfold sideP
  have := fold_ne l []
  rw [List.map_nil] at this
  rw [this, List.map_reverse]
theorem srt_ne {l : List HPt} (h : Srt l) : Srt (l.reverse.map neP) := by
  unfold Srt at *
  rw [List.pairwise_map, List.pairwise_reverse]
  exact h.imp (fun hab => lt_ne.2 hab)
/-- neighbours in a list -/
def Adj (a b : HPt) (l : List HPt) : Prop := ∃ p s, l = p ++ a :: b :: s
theorem adj_cons {a b c : HPt} {l : List HPt} : Adj a b (c :: l) ↔ (c = a ∧ ∃ s, l = b :: s) ∨ Adj a b l := by
  constructor
  · rintro ⟨p, s, e⟩
    rcases p with _ | ⟨q, p⟩
    · simp only [List.nil_append, List.cons.injEq] at e
      exact .inl ⟨e.1, s, e.2⟩
    · simp only [List.cons_append, List.cons.injEq] at e
      exact .inr ⟨p, s, e.2⟩
  · rintro (⟨rfl, s, rfl⟩ | ⟨p, s, rfl⟩)
    · exact ⟨[], s, rfl⟩
    · exact ⟨c :: p, s, rfl⟩
theorem adj_rev {a b : HPt} {l : List HPt} : Adj a b l.reverse ↔ Adj b a l := by
  have k : ∀ (a b : HPt) (l : List HPt), Adj b a l → Adj a b l.reverse := by
    rintro a b l ⟨p, s, rfl⟩
    exact ⟨s.reverse, p.reverse, by simp⟩
  refine ⟨fun h => ?_, k a b l⟩
  have := k b a _ h
  rwa [List.reverse_reverse] at this
theorem adj_map {a b : HPt} {l : List HPt} (h : Adj a b l) : Adj (neP a) (neP b) (l.map neP) := by
  obtain ⟨p, s, rfl⟩ := h
  exact ⟨p.map neP, s.map neP, by simp⟩
theorem adj_map' {a b : HPt} {l : List HPt} (h : Adj a b (l.map neP)) : Adj (neP a) (neP b) l := by
  have := adj_map h
  rwa [ne_map] at this
theorem adj_mem {a b : HPt} {l : List HPt} (h : Adj a b l) : a ∈ l ∧ b ∈ l := by
  obtain ⟨p, s, rfl⟩ := h
  simp
/-- above each piece, said of a chain from below -/
theorem above_adj {y : HPt} : ∀ {st : List HPt}, Above y st ↔ ∀ a b, Adj b a st → 0 ≤ crossP a b y
  | [] => ⟨fun _ a b h => by obtain ⟨p, s, e⟩ := h; simp at e, fun _ => trivial⟩
  | [t] => ⟨fun _ a b h => by obtain ⟨p, s, e⟩ := h; rcases p with _ | ⟨q, p⟩ <;> simp at e, fun _ => trivial⟩
  | t :: s :: r => by
    have ih := above_adj (y := y) (st := s :: r)
    constructor
    · intro h a b hab
      rcases adj_cons.1 hab with ⟨rfl, q, e⟩ | k
      · simp only [List.cons.injEq] at e
        rw [← e.1]; exact h.1
      · exact ih.1 h.2 a b k
    · intro h
      exact ⟨h s t ⟨[], r, rfl⟩, ih.2 (fun a b k => h a b (adj_cons.2 (.inr k)))⟩
theorem low_side {l : List HPt} (h0 : l ≠ []) (hs : Srt l) : Chain l (sideP l).reverse := chain_sorted h0 hs
theorem up_side {l : List HPt} (h0 : l ≠ []) (hs : Srt l) : Chain (l.reverse.map neP) ((sideP l.reverse).map neP).reverse := by
  rw [← side_ne]
  exact chain_sorted (by simpa using h0) (srt_ne hs)
/-- a hull of two points or more: its lower and its upper side -/
structure HullOf (l : List HPt) (mn mx : HPt) (A B : List HPt) : Prop where
  lo : sideP (sortP l) = mn :: (A ++ [mx])
  up : sideP (sortP l).reverse = mx :: (B ++ [mn])
  lt : ltP mn mx
  mem1 : mn ∈ l
  mem2 : mx ∈ l
  least : ∀ y ∈ l, y = mn ∨ ltP mn y
  most : ∀ y ∈ l, y = mx ∨ ltP y mx
  hull : cornersP l = (mn :: A) ++ (mx :: B)
  clo : Chain (sortP l) (mn :: (A ++ [mx])).reverse
  cup : Chain ((sortP l).reverse.map neP) ((mx :: (B ++ [mn])).map neP).reverse
theorem ends_of {l c : List HPt} (hc : Chain l c.reverse) (h2 : ∃ x ∈ l, ∃ y ∈ l, ltP x y) : ∃ mn mx A, c = mn :: (A ++ [mx]) ∧ ltP mn mx ∧ mn ∈ l ∧ mx ∈ l ∧ (∀ y ∈ l, y = mn ∨ ltP mn y) ∧ (∀ y ∈ l, y = mx ∨ ltP y mx) := by
  have hne : c ≠ [] := by intro e; exact hc.ne (by rw [e]; rfl)
  obtain ⟨pre, mx, e⟩ := list_last c hne
  have hmost := hc.head mx pre.reverse (by rw [e]; simp)
  have hmx := hc.mem mx (by rw [e]; simp)
  rcases pre with _ | ⟨mn, A⟩
  · exfalso
    have hleast := hc.last [] mx (by rw [e]; simp)
    obtain ⟨x, hx, y, hy, hxy⟩ := h2
    have k1 : ∀ z ∈ l, z = mx := by
      intro z hz
      rcases hmost z hz with k | k
      · exact k
      · rcases hleast z hz with m | m
        · exact m
        · exact absurd (ltP_trans k m) (ltP_irrefl _)
    rw [k1 x hx, k1 y hy] at hxy
    exact ltP_irrefl _ hxy
  · have hleast := hc.last (A ++ [mx]).reverse mn (by rw [e]; simp)
    have hmn := hc.mem mn (by rw [e]; simp)
    refine ⟨mn, mx, A, by rw [e]; rfl, ?_, hmn, hmx, hleast, hmost⟩
    have hd := hc.desc
    rw [e] at hd
    have e2 : (mn :: A ++ [mx]).reverse = mx :: (A.reverse ++ [mn]) := by simp
    rw [e2] at hd
    exact hd.lt mn (by simp)
theorem least_unique {l : List HPt} {m m' : HPt} (h : m ∈ l) (h' : m' ∈ l) (k : ∀ y ∈ l, y = m ∨ ltP m y) (k' : ∀ y ∈ l, y = m' ∨ ltP m' y) : m = m' := by
  rcases k m' h' with a | a
  · exact a.symm
  · rcases k' m h with b | b
    · exact b
    · exact absurd (ltP_trans a b) (ltP_irrefl _)
theorem most_unique {l : List HPt} {m m' : HPt} (h : m ∈ l) (h' : m' ∈ l) (k : ∀ y ∈ l, y = m ∨ ltP y m) (k' : ∀ y ∈ l, y = m' ∨ ltP y m') : m = m' := by
  rcases k m' h' with a | a
  · exact a.symm
  · rcases k' m h with b | b
    · exact b
    · exact absurd (ltP_trans a b) (ltP_irrefl _)
theorem srt_two {l : List HPt} (hs : Srt l) (h : 2 ≤ l.length) : ∃ x ∈ l, ∃ y ∈ l, ltP x y := by
  rcases l with _ | ⟨a, _ | ⟨b, l⟩⟩
  · simp at h
  · simp at h
  · exact ⟨a, by simp, b, by simp, (List.pairwise_cons.1 hs).1 b (by simp)⟩
theorem hull_of {l : List HPt} (h : 2 ≤ (sortP l).length) : ∃ mn mx A B, HullOf l mn mx A B := by
  have hs := sort_srt l
  have h0 : sortP l ≠ [] := by intro e; rw [e] at h; simp at h
  obtain ⟨x, hx, y, hy, hxy⟩ := srt_two hs h
  have c1 := low_side h0 hs
  have c2 := up_side h0 hs
  obtain ⟨mn, mx, A, e1, l1, m1, m2, k1, k2⟩ := ends_of c1 ⟨x, hx, y, hy, hxy⟩
  have c2' := c2
  obtain ⟨mn', mx', B', e2, l2, m3, m4, k3, k4⟩ := ends_of c2' ⟨neP y, List.mem_map.2 ⟨y, List.mem_reverse.2 hy, rfl⟩, neP x, List.mem_map.2 ⟨x, List.mem_reverse.2 hx, rfl⟩, lt_ne.2 hxy⟩
  have back : ∀ z, z ∈ (sortP l).reverse.map neP → neP z ∈ sortP l := by
    intro z hz
    obtain ⟨q, hq, rfl⟩ := List.mem_map.1 hz
    rw [ne_ne]
    exact List.mem_reverse.1 hq
  have fwd : ∀ z, z ∈ sortP l → neP z ∈ (sortP l).reverse.map neP := fun z hz => List.mem_map.2 ⟨z, List.mem_reverse.2 hz, rfl⟩
  have u1 : mx = neP mn' := most_unique m2 (back _ m3) k2 (by
    intro z hz
    rcases k3 _ (fwd z hz) with k | k
    · left; rw [← k, ne_ne]
    · right
      have := lt_ne.2 k
      rwa [ne_ne] at this)
  have u2 : mn = neP mx' := least_unique m1 (back _ m4) k1 (by
    intro z hz
    rcases k4 _ (fwd z hz) with k | k
    · left; rw [← k, ne_ne]
    · right
      have := lt_ne.2 k
      rwa [ne_ne] at this)
  have e3 : sideP (sortP l).reverse = mx :: (B'.map neP ++ [mn]) := by
    have := congrArg (List.map neP) e2
    rw [ne_map] at this
    rw [this]
    simp only [List.map_cons, List.map_append, List.map_nil]
    rw [← u1, ← u2]
  have hsm := sort_mem l
  refine ⟨mn, mx, A, B'.map neP, e1, e3, l1, (hsm _).1 m1, (hsm _).1 m2, (fun y hy => k1 y ((hsm y).2 hy)), (fun y hy => k2 y ((hsm y).2 hy)), ?_, by rw [← e1]; exact c1, by rw [← e3]; exact c2⟩
  unfold cornersP
  rw [if_neg (by omega), e1, e3]
  have d1 : (mn :: (A ++ [mx])).dropLast = mn :: A := by rw [← List.cons_append, List.dropLast_concat]
  have d2 : (mx :: (B'.map neP ++ [mn])).dropLast = mx :: B'.map neP := by rw [← List.cons_append, List.dropLast_concat]
  rw [d1, d2]
/-- a point in the hull -/
structure InP (l : List HPt) (mn mx : HPt) (A B : List HPt) (p : HPt) : Prop where
  lo : ∀ a b, Adj a b (mn :: (A ++ [mx])) → 0 ≤ crossP a b p
  up : ∀ a b, Adj a b (mx :: (B ++ [mn])) → 0 ≤ crossP a b p
  least : p = mn ∨ ltP mn p
  most : p = mx ∨ ltP p mx
theorem HullOf.inP {l : List HPt} {mn mx : HPt} {A B : List HPt} (h : HullOf l mn mx A B) {p : HPt} (hp : p ∈ l) : InP l mn mx A B p := by
  refine ⟨?_, ?_, h.least p hp, h.most p hp⟩
  · intro a b hab
    exact above_adj.1 (h.clo.above p ((sort_mem l p).2 hp)) a b (adj_rev.2 hab)
  · intro a b hab
    have := above_adj.1 (h.cup.above (neP p) (List.mem_map.2 ⟨p, List.mem_reverse.2 ((sort_mem l p).2 hp), rfl⟩)) (neP a) (neP b) (adj_rev.2 (adj_map hab))
    rwa [cross_ne] at this
/-- the hull of a list between the corners and all that the hull contains -/
theorem corners_keep {l m : List HPt} {mn mx : HPt} {A B : List HPt} (h : HullOf l mn mx A B) (h1 : ∀ p ∈ cornersP l, p ∈ m) (h2 : ∀ p ∈ m, InP l mn mx A B p) : cornersP m = cornersP l ∧ HullOf m mn mx A B := by
  have hmn : mn ∈ m := h1 mn (by rw [h.hull]; simp)
  have hmx : mx ∈ m := h1 mx (by rw [h.hull]; simp)
  have hsm := sort_mem m
  have hs := sort_srt m
  have h0 : sortP m ≠ [] := by intro e; have := (hsm mn).2 hmn; rw [e] at this; simp at this
  have sublo : ∀ p ∈ mn :: (A ++ [mx]), p ∈ m := by
    intro p hp
    apply h1
    rw [h.hull]
    simp only [List.mem_cons, List.mem_append, List.not_mem_nil, or_false] at hp ⊢
    rcases hp with hp | hp | hp
    · exact .inl (.inl hp)
    · exact .inl (.inr hp)
    · exact .inr (.inl hp)
  have subup : ∀ p ∈ mx :: (B ++ [mn]), p ∈ m := by
    intro p hp
    apply h1
    rw [h.hull]
    simp only [List.mem_cons, List.mem_append, List.not_mem_nil, or_false] at hp ⊢
    rcases hp with hp | hp | hp
    · exact .inr (.inl hp)
    · exact .inr (.inr hp)
    · exact .inl (.inl hp)
  have clo : Chain (sortP m) (mn :: (A ++ [mx])).reverse := by
    refine ⟨h.clo.ne, h.clo.desc, h.clo.conv, ?_, ?_, ?_, ?_⟩
    · intro y hy
      exact above_adj.2 (fun a b hab => (h2 y ((hsm y).1 hy)).lo a b (adj_rev.1 hab))
    · intro s hs
      exact (hsm s).2 (sublo s (List.mem_reverse.1 hs))
    · intro t r e y hy
      have : t = mx := by simp at e; exact e.1.symm
      rw [this]
      exact (h2 y ((hsm y).1 hy)).most
    · intro pre q e y hy
      have : q = mn := by
        have := congrArg List.reverse e
        simp at this
        exact this.1.symm
      rw [this]
      exact (h2 y ((hsm y).1 hy)).least
  have cup : Chain ((sortP m).reverse.map neP) ((mx :: (B ++ [mn])).map neP).reverse := by
    have hy' : ∀ y, y ∈ (sortP m).reverse.map neP → ∃ q ∈ m, y = neP q := by
      intro y hy
      obtain ⟨q, hq, rfl⟩ := List.mem_map.1 hy
      exact ⟨q, (hsm q).1 (List.mem_reverse.1 hq), rfl⟩
    refine ⟨h.cup.ne, h.cup.desc, h.cup.conv, ?_, ?_, ?_, ?_⟩
    · intro y hy
      obtain ⟨q, hq, rfl⟩ := hy' y hy
      refine above_adj.2 (fun a b hab => ?_)
      have := (h2 q hq).up (neP a) (neP b) (adj_map' (adj_rev.1 hab))
      rw [← cross_ne] at this
      rwa [ne_ne, ne_ne] at this
    · intro s hs
      obtain ⟨q, hq, rfl⟩ := List.mem_map.1 (List.mem_reverse.1 hs)
      exact List.mem_map.2 ⟨q, List.mem_reverse.2 ((hsm q).2 (subup q hq)), rfl⟩
    · intro t r e y hy
      obtain ⟨q, hq, rfl⟩ := hy' y hy
      have : t = neP mn := by simp at e; exact e.1.symm
      rw [this]
      rcases (h2 q hq).least with k | k
      · left; rw [k]
      · right; exact lt_ne.2 k
    · intro pre r e y hy
      obtain ⟨q, hq, rfl⟩ := hy' y hy
      have : r = neP mx := by
        have := congrArg List.reverse e
        simp at this
        exact this.1.symm
      rw [this]
      rcases (h2 q hq).most with k | k
      · left; rw [k]
      · right; exact lt_ne.2 k
  have e1 : sideP (sortP m) = mn :: (A ++ [mx]) := by
    have := chain_unique _ _ _ (low_side h0 hs).toP clo.toP
    have := congrArg List.reverse this
    simpa using this
  have e2 : sideP (sortP m).reverse = mx :: (B ++ [mn]) := by
    have := chain_unique _ _ _ (up_side h0 hs).toP cup.toP
    have := congrArg List.reverse this
    rw [List.reverse_reverse, List.reverse_reverse] at this
    have := congrArg (List.map neP) this
    rwa [ne_map, ne_map] at this
  have hlen : ¬ (sortP m).length < 2 := by
    intro hl
    have h3 := (hsm mn).2 hmn
    have h4 := (hsm mx).2 hmx
    rcases hq : sortP m with _ | ⟨a, _ | ⟨b, r⟩⟩
    · exact h0 hq
    · rw [hq] at h3 h4
      simp at h3 h4
      have := h.lt
      rw [h3, h4] at this
      exact ltP_irrefl _ this
    · rw [hq] at hl; simp only [List.length_cons] at hl; omega
  have e3 : cornersP m = (mn :: A) ++ (mx :: B) := by
    unfold cornersP
    rw [if_neg hlen, e1, e2]
    have d1 : (mn :: (A ++ [mx])).dropLast = mn :: A := by rw [← List.cons_append, List.dropLast_concat]
    have d2 : (mx :: (B ++ [mn])).dropLast = mx :: B := by rw [← List.cons_append, List.dropLast_concat]
    rw [d1, d2]
  exact ⟨by rw [e3, h.hull], e1, e2, h.lt, hmn, hmx, fun y hy => (h2 y hy).least, fun y hy => (h2 y hy).most, e3, clo, cup⟩
end Go.Proofs.YtcbjecpfijogcaaGreat
