
/- The corners of a hull and their sides; two hulls that some direction parts are parted by one of the definition's directions; what a hull contains. -/
import Derived.Test.YtcbjecpfijogcaaGreatHGeo1
import Derived.Test.YtcbjecpfijogcaaGreatHParting
namespace Go.Proofs.YtcbjecpfijogcaaGreat
open Go.RowKit

theorem HullOf.sub {l : List HPt} {mn mx : HPt} {A B : List HPt} (h : HullOf l mn mx A B) : ∀ p ∈ cornersP l, p ∈ l := by
  have low : ∀ p ∈ mn :: (A ++ [mx]), p ∈ l := fun p hp => (sort_mem l p).1 (h.clo.mem p (List.mem_reverse.2 hp))
  have upp : ∀ p ∈ mx :: (B ++ [mn]), p ∈ l := by
    intro p hp
    obtain ⟨q, hq, e⟩ := List.mem_map.1 (h.cup.mem (neP p) (List.mem_reverse.2 (List.mem_map.2 ⟨p, hp, rfl⟩)))
    have : q = p := by
      have := congrArg neP e
      rwa [ne_ne, ne_ne] at this
    rw [← this]
    exact (sort_mem l q).1 (List.mem_reverse.1 hq)
  intro p hp
  rw [h.hull] at hp
  rcases List.mem_append.1 hp with hp | hp
  · exact low p (by simp only [List.mem_cons, List.mem_append] at hp ⊢; rcases hp with hp | hp <;> simp [hp])
  · exact upp p (by simp only [List.mem_cons, List.mem_append] at hp ⊢; rcases hp with hp | hp <;> simp [hp])
theorem sort_sort {l : List HPt} (h : Srt l) : sortP l = l := srt_unique (sort_srt l) h (fun y => sort_mem l y)
/-- the hull of a hull is that hull -/
theorem corners_idem (l : List HPt) : cornersP (cornersP l) = cornersP l := by
  by_cases h : (sortP l).length < 2
  · have e : cornersP l = sortP l := by unfold cornersP; rw [if_pos h]
    rw [e]
    unfold cornersP
    rw [sort_sort (sort_srt l), if_pos h]
  · obtain ⟨mn, mx, A, B, H⟩ := hull_of (l := l) (by omega)
    exact (corners_keep H (fun p hp => hp) (fun p hp => H.inP (H.sub p hp))).1
theorem adj_right {a b : HPt} {l t : List HPt} (h : Adj a b l) : Adj a b (l ++ t) := by
  obtain ⟨p, s, rfl⟩ := h
  exact ⟨p, s ++ t, by simp⟩
theorem adj_left {a b : HPt} {l t : List HPt} (h : Adj a b l) : Adj a b (t ++ l) := by
  obtain ⟨p, s, rfl⟩ := h
  exact ⟨t ++ p, s, by simp⟩
/-- the directions at a side -/
theorem side_dirs {m : HPt} {T : List HPt} {a b : HPt} (hab : Adj a b ((m :: T) ++ [m])) : ∀ d ∈ rdP (b.1 - a.1, b.2 - a.2), d ∈ rdirs (m :: T) := by
  obtain ⟨p, s, e⟩ := hab
  have hlen : p.length + s.length + 2 = T.length + 2 := by
    have := congrArg List.length e
    simp only [List.length_append, List.length_cons, List.length_nil] at this
    omega
  have hi : p.length < (m :: T).length := by rw [List.length_cons]; omega
  have ha : (m :: T)[p.length]? = some a := by
    have h1 : ((m :: T) ++ [m])[p.length]? = some a := by rw [e, List.getElem?_append_right (Nat.le_refl _), Nat.sub_self]; rfl
    rwa [List.getElem?_append_left hi] at h1
  have hb : ((m :: T) ++ [m])[p.length + 1]? = some b := by rw [e, List.getElem?_append_right (by omega), show p.length + 1 - p.length = 1 by omega]; rfl
  have hga : (m :: T).getD p.length (0, 0) = a := by rw [List.getD_eq_getElem?_getD, ha]; rfl
  have hgb : nxtP (m :: T) p.length = b := by
    unfold nxtP
    by_cases h : p.length + 1 < (m :: T).length
    · rw [Nat.mod_eq_of_lt h, List.getD_eq_getElem?_getD]
      rw [List.getElem?_append_left h] at hb
      rw [hb]; rfl
    · have e2 : p.length + 1 = (m :: T).length := by omega
      rw [e2, Nat.mod_self]
      rw [e2, List.getElem?_append_right (Nat.le_refl _), Nat.sub_self] at hb
      simp at hb
      rw [← hb]; rfl
  intro d hd
  refine List.mem_flatMap.2 ⟨p.length, List.mem_range.2 hi, ?_⟩
  unfold sdP
  rw [hga, hgb]
  exact hd
theorem rd_ne {s d : HPt} (h : d ∈ rdP (-s.1, -s.2)) : d ∈ rdP s := by
  unfold rdP at *
  simp only [List.mem_cons, List.not_mem_nil, or_false, Int.neg_neg] at *
  rcases h with h | h | h | h <;> simp [h]
theorem par_dot {e u z : HPt} (hu : posV u) (hz : posV z) (h : crs u z = 0) (he : dotP e u ≤ 0) : dotP e z ≤ 0 := by
  obtain ⟨e1, e2⟩ := e
  obtain ⟨u1, u2⟩ := u
  obtain ⟨z1, z2⟩ := z
  unfold posV crs dotP at *
  simp only at *
  have hz0 : 0 ≤ z1 := by omega
  rcases hu with hu | ⟨hu1, hu2⟩
  · have k : u1 * (e1 * z1 + e2 * z2) = z1 * (e1 * u1 + e2 * u2) + e2 * (u1 * z2 - u2 * z1) := by grind
    rw [h, Int.mul_zero, Int.add_zero] at k
    have k2 : u1 * (e1 * z1 + e2 * z2) ≤ 0 := by
      rw [k]
      exact Int.mul_nonpos_of_nonneg_of_nonpos hz0 he
    by_cases k3 : e1 * z1 + e2 * z2 ≤ 0
    · exact k3
    · have := Int.mul_pos hu (show 0 < e1 * z1 + e2 * z2 by omega)
      omega
  · subst hu1
    have hz1 : z1 = 0 := by
      have k : u2 * z1 = 0 := by rw [Int.zero_mul] at h; omega
      rcases Int.mul_eq_zero.1 k with k | k
      · omega
      · exact k
    subst hz1
    have hz2 : 0 < z2 := by omega
    simp only [Int.mul_zero, Int.zero_add] at he ⊢
    have he2 : e2 ≤ 0 := by
      by_cases k : e2 ≤ 0
      · exact k
      · have := Int.mul_pos (show 0 < e2 by omega) hu2
        omega
    exact Int.mul_nonpos_of_nonpos_of_nonneg he2 (by omega)
theorem dot_dif (e x p : HPt) : dotP e (dif x p) = dotP e x - dotP e p := by unfold dotP dif; simp only; grind
theorem loc_zero {p n r x e : HPt} (h0 : crossP r p n = 0) (h2 : 0 ≤ crossP p n x) (h3 : 0 ≤ crossP r p x) (hn : ltP p n) (hr : ltP p r) (hx : x = p ∨ ltP p x) (eu : dotP e (dif n p) ≤ 0) : dotP e x ≤ dotP e p := by
  rcases hx with rfl | hx
  · exact Int.le_refl _
  · have c1 : crs (dif n p) (dif r p) = 0 := by
      have : crs (dif n p) (dif r p) = crossP r p n := by unfold crossP crs dif; simp only; grind
      rw [this, h0]
    have c3 : 0 ≤ crs (dif x p) (dif r p) := by
      have : crs (dif x p) (dif r p) = crossP r p x := by unfold crossP crs dif; simp only; grind
      rw [this]; exact h3
    have c2 : crs (dif n p) (dif x p) = 0 := by
      rcases Int.lt_or_eq_of_le h2 with k | k
      · have := crs_trans_l (pos_of_lt hn) (pos_of_lt hx) (pos_of_lt hr) k c3
        omega
      · exact k.symm
    have := par_dot (pos_of_lt hn) (pos_of_lt hx) c2 eu
    rw [dot_dif] at this
    omega
theorem dot_ne (e p : HPt) : dotP (neP e) (neP p) = dotP e p := by unfold dotP neP; simp only; grind
theorem dif_ne (a b : HPt) : dif (neP a) (neP b) = neP (dif a b) := by unfold dif neP; simp only; ext <;> simp <;> omega
/-- what holds of the neighbours of a corner holds of the whole hull -/
theorem loc_lem {p n r x e : HPt} (h1 : 0 ≤ crossP r p n) (h2 : 0 ≤ crossP p n x) (h3 : 0 ≤ crossP r p x)
    (hz : 0 < crossP r p n ∨ (ltP p n ∧ ltP p r ∧ (x = p ∨ ltP p x)) ∨ (ltP n p ∧ ltP r p ∧ (x = p ∨ ltP x p)))
    (eu : dotP e (dif n p) ≤ 0) (ew : dotP e (dif r p) ≤ 0) : dotP e x ≤ dotP e p := by
  rcases Int.lt_or_eq_of_le h1 with hD | hD
  · have k : crossP r p n * (dotP e x - dotP e p) = crossP r p x * dotP e (dif n p) + crossP p n x * dotP e (dif r p) := by unfold crossP dotP dif; simp only; grind
    have k1 := Int.mul_nonpos_of_nonneg_of_nonpos h3 eu
    have k2 := Int.mul_nonpos_of_nonneg_of_nonpos h2 ew
    by_cases k3 : dotP e x ≤ dotP e p
    · exact k3
    · have := Int.mul_pos hD (show 0 < dotP e x - dotP e p by omega)
      omega
  · rcases hz with hz | ⟨a, b, c⟩ | ⟨a, b, c⟩
    · omega
    · exact loc_zero hD.symm h2 h3 a b c eu
    · have := loc_zero (p := neP p) (n := neP n) (r := neP r) (x := neP x) (e := neP e) (by rw [cross_ne]; exact hD.symm) (by rw [cross_ne]; exact h2) (by rw [cross_ne]; exact h3) (lt_ne.2 a) (lt_ne.2 b) (by
        rcases c with c | c
        · left; rw [c]
        · right; exact lt_ne.2 c) (by rw [dif_ne, dot_ne]; exact eu)
      rwa [dot_ne, dot_ne] at this
/-- a corner of a hull: the two sides at it say all -/
structure Vtx (L H : List HPt) (p u w : HPt) : Prop where
  loc : ∀ e, dotP e u ≤ 0 → dotP e w ≤ 0 → ∀ x ∈ L, dotP e x ≤ dotP e p
  du : ∀ d ∈ rdP u, d ∈ rdirs H
  dw : ∀ d ∈ rdP w, d ∈ rdirs H
  triv : u = (0, 0) → H = [p]
  eu : ∃ n ∈ H, u = dif n p
  ew : ∃ r ∈ H, w = dif r p
theorem Desc.suffix : ∀ {a b : List HPt}, Desc (a ++ b) → Desc b
  | [], _, h => h
  | _ :: a, _, h => Desc.suffix (a := a) h.tail
theorem Conv.suffix : ∀ {a b : List HPt}, Conv (a ++ b) → Conv b
  | [], _, h => h
  | _ :: a, _, h => Conv.suffix (a := a) h.tail
theorem adj_lt {c : List HPt} {a b : HPt} (h : Desc c.reverse) (hab : Adj a b c) : ltP a b := by
  obtain ⟨p, s, rfl⟩ := hab
  have e : (p ++ a :: b :: s).reverse = s.reverse ++ (b :: a :: p.reverse) := by simp
  rw [e] at h
  exact h.suffix.1
theorem conv_mid {X Y : List HPt} {r p n : HPt} (h : Conv (X ++ r :: p :: n :: Y).reverse) : 0 < crossP r p n := by
  have e : (X ++ r :: p :: n :: Y).reverse = Y.reverse ++ (n :: p :: r :: X.reverse) := by simp
  rw [e] at h
  exact h.suffix.1
theorem mid_list {P Q : List HPt} {p : HPt} (hP : P ≠ []) (hQ : Q ≠ []) : ∃ X r n Y, P ++ p :: Q = X ++ r :: p :: n :: Y := by
  obtain ⟨X, r, rfl⟩ := list_last P hP
  rcases Q with _ | ⟨n, Y⟩
  · exact absurd rfl hQ
  · exact ⟨X, r, n, Y, by simp⟩
section
variable {l : List HPt} {mn mx : HPt} {A B : List HPt}
theorem HullOf.side {a b : HPt} (h : HullOf l mn mx A B) (hab : Adj a b (mn :: (A ++ [mx])) ∨ Adj a b (mx :: (B ++ [mn]))) : (∀ d ∈ rdP (dif b a), d ∈ rdirs (cornersP l)) ∧ ∀ p ∈ l, 0 ≤ crossP a b p := by
  constructor
  · have e : cornersP l = mn :: (A ++ mx :: B) := by rw [h.hull]; rfl
    rw [e]
    refine side_dirs ?_
    rcases hab with k | k
    · have := adj_right (t := B ++ [mn]) k
      have e2 : mn :: (A ++ [mx]) ++ (B ++ [mn]) = mn :: (A ++ mx :: B) ++ [mn] := by simp
      rwa [e2] at this
    · have := adj_left (t := mn :: A) k
      have e2 : mn :: A ++ mx :: (B ++ [mn]) = mn :: (A ++ mx :: B) ++ [mn] := by simp
      rwa [e2] at this
  · intro p hp
    have := h.inP hp
    rcases hab with k | k
    · exact this.lo a b k
    · exact this.up a b k
theorem HullOf.onto {q : HPt} (h : HullOf l mn mx A B) (hq : q ∈ mn :: (A ++ [mx]) ∨ q ∈ mx :: (B ++ [mn])) : q ∈ cornersP l := by
  rw [h.hull]
  simp only [List.mem_cons, List.mem_append, List.not_mem_nil, or_false] at hq ⊢
  rcases hq with (hq | hq | hq) | (hq | hq | hq) <;> simp [hq]
theorem vtx_mk {r p n : HPt} (h : HullOf l mn mx A B) (hpn : Adj p n (mn :: (A ++ [mx])) ∨ Adj p n (mx :: (B ++ [mn]))) (hrp : Adj r p (mn :: (A ++ [mx])) ∨ Adj r p (mx :: (B ++ [mn]))) (hD : 0 ≤ crossP r p n) (hne : ¬ n = p)
    (hz : 0 < crossP r p n ∨ (ltP p n ∧ ltP p r ∧ ∀ x ∈ l, x = p ∨ ltP p x) ∨ (ltP n p ∧ ltP r p ∧ ∀ x ∈ l, x = p ∨ ltP x p)) : Vtx l (cornersP l) p (dif n p) (dif r p) := by
  obtain ⟨s1, k1⟩ := h.side hpn
  obtain ⟨s2, k2⟩ := h.side hrp
  refine ⟨?_, s1, ?_, ?_, ?_, ?_⟩
  · intro e eu ew x hx
    refine loc_lem hD (k1 x hx) (k2 x hx) ?_ eu ew
    rcases hz with z | ⟨a, b, c⟩ | ⟨a, b, c⟩
    · exact .inl z
    · exact .inr (.inl ⟨a, b, c x hx⟩)
    · exact .inr (.inr ⟨a, b, c x hx⟩)
  · intro d hd
    apply s2
    apply rd_ne
    have e : dif r p = (-(dif p r).1, -(dif p r).2) := by unfold dif; ext <;> simp only <;> omega
    rwa [e] at hd
  · intro e
    exfalso
    apply hne
    unfold dif at e
    simp only [Prod.mk.injEq] at e
    ext <;> omega
  · exact ⟨n, h.onto (hpn.imp (fun k => (adj_mem k).2) (fun k => (adj_mem k).2)), rfl⟩
  · exact ⟨r, h.onto (hrp.imp (fun k => (adj_mem k).1) (fun k => (adj_mem k).1)), rfl⟩
theorem HullOf.adj_lo {a b : HPt} (h : HullOf l mn mx A B) (hab : Adj a b (mn :: (A ++ [mx]))) : ltP a b := adj_lt h.clo.desc hab
theorem HullOf.adj_up {a b : HPt} (h : HullOf l mn mx A B) (hab : Adj a b (mx :: (B ++ [mn]))) : ltP b a := lt_ne.1 (adj_lt h.cup.desc (adj_map hab))
theorem ne_of_lt {a b : HPt} (h : ltP a b) : ¬ a = b := fun e => ltP_irrefl b (e ▸ h)
theorem vtx_of {p : HPt} (h : HullOf l mn mx A B) (hp : p ∈ cornersP l) : ∃ u w, Vtx l (cornersP l) p u w := by
  rw [h.hull] at hp
  rcases List.mem_append.1 hp with hp | hp
  · rcases List.mem_cons.1 hp with rfl | hp
    · obtain ⟨n, Y, e1⟩ : ∃ n Y, A ++ [mx] = n :: Y := by
        rcases A with _ | ⟨a, A⟩
        · exact ⟨mx, [], rfl⟩
        · exact ⟨a, A ++ [mx], rfl⟩
      obtain ⟨X, r, e2⟩ := list_last (mx :: B) (by simp)
      have a1 : Adj p n (p :: (A ++ [mx])) := ⟨[], Y, by rw [e1]; rfl⟩
      have a2 : Adj r p (mx :: (B ++ [p])) := ⟨X, [], by rw [← List.cons_append, e2]; simp⟩
      have l1 := h.adj_lo a1
      have l2 := h.adj_up a2
      have hn : n ∈ l := (sort_mem l n).1 (h.clo.mem n (List.mem_reverse.2 (adj_mem a1).2))
      exact ⟨_, _, vtx_mk h (.inl a1) (.inr a2) ((h.inP hn).up _ _ a2) (fun e => ne_of_lt l1 e.symm) (.inr (.inl ⟨l1, l2, h.least⟩))⟩
    · obtain ⟨A1, A2, e⟩ := List.append_of_mem hp
      obtain ⟨X, r, n, Y, e2⟩ := mid_list (P := mn :: A1) (Q := A2 ++ [mx]) (p := p) (by simp) (by simp)
      have e3 : mn :: (A ++ [mx]) = X ++ r :: p :: n :: Y := by rw [← e2, e]; simp
      have a1 : Adj p n (mn :: (A ++ [mx])) := ⟨X ++ [r], Y, by rw [e3]; simp⟩
      have a2 : Adj r p (mn :: (A ++ [mx])) := ⟨X, n :: Y, e3⟩
      have hc := h.clo.conv
      rw [e3] at hc
      have hD := conv_mid hc
      exact ⟨_, _, vtx_mk h (.inl a1) (.inl a2) (Int.le_of_lt hD) (fun e => ne_of_lt (h.adj_lo a1) e.symm) (.inl hD)⟩
  · rcases List.mem_cons.1 hp with rfl | hp
    · obtain ⟨n, Y, e1⟩ : ∃ n Y, B ++ [mn] = n :: Y := by
        rcases B with _ | ⟨a, B⟩
        · exact ⟨mn, [], rfl⟩
        · exact ⟨a, B ++ [mn], rfl⟩
      obtain ⟨X, r, e2⟩ := list_last (mn :: A) (by simp)
      have a1 : Adj p n (p :: (B ++ [mn])) := ⟨[], Y, by rw [e1]; rfl⟩
      have a2 : Adj r p (mn :: (A ++ [p])) := ⟨X, [], by rw [← List.cons_append, e2]; simp⟩
      have l1 := h.adj_up a1
      have l2 := h.adj_lo a2
      have hn : n ∈ l := by
        have k := (h.cup.mem (neP n) (List.mem_reverse.2 (List.mem_map.2 ⟨n, (adj_mem a1).2, rfl⟩)))
        obtain ⟨q, hq, e⟩ := List.mem_map.1 k
        have : q = n := by
          have := congrArg neP e
          rwa [ne_ne, ne_ne] at this
        rw [← this]
        exact (sort_mem l q).1 (List.mem_reverse.1 hq)
      exact ⟨_, _, vtx_mk h (.inr a1) (.inl a2) ((h.inP hn).lo _ _ a2) (ne_of_lt l1) (.inr (.inr ⟨l1, l2, h.most⟩))⟩
    · obtain ⟨B1, B2, e⟩ := List.append_of_mem hp
      obtain ⟨X, r, n, Y, e2⟩ := mid_list (P := mx :: B1) (Q := B2 ++ [mn]) (p := p) (by simp) (by simp)
      have e3 : mx :: (B ++ [mn]) = X ++ r :: p :: n :: Y := by rw [← e2, e]; simp
      have a1 : Adj p n (mx :: (B ++ [mn])) := ⟨X ++ [r], Y, by rw [e3]; simp⟩
      have a2 : Adj r p (mx :: (B ++ [mn])) := ⟨X, n :: Y, e3⟩
      have hc := h.cup.conv
      rw [e3] at hc
      have e4 : (X ++ r :: p :: n :: Y).map neP = X.map neP ++ neP r :: neP p :: neP n :: Y.map neP := by simp
      rw [e4] at hc
      have hD := conv_mid hc
      rw [cross_ne] at hD
      exact ⟨_, _, vtx_mk h (.inr a1) (.inr a2) (Int.le_of_lt hD) (ne_of_lt (h.adj_up a1)) (.inl hD)⟩
end
/-- each corner of a hull has its two sides -/
theorem hull_vtx {H : List HPt} (hH : cornersP H = H) {p : HPt} (hp : p ∈ H) : ∃ u w, Vtx H H p u w := by
  by_cases h : (sortP H).length < 2
  · have e : H = sortP H := by
      have : cornersP H = sortP H := by unfold cornersP; rw [if_pos h]
      rw [← this, hH]
    rw [← e] at h
    rcases H with _ | ⟨a, _ | ⟨b, r⟩⟩
    · simp at hp
    · have : p = a := by simpa using hp
      subst this
      have hd : ∀ d ∈ rdP (0, 0), d ∈ rdirs [p] := by
        intro d hd
        refine List.mem_flatMap.2 ⟨0, by simp, ?_⟩
        have : sdP [p] 0 = (0, 0) := by unfold sdP nxtP; simp
        rw [this]
        exact hd
      have h00 : ((0, 0) : HPt) = dif p p := by unfold dif; simp
      refine ⟨(0, 0), (0, 0), ?_, hd, hd, fun _ => rfl, ⟨p, by simp, h00⟩, ⟨p, by simp, h00⟩⟩
      intro e _ _ x hx
      have : x = p := by simpa using hx
      rw [this]; exact Int.le_refl _
    · simp only [List.length_cons] at h; omega
  · obtain ⟨mn, mx, A, B, k⟩ := hull_of (l := H) (by omega)
    have := vtx_of k (p := p) (by rw [hH]; exact hp)
    rwa [hH] at this
/-! ### directions that part -/
def perp (u : HPt) : HPt := (-u.2, u.1)
theorem dot_perp (u x : HPt) : dotP (perp u) x = crs u x := by unfold dotP perp crs; simp only; grind
theorem dot_neg (u x : HPt) : dotP (neP u) x = - dotP u x := by unfold dotP neP; simp only; grind
theorem plu (d a b c : HPt) : dotP d a * crs b c + dotP d b * crs c a + dotP d c * crs a b = 0 := by unfold dotP crs; grind
theorem crs_self (u : HPt) : crs u u = 0 := by unfold crs; grind
theorem crs_tr {d a b c : HPt} (ha : dotP d a < 0) (hb : dotP d b < 0) (hc : dotP d c < 0) (h1 : 0 ≤ crs a b) (h2 : 0 ≤ crs b c) : 0 ≤ crs a c := by
  have k := plu d a b c
  rw [crs_anti c a] at k
  have k1 : dotP d a * crs b c ≤ 0 := Int.mul_nonpos_of_nonpos_of_nonneg (Int.le_of_lt ha) h2
  have k2 : dotP d c * crs a b ≤ 0 := Int.mul_nonpos_of_nonpos_of_nonneg (Int.le_of_lt hc) h1
  by_cases h : 0 ≤ crs a c
  · exact h
  · have := Int.mul_pos_of_neg_of_neg hb (show crs a c < 0 by omega)
    rw [Int.mul_neg] at k
    omega
/-- the outermost of some vectors of a half-plane, on the left -/
theorem extreme_l {d : HPt} : ∀ (U : List HPt), U ≠ [] → (∀ u ∈ U, dotP d u < 0) → ∃ m ∈ U, ∀ u ∈ U, 0 ≤ crs u m
  | [], h, _ => absurd rfl h
  | [a], _, _ => ⟨a, by simp, fun u hu => by have : u = a := by simpa using hu
                                             rw [this, crs_self]; exact Int.le_refl _⟩
  | a :: b :: U, _, h => by
    obtain ⟨m, hm, k⟩ := extreme_l (b :: U) (by simp) (fun u hu => h u (List.mem_cons_of_mem _ hu))
    have hmd := h m (List.mem_cons_of_mem _ hm)
    have had := h a (by simp)
    by_cases hc : 0 ≤ crs m a
    · refine ⟨a, by simp, fun u hu => ?_⟩
      rcases List.mem_cons.1 hu with rfl | hu
      · rw [crs_self]; exact Int.le_refl _
      · exact crs_tr (h u (List.mem_cons_of_mem _ hu)) hmd had (k u hu) hc
    · refine ⟨m, List.mem_cons_of_mem _ hm, fun u hu => ?_⟩
      rcases List.mem_cons.1 hu with rfl | hu
      · rw [crs_anti]; omega
      · exact k u hu
theorem extreme_r {d : HPt} : ∀ (U : List HPt), U ≠ [] → (∀ u ∈ U, dotP d u < 0) → ∃ m ∈ U, ∀ u ∈ U, 0 ≤ crs m u
  | [], h, _ => absurd rfl h
  | [a], _, _ => ⟨a, by simp, fun u hu => by have : u = a := by simpa using hu
                                             rw [this, crs_self]; exact Int.le_refl _⟩
  | a :: b :: U, _, h => by
    obtain ⟨m, hm, k⟩ := extreme_r (b :: U) (by simp) (fun u hu => h u (List.mem_cons_of_mem _ hu))
    have hmd := h m (List.mem_cons_of_mem _ hm)
    have had := h a (by simp)
    by_cases hc : 0 ≤ crs a m
    · refine ⟨a, by simp, fun u hu => ?_⟩
      rcases List.mem_cons.1 hu with rfl | hu
      · rw [crs_self]; exact Int.le_refl _
      · exact crs_tr had hmd (h u (List.mem_cons_of_mem _ hu)) hc (k u hu)
    · refine ⟨m, List.mem_cons_of_mem _ hm, fun u hu => ?_⟩
      rcases List.mem_cons.1 hu with rfl | hu
      · rw [crs_anti]; omega
      · exact k u hu
theorem mem_rd {u : HPt} : u ∈ rdP u ∧ neP u ∈ rdP u ∧ perp u ∈ rdP u ∧ neP (perp u) ∈ rdP u := by
  unfold rdP neP perp
  simp
theorem dot_zero (d : HPt) : dotP d (0, 0) = 0 := by unfold dotP; simp
theorem self_pos {v : HPt} (h : ¬ v = (0, 0)) : 0 < dotP v v := by
  obtain ⟨a, b⟩ := v
  unfold dotP
  simp only
  have h1 : 0 ≤ a * a := by rcases Int.le_total 0 a with k | k
                            · exact Int.mul_nonneg k k
                            · exact Int.mul_nonneg_of_nonpos_of_nonpos k k
  have h2 : 0 ≤ b * b := by rcases Int.le_total 0 b with k | k
                            · exact Int.mul_nonneg k k
                            · exact Int.mul_nonneg_of_nonpos_of_nonpos k k
  rcases Int.lt_or_eq_of_le h1 with k | k
  · omega
  · rcases Int.lt_or_eq_of_le h2 with m | m
    · omega
    · exfalso
      apply h
      have ha : a = 0 := by rcases Int.mul_eq_zero.1 k.symm with q | q <;> exact q
      have hb : b = 0 := by rcases Int.mul_eq_zero.1 m.symm with q | q <;> exact q
      rw [ha, hb]
/-- of a direction that some vectors do not follow, and another one does, comes one along or across one of them -/
theorem part_vec (U : List HPt) (d v : HPt) (hU : ∀ u ∈ U, dotP d u ≤ 0) (hv : 0 < dotP d v) : (∀ u ∈ U, u = (0, 0)) ∨ ∃ u ∈ U, ∃ e ∈ rdP u, (∀ x ∈ U, dotP e x ≤ 0) ∧ 0 < dotP e v := by
  by_cases h0 : ∀ u ∈ U, u = (0, 0)
  · exact .inl h0
  · right
    by_cases hz : ∃ u ∈ U, u ≠ (0, 0) ∧ dotP d u = 0
    · obtain ⟨u, hu, hne, hdu⟩ := hz
      have hn := self_pos hne
      -- |u|² d = crs u d · perp u
      have id : ∀ x, dotP u u * dotP d x = crs u d * dotP (perp u) x := by
        intro x
        have e1 : dotP u u * dotP d x = dotP d u * dotP u x + crs u d * dotP (perp u) x := by unfold dotP crs perp; simp only; grind
        rw [e1, hdu, Int.zero_mul, Int.zero_add]
      have hc : crs u d ≠ 0 := by
        intro k
        have := id v
        rw [k, Int.zero_mul] at this
        have := Int.mul_pos hn hv
        omega
      rcases Int.lt_or_lt_of_ne hc with k | k
      · refine ⟨u, hu, neP (perp u), mem_rd.2.2.2, ?_, ?_⟩
        · intro x hx
          rw [dot_neg]
          have h1 := id x
          have h2 := Int.mul_nonpos_of_nonneg_of_nonpos (Int.le_of_lt hn) (hU x hx)
          by_cases h3 : 0 ≤ dotP (perp u) x
          · omega
          · have := Int.mul_pos_of_neg_of_neg k (show dotP (perp u) x < 0 by omega)
            omega
        · rw [dot_neg]
          have h1 := id v
          have h2 := Int.mul_pos hn hv
          by_cases h3 : 0 ≤ dotP (perp u) v
          · have := Int.mul_nonpos_of_nonpos_of_nonneg (Int.le_of_lt k) h3
            omega
          · omega
      · refine ⟨u, hu, perp u, mem_rd.2.2.1, ?_, ?_⟩
        · intro x hx
          have h1 := id x
          have h2 := Int.mul_nonpos_of_nonneg_of_nonpos (Int.le_of_lt hn) (hU x hx)
          by_cases h3 : dotP (perp u) x ≤ 0
          · exact h3
          · have := Int.mul_pos k (show 0 < dotP (perp u) x by omega)
            omega
        · have h1 := id v
          have h2 := Int.mul_pos hn hv
          by_cases h3 : 0 < dotP (perp u) v
          · exact h3
          · have := Int.mul_nonpos_of_nonneg_of_nonpos (Int.le_of_lt k) (show dotP (perp u) v ≤ 0 by omega)
            omega
    · have hV : ∀ u ∈ U.filter (fun u => decide (u ≠ (0, 0))), dotP d u < 0 := by
        intro u hu
        obtain ⟨a, b⟩ := List.mem_filter.1 hu
        have b' : u ≠ (0, 0) := by simpa using b
        have h1 := hU u a
        rcases Int.lt_or_eq_of_le h1 with k | k
        · exact k
        · exact absurd ⟨u, a, b', k⟩ hz
      have hVne : U.filter (fun u => decide (u ≠ (0, 0))) ≠ [] := by
        intro e
        apply h0
        intro u hu
        by_cases k : u = (0, 0)
        · exact k
        · have : u ∈ U.filter (fun u => decide (u ≠ (0, 0))) := List.mem_filter.2 ⟨hu, by simpa using k⟩
          rw [e] at this
          simp at this
      obtain ⟨L, hL, kL⟩ := extreme_l _ hVne hV
      obtain ⟨R, hR, kR⟩ := extreme_r _ hVne hV
      have toU : ∀ {P : HPt → Prop}, P (0, 0) → (∀ u ∈ U.filter (fun u => decide (u ≠ (0, 0))), P u) → ∀ u ∈ U, P u := by
        intro P p0 pf u hu
        by_cases k : u = (0, 0)
        · rw [k]; exact p0
        · exact pf u (List.mem_filter.2 ⟨hu, by simpa using k⟩)
      have hLU := (List.mem_filter.1 hL).1
      have hRU := (List.mem_filter.1 hR).1
      have hdL := hV L hL
      have hdR := hV R hR
      have hD := kL R hR
      rcases Int.lt_or_eq_of_le hD with hD | hD
      · have id : crs R L * dotP d v = crs v L * dotP d R + crs R v * dotP d L := by unfold dotP crs; grind
        have h1 := Int.mul_pos hD hv
        by_cases h2 : 0 ≤ crs v L
        · have h3 := Int.mul_nonpos_of_nonneg_of_nonpos h2 (Int.le_of_lt hdR)
          by_cases h4 : 0 ≤ crs R v
          · have := Int.mul_nonpos_of_nonneg_of_nonpos h4 (Int.le_of_lt hdL)
            omega
          · refine ⟨R, hRU, neP (perp R), mem_rd.2.2.2, ?_, ?_⟩
            · apply toU
              · rw [dot_zero]; exact Int.le_refl _
              · intro u hu
                rw [dot_neg, dot_perp]
                have := kR u hu
                omega
            · rw [dot_neg, dot_perp]; omega
        · refine ⟨L, hLU, perp L, mem_rd.2.2.1, ?_, ?_⟩
          · apply toU
            · rw [dot_zero]; exact Int.le_refl _
            · intro u hu
              rw [dot_perp, crs_anti]
              have := kL u hu
              omega
          · rw [dot_perp, crs_anti]; omega
      · -- all on one ray
        have ray : ∀ u ∈ U.filter (fun u => decide (u ≠ (0, 0))), crs u L = 0 := by
          intro u hu
          have k := plu d R u L
          rw [crs_anti L R, ← hD] at k
          have k1 := kL u hu
          have k2 := kR u hu
          have k3 := Int.mul_nonpos_of_nonpos_of_nonneg (Int.le_of_lt hdL) k2
          rcases Int.lt_or_eq_of_le k1 with m | m
          · have := Int.mul_neg_of_neg_of_pos hdR m
            simp at k
            omega
          · exact m.symm
        rcases Int.lt_trichotomy (crs L v) 0 with c | c | c
        · refine ⟨L, hLU, neP (perp L), mem_rd.2.2.2, ?_, ?_⟩
          · apply toU
            · rw [dot_zero]; exact Int.le_refl _
            · intro u hu
              rw [dot_neg, dot_perp, crs_anti, ray u hu]; simp
          · rw [dot_neg, dot_perp]; omega
        · refine ⟨L, hLU, neP L, mem_rd.2.1, ?_, ?_⟩
          · apply toU
            · rw [dot_zero]; exact Int.le_refl _
            · intro u hu
              rw [dot_neg]
              have e : dotP L u * dotP d L = dotP L L * dotP d u + crs u L * crs L d := by unfold dotP crs; grind
              rw [ray u hu, Int.zero_mul, Int.add_zero] at e
              have hLn : ¬ L = (0, 0) := by simpa using (List.mem_filter.1 hL).2
              have k1 := Int.mul_neg_of_pos_of_neg (self_pos hLn) (hV u hu)
              by_cases k2 : 0 ≤ dotP L u
              · omega
              · have := Int.mul_pos_of_neg_of_neg (show dotP L u < 0 by omega) hdL
                omega
          · rw [dot_neg]
            have e : dotP L v * dotP d L = dotP L L * dotP d v + crs v L * crs L d := by unfold dotP crs; grind
            rw [crs_anti v L, c] at e
            have hLn : ¬ L = (0, 0) := by simpa using (List.mem_filter.1 hL).2
            have k1 := Int.mul_pos (self_pos hLn) hv
            simp only [Int.neg_zero, Int.zero_mul, Int.add_zero] at e
            by_cases k2 : 0 ≤ dotP L v
            · have := Int.mul_nonpos_of_nonneg_of_nonpos k2 (Int.le_of_lt hdL)
              omega
            · omega
        · refine ⟨L, hLU, perp L, mem_rd.2.2.1, ?_, ?_⟩
          · apply toU
            · rw [dot_zero]; exact Int.le_refl _
            · intro u hu
              rw [dot_perp, crs_anti, ray u hu]; simp
          · rw [dot_perp]; exact c
theorem argmax (f : HPt → Int) : ∀ (l : List HPt), l ≠ [] → ∃ p ∈ l, ∀ x ∈ l, f x ≤ f p
  | [], h => absurd rfl h
  | [a], _ => by
    refine ⟨a, by simp, fun x hx => ?_⟩
    have : x = a := by simpa using hx
    rw [this]; exact Int.le_refl _
  | a :: b :: l, _ => by
    obtain ⟨m, hm, k⟩ := argmax f (b :: l) (by simp)
    by_cases h : f m ≤ f a
    · refine ⟨a, by simp, fun x hx => ?_⟩
      rcases List.mem_cons.1 hx with rfl | hx
      · exact Int.le_refl _
      · exact Int.le_trans (k x hx) h
    · refine ⟨m, List.mem_cons_of_mem _ hm, fun x hx => ?_⟩
      rcases List.mem_cons.1 hx with rfl | hx
      · omega
      · exact k x hx
theorem dot_neg_r (e u : HPt) : dotP e (neP u) = - dotP e u := by unfold dotP neP; simp only; grind
/-- two hulls that some direction parts are parted by one of the definition's directions -/
theorem sat {a b : List HPt} (ha : cornersP a = a) (hb : cornersP b = b) (ha0 : a ≠ []) (hb0 : b ≠ []) (d : HPt) (h : ∀ p ∈ a, ∀ q ∈ b, dotP d p < dotP d q) : ∃ e ∈ adirs a b, ∀ p ∈ a, ∀ q ∈ b, dotP e p < dotP e q := by
  obtain ⟨p, hp, kp⟩ := argmax (dotP d) a ha0
  obtain ⟨q, hq, kq⟩ := argmax (fun x => - dotP d x) b hb0
  obtain ⟨u, w, V⟩ := hull_vtx ha hp
  obtain ⟨u', w', V'⟩ := hull_vtx hb hq
  have hv : 0 < dotP d (dif q p) := by rw [dot_dif]; have := h p hp q hq; omega
  have hU : ∀ x ∈ [u, w, neP u', neP w'], dotP d x ≤ 0 := by
    obtain ⟨n, hn, rfl⟩ := V.eu
    obtain ⟨r, hr, rfl⟩ := V.ew
    obtain ⟨n', hn', rfl⟩ := V'.eu
    obtain ⟨r', hr', rfl⟩ := V'.ew
    have a1 := kp n hn
    have a2 := kp r hr
    have a3 : - dotP d n' ≤ - dotP d q := kq n' hn'
    have a4 : - dotP d r' ≤ - dotP d q := kq r' hr'
    intro x hx
    simp only [List.mem_cons, List.not_mem_nil, or_false] at hx
    rcases hx with rfl | rfl | rfl | rfl
    · rw [dot_dif]; omega
    · rw [dot_dif]; omega
    · rw [dot_neg_r, dot_dif]; omega
    · rw [dot_neg_r, dot_dif]; omega
  rcases part_vec _ d (dif q p) hU hv with hz | ⟨x, hx, e, he, k1, k2⟩
  · have ea := V.triv (hz u (by simp))
    have eb := V'.triv (by
      have := hz (neP u') (by simp)
      have := congrArg neP this
      rw [ne_ne] at this
      rw [this]
      unfold neP; simp)
    rw [ea, eb]
    refine ⟨dif q p, ?_, ?_⟩
    · unfold adirs
      have : fdP [p] [q] = dif q p := rfl
      rw [this]; simp
    · intro x hx y hy
      have e1 : x = p := by simpa using hx
      have e2 : y = q := by simpa using hy
      have hne : ¬ dif q p = (0, 0) := by intro k; rw [k, dot_zero] at hv; omega
      have := self_pos hne
      rw [dot_dif] at this
      rw [e1, e2]; omega
  · have hed : e ∈ adirs a b := by
      unfold adirs
      simp only [List.mem_cons, List.not_mem_nil, or_false] at hx
      rcases hx with rfl | rfl | rfl | rfl
      · exact List.mem_append.2 (.inl (List.mem_append.2 (.inr (V.du e he))))
      · exact List.mem_append.2 (.inl (List.mem_append.2 (.inr (V.dw e he))))
      · exact List.mem_append.2 (.inr (V'.du e (rd_ne he)))
      · exact List.mem_append.2 (.inr (V'.dw e (rd_ne he)))
    have c1 := V.loc e (k1 u (by simp)) (k1 w (by simp))
    have c2 := V'.loc (neP e) (by have := k1 (neP u') (by simp); rw [dot_neg_r] at this; rw [dot_neg]; exact this) (by have := k1 (neP w') (by simp); rw [dot_neg_r] at this; rw [dot_neg]; exact this)
    rw [dot_dif] at k2
    refine ⟨e, hed, fun x hx y hy => ?_⟩
    have d1 := c1 x hx
    have d2 := c2 y hy
    rw [dot_neg, dot_neg] at d2
    omega
/-- a hull keeps the greatest of each direction -/
theorem support {l : List HPt} (h0 : l ≠ []) (d : HPt) : ∃ s ∈ cornersP l, ∀ x ∈ l, dotP d x ≤ dotP d s := by
  by_cases h : (sortP l).length < 2
  · have e : cornersP l = sortP l := by unfold cornersP; rw [if_pos h]
    obtain ⟨s, hs, k⟩ := argmax (dotP d) l h0
    exact ⟨s, by rw [e]; exact (sort_mem l s).2 hs, k⟩
  · obtain ⟨mn, mx, A, B, H⟩ := hull_of (l := l) (by omega)
    have hne : cornersP l ≠ [] := by rw [H.hull]; simp
    obtain ⟨s, hs, k⟩ := argmax (dotP d) _ hne
    obtain ⟨u, w, V⟩ := vtx_of H hs
    refine ⟨s, hs, V.loc d ?_ ?_⟩
    · obtain ⟨n, hn, rfl⟩ := V.eu
      rw [dot_dif]
      have := k n hn
      omega
    · obtain ⟨r, hr, rfl⟩ := V.ew
      rw [dot_dif]
      have := k r hr
      omega
theorem bound_y (p : HPt) : ∀ (h : List HPt), ∃ M : Int, 0 < M ∧ ∀ x ∈ h, x.2 - p.2 < M ∧ p.2 - x.2 < M
  | [] => ⟨1, by omega, fun x hx => by simp at hx⟩
  | a :: h => by
    obtain ⟨M, h0, k⟩ := bound_y p h
    refine ⟨M + (a.2 - p.2).natAbs + 1, by omega, fun x hx => ?_⟩
    rcases List.mem_cons.1 hx with rfl | hx
    · omega
    · have := k x hx
      omega
theorem lex_part_lt {h : List HPt} {p : HPt} (k : ∀ x ∈ h, ltP p x) : ∃ d, ∀ x ∈ h, dotP d x < dotP d p := by
  obtain ⟨M, h0, b⟩ := bound_y p h
  refine ⟨(-M, -1), fun x hx => ?_⟩
  obtain ⟨b1, b2⟩ := b x hx
  unfold dotP
  simp only
  rcases k x hx with c | ⟨c1, c2⟩
  · have e : M * (x.1 - p.1) = M * x.1 - M * p.1 := by grind
    have e2 : M ≤ M * (x.1 - p.1) := by
      have := Int.mul_le_mul_of_nonneg_left (show (1 : Int) ≤ x.1 - p.1 by omega) (Int.le_of_lt h0)
      omega
    have e3 : -M * x.1 = - (M * x.1) := by grind
    have e4 : -M * p.1 = - (M * p.1) := by grind
    omega
  · rw [c1]; omega
theorem lex_part_gt {h : List HPt} {p : HPt} (k : ∀ x ∈ h, ltP x p) : ∃ d, ∀ x ∈ h, dotP d x < dotP d p := by
  obtain ⟨M, h0, b⟩ := bound_y p h
  refine ⟨(M, 1), fun x hx => ?_⟩
  obtain ⟨b1, b2⟩ := b x hx
  unfold dotP
  simp only
  rcases k x hx with c | ⟨c1, c2⟩
  · have e : M * (p.1 - x.1) = M * p.1 - M * x.1 := by grind
    have e2 : M ≤ M * (p.1 - x.1) := by
      have := Int.mul_le_mul_of_nonneg_left (show (1 : Int) ≤ p.1 - x.1 by omega) (Int.le_of_lt h0)
      omega
    omega
  · rw [c1]; omega
theorem corners_one (p : HPt) : cornersP [p] = [p] := by
  have e : sortP [p] = [p] := sort_sort (by unfold Srt; simp)
  unfold cornersP
  rw [e]; rfl
/-- a hull contains a point just if no direction parts them -/
theorem has_iff {h : List HPt} (hh : cornersP h = h) (h0 : h ≠ []) (p : HPt) : cornersP (h ++ [p]) = h ↔ ¬ ∃ d, ∀ x ∈ h, dotP d x < dotP d p := by
  constructor
  · rintro e ⟨d, k⟩
    obtain ⟨s, hs, ks⟩ := support (l := h ++ [p]) (by simp) d
    rw [e] at hs
    have a := k s hs
    have b := ks p (by simp)
    omega
  · intro hn
    by_cases h2 : (sortP h).length < 2
    · have e : h = sortP h := by
        have : cornersP h = sortP h := by unfold cornersP; rw [if_pos h2]
        rw [← this, hh]
      rw [← e] at h2
      rcases h with _ | ⟨a, _ | ⟨b, r⟩⟩
      · exact absurd rfl h0
      · have hpa : p = a := by
          by_cases k : p = a
          · exact k
          · exfalso
            apply hn
            refine ⟨dif p a, fun x hx => ?_⟩
            have : x = a := by simpa using hx
            have hne : ¬ dif p a = (0, 0) := by
              intro e
              apply k
              unfold dif at e
              simp only [Prod.mk.injEq] at e
              ext <;> omega
            have := self_pos hne
            rw [dot_dif] at this
            subst x
            omega
        have e2 : sortP ([a] ++ [p]) = [a] := srt_unique (sort_srt _) (by unfold Srt; simp) (fun y => by rw [sort_mem]; simp [hpa])
        unfold cornersP
        rw [e2]; rfl
      · simp only [List.length_cons] at h2; omega
    · obtain ⟨mn, mx, A, B, H⟩ := hull_of (l := h) (by omega)
      have edge : ∀ a b, (Adj a b (mn :: (A ++ [mx])) ∨ Adj a b (mx :: (B ++ [mn]))) → 0 ≤ crossP a b p := by
        intro a b hab
        by_cases k : 0 ≤ crossP a b p
        · exact k
        · exfalso
          apply hn
          refine ⟨neP (perp (dif b a)), fun x hx => ?_⟩
          have k2 := (H.side hab).2 x hx
          rw [dot_neg, dot_neg, dot_perp, dot_perp]
          have e1 : crossP a b x = crs (dif b a) x - crs (dif b a) a := by unfold crossP crs dif; simp only; grind
          have e2 : crossP a b p = crs (dif b a) p - crs (dif b a) a := by unfold crossP crs dif; simp only; grind
          omega
      have hP : InP h mn mx A B p := by
        refine ⟨fun a b k => edge a b (.inl k), fun a b k => edge a b (.inr k), ?_, ?_⟩
        · by_cases k1 : ltP mn p
          · exact .inr k1
          · by_cases k2 : p = mn
            · exact .inl k2
            · exfalso
              have k3 : ltP p mn := ltP_total k1 (fun e => k2 e.symm)
              apply hn
              apply lex_part_lt
              intro x hx
              rcases H.least x hx with e | e
              · rw [e]; exact k3
              · exact ltP_trans k3 e
        · by_cases k1 : ltP p mx
          · exact .inr k1
          · by_cases k2 : p = mx
            · exact .inl k2
            · exfalso
              have k3 : ltP mx p := ltP_total k1 k2
              apply hn
              apply lex_part_gt
              intro x hx
              rcases H.most x hx with e | e
              · rw [e]; exact k3
              · exact ltP_trans e k3
      have := (corners_keep H (m := h ++ [p]) (fun q hq => by rw [hh] at hq; exact List.mem_append.2 (.inl hq)) (fun q hq => by
        rcases List.mem_append.1 hq with hq | hq
        · exact H.inP hq
        · have : q = p := by simpa using hq
          rw [this]; exact hP)).1
      rw [this, hh]
end Go.Proofs.YtcbjecpfijogcaaGreat
