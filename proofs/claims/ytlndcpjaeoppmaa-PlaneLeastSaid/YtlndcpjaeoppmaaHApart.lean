
/- Contract: the gap of two hulls, the definition. -/
import Derived.Test.YtlndcpjaeoppmaaHGrow2
namespace Go.Proofs.Ytlndcpjaeoppmaa
open Go.RowKit Go.Shelf

theorem popP_pos : ∀ (st : List HPt) (x : HPt), st ≠ [] → popP st x ≠ []
  | [], _, h => absurd rfl h
  | [b], _, _ => by simp [popP]
  | b :: a :: r, x, _ => by
    unfold popP
    split
    · exact popP_pos (a :: r) x (by simp)
    · simp
theorem side_two {l : List HPt} (h : 2 ≤ l.length) : 2 ≤ (sideP l).length := by
  unfold sideP
  rw [List.length_reverse]
  rcases List.eq_nil_or_concat l with rfl | ⟨m, x, rfl⟩
  · simp at h
  · rw [List.concat_eq_append, List.foldl_append]
    rcases List.eq_nil_or_concat m with rfl | ⟨m2, y, rfl⟩
    · simp at h
    · rw [List.concat_eq_append, List.foldl_append]
      show 2 ≤ (x :: popP (y :: popP (m2.foldl pushP []) y) x).length
      have h1 := popP_pos (y :: popP (m2.foldl pushP []) y) x (by simp)
      have h2 := List.length_pos_iff.2 h1
      rw [List.length_cons]
      omega
theorem side_mem {l : List HPt} {p : HPt} (h : p ∈ sideP l) : p ∈ l := by
  unfold sideP at h
  rcases foldP_mem l [] (List.mem_reverse.1 h) with h | h
  · simp at h
  · exact h
theorem corners_sub {l : List HPt} {p : HPt} (h : p ∈ cornersP l) : p ∈ l := by
  unfold cornersP at h
  split at h
  · exact (sort_mem l p).1 h
  · rcases List.mem_append.1 h with h | h
    · exact (sort_mem l p).1 (side_mem (List.dropLast_subset _ h))
    · exact (sort_mem l p).1 (List.mem_reverse.1 (side_mem (List.dropLast_subset _ h)))
theorem corners_pos {l : List HPt} (h : 0 < l.length) : 0 < (cornersP l).length := by
  unfold cornersP
  split
  · rcases l with _ | ⟨x, l⟩
    · simp at h
    · exact List.length_pos_of_mem ((sort_mem (x :: l) x).2 (by simp))
  · have h1 := side_two (l := sortP l) (by omega)
    rw [List.length_append, List.length_dropLast]
    omega
theorem corners_len (l : List HPt) : (cornersP l).length ≤ 2 * l.length := by
  have h0 := sort_len l
  unfold cornersP
  split
  · omega
  · have h1 := side_len (sortP l)
    have h2 := side_len (sortP l).reverse
    rw [List.length_reverse] at h2
    rw [List.length_append, List.length_dropLast, List.length_dropLast]
    omega
/-- halving -/
def gapF (P : Int → Bool) : Nat → Int → Int → Int
  | 0, lo, _ => lo
  | n + 1, lo, hi => if lo < hi then (if P ((lo + hi) / 2) = true then gapF P n lo ((lo + hi) / 2) else gapF P n ((lo + hi) / 2 + 1) hi) else lo
theorem gapF_end {P : Int → Bool} {n : Nat} {lo hi : Int} (h : ¬ lo < hi) : gapF P n lo hi = lo := by
  cases n with
  | zero => rfl
  | succ n => unfold gapF; rw [if_neg h]
theorem gapF_meet {P : Int → Bool} {n : Nat} {lo hi : Int} (h : lo < hi) (hp : P ((lo + hi) / 2) = true) : gapF P (n + 1) lo hi = gapF P n lo ((lo + hi) / 2) := by
  rw [gapF, if_pos h, if_pos hp]
theorem gapF_part {P : Int → Bool} {n : Nat} {lo hi : Int} (h : lo < hi) (hp : P ((lo + hi) / 2) = false) : gapF P (n + 1) lo hi = gapF P n ((lo + hi) / 2 + 1) hi := by
  rw [gapF, if_pos h, if_neg (by simp [hp])]
/-- the gap of two hulls -/
def gapP (a b : List HPt) : Int := gapF (fun t => meetB (cornersP (growP t a)) b) 33554432 0 33554432
theorem ok_mid {p : HPt} (h : okPt p = true) : midB p := by
  simp only [okPt, inB, Bool.and_eq_true, decide_eq_true_eq] at h
  unfold midB
  omega
set_option maxRecDepth 100000 in
set_option maxHeartbeats 1600000 in
theorem Apart_c (va vb : Value) (a b : List HPt) (w : World) (ha : Pts w va a) (hb : Pts w vb b) (ha0 : 0 < a.length) (hb0 : 0 < b.length) (hma : ∀ p ∈ a, okPt p = true) (hwb : ∀ p ∈ b, wideB p) (hna : a.length ≤ 256) (hnb : b.length ≤ 256) :
    Calls Try.prog 51 #[va, vb] w fun e w' => e = .returned (.int .i64 (gapP a b)) ∧ Ext w w' := by
  have GC := Lib.hid (fun t (ht : 0 ≤ t ∧ t ≤ 33554432) W (h : Ext w W) => Grown_c t va a W (ha.ext h) (by omega) (fun p hp => ok_mid (hma p hp)) (by omega))
  have MC := Lib.hid (fun t (ht : 0 ≤ t ∧ t ≤ 33554432) v W (h : Ext w W) (hp : Pts W v (cornersP (growP t a))) => Meets_c v vb (cornersP (growP t a)) b W hp (hb.ext h) (corners_pos (by rw [grow_len]; omega)) hb0 (fun p hp => grow_wide (by omega) (fun p hp => ok_mid (hma p hp)) p (corners_sub hp)) hwb (by have h1 := corners_len (growP t a); rw [grow_len] at h1; omega) (by omega))
  obtain ⟨A, ca, rfl, _⟩ := ha.shapeH
  obtain ⟨B, cb, rfl, _⟩ := hb.shapeH
  obtain ⟨G, hG⟩ : ∃ G, gapP a b = G := ⟨_, rfl⟩
  rw [hG]
  have hG2 : gapF (fun t => meetB (cornersP (growP t a)) b) 33554432 0 33554432 = G := hG
  have HG := Lib.hid hG2
  clear ha hb hma hwb hG hG2
  go_enter Try.func51, Try.ntmps51
  go_wp2
  go_loopw [5, 6] (fun l h wr => ∃ (lo hi : Int) (n : Nat), l = .int .i64 lo ∧ h = .int .i64 hi ∧ 0 ≤ lo ∧ hi ≤ 33554432 ∧ lo ≤ hi ∧ hi - lo ≤ n ∧ gapF (fun t => meetB (cornersP (growP t a)) b) n lo hi = G ∧ Ext w wr) (fun l h _ => (intOf h - intOf l).toNat)
  case atStart => exact ⟨0, 33554432, 33554432, rfl, rfl, by omega, by omega, by omega, by omega, HG.out, Ext.refl _⟩
  case round =>
    obtain ⟨lo, hi, n, rfl, rfl, h1, h2, h3, h4, hg, hE⟩ := hrel
    by_cases hlt : lo < hi
    · obtain ⟨m, rfl⟩ : ∃ m, n = m + 1 := ⟨n - 1, by omega⟩
      obtain ⟨T, hT⟩ : ∃ T, (lo + hi) / 2 = T := ⟨_, rfl⟩
      have hq : Int.tdiv (lo + hi) 2 = T := by rw [Int.tdiv_eq_ediv_of_nonneg (by omega), hT]
      have e1 := IntWalk.i64_in (lo + hi) (by omega)
      have e2 := IntWalk.i64_in T (by omega)
      have e3 := IntWalk.i64_in (T + 1) (by omega)
      have t1 : 0 ≤ T := by omega
      have t2 : T ≤ 33554432 := by omega
      have hb : lo ≤ T ∧ T < hi := by omega
      have G1 := Lib.hid (fun W (hh : Ext wr W) => GC.out T ⟨t1, t2⟩ W (hE.trans hh))
      have M0 := fun v W (hh : Ext wr W) hp => MC.out T ⟨t1, t2⟩ v W (hE.trans hh) hp
      have hstep := fun hp => gapF_meet (P := fun t => meetB (cornersP (growP t a)) b) (n := m) hlt hp
      have hstep2 := fun hp => gapF_part (P := fun t => meetB (cornersP (growP t a)) b) (n := m) hlt hp
      rw [hT] at hstep hstep2
      have HS1 := Lib.hid hstep
      have HS2 := Lib.hid hstep2
      have HG3 := Lib.hid hg
      have HE := Lib.hid hE
      have HB := Lib.hid (And.intro hb (And.intro h1 (And.intro h2 (And.intro h4 hT))))
      cases hP : meetB (cornersP (growP T a)) b
      · rw [hP] at M0
        have M1 := Lib.hid M0
        have HP := Lib.hid hP
        clear M0 hP hstep hstep2 hg hE hT hb h1 h2 h3 h4
        go_wp2_with (first
          | (go_at_call 49; refine (G1.out _ (by (repeat' (first | exact Ext.refl _ | assumption | refine Ext.alloc ?_ _ | refine Ext.drew ?_ | refine Ext.drewN ?_ _ | refine Ext.set ?_ (by first | exact Nat.le_refl _ | exact le1 _ | exact le2 _ | exact le3 _ | exact le4 _ | exact le5 _ | exact le6 _) _ | refine Ext.trans ?_ (by assumption))))).mono ?_; rintro e w1 ⟨v1, rfl, ho1, hb1⟩; obtain ⟨A1, c1, rfl, _⟩ := ho1.shape; replace ho1 := Lib.hid ho1)
          | (go_at_call 50; refine (M1.out _ _ (by (repeat' (first | exact Ext.refl _ | assumption | refine Ext.alloc ?_ _ | refine Ext.drew ?_ | refine Ext.drewN ?_ _ | refine Ext.set ?_ (by first | exact Nat.le_refl _ | exact le1 _ | exact le2 _ | exact le3 _ | exact le4 _ | exact le5 _ | exact le6 _) _ | refine Ext.trans ?_ (by assumption)))) ho1.out.pts).mono ?_; rintro e w2 ⟨rfl, hb2⟩))
        have HBo := HB.out
        refine ⟨⟨T + 1, hi, m, rfl, rfl, by omega, by omega, by omega, by omega, by rw [← HS2.out HP.out]; exact HG3.out, HE.out.trans (Ext.trans hb1 hb2)⟩, by simp [intOf]; omega⟩
      · rw [hP] at M0
        have M1 := Lib.hid M0
        have HP := Lib.hid hP
        clear M0 hP hstep hstep2 hg hE hT hb h1 h2 h3 h4
        go_wp2_with (first
          | (go_at_call 49; refine (G1.out _ (by (repeat' (first | exact Ext.refl _ | assumption | refine Ext.alloc ?_ _ | refine Ext.drew ?_ | refine Ext.drewN ?_ _ | refine Ext.set ?_ (by first | exact Nat.le_refl _ | exact le1 _ | exact le2 _ | exact le3 _ | exact le4 _ | exact le5 _ | exact le6 _) _ | refine Ext.trans ?_ (by assumption))))).mono ?_; rintro e w1 ⟨v1, rfl, ho1, hb1⟩; obtain ⟨A1, c1, rfl, _⟩ := ho1.shape; replace ho1 := Lib.hid ho1)
          | (go_at_call 50; refine (M1.out _ _ (by (repeat' (first | exact Ext.refl _ | assumption | refine Ext.alloc ?_ _ | refine Ext.drew ?_ | refine Ext.drewN ?_ _ | refine Ext.set ?_ (by first | exact Nat.le_refl _ | exact le1 _ | exact le2 _ | exact le3 _ | exact le4 _ | exact le5 _ | exact le6 _) _ | refine Ext.trans ?_ (by assumption)))) ho1.out.pts).mono ?_; rintro e w2 ⟨rfl, hb2⟩))
        have HBo := HB.out
        refine ⟨⟨lo, T, m, rfl, rfl, by omega, by omega, by omega, by omega, by rw [← HS1.out HP.out]; exact HG3.out, HE.out.trans (Ext.trans hb1 hb2)⟩, by simp [intOf]; omega⟩
    · rw [gapF_end hlt] at hg
      go_wp2
      go_ret
      exact ⟨rfl, hE⟩
end Go.Proofs.Ytlndcpjaeoppmaa
