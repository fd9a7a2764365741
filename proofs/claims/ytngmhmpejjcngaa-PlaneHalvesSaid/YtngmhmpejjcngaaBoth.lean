/- Contracts on turns: Both (both texts). -/
import Derived.Test.YtngmhmpejjcngaaRot2
namespace Go.Proofs.Ytngmhmpejjcngaa
open Go.RowKit

def bothG (c s n : Int) : Int := gcdI (gcdI (max c (-c)) (max s (-s))) n
def bothR (c s n : Int) : Rot3 × Int := if 16777216 < n / bothG c s n then ((0, 0, 0), 4) else ((c.tdiv (bothG c s n), s.tdiv (bothG c s n), n / bothG c s n), 0)
def bothS (a b : Rot3) : Rot3 × Int :=
  if (okRot a.1 a.2.1 a.2.2 && okRot b.1 b.2.1 b.2.2) = false then ((0, 0, 0), 2)
  else bothR (a.1 * b.1 - a.2.1 * b.2.1) (a.2.1 * b.1 + a.1 * b.2.1) (a.2.2 * b.2.2)
theorem gcdL3 (c s n : Int) (hn : 1 ≤ n) : gcdL [c, s, n] = bothG c s n := by
  simp only [gcdL, List.foldl, bothG]
  rw [gcdI_zero_left _ (by omega), show max n (-n) = n by omega]
theorem bothG_pos (c s n : Int) (hn : 1 ≤ n) : 1 ≤ bothG c s n := by
  have := Nat.gcd_pos_of_pos_right (gcdI (max c (-c)) (max s (-s))).natAbs (show 0 < n.natAbs by omega)
  unfold bothG gcdI at *; omega
theorem bothG_le (c s n : Int) (hn : 1 ≤ n) : bothG c s n ≤ n := by
  have := Nat.le_of_dvd (show 0 < n.natAbs by omega) (Nat.gcd_dvd_right (gcdI (max c (-c)) (max s (-s))).natAbs n.natAbs)
  unfold bothG gcdI at *; omega
theorem rot_bds {a b c a' b' c' : Int} (h1 : okRot a b c = true) (h2 : okRot a' b' c' = true) :
    (-281474976710656 ≤ a * a' ∧ a * a' ≤ 281474976710656) ∧ (-281474976710656 ≤ b * b' ∧ b * b' ≤ 281474976710656) ∧ (-281474976710656 ≤ b * a' ∧ b * a' ≤ 281474976710656) ∧ (-281474976710656 ≤ a * b' ∧ a * b' ≤ 281474976710656) ∧ (1 ≤ c * c' ∧ c * c' ≤ 281474976710656) := by
  obtain ⟨p1, p2, p3, _⟩ := okRot_bd h1
  obtain ⟨q1, q2, q3, _⟩ := okRot_bd h2
  have m1 := Pl.mul_bd (a := a) (b := a') (A := 16777216) (B := 16777216) (by omega) (by omega) (by omega) (by omega)
  have m2 := Pl.mul_bd (a := b) (b := b') (A := 16777216) (B := 16777216) (by omega) (by omega) (by omega) (by omega)
  have m3 := Pl.mul_bd (a := b) (b := a') (A := 16777216) (B := 16777216) (by omega) (by omega) (by omega) (by omega)
  have m4 := Pl.mul_bd (a := a) (b := b') (A := 16777216) (B := 16777216) (by omega) (by omega) (by omega) (by omega)
  have m5 := Pl.mul_bd (a := c) (b := c') (A := 16777216) (B := 16777216) (by omega) (by omega) (by omega) (by omega)
  have m6 : 0 < c * c' := Int.mul_pos (by omega) (by omega)
  omega

set_option maxRecDepth 100000 in
set_option maxHeartbeats 1600000 in
theorem Both_c (ac as' an bc bs bn : Int) (w : World) :
    Calls Try.prog 26 #[.agg #[.int .i64 ac, .int .i64 as', .int .i64 an], .agg #[.int .i64 bc, .int .i64 bs, .int .i64 bn]] w fun e w' => e = .returned (rotV (bothS (ac, as', an) (bc, bs, bn))) ∧ Ext w w' := by
  cases h1 : okRot ac as' an
  · rw [show bothS (ac, as', an) (bc, bs, bn) = ((0, 0, 0), 2) by simp [bothS, h1]]
    have h3 : errRot ac as' an = 2 := by simp [errRot, h1]
    go_enter Try.func26, Try.ntmps26
    go_wp2_with (go_at_call 24; refine (CheckRot_c _ _ _ _).mono ?_; rintro e w' ⟨he, hb2⟩; rw [h3] at he; subst he; (first | (replace hb := Ext.trans hb hb2; clear hb2 hc hf; obtain ⟨hc, hf⟩ := bcell hb) | (obtain ⟨hc, hf⟩ := bcell hb2; have hb := hb2; clear hb2)); have hz := Ext.sz hb; repeat (first | rw [size_alloc] at hz | rw [size_drewN] at hz | rw [size_drew] at hz | rw [size_setCell] at hz))
    exact bodyPost_ret (v := rotV ((0, 0, 0), 2)) (by simp [results, Try.results26, go_sem, rotV, hc]) rfl ⟨rfl, by (repeat' (first | exact Ext.refl _ | assumption | refine Ext.alloc ?_ _ | refine Ext.drew ?_ | refine Ext.drewN ?_ _ | refine Ext.set ?_ (by first | exact Nat.le_refl _ | exact le1 _ | exact le2 _ | exact le3 _ | exact le4 _ | exact le5 _ | exact le6 _) _ | refine Ext.trans ?_ (by assumption)))⟩
  cases h2 : okRot bc bs bn
  · rw [show bothS (ac, as', an) (bc, bs, bn) = ((0, 0, 0), 2) by simp [bothS, h2]]
    have h3 : RowKit.Hid (errRot ac as' an = 0) := by simp [RowKit.Hid, errRot, h1]
    have h4 : RowKit.Hid (errRot bc bs bn = 2) := by simp [RowKit.Hid, errRot, h2]
    clear h1 h2
    go_enter Try.func26, Try.ntmps26
    go_wp2_with fail
    refine (CheckRot_c _ _ _ _).mono ?_; rintro e w' ⟨he, hb2⟩; rw [h3.out] at he; subst he; (first | (replace hb := Ext.trans hb hb2; clear hb2 hc hf; obtain ⟨hc, hf⟩ := bcell hb) | (obtain ⟨hc, hf⟩ := bcell hb2; have hb := hb2; clear hb2)); have hz := Ext.sz hb; repeat (first | rw [size_alloc] at hz | rw [size_drewN] at hz | rw [size_drew] at hz | rw [size_setCell] at hz)
    go_wp2_with fail
    refine (CheckRot_c _ _ _ _).mono ?_; rintro e w' ⟨he, hb2⟩; rw [h4.out] at he; subst he; (first | (replace hb := Ext.trans hb hb2; clear hb2 hc hf; obtain ⟨hc, hf⟩ := bcell hb) | (obtain ⟨hc, hf⟩ := bcell hb2; have hb := hb2; clear hb2)); have hz := Ext.sz hb; repeat (first | rw [size_alloc] at hz | rw [size_drewN] at hz | rw [size_drew] at hz | rw [size_setCell] at hz)
    go_wp2_with fail
    exact bodyPost_ret (v := rotV ((0, 0, 0), 2)) (by simp [results, Try.results26, go_sem, rotV, hc]) rfl ⟨rfl, by (repeat' (first | exact Ext.refl _ | assumption | refine Ext.alloc ?_ _ | refine Ext.drew ?_ | refine Ext.drewN ?_ _ | refine Ext.set ?_ (by first | exact Nat.le_refl _ | exact le1 _ | exact le2 _ | exact le3 _ | exact le4 _ | exact le5 _ | exact le6 _) _ | refine Ext.trans ?_ (by assumption)))⟩
  have h3 : RowKit.Hid (errRot ac as' an = 0) := by simp [RowKit.Hid, errRot, h1]
  have h4 : RowKit.Hid (errRot bc bs bn = 0) := by simp [RowKit.Hid, errRot, h2]
  rw [show bothS (ac, as', an) (bc, bs, bn) = bothR (ac * bc - as' * bs) (as' * bc + ac * bs) (an * bn) by simp [bothS, h1, h2]]
  obtain ⟨⟨c1, c2⟩, ⟨c3, c4⟩, ⟨c5, c6⟩, ⟨c7, c8⟩, c9, c10⟩ := rot_bds h1 h2
  clear h1 h2
  have e1 := IntWalk.i64_in (ac * bc) (by omega)
  have e2 := IntWalk.i64_in (as' * bs) (by omega)
  have e3 := IntWalk.i64_in (ac * bc - as' * bs) (by omega)
  have e4 := IntWalk.i64_in (as' * bc) (by omega)
  have e5 := IntWalk.i64_in (ac * bs) (by omega)
  have e6 := IntWalk.i64_in (as' * bc + ac * bs) (by omega)
  have e7 := IntWalk.i64_in (an * bn) (by omega)
  have B : (-600000000000000 ≤ ac * bc - as' * bs ∧ ac * bc - as' * bs ≤ 600000000000000) ∧ (-600000000000000 ≤ as' * bc + ac * bs ∧ as' * bc + ac * bs ≤ 600000000000000) := by omega
  have E := Lib.hid (And.intro e1 (And.intro e2 (And.intro e3 (And.intro e4 (And.intro e5 (And.intro e6 e7))))))
  clear e1 e2 e3 e4 e5 e6 e7 c1 c2 c3 c4 c5 c6 c7 c8
  go_enter Try.func26, Try.ntmps26
  go_wp2_with fail
  refine (CheckRot_c _ _ _ _).mono ?_; rintro e w' ⟨he, hb2⟩; rw [h3.out] at he; subst he; (first | (replace hb := Ext.trans hb hb2; clear hb2 hc hf; obtain ⟨hc, hf⟩ := bcell hb) | (obtain ⟨hc, hf⟩ := bcell hb2; have hb := hb2; clear hb2)); have hz := Ext.sz hb; repeat (first | rw [size_alloc] at hz | rw [size_drewN] at hz | rw [size_drew] at hz | rw [size_setCell] at hz)
  go_wp2_with fail
  refine (CheckRot_c _ _ _ _).mono ?_; rintro e w' ⟨he, hb2⟩; rw [h4.out] at he; subst he; (first | (replace hb := Ext.trans hb hb2; clear hb2 hc hf; obtain ⟨hc, hf⟩ := bcell hb) | (obtain ⟨hc, hf⟩ := bcell hb2; have hb := hb2; clear hb2)); have hz := Ext.sz hb; repeat (first | rw [size_alloc] at hz | rw [size_drewN] at hz | rw [size_drew] at hz | rw [size_setCell] at hz)
  go_wp2_with fail
  obtain ⟨e1, e2, e3, e4, e5, e6, e7⟩ := E
  go_quiet (fail)
  clear e1 e2 e3 e4 e5 e6 e7 h3 h4
  generalize hC : ac * bc - as' * bs = C at *
  generalize hS : as' * bc + ac * bs = S at *
  generalize hN : an * bn = N at *
  have G1 := bothG_pos C S N c9
  have G2 := bothG_le C S N c9
  have HG := Lib.hid (gcdL3 C S N c9)
  obtain ⟨⟨B1, B2⟩, B3, B4⟩ := B
  go_wp2_with fail
  refine (divisor_c _ _ [C, S, N] _ (by simp) ?_ ?_).mono ?_
  · intro i hi
    match i, hi with
    | 0, _ => exact (World.cell?_alloc_new (w'.drewN nq) #[.int .i64 C, .int .i64 S, .int .i64 N] 2 0).trans rfl
    | 1, _ => exact (World.cell?_alloc_new (w'.drewN nq) #[.int .i64 C, .int .i64 S, .int .i64 N] 2 1).trans rfl
    | 2, _ => exact (World.cell?_alloc_new (w'.drewN nq) #[.int .i64 C, .int .i64 S, .int .i64 N] 2 2).trans rfl
    | i + 3, hi => exact absurd hi (by simp)
  · intro x hx
    simp at hx
    rcases hx with rfl | rfl | rfl <;> omega
  rintro e w2 ⟨he, hb2⟩
  rw [HG.out] at he; subst he
  generalize hg : bothG C S N = g at *
  have hb3 := Ext.trans hb (Ext.trans ((Ext.drewN (Ext.refl w') nq).alloc _) hb2)
  clear hc hf
  obtain ⟨hc, hf⟩ := bcell hb3
  have D1 := Pl.tdiv_bd C g 600000000000000 G1 (by omega) (by omega) (by omega)
  have D2 := Pl.tdiv_bd S g 600000000000000 G1 (by omega) (by omega) (by omega)
  have D3 := Pl.ediv_le N g 281474976710656 G1 (by omega) (by omega)
  have HR : RowKit.Hid (bothR (ac * bc - as' * bs) (as' * bc + ac * bs) (an * bn) = if 16777216 < N / g then ((0, 0, 0), 4) else ((C.tdiv g, S.tdiv g, N / g), 0)) := by
    unfold RowKit.Hid; rw [hC, hS, hN]; unfold bothR; rw [hg]
  clear hC hS hN hg HG
  by_cases hq : 16777216 < N / g
  · go_wp2_with fail
    exact bodyPost_ret (v := rotV ((0, 0, 0), 4)) (by simp [results, Try.results26, go_sem, rotV, hc]) rfl ⟨by rw [HR.out, if_pos hq], by (repeat' (first | exact Ext.refl _ | assumption | refine Ext.alloc ?_ _ | refine Ext.drew ?_ | refine Ext.drewN ?_ _ | refine Ext.set ?_ (by first | exact Nat.le_refl _ | exact le1 _ | exact le2 _ | exact le3 _ | exact le4 _ | exact le5 _ | exact le6 _) _ | refine Ext.trans ?_ (by assumption)))⟩
  · go_wp2_with fail
    refine Tail.wp_region_tail 10 (by kernel_rfl) (by kernel_rfl) (fun _ _ _ _ _ h => h) ?_
    simp only [List.take_succ_cons, List.take_zero, List.drop_succ_cons, List.drop_zero]
    have g0 : ¬ g = 0 := by omega
    have u1 := IntWalk.i64_in (C.tdiv g) (by omega)
    have u2 := IntWalk.i64_in (S.tdiv g) (by omega)
    have u3 : IntKind.i64.wrap (N.tdiv g) = N / g := by rw [Int.tdiv_eq_ediv_of_nonneg (by omega)]; exact IntWalk.i64_in _ (by have := Int.ediv_nonneg (show 0 ≤ N by omega) (show 0 ≤ g by omega); omega)
    repeat still_step
    refine wpStill_nil ?_
    clear u1 u2 u3
    go_wp2_with fail
    exact bodyPost_ret (v := rotV ((C.tdiv g, S.tdiv g, N / g), 0)) (by simp [results, Try.results26, go_sem, rotV, hc]) rfl ⟨by rw [HR.out, if_neg (by omega)], by (repeat' (first | exact Ext.refl _ | assumption | refine Ext.alloc ?_ _ | refine Ext.drew ?_ | refine Ext.drewN ?_ _ | refine Ext.set ?_ (by first | exact Nat.le_refl _ | exact le1 _ | exact le2 _ | exact le3 _ | exact le4 _ | exact le5 _ | exact le6 _) _ | refine Ext.trans ?_ (by assumption)))⟩
end Go.Proofs.Ytngmhmpejjcngaa
