
/- Contracts: IsHull and the errors of hulls, the definition. -/
import Derived.Test.YtlndcpjaeoppmaaHChk
namespace Go.Proofs.Ytlndcpjaeoppmaa
open Go.RowKit Go.Shelf

set_option maxRecDepth 100000 in
set_option maxHeartbeats 1600000 in
theorem RIsHull_c (v : Value) (l : List HPt) (w : World) (hp : Pts w v l) :
    Calls Try.prog 16 #[v] w fun e w' => e = .returned (.bool (isHullB l)) ∧ Ext w w' := by
  have CP := Lib.hid (fun W (h : Ext w W) => points_c v l W (hp.ext h))
  have hp0 := hp
  obtain ⟨A, c, rfl, hlb⟩ := hp.shapeH
  by_cases he : errPts l = 0
  · obtain ⟨hl2, _, hw⟩ := errPts_wide he
    have hL : (l.length : Int) ≤ 256 := by omega
    by_cases h0 : l.length = 0
    · have hn := List.eq_nil_of_length_eq_zero h0
      subst hn
      rw [isHullB_nil]
      rw [he] at CP
      simp only [List.length_nil] at *
      clear hp hp0 he hw
      go_enter Try.func16, Try.ntmps16
      go_wp2_with (go_at_call 39; refine (CP.out _ (by (repeat' (first | exact Ext.refl _ | assumption | refine Ext.alloc ?_ _ | refine Ext.drew ?_ | refine Ext.drewN ?_ _ | refine Ext.set ?_ (by first | exact Nat.le_refl _ | exact le1 _ | exact le2 _ | exact le3 _ | exact le4 _ | exact le5 _ | exact le6 _) _ | refine Ext.trans ?_ (by assumption))))).mono ?_; rintro e w1 ⟨rfl, hb1⟩)
      go_ret
      exact ⟨rfl, by (repeat' (first | exact Ext.refl _ | assumption | refine Ext.alloc ?_ _ | refine Ext.drew ?_ | refine Ext.drewN ?_ _ | refine Ext.set ?_ (by first | exact Nat.le_refl _ | exact le1 _ | exact le2 _ | exact le3 _ | exact le4 _ | exact le5 _ | exact le6 _) _ | refine Ext.trans ?_ (by assumption)))⟩
    · rw [isHullB_ok (by omega) he]
      have h0' : (0 : Int) < (l.length : Int) := by omega
      have CC := Lib.hid (fun W (h : Ext w W) => Corners_c _ l W (hp.ext h) hw (by omega))
      have CE := Lib.hid (fun W (h : Ext w W) (v2 : Value) (h2 : Pts W v2 (cornersP l)) => Same01_c v2 _ (cornersP l) l W h2 (hp.ext h))
      rw [he] at CP
      generalize cornersP l = K at *
      clear he hw h0 hp hp0
      go_enter Try.func16, Try.ntmps16
      go_wp2_with (first
        | (go_at_call 39; refine (CP.out _ (by (repeat' (first | exact Ext.refl _ | assumption | refine Ext.alloc ?_ _ | refine Ext.drew ?_ | refine Ext.drewN ?_ _ | refine Ext.set ?_ (by first | exact Nat.le_refl _ | exact le1 _ | exact le2 _ | exact le3 _ | exact le4 _ | exact le5 _ | exact le6 _) _ | refine Ext.trans ?_ (by assumption))))).mono ?_; rintro e w1 ⟨rfl, hb1⟩)
        | (go_at_call 40; refine (CC.out _ (by (repeat' (first | exact Ext.refl _ | assumption | refine Ext.alloc ?_ _ | refine Ext.drew ?_ | refine Ext.drewN ?_ _ | refine Ext.set ?_ (by first | exact Nat.le_refl _ | exact le1 _ | exact le2 _ | exact le3 _ | exact le4 _ | exact le5 _ | exact le6 _) _ | refine Ext.trans ?_ (by assumption))))).mono ?_; rintro e w2 ⟨v2, rfl, hp2, hb2⟩; obtain ⟨A2, c2, rfl, _⟩ := hp2.pts.shapeH; replace hp2 := Lib.hid hp2.pts)
        | (go_at_call 14; refine (CE.out _ (by (repeat' (first | exact Ext.refl _ | assumption | refine Ext.alloc ?_ _ | refine Ext.drew ?_ | refine Ext.drewN ?_ _ | refine Ext.set ?_ (by first | exact Nat.le_refl _ | exact le1 _ | exact le2 _ | exact le3 _ | exact le4 _ | exact le5 _ | exact le6 _) _ | refine Ext.trans ?_ (by assumption)))) _ hp2.out).mono ?_; rintro e w3 ⟨rfl, hb3⟩))
      go_ret
      exact ⟨rfl, by (repeat' (first | exact Ext.refl _ | assumption | refine Ext.alloc ?_ _ | refine Ext.drew ?_ | refine Ext.drewN ?_ _ | refine Ext.set ?_ (by first | exact Nat.le_refl _ | exact le1 _ | exact le2 _ | exact le3 _ | exact le4 _ | exact le5 _ | exact le6 _) _ | refine Ext.trans ?_ (by assumption)))⟩
  · rw [isHullB_bad he]
    have he2 : (errPts l == 0) = false := by simpa using he
    generalize errPts l = E at *
    clear hp hp0
    go_enter Try.func16, Try.ntmps16
    go_wp2_with (go_at_call 39; refine (CP.out _ (by (repeat' (first | exact Ext.refl _ | assumption | refine Ext.alloc ?_ _ | refine Ext.drew ?_ | refine Ext.drewN ?_ _ | refine Ext.set ?_ (by first | exact Nat.le_refl _ | exact le1 _ | exact le2 _ | exact le3 _ | exact le4 _ | exact le5 _ | exact le6 _) _ | refine Ext.trans ?_ (by assumption))))).mono ?_; rintro e w1 ⟨rfl, hb1⟩)
    go_ret
    exact ⟨by simp, by (repeat' (first | exact Ext.refl _ | assumption | refine Ext.alloc ?_ _ | refine Ext.drew ?_ | refine Ext.drewN ?_ _ | refine Ext.set ?_ (by first | exact Nat.le_refl _ | exact le1 _ | exact le2 _ | exact le3 _ | exact le4 _ | exact le5 _ | exact le6 _) _ | refine Ext.trans ?_ (by assumption)))⟩
theorem isHullB_err {l : List HPt} (h : isHullB l = true) : errPts l = 0 := by
  by_cases he : errPts l = 0
  · exact he
  · rw [isHullB_bad he] at h; cases h
theorem errHs_two (a b : List HPt) : errHs [a, b] = if 256 < a.length ∨ 256 < b.length then 6 else if isHullB a = true ∧ isHullB b = true then 0 else 2 := by
  unfold errHs errLs
  by_cases h1 : 256 < a.length
  · simp [manyL, h1]
  · by_cases h2 : 256 < b.length
    · simp [manyL, h1, h2]
    · have hm : [a, b].any manyL = false := by simp [manyL, h1, h2]
      rw [hm, if_neg (show ¬ (256 < a.length ∨ 256 < b.length) by simp [h1, h2])]
      simp only [Bool.false_eq_true, if_false, List.all_cons, List.all_nil, Bool.and_true, Bool.and_eq_true]
      by_cases h3 : a.all okPt = true ∧ b.all okPt = true
      · rw [if_pos h3]; simp
      · rw [if_neg h3]
        simp only [show ¬ ((2 : Int) = 0) by decide, if_false]
        rw [if_neg]
        rintro ⟨ha, hb⟩
        exact h3 ⟨List.all_eq_true.2 (errPts_wide (isHullB_err ha)).2.1, List.all_eq_true.2 (errPts_wide (isHullB_err hb)).2.1⟩
theorem errHs_one (a : List HPt) : errHs [a] = errHs [a, a] := by
  unfold errHs errLs
  rw [show [a, a].any manyL = [a].any manyL from by simp, show ([a, a].all fun l => l.all okPt) = ([a].all fun l => l.all okPt) from by simp, show [a, a].all isHullB = [a].all isHullB from by simp]
set_option maxRecDepth 100000 in
set_option maxHeartbeats 1600000 in
theorem Rhulls_c (va vb : Value) (a b : List HPt) (w : World) (ha : Pts w va a) (hb : Pts w vb b) :
    Calls Try.prog 41 #[va, vb] w fun e w' => e = .returned (.int .i64 (errHs [a, b])) ∧ Ext w w' := by
  have PA := Lib.hid (fun W (h : Ext w W) => points_c va a W (ha.ext h))
  have PB := Lib.hid (fun W (h : Ext w W) => points_c vb b W (hb.ext h))
  have IA := Lib.hid (fun W (h : Ext w W) => RIsHull_c va a W (ha.ext h))
  have IB := Lib.hid (fun W (h : Ext w W) => RIsHull_c vb b W (hb.ext h))
  obtain ⟨A, c, rfl, hlb⟩ := ha.shapeH
  obtain ⟨A2, c2, rfl, hlb2⟩ := hb.shapeH
  rw [errHs_two]
  clear ha hb
  by_cases h1 : 256 < a.length
  · rw [if_pos (.inl h1)]
    have g1 : (256 : Int) < (a.length : Int) := by omega
    go_enter Try.func41, Try.ntmps41
    go_wp2
    go_ret
    exact ⟨rfl, by (repeat' (first | exact Ext.refl _ | assumption | refine Ext.alloc ?_ _ | refine Ext.drew ?_ | refine Ext.drewN ?_ _ | refine Ext.set ?_ (by first | exact Nat.le_refl _ | exact le1 _ | exact le2 _ | exact le3 _ | exact le4 _ | exact le5 _ | exact le6 _) _ | refine Ext.trans ?_ (by assumption)))⟩
  · have g1 : ¬ (256 : Int) < (a.length : Int) := by omega
    by_cases h2 : 256 < b.length
    · rw [if_pos (.inr h2)]
      have g2 : (256 : Int) < (b.length : Int) := by omega
      go_enter Try.func41, Try.ntmps41
      go_wp2
      go_ret
      exact ⟨rfl, by (repeat' (first | exact Ext.refl _ | assumption | refine Ext.alloc ?_ _ | refine Ext.drew ?_ | refine Ext.drewN ?_ _ | refine Ext.set ?_ (by first | exact Nat.le_refl _ | exact le1 _ | exact le2 _ | exact le3 _ | exact le4 _ | exact le5 _ | exact le6 _) _ | refine Ext.trans ?_ (by assumption)))⟩
    · have g2 : ¬ (256 : Int) < (b.length : Int) := by omega
      rw [if_neg (by omega)]
      by_cases e1 : errPts a = 0
      · rw [e1] at PA
        by_cases e2 : errPts b = 0
        · rw [e2] at PB
          clear e1 e2
          generalize isHullB a = x at *
          generalize isHullB b = y at *
          cases x <;> cases y
          all_goals
            simp only [Bool.false_eq_true, and_true, and_false, and_self, if_true, if_false]
            go_enter Try.func41, Try.ntmps41
            go_wp2_with (first
              | (go_at_call 39; refine (PA.out _ (by (repeat' (first | exact Ext.refl _ | assumption | refine Ext.alloc ?_ _ | refine Ext.drew ?_ | refine Ext.drewN ?_ _ | refine Ext.set ?_ (by first | exact Nat.le_refl _ | exact le1 _ | exact le2 _ | exact le3 _ | exact le4 _ | exact le5 _ | exact le6 _) _ | refine Ext.trans ?_ (by assumption))))).mono ?_; rintro e w1 ⟨rfl, hb1⟩; clear PA)
              | (go_at_call 39; refine (PB.out _ (by (repeat' (first | exact Ext.refl _ | assumption | refine Ext.alloc ?_ _ | refine Ext.drew ?_ | refine Ext.drewN ?_ _ | refine Ext.set ?_ (by first | exact Nat.le_refl _ | exact le1 _ | exact le2 _ | exact le3 _ | exact le4 _ | exact le5 _ | exact le6 _) _ | refine Ext.trans ?_ (by assumption))))).mono ?_; rintro e w2 ⟨rfl, hb2⟩; clear PB)
              | (go_at_call 16; refine (IA.out _ (by (repeat' (first | exact Ext.refl _ | assumption | refine Ext.alloc ?_ _ | refine Ext.drew ?_ | refine Ext.drewN ?_ _ | refine Ext.set ?_ (by first | exact Nat.le_refl _ | exact le1 _ | exact le2 _ | exact le3 _ | exact le4 _ | exact le5 _ | exact le6 _) _ | refine Ext.trans ?_ (by assumption))))).mono ?_; rintro e w3 ⟨rfl, hb3⟩; clear IA)
              | (go_at_call 16; refine (IB.out _ (by (repeat' (first | exact Ext.refl _ | assumption | refine Ext.alloc ?_ _ | refine Ext.drew ?_ | refine Ext.drewN ?_ _ | refine Ext.set ?_ (by first | exact Nat.le_refl _ | exact le1 _ | exact le2 _ | exact le3 _ | exact le4 _ | exact le5 _ | exact le6 _) _ | refine Ext.trans ?_ (by assumption))))).mono ?_; rintro e w4 ⟨rfl, hb4⟩; clear IB))
            go_ret
            exact ⟨rfl, by (repeat' (first | exact Ext.refl _ | assumption | refine Ext.alloc ?_ _ | refine Ext.drew ?_ | refine Ext.drewN ?_ _ | refine Ext.set ?_ (by first | exact Nat.le_refl _ | exact le1 _ | exact le2 _ | exact le3 _ | exact le4 _ | exact le5 _ | exact le6 _) _ | refine Ext.trans ?_ (by assumption)))⟩
        · rw [if_neg (by rw [isHullB_bad e2]; simp)]
          have k2 : (errPts b != 0) = true := by simpa using e2
          have k3 : (errPts b == 0) = false := by simpa using e2
          generalize errPts b = E at *
          clear e1 IA IB e2
          go_enter Try.func41, Try.ntmps41
          go_wp2_with (first
            | (go_at_call 39; refine (PA.out _ (by (repeat' (first | exact Ext.refl _ | assumption | refine Ext.alloc ?_ _ | refine Ext.drew ?_ | refine Ext.drewN ?_ _ | refine Ext.set ?_ (by first | exact Nat.le_refl _ | exact le1 _ | exact le2 _ | exact le3 _ | exact le4 _ | exact le5 _ | exact le6 _) _ | refine Ext.trans ?_ (by assumption))))).mono ?_; rintro e w1 ⟨rfl, hb1⟩; clear PA)
            | (go_at_call 39; refine (PB.out _ (by (repeat' (first | exact Ext.refl _ | assumption | refine Ext.alloc ?_ _ | refine Ext.drew ?_ | refine Ext.drewN ?_ _ | refine Ext.set ?_ (by first | exact Nat.le_refl _ | exact le1 _ | exact le2 _ | exact le3 _ | exact le4 _ | exact le5 _ | exact le6 _) _ | refine Ext.trans ?_ (by assumption))))).mono ?_; rintro e w2 ⟨rfl, hb2⟩; clear PB))
          go_ret
          exact ⟨rfl, by (repeat' (first | exact Ext.refl _ | assumption | refine Ext.alloc ?_ _ | refine Ext.drew ?_ | refine Ext.drewN ?_ _ | refine Ext.set ?_ (by first | exact Nat.le_refl _ | exact le1 _ | exact le2 _ | exact le3 _ | exact le4 _ | exact le5 _ | exact le6 _) _ | refine Ext.trans ?_ (by assumption)))⟩
      · rw [if_neg (by rw [isHullB_bad e1]; simp)]
        have k2 : (errPts a != 0) = true := by simpa using e1
        have k3 : (errPts a == 0) = false := by simpa using e1
        generalize errPts a = E at *
        clear PB IA IB e1
        go_enter Try.func41, Try.ntmps41
        go_wp2_with (go_at_call 39; refine (PA.out _ (by (repeat' (first | exact Ext.refl _ | assumption | refine Ext.alloc ?_ _ | refine Ext.drew ?_ | refine Ext.drewN ?_ _ | refine Ext.set ?_ (by first | exact Nat.le_refl _ | exact le1 _ | exact le2 _ | exact le3 _ | exact le4 _ | exact le5 _ | exact le6 _) _ | refine Ext.trans ?_ (by assumption))))).mono ?_; rintro e w1 ⟨rfl, hb1⟩; clear PA)
        go_ret
        exact ⟨rfl, by (repeat' (first | exact Ext.refl _ | assumption | refine Ext.alloc ?_ _ | refine Ext.drew ?_ | refine Ext.drewN ?_ _ | refine Ext.set ?_ (by first | exact Nat.le_refl _ | exact le1 _ | exact le2 _ | exact le3 _ | exact le4 _ | exact le5 _ | exact le6 _) _ | refine Ext.trans ?_ (by assumption)))⟩
end Go.Proofs.Ytlndcpjaeoppmaa
