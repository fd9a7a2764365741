
/- Contracts: Hull and IsHull, by the program and by the definition. -/
import Derived.Test.YtlndcpjaeoppmaaHSame
import Derived.Test.YtlndcpjaeoppmaaPlaneB
namespace Go.Proofs.Ytlndcpjaeoppmaa
open Go.RowKit Go.Shelf

/-- whether a list is a hull -/
def isHullB (l : List HPt) : Bool := decide (0 < l.length) && (decide (errPts l = 0) && decide (cornersP l = l))
theorem isHullB_nil : isHullB [] = false := rfl
theorem isHullB_bad {l : List HPt} (h : ¬ errPts l = 0) : isHullB l = false := by unfold isHullB; rw [decide_eq_false h]; simp
theorem isHullB_ok {l : List HPt} (h0 : 0 < l.length) (h : errPts l = 0) : isHullB l = decide (cornersP l = l) := by unfold isHullB; rw [decide_eq_true h, decide_eq_true h0]; rfl
theorem errPts_wide {l : List HPt} (h : errPts l = 0) : l.length ≤ 256 ∧ (∀ p ∈ l, okPt p = true) ∧ ∀ p ∈ l, wideB p := by
  have h1 : l.length ≤ 256 ∧ l.all okPt = true := by
    by_cases hm : 256 < l.length
    · rw [errPts_many hm] at h; cases h
    · cases ha : l.all okPt
      · rw [errPts_bad hm ha] at h; cases h
      · exact ⟨by omega, rfl⟩
  have h2 := List.all_eq_true.1 h1.2
  refine ⟨h1.1, h2, fun p hp => ?_⟩
  have := h2 p hp
  simp only [okPt, inB, Bool.and_eq_true, decide_eq_true_eq] at this
  unfold wideB
  omega
theorem PtCells.ext {w w' : World} {b off : Nat} {l : List HPt} (h : PtCells w b off l) (he : Ext w w') : PtCells w' b off l := fun i hi => ⟨he.cell (h i hi).1, he.cell (h i hi).2⟩
set_option maxRecDepth 100000 in
set_option maxHeartbeats 1600000 in
theorem IsHull_c (v : Value) (l : List HPt) (w : World) (hp : Pts w v l) :
    Calls Try.prog 11 #[v] w fun e w' => e = .returned (.bool (isHullB l)) ∧ Ext w w' := by
  rcases hp with ⟨a0, c0, rfl, rfl⟩ | ⟨b, off, cap, rfl, hl, hcap, hc⟩
  · rw [isHullB_nil]
    go_enter Try.func11, Try.ntmps11
    go_wp2
    go_ret
    exact ⟨rfl, by (repeat' (first | exact Ext.refl _ | assumption | refine Ext.alloc ?_ _ | refine Ext.drew ?_ | refine Ext.drewN ?_ _ | refine Ext.set ?_ (by first | exact Nat.le_refl _ | exact le1 _ | exact le2 _ | exact le3 _ | exact le4 _ | exact le5 _ | exact le6 _) _ | refine Ext.trans ?_ (by assumption)))⟩
  · have HP := Lib.hid (show Pts w (.slice (some ⟨b, off, none⟩) l.length cap) l from .inr ⟨b, off, cap, rfl, hl, hcap, hc⟩)
    have HC := Lib.hid hc
    clear hc
    have CP := Lib.hid (fun W (h : Ext w W) (bb : Nat) (h1 : W.cell? ⟨bb, 0, none⟩ = some (.slice (some ⟨b, off, none⟩) l.length cap)) => checkPoints_c bb 1 _ l W (HP.out.ext h) h1)
    by_cases h0 : l.length = 0
    · have hn := List.eq_nil_of_length_eq_zero h0
      subst hn
      rw [isHullB_nil]
      simp only [List.length_nil] at *
      go_enter Try.func11, Try.ntmps11
      go_wp2
      go_ret
      exact ⟨rfl, by (repeat' (first | exact Ext.refl _ | assumption | refine Ext.alloc ?_ _ | refine Ext.drew ?_ | refine Ext.drewN ?_ _ | refine Ext.set ?_ (by first | exact Nat.le_refl _ | exact le1 _ | exact le2 _ | exact le3 _ | exact le4 _ | exact le5 _ | exact le6 _) _ | refine Ext.trans ?_ (by assumption)))⟩
    · have h0' : (0 : Int) < (l.length : Int) := by omega
      by_cases he : errPts l = 0
      · rw [isHullB_ok (by omega) he]
        obtain ⟨hl2, _, hw⟩ := errPts_wide he
        have CC := Lib.hid (fun W (h : Ext w W) => corners_c b off cap l W (HC.out.ext h) (by omega) hw (by omega))
        have CE := Lib.hid (fun W (h : Ext w W) (v2 : Value) (h2 : Pts W v2 (cornersP l)) => Equal_c v2 _ (cornersP l) l W h2 (HP.out.ext h))
        rw [he] at CP
        generalize cornersP l = K at *
        have HK := Lib.hid (And.intro he hw)
        clear he hw h0
        go_enter Try.func11, Try.ntmps11
        go_wp2_with (first
          | (go_at_call 30; refine (CP.out _ (by (repeat' (first | exact Ext.refl _ | assumption | refine Ext.alloc ?_ _ | refine Ext.drew ?_ | refine Ext.drewN ?_ _ | refine Ext.set ?_ (by first | exact Nat.le_refl _ | exact le1 _ | exact le2 _ | exact le3 _ | exact le4 _ | exact le5 _ | exact le6 _) _ | refine Ext.trans ?_ (by assumption)))) _ (by go_simp)).mono ?_; rintro e w1 ⟨rfl, hb1⟩)
          | (go_at_call 31; refine (CC.out _ (by (repeat' (first | exact Ext.refl _ | assumption | refine Ext.alloc ?_ _ | refine Ext.drew ?_ | refine Ext.drewN ?_ _ | refine Ext.set ?_ (by first | exact Nat.le_refl _ | exact le1 _ | exact le2 _ | exact le3 _ | exact le4 _ | exact le5 _ | exact le6 _) _ | refine Ext.trans ?_ (by assumption))))).mono ?_; rintro e w2 ⟨v2, rfl, hp2, hb2⟩; obtain ⟨A2, c2, rfl, _⟩ := hp2.shapeH; replace hp2 := Lib.hid hp2)
          | (go_at_call 35; refine (CE.out _ (by (repeat' (first | exact Ext.refl _ | assumption | refine Ext.alloc ?_ _ | refine Ext.drew ?_ | refine Ext.drewN ?_ _ | refine Ext.set ?_ (by first | exact Nat.le_refl _ | exact le1 _ | exact le2 _ | exact le3 _ | exact le4 _ | exact le5 _ | exact le6 _) _ | refine Ext.trans ?_ (by assumption)))) _ hp2.out).mono ?_; rintro e w3 ⟨rfl, hb3⟩))
        go_ret
        exact ⟨rfl, by (repeat' (first | exact Ext.refl _ | assumption | refine Ext.alloc ?_ _ | refine Ext.drew ?_ | refine Ext.drewN ?_ _ | refine Ext.set ?_ (by first | exact Nat.le_refl _ | exact le1 _ | exact le2 _ | exact le3 _ | exact le4 _ | exact le5 _ | exact le6 _) _ | refine Ext.trans ?_ (by assumption)))⟩
      · rw [isHullB_bad he]
        have he2 : (errPts l == 0) = false := by simpa using he
        generalize errPts l = E at *
        clear h0
        go_enter Try.func11, Try.ntmps11
        go_wp2_with (go_at_call 30; refine (CP.out _ (by (repeat' (first | exact Ext.refl _ | assumption | refine Ext.alloc ?_ _ | refine Ext.drew ?_ | refine Ext.drewN ?_ _ | refine Ext.set ?_ (by first | exact Nat.le_refl _ | exact le1 _ | exact le2 _ | exact le3 _ | exact le4 _ | exact le5 _ | exact le6 _) _ | refine Ext.trans ?_ (by assumption)))) _ (by go_simp)).mono ?_; rintro e w1 ⟨rfl, hb1⟩)
        go_ret
        exact ⟨by simp, by (repeat' (first | exact Ext.refl _ | assumption | refine Ext.alloc ?_ _ | refine Ext.drew ?_ | refine Ext.drewN ?_ _ | refine Ext.set ?_ (by first | exact Nat.le_refl _ | exact le1 _ | exact le2 _ | exact le3 _ | exact le4 _ | exact le5 _ | exact le6 _) _ | refine Ext.trans ?_ (by assumption)))⟩
end Go.Proofs.Ytlndcpjaeoppmaa
