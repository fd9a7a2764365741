/- Contracts: 'Length'. -/
import Derived.Test.YtngmhmpejjcngaaLong
namespace Go.Proofs.Ytngmhmpejjcngaa
open Go.RowKit

def lenS (l : List (Int × Int)) : Int × Int := if errPts l = 0 then (if l.length = 0 then (0, 5) else (longS l, 0)) else (0, errPts l)
theorem errPts_0 {l : List (Int × Int)} (h : errPts l = 0) : l.length ≤ 256 ∧ l.all okPt = true := by
  unfold errPts at h
  by_cases h1 : 256 < l.length
  · simp [h1] at h
  · cases h2 : l.all okPt
    · simp [h1, h2] at h
    · exact ⟨by omega, rfl⟩
theorem lenS_bad {l : List (Int × Int)} (h : ¬ errPts l = 0) : lenS l = (0, errPts l) := by simp [lenS, h]
theorem lenS_none {l : List (Int × Int)} (h : errPts l = 0) (k : l.length = 0) : lenS l = (0, 5) := by simp [lenS, h, k]
theorem lenS_ok {l : List (Int × Int)} (h : errPts l = 0) (k : ¬ l.length = 0) : lenS l = (longS l, 0) := by simp [lenS, h, k]

set_option maxRecDepth 100000 in
set_option maxHeartbeats 800000 in
theorem RLength_c (v : Value) (l : List (Int × Int)) (w : World) (hp : Pts w v l) :
    Calls Try.prog 42 #[v] w fun e w' => e = .returned (i2V (lenS l)) ∧ Ext w w' := by
  have P1 := fun w' (h : Ext w w') => points_c v l w' (hp.ext h)
  by_cases he : errPts l = 0
  · obtain ⟨hm, ha⟩ := errPts_0 he
    rw [he] at P1
    have P2 := fun w' (h : Ext w w') => Long_c v l w' (hp.ext h) hm ha
    obtain ⟨a, cap, rfl, hl⟩ := hp.shape
    have H1 := Lib.hid P1
    have H2 := Lib.hid P2
    by_cases hz : l.length = 0
    · rw [lenS_none he hz]
      unfold i2V
      obtain rfl : l = [] := List.length_eq_zero_iff.1 hz
      clear P1 P2 hp he hm ha hz H2 hl
      simp only [List.length_nil] at *
      go_enter Try.func42, Try.ntmps42
      go_wp2_with fail
      refine (H1.out _ (by (repeat' (first | exact Ext.refl _ | assumption | refine Ext.alloc ?_ _ | refine Ext.drew ?_ | refine Ext.drewN ?_ _ | refine Ext.set ?_ (by first | exact Nat.le_refl _ | exact le1 _ | exact le2 _ | exact le3 _ | exact le4 _ | exact le5 _ | exact le6 _) _ | refine Ext.trans ?_ (by assumption))))).mono ?_
      rintro e w1 ⟨rfl, hb1⟩
      go_wp2_with fail
      go_ret2
      exact ⟨rfl, by (repeat' (first | exact Ext.refl _ | assumption | refine Ext.alloc ?_ _ | refine Ext.drew ?_ | refine Ext.drewN ?_ _ | refine Ext.set ?_ (by first | exact Nat.le_refl _ | exact le1 _ | exact le2 _ | exact le3 _ | exact le4 _ | exact le5 _ | exact le6 _) _ | refine Ext.trans ?_ (by assumption)))⟩
    · rw [lenS_ok he hz]
      unfold i2V
      have hz' : ¬ (l.length : Int) = 0 := by omega
      generalize longS l = L at *
      clear P1 P2 hp he hm ha
      go_enter Try.func42, Try.ntmps42
      go_wp2_with fail
      refine (H1.out _ (by (repeat' (first | exact Ext.refl _ | assumption | refine Ext.alloc ?_ _ | refine Ext.drew ?_ | refine Ext.drewN ?_ _ | refine Ext.set ?_ (by first | exact Nat.le_refl _ | exact le1 _ | exact le2 _ | exact le3 _ | exact le4 _ | exact le5 _ | exact le6 _) _ | refine Ext.trans ?_ (by assumption))))).mono ?_
      rintro e w1 ⟨rfl, hb1⟩
      go_wp2_with fail
      refine (H2.out _ (by (repeat' (first | exact Ext.refl _ | assumption | refine Ext.alloc ?_ _ | refine Ext.drew ?_ | refine Ext.drewN ?_ _ | refine Ext.set ?_ (by first | exact Nat.le_refl _ | exact le1 _ | exact le2 _ | exact le3 _ | exact le4 _ | exact le5 _ | exact le6 _) _ | refine Ext.trans ?_ (by assumption))))).mono ?_
      rintro e w2 ⟨rfl, hb2⟩
      go_wp2_with fail
      go_ret2
      exact ⟨rfl, by (repeat' (first | exact Ext.refl _ | assumption | refine Ext.alloc ?_ _ | refine Ext.drew ?_ | refine Ext.drewN ?_ _ | refine Ext.set ?_ (by first | exact Nat.le_refl _ | exact le1 _ | exact le2 _ | exact le3 _ | exact le4 _ | exact le5 _ | exact le6 _) _ | refine Ext.trans ?_ (by assumption)))⟩
  · rw [lenS_bad he]
    unfold i2V
    generalize errPts l = E at *
    have H1 := Lib.hid P1
    clear P1 hp
    go_enter Try.func42, Try.ntmps42
    go_wp2_with fail
    refine (H1.out _ (by (repeat' (first | exact Ext.refl _ | assumption | refine Ext.alloc ?_ _ | refine Ext.drew ?_ | refine Ext.drewN ?_ _ | refine Ext.set ?_ (by first | exact Nat.le_refl _ | exact le1 _ | exact le2 _ | exact le3 _ | exact le4 _ | exact le5 _ | exact le6 _) _ | refine Ext.trans ?_ (by assumption))))).mono ?_
    rintro e w1 ⟨rfl, hb1⟩
    go_wp2_with fail
    go_ret2
    exact ⟨rfl, by (repeat' (first | exact Ext.refl _ | assumption | refine Ext.alloc ?_ _ | refine Ext.drew ?_ | refine Ext.drewN ?_ _ | refine Ext.set ?_ (by first | exact Nat.le_refl _ | exact le1 _ | exact le2 _ | exact le3 _ | exact le4 _ | exact le5 _ | exact le6 _) _ | refine Ext.trans ?_ (by assumption)))⟩

set_option maxRecDepth 100000 in
set_option maxHeartbeats 1600000 in
theorem Length_c (v : Value) (l : List (Int × Int)) (w : World) (hp : Pts w v l) :
    Calls Try.prog 41 #[v] w fun e w' => e = .returned (i2V (lenS l)) ∧ Ext w w' := by
  by_cases he : errPts l = 0
  · obtain ⟨hm, ha⟩ := errPts_0 he
    by_cases hz : l.length = 0
    · rw [lenS_none he hz]
      unfold i2V
      have P1 := fun b cap w' h1 (h : Ext w w') => checkPoints_c b cap v l w' (hp.ext h) h1
      rw [he] at P1
      obtain ⟨a, cap, rfl, hl⟩ := hp.shape
      have H1 := Lib.hid P1
      obtain rfl : l = [] := List.length_eq_zero_iff.1 hz
      clear P1 hp he hm ha hz hl
      simp only [List.length_nil] at *
      go_enter Try.func41, Try.ntmps41
      go_wp2_with fail
      refine (H1.out _ _ _ (by go_simp) (by (repeat' (first | exact Ext.refl _ | assumption | refine Ext.alloc ?_ _ | refine Ext.drew ?_ | refine Ext.drewN ?_ _ | refine Ext.set ?_ (by first | exact Nat.le_refl _ | exact le1 _ | exact le2 _ | exact le3 _ | exact le4 _ | exact le5 _ | exact le6 _) _ | refine Ext.trans ?_ (by assumption))))).mono ?_
      rintro e w1 ⟨rfl, hb1⟩
      go_wp2_with fail
      go_ret2
      exact ⟨rfl, by (repeat' (first | exact Ext.refl _ | assumption | refine Ext.alloc ?_ _ | refine Ext.drew ?_ | refine Ext.drewN ?_ _ | refine Ext.set ?_ (by first | exact Nat.le_refl _ | exact le1 _ | exact le2 _ | exact le3 _ | exact le4 _ | exact le5 _ | exact le6 _) _ | refine Ext.trans ?_ (by assumption)))⟩
    · rw [lenS_ok he hz]
      unfold i2V
      have P1 := fun b cap w' h1 (h : Ext w w') => checkPoints_c b cap v l w' (hp.ext h) h1
      rw [he] at P1
      rcases hp with ⟨a0, c0, rfl, rfl⟩ | ⟨b, off, cap, rfl, hl, hcap, hc⟩
      · exact absurd rfl hz
      have H1 := Lib.hid P1
      have HC : RowKit.Hid (PtCells w b off l) := hc
      have HA := Lib.hid ha
      have hz' : ¬ (l.length : Int) = 0 := by omega
      have hz1 : (1 : Int) ≤ (l.length : Int) := by omega
      have hz2 : (l.length : Int) ≤ (cap : Int) := by omega
      have hz3 : (l.length : Int) ≤ 256 := by omega
      clear P1 he ha hc
      by_cases hc1 : cap = 1
      · have hl1 : l.length = 1 := by omega
        obtain ⟨p, rfl⟩ := List.length_eq_one_iff.1 hl1
        rw [show longS [p] = 0 from rfl]
        subst hc1
        clear hl1 hm hz hz' hz1 hz2 hz3 HC HA hl hcap
        simp only [List.length_cons, List.length_nil, Nat.zero_add] at H1 ⊢
        go_enter Try.func41, Try.ntmps41
        go_wp2_with fail
        refine (H1.out _ _ _ (by go_simp) (by (repeat' (first | exact Ext.refl _ | assumption | refine Ext.alloc ?_ _ | refine Ext.drew ?_ | refine Ext.drewN ?_ _ | refine Ext.set ?_ (by first | exact Nat.le_refl _ | exact le1 _ | exact le2 _ | exact le3 _ | exact le4 _ | exact le5 _ | exact le6 _) _ | refine Ext.trans ?_ (by assumption))))).mono ?_
        rintro e w1 ⟨rfl, hb1⟩
        go_wp2_with fail
        go_loop [5, 20] (fun s i => s = .int .i64 0 ∧ i = .int .i64 0) (fun _ i => 0)
        case atStart => exact ⟨rfl, rfl⟩
        case round =>
          obtain ⟨rfl, rfl⟩ := hrel
          go_wp2
          go_ret2
          exact ⟨rfl, by (repeat' (first | exact Ext.refl _ | assumption | refine Ext.alloc ?_ _ | refine Ext.drew ?_ | refine Ext.drewN ?_ _ | refine Ext.set ?_ (by first | exact Nat.le_refl _ | exact le1 _ | exact le2 _ | exact le3 _ | exact le4 _ | exact le5 _ | exact le6 _) _ | refine Ext.trans ?_ (by assumption)))⟩
      unfold longS
      obtain ⟨m, hmm'⟩ : ∃ m, l.length - 1 = m := ⟨_, rfl⟩
      rw [hmm']
      have hmm := Lib.hid hmm'
      clear hmm'
      go_enter Try.func41, Try.ntmps41
      go_wp2_with fail
      refine (H1.out _ _ _ (by go_simp) (by (repeat' (first | exact Ext.refl _ | assumption | refine Ext.alloc ?_ _ | refine Ext.drew ?_ | refine Ext.drewN ?_ _ | refine Ext.set ?_ (by first | exact Nat.le_refl _ | exact le1 _ | exact le2 _ | exact le3 _ | exact le4 _ | exact le5 _ | exact le6 _) _ | refine Ext.trans ?_ (by assumption))))).mono ?_
      rintro e w1 ⟨rfl, hb1⟩
      go_wp2_with fail
      have HE : Ext w w1 := by (repeat' (first | exact Ext.refl _ | assumption | refine Ext.alloc ?_ _ | refine Ext.drew ?_ | refine Ext.drewN ?_ _ | refine Ext.set ?_ (by first | exact Nat.le_refl _ | exact le1 _ | exact le2 _ | exact le3 _ | exact le4 _ | exact le5 _ | exact le6 _) _ | refine Ext.trans ?_ (by assumption)))
      clear hb1 H1
      have h0 : ((l.length : Int) == 0) = false := beq_false_of_ne hz'
      rw [h0]
      clear h0
      rw [hmm.out]
      have hml : RowKit.Hid (l.length = m + 1) := by have := hmm.out; simp only [RowKit.Hid]; omega
      go_loopw [5, 20] (fun s i wr => ∃ k : Nat, k ≤ m ∧ i = .int .i64 k ∧ s = .int .i64 (longN l k) ∧ Ext w wr) (fun _ i _ => m - (intOf i).toNat)
      case atStart => exact ⟨0, by omega, rfl, rfl, HE⟩
      case round =>
        obtain ⟨k, hk, rfl, rfl, hb⟩ := hrel
        by_cases hlt : k < m
        · have hml' := hml.out
          have c1 := Ext.cell hb (HC.out k (by omega)).1
          have c2 := Ext.cell hb (HC.out k (by omega)).2
          have c3 := Ext.cell hb (HC.out (k + 1) (by omega)).1
          have c4 := Ext.cell hb (HC.out (k + 1) (by omega)).2
          rw [show off + (k + 1) * 2 = off + 2 + k * 2 by omega] at c3 c4
          have s1 := longN_bd HA.out k (by omega)
          have s2 := farAt_bd HA.out (k := k) (by omega)
          have HF := fun w => far_c (l.getD k (0, 0)).1 (l.getD k (0, 0)).2 (l.getD (k + 1) (0, 0)).1 (l.getD (k + 1) (0, 0)).2 w (okAt HA.out (by omega)) (okAt HA.out (by omega))
          have hf : farS ((l.getD k (0, 0)).1, (l.getD k (0, 0)).2) ((l.getD (k + 1) (0, 0)).1, (l.getD (k + 1) (0, 0)).2) = farAt l k := rfl
          rw [hf] at HF
          clear hf
          have hn : RowKit.Hid (longN l (k + 1) = longN l k + farAt l k) := rfl
          generalize longN l k = A at *
          generalize farAt l k = D at *
          generalize l.getD k (0, 0) = P at *
          generalize l.getD (k + 1) (0, 0) = Q at *
          obtain ⟨s3, s4⟩ := s1
          obtain ⟨s5, s6⟩ := s2
          replace HF := Lib.hid HF
          have i1 : (0 : Int) ≤ (k : Int) := by omega
          have i2 : (k : Int) < (l.length : Int) := by omega
          have i3 : (k : Int) < (m : Int) := by omega
          have i5 := IntWalk.i64_in ((k : Int) + 1) (by omega)
          have i6 := IntWalk.i64_in (A + D) (by omega)
          clear hml'
          go_wp2_with fail
          go_region_held3 (fun w' => w'.cell? ⟨b, off + k * 2, none⟩ = some (.int .i64 P.1) ∧ w'.cell? ⟨b, off + k * 2 + 1, none⟩ = some (.int .i64 P.2) ∧ w'.cell? ⟨wr.heap.size, 0, none⟩ = some (.int .i64 Q.1) ∧ w'.cell? ⟨wr.heap.size, 1, none⟩ = some (.int .i64 Q.2))
            (first | go_keep | (refine ⟨?_, ?_, ?_, ?_⟩ <;> exact Ext.cell hb2 (by go_simp)))
            (first | (go_at_call 73; refine (HF.out _).mono ?_; rintro e w' ⟨rfl, hb2⟩))
          go_wp2_with fail
          go_roundw
          case rel => exact ⟨k + 1, by omega, by go_num, by rw [hn.out], by (repeat' (first | exact Ext.refl _ | assumption | refine Ext.alloc ?_ _ | refine Ext.drew ?_ | refine Ext.drewN ?_ _ | refine Ext.set ?_ (by first | exact Nat.le_refl _ | exact le1 _ | exact le2 _ | exact le3 _ | exact le4 _ | exact le5 _ | exact le6 _) _ | refine Ext.trans ?_ (by assumption)))⟩
          case measure => simp [intOf]; omega
        · have hk' : k = m := by omega
          have i1 : ¬ (k : Int) < (m : Int) := by omega
          go_wp2
          go_ret2
          exact ⟨rfl, hb⟩
  · rw [lenS_bad he]
    unfold i2V
    have P1 := fun b cap w' h1 (h : Ext w w') => checkPoints_c b cap v l w' (hp.ext h) h1
    generalize errPts l = E at *
    obtain ⟨a, cap, rfl, hl⟩ := hp.shape
    have H1 := Lib.hid P1
    clear P1 hp
    go_enter Try.func41, Try.ntmps41
    go_wp2_with fail
    refine (H1.out _ _ _ (by go_simp) (by (repeat' (first | exact Ext.refl _ | assumption | refine Ext.alloc ?_ _ | refine Ext.drew ?_ | refine Ext.drewN ?_ _ | refine Ext.set ?_ (by first | exact Nat.le_refl _ | exact le1 _ | exact le2 _ | exact le3 _ | exact le4 _ | exact le5 _ | exact le6 _) _ | refine Ext.trans ?_ (by assumption))))).mono ?_
    rintro e w1 ⟨rfl, hb1⟩
    go_wp2_with fail
    go_ret2
    exact ⟨rfl, by (repeat' (first | exact Ext.refl _ | assumption | refine Ext.alloc ?_ _ | refine Ext.drew ?_ | refine Ext.drewN ?_ _ | refine Ext.set ?_ (by first | exact Nat.le_refl _ | exact le1 _ | exact le2 _ | exact le3 _ | exact le4 _ | exact le5 _ | exact le6 _) _ | refine Ext.trans ?_ (by assumption)))⟩
end Go.Proofs.Ytngmhmpejjcngaa
