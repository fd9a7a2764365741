
/- Contracts: when a vehicle is valid. -/
import Derived.Test.YtcbjecpfijogcaaGreatCUnit
namespace Go.Proofs.YtcbjecpfijogcaaGreat
open Go.RowKit

def vehV (v : CVeh) (vu : Value) : Value := .agg #[.string v.name, vu, .int .i64 v.first, .int .i64 v.last]
theorem any_not {α : Type} (p : α → Bool) (l : List α) : (l.any fun x => !p x) = !l.all p := by
  rw [Bool.eq_iff_iff]; simp
theorem Check1_c (v : Value) (u : CUnit) (w : World) (hs : Sl 3 RAxle w v u.axles) :
    Calls Tryz.prog 61 #[.agg #[.int .i64 u.kind, .int .i64 u.length, .int .i64 u.behind, .int .i64 u.front, .int .i64 u.rear, .int .i64 u.width, .int .i64 u.height, .int .i64 u.mass, .int .i64 u.steer, .int .i64 u.most, v]] w fun e w' => e = .returned (.bool (decide (24 < u.axles.length))) ∧ Ext w w' := by
  obtain ⟨A, cap, rfl, hl, hl2⟩ := hs.shape
  clear hs
  by_cases h : (24 : Int) < (u.axles.length : Int)
  all_goals
    go_enter Tryz.func61, Tryz.ntmps61
    go_wp2
    go_ret
    exact ⟨ret_bool (by simp; omega), by (repeat' (first | exact Ext.refl _ | assumption | refine Ext.alloc ?_ _ | refine Ext.drew ?_ | refine Ext.drewN ?_ _ | refine Ext.set ?_ (by first | exact Nat.le_refl _ | exact le1 _ | exact le2 _ | exact le3 _ | exact le4 _ | exact le5 _ | exact le6 _) _ | refine Ext.trans ?_ (by assumption)))⟩
theorem Check2_c (v : Value) (u : CUnit) (w : World) (hs : Sl 3 RAxle w v u.axles) :
    Calls Tryz.prog 63 #[.agg #[.int .i64 u.kind, .int .i64 u.length, .int .i64 u.behind, .int .i64 u.front, .int .i64 u.rear, .int .i64 u.width, .int .i64 u.height, .int .i64 u.mass, .int .i64 u.steer, .int .i64 u.most, v]] w fun e w' => e = .returned (.bool (!unitB u)) ∧ Ext w w' := by
  have C := fun w' (h : Ext w w') => checkUnit_c v u w' (hs.ext RAxle.stable h)
  obtain ⟨A, cap, rfl, hl, hl2⟩ := hs.shape
  generalize unitB u = z at *
  replace C := Lib.hid C
  clear hs
  go_enter Tryz.func63, Tryz.ntmps63
  go_wp2_with (go_at_call 64; refine (C.out _ (by (repeat' (first | exact Ext.refl _ | assumption | refine Ext.alloc ?_ _ | refine Ext.drew ?_ | refine Ext.drewN ?_ _ | refine Ext.set ?_ (by first | exact Nat.le_refl _ | exact le1 _ | exact le2 _ | exact le3 _ | exact le4 _ | exact le5 _ | exact le6 _) _ | refine Ext.trans ?_ (by assumption))))).mono ?_; rintro e w1 ⟨rfl, hb1⟩)
  go_ret
  exact ⟨rfl, by (repeat' (first | exact Ext.refl _ | assumption | refine Ext.alloc ?_ _ | refine Ext.drew ?_ | refine Ext.drewN ?_ _ | refine Ext.set ?_ (by first | exact Nat.le_refl _ | exact le1 _ | exact le2 _ | exact le3 _ | exact le4 _ | exact le5 _ | exact le6 _) _ | refine Ext.trans ?_ (by assumption)))⟩
theorem many_c (v : Value) (l : List CUnit) (w : World) (hs : Sl 11 RUnit w v l) :
    Calls Tryz.prog 60 #[v, .func (.func 61) #[] #[]] w fun e w' => e = .returned (.bool (l.any fun u => decide (24 < u.axles.length))) ∧ Ext w w' := by
  refine ContainsFuncUnit_c RUnit.stable 61 #[] (enters_of Tryz.func61 (by kernel_rfl) rfl) _ v l w hs ?_
  rintro W cs x _ ⟨v', rfl, h⟩ _
  exact Check1_c v' x W h
theorem units_c (v : Value) (l : List CUnit) (w : World) (hs : Sl 11 RUnit w v l) :
    Calls Tryz.prog 60 #[v, .func (.func 63) #[] #[]] w fun e w' => e = .returned (.bool (!l.all unitB)) ∧ Ext w w' := by
  rw [← any_not]
  refine ContainsFuncUnit_c RUnit.stable 63 #[] (enters_of Tryz.func63 (by kernel_rfl) rfl) _ v l w hs ?_
  rintro W cs x _ ⟨v', rfl, h⟩ _
  exact Check2_c v' x W h

theorem vehE_many {v : CVeh} (h : manyB v = true) : vehE v = 6 := by simp [vehE, h]
theorem vehE_bad {v : CVeh} (h1 : manyB v = false) (h2 : (headB v && v.units.all unitB) = false) : vehE v = 2 := by simp only [vehE, h1, h2]; rfl
theorem vehE_ok {v : CVeh} (h1 : manyB v = false) (h2 : (headB v && v.units.all unitB) = true) : vehE v = 0 := by simp only [vehE, h1, h2]; rfl
theorem manyB_1 {v : CVeh} (h : (12 : Int) < (v.units.length : Int)) : manyB v = true := by
  unfold manyB
  rw [decide_eq_true (by omega)]; rfl
theorem manyB_2 {v : CVeh} (h : ¬ (12 : Int) < (v.units.length : Int)) : manyB v = v.units.any fun u => decide (24 < u.axles.length) := by
  unfold manyB
  rw [decide_eq_false (by omega)]; rfl
theorem head_name {v : CVeh} (h : nameB v.name = false) : headB v = false := by simp [headB, h]
theorem head_len {v : CVeh} (h : v.units.length = 0) : headB v = false := by simp [headB, h]
theorem head_kind {v : CVeh} (h : ¬ kind0 v = 0) : headB v = false := by simp [headB, h]
theorem head_at {v : CVeh} (h : ¬ (0 ≤ v.first ∧ v.first ≤ v.last ∧ v.last < v.units.length)) : headB v = false := by
  unfold headB; rw [decide_eq_false h]; simp
theorem head_ok {v : CVeh} (h1 : nameB v.name = true) (h3 : kind0 v = 0) (h4 : 0 ≤ v.first) (h5 : v.first ≤ v.last) (h6 : v.last < v.units.length) : headB v = true := by
  unfold headB
  rw [h1, decide_eq_true (show 1 ≤ v.units.length by omega), decide_eq_true h3, decide_eq_true ⟨h4, h5, h6⟩]; rfl
theorem and_no1 {a b : Bool} (h : a = false) : (a && b) = false := by rw [h]; rfl
theorem and_no2 {a b : Bool} (h : b = false) : (a && b) = false := by rw [h]; simp
theorem and_ok {a b : Bool} (h : a = true) (h2 : b = true) : (a && b) = true := by rw [h, h2]; rfl

set_option maxRecDepth 100000 in
set_option maxHeartbeats 4000000 in
theorem VCheck_c (vu : Value) (v : CVeh) (w : World) (hs : Sl 11 RUnit w vu v.units) :
    Calls Tryz.prog 38 #[vehV v vu] w fun e w' => e = .returned (.int .i64 (vehE v)) ∧ Ext w w' := by
  unfold vehV
  have M := fun w' (h : Ext w w') => many_c vu v.units w' (hs.ext RUnit.stable h)
  have U := fun w' (h : Ext w w') => units_c vu v.units w' (hs.ext RUnit.stable h)
  have N := fun w => isName_c v.name w
  obtain ⟨A, cap, rfl, hl, hl2⟩ := hs.shape
  have HS := Lib.hid hs
  clear hs
  by_cases b1 : (12 : Int) < (v.units.length : Int)
  · rw [vehE_many (manyB_1 b1)]
    clear M U N
    go_enter Tryz.func38, Tryz.ntmps38
    go_wp2
    go_ret
    exact ⟨rfl, by (repeat' (first | exact Ext.refl _ | assumption | refine Ext.alloc ?_ _ | refine Ext.drew ?_ | refine Ext.drewN ?_ _ | refine Ext.set ?_ (by first | exact Nat.le_refl _ | exact le1 _ | exact le2 _ | exact le3 _ | exact le4 _ | exact le5 _ | exact le6 _) _ | refine Ext.trans ?_ (by assumption)))⟩
  have hm := manyB_2 b1
  obtain ⟨m, hm'⟩ : ∃ m, (v.units.any fun u => decide (24 < u.axles.length)) = m := ⟨_, rfl⟩
  rw [hm'] at hm M
  clear hm'
  replace M := Lib.hid M
  cases m
  case true =>
    rw [vehE_many hm]
    clear U N hm
    go_enter Tryz.func38, Tryz.ntmps38
    go_wp2_with (go_at_call 60; refine (M.out _ (by (repeat' (first | exact Ext.refl _ | assumption | refine Ext.alloc ?_ _ | refine Ext.drew ?_ | refine Ext.drewN ?_ _ | refine Ext.set ?_ (by first | exact Nat.le_refl _ | exact le1 _ | exact le2 _ | exact le3 _ | exact le4 _ | exact le5 _ | exact le6 _) _ | refine Ext.trans ?_ (by assumption))))).mono ?_; rintro e w1 ⟨rfl, hb1⟩; obtain ⟨hc, hf⟩ := bcell hb1)
    go_ret
    exact ⟨rfl, by (repeat' (first | exact Ext.refl _ | assumption | refine Ext.alloc ?_ _ | refine Ext.drew ?_ | refine Ext.drewN ?_ _ | refine Ext.set ?_ (by first | exact Nat.le_refl _ | exact le1 _ | exact le2 _ | exact le3 _ | exact le4 _ | exact le5 _ | exact le6 _) _ | refine Ext.trans ?_ (by assumption)))⟩
  have HB := Lib.hid (fun h2 => vehE_bad (v := v) hm h2)
  have HG := Lib.hid (fun h2 => vehE_ok (v := v) hm h2)
  clear hm
  obtain ⟨n, hn⟩ : ∃ n, nameB v.name = n := ⟨_, rfl⟩
  rw [hn] at N
  replace N := Lib.hid N
  obtain ⟨z, hz⟩ : ∃ z, v.units.all unitB = z := ⟨_, rfl⟩
  rw [hz] at U
  replace U := Lib.hid U
  cases n
  · rw [HB.out (and_no1 (head_name hn))]
    clear U HB HG hn hz
    go_enter Tryz.func38, Tryz.ntmps38
    go_wp2_with (first | (go_at_call 60; (with_reducible refine (M.out _ (by (repeat' (first | exact Ext.refl _ | assumption | refine Ext.alloc ?_ _ | refine Ext.drew ?_ | refine Ext.drewN ?_ _ | refine Ext.set ?_ (by first | exact Nat.le_refl _ | exact le1 _ | exact le2 _ | exact le3 _ | exact le4 _ | exact le5 _ | exact le6 _) _ | refine Ext.trans ?_ (by assumption))))).mono ?_); rintro e w1 ⟨rfl, hb1⟩; obtain ⟨hc, hf⟩ := bcell hb1) | (go_at_call 62; refine (N.out _).mono ?_; rintro e w2 ⟨rfl, hb2⟩; replace hb2 := Ext.trans hb1 hb2; clear hb1 hc hf; obtain ⟨hc, hf⟩ := bcell hb2) | (go_at_call 60; (with_reducible refine (U.out _ (by (repeat' (first | exact Ext.refl _ | assumption | refine Ext.alloc ?_ _ | refine Ext.drew ?_ | refine Ext.drewN ?_ _ | refine Ext.set ?_ (by first | exact Nat.le_refl _ | exact le1 _ | exact le2 _ | exact le3 _ | exact le4 _ | exact le5 _ | exact le6 _) _ | refine Ext.trans ?_ (by assumption))))).mono ?_); rintro e w3 ⟨rfl, hb3⟩))
    go_ret
    exact ⟨rfl, by (repeat' (first | exact Ext.refl _ | assumption | refine Ext.alloc ?_ _ | refine Ext.drew ?_ | refine Ext.drewN ?_ _ | refine Ext.set ?_ (by first | exact Nat.le_refl _ | exact le1 _ | exact le2 _ | exact le3 _ | exact le4 _ | exact le5 _ | exact le6 _) _ | refine Ext.trans ?_ (by assumption)))⟩
  by_cases b2 : v.units.length = 0
  · rw [HB.out (and_no1 (head_len b2))]
    have b3 := List.eq_nil_of_length_eq_zero b2
    clear HB HG hn hz U
    generalize v.units = us at *
    subst b3
    clear hl hl2 HS b1 b2
    have M2 := M.out
    simp only [List.length_nil] at M2 ⊢
    replace M := Lib.hid M2
    clear M2
    go_enter Tryz.func38, Tryz.ntmps38
    go_wp2_with (first | (go_at_call 60; (with_reducible refine (M.out _ (by (repeat' (first | exact Ext.refl _ | assumption | refine Ext.alloc ?_ _ | refine Ext.drew ?_ | refine Ext.drewN ?_ _ | refine Ext.set ?_ (by first | exact Nat.le_refl _ | exact le1 _ | exact le2 _ | exact le3 _ | exact le4 _ | exact le5 _ | exact le6 _) _ | refine Ext.trans ?_ (by assumption))))).mono ?_); rintro e w1 ⟨rfl, hb1⟩; obtain ⟨hc, hf⟩ := bcell hb1) | (go_at_call 62; refine (N.out _).mono ?_; rintro e w2 ⟨rfl, hb2⟩; replace hb2 := Ext.trans hb1 hb2; clear hb1 hc hf; obtain ⟨hc, hf⟩ := bcell hb2) | (go_at_call 60; (with_reducible refine (U.out _ (by (repeat' (first | exact Ext.refl _ | assumption | refine Ext.alloc ?_ _ | refine Ext.drew ?_ | refine Ext.drewN ?_ _ | refine Ext.set ?_ (by first | exact Nat.le_refl _ | exact le1 _ | exact le2 _ | exact le3 _ | exact le4 _ | exact le5 _ | exact le6 _) _ | refine Ext.trans ?_ (by assumption))))).mono ?_); rintro e w3 ⟨rfl, hb3⟩))
    go_ret
    exact ⟨rfl, by (repeat' (first | exact Ext.refl _ | assumption | refine Ext.alloc ?_ _ | refine Ext.drew ?_ | refine Ext.drewN ?_ _ | refine Ext.set ?_ (by first | exact Nat.le_refl _ | exact le1 _ | exact le2 _ | exact le3 _ | exact le4 _ | exact le5 _ | exact le6 _) _ | refine Ext.trans ?_ (by assumption)))⟩
  have b3 : ((v.units.length : Int) == 0) = false := by rw [beq_eq_false_iff_ne]; omega
  have b4 : ¬ v.units = [] := fun h => b2 (by rw [h]; rfl)
  have b5 : ¬ (v.units.length : Int) = 0 := by omega
  obtain ⟨u, hu⟩ := some_of_lt (show 0 < v.units.length by omega)
  have hk0 : kind0 v = u.kind := by
    unfold kind0
    cases h : v.units with
    | nil => exact absurd h b4
    | cons x xs => rw [h] at hu; simp only [List.getElem?_cons_zero, Option.some.injEq] at hu; rw [hu]
  obtain ⟨b, off, cs, rfl, _, ⟨v', rfl, _⟩, hc⟩ := HS.out.at hu
  have k0 := hc 0 _ rfl
  simp only [Nat.add_zero, Nat.zero_mul] at k0
  have hbl := lt_of_cell k0
  have j1 : (0 : Int) < (v.units.length : Int) := by omega
  clear hc hu
  by_cases b6 : u.kind = 0
  case neg =>
    rw [HB.out (and_no1 (head_kind (by rw [hk0]; exact b6)))]
    clear U HB HG hn hz hk0
    generalize u.kind = kd at *
    go_enter Tryz.func38, Tryz.ntmps38
    go_wp2_with (first | (go_at_call 60; (with_reducible refine (M.out _ (by (repeat' (first | exact Ext.refl _ | assumption | refine Ext.alloc ?_ _ | refine Ext.drew ?_ | refine Ext.drewN ?_ _ | refine Ext.set ?_ (by first | exact Nat.le_refl _ | exact le1 _ | exact le2 _ | exact le3 _ | exact le4 _ | exact le5 _ | exact le6 _) _ | refine Ext.trans ?_ (by assumption))))).mono ?_); rintro e w1 ⟨rfl, hb1⟩; obtain ⟨hc, hf⟩ := bcell hb1) | (go_at_call 62; refine (N.out _).mono ?_; rintro e w2 ⟨rfl, hb2⟩; replace hb2 := Ext.trans hb1 hb2; clear hb1 hc hf; obtain ⟨hc, hf⟩ := bcell hb2) | (go_at_call 60; (with_reducible refine (U.out _ (by (repeat' (first | exact Ext.refl _ | assumption | refine Ext.alloc ?_ _ | refine Ext.drew ?_ | refine Ext.drewN ?_ _ | refine Ext.set ?_ (by first | exact Nat.le_refl _ | exact le1 _ | exact le2 _ | exact le3 _ | exact le4 _ | exact le5 _ | exact le6 _) _ | refine Ext.trans ?_ (by assumption))))).mono ?_); rintro e w3 ⟨rfl, hb3⟩))
    go_ret
    exact ⟨rfl, by (repeat' (first | exact Ext.refl _ | assumption | refine Ext.alloc ?_ _ | refine Ext.drew ?_ | refine Ext.drewN ?_ _ | refine Ext.set ?_ (by first | exact Nat.le_refl _ | exact le1 _ | exact le2 _ | exact le3 _ | exact le4 _ | exact le5 _ | exact le6 _) _ | refine Ext.trans ?_ (by assumption)))⟩
  rw [b6] at k0 hk0
  by_cases b7 : v.first < 0
  · rw [HB.out (and_no1 (head_at (by omega)))]
    clear U HB HG hn hz hk0
    go_enter Tryz.func38, Tryz.ntmps38
    go_wp2_with (first | (go_at_call 60; (with_reducible refine (M.out _ (by (repeat' (first | exact Ext.refl _ | assumption | refine Ext.alloc ?_ _ | refine Ext.drew ?_ | refine Ext.drewN ?_ _ | refine Ext.set ?_ (by first | exact Nat.le_refl _ | exact le1 _ | exact le2 _ | exact le3 _ | exact le4 _ | exact le5 _ | exact le6 _) _ | refine Ext.trans ?_ (by assumption))))).mono ?_); rintro e w1 ⟨rfl, hb1⟩; obtain ⟨hc, hf⟩ := bcell hb1) | (go_at_call 62; refine (N.out _).mono ?_; rintro e w2 ⟨rfl, hb2⟩; replace hb2 := Ext.trans hb1 hb2; clear hb1 hc hf; obtain ⟨hc, hf⟩ := bcell hb2) | (go_at_call 60; (with_reducible refine (U.out _ (by (repeat' (first | exact Ext.refl _ | assumption | refine Ext.alloc ?_ _ | refine Ext.drew ?_ | refine Ext.drewN ?_ _ | refine Ext.set ?_ (by first | exact Nat.le_refl _ | exact le1 _ | exact le2 _ | exact le3 _ | exact le4 _ | exact le5 _ | exact le6 _) _ | refine Ext.trans ?_ (by assumption))))).mono ?_); rintro e w3 ⟨rfl, hb3⟩))
    go_ret
    exact ⟨rfl, by (repeat' (first | exact Ext.refl _ | assumption | refine Ext.alloc ?_ _ | refine Ext.drew ?_ | refine Ext.drewN ?_ _ | refine Ext.set ?_ (by first | exact Nat.le_refl _ | exact le1 _ | exact le2 _ | exact le3 _ | exact le4 _ | exact le5 _ | exact le6 _) _ | refine Ext.trans ?_ (by assumption)))⟩
  by_cases b8 : v.last < v.first
  · rw [HB.out (and_no1 (head_at (by omega)))]
    clear U HB HG hn hz hk0
    go_enter Tryz.func38, Tryz.ntmps38
    go_wp2_with (first | (go_at_call 60; (with_reducible refine (M.out _ (by (repeat' (first | exact Ext.refl _ | assumption | refine Ext.alloc ?_ _ | refine Ext.drew ?_ | refine Ext.drewN ?_ _ | refine Ext.set ?_ (by first | exact Nat.le_refl _ | exact le1 _ | exact le2 _ | exact le3 _ | exact le4 _ | exact le5 _ | exact le6 _) _ | refine Ext.trans ?_ (by assumption))))).mono ?_); rintro e w1 ⟨rfl, hb1⟩; obtain ⟨hc, hf⟩ := bcell hb1) | (go_at_call 62; refine (N.out _).mono ?_; rintro e w2 ⟨rfl, hb2⟩; replace hb2 := Ext.trans hb1 hb2; clear hb1 hc hf; obtain ⟨hc, hf⟩ := bcell hb2) | (go_at_call 60; (with_reducible refine (U.out _ (by (repeat' (first | exact Ext.refl _ | assumption | refine Ext.alloc ?_ _ | refine Ext.drew ?_ | refine Ext.drewN ?_ _ | refine Ext.set ?_ (by first | exact Nat.le_refl _ | exact le1 _ | exact le2 _ | exact le3 _ | exact le4 _ | exact le5 _ | exact le6 _) _ | refine Ext.trans ?_ (by assumption))))).mono ?_); rintro e w3 ⟨rfl, hb3⟩))
    go_ret
    exact ⟨rfl, by (repeat' (first | exact Ext.refl _ | assumption | refine Ext.alloc ?_ _ | refine Ext.drew ?_ | refine Ext.drewN ?_ _ | refine Ext.set ?_ (by first | exact Nat.le_refl _ | exact le1 _ | exact le2 _ | exact le3 _ | exact le4 _ | exact le5 _ | exact le6 _) _ | refine Ext.trans ?_ (by assumption)))⟩
  by_cases b9 : (v.units.length : Int) ≤ v.last
  · rw [HB.out (and_no1 (head_at (by omega)))]
    clear U HB HG hn hz hk0
    go_enter Tryz.func38, Tryz.ntmps38
    go_wp2_with (first | (go_at_call 60; (with_reducible refine (M.out _ (by (repeat' (first | exact Ext.refl _ | assumption | refine Ext.alloc ?_ _ | refine Ext.drew ?_ | refine Ext.drewN ?_ _ | refine Ext.set ?_ (by first | exact Nat.le_refl _ | exact le1 _ | exact le2 _ | exact le3 _ | exact le4 _ | exact le5 _ | exact le6 _) _ | refine Ext.trans ?_ (by assumption))))).mono ?_); rintro e w1 ⟨rfl, hb1⟩; obtain ⟨hc, hf⟩ := bcell hb1) | (go_at_call 62; refine (N.out _).mono ?_; rintro e w2 ⟨rfl, hb2⟩; replace hb2 := Ext.trans hb1 hb2; clear hb1 hc hf; obtain ⟨hc, hf⟩ := bcell hb2) | (go_at_call 60; (with_reducible refine (U.out _ (by (repeat' (first | exact Ext.refl _ | assumption | refine Ext.alloc ?_ _ | refine Ext.drew ?_ | refine Ext.drewN ?_ _ | refine Ext.set ?_ (by first | exact Nat.le_refl _ | exact le1 _ | exact le2 _ | exact le3 _ | exact le4 _ | exact le5 _ | exact le6 _) _ | refine Ext.trans ?_ (by assumption))))).mono ?_); rintro e w3 ⟨rfl, hb3⟩))
    go_ret
    exact ⟨rfl, by (repeat' (first | exact Ext.refl _ | assumption | refine Ext.alloc ?_ _ | refine Ext.drew ?_ | refine Ext.drewN ?_ _ | refine Ext.set ?_ (by first | exact Nat.le_refl _ | exact le1 _ | exact le2 _ | exact le3 _ | exact le4 _ | exact le5 _ | exact le6 _) _ | refine Ext.trans ?_ (by assumption)))⟩
  have HH := Lib.hid (head_ok hn hk0 (by omega) (by omega) (by omega))
  clear hn hk0 b6
  cases z
  · rw [HB.out (and_no2 hz)]
    clear HB HG hz HH
    go_enter Tryz.func38, Tryz.ntmps38
    go_wp2_with (first | (go_at_call 60; (with_reducible refine (M.out _ (by (repeat' (first | exact Ext.refl _ | assumption | refine Ext.alloc ?_ _ | refine Ext.drew ?_ | refine Ext.drewN ?_ _ | refine Ext.set ?_ (by first | exact Nat.le_refl _ | exact le1 _ | exact le2 _ | exact le3 _ | exact le4 _ | exact le5 _ | exact le6 _) _ | refine Ext.trans ?_ (by assumption))))).mono ?_); rintro e w1 ⟨rfl, hb1⟩; obtain ⟨hc, hf⟩ := bcell hb1) | (go_at_call 62; refine (N.out _).mono ?_; rintro e w2 ⟨rfl, hb2⟩; replace hb2 := Ext.trans hb1 hb2; clear hb1 hc hf; obtain ⟨hc, hf⟩ := bcell hb2) | (go_at_call 60; (with_reducible refine (U.out _ (by (repeat' (first | exact Ext.refl _ | assumption | refine Ext.alloc ?_ _ | refine Ext.drew ?_ | refine Ext.drewN ?_ _ | refine Ext.set ?_ (by first | exact Nat.le_refl _ | exact le1 _ | exact le2 _ | exact le3 _ | exact le4 _ | exact le5 _ | exact le6 _) _ | refine Ext.trans ?_ (by assumption))))).mono ?_); rintro e w3 ⟨rfl, hb3⟩))
    go_ret
    exact ⟨rfl, by (repeat' (first | exact Ext.refl _ | assumption | refine Ext.alloc ?_ _ | refine Ext.drew ?_ | refine Ext.drewN ?_ _ | refine Ext.set ?_ (by first | exact Nat.le_refl _ | exact le1 _ | exact le2 _ | exact le3 _ | exact le4 _ | exact le5 _ | exact le6 _) _ | refine Ext.trans ?_ (by assumption)))⟩
  · rw [HG.out (and_ok HH.out hz)]
    clear HB HG hz HH
    go_enter Tryz.func38, Tryz.ntmps38
    go_wp2_with (first | (go_at_call 60; (with_reducible refine (M.out _ (by (repeat' (first | exact Ext.refl _ | assumption | refine Ext.alloc ?_ _ | refine Ext.drew ?_ | refine Ext.drewN ?_ _ | refine Ext.set ?_ (by first | exact Nat.le_refl _ | exact le1 _ | exact le2 _ | exact le3 _ | exact le4 _ | exact le5 _ | exact le6 _) _ | refine Ext.trans ?_ (by assumption))))).mono ?_); rintro e w1 ⟨rfl, hb1⟩; obtain ⟨hc, hf⟩ := bcell hb1) | (go_at_call 62; refine (N.out _).mono ?_; rintro e w2 ⟨rfl, hb2⟩; replace hb2 := Ext.trans hb1 hb2; clear hb1 hc hf; obtain ⟨hc, hf⟩ := bcell hb2) | (go_at_call 60; (with_reducible refine (U.out _ (by (repeat' (first | exact Ext.refl _ | assumption | refine Ext.alloc ?_ _ | refine Ext.drew ?_ | refine Ext.drewN ?_ _ | refine Ext.set ?_ (by first | exact Nat.le_refl _ | exact le1 _ | exact le2 _ | exact le3 _ | exact le4 _ | exact le5 _ | exact le6 _) _ | refine Ext.trans ?_ (by assumption))))).mono ?_); rintro e w3 ⟨rfl, hb3⟩))
    go_ret
    exact ⟨rfl, by (repeat' (first | exact Ext.refl _ | assumption | refine Ext.alloc ?_ _ | refine Ext.drew ?_ | refine Ext.drewN ?_ _ | refine Ext.set ?_ (by first | exact Nat.le_refl _ | exact le1 _ | exact le2 _ | exact le3 _ | exact le4 _ | exact le5 _ | exact le6 _) _ | refine Ext.trans ?_ (by assumption)))⟩
end Go.Proofs.YtcbjecpfijogcaaGreat
