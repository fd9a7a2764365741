/- Contracts: when an authority is valid. -/
import Derived.Test.YtaomlmkcifpfkaaPRule2
namespace Go.Proofs.Ytaomlmkcifpfkaa
open Go.RowKit

def authE (a : PAuth) : Int := if 24 < a.rules.length then 6 else if (nameB a.name && inB a.fee 0 1073741824 && inB a.notice 0 1048576 && a.rules.all ruleB) = true then 0 else 2
theorem authE_many {a : PAuth} (h : 24 < a.rules.length) : authE a = 6 := by simp [authE, h]
theorem authE_few {a : PAuth} (h : ¬ 24 < a.rules.length) : authE a = if (nameB a.name && inB a.fee 0 1073741824 && inB a.notice 0 1048576 && a.rules.all ruleB) = true then 0 else 2 := by simp only [authE, h, if_false]

set_option maxRecDepth 100000 in
set_option maxHeartbeats 800000 in
theorem Check1_c (vr vw vc : Value) (r : PRule) (w : World) (hs : RSls w vr vw vc r) :
    Calls Try.prog 83 #[.agg #[.string r.name, vr, vw, .int .i64 r.h0, .int .i64 r.h1, .int .i64 r.days, .int .i64 r.s0, .int .i64 r.s1, .bool r.forbid, vc, .int .i64 r.cost]] w fun e w' => e = .returned (.bool (!ruleB r)) ∧ Ext w w' := by
  have HN := fun w' (h : Ext w w') => validRule_c vr vw vc r w' (hs.ext h)
  generalize ruleB r = n at *
  replace HN := Lib.hid HN
  clear hs
  cases n
  all_goals
    go_enter Try.func83, Try.ntmps83
    go_wp2_with (go_at_call 84; refine (HN.out _ (by (repeat' (first | exact Ext.refl _ | assumption | refine Ext.alloc ?_ _ | refine Ext.drew ?_ | refine Ext.drewN ?_ _ | refine Ext.set ?_ (by first | exact Nat.le_refl _ | exact le1 _ | exact le2 _ | exact le3 _ | exact le4 _ | exact le5 _ | exact le6 _) _ | refine Ext.trans ?_ (by assumption))))).mono ?_; rintro e w1 ⟨rfl, hb1⟩)
    go_ret
    exact ⟨rfl, by (repeat' (first | exact Ext.refl _ | assumption | refine Ext.alloc ?_ _ | refine Ext.drew ?_ | refine Ext.drewN ?_ _ | refine Ext.set ?_ (by first | exact Nat.le_refl _ | exact le1 _ | exact le2 _ | exact le3 _ | exact le4 _ | exact le5 _ | exact le6 _) _ | refine Ext.trans ?_ (by assumption)))⟩
theorem rules_c (v : Value) (l : List PRule) (w : World) (hs : Sl 11 RRule w v l) :
    Calls Try.prog 82 #[v, .func (.func 83) #[] #[]] w fun e w' => e = .returned (.bool (!l.all ruleB)) ∧ Ext w w' := by
  rw [← any_not]
  refine ContainsFuncRule_c RRule.stable 83 #[] (enters_of Try.func83 (by kernel_rfl) rfl) _ v l w hs ?_
  rintro W cs x _ ⟨vr, vw, vc, rfl, hx⟩ _
  exact Check1_c vr vw vc x W hx

set_option maxRecDepth 100000 in
set_option maxHeartbeats 1600000 in
theorem Check_c (v : Value) (a : PAuth) (w : World) (hs : Sl 11 RRule w v a.rules) :
    Calls Try.prog 50 #[.agg #[.string a.name, .int .i64 a.fee, .int .i64 a.notice, v]] w fun e w' => e = .returned (.int .i64 (authE a)) ∧ Ext w w' := by
  by_cases hm : 24 < a.rules.length
  · rw [authE_many hm]
    obtain ⟨A, cap, rfl, hl, hcap⟩ := hs.shape
    clear hs
    go_enter Try.func50, Try.ntmps50
    go_wp2
    go_ret
    exact ⟨rfl, by (repeat' (first | exact Ext.refl _ | assumption | refine Ext.alloc ?_ _ | refine Ext.drew ?_ | refine Ext.drewN ?_ _ | refine Ext.set ?_ (by first | exact Nat.le_refl _ | exact le1 _ | exact le2 _ | exact le3 _ | exact le4 _ | exact le5 _ | exact le6 _) _ | refine Ext.trans ?_ (by assumption)))⟩
  · rw [authE_few hm]
    have HCs := fun w' (h : Ext w w') => rules_c v a.rules w' (hs.ext RRule.stable h)
    obtain ⟨A, cap, rfl, hl, hcap⟩ := hs.shape
    obtain ⟨name, fee, notice, rules⟩ := a
    simp only at *
    have HN := fun w => validName_c name w
    have B1 := fun w => between_c fee 0 1073741824 w
    have B2 := fun w => between_c notice 0 1048576 w
    generalize nameB name = n at *
    generalize inB fee 0 1073741824 = q1 at *
    generalize inB notice 0 1048576 = q2 at *
    generalize rules.all ruleB = ra at *
    replace HN := Lib.hid HN
    replace B1 := Lib.hid B1
    replace B2 := Lib.hid B2
    replace HCs := Lib.hid HCs
    clear hs
    cases n
    · go_enter Try.func50, Try.ntmps50
      go_wp2_with (go_at_call 53; refine (HN.out _).mono ?_; rintro e w1 ⟨rfl, hb1⟩; obtain ⟨hc, hf⟩ := bcell hb1)
      go_ret
      exact ⟨by simp, by (repeat' (first | exact Ext.refl _ | assumption | refine Ext.alloc ?_ _ | refine Ext.drew ?_ | refine Ext.drewN ?_ _ | refine Ext.set ?_ (by first | exact Nat.le_refl _ | exact le1 _ | exact le2 _ | exact le3 _ | exact le4 _ | exact le5 _ | exact le6 _) _ | refine Ext.trans ?_ (by assumption)))⟩
    cases q1
    · go_enter Try.func50, Try.ntmps50
      go_wp2_with (first | (go_at_call 53; refine (HN.out _).mono ?_; rintro e w1 ⟨rfl, hb1⟩; obtain ⟨hc, hf⟩ := bcell hb1) | (go_at_call 52; (with_reducible refine (B1.out _).mono ?_); rintro e w2 ⟨rfl, rfl⟩))
      go_ret
      exact ⟨by simp, by (repeat' (first | exact Ext.refl _ | assumption | refine Ext.alloc ?_ _ | refine Ext.drew ?_ | refine Ext.drewN ?_ _ | refine Ext.set ?_ (by first | exact Nat.le_refl _ | exact le1 _ | exact le2 _ | exact le3 _ | exact le4 _ | exact le5 _ | exact le6 _) _ | refine Ext.trans ?_ (by assumption)))⟩
    cases q2
    · go_enter Try.func50, Try.ntmps50
      go_wp2_with (first | (go_at_call 53; refine (HN.out _).mono ?_; rintro e w1 ⟨rfl, hb1⟩; obtain ⟨hc, hf⟩ := bcell hb1) | (go_at_call 52; (with_reducible refine (B1.out _).mono ?_); rintro e w2 ⟨rfl, rfl⟩) | (go_at_call 52; (with_reducible refine (B2.out _).mono ?_); rintro e w2 ⟨rfl, rfl⟩))
      go_ret
      exact ⟨by simp, by (repeat' (first | exact Ext.refl _ | assumption | refine Ext.alloc ?_ _ | refine Ext.drew ?_ | refine Ext.drewN ?_ _ | refine Ext.set ?_ (by first | exact Nat.le_refl _ | exact le1 _ | exact le2 _ | exact le3 _ | exact le4 _ | exact le5 _ | exact le6 _) _ | refine Ext.trans ?_ (by assumption)))⟩
    cases ra
    all_goals
      go_enter Try.func50, Try.ntmps50
      go_wp2_with (first | (go_at_call 53; refine (HN.out _).mono ?_; rintro e w1 ⟨rfl, hb1⟩; obtain ⟨hc, hf⟩ := bcell hb1) | (go_at_call 52; (with_reducible refine (B1.out _).mono ?_); rintro e w2 ⟨rfl, rfl⟩) | (go_at_call 52; (with_reducible refine (B2.out _).mono ?_); rintro e w2 ⟨rfl, rfl⟩) | (go_at_call 82; refine (HCs.out _ (by (repeat' (first | exact Ext.refl _ | assumption | refine Ext.alloc ?_ _ | refine Ext.drew ?_ | refine Ext.drewN ?_ _ | refine Ext.set ?_ (by first | exact Nat.le_refl _ | exact le1 _ | exact le2 _ | exact le3 _ | exact le4 _ | exact le5 _ | exact le6 _) _ | refine Ext.trans ?_ (by assumption))))).mono ?_; rintro e w3 ⟨rfl, hb3⟩))
      go_ret
      exact ⟨by simp, by (repeat' (first | exact Ext.refl _ | assumption | refine Ext.alloc ?_ _ | refine Ext.drew ?_ | refine Ext.drewN ?_ _ | refine Ext.set ?_ (by first | exact Nat.le_refl _ | exact le1 _ | exact le2 _ | exact le3 _ | exact le4 _ | exact le5 _ | exact le6 _) _ | refine Ext.trans ?_ (by assumption)))⟩

set_option maxRecDepth 100000 in
set_option maxHeartbeats 1600000 in
theorem RCheck_c (v : Value) (a : PAuth) (w : World) (hs : Sl 11 RRule w v a.rules) :
    Calls Try.prog 51 #[.agg #[.string a.name, .int .i64 a.fee, .int .i64 a.notice, v]] w fun e w' => e = .returned (.int .i64 (authE a)) ∧ Ext w w' := by
  by_cases hm : 24 < a.rules.length
  · rw [authE_many hm]
    obtain ⟨A, cap, rfl, hl, hcap⟩ := hs.shape
    clear hs
    go_enter Try.func51, Try.ntmps51
    go_wp2
    go_ret
    exact ⟨rfl, by (repeat' (first | exact Ext.refl _ | assumption | refine Ext.alloc ?_ _ | refine Ext.drew ?_ | refine Ext.drewN ?_ _ | refine Ext.set ?_ (by first | exact Nat.le_refl _ | exact le1 _ | exact le2 _ | exact le3 _ | exact le4 _ | exact le5 _ | exact le6 _) _ | refine Ext.trans ?_ (by assumption)))⟩
  · rw [authE_few hm]
    obtain ⟨A, cap, rfl, hl, hcap⟩ := hs.shape
    obtain ⟨name, fee, notice, rules⟩ := a
    simp only at *
    have HN := fun w => Named_c name w
    have B1 := fun w => within_c fee 0 1073741824 w
    have B2 := fun w => within_c notice 0 1048576 w
    generalize nameB name = n at *
    generalize inB fee 0 1073741824 = q1 at *
    generalize inB notice 0 1048576 = q2 at *
    obtain ⟨ra, hra⟩ : ∃ b, rules.all ruleB = b := ⟨_, rfl⟩
    rw [hra]
    have HRA := Lib.hid hra
    have HS := Lib.hid hs
    replace HN := Lib.hid HN
    replace B1 := Lib.hid B1
    replace B2 := Lib.hid B2
    clear hs hra
    cases n
    · go_enter Try.func51, Try.ntmps51
      go_wp2_with (go_at_call 55; refine (HN.out _).mono ?_; rintro e w1 ⟨rfl, rfl⟩)
      go_ret
      exact ⟨by simp, by (repeat' (first | exact Ext.refl _ | assumption | refine Ext.alloc ?_ _ | refine Ext.drew ?_ | refine Ext.drewN ?_ _ | refine Ext.set ?_ (by first | exact Nat.le_refl _ | exact le1 _ | exact le2 _ | exact le3 _ | exact le4 _ | exact le5 _ | exact le6 _) _ | refine Ext.trans ?_ (by assumption)))⟩
    cases q1
    · go_enter Try.func51, Try.ntmps51
      go_wp2_with (first | (go_at_call 55; refine (HN.out _).mono ?_; rintro e w1 ⟨rfl, rfl⟩) | (go_at_call 54; (with_reducible refine (B1.out _).mono ?_); rintro e w2 ⟨rfl, rfl⟩))
      go_ret
      exact ⟨by simp, by (repeat' (first | exact Ext.refl _ | assumption | refine Ext.alloc ?_ _ | refine Ext.drew ?_ | refine Ext.drewN ?_ _ | refine Ext.set ?_ (by first | exact Nat.le_refl _ | exact le1 _ | exact le2 _ | exact le3 _ | exact le4 _ | exact le5 _ | exact le6 _) _ | refine Ext.trans ?_ (by assumption)))⟩
    cases q2
    · go_enter Try.func51, Try.ntmps51
      go_wp2_with (first | (go_at_call 55; refine (HN.out _).mono ?_; rintro e w1 ⟨rfl, rfl⟩) | (go_at_call 54; (with_reducible refine (B1.out _).mono ?_); rintro e w2 ⟨rfl, rfl⟩) | (go_at_call 54; (with_reducible refine (B2.out _).mono ?_); rintro e w2 ⟨rfl, rfl⟩))
      go_ret
      exact ⟨by simp, by (repeat' (first | exact Ext.refl _ | assumption | refine Ext.alloc ?_ _ | refine Ext.drew ?_ | refine Ext.drewN ?_ _ | refine Ext.set ?_ (by first | exact Nat.le_refl _ | exact le1 _ | exact le2 _ | exact le3 _ | exact le4 _ | exact le5 _ | exact le6 _) _ | refine Ext.trans ?_ (by assumption)))⟩
    go_enter Try.func51, Try.ntmps51
    go_wp2_with (first | (go_at_call 55; refine (HN.out _).mono ?_; rintro e w1 ⟨rfl, rfl⟩) | (go_at_call 54; (with_reducible refine (B1.out _).mono ?_); rintro e w2 ⟨rfl, rfl⟩) | (go_at_call 54; (with_reducible refine (B2.out _).mono ?_); rintro e w2 ⟨rfl, rfl⟩))
    have E1 : Ext w (w.alloc (.cells #[.string name, .int .i64 fee, .int .i64 notice, .slice A rules.length cap] 64)) := by (repeat' (first | exact Ext.refl _ | assumption | refine Ext.alloc ?_ _ | refine Ext.drew ?_ | refine Ext.drewN ?_ _ | refine Ext.set ?_ (by first | exact Nat.le_refl _ | exact le1 _ | exact le2 _ | exact le3 _ | exact le4 _ | exact le5 _ | exact le6 _) _ | refine Ext.trans ?_ (by assumption)))
    have D3 : (w.alloc (.cells #[.string name, .int .i64 fee, .int .i64 notice, .slice A rules.length cap] 64)).cell? ⟨w.heap.size, 3, none⟩ = some (.slice A rules.length cap) := by go_simp
    generalize w.alloc (.cells #[.string name, .int .i64 fee, .int .i64 notice, .slice A rules.length cap] 64) = W at *
    have HD := Lib.hid D3
    clear D3 HN B1 B2
    go_loopw [3] (fun i wr => ∃ k : Nat, k ≤ rules.length ∧ i = .int .i64 k ∧ (rules.take k).all ruleB = true ∧ Ext W wr) (fun i _ => rules.length - (intOf i).toNat)
    case atStart => exact ⟨0, by omega, rfl, by simp, Ext.refl _⟩
    case round =>
      obtain ⟨k, hk, rfl, ha, hb⟩ := hrel
      have HA := Lib.hid ha
      have d3 := Ext.cell hb HD.out
      clear ha
      by_cases hlt : k < rules.length
      · obtain ⟨x, hx⟩ := some_of_lt hlt
        obtain ⟨b, off, cs, rfl, hn, ⟨vr, vw, vc, rfl, hr⟩, hc⟩ := (HS.out.ext RRule.stable (E1.trans hb)).at hx
        have HR := fun w' (h : Ext wr w') => rule_c vr vw vc x w' (hr.ext h)
        have k0 := hc 0 _ rfl
        have k1 := hc 1 _ rfl
        have k2 := hc 2 _ rfl
        have k3 := hc 3 _ rfl
        have k4 := hc 4 _ rfl
        have k5 := hc 5 _ rfl
        have k6 := hc 6 _ rfl
        have k7 := hc 7 _ rfl
        have k8 := hc 8 _ rfl
        have k9 := hc 9 _ rfl
        have k10 := hc 10 _ rfl
        simp only [Nat.add_zero] at k0
        have HX := Lib.hid hx
        obtain ⟨z, hz⟩ : ∃ z, ruleB x = z := ⟨_, rfl⟩
        rw [hz] at HR
        have HZ := Lib.hid hz
        replace HR := Lib.hid HR
        clear hc hn hx hz hr
        cases z
        · obtain rfl : ra = false := (HRA.out).symm.trans (all_no HX.out HZ.out)
          go_wp2_with (go_at_call 85; refine (HR.out _ (by (repeat' (first | exact Ext.refl _ | assumption | refine Ext.alloc ?_ _ | refine Ext.drew ?_ | refine Ext.drewN ?_ _ | refine Ext.set ?_ (by first | exact Nat.le_refl _ | exact le1 _ | exact le2 _ | exact le3 _ | exact le4 _ | exact le5 _ | exact le6 _) _ | refine Ext.trans ?_ (by assumption))))).mono ?_; rintro e w2 ⟨rfl, hb2⟩)
          go_ret
          exact ⟨by simp, by (repeat' (first | exact Ext.refl _ | assumption | refine Ext.alloc ?_ _ | refine Ext.drew ?_ | refine Ext.drewN ?_ _ | refine Ext.set ?_ (by first | exact Nat.le_refl _ | exact le1 _ | exact le2 _ | exact le3 _ | exact le4 _ | exact le5 _ | exact le6 _) _ | refine Ext.trans ?_ (by assumption)))⟩
        · go_wp2_with (go_at_call 85; refine (HR.out _ (by (repeat' (first | exact Ext.refl _ | assumption | refine Ext.alloc ?_ _ | refine Ext.drew ?_ | refine Ext.drewN ?_ _ | refine Ext.set ?_ (by first | exact Nat.le_refl _ | exact le1 _ | exact le2 _ | exact le3 _ | exact le4 _ | exact le5 _ | exact le6 _) _ | refine Ext.trans ?_ (by assumption))))).mono ?_; rintro e w2 ⟨rfl, hb2⟩)
          go_roundw
          case rel => exact ⟨k + 1, by omega, by go_num, all_take HX.out HA.out HZ.out, by (repeat' (first | exact Ext.refl _ | assumption | refine Ext.alloc ?_ _ | refine Ext.drew ?_ | refine Ext.drewN ?_ _ | refine Ext.set ?_ (by first | exact Nat.le_refl _ | exact le1 _ | exact le2 _ | exact le3 _ | exact le4 _ | exact le5 _ | exact le6 _) _ | refine Ext.trans ?_ (by assumption)))⟩
          case measure => simp [intOf]; omega
      · have hra : ra = true := HRA.out.symm.trans (all_end HA.out (by omega))
        subst hra
        go_wp2
        go_ret
        exact ⟨by simp, E1.trans hb⟩
end Go.Proofs.Ytaomlmkcifpfkaa
