
/- Contracts: the law's 'long'. -/
import Derived.Test.YtcbjecpfijogcaaGreatCCheck
namespace Go.Proofs.YtcbjecpfijogcaaGreat
open Go.RowKit

def longB (v : CVeh) : Bool := decide (20 < v.units.length) || (decide (100 < v.name.size) || v.units.any fun u => decide (40 < u.axles.length))
theorem longB_1 {v : CVeh} (h : (20 : Int) < (v.units.length : Int)) : longB v = true := by unfold longB; rw [decide_eq_true (by omega)]; rfl
theorem longB_2 {v : CVeh} (h : (100 : Int) < (v.name.size : Int)) : longB v = true := by unfold longB; rw [decide_eq_true (show 100 < v.name.size by omega)]; simp
theorem longB_3 {v : CVeh} (h1 : ¬ (20 : Int) < (v.units.length : Int)) (h2 : ¬ (100 : Int) < (v.name.size : Int)) : longB v = v.units.any fun u => decide (40 < u.axles.length) := by
  unfold longB; rw [decide_eq_false (show ¬ 20 < v.units.length by omega), decide_eq_false (show ¬ 100 < v.name.size by omega)]; rfl
set_option maxRecDepth 100000 in
set_option maxHeartbeats 1600000 in
theorem long_c (vu : Value) (v : CVeh) (w : World) (hs : Sl 11 RUnit w vu v.units) :
    Calls Tryz.prog 5 #[vehV v vu] w fun e w' => e = .returned (.bool (longB v)) ∧ Ext w w' := by
  unfold vehV
  obtain ⟨A, cap, rfl, hl, hl2⟩ := hs.shape
  have HS := Lib.hid hs
  clear hs
  by_cases b1 : (20 : Int) < (v.units.length : Int)
  · rw [longB_1 b1]
    go_enter Tryz.func5, Tryz.ntmps5
    go_wp2
    go_ret
    exact ⟨rfl, by (repeat' (first | exact Ext.refl _ | assumption | refine Ext.alloc ?_ _ | refine Ext.drew ?_ | refine Ext.drewN ?_ _ | refine Ext.set ?_ (by first | exact Nat.le_refl _ | exact le1 _ | exact le2 _ | exact le3 _ | exact le4 _ | exact le5 _ | exact le6 _) _ | refine Ext.trans ?_ (by assumption)))⟩
  by_cases b2 : (100 : Int) < (v.name.size : Int)
  · rw [longB_2 b2]
    go_enter Tryz.func5, Tryz.ntmps5
    go_wp2
    go_ret
    exact ⟨rfl, by (repeat' (first | exact Ext.refl _ | assumption | refine Ext.alloc ?_ _ | refine Ext.drew ?_ | refine Ext.drewN ?_ _ | refine Ext.set ?_ (by first | exact Nat.le_refl _ | exact le1 _ | exact le2 _ | exact le3 _ | exact le4 _ | exact le5 _ | exact le6 _) _ | refine Ext.trans ?_ (by assumption)))⟩
  have HM := Lib.hid (longB_3 b1 b2)
  generalize longB v = L at *
  go_enter Tryz.func5, Tryz.ntmps5
  go_wp2
  go_loop [3] (fun i => ∃ k : Nat, k ≤ v.units.length ∧ i = .int .i64 k ∧ (v.units.take k).any (fun u => decide (40 < u.axles.length)) = false) (fun i => v.units.length - (intOf i).toNat)
  case atStart => exact ⟨0, by omega, rfl, by simp⟩
  case round =>
    obtain ⟨k, hk, rfl, ha⟩ := hrel
    by_cases hlt : k < v.units.length
    · obtain ⟨u, hu⟩ := some_of_lt hlt
      obtain ⟨b, off, cs, rfl, _, ⟨v', rfl, hax⟩, hc⟩ := HS.out.at hu
      obtain ⟨A2, cap2, rfl, hl3, _⟩ := hax.shape
      have k10 := hc 10 _ rfl
      have hbl := lt_of_cell k10
      have j1 : (0 : Int) ≤ (k : Int) := by omega
      have j2 : (k : Int) < (v.units.length : Int) := by omega
      clear hc hax
      by_cases c1 : (40 : Int) < (u.axles.length : Int)
      · have HF := Lib.hid (HM.out.trans (any_yes hu (by simp; omega)))
        clear ha hu
        go_wp2
        go_ret
        exact ⟨ret_bool HF.out.symm, by (repeat' (first | exact Ext.refl _ | assumption | refine Ext.alloc ?_ _ | refine Ext.drew ?_ | refine Ext.drewN ?_ _ | refine Ext.set ?_ (by first | exact Nat.le_refl _ | exact le1 _ | exact le2 _ | exact le3 _ | exact le4 _ | exact le5 _ | exact le6 _) _ | refine Ext.trans ?_ (by assumption)))⟩
      · have HA := Lib.hid (any_take hu ha (by simp; omega))
        clear ha hu
        go_wp2
        go_round
        case rel => exact ⟨k + 1, by omega, by go_num, HA.out⟩
        case measure => simp [intOf]; omega
    · have HF := Lib.hid (HM.out.trans (any_end ha (by omega)))
      clear ha
      go_wp2
      go_ret
      exact ⟨ret_bool HF.out.symm, by (repeat' (first | exact Ext.refl _ | assumption | refine Ext.alloc ?_ _ | refine Ext.drew ?_ | refine Ext.drewN ?_ _ | refine Ext.set ?_ (by first | exact Nat.le_refl _ | exact le1 _ | exact le2 _ | exact le3 _ | exact le4 _ | exact le5 _ | exact le6 _) _ | refine Ext.trans ?_ (by assumption)))⟩
end Go.Proofs.YtcbjecpfijogcaaGreat
