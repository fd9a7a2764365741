/- Contract: allowed, the definition of which minutes a list of rules allows. -/
import Derived.Test.YtaomlmkcifpfkaaPDay2
import Derived.Test.YtaomlmkcifpfkaaPCheck
namespace Go.Proofs.Ytaomlmkcifpfkaa
open Go.RowKit

def allowedB (l : List PRule) (m : Int) : Bool := l.all fun r => allowsB r m

set_option maxRecDepth 100000 in
set_option maxHeartbeats 1600000 in
theorem RAllowed_c (v : Value) (l : List PRule) (m : Int) (w : World) (hs : Sl 11 RRule w v l) (hv : ∀ r ∈ l, ruleB r = true) (hd : 0 ≤ m) (hd2 : m ≤ 9223372036854775807) :
    Calls Try.prog 72 #[v, .int .i64 m] w fun e w' => e = .returned (.bool (allowedB l m)) ∧ Ext w w' := by
  obtain ⟨A, cap, rfl, hl, hl2⟩ := hs.shape
  obtain ⟨ra, hra⟩ : ∃ z, (l.all fun r => allowsB r m) = z := ⟨_, rfl⟩
  have hal : allowedB l m = ra := hra
  rw [hal]
  have HRA := Lib.hid hra
  have HS := Lib.hid hs
  have HV := Lib.hid hv
  clear hra hal hs hv
  go_enter Try.func72, Try.ntmps72
  go_wp2_with fail
  go_loopw [5] (fun i wr => ∃ k : Nat, k ≤ l.length ∧ i = .int .i64 k ∧ (l.take k).all (fun r => allowsB r m) = true ∧ Ext w wr) (fun i _ => l.length - (intOf i).toNat)
  case atStart => exact ⟨0, by omega, rfl, by simp, Ext.refl _⟩
  case round =>
    obtain ⟨k, hk, rfl, ha, hb⟩ := hrel
    have HA := Lib.hid ha
    clear ha
    by_cases hlt : k < l.length
    · obtain ⟨x, hx⟩ := some_of_lt hlt
      obtain ⟨b, off, cs, rfl, hn, ⟨vr, vw, vc, rfl, hr⟩, hc⟩ := (HS.out.ext RRule.stable hb).at hx
      have HR := fun w' (h : Ext wr w') => Allows_c vr vw vc x m w' (hr.ext h) (HV.out x (List.mem_of_getElem? hx)) hd hd2
      have k0 := hc 0 _ rfl
      have k1 := hc 1 _ rfl
      have k2 := hc 2 _ rfl
      have k3 := hc 3 _ rfl
      have k4 := hc 4 _ rfl
      have k5 := hc 5 _ rfl
      have k6 := hc 6 _ rfl
      have k7 := hc 7 _ rfl
      have k8 := hc 8 _ rfl
      have k9 := hc 9 _ rfl
      have k10 := hc 10 _ rfl
      simp only [Nat.add_zero] at k0
      have HX := Lib.hid hx
      obtain ⟨z, hz⟩ : ∃ z, allowsB x m = z := ⟨_, rfl⟩
      rw [hz] at HR
      have HZ := Lib.hid hz
      replace HR := Lib.hid HR
      clear hc hn hx hz hr
      cases z
      · obtain rfl : ra = false := (HRA.out).symm.trans (all_no HX.out HZ.out)
        go_wp2_with (go_at_call 59; refine (HR.out _ (by (repeat' (first | exact Ext.refl _ | assumption | refine Ext.alloc ?_ _ | refine Ext.drew ?_ | refine Ext.drewN ?_ _ | refine Ext.set ?_ (by first | exact Nat.le_refl _ | exact le1 _ | exact le2 _ | exact le3 _ | exact le4 _ | exact le5 _ | exact le6 _) _ | refine Ext.trans ?_ (by assumption))))).mono ?_; rintro e w2 ⟨rfl, hb2⟩)
        go_ret
        exact ⟨by simp, by (repeat' (first | exact Ext.refl _ | assumption | refine Ext.alloc ?_ _ | refine Ext.drew ?_ | refine Ext.drewN ?_ _ | refine Ext.set ?_ (by first | exact Nat.le_refl _ | exact le1 _ | exact le2 _ | exact le3 _ | exact le4 _ | exact le5 _ | exact le6 _) _ | refine Ext.trans ?_ (by assumption)))⟩
      · go_wp2_with (go_at_call 59; refine (HR.out _ (by (repeat' (first | exact Ext.refl _ | assumption | refine Ext.alloc ?_ _ | refine Ext.drew ?_ | refine Ext.drewN ?_ _ | refine Ext.set ?_ (by first | exact Nat.le_refl _ | exact le1 _ | exact le2 _ | exact le3 _ | exact le4 _ | exact le5 _ | exact le6 _) _ | refine Ext.trans ?_ (by assumption))))).mono ?_; rintro e w2 ⟨rfl, hb2⟩)
        go_roundw
        case rel => exact ⟨k + 1, by omega, by go_num, all_take HX.out HA.out HZ.out, by (repeat' (first | exact Ext.refl _ | assumption | refine Ext.alloc ?_ _ | refine Ext.drew ?_ | refine Ext.drewN ?_ _ | refine Ext.set ?_ (by first | exact Nat.le_refl _ | exact le1 _ | exact le2 _ | exact le3 _ | exact le4 _ | exact le5 _ | exact le6 _) _ | refine Ext.trans ?_ (by assumption)))⟩
        case measure => simp [intOf]; omega
    · have hra : ra = true := HRA.out.symm.trans (all_end HA.out (by omega))
      subst hra
      go_wp2
      go_ret
      exact ⟨by simp, hb⟩
end Go.Proofs.Ytaomlmkcifpfkaa
