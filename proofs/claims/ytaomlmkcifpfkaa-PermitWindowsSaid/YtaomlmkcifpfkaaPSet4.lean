/- Contracts: the days that all rules of a set have. -/
import Derived.Test.YtaomlmkcifpfkaaPSet3
namespace Go.Proofs.Ytaomlmkcifpfkaa
open Go.RowKit

def daysN (l : List PRule) : Int := l.foldl (fun a r => bits .and .i64 a r.days) 127
theorem daysN_succ {l : List PRule} {k : Nat} {x : PRule} (h : l[k]? = some x) : daysN (l.take (k + 1)) = bits .and .i64 (daysN (l.take k)) x.days := by
  unfold daysN
  rw [List.take_add_one, h]
  simp

set_option maxRecDepth 100000 in
set_option maxHeartbeats 1600000 in
theorem days_c (v : Value) (l : List PRule) (w : World) (hs : Sl 11 RRule w v l) :
    Calls Try.prog 95 #[v] w fun e w' => e = .returned (.bool (daysN l == 0)) ∧ Ext w w' := by
  obtain ⟨A, cap, rfl, hl, hl2⟩ := hs.shape
  have HS := Lib.hid hs
  clear hs
  go_enter Try.func95, Try.ntmps95
  go_wp2_with fail
  go_loopw [3, 5, 8] (fun d _ i wr => ∃ k : Nat, k ≤ l.length ∧ i = .int .i64 k ∧ d = .int .i64 (daysN (l.take k)) ∧ Ext w wr) (fun _ _ i _ => l.length - (intOf i).toNat)
  case atStart => exact ⟨0, by omega, rfl, rfl, Ext.refl _⟩
  case round =>
    obtain ⟨k, hk, rfl, rfl, hb⟩ := hrel
    by_cases hlt : k < l.length
    · obtain ⟨x, hx⟩ := some_of_lt hlt
      obtain ⟨b, off, cs, rfl, hn, ⟨vr, vw, vc, rfl, hr⟩, hc⟩ := (HS.out.ext RRule.stable hb).at hx
      obtain ⟨hr1, hw1, hc1⟩ := hr
      obtain ⟨Ar, cr, rfl, lr, lr2⟩ := hr1.shape
      obtain ⟨Aw, cw, rfl, lw, lw2⟩ := hw1.shape
      obtain ⟨Ac, cc, rfl, lc, lc2⟩ := hc1.shape
      have k0 := hc 0 _ rfl
      have k1 := hc 1 _ rfl
      have k2 := hc 2 _ rfl
      have k3 := hc 3 _ rfl
      have k4 := hc 4 _ rfl
      have k5 := hc 5 _ rfl
      have k6 := hc 6 _ rfl
      have k7 := hc 7 _ rfl
      have k8 := hc 8 _ rfl
      have k9 := hc 9 _ rfl
      have k10 := hc 10 _ rfl
      simp only [Nat.add_zero] at k0
      have HN := Lib.hid (daysN_succ hx)
      clear hc hn hx hr1 hw1 hc1
      generalize daysN (l.take k) = D at *
      go_wp2_with fail
      go_roundw
      case rel => exact ⟨k + 1, by omega, by go_num, by rw [HN.out], by (repeat' (first | exact Ext.refl _ | assumption | refine Ext.alloc ?_ _ | refine Ext.drew ?_ | refine Ext.drewN ?_ _ | refine Ext.set ?_ (by first | exact Nat.le_refl _ | exact le1 _ | exact le2 _ | exact le3 _ | exact le4 _ | exact le5 _ | exact le6 _) _ | refine Ext.trans ?_ (by assumption)))⟩
      case measure => simp [intOf]; omega
    · obtain rfl : k = l.length := by omega
      rw [List.take_length]
      go_wp2
      go_ret
      exact ⟨rfl, hb⟩
end Go.Proofs.Ytaomlmkcifpfkaa
