
/- Contracts: when a vehicle is valid, by the reference. -/
import Derived.Test.YtcbjecpfijogcaaGreatCCheck
namespace Go.Proofs.YtcbjecpfijogcaaGreat
open Go.RowKit

set_option maxRecDepth 100000 in
set_option maxHeartbeats 4000000 in
theorem RVCheck_c (vu : Value) (v : CVeh) (w : World) (hs : Sl 11 RUnit w vu v.units) :
    Calls Tryz.prog 37 #[vehV v vu] w fun e w' => e = .returned (.int .i64 (vehE v)) ∧ Ext w w' := by
  unfold vehV
  have N := fun w => Named_c v.name w
  obtain ⟨A, cap, rfl, hl, hl2⟩ := hs.shape
  have HS := Lib.hid hs
  clear hs
  by_cases b1 : (12 : Int) < (v.units.length : Int)
  · rw [vehE_many (manyB_1 b1)]
    clear N
    go_enter Tryz.func37, Tryz.ntmps37
    go_wp2
    go_ret
    exact ⟨rfl, by (repeat' (first | exact Ext.refl _ | assumption | refine Ext.alloc ?_ _ | refine Ext.drew ?_ | refine Ext.drewN ?_ _ | refine Ext.set ?_ (by first | exact Nat.le_refl _ | exact le1 _ | exact le2 _ | exact le3 _ | exact le4 _ | exact le5 _ | exact le6 _) _ | refine Ext.trans ?_ (by assumption)))⟩
  have hm := manyB_2 b1
  have HM := Lib.hid hm
  clear hm
  obtain ⟨n, hn⟩ : ∃ n, nameB v.name = n := ⟨_, rfl⟩
  rw [hn] at N
  have HN := Lib.hid hn
  replace N := Lib.hid N
  clear hn
  obtain ⟨E, hE⟩ : ∃ E, vehE v = E := ⟨_, rfl⟩
  rw [hE]
  have HE := Lib.hid hE
  clear hE
  go_enter Tryz.func37, Tryz.ntmps37
  go_wp2
  go_loop [3] (fun i => ∃ k : Nat, k ≤ v.units.length ∧ i = .int .i64 k ∧ (v.units.take k).any (fun u => decide (24 < u.axles.length)) = false) (fun i => v.units.length - (intOf i).toNat)
  case atStart => exact ⟨0, by omega, rfl, by simp⟩
  case round =>
    obtain ⟨k, hk, rfl, ha⟩ := hrel
    by_cases hlt : k < v.units.length
    · obtain ⟨u, hu⟩ := some_of_lt hlt
      obtain ⟨b, off, cs, rfl, _, ⟨v', rfl, hax⟩, hc⟩ := HS.out.at hu
      obtain ⟨A2, cap2, rfl, hl3, _⟩ := hax.shape
      have k10 := hc 10 _ rfl
      have hbl := lt_of_cell k10
      have j1 : (0 : Int) ≤ (k : Int) := by omega
      have j2 : (k : Int) < (v.units.length : Int) := by omega
      clear hc hax
      by_cases c1 : (24 : Int) < (u.axles.length : Int)
      · have HF := Lib.hid (HE.out.symm.trans (vehE_many (HM.out.trans (any_yes hu (by simp; omega)))))
        clear ha hu
        go_wp2
        go_ret
        exact ⟨ret_int HF.out.symm, by (repeat' (first | exact Ext.refl _ | assumption | refine Ext.alloc ?_ _ | refine Ext.drew ?_ | refine Ext.drewN ?_ _ | refine Ext.set ?_ (by first | exact Nat.le_refl _ | exact le1 _ | exact le2 _ | exact le3 _ | exact le4 _ | exact le5 _ | exact le6 _) _ | refine Ext.trans ?_ (by assumption)))⟩
      · have HA := Lib.hid (any_take hu ha (by simp; omega))
        clear ha hu
        go_wp2
        go_round
        case rel => exact ⟨k + 1, by omega, by go_num, HA.out⟩
        case measure => simp [intOf]; omega
    · have hm : manyB v = false := HM.out.trans (any_end ha (by omega))
      have HB := Lib.hid (fun h2 => HE.out.symm.trans (vehE_bad (v := v) hm h2))
      have HG := Lib.hid (fun h2 => HE.out.symm.trans (vehE_ok (v := v) hm h2))
      clear hm ha HM
      cases n
      · have HF := Lib.hid (HB.out (and_no1 (head_name HN.out)))
        clear HB HG HN
        go_wp2_with (go_at_call 58; refine (N.out _).mono ?_; rintro e w2 ⟨rfl, rfl⟩)
        go_ret
        exact ⟨ret_int HF.out.symm, by (repeat' (first | exact Ext.refl _ | assumption | refine Ext.alloc ?_ _ | refine Ext.drew ?_ | refine Ext.drewN ?_ _ | refine Ext.set ?_ (by first | exact Nat.le_refl _ | exact le1 _ | exact le2 _ | exact le3 _ | exact le4 _ | exact le5 _ | exact le6 _) _ | refine Ext.trans ?_ (by assumption)))⟩
      by_cases b2 : v.units.length = 0
      · have HF := Lib.hid (HB.out (and_no1 (head_len b2)))
        have b3 := List.eq_nil_of_length_eq_zero b2
        clear HB HG HN HE
        generalize v.units = us at *
        subst b3
        clear HS hl hl2 b1 b2
        simp only [List.length_nil]
        go_wp2_with (go_at_call 58; refine (N.out _).mono ?_; rintro e w2 ⟨rfl, rfl⟩)
        go_ret
        exact ⟨ret_int HF.out.symm, by (repeat' (first | exact Ext.refl _ | assumption | refine Ext.alloc ?_ _ | refine Ext.drew ?_ | refine Ext.drewN ?_ _ | refine Ext.set ?_ (by first | exact Nat.le_refl _ | exact le1 _ | exact le2 _ | exact le3 _ | exact le4 _ | exact le5 _ | exact le6 _) _ | refine Ext.trans ?_ (by assumption)))⟩
      have b4 : ¬ v.units = [] := fun h => b2 (by rw [h]; rfl)
      have b5 : ¬ (v.units.length : Int) < 1 := by omega
      obtain ⟨u, hu⟩ := some_of_lt (show 0 < v.units.length by omega)
      have hk0 : kind0 v = u.kind := by
        unfold kind0
        cases h : v.units with
        | nil => exact absurd h b4
        | cons x xs => rw [h] at hu; simp only [List.getElem?_cons_zero, Option.some.injEq] at hu; rw [hu]
      obtain ⟨b, off, cs, rfl, _, ⟨v', rfl, _⟩, hc⟩ := HS.out.at hu
      have k0 := hc 0 _ rfl
      simp only [Nat.add_zero, Nat.zero_mul] at k0
      have hbl := lt_of_cell k0
      have j1 : (0 : Int) < (v.units.length : Int) := by omega
      clear hc hu
      by_cases b6 : u.kind = 0
      case neg =>
        have HF := Lib.hid (HB.out (and_no1 (head_kind (by rw [hk0]; exact b6))))
        clear HB HG HN hk0
        generalize u.kind = kd at *
        go_wp2_with (go_at_call 58; refine (N.out _).mono ?_; rintro e w2 ⟨rfl, rfl⟩)
        go_ret
        exact ⟨ret_int HF.out.symm, by (repeat' (first | exact Ext.refl _ | assumption | refine Ext.alloc ?_ _ | refine Ext.drew ?_ | refine Ext.drewN ?_ _ | refine Ext.set ?_ (by first | exact Nat.le_refl _ | exact le1 _ | exact le2 _ | exact le3 _ | exact le4 _ | exact le5 _ | exact le6 _) _ | refine Ext.trans ?_ (by assumption)))⟩
      rw [b6] at k0 hk0
      by_cases b7 : v.first < 0
      · have HF := Lib.hid (HB.out (and_no1 (head_at (by omega))))
        clear HB HG HN hk0
        go_wp2_with (go_at_call 58; refine (N.out _).mono ?_; rintro e w2 ⟨rfl, rfl⟩)
        go_ret
        exact ⟨ret_int HF.out.symm, by (repeat' (first | exact Ext.refl _ | assumption | refine Ext.alloc ?_ _ | refine Ext.drew ?_ | refine Ext.drewN ?_ _ | refine Ext.set ?_ (by first | exact Nat.le_refl _ | exact le1 _ | exact le2 _ | exact le3 _ | exact le4 _ | exact le5 _ | exact le6 _) _ | refine Ext.trans ?_ (by assumption)))⟩
      by_cases b8 : v.last < v.first
      · have HF := Lib.hid (HB.out (and_no1 (head_at (by omega))))
        clear HB HG HN hk0
        go_wp2_with (go_at_call 58; refine (N.out _).mono ?_; rintro e w2 ⟨rfl, rfl⟩)
        go_ret
        exact ⟨ret_int HF.out.symm, by (repeat' (first | exact Ext.refl _ | assumption | refine Ext.alloc ?_ _ | refine Ext.drew ?_ | refine Ext.drewN ?_ _ | refine Ext.set ?_ (by first | exact Nat.le_refl _ | exact le1 _ | exact le2 _ | exact le3 _ | exact le4 _ | exact le5 _ | exact le6 _) _ | refine Ext.trans ?_ (by assumption)))⟩
      by_cases b9 : (v.units.length : Int) ≤ v.last
      · have HF := Lib.hid (HB.out (and_no1 (head_at (by omega))))
        clear HB HG HN hk0
        go_wp2_with (go_at_call 58; refine (N.out _).mono ?_; rintro e w2 ⟨rfl, rfl⟩)
        go_ret
        exact ⟨ret_int HF.out.symm, by (repeat' (first | exact Ext.refl _ | assumption | refine Ext.alloc ?_ _ | refine Ext.drew ?_ | refine Ext.drewN ?_ _ | refine Ext.set ?_ (by first | exact Nat.le_refl _ | exact le1 _ | exact le2 _ | exact le3 _ | exact le4 _ | exact le5 _ | exact le6 _) _ | refine Ext.trans ?_ (by assumption)))⟩
      have HH := Lib.hid (head_ok HN.out hk0 (by omega) (by omega) (by omega))
      clear hk0 b6 HN
      go_wp2_with (go_at_call 58; refine (N.out _).mono ?_; rintro e w2 ⟨rfl, rfl⟩)
      have E1 : Ext w (w.alloc (.cells #[.string v.name, .slice (some ⟨b, off, none⟩) v.units.length cap, .int .i64 v.first, .int .i64 v.last] 24)) := by (repeat' (first | exact Ext.refl _ | assumption | refine Ext.alloc ?_ _ | refine Ext.drew ?_ | refine Ext.drewN ?_ _ | refine Ext.set ?_ (by first | exact Nat.le_refl _ | exact le1 _ | exact le2 _ | exact le3 _ | exact le4 _ | exact le5 _ | exact le6 _) _ | refine Ext.trans ?_ (by assumption)))
      have d1 : (w.alloc (.cells #[.string v.name, .slice (some ⟨b, off, none⟩) v.units.length cap, .int .i64 v.first, .int .i64 v.last] 24)).cell? ⟨w.heap.size, 1, none⟩ = some (.slice (some ⟨b, off, none⟩) v.units.length cap) := by go_simp
      generalize (w.alloc (.cells #[.string v.name, .slice (some ⟨b, off, none⟩) v.units.length cap, .int .i64 v.first, .int .i64 v.last] 24)) = w1 at *
      clear N b1 b4 b5 b7 b8 b9
      go_loopw [4] (fun i wr => ∃ k : Nat, k ≤ v.units.length ∧ i = .int .i64 k ∧ (v.units.take k).all unitB = true ∧ Ext w1 wr) (fun i _ => v.units.length - (intOf i).toNat)
      case atStart => exact ⟨0, by omega, rfl, by simp, Ext.refl _⟩
      case round =>
        obtain ⟨k, hk, rfl, ha, hb⟩ := hrel
        have e1 := Ext.cell hb d1
        have Ewr := E1.trans hb
        by_cases hlt : k < v.units.length
        · obtain ⟨u, hu⟩ := some_of_lt hlt
          obtain ⟨b', off', cs, hA, _, ⟨v', rfl, hax⟩, hc⟩ := HS.out.at hu
          simp only [Option.some.injEq, Addr.mk.injEq, and_true] at hA
          obtain ⟨rfl, rfl⟩ := hA
          have C := fun w' (h : Ext w w') => RUnit_c v' u w' (hax.ext RAxle.stable h)
          obtain ⟨A2, cap2, rfl, hl3, _⟩ := hax.shape
          have m0 := Ext.cell Ewr (hc 0 _ rfl)
          have m1 := Ext.cell Ewr (hc 1 _ rfl)
          have m2 := Ext.cell Ewr (hc 2 _ rfl)
          have m3 := Ext.cell Ewr (hc 3 _ rfl)
          have m4 := Ext.cell Ewr (hc 4 _ rfl)
          have m5 := Ext.cell Ewr (hc 5 _ rfl)
          have m6 := Ext.cell Ewr (hc 6 _ rfl)
          have m7 := Ext.cell Ewr (hc 7 _ rfl)
          have m8 := Ext.cell Ewr (hc 8 _ rfl)
          have m9 := Ext.cell Ewr (hc 9 _ rfl)
          have m10 := Ext.cell Ewr (hc 10 _ rfl)
          simp only [Nat.add_zero] at m0
          have j1 : (0 : Int) ≤ (k : Int) := by omega
          have j2 : (k : Int) < (v.units.length : Int) := by omega
          obtain ⟨z, hz⟩ : ∃ z, unitB u = z := ⟨_, rfl⟩
          rw [hz] at C
          replace C := Lib.hid C
          have HA := Lib.hid ha
          have HU := Lib.hid hu
          have HZ := Lib.hid hz
          clear hc hax ha hu hz
          cases z
          · have HF := Lib.hid (HB.out (and_no2 (all_no HU.out HZ.out)))
            go_wp2_with (go_at_call 59; refine (C.out _ Ewr).mono ?_; rintro e w2 ⟨rfl, hb2⟩)
            go_ret
            exact ⟨ret_int HF.out.symm, by (repeat' (first | exact Ext.refl _ | assumption | refine Ext.alloc ?_ _ | refine Ext.drew ?_ | refine Ext.drewN ?_ _ | refine Ext.set ?_ (by first | exact Nat.le_refl _ | exact le1 _ | exact le2 _ | exact le3 _ | exact le4 _ | exact le5 _ | exact le6 _) _ | refine Ext.trans ?_ (by assumption)))⟩
          · go_wp2_with (go_at_call 59; refine (C.out _ Ewr).mono ?_; rintro e w2 ⟨rfl, hb2⟩)
            go_roundw
            case rel => exact ⟨k + 1, by omega, by go_num, all_take HU.out HA.out HZ.out, by (repeat' (first | exact Ext.refl _ | assumption | refine Ext.alloc ?_ _ | refine Ext.drew ?_ | refine Ext.drewN ?_ _ | refine Ext.set ?_ (by first | exact Nat.le_refl _ | exact le1 _ | exact le2 _ | exact le3 _ | exact le4 _ | exact le5 _ | exact le6 _) _ | refine Ext.trans ?_ (by assumption)))⟩
            case measure => simp [intOf]; omega
        · have HF := Lib.hid (HG.out (and_ok HH.out (all_end ha (by omega))))
          clear ha
          go_wp2
          go_ret
          exact ⟨ret_int HF.out.symm, by (repeat' (first | exact Ext.refl _ | assumption | refine Ext.alloc ?_ _ | refine Ext.drew ?_ | refine Ext.drewN ?_ _ | refine Ext.set ?_ (by first | exact Nat.le_refl _ | exact le1 _ | exact le2 _ | exact le3 _ | exact le4 _ | exact le5 _ | exact le6 _) _ | refine Ext.trans ?_ (by assumption)))⟩
end Go.Proofs.YtcbjecpfijogcaaGreat
