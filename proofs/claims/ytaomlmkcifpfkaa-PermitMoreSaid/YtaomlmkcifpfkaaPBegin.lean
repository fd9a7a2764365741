/- Contracts: 'begin': the errors of authorities and a trip. -/
import Derived.Test.YtaomlmkcifpfkaaPSpec
namespace Go.Proofs.Ytaomlmkcifpfkaa
open Go.RowKit

def tripV (t : PTrip) (vp : Value) : Value := .agg #[.int .i64 t.z0, .int .i64 t.z1, .int .i64 t.z2, .int .i64 t.z3, .int .i64 t.z4, .int .i64 t.z5, vp]
theorem begin_bad1 {l : List PAuth} {t : PTrip} (h : ¬ allE l = 0) : beginE l t = allE l := by simp only [beginE, h, if_false]
theorem begin_bad2 {l : List PAuth} {t : PTrip} (h : allE l = 0) (k : ¬ tripE t = 0) : beginE l t = tripE t := by simp only [beginE, h, k, if_false, if_true]
theorem begin_none {l : List PAuth} {t : PTrip} (h : allE l = 0) (k : tripE t = 0) (a : t.passages.all (foundB l) = false) : beginE l t = 5 := by simp only [beginE, h, k, a, if_true]; rfl
theorem begin_ok {l : List PAuth} {t : PTrip} (h : allE l = 0) (k : tripE t = 0) (a : t.passages.all (foundB l) = true) : beginE l t = 0 := by simp only [beginE, h, k, a, if_true]

set_option maxRecDepth 100000 in
set_option maxHeartbeats 1600000 in
theorem begin_c (v vp : Value) (l : List PAuth) (t : PTrip) (w : World) (hs : Sl 4 RAuth w v l) (hp : Sl 3 RPass w vp t.passages) :
    Calls Try.prog 48 #[v, tripV t vp] w fun e w' => e = .returned (.int .i64 (beginE l t)) ∧ Ext w w' := by
  unfold tripV
  have C1 := fun w' (h : Ext w w') => RCheckAll_c v l w' (hs.ext RAuth.stable h)
  have C2 := fun w' (h : Ext w w') => RCheckTrip_c vp t w' (hp.ext RPass.stable h)
  have C3 := fun s w' (h : Ext w w') => authority_c s v l w' (hs.ext RAuth.stable h)
  obtain ⟨A, cap, rfl, hl, hcap⟩ := hs.shape
  obtain ⟨Ap, capp, rfl, hpl, hcapp⟩ := hp.shape
  have HP := Lib.hid hp
  clear hs hp
  by_cases h1 : allE l = 0
  · rw [h1] at C1
    by_cases h2 : tripE t = 0
    · rw [h2] at C2
      obtain ⟨E, hE⟩ : ∃ E, beginE l t = E := ⟨_, rfl⟩
      rw [hE]
      have HN := Lib.hid (fun h => (begin_none h1 h2 h).symm.trans hE)
      have HO := Lib.hid (fun h => (begin_ok h1 h2 h).symm.trans hE)
      replace C1 := Lib.hid C1
      replace C2 := Lib.hid C2
      replace C3 := Lib.hid C3
      obtain ⟨z0, z1, z2, z3, z4, z5, passages⟩ := t
      simp only at *
      clear h1 h2 hE
      go_enter Try.func48, Try.ntmps48
      go_wp2_with fail
      refine (C1.out _ (by (repeat' (first | exact Ext.refl _ | assumption | refine Ext.alloc ?_ _ | refine Ext.drew ?_ | refine Ext.drewN ?_ _ | refine Ext.set ?_ (by first | exact Nat.le_refl _ | exact le1 _ | exact le2 _ | exact le3 _ | exact le4 _ | exact le5 _ | exact le6 _) _ | refine Ext.trans ?_ (by assumption))))).mono ?_
      rintro e w1 ⟨rfl, hb1⟩
      obtain ⟨hc1, hf1⟩ := bcell hb1
      go_wp2_with fail
      refine (C2.out _ (by (repeat' (first | exact Ext.refl _ | assumption | refine Ext.alloc ?_ _ | refine Ext.drew ?_ | refine Ext.drewN ?_ _ | refine Ext.set ?_ (by first | exact Nat.le_refl _ | exact le1 _ | exact le2 _ | exact le3 _ | exact le4 _ | exact le5 _ | exact le6 _) _ | refine Ext.trans ?_ (by assumption))))).mono ?_
      rintro e w2 ⟨rfl, hb2⟩
      have d6 := Ext.cell (hb1.trans hb2) (p := ⟨w.heap.size, 6, none⟩) (v := .slice Ap passages.length capp) (by go_simp)
      have E2 : Ext w w2 := by (repeat' (first | exact Ext.refl _ | assumption | refine Ext.alloc ?_ _ | refine Ext.drew ?_ | refine Ext.drewN ?_ _ | refine Ext.set ?_ (by first | exact Nat.le_refl _ | exact le1 _ | exact le2 _ | exact le3 _ | exact le4 _ | exact le5 _ | exact le6 _) _ | refine Ext.trans ?_ (by assumption)))
      have HD := Lib.hid d6
      clear d6 hb1 hb2 hc1 hf1 C1 C2
      go_wp2_with fail
      go_loopw [5] (fun i wr => ∃ k : Nat, k ≤ passages.length ∧ i = .int .i64 k ∧ (passages.take k).all (foundB l) = true ∧ Ext w2 wr) (fun i _ => passages.length - (intOf i).toNat)
      case atStart => exact ⟨0, by omega, rfl, by simp, Ext.refl _⟩
      case round =>
        obtain ⟨k, hk, rfl, ha, hb⟩ := hrel
        have HA := Lib.hid ha
        have d6 := Ext.cell hb HD.out
        clear ha
        by_cases hlt : k < passages.length
        · obtain ⟨x, hx⟩ := some_of_lt hlt
          obtain ⟨b, off, cs, rfl, hn, hr, hc⟩ := (HP.out.ext RPass.stable (E2.trans hb)).at hx
          obtain rfl : cs = [.string x.auth, .string x.road, .int .i64 x.minutes] := hr
          have k0 := hc 0 _ rfl
          simp only [Nat.add_zero] at k0
          have HX := Lib.hid hx
          have C4 := fun w' (h : Ext w w') => C3.out x.auth w' h
          obtain ⟨z, hz⟩ : ∃ z, idxA l x.auth = z := ⟨_, rfl⟩
          rw [hz] at C4
          have HZ := Lib.hid hz
          replace C4 := Lib.hid C4
          clear hc hn hx hz
          by_cases h0 : z < 0
          · have hfb : foundB l x = false := by unfold foundB; rw [HZ.out]; simp; omega
            obtain rfl := HN.out (all_no HX.out hfb)
            clear hfb
            go_wp2_with (go_at_call 80; refine (C4.out _ (E2.trans hb)).mono ?_; rintro e w3 ⟨rfl, rfl⟩)
            go_ret
            exact ⟨rfl, E2.trans hb⟩
          · have hfb : foundB l x = true := by unfold foundB; rw [HZ.out]; simp; omega
            have HB := Lib.hid hfb
            clear hfb
            go_wp2_with (go_at_call 80; refine (C4.out _ (E2.trans hb)).mono ?_; rintro e w3 ⟨rfl, rfl⟩)
            go_roundw
            case rel => exact ⟨k + 1, by omega, by go_num, all_take HX.out HA.out HB.out, hb⟩
            case measure => simp [intOf]; omega
        · obtain rfl := HO.out (all_end HA.out (by omega))
          go_wp2
          go_ret
          exact ⟨rfl, E2.trans hb⟩
    · rw [begin_bad2 h1 h2]
      generalize tripE t = E at *
      obtain ⟨z0, z1, z2, z3, z4, z5, passages⟩ := t
      simp only at *
      replace C1 := Lib.hid C1
      replace C2 := Lib.hid C2
      clear C3 h1
      go_enter Try.func48, Try.ntmps48
      go_wp2_with fail
      refine (C1.out _ (by (repeat' (first | exact Ext.refl _ | assumption | refine Ext.alloc ?_ _ | refine Ext.drew ?_ | refine Ext.drewN ?_ _ | refine Ext.set ?_ (by first | exact Nat.le_refl _ | exact le1 _ | exact le2 _ | exact le3 _ | exact le4 _ | exact le5 _ | exact le6 _) _ | refine Ext.trans ?_ (by assumption))))).mono ?_
      rintro e w1 ⟨rfl, hb1⟩
      obtain ⟨hc1, hf1⟩ := bcell hb1
      have E1 : Ext w w1 := by (repeat' (first | exact Ext.refl _ | assumption | refine Ext.alloc ?_ _ | refine Ext.drew ?_ | refine Ext.drewN ?_ _ | refine Ext.set ?_ (by first | exact Nat.le_refl _ | exact le1 _ | exact le2 _ | exact le3 _ | exact le4 _ | exact le5 _ | exact le6 _) _ | refine Ext.trans ?_ (by assumption)))
      go_wp2_with fail
      refine (C2.out _ E1).mono ?_
      rintro e w2 ⟨rfl, hb2⟩
      obtain ⟨hc2, hf2⟩ := bcell hb2
      have hz1 := Ext.sz hb1
      rw [size_alloc] at hz1
      have hz2 := Nat.lt_of_succ_le hz1
      go_wp2_with fail
      refine (C2.out _ (E1.trans hb2)).mono ?_
      rintro e w3 ⟨rfl, hb3⟩
      go_wp2_with fail
      go_ret
      exact ⟨rfl, E1.trans (hb2.trans hb3)⟩
  · rw [begin_bad1 h1]
    generalize allE l = E at *
    replace C1 := Lib.hid C1
    clear C2 C3
    obtain ⟨z0, z1, z2, z3, z4, z5, passages⟩ := t
    simp only at *
    go_enter Try.func48, Try.ntmps48
    go_wp2_with fail
    refine (C1.out _ (by (repeat' (first | exact Ext.refl _ | assumption | refine Ext.alloc ?_ _ | refine Ext.drew ?_ | refine Ext.drewN ?_ _ | refine Ext.set ?_ (by first | exact Nat.le_refl _ | exact le1 _ | exact le2 _ | exact le3 _ | exact le4 _ | exact le5 _ | exact le6 _) _ | refine Ext.trans ?_ (by assumption))))).mono ?_
    rintro e w1 ⟨rfl, hb1⟩
    have E1 : Ext w w1 := by (repeat' (first | exact Ext.refl _ | assumption | refine Ext.alloc ?_ _ | refine Ext.drew ?_ | refine Ext.drewN ?_ _ | refine Ext.set ?_ (by first | exact Nat.le_refl _ | exact le1 _ | exact le2 _ | exact le3 _ | exact le4 _ | exact le5 _ | exact le6 _) _ | refine Ext.trans ?_ (by assumption)))
    go_wp2_with fail
    refine (C1.out _ E1).mono ?_
    rintro e w2 ⟨rfl, hb2⟩
    go_wp2_with fail
    go_ret
    exact ⟨rfl, E1.trans hb2⟩

end Go.Proofs.Ytaomlmkcifpfkaa
