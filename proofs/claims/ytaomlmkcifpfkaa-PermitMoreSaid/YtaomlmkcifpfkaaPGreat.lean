/- Contracts: the laws' bounds (bulky, great) answer. -/
import Derived.Test.YtaomlmkcifpfkaaPBegin
namespace Go.Proofs.Ytaomlmkcifpfkaa
open Go.RowKit

/-- it answers, and memory stays -/
def Answers (w : World) (e : Ending) (w' : World) : Prop := (∃ b : Bool, e = .returned (.bool b)) ∧ Ext w w'

set_option maxRecDepth 100000 in
set_option maxHeartbeats 3200000 in
theorem bulky_c (v : Value) (a : PAuth) (w : World) (hs : Sl 11 RRule w v a.rules) :
    Calls Try.prog 29 #[.agg #[.string a.name, .int .i64 a.fee, .int .i64 a.notice, v]] w (Answers w) := by
  obtain ⟨name, fee, notice, rules⟩ := a
  simp only at hs ⊢
  obtain ⟨A, cap, rfl, hl, hcap⟩ := hs.shape
  have HS := Lib.hid hs
  clear hs
  by_cases q1 : (30 : Int) < (rules.length : Int); rotate_left; by_cases q2 : (100 : Int) < (name.size : Int); rotate_left
  rotate_left
  iterate 2
    · go_enter Try.func29, Try.ntmps29
      go_wp2_with fail
      go_ret
      exact ⟨⟨_, rfl⟩, by (repeat' (first | exact Ext.refl _ | assumption | refine Ext.alloc ?_ _ | refine Ext.drew ?_ | refine Ext.drewN ?_ _ | refine Ext.set ?_ (by first | exact Nat.le_refl _ | exact le1 _ | exact le2 _ | exact le3 _ | exact le4 _ | exact le5 _ | exact le6 _) _ | refine Ext.trans ?_ (by assumption)))⟩
  go_enter Try.func29, Try.ntmps29
  go_wp2_with fail
  have hE1 : Ext w (w.alloc (.cells #[.string name, .int .i64 fee, .int .i64 notice, .slice A rules.length cap] 64)) := by (repeat' (first | exact Ext.refl _ | assumption | refine Ext.alloc ?_ _ | refine Ext.drew ?_ | refine Ext.drewN ?_ _ | refine Ext.set ?_ (by first | exact Nat.le_refl _ | exact le1 _ | exact le2 _ | exact le3 _ | exact le4 _ | exact le5 _ | exact le6 _) _ | refine Ext.trans ?_ (by assumption)))
  have a3 : (w.alloc (.cells #[.string name, .int .i64 fee, .int .i64 notice, .slice A rules.length cap] 64)).cell? ⟨w.heap.size, 3, none⟩ = some (.slice A rules.length cap) := World.cell?_alloc_new _ _ _ _
  generalize w.alloc (.cells #[.string name, .int .i64 fee, .int .i64 notice, .slice A rules.length cap] 64) = W1 at *
  have HA3 := Lib.hid a3
  clear a3
  go_loopw [3] (fun i wr => ∃ k : Nat, k ≤ rules.length ∧ i = .int .i64 k ∧ Ext W1 wr) (fun i _ => rules.length - (intOf i).toNat)
  case atStart => exact ⟨0, by omega, rfl, Ext.refl _⟩
  case round =>
    obtain ⟨k, hk, rfl, hb⟩ := hrel
    have a3 := hb.cell HA3.out
    have hEw := hE1.trans hb
    by_cases hlt : k < rules.length
    · obtain ⟨x, hx⟩ := some_of_lt hlt
      obtain ⟨b, off, cs, rfl, hn, ⟨vr, vw, vc, rfl, hr⟩, hc⟩ := (HS.out.ext RRule.stable hEw).at hx
      obtain ⟨hr1, hw1, hc1⟩ := hr
      obtain ⟨Ar, cr, rfl, lr, lr2⟩ := hr1.shape
      obtain ⟨Aw, cw, rfl, lw, lw2⟩ := hw1.shape
      obtain ⟨Ac, cc, rfl, lc, lc2⟩ := hc1.shape
      have k0 := hc 0 _ rfl
      have k1 := hc 1 _ rfl
      have k2 := hc 2 _ rfl
      have k3 := hc 3 _ rfl
      have k4 := hc 4 _ rfl
      have k5 := hc 5 _ rfl
      have k6 := hc 6 _ rfl
      have k7 := hc 7 _ rfl
      have k8 := hc 8 _ rfl
      have k9 := hc 9 _ rfl
      have k10 := hc 10 _ rfl
      simp only [Nat.add_zero] at k0
      have i1 : (0 : Int) ≤ (k : Int) := by omega
      have i2 : (k : Int) < (rules.length : Int) := by omega
      have HR := Lib.hid hr1
      have HC := Lib.hid hc1
      clear hc hn hx hr1 hw1 hc1
      by_cases p1 : (100 : Int) < (x.name.size : Int); rotate_left; by_cases p2 : (20 : Int) < (x.roads.length : Int); rotate_left; by_cases p3 : (10 : Int) < (x.whens.length : Int); rotate_left; by_cases p4 : (10 : Int) < (x.counts.length : Int); rotate_left
      rotate_left
      iterate 4
        · go_wp2_with fail
          go_ret
          exact ⟨⟨_, rfl⟩, by (repeat' (first | exact Ext.refl _ | assumption | refine Ext.alloc ?_ _ | refine Ext.drew ?_ | refine Ext.drewN ?_ _ | refine Ext.set ?_ (by first | exact Nat.le_refl _ | exact le1 _ | exact le2 _ | exact le3 _ | exact le4 _ | exact le5 _ | exact le6 _) _ | refine Ext.trans ?_ (by assumption)))⟩
      go_wp2_with fail
      have hE2 : Ext wr (wr.alloc (.cells #[.string x.name, .slice Ar x.roads.length cr, .slice Aw x.whens.length cw, .int .i64 x.h0, .int .i64 x.h1, .int .i64 x.days, .int .i64 x.s0, .int .i64 x.s1, .bool x.forbid, .slice Ac x.counts.length cc, .int .i64 x.cost] 58)) := by (repeat' (first | exact Ext.refl _ | assumption | refine Ext.alloc ?_ _ | refine Ext.drew ?_ | refine Ext.drewN ?_ _ | refine Ext.set ?_ (by first | exact Nat.le_refl _ | exact le1 _ | exact le2 _ | exact le3 _ | exact le4 _ | exact le5 _ | exact le6 _) _ | refine Ext.trans ?_ (by assumption)))
      have r1 : (wr.alloc (.cells #[.string x.name, .slice Ar x.roads.length cr, .slice Aw x.whens.length cw, .int .i64 x.h0, .int .i64 x.h1, .int .i64 x.days, .int .i64 x.s0, .int .i64 x.s1, .bool x.forbid, .slice Ac x.counts.length cc, .int .i64 x.cost] 58)).cell? ⟨wr.heap.size, 1, none⟩ = some (.slice Ar x.roads.length cr) := World.cell?_alloc_new _ _ _ _
      have r9 : (wr.alloc (.cells #[.string x.name, .slice Ar x.roads.length cr, .slice Aw x.whens.length cw, .int .i64 x.h0, .int .i64 x.h1, .int .i64 x.days, .int .i64 x.s0, .int .i64 x.s1, .bool x.forbid, .slice Ac x.counts.length cc, .int .i64 x.cost] 58)).cell? ⟨wr.heap.size, 9, none⟩ = some (.slice Ac x.counts.length cc) := World.cell?_alloc_new _ _ _ _
      have HR2 := Lib.hid (HR.out.ext RStr.stable hE2)
      have HC2 := Lib.hid (HC.out.ext RCount.stable hE2)
      generalize (wr.alloc (.cells #[.string x.name, .slice Ar x.roads.length cr, .slice Aw x.whens.length cw, .int .i64 x.h0, .int .i64 x.h1, .int .i64 x.days, .int .i64 x.s0, .int .i64 x.s1, .bool x.forbid, .slice Ac x.counts.length cc, .int .i64 x.cost] 58)) = W2 at *
      have HR1 := Lib.hid r1
      have HR9 := Lib.hid r9
      have hE3 := hEw.trans hE2
      have hE4 := hb.trans hE2
      generalize wr.heap.size = H at *
      clear r1 r9 k0 k1 k2 k3 k4 k5 k6 k7 k8 k9 k10 HR HC a3 hb hEw hE2 p1 p2 p3 p4
      go_loopw [5] (fun i ws => ∃ j : Nat, j ≤ x.roads.length ∧ i = .int .i64 j ∧ Ext W2 ws) (fun i _ => x.roads.length - (intOf i).toNat)
      case atStart => exact ⟨0, by omega, rfl, Ext.refl _⟩
      case round =>
        obtain ⟨j, hj, rfl, hb2⟩ := hrel
        have r1 := hb2.cell HR1.out
        by_cases hltj : j < x.roads.length
        · obtain ⟨c, hcx⟩ := some_of_lt hltj
          obtain ⟨b2, off2, cs2, rfl, hn2, rfl, hc2⟩ := (HR2.out.ext RStr.stable hb2).at hcx
          have q0 := hc2 0 _ rfl
          simp only [Nat.mul_one, Nat.add_zero] at q0
          have j1 : (0 : Int) ≤ (j : Int) := by omega
          have j2 : (j : Int) < (x.roads.length : Int) := by omega
          clear hc2 hn2 hcx
          by_cases p1 : (100 : Int) < (c.size : Int)
          · go_wp2_with fail
            go_ret
            exact ⟨⟨_, rfl⟩, hE3.trans hb2⟩
          · go_wp2_with fail
            go_roundw
            case rel => exact ⟨j + 1, by omega, by go_num, hb2⟩
            case measure => simp [intOf]; omega
        · go_wp2_with fail
          go_loopw [6] (fun i ws => ∃ j : Nat, j ≤ x.counts.length ∧ i = .int .i64 j ∧ Ext W2 ws) (fun i _ => x.counts.length - (intOf i).toNat)
          case atStart => exact ⟨0, by omega, rfl, hb2⟩
          case round =>
            clear r1 hb2
            obtain ⟨j2, hj2, rfl, hb2⟩ := hrel
            have r9 := hb2.cell HR9.out
            by_cases hltj : j2 < x.counts.length
            · obtain ⟨c, hcx⟩ := some_of_lt hltj
              obtain ⟨b2, off2, cs2, rfl, hn2, rfl, hc2⟩ := (HC2.out.ext RCount.stable hb2).at hcx
              have q0 := hc2 0 _ rfl
              simp only [Nat.add_zero] at q0
              have j1 : (0 : Int) ≤ (j2 : Int) := by omega
              have j2' : (j2 : Int) < (x.counts.length : Int) := by omega
              clear hc2 hn2 hcx
              by_cases p1 : (100 : Int) < (c.thing.size : Int)
              · go_wp2_with fail
                go_ret
                exact ⟨⟨_, rfl⟩, hE3.trans hb2⟩
              · go_wp2_with fail
                go_roundw
                case rel => exact ⟨j2 + 1, by omega, by go_num, hb2⟩
                case measure => simp [intOf]; omega
            · go_wp2_with fail
              go_roundw
              case rel => exact ⟨k + 1, by omega, by go_num, hE4.trans hb2⟩
              case measure => simp [intOf]; omega
    · go_wp2_with fail
      go_ret
      exact ⟨⟨_, rfl⟩, hEw⟩

set_option maxRecDepth 100000 in
set_option maxHeartbeats 3200000 in
theorem great_c (v vp : Value) (l : List PAuth) (t : PTrip) (w : World) (hs : Sl 4 RAuth w v l) (hp : Sl 3 RPass w vp t.passages) :
    Calls Try.prog 12 #[v, tripV t vp] w (Answers w) := by
  have C1 := fun (a : PAuth) (va : Value) (w' : World) (h : Sl 11 RRule w' va a.rules) => bulky_c va a w' h
  unfold tripV
  obtain ⟨A, cap, rfl, hl, hcap⟩ := hs.shape
  obtain ⟨Ap, capp, rfl, hpl, hpcap⟩ := hp.shape
  have HS := Lib.hid hs
  have HP := Lib.hid hp
  replace C1 := Lib.hid C1
  clear hs hp
  by_cases q1 : (10 : Int) < (l.length : Int); rotate_left; by_cases q2 : (30 : Int) < (t.passages.length : Int); rotate_left
  rotate_left
  iterate 2
    · go_enter Try.func12, Try.ntmps12
      go_wp2_with fail
      go_ret
      exact ⟨⟨_, rfl⟩, by (repeat' (first | exact Ext.refl _ | assumption | refine Ext.alloc ?_ _ | refine Ext.drew ?_ | refine Ext.drewN ?_ _ | refine Ext.set ?_ (by first | exact Nat.le_refl _ | exact le1 _ | exact le2 _ | exact le3 _ | exact le4 _ | exact le5 _ | exact le6 _) _ | refine Ext.trans ?_ (by assumption)))⟩
  go_enter Try.func12, Try.ntmps12
  go_wp2_with fail
  have hE1 : Ext w (w.alloc (.cells #[.int .i64 t.z0, .int .i64 t.z1, .int .i64 t.z2, .int .i64 t.z3, .int .i64 t.z4, .int .i64 t.z5, .slice Ap t.passages.length capp] 26)) := by (repeat' (first | exact Ext.refl _ | assumption | refine Ext.alloc ?_ _ | refine Ext.drew ?_ | refine Ext.drewN ?_ _ | refine Ext.set ?_ (by first | exact Nat.le_refl _ | exact le1 _ | exact le2 _ | exact le3 _ | exact le4 _ | exact le5 _ | exact le6 _) _ | refine Ext.trans ?_ (by assumption)))
  have a6 : (w.alloc (.cells #[.int .i64 t.z0, .int .i64 t.z1, .int .i64 t.z2, .int .i64 t.z3, .int .i64 t.z4, .int .i64 t.z5, .slice Ap t.passages.length capp] 26)).cell? ⟨w.heap.size, 6, none⟩ = some (.slice Ap t.passages.length capp) := World.cell?_alloc_new _ _ _ _
  generalize w.alloc (.cells #[.int .i64 t.z0, .int .i64 t.z1, .int .i64 t.z2, .int .i64 t.z3, .int .i64 t.z4, .int .i64 t.z5, .slice Ap t.passages.length capp] 26) = W1 at *
  have HA6 := Lib.hid a6
  clear a6
  go_loopw [5] (fun i wr => ∃ k : Nat, k ≤ l.length ∧ i = .int .i64 k ∧ Ext W1 wr) (fun i _ => l.length - (intOf i).toNat)
  case atStart => exact ⟨0, by omega, rfl, Ext.refl _⟩
  case round =>
    obtain ⟨k, hk, rfl, hb⟩ := hrel
    have hEw := hE1.trans hb
    by_cases hlt : k < l.length
    · obtain ⟨x, hx⟩ := some_of_lt hlt
      obtain ⟨b, off, cs, rfl, hn, ⟨vr, rfl, hr⟩, hc⟩ := (HS.out.ext RAuth.stable hEw).at hx
      obtain ⟨Ar, cr, rfl, lr, lr2⟩ := hr.shape
      have k0 := hc 0 _ rfl
      have k1 := hc 1 _ rfl
      have k2 := hc 2 _ rfl
      have k3 := hc 3 _ rfl
      simp only [Nat.add_zero] at k0
      have i1 : (0 : Int) ≤ (k : Int) := by omega
      have i2 : (k : Int) < (l.length : Int) := by omega
      have C2 := Lib.hid (C1.out x _ wr hr)
      clear hc hn hx hr
      go_wp2_with (go_at_call 29; refine C2.out.mono ?_; rintro e w2 ⟨⟨bb, rfl⟩, hb2⟩; cases bb)
      · go_roundw
        case rel => exact ⟨k + 1, by omega, by go_num, hb.trans hb2⟩
        case measure => simp [intOf]; omega
      · go_ret
        exact ⟨⟨_, rfl⟩, hEw.trans hb2⟩
    · go_wp2_with fail
      go_loopw [6] (fun i wr => ∃ k : Nat, k ≤ t.passages.length ∧ i = .int .i64 k ∧ Ext W1 wr) (fun i _ => t.passages.length - (intOf i).toNat)
      case atStart => exact ⟨0, by omega, rfl, hb⟩
      case round =>
        clear hb hEw
        obtain ⟨j, hj, rfl, hb⟩ := hrel
        have a6 := hb.cell HA6.out
        have hEw := hE1.trans hb
        by_cases hltj : j < t.passages.length
        · obtain ⟨x, hx⟩ := some_of_lt hltj
          obtain ⟨b, off, cs, rfl, hn, rfl, hc⟩ := (HP.out.ext RPass.stable hEw).at hx
          have k0 := hc 0 _ rfl
          have k1 := hc 1 _ rfl
          simp only [Nat.add_zero] at k0
          have i1 : (0 : Int) ≤ (j : Int) := by omega
          have i2 : (j : Int) < (t.passages.length : Int) := by omega
          clear hc hn hx
          by_cases p1 : (100 : Int) < (x.auth.size : Int); rotate_left; by_cases p2 : (100 : Int) < (x.road.size : Int); rotate_left
          rotate_left
          iterate 2
            · go_wp2_with fail
              go_ret
              exact ⟨⟨_, rfl⟩, hEw⟩
          go_wp2_with fail
          go_roundw
          case rel => exact ⟨j + 1, by omega, by go_num, hb⟩
          case measure => simp [intOf]; omega
        · go_wp2_with fail
          go_ret
          exact ⟨⟨_, rfl⟩, hEw⟩
end Go.Proofs.Ytaomlmkcifpfkaa
