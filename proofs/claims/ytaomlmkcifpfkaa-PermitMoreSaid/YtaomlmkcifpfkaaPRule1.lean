/- Contracts: when a rule is valid, by the program. -/
import Derived.Test.YtaomlmkcifpfkaaPData
namespace Go.Proofs.Ytaomlmkcifpfkaa
open Go.RowKit

theorem validRule1_c (c : PCount) (w : World) :
    Calls Try.prog 107 #[.agg #[.string c.thing, .int .i64 c.least, .int .i64 c.most]] w fun e w' => e = .returned (.bool (!countB c)) ∧ Ext w w' := by
  have HN := fun w => validCount_c c w
  generalize countB c = n at *
  replace HN := Lib.hid HN
  cases n
  all_goals
    go_enter Try.func107, Try.ntmps107
    go_wp2_with (go_at_call 108; refine (HN.out _).mono ?_; rintro e w1 ⟨rfl, hb1⟩)
    go_ret
    exact ⟨rfl, by (repeat' (first | exact Ext.refl _ | assumption | refine Ext.alloc ?_ _ | refine Ext.drew ?_ | refine Ext.drewN ?_ _ | refine Ext.set ?_ (by first | exact Nat.le_refl _ | exact le1 _ | exact le2 _ | exact le3 _ | exact le4 _ | exact le5 _ | exact le6 _) _ | refine Ext.trans ?_ (by assumption)))⟩
theorem any_not {α : Type} (p : α → Bool) (l : List α) : (l.any fun x => !p x) = !l.all p := by
  rw [Bool.eq_iff_iff]; simp
theorem counts_c (v : Value) (l : List PCount) (w : World) (hs : Sl 3 RCount w v l) :
    Calls Try.prog 100 #[v, .func (.func 107) #[] #[]] w fun e w' => e = .returned (.bool (!l.all countB)) ∧ Ext w w' := by
  rw [← any_not]
  refine ContainsFuncCount_c RCount.stable 107 #[] (enters_of Try.func107 (by kernel_rfl) rfl) _ v l w hs ?_
  rintro W cs x _ rfl _
  exact validRule1_c x W

set_option maxRecDepth 100000 in
set_option maxHeartbeats 4000000 in
theorem validRule_c (vr vw vc : Value) (r : PRule) (w : World) (hs : RSls w vr vw vc r) :
    Calls Try.prog 84 #[.agg #[.string r.name, vr, vw, .int .i64 r.h0, .int .i64 r.h1, .int .i64 r.days, .int .i64 r.s0, .int .i64 r.s1, .bool r.forbid, vc, .int .i64 r.cost]] w fun e w' => e = .returned (.bool (ruleB r)) ∧ Ext w w' := by
  obtain ⟨name, roads, whens, h0, h1, days, s0, s1, fb, counts, cost⟩ := r
  obtain ⟨hr, hw, hc⟩ := hs
  simp only at hr hw hc ⊢
  obtain ⟨Ar, cr, rfl, lr, lr2⟩ := hr.shape
  obtain ⟨Aw, cw, rfl, lw, lw2⟩ := hw.shape
  obtain ⟨Ac, cc, rfl, lc, lc2⟩ := hc.shape
  have HR := Lib.hid hr
  have HW := Lib.hid hw
  have HCs := fun w' (h : Ext w w') => counts_c _ counts w' (hc.ext RCount.stable h)
  have HN := fun w => validName_c name w
  have B0 := fun w => between_c cost 0 1073741824 w
  have B1 := fun w => between_c h0 0 1440 w
  have B2 := fun w => between_c s0 0 365 w
  have B3 := fun w => between_c h1 0 1440 w
  have B4 := fun w => between_c s1 0 365 w
  clear hr hw hc
  unfold ruleB headB hoursB
  simp only
  obtain ⟨ra, hra⟩ : ∃ b, roads.all nameB = b := ⟨_, rfl⟩
  obtain ⟨wa, hwa⟩ : ∃ b, whens.all whenB = b := ⟨_, rfl⟩
  rw [hra, hwa]
  have HRA := Lib.hid hra
  have HWA := Lib.hid hwa
  clear hra hwa
  generalize counts.all countB = ca at *
  generalize nameB name = n at *
  generalize inB cost 0 1073741824 = qc at *
  generalize inB h0 0 1440 = q0 at *
  generalize inB s0 0 365 = q2 at *
  generalize inB h1 0 1440 = q1 at *
  generalize inB s1 0 365 = q3 at *
  replace HCs := Lib.hid HCs
  replace HN := Lib.hid HN
  replace B0 := Lib.hid B0
  replace B1 := Lib.hid B1
  replace B2 := Lib.hid B2
  replace B3 := Lib.hid B3
  replace B4 := Lib.hid B4
  obtain ⟨d, hd⟩ : ∃ d, decide (roads.length ≤ 16 ∧ whens.length ≤ 6 ∧ counts.length ≤ 6 ∧ 0 ≤ days ∧ days ≤ 127) = d := ⟨_, rfl⟩
  rw [hd]
  by_cases hn : n = false
  · subst hn
    clear hd
    go_enter Try.func84, Try.ntmps84
    go_wp2_with (go_at_call 53; refine (HN.out _).mono ?_; rintro e w1 ⟨rfl, hb1⟩; obtain ⟨hc, hf⟩ := bcell hb1)
    go_ret
    exact ⟨by simp, by (repeat' (first | exact Ext.refl _ | assumption | refine Ext.alloc ?_ _ | refine Ext.drew ?_ | refine Ext.drewN ?_ _ | refine Ext.set ?_ (by first | exact Nat.le_refl _ | exact le1 _ | exact le2 _ | exact le3 _ | exact le4 _ | exact le5 _ | exact le6 _) _ | refine Ext.trans ?_ (by assumption)))⟩
  obtain rfl : n = true := by simpa using hn
  clear hn
  by_cases b1 : (16 : Int) < (roads.length : Int); rotate_left; by_cases b2 : (6 : Int) < (whens.length : Int); rotate_left; by_cases b3 : (6 : Int) < (counts.length : Int); rotate_left; by_cases b4 : days < 0; rotate_left; by_cases b5 : (127 : Int) < days; rotate_left
  rotate_left
  all_goals try (
    obtain rfl : d = false := by rw [← hd, decide_eq_false_iff_not]; omega
    clear hd
    go_enter Try.func84, Try.ntmps84
    go_wp2_with (go_at_call 53; refine (HN.out _).mono ?_; rintro e w1 ⟨rfl, hb1⟩; obtain ⟨hc, hf⟩ := bcell hb1)
    go_ret
    exact ⟨by simp, by (repeat' (first | exact Ext.refl _ | assumption | refine Ext.alloc ?_ _ | refine Ext.drew ?_ | refine Ext.drewN ?_ _ | refine Ext.set ?_ (by first | exact Nat.le_refl _ | exact le1 _ | exact le2 _ | exact le3 _ | exact le4 _ | exact le5 _ | exact le6 _) _ | refine Ext.trans ?_ (by assumption)))⟩)
  obtain rfl : d = true := by rw [← hd, decide_eq_true_iff]; omega
  clear hd
  cases qc
  · go_enter Try.func84, Try.ntmps84
    go_wp2_with (first | (go_at_call 53; refine (HN.out _).mono ?_; rintro e w1 ⟨rfl, hb1⟩; obtain ⟨hc, hf⟩ := bcell hb1) | (go_at_call 52; refine (B0.out _).mono ?_; rintro e w2 ⟨rfl, rfl⟩))
    go_ret
    exact ⟨by simp, by (repeat' (first | exact Ext.refl _ | assumption | refine Ext.alloc ?_ _ | refine Ext.drew ?_ | refine Ext.drewN ?_ _ | refine Ext.set ?_ (by first | exact Nat.le_refl _ | exact le1 _ | exact le2 _ | exact le3 _ | exact le4 _ | exact le5 _ | exact le6 _) _ | refine Ext.trans ?_ (by assumption)))⟩
  go_enter Try.func84, Try.ntmps84
  go_wp2_with (first | (go_at_call 53; refine (HN.out _).mono ?_; rintro e w1 ⟨rfl, hb1⟩; obtain ⟨hc, hf⟩ := bcell hb1) | (go_at_call 52; refine (B0.out _).mono ?_; rintro e w2 ⟨rfl, rfl⟩))
  have E1 : Ext w w1 := by (repeat' (first | exact Ext.refl _ | assumption | refine Ext.alloc ?_ _ | refine Ext.drew ?_ | refine Ext.drewN ?_ _ | refine Ext.set ?_ (by first | exact Nat.le_refl _ | exact le1 _ | exact le2 _ | exact le3 _ | exact le4 _ | exact le5 _ | exact le6 _) _ | refine Ext.trans ?_ (by assumption)))
  have d1 := Ext.cell hb1 (p := ⟨w.heap.size, 1, none⟩) (v := .slice Ar roads.length cr) (by go_simp)
  have d2 := Ext.cell hb1 (p := ⟨w.heap.size, 2, none⟩) (v := .slice Aw whens.length cw) (by go_simp)
  have d3 := Ext.cell hb1 (p := ⟨w.heap.size, 3, none⟩) (v := .int .i64 h0) (by go_simp)
  have d4 := Ext.cell hb1 (p := ⟨w.heap.size, 4, none⟩) (v := .int .i64 h1) (by go_simp)
  have d6 := Ext.cell hb1 (p := ⟨w.heap.size, 6, none⟩) (v := .int .i64 s0) (by go_simp)
  have d7 := Ext.cell hb1 (p := ⟨w.heap.size, 7, none⟩) (v := .int .i64 s1) (by go_simp)
  have d9 := Ext.cell hb1 (p := ⟨w.heap.size, 9, none⟩) (v := .slice Ac counts.length cc) (by go_simp)
  clear hb1 hc hf HN B0
  go_loop [3, 46] (fun _ i => i = .int .i64 0 ∨ (i = .int .i64 1 ∧ q0 = true ∧ q2 = true) ∨ (i = .int .i64 2 ∧ q0 = true ∧ q2 = true ∧ q1 = true ∧ q3 = true)) (fun _ i => 3 - (intOf i).toNat)
  case atStart => exact .inl rfl
  case round =>
    rcases hrel with rfl | ⟨rfl, rfl, rfl⟩ | ⟨rfl, rfl, rfl, rfl, rfl⟩
    · cases q0
      · go_wp2_with (go_at_call 52; (with_reducible refine (B1.out _).mono ?_); rintro e w2 ⟨rfl, rfl⟩)
        go_ret
        exact ⟨by simp, by (repeat' (first | exact Ext.refl _ | assumption | refine Ext.alloc ?_ _ | refine Ext.drew ?_ | refine Ext.drewN ?_ _ | refine Ext.set ?_ (by first | exact Nat.le_refl _ | exact le1 _ | exact le2 _ | exact le3 _ | exact le4 _ | exact le5 _ | exact le6 _) _ | refine Ext.trans ?_ (by assumption)))⟩
      cases q2
      · go_wp2_with (first | (go_at_call 52; (with_reducible refine (B1.out _).mono ?_); rintro e w2 ⟨rfl, rfl⟩) | (go_at_call 52; (with_reducible refine (B2.out _).mono ?_); rintro e w2 ⟨rfl, rfl⟩))
        go_ret
        exact ⟨by simp, by (repeat' (first | exact Ext.refl _ | assumption | refine Ext.alloc ?_ _ | refine Ext.drew ?_ | refine Ext.drewN ?_ _ | refine Ext.set ?_ (by first | exact Nat.le_refl _ | exact le1 _ | exact le2 _ | exact le3 _ | exact le4 _ | exact le5 _ | exact le6 _) _ | refine Ext.trans ?_ (by assumption)))⟩
      · go_wp2_with (first | (go_at_call 52; (with_reducible refine (B1.out _).mono ?_); rintro e w2 ⟨rfl, rfl⟩) | (go_at_call 52; (with_reducible refine (B2.out _).mono ?_); rintro e w2 ⟨rfl, rfl⟩))
        go_round
        case rel => exact .inr (.inl ⟨rfl, by trivial, by trivial⟩)
        case measure => simp [intOf]
    · cases q1
      · go_wp2_with (go_at_call 52; (with_reducible refine (B3.out _).mono ?_); rintro e w2 ⟨rfl, rfl⟩)
        go_ret
        exact ⟨by simp, by (repeat' (first | exact Ext.refl _ | assumption | refine Ext.alloc ?_ _ | refine Ext.drew ?_ | refine Ext.drewN ?_ _ | refine Ext.set ?_ (by first | exact Nat.le_refl _ | exact le1 _ | exact le2 _ | exact le3 _ | exact le4 _ | exact le5 _ | exact le6 _) _ | refine Ext.trans ?_ (by assumption)))⟩
      cases q3
      · go_wp2_with (first | (go_at_call 52; (with_reducible refine (B3.out _).mono ?_); rintro e w2 ⟨rfl, rfl⟩) | (go_at_call 52; (with_reducible refine (B4.out _).mono ?_); rintro e w2 ⟨rfl, rfl⟩))
        go_ret
        exact ⟨by simp, by (repeat' (first | exact Ext.refl _ | assumption | refine Ext.alloc ?_ _ | refine Ext.drew ?_ | refine Ext.drewN ?_ _ | refine Ext.set ?_ (by first | exact Nat.le_refl _ | exact le1 _ | exact le2 _ | exact le3 _ | exact le4 _ | exact le5 _ | exact le6 _) _ | refine Ext.trans ?_ (by assumption)))⟩
      · go_wp2_with (first | (go_at_call 52; (with_reducible refine (B3.out _).mono ?_); rintro e w2 ⟨rfl, rfl⟩) | (go_at_call 52; (with_reducible refine (B4.out _).mono ?_); rintro e w2 ⟨rfl, rfl⟩))
        go_round
        case rel => exact .inr (.inr ⟨rfl, by trivial, by trivial, by trivial, by trivial⟩)
        case measure => simp [intOf]
    · clear B1 B2 B3 B4 d3 d4 d6 d7
      go_wp2
      go_loopw [5, 67] (fun _ i wr => ∃ k : Nat, k ≤ roads.length ∧ i = .int .i64 k ∧ (roads.take k).all nameB = true ∧ Ext w1 wr) (fun _ i _ => roads.length - (intOf i).toNat)
      case atStart => exact ⟨0, by omega, rfl, by simp, Ext.refl _⟩
      case round =>
        obtain ⟨k, hk, rfl, ha, hb⟩ := hrel
        have HA := Lib.hid ha
        clear ha
        by_cases hlt : k < roads.length
        · obtain ⟨x, hx⟩ := some_of_lt hlt
          obtain ⟨b, off, cs, rfl, hn, hr, hc⟩ := (HR.out.ext RStr.stable (E1.trans hb)).at hx
          obtain rfl : cs = [.string x] := hr
          have k0 := hc 0 _ rfl
          simp only [Nat.add_zero, Nat.mul_one] at k0
          have HX := Lib.hid hx
          have HN := fun w => validName_c x w
          obtain ⟨n, hn'⟩ : ∃ n, nameB x = n := ⟨_, rfl⟩
          rw [hn'] at HN
          have HB := Lib.hid hn'
          replace HN := Lib.hid HN
          clear hc hn hx hn'
          cases n
          · have HF := Lib.hid ((HRA.out).symm.trans (all_no HX.out HB.out))
            go_wp2_with (go_at_call 53; refine (HN.out _).mono ?_; rintro e w2 ⟨rfl, hb2⟩)
            go_ret
            exact ⟨ret_bool (by rw [HF.out]; simp), by (repeat' (first | exact Ext.refl _ | assumption | refine Ext.alloc ?_ _ | refine Ext.drew ?_ | refine Ext.drewN ?_ _ | refine Ext.set ?_ (by first | exact Nat.le_refl _ | exact le1 _ | exact le2 _ | exact le3 _ | exact le4 _ | exact le5 _ | exact le6 _) _ | refine Ext.trans ?_ (by assumption)))⟩
          · go_wp2_with (go_at_call 53; refine (HN.out _).mono ?_; rintro e w2 ⟨rfl, hb2⟩)
            go_roundw
            case rel => exact ⟨k + 1, by omega, by go_num, all_take HX.out HA.out HB.out, by (repeat' (first | exact Ext.refl _ | assumption | refine Ext.alloc ?_ _ | refine Ext.drew ?_ | refine Ext.drewN ?_ _ | refine Ext.set ?_ (by first | exact Nat.le_refl _ | exact le1 _ | exact le2 _ | exact le3 _ | exact le4 _ | exact le5 _ | exact le6 _) _ | refine Ext.trans ?_ (by assumption)))⟩
            case measure => simp [intOf]; omega
        · have hra : ra = true := HRA.out.symm.trans (all_end HA.out (by omega))
          subst hra
          have d2' := Ext.cell hb d2
          have d9' := Ext.cell hb d9
          have E2 : Ext w wr := E1.trans hb
          clear d1 d2 d9 hb HRA HR HA hk E1
          obtain ⟨wo, rfl⟩ : ∃ wo : World, wo = wr := ⟨_, rfl⟩
          go_wp2
          go_loopw [7, 78] (fun _ i wr => ∃ k : Nat, k ≤ whens.length ∧ i = .int .i64 k ∧ (whens.take k).all whenB = true ∧ Ext wo wr) (fun _ i _ => whens.length - (intOf i).toNat)
          case atStart => exact ⟨0, by omega, rfl, by simp, Ext.refl _⟩
          case round =>
            obtain ⟨k, hk, rfl, ha, hb⟩ := hrel
            have HA := Lib.hid ha
            clear ha
            by_cases hlt : k < whens.length
            · obtain ⟨x, hx⟩ := some_of_lt hlt
              obtain ⟨b, off, cs, rfl, hn, hr, hc⟩ := (HW.out.ext RWhen.stable (E2.trans hb)).at hx
              obtain rfl : cs = [.int .i64 x.size, .int .i64 x.least] := hr
              have k0 := hc 0 _ rfl
              have k1 := hc 1 _ rfl
              simp only [Nat.add_zero] at k0
              have HX := Lib.hid hx
              have hbl := lt_of_cell k0
              have B0 := fun w => between_c x.least 0 1073741824 w
              obtain ⟨q, hq⟩ : ∃ q, inB x.least 0 1073741824 = q := ⟨_, rfl⟩
              rw [hq] at B0
              obtain ⟨z, hz⟩ : ∃ z, whenB x = z := ⟨_, rfl⟩
              have HZ := Lib.hid hz
              unfold whenB at hz
              rw [hq] at hz
              generalize x.least = xl at *
              generalize x.size = xs at *
              replace B0 := Lib.hid B0
              clear hc hn hx hq
              by_cases hbad : z = false
              · subst hbad
                have HF := Lib.hid ((HWA.out).symm.trans (all_no HX.out HZ.out))
                by_cases m1 : xs < 0; rotate_left; by_cases m2 : 5 < xs; rotate_left
                · obtain rfl : q = false := by rw [decide_eq_true (by omega)] at hz; simpa using hz
                  clear hz
                  go_wp2_with (go_at_call 52; (with_reducible refine (B0.out _).mono ?_); rintro e w2 ⟨rfl, rfl⟩)
                  go_ret
                  exact ⟨ret_bool (by rw [HF.out]; simp), by (repeat' (first | exact Ext.refl _ | assumption | refine Ext.alloc ?_ _ | refine Ext.drew ?_ | refine Ext.drewN ?_ _ | refine Ext.set ?_ (by first | exact Nat.le_refl _ | exact le1 _ | exact le2 _ | exact le3 _ | exact le4 _ | exact le5 _ | exact le6 _) _ | refine Ext.trans ?_ (by assumption)))⟩
                all_goals
                  clear hz
                  go_wp2_with (go_at_call 52; (with_reducible refine (B0.out _).mono ?_); rintro e w2 ⟨rfl, rfl⟩)
                  go_ret
                  exact ⟨ret_bool (by rw [HF.out]; simp), by (repeat' (first | exact Ext.refl _ | assumption | refine Ext.alloc ?_ _ | refine Ext.drew ?_ | refine Ext.drewN ?_ _ | refine Ext.set ?_ (by first | exact Nat.le_refl _ | exact le1 _ | exact le2 _ | exact le3 _ | exact le4 _ | exact le5 _ | exact le6 _) _ | refine Ext.trans ?_ (by assumption)))⟩
              · obtain rfl : z = true := by simpa using hbad
                rw [Bool.and_eq_true, decide_eq_true_eq] at hz
                obtain ⟨⟨m1, m2⟩, rfl⟩ := hz
                clear hbad
                go_wp2_with (go_at_call 52; (with_reducible refine (B0.out _).mono ?_); rintro e w2 ⟨rfl, rfl⟩)
                go_roundw
                case rel => exact ⟨k + 1, by omega, by go_num, all_take HX.out HA.out HZ.out, by (repeat' (first | exact Ext.refl _ | assumption | refine Ext.alloc ?_ _ | refine Ext.drew ?_ | refine Ext.drewN ?_ _ | refine Ext.set ?_ (by first | exact Nat.le_refl _ | exact le1 _ | exact le2 _ | exact le3 _ | exact le4 _ | exact le5 _ | exact le6 _) _ | refine Ext.trans ?_ (by assumption)))⟩
                case measure => simp [intOf]; omega
            · have hwa : wa = true := HWA.out.symm.trans (all_end HA.out (by omega))
              subst hwa
              have d9 := Ext.cell hb d9'
              have E3 : Ext w wr := E2.trans hb
              clear d2' d9' hb HWA HW HA hk E2
              go_wp2_with (go_at_call 100; refine (HCs.out _ E3).mono ?_; rintro e w2 ⟨rfl, hb2⟩)
              go_ret
              exact ⟨ret_bool (by simp), by (repeat' (first | exact Ext.refl _ | assumption | refine Ext.alloc ?_ _ | refine Ext.drew ?_ | refine Ext.drewN ?_ _ | refine Ext.set ?_ (by first | exact Nat.le_refl _ | exact le1 _ | exact le2 _ | exact le3 _ | exact le4 _ | exact le5 _ | exact le6 _) _ | refine Ext.trans ?_ (by assumption)))⟩
end Go.Proofs.Ytaomlmkcifpfkaa
