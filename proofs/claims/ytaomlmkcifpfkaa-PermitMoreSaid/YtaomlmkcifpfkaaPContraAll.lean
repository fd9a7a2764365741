/- PContraAll: several texts in one. -/
import Derived.Test.YtaomlmkcifpfkaaPKindAll
/- Contract: Contradict, the definition, of the first four kinds. -/
namespace Go.Proofs.Ytaomlmkcifpfkaa
open Go.RowKit

theorem hold_all (l : List PRule) (sel : PRule → Int × Int) (m : Nat) : holdB l sel m = !(l.all fun r => liesB (m : Int) (sel r).1 (sel r).2) := by
  unfold holdB
  rw [List.not_all_eq_any_not]
theorem all_succ {α : Type} {l : List α} {k : Nat} {x : α} (f : α → Bool) (h : l[k]? = some x) : (l.take (k + 1)).all f = ((l.take k).all f && f x) := by
  rw [List.take_add_one, h, List.all_append]
  simp
theorem any_succ {α : Type} {l : List α} {k : Nat} {x : α} (f : α → Bool) (h : l[k]? = some x) : (l.take (k + 1)).any f = ((l.take k).any f || f x) := by
  rw [List.take_add_one, h, List.any_append]
  simp
theorem range_succ_all {f : Nat → Bool} {k : Nat} (h : (List.range k).all f = true) (h2 : f k = true) : (List.range (k + 1)).all f = true := by
  rw [List.range_succ, List.all_append, h]; simp [h2]
theorem range_no {f : Nat → Bool} {n k : Nat} (h : k < n) (h2 : f k = false) : (List.range n).all f = false := by
  rw [List.all_eq_false]; exact ⟨k, List.mem_range.2 h, by rw [h2]; simp⟩

set_option maxRecDepth 100000 in
set_option maxHeartbeats 1600000 in
theorem contra1_c (v vt : Value) (l : List PRule) (w : World) (hs : Sl 11 RRule w v l) :
    Calls Try.prog 28 #[v, .int .i64 1, vt] w fun e w' => e = .returned (.bool (l.any fun r => r.forbid)) ∧ Ext w w' := by
  obtain ⟨A, cap, rfl, hl, hl2⟩ := hs.shape
  have HS := Lib.hid hs
  clear hs
  obtain ⟨ra, hra⟩ : ∃ z, (l.any fun r => r.forbid) = z := ⟨_, rfl⟩
  rw [hra]
  have HRA := Lib.hid hra
  clear hra
  go_enter Try.func28, Try.ntmps28
  go_wp2_with fail
  go_loopw [7] (fun i wr => ∃ k : Nat, k ≤ l.length ∧ i = .int .i64 k ∧ (l.take k).any (fun r => r.forbid) = false ∧ Ext w wr) (fun i _ => l.length - (intOf i).toNat)
  case atStart => exact ⟨0, by omega, rfl, by simp, Ext.refl _⟩
  case round =>
    obtain ⟨k, hk, rfl, ha, hb⟩ := hrel
    have HA := Lib.hid ha
    clear ha
    by_cases hlt : k < l.length
    · obtain ⟨x, hx⟩ := some_of_lt hlt
      obtain ⟨b, off, cs, rfl, hn, ⟨vr, vw, vc, rfl, hr⟩, hc⟩ := (HS.out.ext RRule.stable hb).at hx
      have k8 := hc 8 _ rfl
      have HX := Lib.hid hx
      have i1 : (0 : Int) ≤ (k : Int) := by omega
      have i2 : (k : Int) < (l.length : Int) := by omega
      obtain ⟨z, hz⟩ : ∃ z, x.forbid = z := ⟨_, rfl⟩
      rw [hz] at k8
      have HZ := Lib.hid hz
      clear hc hn hx hz hr
      cases z
      · go_wp2_with fail
        go_roundw
        case rel => exact ⟨k + 1, by omega, by go_num, by rw [any_succ _ HX.out, HA.out, HZ.out]; rfl, hb⟩
        case measure => simp [intOf]; omega
      · obtain rfl : ra = true := HRA.out.symm.trans (List.any_eq_true.2 ⟨x, List.mem_of_getElem? HX.out, HZ.out⟩)
        go_wp2_with fail
        go_ret
        exact ⟨rfl, hb⟩
    · obtain rfl : k = l.length := by omega
      obtain rfl : ra = false := HRA.out.symm.trans (by have h := HA.out; rwa [List.take_length] at h)
      go_wp2
      go_ret
      exact ⟨by simp, hb⟩

set_option maxRecDepth 100000 in
set_option maxHeartbeats 1600000 in
theorem contra2_c (v vt : Value) (l : List PRule) (w : World) (hs : Sl 11 RRule w v l) :
    Calls Try.prog 28 #[v, .int .i64 2, vt] w fun e w' => e = .returned (.bool (emptyB l 1440 hoursSel)) ∧ Ext w w' := by
  obtain ⟨A, cap, rfl, hl, hl2⟩ := hs.shape
  have HS := Lib.hid hs
  clear hs
  obtain ⟨ra, hra⟩ : ∃ z, emptyB l 1440 hoursSel = z := ⟨_, rfl⟩
  rw [hra]
  have HRA := Lib.hid hra
  clear hra
  go_enter Try.func28, Try.ntmps28
  go_wp2_with fail
  go_loopw [8] (fun i wr => ∃ k : Nat, k ≤ 1440 ∧ i = .int .i64 k ∧ (List.range k).all (holdB l hoursSel) = true ∧ Ext w wr) (fun i _ => 1440 - (intOf i).toNat)
  case atStart => exact ⟨0, by omega, rfl, by simp, Ext.refl _⟩
  case round =>
    obtain ⟨k, hk, rfl, ha, hb⟩ := hrel
    have HA := Lib.hid ha
    clear ha
    by_cases hltk : k < 1440
    · have hltk' : (k : Int) < 1440 := by omega
      go_wp2_with fail
      go_loopw [9, 10] (fun q i ws => ∃ j : Nat, j ≤ l.length ∧ i = .int .i64 j ∧ q = .bool ((l.take j).all fun r => liesB (k : Int) (hoursSel r).1 (hoursSel r).2) ∧ Ext w ws) (fun _ i _ => l.length - (intOf i).toNat)
      case atStart => exact ⟨0, by omega, rfl, by simp, hb⟩
      case round =>
        obtain ⟨j, hj, rfl, rfl, hbj⟩ := hrel
        by_cases hlt : j < l.length
        · obtain ⟨x, hx⟩ := some_of_lt hlt
          obtain ⟨b, off, cs, rfl, hn, ⟨vr, vw, vc, rfl, hr⟩, hc⟩ := (HS.out.ext RRule.stable hbj).at hx
          have k3 := hc 3 _ rfl
          have k4 := hc 4 _ rfl
          have HN := Lib.hid (all_succ (fun r => liesB (k : Int) (hoursSel r).1 (hoursSel r).2) hx)
          have C1 := fun w' => Between_c (k : Int) (hoursSel x).1 (hoursSel x).2 w'
          have i1 : (0 : Int) ≤ (j : Int) := by omega
          have i2 : (j : Int) < (l.length : Int) := by omega
          clear hc hn hx hr
          generalize ((l.take j).all fun r => liesB (k : Int) (hoursSel r).1 (hoursSel r).2) = Q at *
          generalize liesB (k : Int) (hoursSel x).1 (hoursSel x).2 = z at *
          unfold hoursSel at C1
          replace C1 := Lib.hid C1
          cases Q
          · go_wp2_with fail
            go_roundw
            case rel => exact ⟨j + 1, by omega, by go_num, by rw [HN.out]; rfl, hbj⟩
            case measure => simp [intOf]; omega
          · go_wp2_with (go_at_call 68; refine (C1.out _).mono ?_; rintro e w2 ⟨rfl, hb2⟩)
            go_roundw
            case rel => exact ⟨j + 1, by omega, by go_num, by rw [HN.out]; simp, by (repeat' (first | exact Ext.refl _ | assumption | refine Ext.alloc ?_ _ | refine Ext.drew ?_ | refine Ext.drewN ?_ _ | refine Ext.set ?_ (by first | exact Nat.le_refl _ | exact le1 _ | exact le2 _ | exact le3 _ | exact le4 _ | exact le5 _ | exact le6 _) _ | refine Ext.trans ?_ (by assumption)))⟩
            case measure => simp [intOf]; omega
        · obtain rfl : j = l.length := by omega
          rw [List.take_length] at *
          have hh := hold_all l hoursSel k
          generalize (l.all fun r => liesB (k : Int) (hoursSel r).1 (hoursSel r).2) = Q at *
          have HH := Lib.hid hh
          clear hh
          cases Q
          · go_wp2_with fail
            go_roundw
            case rel => exact ⟨k + 1, by omega, by go_num, range_succ_all HA.out HH.out, hbj⟩
            case measure => simp [intOf]; omega
          · obtain rfl : ra = false := HRA.out.symm.trans (range_no hltk HH.out)
            go_wp2_with fail
            go_ret
            exact ⟨rfl, hbj⟩
    · obtain rfl : k = 1440 := by omega
      obtain rfl : ra = true := HRA.out.symm.trans HA.out
      go_wp2_with fail
      go_ret
      exact ⟨rfl, hb⟩

set_option maxRecDepth 100000 in
set_option maxHeartbeats 1600000 in
theorem contra3_c (v vt : Value) (l : List PRule) (w : World) (hs : Sl 11 RRule w v l) :
    Calls Try.prog 28 #[v, .int .i64 3, vt] w fun e w' => e = .returned (.bool (daysN l == 0)) ∧ Ext w w' := by
  obtain ⟨A, cap, rfl, hl, hl2⟩ := hs.shape
  have HS := Lib.hid hs
  clear hs
  go_enter Try.func28, Try.ntmps28
  go_wp2_with fail
  go_loopw [11, 12] (fun d i wr => ∃ k : Nat, k ≤ l.length ∧ i = .int .i64 k ∧ d = .int .i64 (daysN (l.take k)) ∧ Ext w wr) (fun _ i _ => l.length - (intOf i).toNat)
  case atStart => exact ⟨0, by omega, rfl, rfl, Ext.refl _⟩
  case round =>
    obtain ⟨k, hk, rfl, rfl, hb⟩ := hrel
    by_cases hlt : k < l.length
    · obtain ⟨x, hx⟩ := some_of_lt hlt
      obtain ⟨b, off, cs, rfl, hn, ⟨vr, vw, vc, rfl, hr⟩, hc⟩ := (HS.out.ext RRule.stable hb).at hx
      have k5 := hc 5 _ rfl
      have HN := Lib.hid (daysN_succ hx)
      have i1 : (0 : Int) ≤ (k : Int) := by omega
      have i2 : (k : Int) < (l.length : Int) := by omega
      clear hc hn hx hr
      generalize daysN (l.take k) = D at *
      go_wp2_with fail
      go_roundw
      case rel => exact ⟨k + 1, by omega, by go_num, by rw [HN.out], hb⟩
      case measure => simp [intOf]; omega
    · obtain rfl : k = l.length := by omega
      rw [List.take_length] at *
      go_wp2_with fail
      go_ret
      exact ⟨rfl, hb⟩

set_option maxRecDepth 100000 in
set_option maxHeartbeats 1600000 in
theorem contra4_c (v vt : Value) (l : List PRule) (w : World) (hs : Sl 11 RRule w v l) :
    Calls Try.prog 28 #[v, .int .i64 4, vt] w fun e w' => e = .returned (.bool (emptyB l 365 seasonSel)) ∧ Ext w w' := by
  obtain ⟨A, cap, rfl, hl, hl2⟩ := hs.shape
  have HS := Lib.hid hs
  clear hs
  obtain ⟨ra, hra⟩ : ∃ z, emptyB l 365 seasonSel = z := ⟨_, rfl⟩
  rw [hra]
  have HRA := Lib.hid hra
  clear hra
  go_enter Try.func28, Try.ntmps28
  go_wp2_with fail
  go_loopw [13] (fun i wr => ∃ k : Nat, k ≤ 365 ∧ i = .int .i64 k ∧ (List.range k).all (holdB l seasonSel) = true ∧ Ext w wr) (fun i _ => 365 - (intOf i).toNat)
  case atStart => exact ⟨0, by omega, rfl, by simp, Ext.refl _⟩
  case round =>
    obtain ⟨k, hk, rfl, ha, hb⟩ := hrel
    have HA := Lib.hid ha
    clear ha
    by_cases hltk : k < 365
    · have hltk' : (k : Int) < 365 := by omega
      go_wp2_with fail
      go_loopw [14, 15] (fun q i ws => ∃ j : Nat, j ≤ l.length ∧ i = .int .i64 j ∧ q = .bool ((l.take j).all fun r => liesB (k : Int) (seasonSel r).1 (seasonSel r).2) ∧ Ext w ws) (fun _ i _ => l.length - (intOf i).toNat)
      case atStart => exact ⟨0, by omega, rfl, by simp, hb⟩
      case round =>
        obtain ⟨j, hj, rfl, rfl, hbj⟩ := hrel
        by_cases hlt : j < l.length
        · obtain ⟨x, hx⟩ := some_of_lt hlt
          obtain ⟨b, off, cs, rfl, hn, ⟨vr, vw, vc, rfl, hr⟩, hc⟩ := (HS.out.ext RRule.stable hbj).at hx
          have k3 := hc 6 _ rfl
          have k4 := hc 7 _ rfl
          have HN := Lib.hid (all_succ (fun r => liesB (k : Int) (seasonSel r).1 (seasonSel r).2) hx)
          have C1 := fun w' => Between_c (k : Int) (seasonSel x).1 (seasonSel x).2 w'
          have i1 : (0 : Int) ≤ (j : Int) := by omega
          have i2 : (j : Int) < (l.length : Int) := by omega
          clear hc hn hx hr
          generalize ((l.take j).all fun r => liesB (k : Int) (seasonSel r).1 (seasonSel r).2) = Q at *
          generalize liesB (k : Int) (seasonSel x).1 (seasonSel x).2 = z at *
          unfold seasonSel at C1
          replace C1 := Lib.hid C1
          cases Q
          · go_wp2_with fail
            go_roundw
            case rel => exact ⟨j + 1, by omega, by go_num, by rw [HN.out]; rfl, hbj⟩
            case measure => simp [intOf]; omega
          · go_wp2_with (go_at_call 68; refine (C1.out _).mono ?_; rintro e w2 ⟨rfl, hb2⟩)
            go_roundw
            case rel => exact ⟨j + 1, by omega, by go_num, by rw [HN.out]; simp, by (repeat' (first | exact Ext.refl _ | assumption | refine Ext.alloc ?_ _ | refine Ext.drew ?_ | refine Ext.drewN ?_ _ | refine Ext.set ?_ (by first | exact Nat.le_refl _ | exact le1 _ | exact le2 _ | exact le3 _ | exact le4 _ | exact le5 _ | exact le6 _) _ | refine Ext.trans ?_ (by assumption)))⟩
            case measure => simp [intOf]; omega
        · obtain rfl : j = l.length := by omega
          rw [List.take_length] at *
          have hh := hold_all l seasonSel k
          generalize (l.all fun r => liesB (k : Int) (seasonSel r).1 (seasonSel r).2) = Q at *
          have HH := Lib.hid hh
          clear hh
          cases Q
          · go_wp2_with fail
            go_roundw
            case rel => exact ⟨k + 1, by omega, by go_num, range_succ_all HA.out HH.out, hbj⟩
            case measure => simp [intOf]; omega
          · obtain rfl : ra = false := HRA.out.symm.trans (range_no hltk HH.out)
            go_wp2_with fail
            go_ret
            exact ⟨rfl, hbj⟩
    · obtain rfl : k = 365 := by omega
      obtain rfl : ra = true := HRA.out.symm.trans HA.out
      go_wp2_with fail
      go_ret
      exact ⟨rfl, hb⟩
end Go.Proofs.Ytaomlmkcifpfkaa
/- Contract: Contradict, the definition, of a thing. -/
namespace Go.Proofs.Ytaomlmkcifpfkaa
open Go.RowKit

set_option maxRecDepth 100000 in
set_option maxHeartbeats 3200000 in
theorem contra5_c (v vt : Value) (l : List PRule) (ts : List ByteArray) (n : Nat) (K : Int) (nm : ByteArray) (w : World) (hs : Sl 11 RRule w v l) (ht : Sl 1 RStr w vt ts) (hK : K = (n : Int) + 5) (hn : ts[n]? = some nm) (ht9 : ts.length ≤ 1000000) :
    Calls Try.prog 28 #[v, .int .i64 K, vt] w fun e w' => e = .returned (.bool (thingB l nm)) ∧ Ext w w' := by
  have hmx : ∀ (x y : Int) (W : World), (Builtin.max_ #[2, 2] 2 #[.int .i64 x, .int .i64 y]).run Try.prog W = .ok (.int .i64 (max x y)) W := fun x y W => by
    have : (if y > x then y else x) = max x y := by split <;> omega
    rw [← this]; rfl
  have hmn : ∀ (x y : Int) (W : World), (Builtin.min_ #[2, 2] 2 #[.int .i64 x, .int .i64 y]).run Try.prog W = .ok (.int .i64 (min x y)) W := fun x y W => by
    have : (if y < x then y else x) = min x y := by split <;> omega
    rw [← this]; rfl
  obtain ⟨A, cap, rfl, hl, hl2⟩ := hs.shape
  obtain ⟨At, capt, rfl, htl, htl2⟩ := ht.shape
  obtain ⟨tb, tof, tcs, rfl, _, rfl, htc⟩ := ht.at hn
  have tn := htc 0 _ rfl
  simp only [Nat.add_zero, Nat.mul_one] at tn
  have hsub : K - 5 = (n : Int) := by omega
  have hnl : n < ts.length := (List.getElem?_eq_some_iff.1 hn).1
  have u1 : (0 : Int) ≤ (n : Int) := by omega
  have u2 : (n : Int) < (ts.length : Int) := by omega
  have n1 : ¬ K = 1 := by omega
  have n2 : ¬ K = 2 := by omega
  have n3 : ¬ K = 3 := by omega
  have n4 : ¬ K = 4 := by omega
  have hKb : 5 ≤ K ∧ K ≤ 9223372036854775807 := by omega
  obtain ⟨hKb1, hKb2⟩ := hKb
  have HS := Lib.hid hs
  clear hs ht hK hn htc
  go_enter Try.func28, Try.ntmps28
  go_wp2_with fail
  go_loopw [16, 17, 18] (fun a b i wr => ∃ k : Nat, k ≤ l.length ∧ i = .int .i64 k ∧ a = .int .i64 (thingN nm (l.take k)).1 ∧ b = .int .i64 (thingN nm (l.take k)).2 ∧ Ext w wr) (fun _ _ i _ => l.length - (intOf i).toNat)
  case atStart => exact ⟨0, by omega, rfl, rfl, rfl, Ext.refl _⟩
  case round =>
    obtain ⟨k, hk, rfl, rfl, rfl, hb⟩ := hrel
    by_cases hlt : k < l.length
    · obtain ⟨x, hx⟩ := some_of_lt hlt
      obtain ⟨b, off, cs, rfl, hn, ⟨vr, vw, vc, rfl, hr⟩, hc⟩ := (HS.out.ext RRule.stable hb).at hx
      obtain ⟨hr1, hw1, hc1⟩ := hr
      obtain ⟨Ac, cc, rfl, lc, lc2⟩ := hc1.shape
      have k9 := Lib.hid (hc 9 _ rfl)
      have HN := Lib.hid (thingN_succ (nm := nm) hx)
      have HC := Lib.hid hc1
      have i1 : (0 : Int) ≤ (k : Int) := by omega
      have i2 : (k : Int) < (l.length : Int) := by omega
      clear hc hn hx hr1 hw1 hc1
      generalize thingN nm (l.take k) = D at *
      go_wp2_with fail
      go_loopw [16, 17, 19] (fun a b i ws => ∃ j : Nat, j ≤ x.counts.length ∧ i = .int .i64 j ∧ a = .int .i64 ((x.counts.take j).foldl (cntStep nm) D).1 ∧ b = .int .i64 ((x.counts.take j).foldl (cntStep nm) D).2 ∧ Ext wr ws) (fun _ _ i _ => x.counts.length - (intOf i).toNat)
      case atStart => exact ⟨0, by omega, rfl, rfl, rfl, Ext.refl _⟩
      case round =>
        obtain ⟨j, hj, rfl, rfl, rfl, hbj⟩ := hrel
        have c9 := hbj.cell k9.out
        by_cases hltj : j < x.counts.length
        · obtain ⟨c, hcx⟩ := some_of_lt hltj
          obtain ⟨b2, off2, cs2, rfl, hn2, rfl, hc2⟩ := (HC.out.ext RCount.stable hbj).at hcx
          have q0 := hc2 0 _ rfl
          have q1 := hc2 1 _ rfl
          have q2 := hc2 2 _ rfl
          simp only [Nat.add_zero] at q0
          have HN2 := Lib.hid (cnt_succ (nm := nm) (p := D) hcx)
          have j1 : (0 : Int) ≤ (j : Int) := by omega
          have j2 : (j : Int) < (x.counts.length : Int) := by omega
          have tn' := (hb.trans hbj).cell tn
          clear hc2 hn2 hcx
          generalize (x.counts.take j).foldl (cntStep nm) D = E at *
          by_cases heq : c.thing = nm
          · have t1 : (c.thing.toList == nm.toList) = true := by rw [heq]; simp
            have HE := Lib.hid heq
            clear heq
            go_wp2_with fail
            go_region
            go_wp2_with fail
            go_roundw
            case rel => exact ⟨j + 1, by omega, by go_num, by rw [HN2.out, cntStep, if_pos HE.out], by rw [HN2.out, cntStep, if_pos HE.out], by (repeat' (first | exact Ext.refl _ | assumption | refine Ext.alloc ?_ _ | refine Ext.drew ?_ | refine Ext.drewN ?_ _ | refine Ext.set ?_ (by first | exact Nat.le_refl _ | exact le1 _ | exact le2 _ | exact le3 _ | exact le4 _ | exact le5 _ | exact le6 _) _ | refine Ext.trans ?_ (by assumption)))⟩
            case measure => simp [intOf]; omega
          · have t1 := beq_toList heq
            have HE := Lib.hid heq
            clear heq
            go_wp2_with fail
            go_region
            go_wp2_with fail
            go_roundw
            case rel => exact ⟨j + 1, by omega, by go_num, by rw [HN2.out, cntStep, if_neg HE.out], by rw [HN2.out, cntStep, if_neg HE.out], by (repeat' (first | exact Ext.refl _ | assumption | refine Ext.alloc ?_ _ | refine Ext.drew ?_ | refine Ext.drewN ?_ _ | refine Ext.set ?_ (by first | exact Nat.le_refl _ | exact le1 _ | exact le2 _ | exact le3 _ | exact le4 _ | exact le5 _ | exact le6 _) _ | refine Ext.trans ?_ (by assumption)))⟩
            case measure => simp [intOf]; omega
        · obtain rfl : j = x.counts.length := by omega
          rw [List.take_length] at *
          go_wp2_with fail
          go_roundw
          case rel => exact ⟨k + 1, by omega, by go_num, by rw [HN.out]; rfl, by rw [HN.out]; rfl, hb.trans hbj⟩
          case measure => simp [intOf]; omega
    · obtain rfl : k = l.length := by omega
      rw [List.take_length] at *
      go_wp2_with fail
      go_ret
      exact ⟨rfl, hb⟩
end Go.Proofs.Ytaomlmkcifpfkaa
/- Contract: Things, the definition. -/
namespace Go.Proofs.Ytaomlmkcifpfkaa
open Go.RowKit

set_option maxRecDepth 100000 in
set_option maxHeartbeats 3200000 in
theorem RThings_c (v : Value) (l : List PRule) (w : World) (hs : Sl 11 RRule w v l) (hlen : l.length ≤ 1000) (hcl : ∀ r ∈ l, r.counts.length ≤ 6) :
    Calls Try.prog 26 #[v] w fun e w' => ∃ v', e = .returned v' ∧ OwnL 1 9 RStr w.heap.size w' v' (thingsL l) ∧ Ext w w' := by
  obtain ⟨i1, hi1, hi10, hi11, hi12⟩ := info_parts infoStr
  obtain ⟨A, cap, rfl, hl, hl2⟩ := hs.shape
  have HS := Lib.hid hs
  have HCL := Lib.hid hcl
  clear hs hcl
  go_enter Try.func26, Try.ntmps26
  go_wp2_with fail
  go_loopw [3, 4] (fun o i wr => ∃ (k : Nat) (vo : Value), k ≤ l.length ∧ i = .int .i64 k ∧ o = vo ∧ OwnL 1 9 RStr w.heap.size wr vo (thingsL (l.take k)) ∧ (thingsL (l.take k)).length ≤ 6 * k ∧ Ext w wr) (fun _ i _ => l.length - (intOf i).toNat)
  case atStart => exact ⟨0, _, by omega, rfl, rfl, OwnL.nil, by simp [thingsL], Ext.refl _⟩
  case round =>
    obtain ⟨k, vo, hk, rfl, rfl, hown, hol, hb⟩ := hrel
    have HO := Lib.hid hown
    clear hown
    by_cases hlt : k < l.length
    · obtain ⟨x, hx⟩ := some_of_lt hlt
      obtain ⟨b, off, cs, rfl, hn, ⟨vr, vw, vc, rfl, hr⟩, hc⟩ := HS.out.at hx
      obtain ⟨hr1, hw1, hc1⟩ := hr
      obtain ⟨Ac, cc, rfl, lc, lc2⟩ := hc1.shape
      have HK9 := Lib.hid (hc 9 _ rfl)
      have i1k : (0 : Int) ≤ (k : Int) := by omega
      have i2k : (k : Int) < (l.length : Int) := by omega
      have HN := Lib.hid (thingsL_succ hx)
      have h6 := HCL.out x (mem_of_some hx)
      have hfl := Lib.hid (fun j => thFold_len (x.counts.take j) (thingsL (l.take k)))
      have HC := Lib.hid hc1
      clear hc hn hx hr1 hw1 hc1
      generalize thingsL (l.take k) = D at *
      go_wp2_with fail
      go_loopw [3, 5] (fun o i ws => ∃ (j : Nat) (vo : Value), j ≤ x.counts.length ∧ i = .int .i64 j ∧ o = vo ∧ OwnL 1 9 RStr w.heap.size ws vo ((x.counts.take j).foldl thStep D) ∧ Ext w ws) (fun _ i _ => x.counts.length - (intOf i).toNat)
      case atStart => exact ⟨0, _, by omega, rfl, rfl, by simpa using HO.out, hb⟩
      case round =>
        clear HO hb
        obtain ⟨j, vo, hj, rfl, rfl, hown, hbw⟩ := hrel
        have k9 := Ext.cell hbw HK9.out
        by_cases hltj : j < x.counts.length
        · obtain ⟨c, hcx⟩ := some_of_lt hltj
          obtain ⟨b2, off2, cs2, rfl, hn2, rfl, hc2⟩ := (HC.out.ext RCount.stable hbw).at hcx
          have q0 := hc2 0 _ rfl
          simp only [Nat.add_zero] at q0
          have i1j : (0 : Int) ≤ (j : Int) := by omega
          have i2j : (j : Int) < (x.counts.length : Int) := by omega
          have HN2 := Lib.hid (thRule_succ (o := D) hcx)
          have hfj := hfl.out j
          rw [List.length_take] at hfj
          clear hc2 hn2 hcx
          generalize (x.counts.take j).foldl thStep D = E at *
          obtain ⟨Ao, capo, rfl, hlo, hlo2⟩ := hown.sl.shape
          have HO := Lib.hid hown
          clear hown
          go_wp2_with fail
          go_loopw [6, 7] (fun f i wt => ∃ n : Nat, n ≤ E.length ∧ i = .int .i64 n ∧ f = .bool ((E.take n).any fun t => decide (c.thing = t)) ∧ Ext wr wt) (fun _ i _ => E.length - (intOf i).toNat)
          case atStart => exact ⟨0, by omega, rfl, by simp, Ext.refl _⟩
          case round =>
            obtain ⟨n, hn, rfl, rfl, hE3⟩ := hrel
            replace q0 := hE3.cell q0
            replace k9 := hE3.cell k9
            by_cases hltn : n < E.length
            · obtain ⟨y, hy⟩ := some_of_lt hltn
              obtain ⟨b3, off3, cs3, rfl, _, rfl, hc3⟩ := ((HO.out.ext RStr.stable hE3).sl).at hy
              have y0 := hc3 0 _ rfl
              simp only [Nat.add_zero, Nat.mul_one] at y0
              have HY := Lib.hid (any_succ (fun t => decide (c.thing = t)) hy)
              have n1 : (0 : Int) ≤ (n : Int) := by omega
              have n2 : (n : Int) < (E.length : Int) := by omega
              clear hc3 hy
              generalize ((E.take n).any fun t => decide (c.thing = t)) = F at *
              cases F
              · by_cases heq : c.thing = y
                · have t1 : (y.toList == c.thing.toList) = true := by rw [heq]; simp
                  have HQ := Lib.hid heq
                  clear heq
                  go_wp2_with fail
                  go_region
                  go_wp2_with fail
                  go_roundw
                  case rel => exact ⟨n + 1, by omega, by go_num, by rw [HY.out, HQ.out]; simp, by (repeat' (first | exact Ext.refl _ | assumption | refine Ext.alloc ?_ _ | refine Ext.drew ?_ | refine Ext.drewN ?_ _ | refine Ext.set ?_ (by first | exact Nat.le_refl _ | exact le1 _ | exact le2 _ | exact le3 _ | exact le4 _ | exact le5 _ | exact le6 _) _ | refine Ext.trans ?_ (by assumption)))⟩
                  case measure => simp [intOf]; omega
                · have t1 : (y.toList == c.thing.toList) = false := beq_toList (fun h => heq h.symm)
                  have HQ := Lib.hid heq
                  clear heq
                  go_wp2_with fail
                  go_region
                  go_wp2_with fail
                  go_roundw
                  case rel => exact ⟨n + 1, by omega, by go_num, by rw [HY.out]; simp [HQ.out], by (repeat' (first | exact Ext.refl _ | assumption | refine Ext.alloc ?_ _ | refine Ext.drew ?_ | refine Ext.drewN ?_ _ | refine Ext.set ?_ (by first | exact Nat.le_refl _ | exact le1 _ | exact le2 _ | exact le3 _ | exact le4 _ | exact le5 _ | exact le6 _) _ | refine Ext.trans ?_ (by assumption)))⟩
                  case measure => simp [intOf]; omega
              · go_wp2_with fail
                go_region
                go_wp2_with fail
                go_roundw
                case rel => exact ⟨n + 1, by omega, by go_num, by rw [HY.out]; simp, by (repeat' (first | exact Ext.refl _ | assumption | refine Ext.alloc ?_ _ | refine Ext.drew ?_ | refine Ext.drewN ?_ _ | refine Ext.set ?_ (by first | exact Nat.le_refl _ | exact le1 _ | exact le2 _ | exact le3 _ | exact le4 _ | exact le5 _ | exact le6 _) _ | refine Ext.trans ?_ (by assumption)))⟩
                case measure => simp [intOf]; omega
            · obtain rfl : n = E.length := by omega
              rw [List.take_length]
              have E4 := hbw.trans hE3
              obtain ⟨css, hcs, hown, hcx⟩ := HO.out.ext RStr.stable hE3
              have HCX := Lib.hid hcx
              have hz2 := E4.size
              cases hin : (E.any fun t => decide (c.thing = t))
              · have HI := Lib.hid hin
                clear hin hcx HO
                go_wp2_with (at_builtin; refine wpList_append_lies _ rfl _ _ 51 rfl (w.heap.size) 9 i1 _ 1 16 Try.underlying51 hi1 hi10 hi11 hi12 rfl (by omega) (.slice Ao E.length capo) (E.length) (css).flatten rfl ((hown).alloc _) ⟨wr.heap.size, 0, none⟩ 1 1 [.string c.thing] rfl rfl (World.news_of_block (cs := #[.string c.thing]) (t := 9) (fr := (0, 0)) (heap_alloc_new wr _)) (by simp [Value.oneCell']) (by omega) (by unfold maxLen; omega) (by omega) (by simp; omega) (wr.heap.size + 1) (by simp) ?_; intro g cap4 w9 hown4 hgrow4 hat4 hlt4)
                have E5 : Ext w w9 := Ext.grown (E4.alloc _) hgrow4 (fun j hj => own_ge hown j hj)
                have HO4 := Lib.hid (OwnL.snoc (R := RStr) (w' := w9) (x := c.thing) hcs HCX.out hown4 rfl rfl)
                clear hown hown4 hgrow4 hat4 hlt4 hcs HCX
                go_roundw
                case rel => exact ⟨j + 1, _, by omega, by go_num, rfl, by rw [HN2.out, thStep_no HI.out]; exact HO4.out, E5⟩
                case measure => simp [intOf]; omega
              · have HI := Lib.hid hin
                have HO5 := Lib.hid (HO.out.ext RStr.stable hE3)
                clear hin hcx HO hown hcs HCX
                go_wp2_with fail
                go_roundw
                case rel => exact ⟨j + 1, _, by omega, by go_num, rfl, by rw [HN2.out, thStep_yes HI.out]; exact HO5.out, E4⟩
                case measure => simp [intOf]; omega
        · obtain rfl : j = x.counts.length := by omega
          have HO := Lib.hid hown
          clear hown
          have hfj := hfl.out x.counts.length
          rw [List.take_length] at hfj
          rw [List.take_length] at HO
          go_wp2_with fail
          go_roundw
          case rel => exact ⟨k + 1, _, by omega, by go_num, rfl, by rw [HN.out]; exact HO.out, by rw [HN.out]; unfold thRule; omega, hbw⟩
          case measure => simp [intOf]; omega
    · obtain rfl : k = l.length := by omega
      rw [List.take_length] at HO
      go_wp2
      go_ret
      exact ⟨_, rfl, HO.out, hb⟩
end Go.Proofs.Ytaomlmkcifpfkaa
/- Contracts: Contradict of any kind, and Kind (both of the definition). -/
namespace Go.Proofs.Ytaomlmkcifpfkaa
open Go.RowKit

theorem contra_c (v vt : Value) (l : List PRule) (ts : List ByteArray) (k : Nat) (w : World) (hs : Sl 11 RRule w v l) (ht : Sl 1 RStr w vt ts) (ht9 : ts.length ≤ 1000000) (hk1 : 1 ≤ k) (hk2 : k < 5 + ts.length) :
    Calls Try.prog 28 #[v, .int .i64 k, vt] w fun e w' => e = .returned (.bool (ofB l ts k)) ∧ Ext w w' := by
  match k, hk1 with
  | 1, _ => exact contra1_c v vt l w hs
  | 2, _ => exact contra2_c v vt l w hs
  | 3, _ => exact contra3_c v vt l w hs
  | 4, _ => exact contra4_c v vt l w hs
  | n + 5, _ =>
    obtain ⟨nm, hn⟩ := some_of_lt (l := ts) (k := n) (by omega)
    have h := contra5_c v vt l ts n ((n + 5 : Nat) : Int) nm w hs ht (by omega) hn ht9
    have e : ofB l ts (n + 5) = thingB l nm := by simp only [ofB, hn]
    rw [e]
    exact h

set_option maxRecDepth 100000 in
set_option maxHeartbeats 1600000 in
theorem RKind_c (v : Value) (l : List PRule) (w : World) (hs : Sl 11 RRule w v l) (hlen : l.length ≤ 1000) (hcl : ∀ r ∈ l, r.counts.length ≤ 6) :
    Calls Try.prog 35 #[v] w fun e w' => e = .returned (.int .i64 (kindN l)) ∧ Ext w w' := by
  have C1 := fun w' (h : Ext w w') => RThings_c v l w' (hs.ext RRule.stable h) hlen hcl
  have htl := thingsL_len l hcl
  have C2 := fun (k : Nat) vt w' (h : Ext w w') (ht : Sl 1 RStr w' vt (thingsL l)) hk1 hk2 => contra_c v vt l (thingsL l) k w' (hs.ext RRule.stable h) ht (by omega) hk1 hk2
  obtain ⟨A, cap, rfl, hl, hl2⟩ := hs.shape
  obtain ⟨f, hf⟩ : ∃ f, ofB l (thingsL l) = f := ⟨_, rfl⟩
  have hkn : kindN l = kindF f (4 + (thingsL l).length) 1 := by unfold kindN; rw [hf]
  rw [hkn]
  rw [hf] at C2
  generalize thingsL l = ts at *
  replace C1 := Lib.hid C1
  replace C2 := Lib.hid C2
  clear hs hf hkn hcl
  obtain ⟨R, hR⟩ : ∃ R, kindF f (4 + ts.length) 1 = R := ⟨_, rfl⟩
  rw [hR]
  have HR := Lib.hid hR
  clear hR
  go_enter Try.func35, Try.ntmps35
  go_upto_region 2 with (go_at_call 26; refine (C1.out _ (Ext.refl _)).mono ?_; rintro e w1 ⟨vt, rfl, hown, hb1⟩; obtain ⟨At, capt, rfl, _, _⟩ := hown.sl.shape)
  have HT := Lib.hid hown.sl
  clear hown
  go_wp2_with fail
  go_loopw [4] (fun i wr => ∃ k : Nat, 1 ≤ k ∧ k ≤ 5 + ts.length ∧ i = .int .i64 k ∧ kindF f (5 + ts.length - k) k = R ∧ Ext w1 wr) (fun i _ => 5 + ts.length - (intOf i).toNat)
  case atStart => exact ⟨1, by omega, by omega, rfl, by rw [show 5 + ts.length - 1 = 4 + ts.length by omega]; exact HR.out, Ext.refl _⟩
  case round =>
    obtain ⟨k, hk1, hk2, rfl, hq, hb⟩ := hrel
    have E2 := hb1.trans hb
    have HQ := Lib.hid hq
    clear hq
    by_cases hlt : k < 5 + ts.length
    · have hlt' : (k : Int) < 5 + (ts.length : Int) := by omega
      have hq := HQ.out
      rw [show 5 + ts.length - k = (5 + ts.length - (k + 1)) + 1 by omega] at hq
      simp only [kindF] at hq
      have C3 := fun w' (h : Ext wr w') => C2.out k _ w' (E2.trans h) (HT.out.ext RStr.stable (hb.trans h)) hk1 hlt
      generalize f k = z at *
      replace C3 := Lib.hid C3
      cases z
      · rw [if_neg (by simp)] at hq
        have HQ2 := Lib.hid hq
        clear hq
        go_wp2_with (go_at_call 28; refine (C3.out _ (by (repeat' (first | exact Ext.refl _ | assumption | refine Ext.alloc ?_ _ | refine Ext.drew ?_ | refine Ext.drewN ?_ _ | refine Ext.set ?_ (by first | exact Nat.le_refl _ | exact le1 _ | exact le2 _ | exact le3 _ | exact le4 _ | exact le5 _ | exact le6 _) _ | refine Ext.trans ?_ (by assumption))))).mono ?_; rintro e w2 ⟨rfl, hb2⟩)
        go_roundw
        case rel => exact ⟨k + 1, by omega, by omega, by go_num, HQ2.out, by (repeat' (first | exact Ext.refl _ | assumption | refine Ext.alloc ?_ _ | refine Ext.drew ?_ | refine Ext.drewN ?_ _ | refine Ext.set ?_ (by first | exact Nat.le_refl _ | exact le1 _ | exact le2 _ | exact le3 _ | exact le4 _ | exact le5 _ | exact le6 _) _ | refine Ext.trans ?_ (by assumption)))⟩
        case measure => simp [intOf]; omega
      · rw [if_pos rfl] at hq
        subst hq
        go_wp2_with (go_at_call 28; refine (C3.out _ (by (repeat' (first | exact Ext.refl _ | assumption | refine Ext.alloc ?_ _ | refine Ext.drew ?_ | refine Ext.drewN ?_ _ | refine Ext.set ?_ (by first | exact Nat.le_refl _ | exact le1 _ | exact le2 _ | exact le3 _ | exact le4 _ | exact le5 _ | exact le6 _) _ | refine Ext.trans ?_ (by assumption))))).mono ?_; rintro e w2 ⟨rfl, hb2⟩)
        go_ret
        exact ⟨rfl, by (repeat' (first | exact Ext.refl _ | assumption | refine Ext.alloc ?_ _ | refine Ext.drew ?_ | refine Ext.drewN ?_ _ | refine Ext.set ?_ (by first | exact Nat.le_refl _ | exact le1 _ | exact le2 _ | exact le3 _ | exact le4 _ | exact le5 _ | exact le6 _) _ | refine Ext.trans ?_ (by assumption)))⟩
    · obtain rfl : k = 5 + ts.length := by omega
      have hq := HQ.out
      rw [show 5 + ts.length - (5 + ts.length) = 0 by omega] at hq
      simp only [kindF] at hq
      subst hq
      go_wp2_with fail
      go_ret
      exact ⟨rfl, by (repeat' (first | exact Ext.refl _ | assumption | refine Ext.alloc ?_ _ | refine Ext.drew ?_ | refine Ext.drewN ?_ _ | refine Ext.set ?_ (by first | exact Nat.le_refl _ | exact le1 _ | exact le2 _ | exact le3 _ | exact le4 _ | exact le5 _ | exact le6 _) _ | refine Ext.trans ?_ (by assumption)))⟩
end Go.Proofs.Ytaomlmkcifpfkaa
