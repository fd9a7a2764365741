/- Contract: possible (the law's): rules that do not contradict each other allow a time, and a number of each thing. -/
import Derived.Test.YtaomlmkcifpfkaaPMinMath
import Derived.Test.YtaomlmkcifpfkaaPFree
import Derived.Test.YtaomlmkcifpfkaaPContraAll
import Derived.BigQuiet
namespace Go.Proofs.Ytaomlmkcifpfkaa
open Go.RowKit

def okC (nm : ByteArray) (n : Int) (c : PCount) : Bool := !(decide (c.thing = nm) && (decide (n < c.least) || decide (c.most < n)))
def okR (nm : ByteArray) (n : Int) (r : PRule) : Bool := r.counts.all (okC nm n)
theorem okN_all (l : List PRule) (nm : ByteArray) (n : Int) : okN l nm n = l.all (okR nm n) := rfl
def hourB (m : Int) (r : PRule) : Bool := liesB m (hoursSel r).1 (hoursSel r).2
theorem hours_all (l : List PRule) (m : Nat) : l.all (hourB (m : Int)) = !holdB l hoursSel m := by
  rw [hold_all]
  simp only [Bool.not_not]
  rfl
def minV (b : Bool) (m : Nat) : Int := if b = true then (m : Int) else -1

set_option maxRecDepth 100000 in
set_option maxHeartbeats 6400000 in
theorem possible_c (v vt : Value) (l : List PRule) (ts : List ByteArray) (w : World) (hs : Sl 11 RRule w v l) (ht : Sl 1 RStr w vt ts) (hts : thingsL l = ts) (hk : kindN l = 0) (hv : ∀ r ∈ l, ruleB r = true) :
    Calls Try.prog 27 #[v, vt] w fun e w' => e = .returned (.bool true) ∧ Ext w w' := by
  have F1 := fun m w' (h : Ext w w') (h1 : 0 ≤ m) (h2 : m ≤ 4398046511104) => free_c v l m 1 w' (hs.ext RRule.stable h) hv h1 h2 (by omega) (by omega)
  have hdays : ∀ r ∈ l, 0 ≤ r.days ∧ r.days ≤ 127 := fun r h => (ruleB_parts (hv r h)).1
  have HNS := Lib.hid (fun nm => okN_some (l := l) hk (nm := nm))
  have HMS := Lib.hid (minute_some hk)
  have HDS := Lib.hid (fun m => possible_day hdays hk (m := m))
  obtain ⟨A, cap, rfl, hl, hl2⟩ := hs.shape
  obtain ⟨At, capt, rfl, htl, htl2⟩ := ht.shape
  rw [hts] at HNS
  unfold FreeR at F1
  have HS := Lib.hid hs
  have HT := Lib.hid ht
  replace F1 := Lib.hid F1
  clear hs ht hts hk hv hdays
  go_enter Try.func27, Try.ntmps27
  go_wp2_with fail
  go_loopw [5] (fun i wr => ∃ k : Nat, k ≤ ts.length ∧ i = .int .i64 k ∧ Ext w wr) (fun i _ => ts.length - (intOf i).toNat)
  case atStart => exact ⟨0, by omega, rfl, Ext.refl _⟩
  case round =>
    obtain ⟨k, hk, rfl, hb⟩ := hrel
    obtain ⟨wA, hwwA⟩ : ∃ z : World, z = wr := ⟨_, rfl⟩
    subst hwwA
    by_cases hlt : k < ts.length
    · obtain ⟨nm, hnm⟩ := some_of_lt hlt
      obtain ⟨tb, tof, tcs, rfl, _, rfl, htc⟩ := (HT.out.ext RStr.stable hb).at hnm
      have y0 := htc 0 _ rfl
      simp only [Nat.add_zero, Nat.mul_one] at y0
      obtain ⟨n0, hn0, hn1⟩ := HNS.out nm (List.mem_of_getElem? hnm)
      have HN1 := Lib.hid hn1
      have i1 : (0 : Int) ≤ (k : Int) := by omega
      have i2 : (k : Int) < (ts.length : Int) := by omega
      clear htc hnm hn1
      go_wp2_with fail
      go_loopw [6, 7] (fun f i ws => ∃ n : Nat, n ≤ 1001 ∧ i = .int .i64 n ∧ (∃ b : Bool, f = .bool b ∧ (b = true ∨ ∀ m : Nat, m < n → okN l nm (m : Int) = false)) ∧ Ext wA ws) (fun _ i _ => 1001 - (intOf i).toNat)
      case atStart => exact ⟨0, by omega, rfl, ⟨false, rfl, .inr (fun m h => by omega)⟩, Ext.refl _⟩
      case round =>
        obtain ⟨n, hn, rfl, ⟨b, rfl, hq⟩, hE⟩ := hrel
        obtain ⟨wB, hwwB⟩ : ∃ z : World, z = wr := ⟨_, rfl⟩
        subst hwwB
        have HQ := Lib.hid hq
        clear hq
        cases b
        · by_cases hn2 : n ≤ 1000
          · have hn3 : (n : Int) ≤ 1000 := by omega
            go_wp2_with fail
            go_loopw [6, 8] (fun f i wt => ∃ j : Nat, j ≤ l.length ∧ i = .int .i64 j ∧ f = .bool ((l.take j).all (okR nm (n : Int))) ∧ Ext wB wt) (fun _ i _ => l.length - (intOf i).toNat)
            case atStart => exact ⟨0, by omega, rfl, rfl, Ext.refl _⟩
            case round =>
              obtain ⟨j, hj, rfl, rfl, hE2⟩ := hrel
              obtain ⟨wC, hwwC⟩ : ∃ z : World, z = wr := ⟨_, rfl⟩
              subst hwwC
              have E2 := hb.trans (hE.trans hE2)
              by_cases hltj : j < l.length
              · obtain ⟨x, hx⟩ := some_of_lt hltj
                obtain ⟨rb, roff, cs, rfl, hrn, ⟨vr, vw, vc, rfl, hr⟩, hc⟩ := (HS.out.ext RRule.stable E2).at hx
                obtain ⟨hr1, hw1, hc1⟩ := hr
                obtain ⟨Ac, cc, rfl, lc, lc2⟩ := hc1.shape
                have k9 := Lib.hid (hc 9 _ rfl)
                have HX := Lib.hid (show (l.take (j + 1)).all (okR nm (n : Int)) = ((l.take j).all (okR nm (n : Int)) && x.counts.all (okC nm (n : Int))) from all_succ (okR nm (n : Int)) hx)
                have HC := Lib.hid hc1
                have i3 : (0 : Int) ≤ (j : Int) := by omega
                have i4 : (j : Int) < (l.length : Int) := by omega
                clear hc hx hr1 hw1 hc1 hrn
                generalize (l.take j).all (okR nm (n : Int)) = D at *
                go_wp2_with fail
                go_loopw [6, 9] (fun f i wu => ∃ q : Nat, q ≤ x.counts.length ∧ i = .int .i64 q ∧ f = .bool (D && (x.counts.take q).all (okC nm (n : Int))) ∧ Ext wC wu) (fun _ i _ => x.counts.length - (intOf i).toNat)
                case atStart => exact ⟨0, by omega, rfl, by simp, Ext.refl _⟩
                case round =>
                  obtain ⟨q, hq, rfl, rfl, hE3⟩ := hrel
                  obtain ⟨wD, hwwD⟩ : ∃ z : World, z = wr := ⟨_, rfl⟩
                  subst hwwD
                  have c9 := hE3.cell k9.out
                  by_cases hltq : q < x.counts.length
                  · obtain ⟨c, hcx⟩ := some_of_lt hltq
                    obtain ⟨b2, off2, cs2, rfl, hn2', rfl, hc2⟩ := (HC.out.ext RCount.stable hE3).at hcx
                    have q0 := hc2 0 _ rfl
                    have q1 := hc2 1 _ rfl
                    have q2 := hc2 2 _ rfl
                    simp only [Nat.add_zero] at q0
                    have HN2 := Lib.hid (all_succ (okC nm (n : Int)) hcx)
                    have j1 : (0 : Int) ≤ (q : Int) := by omega
                    have j2 : (q : Int) < (x.counts.length : Int) := by omega
                    have y1 := (hE.trans (hE2.trans hE3)).cell y0
                    clear hc2 hn2' hcx
                    generalize (x.counts.take q).all (okC nm (n : Int)) = G at *
                    go_wp2_with fail
                    have hE4 : Ext wC (wD.alloc (.cells #[.string c.thing, .int .i64 c.least, .int .i64 c.most] 122)) := by (repeat' (first | exact Ext.refl _ | assumption | refine Ext.alloc ?_ _ | refine Ext.drew ?_ | refine Ext.drewN ?_ _ | refine Ext.set ?_ (by first | exact Nat.le_refl _ | exact le1 _ | exact le2 _ | exact le3 _ | exact le4 _ | exact le5 _ | exact le6 _) _ | refine Ext.trans ?_ (by assumption)))
                    have z0 : (wD.alloc (.cells #[.string c.thing, .int .i64 c.least, .int .i64 c.most] 122)).cell? ⟨wD.heap.size, 0, none⟩ = some (.string c.thing) := World.cell?_alloc_new _ _ _ _
                    have z1 : (wD.alloc (.cells #[.string c.thing, .int .i64 c.least, .int .i64 c.most] 122)).cell? ⟨wD.heap.size, 1, none⟩ = some (.int .i64 c.least) := World.cell?_alloc_new _ _ _ _
                    have z2 : (wD.alloc (.cells #[.string c.thing, .int .i64 c.least, .int .i64 c.most] 122)).cell? ⟨wD.heap.size, 2, none⟩ = some (.int .i64 c.most) := World.cell?_alloc_new _ _ _ _
                    have y2 : (wD.alloc (.cells #[.string c.thing, .int .i64 c.least, .int .i64 c.most] 122)).cell? ⟨tb, tof + k, none⟩ = some (.string nm) := ((Ext.refl wD).alloc _).cell y1
                    clear q0 q1 q2 y1
                    generalize wD.alloc (.cells #[.string c.thing, .int .i64 c.least, .int .i64 c.most] 122) = W2 at *
                    by_cases heq : c.thing = nm
                    · have t1 : (c.thing.toList == nm.toList) = true := by rw [heq]; simp
                      by_cases hlo : (n : Int) < c.least
                      · have HO := Lib.hid (show okC nm (n : Int) c = false by unfold okC; simp [heq, hlo])
                        clear heq
                        go_wp2_with fail
                        go_quiet (fail)
                        go_wp2_with fail
                        go_roundw
                        case rel => exact ⟨q + 1, by omega, by go_num, by rw [HN2.out, HO.out]; simp, hE4.drewN _⟩
                        case measure => simp [intOf]; omega
                      · by_cases hhi : c.most < (n : Int)
                        · have HO := Lib.hid (show okC nm (n : Int) c = false by unfold okC; simp [heq, hhi])
                          clear heq
                          go_wp2_with fail
                          go_quiet (fail)
                          go_wp2_with fail
                          go_roundw
                          case rel => exact ⟨q + 1, by omega, by go_num, by rw [HN2.out, HO.out]; simp, hE4.drewN _⟩
                          case measure => simp [intOf]; omega
                        · have HO := Lib.hid (show okC nm (n : Int) c = true by unfold okC; simp [heq, hhi, hlo])
                          clear heq
                          go_wp2_with fail
                          go_quiet (fail)
                          go_wp2_with fail
                          go_roundw
                          case rel => exact ⟨q + 1, by omega, by go_num, by rw [HN2.out, HO.out]; simp, hE4.drewN _⟩
                          case measure => simp [intOf]; omega
                    · have t1 := beq_toList heq
                      have HO := Lib.hid (show okC nm (n : Int) c = true by unfold okC; simp [heq])
                      clear heq
                      go_wp2_with fail
                      go_quiet (fail)
                      go_wp2_with fail
                      go_roundw
                      case rel => exact ⟨q + 1, by omega, by go_num, by rw [HN2.out, HO.out]; simp, hE4.drewN _⟩
                      case measure => simp [intOf]; omega
                  · obtain rfl : q = x.counts.length := by omega
                    rw [List.take_length] at *
                    go_wp2_with fail
                    go_roundw
                    case rel => exact ⟨j + 1, by omega, by go_num, by rw [HX.out], hE2.trans hE3⟩
                    case measure => simp [intOf]; omega
              · obtain rfl : j = l.length := by omega
                rw [List.take_length] at *
                rw [← okN_all]
                obtain ⟨z, hz⟩ : ∃ z, okN l nm (n : Int) = z := ⟨_, rfl⟩
                rw [hz]
                have HZ := Lib.hid hz
                clear hz
                go_wp2_with fail
                go_roundw
                case rel =>
                  refine ⟨n + 1, by omega, by go_num, ⟨z, rfl, ?_⟩, hE.trans hE2⟩
                  cases z
                  · right
                    intro m hm
                    rcases Nat.lt_or_ge m n with h | h
                    · rcases HQ.out with h2 | h2
                      · cases h2
                      · exact h2 m h
                    · obtain rfl : m = n := by omega
                      exact HZ.out
                  · exact .inl rfl
                case measure => simp [intOf]; omega
          · exfalso
            rcases HQ.out with h2 | h2
            · cases h2
            · have := h2 n0 (by omega)
              rw [HN1.out] at this; cases this
        · by_cases hn2 : n ≤ 1000
          · have hn3 : (n : Int) ≤ 1000 := by omega
            go_wp2_with fail
            go_roundw
            case rel => exact ⟨k + 1, by omega, by go_num, hb.trans hE⟩
            case measure => simp [intOf]; omega
          · have hn3 : ¬ (n : Int) ≤ 1000 := by omega
            go_wp2_with fail
            go_roundw
            case rel => exact ⟨k + 1, by omega, by go_num, hb.trans hE⟩
            case measure => simp [intOf]; omega
    · obtain rfl : k = ts.length := by omega
      go_wp2_with fail
      go_loopw [11, 12] (fun f i ws => ∃ m : Nat, m ≤ 1440 ∧ i = .int .i64 m ∧ ((f = .int .i64 (-1) ∧ ∀ y : Nat, y < m → holdB l hoursSel y = true) ∨ ∃ y : Nat, f = .int .i64 y ∧ y < 1440 ∧ holdB l hoursSel y = false) ∧ Ext w ws) (fun _ i _ => 1440 - (intOf i).toNat)
      case atStart => exact ⟨0, by omega, rfl, .inl ⟨rfl, fun y h => by omega⟩, hb⟩
      case round =>
        obtain ⟨m, hm, rfl, hq, hE⟩ := hrel
        obtain ⟨wB, hwwB⟩ : ∃ z : World, z = wr := ⟨_, rfl⟩
        subst hwwB
        rcases hq with ⟨rfl, hq⟩ | ⟨y, rfl, hy, hq⟩
        · have HQ := Lib.hid hq
          clear hq
          by_cases hm2 : m < 1440
          · have hm3 : (m : Int) < 1440 := by omega
            go_wp2_with fail
            go_loopw [11, 13] (fun f i wt => ∃ j : Nat, j ≤ l.length ∧ i = .int .i64 j ∧ f = .int .i64 (minV ((l.take j).all (hourB (m : Int))) m) ∧ Ext wB wt) (fun _ i _ => l.length - (intOf i).toNat)
            case atStart => exact ⟨0, by omega, rfl, rfl, Ext.refl _⟩
            case round =>
              obtain ⟨j, hj, rfl, rfl, hE2⟩ := hrel
              by_cases hltj : j < l.length
              · obtain ⟨x, hx⟩ := some_of_lt hltj
                obtain ⟨rb, roff, cs, rfl, hrn, ⟨vr, vw, vc, rfl, hr⟩, hc⟩ := (HS.out.ext RRule.stable (hE.trans hE2)).at hx
                have k3 := hc 3 _ rfl
                have k4 := hc 4 _ rfl
                have HX := Lib.hid (show (l.take (j + 1)).all (hourB (m : Int)) = ((l.take j).all (hourB (m : Int)) && liesB (m : Int) (hoursSel x).1 (hoursSel x).2) from all_succ (hourB (m : Int)) hx)
                have C1 := fun w' => Between_c (m : Int) (hoursSel x).1 (hoursSel x).2 w'
                have i3 : (0 : Int) ≤ (j : Int) := by omega
                have i4 : (j : Int) < (l.length : Int) := by omega
                clear hc hx hr hrn
                generalize (l.take j).all (hourB (m : Int)) = D at *
                generalize liesB (m : Int) (hoursSel x).1 (hoursSel x).2 = z at *
                unfold hoursSel at C1
                replace C1 := Lib.hid C1
                cases z
                · go_wp2_with (go_at_call 68; refine (C1.out _).mono ?_; rintro e w2 ⟨rfl, hb2⟩)
                  go_roundw
                  case rel => exact ⟨j + 1, by omega, by go_num, by rw [HX.out]; simp [minV], by (repeat' (first | exact Ext.refl _ | assumption | refine Ext.alloc ?_ _ | refine Ext.drew ?_ | refine Ext.drewN ?_ _ | refine Ext.set ?_ (by first | exact Nat.le_refl _ | exact le1 _ | exact le2 _ | exact le3 _ | exact le4 _ | exact le5 _ | exact le6 _) _ | refine Ext.trans ?_ (by assumption)))⟩
                  case measure => simp [intOf]; omega
                · go_wp2_with (go_at_call 68; refine (C1.out _).mono ?_; rintro e w2 ⟨rfl, hb2⟩)
                  go_roundw
                  case rel => exact ⟨j + 1, by omega, by go_num, by rw [HX.out]; simp, by (repeat' (first | exact Ext.refl _ | assumption | refine Ext.alloc ?_ _ | refine Ext.drew ?_ | refine Ext.drewN ?_ _ | refine Ext.set ?_ (by first | exact Nat.le_refl _ | exact le1 _ | exact le2 _ | exact le3 _ | exact le4 _ | exact le5 _ | exact le6 _) _ | refine Ext.trans ?_ (by assumption)))⟩
                  case measure => simp [intOf]; omega
              · obtain rfl : j = l.length := by omega
                rw [List.take_length] at *
                rw [hours_all]
                obtain ⟨z, hz⟩ : ∃ z, holdB l hoursSel m = z := ⟨_, rfl⟩
                rw [hz]
                have HZ := Lib.hid hz
                clear hz
                cases z
                · rw [show minV (!false) m = (m : Int) from rfl]
                  go_wp2_with fail
                  go_roundw
                  case rel => exact ⟨m + 1, by omega, by go_num, .inr ⟨m, rfl, hm2, HZ.out⟩, hE.trans hE2⟩
                  case measure => simp [intOf]; omega
                · rw [show minV (!true) m = -1 from rfl]
                  go_wp2_with fail
                  go_roundw
                  case rel =>
                    refine ⟨m + 1, by omega, by go_num, .inl ⟨rfl, fun y hy => ?_⟩, hE.trans hE2⟩
                    rcases Nat.lt_or_ge y m with h | h
                    · exact HQ.out y h
                    · obtain rfl : y = m := by omega
                      exact HZ.out
                  case measure => simp [intOf]; omega
          · exfalso
            obtain ⟨y, hy, hq⟩ := HMS.out
            have := HQ.out y (by omega)
            rw [hq] at this; cases this
        · obtain ⟨d0, hd0, hd1⟩ := HDS.out y hy hq
          have HD := Lib.hid hd1
          have hy2 : ¬ (y : Int) < 0 := by omega
          have hy3 : (0 : Int) ≤ (y : Int) := by omega
          clear hq hd1
          by_cases hm2 : m < 1440
          · have hm3 : (m : Int) < 1440 := by omega
            go_wp2_with fail
            go_loopw [14] (fun i wt => ∃ d : Nat, d ≤ 2555 ∧ i = .int .i64 d ∧ (∀ q : Nat, q < d → allowedB l (1440 * (q : Int) + (y : Int)) = false) ∧ Ext w wt) (fun i _ => 2555 - (intOf i).toNat)
            case atStart => exact ⟨0, by omega, rfl, fun q h => by omega, hE⟩
            case round =>
              obtain ⟨d, hd, rfl, hq, hE2⟩ := hrel
              have HQ := Lib.hid hq
              clear hq
              by_cases hd2 : d < 2555
              · have hd3 : (d : Int) < 2555 := by omega
                have hw1 := IntWalk.i64_in (1440 * (d : Int)) (by omega)
                have hw2 := IntWalk.i64_in (1440 * (d : Int) + (y : Int)) (by omega)
                go_wp2_with (go_at_call 24; refine (F1.out (1440 * (d : Int) + (y : Int)) _ (by (repeat' (first | exact Ext.refl _ | assumption | refine Ext.alloc ?_ _ | refine Ext.drew ?_ | refine Ext.drewN ?_ _ | refine Ext.set ?_ (by first | exact Nat.le_refl _ | exact le1 _ | exact le2 _ | exact le3 _ | exact le4 _ | exact le5 _ | exact le6 _) _ | refine Ext.trans ?_ (by assumption)))) (by omega) (by omega)).mono ?_; rintro e w2 ⟨⟨b, rfl, hbx⟩, hb2⟩; have HBX := Lib.hid hbx; clear hbx; cases b)
                · go_roundw
                  case rel =>
                    refine ⟨d + 1, by omega, by go_num, fun q hq => ?_, by (repeat' (first | exact Ext.refl _ | assumption | refine Ext.alloc ?_ _ | refine Ext.drew ?_ | refine Ext.drewN ?_ _ | refine Ext.set ?_ (by first | exact Nat.le_refl _ | exact le1 _ | exact le2 _ | exact le3 _ | exact le4 _ | exact le5 _ | exact le6 _) _ | refine Ext.trans ?_ (by assumption)))⟩
                    rcases Nat.lt_or_ge q d with h | h
                    · exact HQ.out q h
                    · obtain rfl : q = d := by omega
                      cases hz : allowedB l (1440 * (q : Int) + (y : Int)) with
                      | false => rfl
                      | true =>
                        have := HBX.out.2 (fun x h1 h2 => by obtain rfl : x = 1440 * (q : Int) + (y : Int) := by omega
                                                             exact hz)
                        cases this
                  case measure => simp [intOf]; omega
                · go_ret
                  exact ⟨rfl, by (repeat' (first | exact Ext.refl _ | assumption | refine Ext.alloc ?_ _ | refine Ext.drew ?_ | refine Ext.drewN ?_ _ | refine Ext.set ?_ (by first | exact Nat.le_refl _ | exact le1 _ | exact le2 _ | exact le3 _ | exact le4 _ | exact le5 _ | exact le6 _) _ | refine Ext.trans ?_ (by assumption)))⟩
              · exfalso
                have := HQ.out d0 (by omega)
                rw [HD.out] at this; cases this
          · have hm3 : ¬ (m : Int) < 1440 := by omega
            go_wp2_with fail
            go_loopw [14] (fun i wt => ∃ d : Nat, d ≤ 2555 ∧ i = .int .i64 d ∧ (∀ q : Nat, q < d → allowedB l (1440 * (q : Int) + (y : Int)) = false) ∧ Ext w wt) (fun i _ => 2555 - (intOf i).toNat)
            case atStart => exact ⟨0, by omega, rfl, fun q h => by omega, hE⟩
            case round =>
              obtain ⟨d, hd, rfl, hq, hE2⟩ := hrel
              have HQ := Lib.hid hq
              clear hq
              by_cases hd2 : d < 2555
              · have hd3 : (d : Int) < 2555 := by omega
                have hw1 := IntWalk.i64_in (1440 * (d : Int)) (by omega)
                have hw2 := IntWalk.i64_in (1440 * (d : Int) + (y : Int)) (by omega)
                go_wp2_with (go_at_call 24; refine (F1.out (1440 * (d : Int) + (y : Int)) _ (by (repeat' (first | exact Ext.refl _ | assumption | refine Ext.alloc ?_ _ | refine Ext.drew ?_ | refine Ext.drewN ?_ _ | refine Ext.set ?_ (by first | exact Nat.le_refl _ | exact le1 _ | exact le2 _ | exact le3 _ | exact le4 _ | exact le5 _ | exact le6 _) _ | refine Ext.trans ?_ (by assumption)))) (by omega) (by omega)).mono ?_; rintro e w2 ⟨⟨b, rfl, hbx⟩, hb2⟩; have HBX := Lib.hid hbx; clear hbx; cases b)
                · go_roundw
                  case rel =>
                    refine ⟨d + 1, by omega, by go_num, fun q hq => ?_, by (repeat' (first | exact Ext.refl _ | assumption | refine Ext.alloc ?_ _ | refine Ext.drew ?_ | refine Ext.drewN ?_ _ | refine Ext.set ?_ (by first | exact Nat.le_refl _ | exact le1 _ | exact le2 _ | exact le3 _ | exact le4 _ | exact le5 _ | exact le6 _) _ | refine Ext.trans ?_ (by assumption)))⟩
                    rcases Nat.lt_or_ge q d with h | h
                    · exact HQ.out q h
                    · obtain rfl : q = d := by omega
                      cases hz : allowedB l (1440 * (q : Int) + (y : Int)) with
                      | false => rfl
                      | true =>
                        have := HBX.out.2 (fun x h1 h2 => by obtain rfl : x = 1440 * (q : Int) + (y : Int) := by omega
                                                             exact hz)
                        cases this
                  case measure => simp [intOf]; omega
                · go_ret
                  exact ⟨rfl, by (repeat' (first | exact Ext.refl _ | assumption | refine Ext.alloc ?_ _ | refine Ext.drew ?_ | refine Ext.drewN ?_ _ | refine Ext.set ?_ (by first | exact Nat.le_refl _ | exact le1 _ | exact le2 _ | exact le3 _ | exact le4 _ | exact le5 _ | exact le6 _) _ | refine Ext.trans ?_ (by assumption)))⟩
              · exfalso
                have := HQ.out d0 (by omega)
                rw [HD.out] at this; cases this
end Go.Proofs.Ytaomlmkcifpfkaa
