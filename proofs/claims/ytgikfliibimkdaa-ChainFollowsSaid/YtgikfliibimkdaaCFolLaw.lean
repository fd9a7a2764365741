/- The law ChainFollows, walked. -/
import Derived.Test.YtgikfliibimkdaaCFolC
import Derived.Test.YtgikfliibimkdaaCStrC
import Derived.Deep.RegionHeld3
namespace Go.Proofs.Ytgikfliibimkdaa
open Go.RowKit Go.Shelf

section
variable {vu vp vg vst : Value} {v : CVeh} {ps guide : List Pt} {steer : List (List Int)}
set_option maxRecDepth 100000 in
set_option maxHeartbeats 6400000 in
theorem follows_law {lead : Pt} (s d : Int) (w : World) (hs : Sl 11 RUnit w vu v.units) (hp : Pts w vp ps) (hg : Pts w vg guide) (hst : Sl 1 RNums w vst steer) :
    Calls Try.prog 7 #[vehV v vu, poseV lead vp, vg, .int .i64 s, .int .i64 d, vst] w fun e w' => e = .returned (.bool true) ∧ Ext w w' := by
  obtain ⟨o1, o2⟩ := lead
  have CL := fun w' (h : Ext w w') => long_c vu v w' (hs.ext RUnit.stable h)
  have CW := fun w => cworks_c w
  have CN := fun w' (h : Ext w w') => RLength_c vg guide w' (hg.ext h)
  have CF := fun w' (h : Ext w w') => Follow_c o1 o2 s d w' (hs.ext RUnit.stable h) (hp.ext h) (hg.ext h) (hst.ext RNums.stable h)
  have CR := fun w' (h : Ext w w') => RFollow_c o1 o2 s d w' (hs.ext RUnit.stable h) (hp.ext h) (hg.ext h) (hst.ext RNums.stable h)
  unfold FolR at CF CR
  unfold i2V at CN
  have hlb : (lenS guide).2 = 0 → 0 ≤ (lenS guide).1 ∧ (lenS guide).1 ≤ 17179869184 := fun h2 => by
    obtain ⟨he, hz, hl⟩ := lenS_0 h2
    rw [hl]
    exact longS_le he hz
  obtain ⟨⟨n, le⟩, hle⟩ : ∃ x, lenS guide = x := ⟨_, rfl⟩
  rw [hle] at CN hlb
  obtain ⟨⟨rows, fe⟩, hfo⟩ : ∃ x, followS v ((o1, o2), ps) guide s d steer = x := ⟨_, rfl⟩
  rw [hfo] at CF CR
  have HST := Lib.hid hst
  obtain ⟨A, cap, rfl, hl, hl2⟩ := hs.shape
  obtain ⟨Ap, capp, rfl⟩ := pts_shape hp
  obtain ⟨Ag, capg, rfl⟩ := pts_shape hg
  obtain ⟨As, caps, rfl, hls, hls2⟩ := hst.shape
  unfold vehV poseV at *
  simp only at *
  obtain ⟨lg, hlg⟩ : ∃ b, longB v = b := ⟨_, rfl⟩
  rw [hlg] at CL
  replace CL := Lib.hid CL
  replace CW := Lib.hid CW
  replace CN := Lib.hid CN
  replace CF := Lib.hid CF
  replace CR := Lib.hid CR
  have HLB := Lib.hid hlb
  clear hs hp hg hst hle hfo hlg hlb
  go_enter Try.func7, Try.ntmps7
  go_upto_region 1 with fail
  have E1 : Ext w ((w.alloc (.cells #[.string v.name, .slice A v.units.length cap, .int .i64 v.first, .int .i64 v.last] 24)).alloc (.cells #[.int .i64 o1, .int .i64 o2, .slice Ap ps.length capp] 29)) := ((Ext.refl w).alloc _).alloc _
  have hV1 : ((w.alloc (.cells #[.string v.name, .slice A v.units.length cap, .int .i64 v.first, .int .i64 v.last] 24)).alloc (.cells #[.int .i64 o1, .int .i64 o2, .slice Ap ps.length capp] 29)).heap[w.heap.size]? = some (.cells #[.string v.name, .slice A v.units.length cap, .int .i64 v.first, .int .i64 v.last] 24 (0, 0)) := heap_old (new_at rfl)
  have hT1 : ((w.alloc (.cells #[.string v.name, .slice A v.units.length cap, .int .i64 v.first, .int .i64 v.last] 24)).alloc (.cells #[.int .i64 o1, .int .i64 o2, .slice Ap ps.length capp] 29)).heap[w.heap.size + 1]? = some (.cells #[.int .i64 o1, .int .i64 o2, .slice Ap ps.length capp] 29 (0, 0)) := new_at (by simp)
  generalize ((w.alloc (.cells #[.string v.name, .slice A v.units.length cap, .int .i64 v.first, .int .i64 v.last] 24)).alloc (.cells #[.int .i64 o1, .int .i64 o2, .slice Ap ps.length capp] 29)) = W1 at *
  have y0 : W1.cell? ⟨w.heap.size, 0, none⟩ = some (.string v.name) := news_at hV1 0 _ rfl
  have y1 : W1.cell? ⟨w.heap.size, 1, none⟩ = some (.slice A v.units.length cap) := news_at hV1 1 _ rfl
  have y2 : W1.cell? ⟨w.heap.size, 2, none⟩ = some (.int .i64 v.first) := news_at hV1 2 _ rfl
  have y3 : W1.cell? ⟨w.heap.size, 3, none⟩ = some (.int .i64 v.last) := news_at hV1 3 _ rfl
  have t0 : W1.cell? ⟨w.heap.size + 1, 0, none⟩ = some (.int .i64 o1) := news_at hT1 0 _ rfl
  have t1 : W1.cell? ⟨w.heap.size + 1, 1, none⟩ = some (.int .i64 o2) := news_at hT1 1 _ rfl
  have t2 : W1.cell? ⟨w.heap.size + 1, 2, none⟩ = some (.slice Ap ps.length capp) := news_at hT1 2 _ rfl
  have lty := lt_of_cell y0
  have ltt := lt_of_cell t0
  have HY := Lib.hid (And.intro y0 (And.intro y1 (And.intro y2 (And.intro y3 (And.intro t0 (And.intro t1 t2))))))
  clear hV1 hT1
  go_cut [47] from 20 to 46 (fun sa wc => ∃ b, sa = .bool b ∧ Ext W1 wc)
  case first =>
    cases lg
    · rcases (show (30 : Int) < ps.length ∨ (¬ (30 : Int) < ps.length ∧ (((20 : Int) < guide.length ∧ (guide.length : Int) ≤ 256) ∨ ((20 : Int) < guide.length ∧ ¬ (guide.length : Int) ≤ 256 ∧ (400 : Int) < guide.length) ∨ ((20 : Int) < guide.length ∧ ¬ (guide.length : Int) ≤ 256 ∧ ¬ (400 : Int) < guide.length) ∨ (¬ (20 : Int) < guide.length ∧ ¬ (400 : Int) < guide.length))) by omega) with c1 | ⟨c1, ⟨c2, c3⟩ | ⟨c2, c3, c4⟩ | ⟨c2, c3, c4⟩ | ⟨c2, c4⟩⟩
      all_goals
        go_wp2_with (go_at_call 9; refine (CL.out _ (by (repeat' (first | exact Ext.refl _ | assumption | refine Ext.alloc ?_ _ | refine Ext.drew ?_ | refine Ext.drewN ?_ _ | refine Ext.set ?_ (by first | exact Nat.le_refl _ | exact le1 _ | exact le2 _ | exact le3 _ | exact le4 _ | exact le5 _ | exact le6 _) _ | refine Ext.trans ?_ (by assumption))))).mono ?_; rintro e w2 ⟨rfl, hb2⟩; replace t2 := Ext.cell hb2 t2; have ltt2 := lt_of_cell t2)
        go_meet
        exact ⟨_, rfl, by (repeat' (first | exact Ext.refl _ | assumption | refine Ext.alloc ?_ _ | refine Ext.drew ?_ | refine Ext.drewN ?_ _ | refine Ext.set ?_ (by first | exact Nat.le_refl _ | exact le1 _ | exact le2 _ | exact le3 _ | exact le4 _ | exact le5 _ | exact le6 _) _ | refine Ext.trans ?_ (by assumption)))⟩
    · go_wp2_with (go_at_call 9; refine (CL.out _ (by (repeat' (first | exact Ext.refl _ | assumption | refine Ext.alloc ?_ _ | refine Ext.drew ?_ | refine Ext.drewN ?_ _ | refine Ext.set ?_ (by first | exact Nat.le_refl _ | exact le1 _ | exact le2 _ | exact le3 _ | exact le4 _ | exact le5 _ | exact le6 _) _ | refine Ext.trans ?_ (by assumption))))).mono ?_; rintro e w2 ⟨rfl, hb2⟩; replace t2 := Ext.cell hb2 t2; have ltt2 := lt_of_cell t2)
      go_meet
      exact ⟨_, rfl, by (repeat' (first | exact Ext.refl _ | assumption | refine Ext.alloc ?_ _ | refine Ext.drew ?_ | refine Ext.drewN ?_ _ | refine Ext.set ?_ (by first | exact Nat.le_refl _ | exact le1 _ | exact le2 _ | exact le3 _ | exact le4 _ | exact le5 _ | exact le6 _) _ | refine Ext.trans ?_ (by assumption)))⟩
  case rest =>
    obtain ⟨b1, rfl, E12⟩ := hcut
    generalize wc = W2 at *
    have E2 := E1.trans E12
    cases b1
    case true =>
      go_wp2_with (go_at_call 10; refine (CW.out _).mono ?_; rintro e w2 ⟨rfl, hb2⟩)
      go_ret
      exact ⟨rfl, by (repeat' (first | exact Ext.refl _ | assumption | refine Ext.alloc ?_ _ | refine Ext.drew ?_ | refine Ext.drewN ?_ _ | refine Ext.set ?_ (by first | exact Nat.le_refl _ | exact le1 _ | exact le2 _ | exact le3 _ | exact le4 _ | exact le5 _ | exact le6 _) _ | refine Ext.trans ?_ (by assumption)))⟩
    case false =>
      go_upto_region 4 with (go_at_call 32; refine (CN.out _ (by (repeat' (first | exact Ext.refl _ | assumption | refine Ext.alloc ?_ _ | refine Ext.drew ?_ | refine Ext.drewN ?_ _ | refine Ext.set ?_ (by first | exact Nat.le_refl _ | exact le1 _ | exact le2 _ | exact le3 _ | exact le4 _ | exact le5 _ | exact le6 _) _ | refine Ext.trans ?_ (by assumption))))).mono ?_; rintro e w3 ⟨rfl, hb3⟩)
      have E13 := E12.trans hb3
      clear E12 hb3 y0 y1 y2 y3 t0 t1 t2
      go_cut [14, 71] from 49 to 70 (fun _ sb wc => ∃ b, sb = .bool b ∧ Ext w3 wc)
      case first =>
        have hq : le = 0 → 0 < d → IntKind.i64.wrap (n.tdiv d) = n.tdiv d := fun h1 h2 => by
          have h3 := HLB.out h1
          rw [Int.tdiv_eq_ediv_of_nonneg h3.1]
          have h4 := Int.ediv_le_self (a := n) d h3.1
          have h5 : 0 ≤ n / d := Int.ediv_nonneg h3.1 (by omega)
          exact IntWalk.i64_in _ (by omega)
        rcases (show ¬ le = 0 ∨ (le = 0 ∧ ¬ 0 < d) ∨ (le = 0 ∧ 0 < d ∧ ¬ 100 < n.tdiv d) ∨ (le = 0 ∧ 0 < d ∧ 100 < n.tdiv d) by omega) with c1 | ⟨c1, c2⟩ | ⟨c1, c2, c3⟩ | ⟨c1, c2, c3⟩
        · go_wp2
          go_meet
          exact ⟨_, rfl, by (repeat' (first | exact Ext.refl _ | assumption | refine Ext.alloc ?_ _ | refine Ext.drew ?_ | refine Ext.drewN ?_ _ | refine Ext.set ?_ (by first | exact Nat.le_refl _ | exact le1 _ | exact le2 _ | exact le3 _ | exact le4 _ | exact le5 _ | exact le6 _) _ | refine Ext.trans ?_ (by assumption)))⟩
        · go_wp2
          go_meet
          exact ⟨_, rfl, by (repeat' (first | exact Ext.refl _ | assumption | refine Ext.alloc ?_ _ | refine Ext.drew ?_ | refine Ext.drewN ?_ _ | refine Ext.set ?_ (by first | exact Nat.le_refl _ | exact le1 _ | exact le2 _ | exact le3 _ | exact le4 _ | exact le5 _ | exact le6 _) _ | refine Ext.trans ?_ (by assumption)))⟩
        · have hq1 := hq c1 c2
          have hd : ¬ d = 0 := by omega
          go_wp2
          go_meet
          exact ⟨_, rfl, by (repeat' (first | exact Ext.refl _ | assumption | refine Ext.alloc ?_ _ | refine Ext.drew ?_ | refine Ext.drewN ?_ _ | refine Ext.set ?_ (by first | exact Nat.le_refl _ | exact le1 _ | exact le2 _ | exact le3 _ | exact le4 _ | exact le5 _ | exact le6 _) _ | refine Ext.trans ?_ (by assumption)))⟩
        · have hq1 := hq c1 c2
          have hd : ¬ d = 0 := by omega
          go_wp2
          go_meet
          exact ⟨_, rfl, by (repeat' (first | exact Ext.refl _ | assumption | refine Ext.alloc ?_ _ | refine Ext.drew ?_ | refine Ext.drewN ?_ _ | refine Ext.set ?_ (by first | exact Nat.le_refl _ | exact le1 _ | exact le2 _ | exact le3 _ | exact le4 _ | exact le5 _ | exact le6 _) _ | refine Ext.trans ?_ (by assumption)))⟩
      case rest =>
        obtain ⟨b4, rfl, E34⟩ := hcut
        generalize wc = W4 at *
        have E14 := E13.trans E34
        clear E13 E34 E2
        cases b4
        case true =>
          go_wp2_with (go_at_call 10; refine (CW.out _).mono ?_; rintro e w2 ⟨rfl, hb2⟩)
          go_ret
          exact ⟨rfl, by (repeat' (first | exact Ext.refl _ | assumption | refine Ext.alloc ?_ _ | refine Ext.drew ?_ | refine Ext.drewN ?_ _ | refine Ext.set ?_ (by first | exact Nat.le_refl _ | exact le1 _ | exact le2 _ | exact le3 _ | exact le4 _ | exact le5 _ | exact le6 _) _ | refine Ext.trans ?_ (by assumption)))⟩
        case false =>
          go_upto_region 7 with fail
          go_loopw [15] (fun i wr => ∃ k : Nat, k ≤ steer.length ∧ i = .int .i64 k ∧ Ext W1 wr) (fun i _ => steer.length - (intOf i).toNat)
          case atStart => exact ⟨0, by omega, rfl, E14⟩
          case round =>
            obtain ⟨k, hk, rfl, E⟩ := hrel
            have EW := E1.trans E
            by_cases hlt : k < steer.length
            case pos =>
              obtain ⟨st, hst⟩ := some_of_lt hlt
              obtain ⟨sb, so, css, rfl, _, ⟨vk, rfl, hKS⟩, hcs⟩ := HST.out.at hst
              have c0 := Ext.cell EW (hcs 0 _ rfl)
              simp only [Nat.add_zero, Nat.mul_one] at c0
              obtain ⟨Ak, ck, rfl, hk1, hk2⟩ := hKS.shape
              have i1 : (0 : Int) ≤ (k : Int) := by omega
              have i2 : (k : Int) < (steer.length : Int) := by omega
              have ew := IntWalk.i64_in ((k : Int) + 1) (by omega)
              have hlc := lt_of_cell c0
              clear hst hcs hKS
              by_cases h30 : (30 : Int) < (st.length : Int)
              · go_wp2_with (go_at_call 10; refine (CW.out _).mono ?_; rintro e w2 ⟨rfl, hb2⟩)
                go_ret
                exact ⟨rfl, by (repeat' (first | exact Ext.refl _ | assumption | refine Ext.alloc ?_ _ | refine Ext.drew ?_ | refine Ext.drewN ?_ _ | refine Ext.set ?_ (by first | exact Nat.le_refl _ | exact le1 _ | exact le2 _ | exact le3 _ | exact le4 _ | exact le5 _ | exact le6 _) _ | refine Ext.trans ?_ (by assumption)))⟩
              · go_wp2_with fail
                go_roundw
                case rel => exact ⟨k + 1, hlt, by go_num, E⟩
                case measure => simp [intOf]; omega
            case neg =>
              have i1 : ¬ (k : Int) < (steer.length : Int) := by omega
              have y0 := Ext.cell E HY.out.1
              have y1 := Ext.cell E HY.out.2.1
              have y2 := Ext.cell E HY.out.2.2.1
              have y3 := Ext.cell E HY.out.2.2.2.1
              have t0 := Ext.cell E HY.out.2.2.2.2.1
              have t1 := Ext.cell E HY.out.2.2.2.2.2.1
              have t2 := Ext.cell E HY.out.2.2.2.2.2.2
              go_upto_region 13 with (first
                | (go_at_call 33; refine (CF.out _ EW).mono ?_; rintro e w5 ⟨va, rfl, ha, hb5⟩; obtain ⟨Aa, ca, rfl, hra, _⟩ := ha.shape; replace y0 := Ext.cell hb5 y0; replace y1 := Ext.cell hb5 y1; replace y2 := Ext.cell hb5 y2; replace y3 := Ext.cell hb5 y3; replace t0 := Ext.cell hb5 t0; replace t1 := Ext.cell hb5 t1; replace t2 := Ext.cell hb5 t2)
                | (go_at_call 34; refine (CR.out _ (EW.trans hb5)).mono ?_; rintro e w6 ⟨vb, rfl, hb, hb6⟩; obtain ⟨Ab, cb, rfl, _, _⟩ := hb.shape; replace ha := ha.ext RPose.stable hb6))
              have HA := Lib.hid ha
              have HB := Lib.hid hb
              have E6 := (EW.trans hb5).trans hb6
              clear ha hb hb5 hb6 y0 y1 y2 y3 t0 t1 t2
              go_upto_region 16 with fail
              go_loopw [19] (fun i wr => ∃ k : Nat, k ≤ rows.length ∧ i = .int .i64 k ∧ Ext w6 wr) (fun i _ => rows.length - (intOf i).toNat)
              case atStart => exact ⟨0, by omega, rfl, Ext.refl _⟩
              case round =>
                obtain ⟨j, hj, rfl, E8⟩ := hrel
                by_cases hlt2 : j < rows.length
                case pos =>
                  obtain ⟨⟨⟨q1, q2⟩, ql⟩, hq⟩ := some_of_lt hlt2
                  obtain ⟨ab, ao, csa, rfl, _, ⟨v1, rfl, hp1⟩, hca⟩ := HA.out.at hq
                  obtain ⟨bb, bo, csb, rfl, _, ⟨v2, rfl, hp2⟩, hcb⟩ := HB.out.at hq
                  have a0 := Ext.cell E8 (hca 0 _ rfl)
                  have a1 := Ext.cell E8 (hca 1 _ rfl)
                  have a2 := Ext.cell E8 (hca 2 _ rfl)
                  have b0 := Ext.cell E8 (hcb 0 _ rfl)
                  have b1 := Ext.cell E8 (hcb 1 _ rfl)
                  have b2 := Ext.cell E8 (hcb 2 _ rfl)
                  simp only [Nat.add_zero] at a0 b0
                  simp only at hp1 hp2
                  have CM := Lib.hid (fun w' (h : Ext wr w') => Same_c q1 q2 v1 v2 ql w' ((hp1.ext E8).ext h) ((hp2.ext E8).ext h))
                  obtain ⟨A1, c1, rfl⟩ := pts_shape hp1
                  obtain ⟨A2, c2, rfl⟩ := pts_shape hp2
                  have i3 : (0 : Int) ≤ (j : Int) := by omega
                  have i4 : (j : Int) < (rows.length : Int) := by omega
                  have ew := IntWalk.i64_in ((j : Int) + 1) (by omega)
                  clear hp1 hp2 hca hcb hq
                  have lta := lt_of_cell a0
                  have ltb := lt_of_cell b0
                  go_upto_region 18 with fail
                  go_cut [131] from 116 to 130 (fun sa wc => sa = .bool false ∧ Ext wr wc)
                  case first =>
                    go_region_held3 (fun w' => w'.cell? ⟨ab, ao + j * 3, none⟩ = some (.int .i64 q1) ∧ w'.cell? ⟨ab, ao + j * 3 + 1, none⟩ = some (.int .i64 q2) ∧ w'.cell? ⟨ab, ao + j * 3 + 2, none⟩ = some (.slice A1 ql.length c1) ∧ w'.cell? ⟨bb, bo + j * 3, none⟩ = some (.int .i64 q1) ∧ w'.cell? ⟨bb, bo + j * 3 + 1, none⟩ = some (.int .i64 q2) ∧ w'.cell? ⟨bb, bo + j * 3 + 2, none⟩ = some (.slice A2 ql.length c2)) (refine ⟨?_, ?_, ?_, ?_, ?_, ?_⟩ <;> (repeat' (with_reducible (first | assumption | refine Ext.cell hb7 ?_ | refine Ext.cell (Ext.refl _).drew ?_)))) ((go_at_call 13; (with_reducible refine (CM.out _ (by (repeat' (first | exact Ext.refl _ | assumption | refine Ext.alloc ?_ _ | refine Ext.drew ?_ | refine Ext.drewN ?_ _ | refine Ext.set ?_ (by first | exact Nat.le_refl _ | exact le1 _ | exact le2 _ | exact le3 _ | exact le4 _ | exact le5 _ | exact le6 _) _ | refine Ext.trans ?_ (by assumption))))).mono ?_); rintro e w7 ⟨rfl, hb7⟩))
                    all_goals
                      go_wp2_with fail
                      go_meet
                      exact ⟨rfl, by (repeat' (first | exact Ext.refl _ | assumption | refine Ext.alloc ?_ _ | refine Ext.drew ?_ | refine Ext.drewN ?_ _ | refine Ext.set ?_ (by first | exact Nat.le_refl _ | exact le1 _ | exact le2 _ | exact le3 _ | exact le4 _ | exact le5 _ | exact le6 _) _ | refine Ext.trans ?_ (by assumption)))⟩
                  case rest =>
                    obtain ⟨rfl, E9⟩ := hcut
                    generalize wc = W9 at *
                    go_wp2_with fail
                    go_roundw
                    case rel => exact ⟨j + 1, hlt2, by go_num, E8.trans E9⟩
                    case measure => simp [intOf]; omega
                case neg =>
                  have i3 : ¬ (j : Int) < (rows.length : Int) := by omega
                  go_wp2_with (go_at_call 10; refine (CW.out _).mono ?_; rintro e w2 ⟨rfl, hb2⟩)
                  go_ret
                  exact ⟨rfl, by (repeat' (first | exact Ext.refl _ | assumption | refine Ext.alloc ?_ _ | refine Ext.drew ?_ | refine Ext.drewN ?_ _ | refine Ext.set ?_ (by first | exact Nat.le_refl _ | exact le1 _ | exact le2 _ | exact le3 _ | exact le4 _ | exact le5 _ | exact le6 _) _ | refine Ext.trans ?_ (by assumption)))⟩
end
end Go.Proofs.Ytgikfliibimkdaa
