/- The law ChainOnward, walked. -/
import Derived.Test.YtgikfliibimkdaaCOnMem
import Derived.Test.YtgikfliibimkdaaCFolP
import Derived.Test.YtgikfliibimkdaaCPulled
import Derived.Test.YtgikfliibimkdaaCStrC
import Derived.Test.YtgikfliibimkdaaCSame
import Derived.Deep.RegionHeld3
import Derived.Deep.OwnRows
namespace Go.Proofs.Ytgikfliibimkdaa
open Go.RowKit Go.Shelf

theorem on_straight {v : CVeh} {lead behind : Pt} (h : (straightS v lead behind).2.2 = 0) : poseE v (straightS v lead behind).1 (straightS v lead behind).2.1 = 0 := by
  by_cases hE : vehE v = 0
  · cases h2 : (okPt lead && okPt behind)
    · rw [straightS_pts hE h2] at h; cases h
    · simp only [Bool.and_eq_true] at h2
      match hv : v.units with
      | [] => have := vehE_len hE; rw [hv] at this; simp at this
      | u :: us =>
        have h3 := straightS_go hE h2.1 h2.2 hv rfl rfl
        rw [h3] at h ⊢
        split at h
        · split at h
          · split at h
            · rename_i h4 h5 h6
              rw [if_pos h4, if_pos h5, if_pos h6]
              exact h6
            · cases h
          · rename_i h5; exact absurd h h5
        · rename_i h4; exact absurd h h4
  · rw [straightS_veh hE] at h; exact absurd h hE
theorem pts_offs {w : World} {x : Value} {l : List Pt} (h : Pts w x l) {b o : Nat} {u : Value} (hne : x.ownBlock ≠ some b) : Pts (w.setCell ⟨b, o, none⟩ u) x l := by
  rcases h with h | ⟨g, off, cap, rfl, h1, h2, hc⟩
  · exact .inl h
  · have hgb : g ≠ b := fun e => hne (by rw [e]; rfl)
    exact .inr ⟨g, off, cap, rfl, h1, h2, fun i hi => ⟨cell_set_ne hgb (hc i hi).1, cell_set_ne hgb (hc i hi).2⟩⟩
theorem nil_rows (W : World) : Sl 1 RNums W (.slice none 0 0) [] := ⟨none, 0, rfl, by simp, by simp, fun i x hi => by simp at hi⟩
section
variable {vu vg : Value} {v : CVeh} {guide : List Pt}
set_option maxRecDepth 100000 in
set_option maxHeartbeats 12800000 in
theorem onward_law (l1 l2 b1 b2 d keep : Int) (w : World) (hs : Sl 11 RUnit w vu v.units) (hg : Pts w vg guide) (hd0 : 0 ≤ d) (hd9 : d ≤ 65535) (hk0 : 0 ≤ keep) (hk9 : keep ≤ 255) :
    Calls Try.prog 8 #[vehV v vu, .agg #[.int .i64 l1, .int .i64 l2], .agg #[.int .i64 b1, .int .i64 b2], vg, .int .u16 d, .int .u8 keep] w fun e w' => e = .returned (.bool true) ∧ Ext w w' := by
  have CL := fun w' (h : Ext w w') => lvalid_c (v := v) w' (hs.ext RUnit.stable h)
  have CW := Lib.hid (fun w => cworks_c w)
  have CN := fun w' (h : Ext w w') => Length_c vg guide w' (hg.ext h)
  have CS := fun w' (h : Ext w w') => Straight_c l1 l2 b1 b2 w' (hs.ext RUnit.stable h)
  have CA := fun t w' (h : Ext w w') => Along_c vg guide t w' (hg.ext h)
  have CF := fun (sv : CVeh) (suv vq : Value) (q1 q2 : Int) (pq : List Pt) w' (h : Ext w w') (h1 : Sl 11 RUnit w suv sv.units) (h2 : Pts w' vq pq) => Follow_c (v := sv) (steer := []) q1 q2 0 (1 + d) w' (h1.ext RUnit.stable h) h2 (hg.ext h) (nil_rows w')
  have CT := fun (q1 q2 r1 r2 : Int) (vq vk : Value) (pq : List Pt) (zs : List Int) w' (he : Ext w w') (hpq : Pts w' vq pq) (hk : Sl 1 RNum w' vk zs) => Step_c q1 q2 r1 r2 w' (hs.ext RUnit.stable he) hpq hk
  unfold FolR at CF
  unfold StepR poseEV at CT
  unfold StrR poseEV at CS
  unfold i2V at CN
  unfold ptieV at CA
  have HSL := Lib.hid hs
  have HGL := Lib.hid hg
  have hso := fun h => on_straight (v := v) (lead := (l1, l2)) (behind := (b1, b2)) h
  obtain ⟨⟨⟨s1, s2⟩, sl, se⟩, hS⟩ : ∃ S, straightS v (l1, l2) (b1, b2) = S := ⟨_, rfl⟩
  rw [hS] at CS hso
  obtain ⟨⟨n, le⟩, hle⟩ : ∃ x, lenS guide = x := ⟨_, rfl⟩
  rw [hle] at CN
  obtain ⟨bv, hbv⟩ : ∃ b, (!longB v && decide (vehE v = 0)) = b := ⟨_, rfl⟩
  rw [hbv] at CL
  have hbv2 : bv = true → vehE v = 0 := fun e => by rw [e] at hbv; simp only [Bool.and_eq_true, decide_eq_true_eq] at hbv; exact hbv.2
  have hlb : le = 0 → 0 ≤ n ∧ n ≤ 17179869184 := fun h2 => by
    have h3 : (lenS guide).2 = 0 := by rw [hle]; exact h2
    obtain ⟨he, hz, hl⟩ := lenS_0 h3
    have h4 := longS_le he hz
    rw [← hl, hle] at h4
    exact h4
  have HLE := Lib.hid hle
  have HBV := Lib.hid hbv2
  have HLB := Lib.hid hlb
  have HSO := Lib.hid hso
  obtain ⟨A, cap, rfl, hl, hl2⟩ := hs.shape
  obtain ⟨Ag, capg, rfl⟩ := pts_shape hg
  unfold vehV poseV at *
  simp only at *
  have ewd := IntWalk.i64_in d (by omega)
  have ewd1 := IntWalk.i64_in (1 + d) (by omega)
  replace CL := Lib.hid CL
  replace CN := Lib.hid CN
  replace CS := Lib.hid CS
  replace CA := Lib.hid CA
  replace CF := Lib.hid CF
  replace CT := Lib.hid CT
  clear hs hg hS hle hbv hbv2 hlb hso
  go_enter Try.func8, Try.ntmps8
  go_upto_region 1 with fail
  have E1 : Ext w (((w.alloc (.cells #[.string v.name, .slice A v.units.length cap, .int .i64 v.first, .int .i64 v.last] 24)).alloc (.cells #[.int .i64 l1, .int .i64 l2] 26)).alloc (.cells #[.int .i64 b1, .int .i64 b2] 26)) := (((Ext.refl w).alloc _).alloc _).alloc _
  have hV1 : (((w.alloc (.cells #[.string v.name, .slice A v.units.length cap, .int .i64 v.first, .int .i64 v.last] 24)).alloc (.cells #[.int .i64 l1, .int .i64 l2] 26)).alloc (.cells #[.int .i64 b1, .int .i64 b2] 26)).heap[w.heap.size]? = some (.cells #[.string v.name, .slice A v.units.length cap, .int .i64 v.first, .int .i64 v.last] 24 (0, 0)) := heap_old (heap_old (new_at rfl))
  have hL1 : (((w.alloc (.cells #[.string v.name, .slice A v.units.length cap, .int .i64 v.first, .int .i64 v.last] 24)).alloc (.cells #[.int .i64 l1, .int .i64 l2] 26)).alloc (.cells #[.int .i64 b1, .int .i64 b2] 26)).heap[w.heap.size + 1]? = some (.cells #[.int .i64 l1, .int .i64 l2] 26 (0, 0)) := heap_old (new_at (by simp))
  have hB1 : (((w.alloc (.cells #[.string v.name, .slice A v.units.length cap, .int .i64 v.first, .int .i64 v.last] 24)).alloc (.cells #[.int .i64 l1, .int .i64 l2] 26)).alloc (.cells #[.int .i64 b1, .int .i64 b2] 26)).heap[w.heap.size + 1 + 1]? = some (.cells #[.int .i64 b1, .int .i64 b2] 26 (0, 0)) := new_at (by simp)
  generalize (((w.alloc (.cells #[.string v.name, .slice A v.units.length cap, .int .i64 v.first, .int .i64 v.last] 24)).alloc (.cells #[.int .i64 l1, .int .i64 l2] 26)).alloc (.cells #[.int .i64 b1, .int .i64 b2] 26)) = W1 at *
  have y0 : W1.cell? ⟨w.heap.size, 0, none⟩ = some (.string v.name) := news_at hV1 0 _ rfl
  have y1 : W1.cell? ⟨w.heap.size, 1, none⟩ = some (.slice A v.units.length cap) := news_at hV1 1 _ rfl
  have y2 : W1.cell? ⟨w.heap.size, 2, none⟩ = some (.int .i64 v.first) := news_at hV1 2 _ rfl
  have y3 : W1.cell? ⟨w.heap.size, 3, none⟩ = some (.int .i64 v.last) := news_at hV1 3 _ rfl
  have lty := lt_of_cell y0
  have HV1 := Lib.hid hV1
  have HL1 := Lib.hid hL1
  have HB1 := Lib.hid hB1
  clear hV1 hL1 hB1
  go_cut [40] from 28 to 39 (fun sa wc => ∃ b, sa = .bool b ∧ (b = false → bv = true ∧ (1 : Int) ≤ guide.length) ∧ Ext W1 wc)
  case first =>
    cases bv
    · go_wp2_with (go_at_call 20; refine (CL.out _ (by (repeat' (first | exact Ext.refl _ | assumption | refine Ext.alloc ?_ _ | refine Ext.drew ?_ | refine Ext.drewN ?_ _ | refine Ext.set ?_ (by first | exact Nat.le_refl _ | exact le1 _ | exact le2 _ | exact le3 _ | exact le4 _ | exact le5 _ | exact le6 _) _ | refine Ext.trans ?_ (by assumption))))).mono ?_; rintro e w2 ⟨rfl, hb2⟩)
      go_meet
      exact ⟨true, rfl, (fun h => by cases h), by (repeat' (first | exact Ext.refl _ | assumption | refine Ext.alloc ?_ _ | refine Ext.drew ?_ | refine Ext.drewN ?_ _ | refine Ext.set ?_ (by first | exact Nat.le_refl _ | exact le1 _ | exact le2 _ | exact le3 _ | exact le4 _ | exact le5 _ | exact le6 _) _ | refine Ext.trans ?_ (by assumption)))⟩
    · rcases (show (20 : Int) < guide.length ∨ (¬ (20 : Int) < guide.length ∧ (guide.length : Int) < 1) ∨ (¬ (20 : Int) < guide.length ∧ ¬ (guide.length : Int) < 1) by omega) with c1 | ⟨c1, c2⟩ | ⟨c1, c2⟩
      · go_wp2_with (go_at_call 20; refine (CL.out _ (by (repeat' (first | exact Ext.refl _ | assumption | refine Ext.alloc ?_ _ | refine Ext.drew ?_ | refine Ext.drewN ?_ _ | refine Ext.set ?_ (by first | exact Nat.le_refl _ | exact le1 _ | exact le2 _ | exact le3 _ | exact le4 _ | exact le5 _ | exact le6 _) _ | refine Ext.trans ?_ (by assumption))))).mono ?_; rintro e w2 ⟨rfl, hb2⟩)
        go_meet
        exact ⟨true, rfl, (fun h => by cases h), by (repeat' (first | exact Ext.refl _ | assumption | refine Ext.alloc ?_ _ | refine Ext.drew ?_ | refine Ext.drewN ?_ _ | refine Ext.set ?_ (by first | exact Nat.le_refl _ | exact le1 _ | exact le2 _ | exact le3 _ | exact le4 _ | exact le5 _ | exact le6 _) _ | refine Ext.trans ?_ (by assumption)))⟩
      · go_wp2_with (go_at_call 20; refine (CL.out _ (by (repeat' (first | exact Ext.refl _ | assumption | refine Ext.alloc ?_ _ | refine Ext.drew ?_ | refine Ext.drewN ?_ _ | refine Ext.set ?_ (by first | exact Nat.le_refl _ | exact le1 _ | exact le2 _ | exact le3 _ | exact le4 _ | exact le5 _ | exact le6 _) _ | refine Ext.trans ?_ (by assumption))))).mono ?_; rintro e w2 ⟨rfl, hb2⟩)
        go_meet
        exact ⟨true, rfl, (fun h => by cases h), by (repeat' (first | exact Ext.refl _ | assumption | refine Ext.alloc ?_ _ | refine Ext.drew ?_ | refine Ext.drewN ?_ _ | refine Ext.set ?_ (by first | exact Nat.le_refl _ | exact le1 _ | exact le2 _ | exact le3 _ | exact le4 _ | exact le5 _ | exact le6 _) _ | refine Ext.trans ?_ (by assumption)))⟩
      · go_wp2_with (go_at_call 20; refine (CL.out _ (by (repeat' (first | exact Ext.refl _ | assumption | refine Ext.alloc ?_ _ | refine Ext.drew ?_ | refine Ext.drewN ?_ _ | refine Ext.set ?_ (by first | exact Nat.le_refl _ | exact le1 _ | exact le2 _ | exact le3 _ | exact le4 _ | exact le5 _ | exact le6 _) _ | refine Ext.trans ?_ (by assumption))))).mono ?_; rintro e w2 ⟨rfl, hb2⟩)
        go_meet
        exact ⟨_, rfl, (fun _ => ⟨trivial, by omega⟩), by (repeat' (first | exact Ext.refl _ | assumption | refine Ext.alloc ?_ _ | refine Ext.drew ?_ | refine Ext.drewN ?_ _ | refine Ext.set ?_ (by first | exact Nat.le_refl _ | exact le1 _ | exact le2 _ | exact le3 _ | exact le4 _ | exact le5 _ | exact le6 _) _ | refine Ext.trans ?_ (by assumption)))⟩
  case rest =>
    obtain ⟨bx, rfl, hbx, E12⟩ := hcut
    generalize wc = W2 at *
    have E2 := E1.trans E12
    cases bx
    case true =>
      clear hbx
      go_wp2_with (go_at_call 10; refine (CW.out _).mono ?_; rintro e w2 ⟨rfl, hb2⟩)
      go_ret
      exact ⟨rfl, by (repeat' (first | exact Ext.refl _ | assumption | refine Ext.alloc ?_ _ | refine Ext.drew ?_ | refine Ext.drewN ?_ _ | refine Ext.set ?_ (by first | exact Nat.le_refl _ | exact le1 _ | exact le2 _ | exact le3 _ | exact le4 _ | exact le5 _ | exact le6 _) _ | refine Ext.trans ?_ (by assumption)))⟩
    case false =>
      obtain ⟨hbt, hgl⟩ := hbx rfl
      have hE := HBV.out hbt
      have HE := Lib.hid hE
      clear hbx hbt hE
      go_upto_region 5 with (go_at_call 35; refine (CN.out _ (by (repeat' (first | exact Ext.refl _ | assumption | refine Ext.alloc ?_ _ | refine Ext.drew ?_ | refine Ext.drewN ?_ _ | refine Ext.set ?_ (by first | exact Nat.le_refl _ | exact le1 _ | exact le2 _ | exact le3 _ | exact le4 _ | exact le5 _ | exact le6 _) _ | refine Ext.trans ?_ (by assumption))))).mono ?_; rintro e w3 ⟨rfl, hb3⟩)
      have E13 := E12.trans hb3
      clear E12 hb3 y0 y1 y2 y3 E2
      go_cut [14, 57] from 41 to 56 (fun _ sb wc => ∃ b, sb = .bool b ∧ (b = false → le = 0 ∧ n.tdiv (1 + d) ≤ 60) ∧ Ext W1 wc)
      case first =>
        by_cases c1 : le = 0
        · have hnb := HLB.out c1
          have hq : IntKind.i64.wrap (n.tdiv (1 + d)) = n.tdiv (1 + d) := by
            rw [Int.tdiv_eq_ediv_of_nonneg hnb.1]
            have h4 := Int.ediv_le_self (a := n) (1 + d) hnb.1
            have h5 : 0 ≤ n / (1 + d) := Int.ediv_nonneg hnb.1 (by omega)
            exact IntWalk.i64_in _ (by omega)
          have hdz : ¬ 1 + d = 0 := by omega
          by_cases c2 : 60 < n.tdiv (1 + d)
          · go_wp2
            go_meet
            exact ⟨true, rfl, (fun h => by cases h), E13⟩
          · have hc := Lib.hid (And.intro c1 c2)
            go_wp2
            go_meet
            exact ⟨_, rfl, (fun _ => ⟨hc.out.1, by have := hc.out.2; omega⟩), E13⟩
        · go_wp2
          go_meet
          exact ⟨true, rfl, (fun h => by cases h), E13⟩
      case rest =>
        obtain ⟨bx, rfl, hbx, E14⟩ := hcut
        generalize wc = W4 at *
        clear E13
        cases bx
        case true =>
          clear hbx
          go_wp2_with (go_at_call 10; refine (CW.out _).mono ?_; rintro e w2 ⟨rfl, hb2⟩)
          go_ret
          exact ⟨rfl, by (repeat' (first | exact Ext.refl _ | assumption | refine Ext.alloc ?_ _ | refine Ext.drew ?_ | refine Ext.drewN ?_ _ | refine Ext.set ?_ (by first | exact Nat.le_refl _ | exact le1 _ | exact le2 _ | exact le3 _ | exact le4 _ | exact le5 _ | exact le6 _) _ | refine Ext.trans ?_ (by assumption)))⟩
        case false =>
          have HQ := Lib.hid (hbx rfl)
          clear hbx
          have y0 : W4.cell? ⟨w.heap.size, 0, none⟩ = some (.string v.name) := news_at (E14.blk HV1.out) 0 _ rfl
          have y1 : W4.cell? ⟨w.heap.size, 1, none⟩ = some (.slice A v.units.length cap) := news_at (E14.blk HV1.out) 1 _ rfl
          have y2 : W4.cell? ⟨w.heap.size, 2, none⟩ = some (.int .i64 v.first) := news_at (E14.blk HV1.out) 2 _ rfl
          have y3 : W4.cell? ⟨w.heap.size, 3, none⟩ = some (.int .i64 v.last) := news_at (E14.blk HV1.out) 3 _ rfl
          have g0 : W4.cell? ⟨w.heap.size + 1, 0, none⟩ = some (.int .i64 l1) := news_at (E14.blk HL1.out) 0 _ rfl
          have g1 : W4.cell? ⟨w.heap.size + 1, 1, none⟩ = some (.int .i64 l2) := news_at (E14.blk HL1.out) 1 _ rfl
          have g2 : W4.cell? ⟨w.heap.size + 1 + 1, 0, none⟩ = some (.int .i64 b1) := news_at (E14.blk HB1.out) 0 _ rfl
          have g3 : W4.cell? ⟨w.heap.size + 1 + 1, 1, none⟩ = some (.int .i64 b2) := news_at (E14.blk HB1.out) 1 _ rfl
          have E04 := E1.trans E14
          go_upto_region 8 with (go_at_call 11; refine (CS.out _ E04).mono ?_; rintro e w5 ⟨vz, rfl, hpz, hb5⟩; obtain ⟨As, cs, rfl⟩ := pts_shape hpz)
          have h56 : Ext w5 (w5.alloc (.cells #[.int .i64 s1, .int .i64 s2, .slice As sl.length cs] 29)) := (Ext.refl w5).alloc _
          have hT6 : (w5.alloc (.cells #[.int .i64 s1, .int .i64 s2, .slice As sl.length cs] 29)).heap[w5.heap.size]? = some (.cells #[.int .i64 s1, .int .i64 s2, .slice As sl.length cs] 29 (0, 0)) := new_at rfl
          have hp6 := hpz.ext h56
          have E16 := (E14.trans hb5).trans h56
          have E15 := E14.trans hb5
          generalize (w5.alloc (.cells #[.int .i64 s1, .int .i64 s2, .slice As sl.length cs] 29)) = W6 at *
          obtain ⟨T, hT⟩ : ∃ x, w5.heap.size = x := ⟨_, rfl⟩
          rw [hT] at hT6 ⊢
          have HT := Lib.hid hT
          have HPZ := Lib.hid hpz
          have HT6 := Lib.hid hT6
          have HP6 := Lib.hid hp6
          clear y0 y1 y2 y3 g0 g1 g2 g3 hT hpz hp6 hT6 E14 h56 hb5 E04
          by_cases hse : se = 0
          case neg =>
            go_wp2_with (go_at_call 10; refine (CW.out _).mono ?_; rintro e w2 ⟨rfl, hb2⟩)
            go_ret
            exact ⟨rfl, by (repeat' (first | exact Ext.refl _ | assumption | refine Ext.alloc ?_ _ | refine Ext.drew ?_ | refine Ext.drewN ?_ _ | refine Ext.set ?_ (by first | exact Nat.le_refl _ | exact le1 _ | exact le2 _ | exact le3 _ | exact le4 _ | exact le5 _ | exact le6 _) _ | refine Ext.trans ?_ (by assumption)))⟩
          case pos =>
            have hp0 := HSO.out hse
            have hpl := puts_len hp0
            have hvl := vehE_len HE.out
            obtain ⟨kk, hkk⟩ : ∃ kk : Nat, (kk : Int) = 1 + keep % (v.units.length : Int) := ⟨(1 + keep % (v.units.length : Int)).toNat, by have := Int.emod_nonneg keep (b := (v.units.length : Int)) (by omega); omega⟩
            have hkb : 1 ≤ kk ∧ kk ≤ v.units.length := by
              have h1 := Int.emod_nonneg keep (b := (v.units.length : Int)) (by omega)
              have h2 := Int.emod_lt_of_pos keep (b := (v.units.length : Int)) (by omega)
              omega
            obtain ⟨⟨rows, fe⟩, hfo⟩ : ∃ x, followS v ((s1, s2), sl) guide 0 (1 + d) [] = x := ⟨_, rfl⟩
            have hall := on_all (v := v) (old := ((s1, s2), sl)) (guide := guide) (step := 1 + d) (k := kk) hp0 (by rw [HLE.out]; exact HQ.out.1) (by omega) (by omega) (by rw [HLE.out]; exact HQ.out.2) hkb.1 hkb.2 hfo
            rw [HLE.out] at hall
            simp only at hall
            have CF1 := fun w' (h : Ext w w') (h2 : Pts w' (.slice As sl.length cs) sl) => CF.out v (.slice A v.units.length cap) (.slice As sl.length cs) s1 s2 sl w' h HSL.out h2
            rw [hfo] at CF1
            simp only at CF1
            replace CF1 := Lib.hid CF1
            have y0 : W6.cell? ⟨w.heap.size, 0, none⟩ = some (.string v.name) := news_at (E16.blk HV1.out) 0 _ rfl
            have y1 : W6.cell? ⟨w.heap.size, 1, none⟩ = some (.slice A v.units.length cap) := news_at (E16.blk HV1.out) 1 _ rfl
            have y2 : W6.cell? ⟨w.heap.size, 2, none⟩ = some (.int .i64 v.first) := news_at (E16.blk HV1.out) 2 _ rfl
            have y3 : W6.cell? ⟨w.heap.size, 3, none⟩ = some (.int .i64 v.last) := news_at (E16.blk HV1.out) 3 _ rfl
            have t0 : W6.cell? ⟨T, 0, none⟩ = some (.int .i64 s1) := news_at HT6.out 0 _ rfl
            have t1 : W6.cell? ⟨T, 1, none⟩ = some (.int .i64 s2) := news_at HT6.out 1 _ rfl
            have t2 : W6.cell? ⟨T, 2, none⟩ = some (.slice As sl.length cs) := news_at HT6.out 2 _ rfl
            have lt6 := lt_of_cell t0
            have E06 := E1.trans E16
            have HP0 := Lib.hid hp0
            have HKK := Lib.hid hkk
            have HKB := Lib.hid hkb
            have HVL := Lib.hid hvl
            have HPL := Lib.hid hpl
            clear hfo hp0 hpl hvl hkk hkb
            go_upto_region 11 with (go_at_call 33; refine (CF1.out _ E06 HP6.out).mono ?_; rintro e w7 ⟨va, rfl, ha, hna, hb7⟩; obtain ⟨A1, c1, rfl, _, _⟩ := ha.shape)
            have E17 := E16.trans hb7
            rcases hall with hfe | ⟨rfl, hsh, hr1, hr2, hst, hlast⟩
            · rcases hfe with rfl | rfl
              all_goals
                clear ha hna
                go_wp2_with (go_at_call 10; refine (CW.out _).mono ?_; rintro e w2 ⟨rfl, hb2⟩)
                go_ret
                exact ⟨rfl, by (repeat' (first | exact Ext.refl _ | assumption | refine Ext.alloc ?_ _ | refine Ext.drew ?_ | refine Ext.drewN ?_ _ | refine Ext.set ?_ (by first | exact Nat.le_refl _ | exact le1 _ | exact le2 _ | exact le3 _ | exact le4 _ | exact le5 _ | exact le6 _) _ | refine Ext.trans ?_ (by assumption)))⟩
            · have HSH := Lib.hid hsh
              have HST := Lib.hid hst
              have HLAST := Lib.hid hlast
              have HA := Lib.hid ha
              have HNA := Lib.hid hna
              have HR := Lib.hid (And.intro hr1 hr2)
              have h67 := hb7
              clear hsh hst hlast ha hna hr1 hr2 hb7 y0 y1 y2 y3 t0 t1 t2
              have y0 : w7.cell? ⟨w.heap.size, 0, none⟩ = some (.string v.name) := news_at (E17.blk HV1.out) 0 _ rfl
              have y1 : w7.cell? ⟨w.heap.size, 1, none⟩ = some (.slice A v.units.length cap) := news_at (E17.blk HV1.out) 1 _ rfl
              have y2 : w7.cell? ⟨w.heap.size, 2, none⟩ = some (.int .i64 v.first) := news_at (E17.blk HV1.out) 2 _ rfl
              have y3 : w7.cell? ⟨w.heap.size, 3, none⟩ = some (.int .i64 v.last) := news_at (E17.blk HV1.out) 3 _ rfl
              have lt7 := lt_of_cell y0
              go_upto_region 14 with fail
              have h78 : Ext w7 (w7.alloc (.cells #[.string v.name, .slice A v.units.length cap, .int .i64 v.first, .int .i64 v.last] 24)) := (Ext.refl w7).alloc _
              have hD8 : (w7.alloc (.cells #[.string v.name, .slice A v.units.length cap, .int .i64 v.first, .int .i64 v.last] 24)).heap[w7.heap.size]? = some (.cells #[.string v.name, .slice A v.units.length cap, .int .i64 v.first, .int .i64 v.last] 24 (0, 0)) := new_at rfl
              generalize (w7.alloc (.cells #[.string v.name, .slice A v.units.length cap, .int .i64 v.first, .int .i64 v.last] 24)) = W8 at *
              replace y0 := Ext.cell h78 y0
              replace y1 := Ext.cell h78 y1
              have d0 : W8.cell? ⟨w7.heap.size, 0, none⟩ = some (.string v.name) := news_at hD8 0 _ rfl
              have d1 : W8.cell? ⟨w7.heap.size, 1, none⟩ = some (.slice A v.units.length cap) := news_at hD8 1 _ rfl
              have d2 : W8.cell? ⟨w7.heap.size, 2, none⟩ = some (.int .i64 v.first) := news_at hD8 2 _ rfl
              have d3 : W8.cell? ⟨w7.heap.size, 3, none⟩ = some (.int .i64 v.last) := news_at hD8 3 _ rfl
              have f0 := blk_frz hD8 0
              have f1 := blk_frz hD8 1
              have f2 := blk_frz hD8 2
              have f3 := blk_frz hD8 3
              have lt8 := lt_of_cell d0
              have lt9 := lt_of_cell y0
              have hmz : ¬ (v.units.length : Int) = 0 := by have := HVL.out; omega
              have ek0 := IntWalk.i64_in keep (by omega)
              have ek9 : keep.tmod (v.units.length : Int) = keep % (v.units.length : Int) := Int.tmod_eq_emod_of_nonneg hk0
              have hne : ¬ v.units = [] := fun e => hmz (by rw [e]; rfl)
              have ek1 : IntKind.i64.wrap (keep % (v.units.length : Int)) = keep % (v.units.length : Int) := IntWalk.i64_in _ (by have := HKK.out; have := HKB.out; have := HVL.out; omega)
              have ek2 : IntKind.i64.wrap (1 + keep % (v.units.length : Int)) = (kk : Int) := (IntWalk.i64_in _ (by have := HKK.out; have := HKB.out; have := HVL.out; omega)).trans HKK.out.symm
              have ek3 : (0 : Int) ≤ (kk : Int) := by omega
              have ek4 : (kk : Int) ≤ (cap : Int) := by have := HKB.out; omega
              go_wp2_with fail
              go_region
              have hD9 : (W8.setCell ⟨w7.heap.size, 1, none⟩ (.slice A kk cap)).drew.heap[w7.heap.size]? = some (.cells #[.string v.name, .slice A kk cap, .int .i64 v.first, .int .i64 v.last] 24 (0, 0)) := by
                have := blk_set 1 (.slice A kk cap) hD8
                have h2 : (W8.setCell ⟨w7.heap.size, 1, none⟩ (.slice A kk cap)).heap[w7.heap.size]? = some (.cells #[.string v.name, .slice A kk cap, .int .i64 v.first, .int .i64 v.last] 24 (0, 0)) := by simpa using this
                exact h2
              have E79 : Ext w7 (W8.setCell ⟨w7.heap.size, 1, none⟩ (.slice A kk cap)).drew := (h78.set (p := ⟨w7.heap.size, 1, none⟩) (Nat.le_refl _) _).drew
              generalize (W8.setCell ⟨w7.heap.size, 1, none⟩ (.slice A kk cap)).drew = W9 at *
              clear d0 d1 d2 d3 f0 f1 f2 f3 hD8 h78 y0 y1 y2 y3 lt8 lt9 ek9 ek0 ek1 ek2
              have d0 : W9.cell? ⟨w7.heap.size, 0, none⟩ = some (.string v.name) := news_at hD9 0 _ rfl
              have d1 : W9.cell? ⟨w7.heap.size, 1, none⟩ = some (.slice A kk cap) := news_at hD9 1 _ rfl
              have d2 : W9.cell? ⟨w7.heap.size, 2, none⟩ = some (.int .i64 v.first) := news_at hD9 2 _ rfl
              have d3 : W9.cell? ⟨w7.heap.size, 3, none⟩ = some (.int .i64 v.last) := news_at hD9 3 _ rfl
              have f2 := blk_frz hD9 2
              have f3 := blk_frz hD9 3
              have lt8 := lt_of_cell d0
              go_upto_region 16 with fail
              have hDa : ((W9.setCell ⟨w7.heap.size, 2, none⟩ (.int .i64 0)).setCell ⟨w7.heap.size, 3, none⟩ (.int .i64 0)).heap[w7.heap.size]? = some (.cells #[.string v.name, .slice A kk cap, .int .i64 0, .int .i64 0] 24 (0, 0)) := by
                have := blk_set 3 (.int .i64 0) (blk_set 2 (.int .i64 0) hD9)
                simpa using this
              have E7a : Ext w7 ((W9.setCell ⟨w7.heap.size, 2, none⟩ (.int .i64 0)).setCell ⟨w7.heap.size, 3, none⟩ (.int .i64 0)) := (E79.set (p := ⟨w7.heap.size, 2, none⟩) (Nat.le_refl _) _).set (p := ⟨w7.heap.size, 3, none⟩) (Nat.le_refl _) _
              generalize ((W9.setCell ⟨w7.heap.size, 2, none⟩ (.int .i64 0)).setCell ⟨w7.heap.size, 3, none⟩ (.int .i64 0)) = Wa at *
              clear d0 d1 d2 d3 f2 f3 hD9 E79 lt8
              have E6a := h67.trans E7a
              have E1a := E17.trans E7a
              have E0a := E1.trans E1a
              have hTa := E6a.blk HT6.out
              have hpa := HP6.out.ext E6a
              have hlD := fst_lt hDa
              have hTD : T < w7.heap.size := Nat.lt_of_lt_of_le lt6 h67.sz
              obtain ⟨D, hDn⟩ : ∃ x, w7.heap.size = x := ⟨_, rfl⟩
              rw [hDn] at hDa hlD hTD ⊢
              have d0 : Wa.cell? ⟨D, 0, none⟩ = some (.string v.name) := news_at hDa 0 _ rfl
              have d1 : Wa.cell? ⟨D, 1, none⟩ = some (.slice A kk cap) := news_at hDa 1 _ rfl
              have d2 : Wa.cell? ⟨D, 2, none⟩ = some (.int .i64 0) := news_at hDa 2 _ rfl
              have d3 : Wa.cell? ⟨D, 3, none⟩ = some (.int .i64 0) := news_at hDa 3 _ rfl
              have t0 : Wa.cell? ⟨T, 0, none⟩ = some (.int .i64 s1) := news_at hTa 0 _ rfl
              have t1 : Wa.cell? ⟨T, 1, none⟩ = some (.int .i64 s2) := news_at hTa 1 _ rfl
              have t2 : Wa.cell? ⟨T, 2, none⟩ = some (.slice As sl.length cs) := news_at hTa 2 _ rfl
              have hlt := fst_lt hTa
              have CF2 := fun w' (h : Ext Wa w') => CF.out (shortV v kk) (.slice A kk cap) (.slice As kk cs) s1 s2 (sl.take kk) w' (E0a.trans h) (HSL.out.take HKB.out.2) ((hpa.ext h).take (by have := HPL.out.2.2; have := HKB.out.2; omega))
              rw [HSH.out] at CF2
              have HCF2 : RowKit.Hid (∀ w', Ext Wa w' → Calls Try.prog 33 #[.agg #[.string v.name, .slice A kk cap, .int .i64 0, .int .i64 0], .agg #[.int .i64 s1, .int .i64 s2, .slice As kk cs], .slice Ag guide.length capg, .int .i64 0, .int .i64 (1 + d), .slice none 0 0] w' fun e w'_1 => ∃ va, e = .returned (.tuple #[va, .int .i64 0]) ∧ Sl 3 (RPose w'.heap.size) w'_1 va (rows.map (fun q => (q.1, q.2.take kk))) ∧ (∀ g, va.ownBlock = some g → w'.heap.size ≤ g) ∧ Ext w' w'_1) := CF2
              have hmin : min (sl.length : Int) (kk : Int) = (kk : Int) := by have := HPL.out.2.2; have := HKB.out.2; omega
              have ek5 : (kk : Int) ≤ (cs : Int) := by
                have h1 := HPL.out.2.2
                have h2 := HKB.out
                rcases hpa with ⟨_, _, _, h3⟩ | ⟨_, _, _, h3, _, h4, _⟩
                · rw [h3] at h1; simp at h1; omega
                · simp only [Value.slice.injEq] at h3; omega
              have nTD : T ≠ D := by omega
              have HTa := Lib.hid hTa
              have HDa := Lib.hid hDa
              have HPa := Lib.hid hpa
              have HTD := Lib.hid hTD
              have HE7 := Lib.hid E7a
              clear CF2 hTa hDa hpa E7a E6a hDn hTD
              go_cut [14, 19] from 102 to 121 (fun sb sa wc => ∃ vf, sa = vf ∧ sb = .int .i64 0 ∧ Sl 3 (RPose Wa.heap.size) wc vf (rows.map (fun q => (q.1, q.2.take kk))) ∧ (∀ g, vf.ownBlock = some g → Wa.heap.size ≤ g) ∧ Ext Wa wc)
              case first =>
                go_region_held3 (fun w' => w'.cell? ⟨D, 0, none⟩ = some (.string v.name) ∧ w'.cell? ⟨D, 1, none⟩ = some (.slice A kk cap) ∧ w'.cell? ⟨D, 2, none⟩ = some (.int .i64 0) ∧ w'.cell? ⟨D, 3, none⟩ = some (.int .i64 0) ∧ w'.cell? ⟨T, 0, none⟩ = some (.int .i64 s1) ∧ w'.cell? ⟨T, 1, none⟩ = some (.int .i64 s2) ∧ w'.cell? ⟨T, 2, none⟩ = some (.slice As sl.length cs)) (refine ⟨?_, ?_, ?_, ?_, ?_, ?_, ?_⟩ <;> (repeat' (with_reducible (first | assumption | refine Ext.cell hbF ?_ | refine Ext.cell (Ext.refl _).drew ?_)))) ((go_at_call 33; (with_reducible refine (HCF2.out _ (by (repeat' (first | exact Ext.refl _ | assumption | refine Ext.alloc ?_ _ | refine Ext.drew ?_ | refine Ext.drewN ?_ _ | refine Ext.set ?_ (by first | exact Nat.le_refl _ | exact le1 _ | exact le2 _ | exact le3 _ | exact le4 _ | exact le5 _ | exact le6 _) _ | refine Ext.trans ?_ (by assumption))))).mono ?_); rintro e wF ⟨vf, rfl, hf, hnf, hbF⟩))
                all_goals
                  go_wp2_with fail
                  go_meet
                  exact ⟨_, rfl, rfl, hf, hnf, by (repeat' (first | exact Ext.refl _ | assumption | refine Ext.alloc ?_ _ | refine Ext.drew ?_ | refine Ext.drewN ?_ _ | refine Ext.set ?_ (by first | exact Nat.le_refl _ | exact le1 _ | exact le2 _ | exact le3 _ | exact le4 _ | exact le5 _ | exact le6 _) _ | refine Ext.trans ?_ (by assumption)))⟩
              case rest =>
                obtain ⟨vf, rfl, rfl, hf, hnf, Eab⟩ := hcut
                generalize wc = Wb at *
                have E1b := E1a.trans Eab
                have HTb := Lib.hid (Eab.blk HTa.out)
                have HDb := Lib.hid (Eab.blk HDa.out)
                have HPb := Lib.hid (HPa.out.ext Eab)
                have HAb := Lib.hid ((HA.out.ext RPose.stable HE7.out).ext RPose.stable Eab)
                obtain ⟨Af, cf, rfl, _, _⟩ := hf.shape
                rw [List.length_map] at hf hnf ⊢
                have HF := Lib.hid hf
                have HNF := Lib.hid hnf
                have hr0 : ¬ (rows.length : Int) < 1 := by have := HR.out; omega
                have hwT : W1.heap.size ≤ T := by have := E15.sz; have := HT.out; omega
                have HWT := Lib.hid hwT
                have hT6 : T < W6.heap.size := lt6
                have h6a : W6.heap.size ≤ Wa.heap.size := by have := h67.sz; have := HE7.out.sz; omega
                clear hf hnf d0 d1 d2 d3 t0 t1 t2 hwT E1a E0a E17 E16 E06 h67 Eab
                go_upto_region 20 with fail
                go_loopw [20] (fun i wr => ∃ (j : Nat) (p : CPos) (vx : Value), j ≤ rows.length ∧ i = .int .i64 j ∧ Wb.grownBy wr (some T) ∧ wr.heap[T]? = some (.cells #[.int .i64 p.1.1, .int .i64 p.1.2, vx] 29 (0, 0)) ∧ Pts wr vx p.2 ∧ folK v ((s1, s2), sl) (leadF guide 0 (1 + d) n) (zerosF v) j = .inl (p, rows.take j)) (fun i _ => rows.length - (intOf i).toNat)
                case atStart => exact ⟨0, ((s1, s2), sl), _, by omega, rfl, grown_refl _ _, HTb.out, HPb.out, rfl⟩
                case round =>
                  obtain ⟨j, p, vx, hj, rfl, G, hTr, hpx, hfk⟩ := hrel
                  have E1r := ext_grown E1b G HWT.out
                  have EWr := E1.trans E1r
                  by_cases hlt : j < rows.length
                  case pos =>
                    obtain ⟨p', ⟨⟨x1, x2⟩, xl⟩, hk1, hq, hstp, hk2⟩ := HST.out j hlt
                    have hpe := hfk.symm.trans hk1
                    simp only [Sum.inl.injEq, Prod.mk.injEq, and_true] at hpe
                    subst hpe
                    obtain ⟨⟨p1, p2⟩, pl⟩ := p
                    obtain ⟨Ax, cx, rfl⟩ := pts_shape hpx
                    simp only at hTr hpx hstp
                    obtain ⟨hxl, _⟩ := on_lens (v := v) (p := ((p1, p2), pl)) (q := ((x1, x2), xl)) (f := leadF guide 0 (1 + d) n) (i := j) hstp
                    simp only at hxl
                    have hjs0 : 0 ≤ (j : Int) * (1 + d) := Int.mul_nonneg (by omega) (by omega)
                    have hjs1 : (j : Int) * (1 + d) ≤ 62 * 65536 := Int.mul_le_mul (by have := HR.out; omega) (by omega) (by omega) (by omega)
                    obtain ⟨⟨⟨r1, r2⟩, ix⟩, hAt⟩ : ∃ x, atS guide (min ((j : Int) * (1 + d)) n) = x := ⟨_, rfl⟩
                    have CAk := fun w' (he : Ext w w') => CA.out (min ((j : Int) * (1 + d)) n) w' he
                    rw [alongS_in (by rw [HLE.out]; exact HQ.out.1) (by rw [HLE.out, inB_iff]; have := HLB.out HQ.out.1; simp only; omega), hAt] at CAk
                    simp only at CAk
                    have hlead : leadF guide 0 (1 + d) n j = (r1, r2) := by unfold leadF; rw [Int.zero_add, hAt]
                    rw [hlead] at hstp
                    have ewj := IntWalk.i64_in ((j : Int) * (1 + d)) (by omega)
                    have ewj1 := IntWalk.i64_in ((j : Int) + 1) (by have := HR.out; omega)
                    have i1 : (0 : Int) ≤ (j : Int) := by omega
                    have i2 : (j : Int) < (rows.length : Int) := by omega
                    have CAk := Lib.hid CAk
                    have HPX := Lib.hid hpx
                    have HTr := Lib.hid hTr
                    have HSTP := Lib.hid hstp
                    have HQJ := Lib.hid hq
                    have HXL := Lib.hid hxl
                    have HFK := Lib.hid hk2
                    have HLT := Lib.hid hlt
                    clear hTr hpx hfk hk1 hq hstp hk2 hxl hAt hlead hjs0 hjs1 hlt hj
                    go_upto_region 24 with (go_at_call 36; refine (CAk.out _ EWr).mono ?_; rintro e wL ⟨rfl, hbL⟩)
                    have hLc : (wL.alloc (.cells #[.int .i64 r1, .int .i64 r2] 26)).heap[wL.heap.size]? = some (.cells #[.int .i64 r1, .int .i64 r2] 26 (0, 0)) := new_at rfl
                    have Erc := hbL.trans ((Ext.refl wL).alloc (.cells #[.int .i64 r1, .int .i64 r2] 26))
                    generalize (wL.alloc (.cells #[.int .i64 r1, .int .i64 r2] 26)) = Wc at *
                    obtain ⟨Lb, hLb⟩ : ∃ x, wL.heap.size = x := ⟨_, rfl⟩
                    rw [hLb] at hLc ⊢
                    clear hLb hbL
                    have EWc := EWr.trans Erc
                    have E1c := E1r.trans Erc
                    have y0 : Wc.cell? ⟨w.heap.size, 0, none⟩ = some (.string v.name) := news_at (E1c.blk HV1.out) 0 _ rfl
                    have y1 : Wc.cell? ⟨w.heap.size, 1, none⟩ = some (.slice A v.units.length cap) := news_at (E1c.blk HV1.out) 1 _ rfl
                    have y2 : Wc.cell? ⟨w.heap.size, 2, none⟩ = some (.int .i64 v.first) := news_at (E1c.blk HV1.out) 2 _ rfl
                    have y3 : Wc.cell? ⟨w.heap.size, 3, none⟩ = some (.int .i64 v.last) := news_at (E1c.blk HV1.out) 3 _ rfl
                    have t0 : Wc.cell? ⟨T, 0, none⟩ = some (.int .i64 p1) := news_at (Erc.blk HTr.out) 0 _ rfl
                    have t1 : Wc.cell? ⟨T, 1, none⟩ = some (.int .i64 p2) := news_at (Erc.blk HTr.out) 1 _ rfl
                    have t2 : Wc.cell? ⟨T, 2, none⟩ = some (.slice Ax pl.length cx) := news_at (Erc.blk HTr.out) 2 _ rfl
                    have L0 : Wc.cell? ⟨Lb, 0, none⟩ = some (.int .i64 r1) := news_at hLc 0 _ rfl
                    have L1 : Wc.cell? ⟨Lb, 1, none⟩ = some (.int .i64 r2) := news_at hLc 1 _ rfl
                    have CTj := fun w' (he : Ext Wc w') vst (hst : Sl 1 RNum w' vst (List.replicate v.units.length 0)) => CT.out p1 p2 r1 r2 (.slice Ax pl.length cx) vst pl (List.replicate v.units.length 0) w' (EWc.trans he) ((HPX.out.ext Erc).ext he) hst
                    have hstp : stepS v (p1, p2) pl (r1, r2) (List.replicate v.units.length 0) = ((x1, x2), xl, 0) := HSTP.out
                    rw [hstp] at CTj
                    simp only at CTj
                    have hmk := run_make_row' (P := Try.prog) 42 3 (.int .i64 0) 8 Try.underlying42 infoInt rfl .i64 .i64 v.units.length (by have := HVL.out; omega) hl
                    have hmz : ∀ (W : World) (i : Nat), i < v.units.length → (W.alloc (.cells (madeCells #[.int .i64 0] v.units.length) 3)).cell? ⟨W.heap.size, i, none⟩ = some (.int .i64 0) := fun W i hi => (World.rowIs_made W (.int .i64 0) v.units.length 3).cell hi
                    obtain ⟨MC, hMC⟩ : ∃ MC, madeCells #[.int .i64 0] v.units.length = MC := ⟨_, rfl⟩
                    rw [hMC] at hmk hmz
                    have HMZ := Lib.hid hmz
                    have hc1 := CTj (Wc.alloc (.cells MC 3)).drew ((Ext.refl Wc).alloc _).drew (.slice (some ⟨Wc.heap.size, 0, none⟩) v.units.length v.units.length) (sl_zeros (fun i hi => Ext.cell (Ext.refl _).drew (HMZ.out Wc i hi)) hl)
                    have hc2 := CTj ((Wc.alloc (.cells #[.int .i64 0, .int .i64 0, .slice none 0 0] 29)).alloc (.cells MC 3)).drew (((Ext.refl Wc).alloc _).alloc _).drew (.slice (some ⟨Wc.heap.size + 1, 0, none⟩) v.units.length v.units.length) (sl_zeros (fun i hi => Ext.cell (Ext.refl _).drew (by have h5 := HMZ.out (Wc.alloc (.cells #[.int .i64 0, .int .i64 0, .slice none 0 0] 29)) i hi; rw [size_alloc] at h5; exact h5)) hl)
                    have hc3 := CTj ((Wc.alloc (.cells MC 3)).alloc (.cells #[.int .i64 0, .int .i64 0, .slice none 0 0] 29)).drew (((Ext.refl Wc).alloc _).alloc _).drew (.slice (some ⟨Wc.heap.size, 0, none⟩) v.units.length v.units.length) (sl_zeros (fun i hi => Ext.cell (Ext.refl _).drew (Ext.cell ((Ext.refl _).alloc _) (HMZ.out Wc i hi))) hl)
                    have hla := lt_of_cell y0
                    have hlb := lt_of_cell t0
                    have hlc := lt_of_cell L0
                    have nA : w.heap.size ≠ Wc.heap.size := by omega
                    have nB : T ≠ Wc.heap.size := by omega
                    have nC : Lb ≠ Wc.heap.size := by omega
                    have nD : w.heap.size ≠ Wc.heap.size + 1 := by omega
                    have nE : T ≠ Wc.heap.size + 1 := by omega
                    have nF : Lb ≠ Wc.heap.size + 1 := by omega
                    have HC1 := Lib.hid hc1
                    have HC2 := Lib.hid hc2
                    have HC3 := Lib.hid hc3
                    clear hc1 hc2 hc3 CTj hstp hmz hMC
                    go_cut [25, 26] from 136 to 199 (fun sa sb wc => ∃ (t : Nat) (Ay : Option Addr) (cy : Nat), sa = .pointer (some ⟨t, 0, none⟩) ∧ sb = .int .i64 0 ∧ Ext Wc wc ∧ Wc.heap.size ≤ t ∧ wc.heap[t]? = some (.cells #[.int .i64 x1, .int .i64 x2, .slice Ay xl.length cy] 29 (0, 0)) ∧ Pts wc (.slice Ay xl.length cy) xl ∧ (∀ g, (Value.slice Ay xl.length cy).ownBlock = some g → Wc.heap.size ≤ g))
                    case first =>
                      go_region_held3 (fun w' => w'.cell? ⟨w.heap.size, 0, none⟩ = some (.string v.name) ∧ w'.cell? ⟨w.heap.size, 1, none⟩ = some (.slice A v.units.length cap) ∧ w'.cell? ⟨w.heap.size, 2, none⟩ = some (.int .i64 v.first) ∧ w'.cell? ⟨w.heap.size, 3, none⟩ = some (.int .i64 v.last) ∧ w'.cell? ⟨T, 0, none⟩ = some (.int .i64 p1) ∧ w'.cell? ⟨T, 1, none⟩ = some (.int .i64 p2) ∧ w'.cell? ⟨T, 2, none⟩ = some (.slice Ax pl.length cx) ∧ w'.cell? ⟨Lb, 0, none⟩ = some (.int .i64 r1) ∧ w'.cell? ⟨Lb, 1, none⟩ = some (.int .i64 r2)) (refine ⟨?_, ?_, ?_, ?_, ?_, ?_, ?_, ?_, ?_⟩ <;> (repeat' (with_reducible (first | assumption | refine Ext.cell hbS ?_ | refine Ext.cell (Ext.refl _).drew ?_ | refine cell_set_ne nA ?_ | refine cell_set_ne nB ?_ | refine cell_set_ne nC ?_ | refine cell_set_ne nD ?_ | refine cell_set_ne nE ?_ | refine cell_set_ne nF ?_ | refine Ext.cell ((Ext.refl _).alloc _) ?_)))) ((go_at_call 21; first
                        | (with_reducible refine HC1.out.mono ?_; rintro e wS ⟨vy, rfl, hy, hown, hbS⟩; obtain ⟨Ay, cy, rfl⟩ := pts_shape hy; have ES : Ext Wc wS := ((Ext.refl Wc).alloc _).drew.trans hbS; have hSz := ES.sz)
                        | (with_reducible refine HC2.out.mono ?_; rintro e wS ⟨vy, rfl, hy, hown, hbS⟩; obtain ⟨Ay, cy, rfl⟩ := pts_shape hy; have ES : Ext Wc wS := (((Ext.refl Wc).alloc _).alloc _).drew.trans hbS; have hSz := ES.sz; have yc : wS.heap[Wc.heap.size]? = some (.cells #[.int .i64 0, .int .i64 0, .slice none 0 0] 29 (0, 0)) := hbS.blk ((Ext.refl _).drew.blk (((Ext.refl _).alloc _).blk (new_at (W := Wc) rfl))); have c0 : wS.cell? ⟨Wc.heap.size, 0, none⟩ = some (.int .i64 0) := news_at yc 0 _ rfl; have c1 : wS.cell? ⟨Wc.heap.size, 1, none⟩ = some (.int .i64 0) := news_at yc 1 _ rfl; have c2 : wS.cell? ⟨Wc.heap.size, 2, none⟩ = some (.slice none 0 0) := news_at yc 2 _ rfl; have f0 := blk_frz yc 0; have f1 := blk_frz yc 1; have f2 := blk_frz yc 2)
                        | (with_reducible refine HC3.out.mono ?_; rintro e wS ⟨vy, rfl, hy, hown, hbS⟩; obtain ⟨Ay, cy, rfl⟩ := pts_shape hy; have ES : Ext Wc wS := (((Ext.refl Wc).alloc _).alloc _).drew.trans hbS; have hSz := ES.sz; have yc : wS.heap[Wc.heap.size + 1]? = some (.cells #[.int .i64 0, .int .i64 0, .slice none 0 0] 29 (0, 0)) := hbS.blk ((Ext.refl _).drew.blk (new_at (size_alloc _ _))); have c0 : wS.cell? ⟨Wc.heap.size + 1, 0, none⟩ = some (.int .i64 0) := news_at yc 0 _ rfl; have c1 : wS.cell? ⟨Wc.heap.size + 1, 1, none⟩ = some (.int .i64 0) := news_at yc 1 _ rfl; have c2 : wS.cell? ⟨Wc.heap.size + 1, 2, none⟩ = some (.slice none 0 0) := news_at yc 2 _ rfl; have f0 := blk_frz yc 0; have f1 := blk_frz yc 1; have f2 := blk_frz yc 2)))
                      all_goals
                        go_wp2_with fail
                        go_meet
                        have hge : ∀ g, (Value.slice Ay xl.length cy).ownBlock = some g → Wc.heap.size ≤ g := fun g hg => by have h7 := hown g hg; (try rw [size_drew] at h7); (repeat rw [size_alloc] at h7); omega
                        first
                          | exact ⟨wS.heap.size, Ay, cy, rfl, rfl, ES.alloc _, hSz, new_at rfl, hy.ext ((Ext.refl wS).alloc _), hge⟩
                          | (have hnb : (Value.slice Ay xl.length cy).ownBlock ≠ some Wc.heap.size := fun hg => by have h7 := hown _ hg; (try rw [size_drew] at h7); (repeat rw [size_alloc] at h7); omega
                             exact ⟨Wc.heap.size, Ay, cy, rfl, rfl, ((ES.set (p := ⟨Wc.heap.size, 0, none⟩) (Nat.le_refl _) _).set (p := ⟨Wc.heap.size, 1, none⟩) (Nat.le_refl _) _).set (p := ⟨Wc.heap.size, 2, none⟩) (Nat.le_refl _) _, Nat.le_refl _, three_set _ _ _ yc, pts_offs (pts_offs (pts_offs hy hnb) hnb) hnb, hge⟩)
                          | (have hnb : (Value.slice Ay xl.length cy).ownBlock ≠ some (Wc.heap.size + 1) := fun hg => by have h7 := hown _ hg; (try rw [size_drew] at h7); (repeat rw [size_alloc] at h7); omega
                             exact ⟨Wc.heap.size + 1, Ay, cy, rfl, rfl, ((ES.set (p := ⟨Wc.heap.size + 1, 0, none⟩) (le1 _) _).set (p := ⟨Wc.heap.size + 1, 1, none⟩) (le1 _) _).set (p := ⟨Wc.heap.size + 1, 2, none⟩) (le1 _) _, le1 _, three_set _ _ _ yc, pts_offs (pts_offs (pts_offs hy hnb) hnb) hnb, hge⟩)
                    case rest =>
                      obtain ⟨tb, Ay, cy, rfl, rfl, Ecd, htb, hTb, hpy, hoy⟩ := hcut
                      generalize wc = Wd at *
                      have Erd := Erc.trans Ecd
                      have Gd := grown_ext G Erd
                      obtain ⟨ab, ao, csa, hA1, _, ⟨va, rfl, hpa, hfa⟩, hca⟩ := HAb.out.at HQJ.out
                      subst hA1
                      have hab : ab ≠ T := by have := HNA.out ab rfl; omega
                      have hqf : (rows.map (fun q => (q.1, q.2.take kk)))[j]? = some ((x1, x2), xl.take kk) := by rw [List.getElem?_map, HQJ.out]; rfl
                      obtain ⟨fb, fo, csf, hA2, _, ⟨vb, rfl, hpf, hff⟩, hcf⟩ := HF.out.at hqf
                      subst hA2
                      have hfb : fb ≠ T := by have := HNF.out fb rfl; omega
                      have hflen : (xl.take kk).length = kk := by rw [List.length_take]; have := HKB.out; have := HXL.out; omega
                      have a0 := grown_cell Gd hab (hca 0 _ rfl)
                      have a1 := grown_cell Gd hab (hca 1 _ rfl)
                      have a2 := grown_cell Gd hab (hca 2 _ rfl)
                      have e2 := grown_cell Gd hfb (hcf 2 _ rfl)
                      simp only [Nat.add_zero] at a0
                      simp only at hpa hpf hfa hff
                      have hpa' := grown_pts Gd hpa (fun g hg => by have := hfa g hg; omega)
                      have hpf' := grown_pts Gd hpf (fun g hg => by have := hff g hg; omega)
                      obtain ⟨Aa, ca, rfl⟩ := pts_shape hpa'
                      obtain ⟨Af, cf2, rfl⟩ := pts_shape hpf'
                      rw [hflen] at e2
                      have z0 : Wd.cell? ⟨tb, 0, none⟩ = some (.int .i64 x1) := news_at hTb 0 _ rfl
                      have z1 : Wd.cell? ⟨tb, 1, none⟩ = some (.int .i64 x2) := news_at hTb 1 _ rfl
                      have z2 : Wd.cell? ⟨tb, 2, none⟩ = some (.slice Ay xl.length cy) := news_at hTb 2 _ rfl
                      have hDd := grown_blk Gd (fun e => nTD e.symm) HDb.out
                      have d1 : Wd.cell? ⟨D, 1, none⟩ = some (.slice A kk cap) := news_at hDd 1 _ rfl
                      have y1d := Ext.cell Ecd y1
                      have hxe := HXL.out
                      have CM := Lib.hid (fun w' (h : Ext Wd w') => Same_c x1 x2 (.slice Ay xl.length cy) (.slice Aa xl.length ca) xl w' (hpy.ext h) (hpa'.ext h))
                      have HPY := Lib.hid hpy
                      have HPF := Lib.hid hpf'
                      have HTb := Lib.hid hTb
                      have HGd := Lib.hid Gd
                      have HDd := Lib.hid hDd
                      have HTd := Lib.hid (Erd.blk HTr.out)
                      have E1d := E1c.trans Ecd
                      have lz0 := lt_of_cell z0
                      have la0 := lt_of_cell a0
                      have le2 := lt_of_cell e2
                      have ld1 := lt_of_cell d1
                      have ly1 := lt_of_cell y1d
                      rw [hxe] at z2 CM a2
                      have HTC := Lib.hid hlb
                      have HXE := Lib.hid hxe
                      clear hpa hpf hpa' hpf' hpy hTb Gd hDd hca hcf hqf y0 y1 y2 y3 t0 t1 t2 L0 L1 HC1 HC2 HC3 nA nB nC nD nE nF hla hlb hlc hmk E1c EWc Erc Erd E1r EWr hxe hflen
                      go_upto_region 25 with fail
                      go_cut [200] from 136 to 199 (fun sa wc => sa = .bool false ∧ Ext Wd wc)
                      case first =>
                        go_region_held3 (fun w' => w'.cell? ⟨tb, 0, none⟩ = some (.int .i64 x1) ∧ w'.cell? ⟨tb, 1, none⟩ = some (.int .i64 x2) ∧ w'.cell? ⟨tb, 2, none⟩ = some (.slice Ay v.units.length cy) ∧ w'.cell? ⟨ab, ao + j * 3, none⟩ = some (.int .i64 x1) ∧ w'.cell? ⟨ab, ao + j * 3 + 1, none⟩ = some (.int .i64 x2) ∧ w'.cell? ⟨ab, ao + j * 3 + 2, none⟩ = some (.slice Aa v.units.length ca) ∧ w'.cell? ⟨fb, fo + j * 3 + 2, none⟩ = some (.slice Af kk cf2) ∧ w'.cell? ⟨D, 1, none⟩ = some (.slice A kk cap) ∧ w'.cell? ⟨w.heap.size, 1, none⟩ = some (.slice A v.units.length cap)) (refine ⟨?_, ?_, ?_, ?_, ?_, ?_, ?_, ?_, ?_⟩ <;> (repeat' (with_reducible (first | assumption | refine Ext.cell hbM ?_ | refine Ext.cell (Ext.refl _).drew ?_)))) ((go_at_call 13; (with_reducible refine (CM.out _ (by (repeat' (first | exact Ext.refl _ | assumption | refine Ext.alloc ?_ _ | refine Ext.drew ?_ | refine Ext.drewN ?_ _ | refine Ext.set ?_ (by first | exact Nat.le_refl _ | exact le1 _ | exact le2 _ | exact le3 _ | exact le4 _ | exact le5 _ | exact le6 _) _ | refine Ext.trans ?_ (by assumption))))).mono ?_); rintro e wM ⟨rfl, hbM⟩))
                        all_goals
                          go_wp2_with fail
                          go_meet
                          exact ⟨rfl, by (repeat' (first | exact Ext.refl _ | assumption | refine Ext.alloc ?_ _ | refine Ext.drew ?_ | refine Ext.drewN ?_ _ | refine Ext.set ?_ (by first | exact Nat.le_refl _ | exact le1 _ | exact le2 _ | exact le3 _ | exact le4 _ | exact le5 _ | exact le6 _) _ | refine Ext.trans ?_ (by assumption)))⟩
                      case rest =>
                        obtain ⟨rfl, Ede⟩ := hcut
                        generalize wc = We at *
                        have HDE := Lib.hid Ede
                        have hkv : (kk : Int) ≤ (v.units.length : Int) := by have := HKB.out; omega
                        clear Ede
                        go_upto_region 28 with fail
                        go_loopw [27] (fun i wz => ∃ c : Nat, c ≤ kk ∧ i = .int .i64 c ∧ Ext Wd wz) (fun i _ => kk - (intOf i).toNat)
                        case atStart => exact ⟨0, by omega, rfl, HDE.out⟩
                        case round =>
                          obtain ⟨c, hc, rfl, Edz⟩ := hrel
                          have d1z := Ext.cell Edz d1
                          have z0z := Ext.cell Edz z0
                          have z1z := Ext.cell Edz z1
                          have z2z := Ext.cell Edz z2
                          have e2z := Ext.cell Edz e2
                          by_cases hck : c < kk
                          case pos =>
                            obtain ⟨⟨m1, m2⟩, hm⟩ := some_of_lt (show c < xl.length by have := HXE.out; omega)
                            have hmf : (xl.take kk)[c]? = some (m1, m2) := by rw [List.getElem?_take_of_lt hck]; exact hm
                            obtain ⟨pb, po, rfl, k0, k1⟩ := pts_at HPF.out hmf
                            obtain ⟨qb, qo, rfl, k2, k3⟩ := pts_at HPY.out hm
                            simp only at k0 k1 k2 k3
                            replace k0 := Ext.cell Edz k0
                            replace k1 := Ext.cell Edz k1
                            replace k2 := Ext.cell Edz k2
                            replace k3 := Ext.cell Edz k3
                            have i3 : (0 : Int) ≤ (c : Int) := by omega
                            have i4 : (c : Int) < (kk : Int) := by omega
                            have i5 : (c : Int) < (v.units.length : Int) := by omega
                            have ewc := IntWalk.i64_in ((c : Int) + 1) (by have := HVL.out; omega)
                            clear hm hmf
                            go_upto_region 30 with fail
                            go_quiet (fail)
                            go_wp2_with fail
                            go_roundw
                            case rel => exact ⟨c + 1, hck, by go_num, by (repeat' (first | exact Ext.refl _ | assumption | refine Ext.alloc ?_ _ | refine Ext.drew ?_ | refine Ext.drewN ?_ _ | refine Ext.set ?_ (by first | exact Nat.le_refl _ | exact le1 _ | exact le2 _ | exact le3 _ | exact le4 _ | exact le5 _ | exact le6 _) _ | refine Ext.trans ?_ (by assumption)))⟩
                            case measure => simp [intOf]; omega
                          case neg =>
                            have i3 : ¬ (c : Int) < (kk : Int) := by omega
                            have hTz := Edz.blk HTd.out
                            have t0 : wr.cell? ⟨T, 0, none⟩ = some (.int .i64 p1) := news_at hTz 0 _ rfl
                            have t1 : wr.cell? ⟨T, 1, none⟩ = some (.int .i64 p2) := news_at hTz 1 _ rfl
                            have t2 : wr.cell? ⟨T, 2, none⟩ = some (.slice Ax pl.length cx) := news_at hTz 2 _ rfl
                            have f0 := blk_frz hTz 0
                            have f1 := blk_frz hTz 1
                            have f2 := blk_frz hTz 2
                            have hT3 := three_set (.int .i64 x1) (.int .i64 x2) (.slice Ay v.units.length cy) hTz
                            have hG3 := grown_set (o := 2) (u := .slice Ay v.units.length cy) (grown_set (o := 1) (u := .int .i64 x2) (grown_set (o := 0) (u := .int .i64 x1) (grown_ext HGd.out Edz)))
                            have hny : (Value.slice Ay v.units.length cy).ownBlock ≠ some T := fun e => by
                              have h1 := hoy T (by rw [HXE.out]; exact e)
                              have h2 := HTC.out
                              omega
                            have hpz : Pts wr (.slice Ay v.units.length cy) xl := by have := HPY.out.ext Edz; rw [HXE.out] at this; exact this
                            have hp3 := pts_offs (o := 2) (u := .slice Ay v.units.length cy) (pts_offs (o := 1) (u := .int .i64 x2) (pts_offs (o := 0) (u := .int .i64 x1) hpz hny) hny) hny
                            have H3 := Lib.hid (And.intro hT3 (And.intro hG3 hp3))
                            have ltz := lt_of_cell t0
                            have ltz2 := lt_of_cell z0z
                            clear hT3 hG3 hp3 hpz hny hTz
                            go_upto_region 21 with fail
                            go_wp2_with fail
                            go_roundw
                            case rel => exact ⟨j + 1, ((x1, x2), xl), .slice Ay v.units.length cy, HLT.out, by go_num, H3.out.2.1, H3.out.1, H3.out.2.2, HFK.out⟩
                            case measure => have := HLT.out; simp [intOf]; omega
                  case neg =>
                    have hx : ¬ (j : Int) < (rows.length : Int) := by omega
                    obtain ⟨⟨⟨x1, x2⟩, xl⟩, hq, hql⟩ := HLAST.out
                    obtain ⟨ab, ao, csa, hA1, _, ⟨va, rfl, _, _⟩, hca⟩ := HAb.out.at hq
                    subst hA1
                    have hab : ab ≠ T := by have := HNA.out ab rfl; omega
                    have a0 := grown_cell G hab (hca 0 _ rfl)
                    have a1 := grown_cell G hab (hca 1 _ rfl)
                    simp only [Nat.add_zero] at a0
                    obtain ⟨⟨u1, u2⟩, hu⟩ := some_of_lt (show guide.length - 1 < guide.length by omega)
                    have hgd : guide.getD (guide.length - 1) (0, 0) = (u1, u2) := by simp [List.getD, hu]
                    rw [hgd] at hql
                    simp only [Prod.mk.injEq] at hql
                    obtain ⟨rfl, rfl⟩ := hql
                    obtain ⟨gb, go, rfl, k0, k1⟩ := pts_at (HGL.out.ext EWr) hu
                    simp only at k0 k1
                    have j1 : (0 : Int) ≤ (rows.length : Int) - 1 := by omega
                    have j2 : (rows.length : Int) - 1 < (rows.length : Int) := by omega
                    have j3 : ((rows.length : Int) - 1).toNat = rows.length - 1 := by omega
                    have j4 := IntWalk.i64_in ((rows.length : Int) - 1) (by have := HR.out; omega)
                    have j5 : (0 : Int) ≤ (guide.length : Int) - 1 := by omega
                    have j6 : (guide.length : Int) - 1 < (guide.length : Int) := by omega
                    have j7 : ((guide.length : Int) - 1).toNat = guide.length - 1 := by omega
                    have hg63 := pts_len HGL.out
                    have j8 := IntWalk.i64_in ((guide.length : Int) - 1) (by omega)
                    have la0 := lt_of_cell a0
                    have lk0 := lt_of_cell k0
                    clear hca hu hgd hq hTr hpx hfk hab
                    go_upto_region 33 with fail
                    go_region_held3 (fun w' => w'.cell? ⟨ab, ao + (rows.length - 1) * 3, none⟩ = some (.int .i64 x1) ∧ w'.cell? ⟨ab, ao + (rows.length - 1) * 3 + 1, none⟩ = some (.int .i64 x2) ∧ w'.cell? ⟨gb, go + (guide.length - 1) * 2, none⟩ = some (.int .i64 x1) ∧ w'.cell? ⟨gb, go + (guide.length - 1) * 2 + 1, none⟩ = some (.int .i64 x2)) (refine ⟨?_, ?_, ?_, ?_⟩ <;> (repeat' (with_reducible (first | assumption | refine Ext.cell hbM ?_ | refine Ext.cell (Ext.refl _).drew ?_)))) ((go_at_call 10; refine (CW.out _).mono ?_; rintro e wM ⟨rfl, hbM⟩))
                    all_goals
                      go_wp2_with fail
                      go_ret
                      exact ⟨rfl, by (repeat' (first | exact Ext.refl _ | assumption | refine Ext.alloc ?_ _ | refine Ext.drew ?_ | refine Ext.drewN ?_ _ | refine Ext.set ?_ (by first | exact Nat.le_refl _ | exact le1 _ | exact le2 _ | exact le3 _ | exact le4 _ | exact le5 _ | exact le6 _) _ | refine Ext.trans ?_ (by assumption)))⟩
end
end Go.Proofs.Ytgikfliibimkdaa
