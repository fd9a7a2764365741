/- The law PermitCrosses, walked; how crossings among its arguments read. -/
import Derived.Test.YtaomlmkcifpfkaaPTrips2
import Derived.Test.YtaomlmkcifpfkaaPKnown
import Derived.Test.YtaomlmkcifpfkaaPChooseAll
import Derived.Test.YtaomlmkcifpfkaaPOpen
namespace Go.Proofs.Ytaomlmkcifpfkaa
section
open Go.ChangeShapes Go.WideShapes Go.ChangeAt Go.RowKit Go.Joins Go.Deep
variable {H : Type} {enc : TypeId × Value → H} {w : World} {base : Nat} {spare : Nat → Bool} {held : Bool}
set_option maxRecDepth 100000 in
theorem opens_cross : Opens enc Try.prog w base spare held 83 RCross := by
  intro fuel cs x hx
  obtain ⟨xs, n, _, _, hl, hxl, hf⟩ := DataW.trod_struct Try.underlying83 hx
  have hl2 : cs.length = 2 := hl.trans (by kernel_rfl)
  obtain ⟨_, g0⟩ := field_at (i := 0) (c := 1) 0 rfl (by kernel_rfl) (by rw [hxl]; decide) (hf 0 _ rfl)
  obtain ⟨_, g1⟩ := field_at (i := 1) (c := 1) 1 rfl (by kernel_rfl) (by rw [hxl]; decide) (hf 1 _ rfl)
  obtain ⟨x0, e0⟩ := int_of Try.underlying2 g0
  obtain ⟨v1, l1, e1, s1⟩ := sl_of (by omega) Try.underlying56 (show Try.prog.cellsOf 122 = 3 from by kernel_rfl) (by decide) opens_count g1
  exact ⟨⟨x0, l1⟩, v1, list_of hl2 (fun i hi => by
    match i, hi with
    | 0, _ => exact e0
    | 1, _ => exact e1
    | i + 2, h => exact absurd h (by simp)), s1⟩
set_option maxRecDepth 100000 in
theorem opens_crosses {fuel : Nat} {v : Value} {x : DataW H × List MemPlace} (h : DataW.trod enc Try.prog w base spare held fuel 79 [v] = some x) : ∃ l : List PCross, Sl 2 RCross w v l := by
  obtain ⟨l, v1, hc, hs⟩ := opens_slice Try.underlying79 (show Try.prog.cellsOf 83 = 2 from by kernel_rfl) (by decide) opens_cross _ _ _ h
  obtain rfl : v = v1 := by simpa using hc
  exact ⟨l, hs⟩
end
open Go.RowKit Go.Shelf Go.Maps
attribute [local go_sem ↓] Go.wp_at_zero Go.wp_at_succ

set_option maxRecDepth 100000 in
set_option maxHeartbeats 3200000 in
theorem long_c (v : Value) (cl : List PCross) (w : World) (hs : Sl 2 RCross w v cl) :
    Calls Try.prog 40 #[v] w (Answers w) := by
  obtain ⟨A, cap, rfl, hl, hcap⟩ := hs.shape
  have HS := Lib.hid hs
  clear hs
  by_cases q1 : (30 : Int) < (cl.length : Int)
  · go_enter Try.func40, Try.ntmps40
    go_wp2_with fail
    go_ret
    exact ⟨⟨_, rfl⟩, Ext.refl _⟩
  · go_enter Try.func40, Try.ntmps40
    go_wp2_with fail
    go_loopw [3] (fun i wr => ∃ k : Nat, k ≤ cl.length ∧ i = .int .i64 k ∧ Ext w wr) (fun i _ => cl.length - (intOf i).toNat)
    case atStart => exact ⟨0, by omega, rfl, Ext.refl _⟩
    case round =>
      obtain ⟨k, hk, rfl, hb⟩ := hrel
      obtain ⟨wA, hwA⟩ : ∃ z : World, z = wr := ⟨_, rfl⟩
      subst hwA
      by_cases hlt : k < cl.length
      · obtain ⟨c, hc⟩ := some_of_lt hlt
        obtain ⟨cb, co, ccs, rfl, _, ⟨vt, rfl, hct⟩, hcc⟩ := (HS.out.ext RCross.stable hb).at hc
        obtain ⟨At, ct, rfl, lt, lt2⟩ := hct.shape
        have HCT := Lib.hid hct
        have k1 := hcc 1 _ rfl
        have i1 : (0 : Int) ≤ (k : Int) := by omega
        have i2 : (k : Int) < (cl.length : Int) := by omega
        clear hcc hc hct
        by_cases q2 : (10 : Int) < (c.things.length : Int)
        · go_wp2_with fail
          go_ret
          exact ⟨⟨_, rfl⟩, hb⟩
        · go_wp2_with fail
          go_loopw [4] (fun i wr => ∃ j : Nat, j ≤ c.things.length ∧ i = .int .i64 j ∧ Ext wA wr) (fun i _ => c.things.length - (intOf i).toNat)
          case atStart => exact ⟨0, by omega, rfl, Ext.refl _⟩
          case round =>
            obtain ⟨j, hj, rfl, hE⟩ := hrel
            have k2 := hE.cell k1
            by_cases hltj : j < c.things.length
            · obtain ⟨x, hx⟩ := some_of_lt hltj
              obtain ⟨b, off, cs, rfl, hn, rfl, hc⟩ := (HCT.out.ext RCount.stable hE).at hx
              have m0 := hc 0 _ rfl
              simp only [Nat.add_zero] at m0
              have j1 : (0 : Int) ≤ (j : Int) := by omega
              have j2 : (j : Int) < (c.things.length : Int) := by omega
              clear hc hn hx
              by_cases q3 : (100 : Int) < (x.thing.size : Int)
              · go_wp2_with fail
                go_ret
                exact ⟨⟨_, rfl⟩, hb.trans hE⟩
              · go_wp2_with fail
                go_roundw
                case rel => exact ⟨j + 1, by omega, by go_num, hE⟩
                case measure => simp [intOf]; omega
            · have j2 : ¬ (j : Int) < (c.things.length : Int) := by omega
              go_wp2_with fail
              go_roundw
              case rel => exact ⟨k + 1, by omega, by go_num, hb.trans hE⟩
              case measure => simp [intOf]; omega
      · go_wp2_with fail
        go_ret
        exact ⟨⟨_, rfl⟩, hb⟩

set_option maxRecDepth 100000 in
set_option maxHeartbeats 4000000 in
theorem cross_law {v vp vc : Value} {l : List PAuth} {t : PTrip} {cl : List PCross} {k asked : Int} (w : World) (hk : -9223372036854775808 ≤ k) (hk2 : k ≤ 9223372036854775807) (hs : Sl 4 RAuth w v l) (hp : Sl 3 RPass w vp t.passages) (hcl : Sl 2 RCross w vc cl) :
    Calls Try.prog 11 #[v, tripV t vp, .int .i64 k, .int .i64 asked, vc] w fun e w' => e = .returned (.bool true) ∧ Ext w w' := by
  have G := fun w' (h : Ext w w') => great_c v vp l t w' (hs.ext RAuth.stable h) (hp.ext RPass.stable h)
  have LG := fun w' (h : Ext w w') => long_c vc cl w' (hcl.ext RCross.stable h)
  have KN := fun w' => known_c w'
  have A1 := fun vt c w' (h : Ext w w') hc => Broken_c v vp vt l t k c w' hk hk2 (hs.ext RAuth.stable h) (hp.ext RPass.stable h) hc
  have A2 := fun vt c w' (h : Ext w w') hc => RBroken_c v vp vt l t k c w' (hs.ext RAuth.stable h) (hp.ext RPass.stable h) hc
  have B1 := fun w' (h : Ext w w') => Trips_c v vp vc l t asked cl w' (hs.ext RAuth.stable h) (hp.ext RPass.stable h) (hcl.ext RCross.stable h)
  have B2 := fun w' (h : Ext w w') => RTrips_c v vp vc l t asked cl w' (hs.ext RAuth.stable h) (hp.ext RPass.stable h) (hcl.ext RCross.stable h)
  have SI := fun va vb cl w' ha hb => sameInts_c va vb cl w' ha hb
  obtain ⟨A, cap, rfl, hl, hcap⟩ := hs.shape
  obtain ⟨Ap, capp, rfl, hpl, hpcap⟩ := hp.shape
  obtain ⟨Ac, capc, rfl, hcll, hclc⟩ := hcl.shape
  have HCL := Lib.hid hcl
  unfold tripV BrokenR TripsR at *
  obtain ⟨⟨us, ue⟩, hu⟩ : ∃ z, tripsS l t asked cl = z := ⟨_, rfl⟩
  rw [hu] at B1 B2
  simp only at B1 B2
  replace G := Lib.hid G
  replace LG := Lib.hid LG
  replace KN := Lib.hid KN
  replace A1 := Lib.hid A1
  replace A2 := Lib.hid A2
  replace B1 := Lib.hid B1
  replace B2 := Lib.hid B2
  replace SI := Lib.hid SI
  clear hs hp hcl hu
  go_enter Try.func11, Try.ntmps11
  go_upto_region 1 with fail
  have T0 := TripAt.new t (.slice Ap t.passages.length capp) w
  have E0 : Ext w (w.alloc (.cells #[.int .i64 t.z0, .int .i64 t.z1, .int .i64 t.z2, .int .i64 t.z3, .int .i64 t.z4, .int .i64 t.z5, .slice Ap t.passages.length capp] 26)) := (Ext.refl w).alloc _
  generalize (w.alloc (.cells #[.int .i64 t.z0, .int .i64 t.z1, .int .i64 t.z2, .int .i64 t.z3, .int .i64 t.z4, .int .i64 t.z5, .slice Ap t.passages.length capp] 26)) = W0 at *
  have HT0 := Lib.hid T0
  obtain ⟨t0, t1, t2, t3, t4, t5, t6⟩ := T0
  go_wp2_with fail
  refine (G.out _ E0).mono ?_
  rintro e w1 ⟨⟨b, rfl⟩, hb1⟩
  have E1 := E0.trans hb1
  have T1 := HT0.out.ext hb1
  clear t0 t1 t2 t3 t4 t5 t6 HT0
  cases b
  · have HT1 := Lib.hid T1
    go_wp2_with fail
    go_at_call 40
    refine (LG.out _ E1).mono ?_
    rintro e w2 ⟨⟨b, rfl⟩, hb2⟩
    have E2 := E1.trans hb2
    have HT2 := Lib.hid (HT1.out.ext hb2)
    clear T1 HT1 E1 hb1 hb2
    cases b
    · obtain ⟨t0, t1, t2, t3, t4, t5, t6⟩ := HT2.out
      go_wp2_with fail
      go_loopw [11] (fun i wr => ∃ m : Nat, m ≤ cl.length ∧ i = .int .i64 m ∧ Ext w2 wr) (fun i _ => cl.length - (intOf i).toNat)
      case atStart => exact ⟨0, by omega, rfl, Ext.refl _⟩
      case round =>
        obtain ⟨m, hm, rfl, hE⟩ := hrel
        obtain ⟨wA, hwA⟩ : ∃ z : World, z = wr := ⟨_, rfl⟩
        subst hwA
        have EA := E2.trans hE
        have HTA := Lib.hid (HT2.out.ext hE)
        clear t0 t1 t2 t3 t4 t5 t6
        obtain ⟨t0, t1, t2, t3, t4, t5, t6⟩ := HTA.out
        by_cases hlt : m < cl.length
        · obtain ⟨c, hc⟩ := some_of_lt hlt
          obtain ⟨cb, co, ccs, rfl, _, ⟨vt, rfl, hct⟩, hcc⟩ := (HCL.out.ext RCross.stable EA).at hc
          obtain ⟨At, ct, rfl, lt, lt2⟩ := hct.shape
          have k0 := hcc 0 _ rfl
          have k1 := hcc 1 _ rfl
          simp only [Nat.add_zero] at k0
          have i1 : (0 : Int) ≤ (m : Int) := by omega
          have i2 : (m : Int) < (cl.length : Int) := by omega
          obtain ⟨⟨ds, de⟩, hd⟩ : ∃ z, brokenS l t k c = z := ⟨_, rfl⟩
          have X1 := fun w' (h : Ext wA w') => A1.out _ c w' (EA.trans h) (hct.ext RCount.stable h)
          have X2 := fun w' (h : Ext wA w') => A2.out _ c w' (EA.trans h) (hct.ext RCount.stable h)
          rw [hd] at X1 X2
          simp only at X1 X2
          replace X1 := Lib.hid X1
          replace X2 := Lib.hid X2
          clear hcc hc hct hd
          go_upto_region 6 with fail
          go_region_held3 (fun w' => w'.cell? ⟨w.heap.size, 0, none⟩ = some (.int .i64 t.z0) ∧ w'.cell? ⟨w.heap.size, 1, none⟩ = some (.int .i64 t.z1) ∧ w'.cell? ⟨w.heap.size, 2, none⟩ = some (.int .i64 t.z2) ∧ w'.cell? ⟨w.heap.size, 3, none⟩ = some (.int .i64 t.z3) ∧ w'.cell? ⟨w.heap.size, 4, none⟩ = some (.int .i64 t.z4) ∧ w'.cell? ⟨w.heap.size, 5, none⟩ = some (.int .i64 t.z5) ∧ w'.cell? ⟨w.heap.size, 6, none⟩ = some (.slice Ap t.passages.length capp) ∧ w'.cell? ⟨cb, co + m * 2, none⟩ = some (.int .i64 c.start) ∧ w'.cell? ⟨cb, co + m * 2 + 1, none⟩ = some (.slice At c.things.length ct)) (refine ⟨?_, ?_, ?_, ?_, ?_, ?_, ?_, ?_, ?_⟩ <;> (repeat' (with_reducible (first | assumption | refine Ext.cell hb4 ?_ | refine Ext.cell (Ext.refl _).drew ?_)))) ((go_at_call 41; (with_reducible refine (X1.out _ (by (repeat' (first | exact Ext.refl _ | assumption | refine Ext.alloc ?_ _ | refine Ext.drew ?_ | refine Ext.drewN ?_ _ | refine Ext.set ?_ (by first | exact Nat.le_refl _ | exact le1 _ | exact le2 _ | exact le3 _ | exact le4 _ | exact le5 _ | exact le6 _) _ | refine Ext.trans ?_ (by assumption))))).mono ?_); rintro e w4 ⟨hb4, v1, rfl, h1⟩; obtain ⟨Y1, y1, rfl, _, _⟩ := h1.shape))
          have E4 : Ext wA w4 := by (repeat' (first | exact Ext.refl _ | assumption | refine Ext.alloc ?_ _ | refine Ext.drew ?_ | refine Ext.drewN ?_ _ | refine Ext.set ?_ (by first | exact Nat.le_refl _ | exact le1 _ | exact le2 _ | exact le3 _ | exact le4 _ | exact le5 _ | exact le6 _) _ | refine Ext.trans ?_ (by assumption)))
          have HT4 := Lib.hid (HTA.out.ext E4)
          have d0 := E4.cell k0
          have d1 := E4.cell k1
          have H1 := Lib.hid h1
          clear t0 t1 t2 t3 t4 t5 t6 k0 k1 h1 hb4 X1
          obtain ⟨t0, t1, t2, t3, t4, t5, t6⟩ := HT4.out
          go_upto_region 7 with fail
          go_region_held3 (fun w' => w'.cell? ⟨w.heap.size, 0, none⟩ = some (.int .i64 t.z0) ∧ w'.cell? ⟨w.heap.size, 1, none⟩ = some (.int .i64 t.z1) ∧ w'.cell? ⟨w.heap.size, 2, none⟩ = some (.int .i64 t.z2) ∧ w'.cell? ⟨w.heap.size, 3, none⟩ = some (.int .i64 t.z3) ∧ w'.cell? ⟨w.heap.size, 4, none⟩ = some (.int .i64 t.z4) ∧ w'.cell? ⟨w.heap.size, 5, none⟩ = some (.int .i64 t.z5) ∧ w'.cell? ⟨w.heap.size, 6, none⟩ = some (.slice Ap t.passages.length capp) ∧ w'.cell? ⟨cb, co + m * 2, none⟩ = some (.int .i64 c.start) ∧ w'.cell? ⟨cb, co + m * 2 + 1, none⟩ = some (.slice At c.things.length ct)) (refine ⟨?_, ?_, ?_, ?_, ?_, ?_, ?_, ?_, ?_⟩ <;> (repeat' (with_reducible (first | assumption | refine Ext.cell hb5 ?_ | refine Ext.cell (Ext.refl _).drew ?_)))) ((go_at_call 42; (with_reducible refine (X2.out _ (by (repeat' (first | exact Ext.refl _ | assumption | refine Ext.alloc ?_ _ | refine Ext.drew ?_ | refine Ext.drewN ?_ _ | refine Ext.set ?_ (by first | exact Nat.le_refl _ | exact le1 _ | exact le2 _ | exact le3 _ | exact le4 _ | exact le5 _ | exact le6 _) _ | refine Ext.trans ?_ (by assumption))))).mono ?_); rintro e w5 ⟨hb5, v2, rfl, h2⟩; obtain ⟨Y2, y2, rfl, _, _⟩ := h2.shape))
          have E5 : Ext w4 w5 := by (repeat' (first | exact Ext.refl _ | assumption | refine Ext.alloc ?_ _ | refine Ext.drew ?_ | refine Ext.drewN ?_ _ | refine Ext.set ?_ (by first | exact Nat.le_refl _ | exact le1 _ | exact le2 _ | exact le3 _ | exact le4 _ | exact le5 _ | exact le6 _) _ | refine Ext.trans ?_ (by assumption)))
          have H2 := Lib.hid h2
          have H15 := Lib.hid (H1.out.ext RInt.stable E5)
          clear t0 t1 t2 t3 t4 t5 t6 d0 d1 h2 hb5 X2 H1
          go_wp2_with fail
          go_at_call 34
          refine (SI.out _ _ ds _ H15.out H2.out).mono ?_
          rintro e w6 ⟨rfl, hb6⟩
          go_wp2_with fail
          go_roundw
          case rel => exact ⟨m + 1, by omega, by go_num, hE.trans (E4.trans (E5.trans hb6))⟩
          case measure => simp [intOf]; omega
        · go_upto_region 11 with (go_at_call 43; refine (B1.out _ EA).mono ?_; rintro e w4 ⟨rfl, hb4⟩)
          have E4 := EA.trans hb4
          have HT4 := Lib.hid (HTA.out.ext hb4)
          clear t0 t1 t2 t3 t4 t5 t6
          obtain ⟨t0, t1, t2, t3, t4, t5, t6⟩ := HT4.out
          go_upto_region 12 with (go_at_call 44; refine (B2.out _ E4).mono ?_; rintro e w5 ⟨rfl, hb5⟩)
          have E5 := E4.trans hb5
          clear t0 t1 t2 t3 t4 t5 t6
          go_wp2_with (go_at_call 13; refine (KN.out _).mono ?_; rintro e w8 ⟨rfl, hb8⟩)
          go_ret
          exact ⟨rfl, E5.trans hb8⟩
    · go_wp2_with (go_at_call 13; refine (KN.out _).mono ?_; rintro e w8 ⟨rfl, hb8⟩)
      go_ret
      exact ⟨rfl, E2.trans hb8⟩
  · go_wp2_with (go_at_call 13; refine (KN.out _).mono ?_; rintro e w2 ⟨rfl, hb2⟩)
    go_ret
    exact ⟨rfl, E1.trans hb2⟩
end Go.Proofs.Ytaomlmkcifpfkaa
