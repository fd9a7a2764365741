/- The law PermitTimes, walked. -/
import Derived.Test.YtaomlmkcifpfkaaPKnown
import Derived.Test.YtaomlmkcifpfkaaPWins
import Derived.Deep.RegionHeld3
namespace Go.Proofs.Ytaomlmkcifpfkaa
open Go.RowKit Go.Shelf Go.Maps
attribute [local go_sem ↓] Go.wp_at_zero Go.wp_at_succ

set_option maxRecDepth 100000 in
set_option maxHeartbeats 4000000 in
theorem times_law {v vp : Value} {l : List PAuth} {t : PTrip} {k fr to' : Int} (w : World) (hk : -9223372036854775808 ≤ k) (hk2 : k ≤ 9223372036854775807) (hs : Sl 4 RAuth w v l) (hp : Sl 3 RPass w vp t.passages) :
    Calls Try.prog 10 #[v, tripV t vp, .int .i64 k, .int .i64 fr, .int .i64 to'] w fun e w' => e = .returned (.bool true) ∧ Ext w w' := by
  have G := fun w' (h : Ext w w') => great_c v vp l t w' (hs.ext RAuth.stable h) (hp.ext RPass.stable h)
  have KN := fun w' => known_c w'
  have A1 := fun w' (h : Ext w w') => Allowed_c v vp l t k fr w' hk hk2 (hs.ext RAuth.stable h) (hp.ext RPass.stable h)
  have A2 := fun w' (h : Ext w w') => RAllowedP_c v vp l t k fr w' (hs.ext RAuth.stable h) (hp.ext RPass.stable h)
  have B1 := fun w' (h : Ext w w') => Next_c v vp l t k fr w' hk hk2 (hs.ext RAuth.stable h) (hp.ext RPass.stable h)
  have B2 := fun w' (h : Ext w w') => RNext_c v vp l t k fr w' (hs.ext RAuth.stable h) (hp.ext RPass.stable h)
  have C1 := fun w' (h : Ext w w') => Windows_c v vp l t k fr to' w' hk hk2 (hs.ext RAuth.stable h) (hp.ext RPass.stable h)
  have C2 := fun w' (h : Ext w w') => RWindows_c v vp l t k fr to' w' (hs.ext RAuth.stable h) (hp.ext RPass.stable h)
  obtain ⟨A, cap, rfl, hl, hcap⟩ := hs.shape
  obtain ⟨Ap, capp, rfl, hpl, hpcap⟩ := hp.shape
  unfold tripV AllowR NextR WinR at *
  obtain ⟨⟨ab, ae⟩, ha⟩ : ∃ z, allowS l t k fr = z := ⟨_, rfl⟩
  obtain ⟨⟨nm, ne⟩, hn⟩ : ∃ z, nextS l t k fr = z := ⟨_, rfl⟩
  obtain ⟨⟨ws, we⟩, hw⟩ : ∃ z, windowsS l t k fr to' = z := ⟨_, rfl⟩
  rw [ha] at A1 A2
  rw [hn] at B1 B2
  rw [hw] at C1 C2
  simp only at A1 A2 B1 B2 C1 C2
  replace G := Lib.hid G
  replace KN := Lib.hid KN
  replace A1 := Lib.hid A1
  replace A2 := Lib.hid A2
  replace B1 := Lib.hid B1
  replace B2 := Lib.hid B2
  replace C1 := Lib.hid C1
  replace C2 := Lib.hid C2
  clear hs hp ha hn hw
  go_enter Try.func10, Try.ntmps10
  go_upto_region 1 with fail
  have T0 := TripAt.new t (.slice Ap t.passages.length capp) w
  have E0 : Ext w (w.alloc (.cells #[.int .i64 t.z0, .int .i64 t.z1, .int .i64 t.z2, .int .i64 t.z3, .int .i64 t.z4, .int .i64 t.z5, .slice Ap t.passages.length capp] 26)) := (Ext.refl w).alloc _
  generalize (w.alloc (.cells #[.int .i64 t.z0, .int .i64 t.z1, .int .i64 t.z2, .int .i64 t.z3, .int .i64 t.z4, .int .i64 t.z5, .slice Ap t.passages.length capp] 26)) = W0 at *
  have HT0 := Lib.hid T0
  obtain ⟨t0, t1, t2, t3, t4, t5, t6⟩ := T0
  go_wp2_with fail
  refine (G.out _ E0).mono ?_
  rintro e w1 ⟨⟨b, rfl⟩, hb1⟩
  have E1 := E0.trans hb1
  have T1 := HT0.out.ext hb1
  clear t0 t1 t2 t3 t4 t5 t6 HT0
  cases b
  · have HT1 := Lib.hid T1
    obtain ⟨t0, t1, t2, t3, t4, t5, t6⟩ := T1
    go_upto_region 4 with (go_at_call 30; refine (A1.out _ E1).mono ?_; rintro e w2 ⟨hb2, rfl⟩)
    have E2 := E1.trans hb2
    have HT2 := Lib.hid (HT1.out.ext hb2)
    clear t0 t1 t2 t3 t4 t5 t6 HT1 A1 E1 hb1
    obtain ⟨t0, t1, t2, t3, t4, t5, t6⟩ := HT2.out
    go_upto_region 5 with (go_at_call 37; refine (A2.out _ E2).mono ?_; rintro e w3 ⟨hb3, rfl⟩)
    have E3 := E2.trans hb3
    have HT3 := Lib.hid (HT2.out.ext hb3)
    clear t0 t1 t2 t3 t4 t5 t6 HT2 A2 E2 hb2
    obtain ⟨t0, t1, t2, t3, t4, t5, t6⟩ := HT3.out
    go_upto_region 6 with (go_at_call 21; refine (B1.out _ E3).mono ?_; rintro e w4 ⟨hb4, rfl⟩)
    have E4 := E3.trans hb4
    have HT4 := Lib.hid (HT3.out.ext hb4)
    clear t0 t1 t2 t3 t4 t5 t6 HT3 B1 E3 hb3
    obtain ⟨t0, t1, t2, t3, t4, t5, t6⟩ := HT4.out
    go_upto_region 7 with (go_at_call 38; refine (B2.out _ E4).mono ?_; rintro e w5 ⟨hb5, rfl⟩)
    have E5 := E4.trans hb5
    have HT5 := Lib.hid (HT4.out.ext hb5)
    clear t0 t1 t2 t3 t4 t5 t6 HT4 B2 E4 hb4
    obtain ⟨t0, t1, t2, t3, t4, t5, t6⟩ := HT5.out
    go_upto_region 8 with (go_at_call 36; refine (C1.out _ E5).mono ?_; rintro e w6 ⟨hb6, vx, rfl, hX⟩; obtain ⟨Ax, capx, rfl, hxl, _⟩ := hX.shape)
    have E6 := E5.trans hb6
    have HT6 := Lib.hid (HT5.out.ext hb6)
    clear t0 t1 t2 t3 t4 t5 t6 HT5 C1 E5 hb5
    obtain ⟨t0, t1, t2, t3, t4, t5, t6⟩ := HT6.out
    have HX := Lib.hid hX
    clear hX
    go_upto_region 9 with (go_at_call 39; refine (C2.out _ E6).mono ?_; rintro e w7 ⟨hb7, vy, rfl, hY⟩; obtain ⟨Ay, capy, rfl, _, _⟩ := hY.shape)
    have E7 := E6.trans hb7
    have HY := Lib.hid hY
    replace HX := Lib.hid (HX.out.ext RWin.stable hb7)
    clear t0 t1 t2 t3 t4 t5 t6 HT6 C2 E6 hb6 hY hb7
    go_wp2_with fail
    go_loopw [23] (fun i wr => ∃ j : Nat, j ≤ ws.length ∧ i = .int .i64 j ∧ Ext w7 wr) (fun i _ => ws.length - (intOf i).toNat)
    case atStart => exact ⟨0, by omega, rfl, Ext.refl _⟩
    case round =>
      obtain ⟨j, hj, rfl, hE⟩ := hrel
      have E8 := E7.trans hE
      by_cases hlt : j < ws.length
      · obtain ⟨x, hx⟩ := some_of_lt hlt
        obtain ⟨b1, o1, cs1, rfl, _, hr1, hc1⟩ := (HX.out.ext RWin.stable hE).at hx
        obtain ⟨b2, o2, cs2, rfl, _, hr2, hc2⟩ := (HY.out.ext RWin.stable hE).at hx
        obtain rfl : cs1 = [.int .i64 x.1, .int .i64 x.2] := hr1
        obtain rfl : cs2 = [.int .i64 x.1, .int .i64 x.2] := hr2
        have k0 := hc1 0 _ rfl
        have k1 := hc1 1 _ rfl
        have m0 := hc2 0 _ rfl
        have m1 := hc2 1 _ rfl
        simp only [Nat.add_zero] at k0 m0
        have i1 : (0 : Int) ≤ (j : Int) := by omega
        have i2 : (j : Int) < (ws.length : Int) := by omega
        clear hc1 hc2 hx
        go_wp2_with fail
        go_region
        go_wp2_with fail
        go_roundw
        case rel => exact ⟨j + 1, by omega, by go_num, by (repeat' (first | exact Ext.refl _ | assumption | refine Ext.alloc ?_ _ | refine Ext.drew ?_ | refine Ext.drewN ?_ _ | refine Ext.set ?_ (by first | exact Nat.le_refl _ | exact le1 _ | exact le2 _ | exact le3 _ | exact le4 _ | exact le5 _ | exact le6 _) _ | refine Ext.trans ?_ (by assumption)))⟩
        case measure => simp [intOf]; omega
      · go_wp2_with (go_at_call 13; refine (KN.out _).mono ?_; rintro e w2 ⟨rfl, hb2⟩)
        go_ret
        exact ⟨rfl, E8.trans hb2⟩
  · go_wp2_with (go_at_call 13; refine (KN.out _).mono ?_; rintro e w2 ⟨rfl, hb2⟩)
    go_ret
    exact ⟨rfl, E1.trans hb2⟩
end Go.Proofs.Ytaomlmkcifpfkaa
