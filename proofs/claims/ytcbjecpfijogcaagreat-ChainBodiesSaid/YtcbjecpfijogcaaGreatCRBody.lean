
/- Contract: Body, by the reference. -/
import Derived.Test.YtcbjecpfijogcaaGreatCBodySAll
import Derived.Test.YtcbjecpfijogcaaGreatHAppAll
import Derived.Test.YtcbjecpfijogcaaGreatCRJoint
namespace Go.Proofs.YtcbjecpfijogcaaGreat
open Go.RowKit Go.Shelf

section
variable {vu vp : Value} {v : CVeh} {lead : Pt} {ps : List Pt}
set_option maxRecDepth 100000 in
set_option maxHeartbeats 6400000 in
theorem RBody_in (k : Nat) (w : World) (hs : Sl 11 RUnit w vu v.units) (hp : Pts w vp ps) (h1 : poseE v lead ps = 0) (hk : k < v.units.length) :
    Calls Tryz.prog 8 #[vehV v vu, poseV lead vp, .int .i64 k] w fun e w' => ∃ v', e = .returned (.tuple #[v', .int .i64 (bodyS v lead ps k).2]) ∧ Pts w' v' (bodyS v lead ps k).1 ∧ Ext w w' := by
  have CP := fun w' (h : Ext w w') => RCheckPose_c (lead := lead) w' (hs.ext RUnit.stable h) (hp.ext h)
  rw [h1] at CP
  have hpl := puts_len h1
  have hpb : poseB v.units lead ps = true := by
    cases hb : poseB v.units lead ps
    · rw [poseE_no hpl.2.1 hb] at h1; cases h1
    · rfl
  have CJ := fun w' (h : Ext w w') => joints_yes (lead := lead) w' (hs.ext RUnit.stable h) (hp.ext h) hpl.2.1 hpb
  have hvv := vehE_units hpl.2.1
  obtain ⟨u, hu⟩ := some_of_lt (show k < (putsN lead v.units ps).length by omega)
  have hBS : bodyS v lead ps k = (if firstE (bodyR u) = 0 then cornersP ((bodyR u).map (·.1)) else [], firstE (bodyR u)) := by
    unfold bodyS
    rw [if_pos (oneE_ok h1 (by omega)), show ((k : Int)).toNat = k by omega, hu]
  have HRO := Lib.hid (fun h => body_ok (c := u) h)
  have hax := (putsN_at _ _ _ _ _ hu).2
  have hun := (putsN_at _ _ _ _ _ hu).1
  have hvu := hvv _ (mem_of_some hun)
  obtain ⟨A, cap, rfl, hl, hl2⟩ := hs.shape
  obtain ⟨Ap, capp, rfl⟩ := pts_shape hp
  obtain ⟨pb, poff, rfl, p0, p1⟩ := pts_at hp hax
  obtain ⟨b, off, csu, rfl, _, ⟨vx, rfl, haxl⟩, hcu⟩ := hs.at hun
  obtain ⟨A2, cap2, rfl, _, _⟩ := haxl.shape
  obtain ⟨l1, l2⟩ := lead
  obtain ⟨⟨u', ⟨j1, j2⟩, ⟨a1, a2⟩⟩, rfl⟩ : ∃ u', u' = u := ⟨u, rfl⟩
  simp only at p0 p1 haxl hcu hvu ⊢
  have CU := Lib.hid (fun w' (he : Ext w w') => Rpulled_c (.slice A2 u'.axles.length cap2) u' w' hvu (haxl.ext RAxle.stable he))
  have CA := fun X Y w' => RPlace_c a1 a2 j1 j2 X Y w'

  have HA0 := Lib.hid (fun w' => CA (pulledN u' + u'.front) u'.width w')
  have HA1 := Lib.hid (fun w' => CA (pulledN u' + u'.front) (-u'.width) w')
  have HA2 := Lib.hid (fun w' => CA (pulledN u' - u'.length - u'.rear) u'.width w')
  have HA3 := Lib.hid (fun w' => CA (pulledN u' - u'.length - u'.rear) (-u'.width) w')
  clear CA
  unfold bodyR at hBS HRO
  simp only at hBS HRO
  have hpu := pulled_bds hvu
  have hub := unitB_bds hvu
  have hfb := fbd hvu
  have e1 := IntWalk.i64_in (pulledN u' + u'.front) (by omega)
  have e2 := IntWalk.i64_in (pulledN u' - u'.length) (by omega)
  have e3 := IntWalk.i64_in (pulledN u' - u'.length - u'.rear) (by omega)
  have e4 := IntWalk.i64_in (-u'.width) (by omega)
  unfold vehV poseV at *
  simp only at CP CJ ⊢
  generalize bodyS v (l1, l2) ps k = BS at *
  have HQ := Lib.hid hBS
  have HUJ := Lib.hid (putsN_joint hu)
  simp only at HUJ
  have hpl1 := hpl.1
  obtain ⟨n, hn⟩ : ∃ n, (putsN (l1, l2) v.units ps).length = n := ⟨_, rfl⟩
  rw [hn] at CJ hpl1
  subst hpl1
  generalize putsN (l1, l2) v.units ps = PN at *
  have hpsl := hpl.2.2
  have i0 : ¬ (k : Int) < 0 := by omega
  have i1 : (0 : Int) ≤ (k : Int) := by omega
  have i2 : (k : Int) < (v.units.length : Int) := by omega
  have i3 : ¬ (v.units.length : Int) ≤ (k : Int) := by omega
  have i4 : (k : Int) < (ps.length : Int) := by omega
  have hbp := lt_of_cell p0
  replace CP := Lib.hid CP
  replace CJ := Lib.hid CJ
  have k0 := hcu 0 _ rfl
  have k1 := hcu 1 _ rfl
  have k2 := hcu 2 _ rfl
  have k3 := hcu 3 _ rfl
  have k4 := hcu 4 _ rfl
  have k5 := hcu 5 _ rfl
  have k6 := hcu 6 _ rfl
  have k7 := hcu 7 _ rfl
  have k8 := hcu 8 _ rfl
  have k9 := hcu 9 _ rfl
  have k10 := hcu 10 _ rfl
  simp only [Nat.add_zero] at k0
  have hbk := lt_of_cell k0
  clear hs hp h1 hpl hpb hu hax hun hvv hn hpsl hBS hpu hub hfb hvu hcu haxl
  go_enter Tryz.func8, Tryz.ntmps8
  go_upto_region 6 with (go_at_call 15; refine (CP.out _ (by (repeat' (first | exact Ext.refl _ | assumption | refine Ext.alloc ?_ _ | refine Ext.drew ?_ | refine Ext.drewN ?_ _ | refine Ext.set ?_ (by first | exact Nat.le_refl _ | exact le1 _ | exact le2 _ | exact le3 _ | exact le4 _ | exact le5 _ | exact le6 _) _ | refine Ext.trans ?_ (by assumption))))).mono ?_; rintro e w1 ⟨rfl, hb⟩; have E1 : Ext w w1 := (((Ext.refl w).alloc _).alloc _).trans hb; have y1 := Ext.cell hb (p := ⟨w.heap.size, 1, none⟩) (v := .slice (some ⟨b, off, none⟩) v.units.length cap) (by go_simp); have y0 := Ext.cell hb (p := ⟨w.heap.size, 0, none⟩) (v := .string v.name) (by go_simp); have y2 := Ext.cell hb (p := ⟨w.heap.size, 2, none⟩) (v := .int .i64 v.first) (by go_simp); have y3 := Ext.cell hb (p := ⟨w.heap.size, 3, none⟩) (v := .int .i64 v.last) (by go_simp); have t0 := Ext.cell hb (p := ⟨w.heap.size + 1, 0, none⟩) (v := .int .i64 l1) (by go_simp); have t1 := Ext.cell hb (p := ⟨w.heap.size + 1, 1, none⟩) (v := .int .i64 l2) (by go_simp); have t2 := Ext.cell hb (p := ⟨w.heap.size + 1, 2, none⟩) (v := .slice (some ⟨pb, poff, none⟩) ps.length capp) (by go_simp); clear hb)
  replace k0 := E1.cell k0
  replace k1 := E1.cell k1
  replace k2 := E1.cell k2
  replace k3 := E1.cell k3
  replace k4 := E1.cell k4
  replace k5 := E1.cell k5
  replace k6 := E1.cell k6
  replace k7 := E1.cell k7
  replace k8 := E1.cell k8
  replace k9 := E1.cell k9
  replace k10 := E1.cell k10
  have ly := lt_of_cell y0
  have lt := lt_of_cell t0
  go_upto_region 7 with fail
  have E2 : Ext w (w1.alloc (.cells #[.int .i64 u'.kind, .int .i64 u'.length, .int .i64 u'.behind, .int .i64 u'.front, .int .i64 u'.rear, .int .i64 u'.width, .int .i64 u'.height, .int .i64 u'.mass, .int .i64 u'.steer, .int .i64 u'.most, .slice A2 u'.axles.length cap2] 45)) := E1.alloc _
  have hB := World.alloc_heap_new w1 (.cells #[.int .i64 u'.kind, .int .i64 u'.length, .int .i64 u'.behind, .int .i64 u'.front, .int .i64 u'.rear, .int .i64 u'.width, .int .i64 u'.height, .int .i64 u'.mass, .int .i64 u'.steer, .int .i64 u'.most, .slice A2 u'.axles.length cap2] 45)
  have EA : Ext w1 (w1.alloc (.cells #[.int .i64 u'.kind, .int .i64 u'.length, .int .i64 u'.behind, .int .i64 u'.front, .int .i64 u'.rear, .int .i64 u'.width, .int .i64 u'.height, .int .i64 u'.mass, .int .i64 u'.steer, .int .i64 u'.most, .slice A2 u'.axles.length cap2] 45)) := (Ext.refl _).alloc _
  generalize (w1.alloc (.cells #[.int .i64 u'.kind, .int .i64 u'.length, .int .i64 u'.behind, .int .i64 u'.front, .int .i64 u'.rear, .int .i64 u'.width, .int .i64 u'.height, .int .i64 u'.mass, .int .i64 u'.steer, .int .i64 u'.most, .slice A2 u'.axles.length cap2] 45)) = W2 at *
  replace y0 := EA.cell y0
  replace y1 := EA.cell y1
  replace y2 := EA.cell y2
  replace y3 := EA.cell y3
  replace t0 := EA.cell t0
  replace t1 := EA.cell t1
  replace t2 := EA.cell t2
  clear k0 k1 k2 k3 k4 k5 k6 k7 k8 k9 k10
  go_upto_region 8 with (go_at_call 31; refine (CJ.out _ E2).mono ?_; rintro e w3 ⟨A3, c3, rfl, ho, hb⟩; have E3 := E2.trans hb; replace hB := hb.blk hB; replace t2 := hb.cell t2; clear hb y0 y1 y2 y3 t0 t1)
  obtain ⟨g, c, ev, _, _, g0, g1⟩ := ho.at HUJ.out
  simp only [Value.slice.injEq] at ev
  obtain ⟨rfl, -, rfl⟩ := ev
  replace p0 := E3.cell p0
  replace p1 := E3.cell p1
  have d0 : w3.cell? ⟨w1.heap.size, 0, none⟩ = some (.int .i64 u'.kind) := World.news_of_block hB 0 _ rfl
  have d1 : w3.cell? ⟨w1.heap.size, 1, none⟩ = some (.int .i64 u'.length) := World.news_of_block hB 1 _ rfl
  have d2 : w3.cell? ⟨w1.heap.size, 2, none⟩ = some (.int .i64 u'.behind) := World.news_of_block hB 2 _ rfl
  have d3 : w3.cell? ⟨w1.heap.size, 3, none⟩ = some (.int .i64 u'.front) := World.news_of_block hB 3 _ rfl
  have d4 : w3.cell? ⟨w1.heap.size, 4, none⟩ = some (.int .i64 u'.rear) := World.news_of_block hB 4 _ rfl
  have d5 : w3.cell? ⟨w1.heap.size, 5, none⟩ = some (.int .i64 u'.width) := World.news_of_block hB 5 _ rfl
  have d6 : w3.cell? ⟨w1.heap.size, 6, none⟩ = some (.int .i64 u'.height) := World.news_of_block hB 6 _ rfl
  have d7 : w3.cell? ⟨w1.heap.size, 7, none⟩ = some (.int .i64 u'.mass) := World.news_of_block hB 7 _ rfl
  have d8 : w3.cell? ⟨w1.heap.size, 8, none⟩ = some (.int .i64 u'.steer) := World.news_of_block hB 8 _ rfl
  have d9 : w3.cell? ⟨w1.heap.size, 9, none⟩ = some (.int .i64 u'.most) := World.news_of_block hB 9 _ rfl
  have d10 : w3.cell? ⟨w1.heap.size, 10, none⟩ = some (.slice A2 u'.axles.length cap2) := World.news_of_block hB 10 _ rfl
  (refine Tail.wp_region_qtail (C := fun w' => Ext w3 w') 26 (by kernel_rfl) (by kernel_rfl) (fun _ _ _ _ _ h => h) (by (repeat' (first | exact Ext.refl _ | assumption | refine Ext.alloc ?_ _ | refine Ext.drew ?_ | refine Ext.drewN ?_ _ | refine Ext.set ?_ (by first | exact Nat.le_refl _ | exact le1 _ | exact le2 _ | exact le3 _ | exact le4 _ | exact le5 _ | exact le6 _) _ | refine Ext.trans ?_ (by assumption)))) ?_; simp only [List.take_succ_cons, List.take_zero, List.drop_succ_cons, List.drop_zero]; (repeat (with_reducible refine wpQuiet_step (fun K hK => ?_); go_simp; first | (refine hK _ ?_; clear hK K) | (apply Exists.intro; refine ⟨fun w' hC => ?_, hK _ ?_⟩; (focus first | with_reducible rfl | (have q0 := hC.cell d0; have q1 := hC.cell d1; have q2 := hC.cell d2; have q3 := hC.cell d3; have q4 := hC.cell d4; have q5 := hC.cell d5; have q6 := hC.cell d6; have q7 := hC.cell d7; have q8 := hC.cell d8; have q9 := hC.cell d9; have q10 := hC.cell d10; go_simp; done) | (have q0 := hC.cell d0; have q1 := hC.cell d1; have q2 := hC.cell d2; have q3 := hC.cell d3; have q4 := hC.cell d4; have q5 := hC.cell d5; have q6 := hC.cell d6; have q7 := hC.cell d7; have q8 := hC.cell d8; have q9 := hC.cell d9; have q10 := hC.cell d10; go_simp; exact ⟨rfl, rfl⟩) | (have q0 := hC.cell d0; have q1 := hC.cell d1; have q2 := hC.cell d2; have q3 := hC.cell d3; have q4 := hC.cell d4; have q5 := hC.cell d5; have q6 := hC.cell d6; have q7 := hC.cell d7; have q8 := hC.cell d8; have q9 := hC.cell d9; have q10 := hC.cell d10; go_simp; with_reducible rfl) | (exact (CU.out _ (E3.trans hC)).mono fun e w'' ⟨he, hw''⟩ => ⟨he, hC.trans hw''⟩)); clear hK K))); refine wpQuiet_nil ?_; intro wq hEq)
  replace p0 := hEq.cell p0
  replace p1 := hEq.cell p1
  replace g0 := hEq.cell g0
  replace g1 := hEq.cell g1
  replace t2 := hEq.cell t2
  replace d0 := hEq.cell d0
  replace d1 := hEq.cell d1
  replace d2 := hEq.cell d2
  replace d3 := hEq.cell d3
  replace d4 := hEq.cell d4
  replace d5 := hEq.cell d5
  replace d6 := hEq.cell d6
  replace d7 := hEq.cell d7
  replace d8 := hEq.cell d8
  replace d9 := hEq.cell d9
  replace d10 := hEq.cell d10
  have E4 := E3.trans hEq
  clear ho hB hEq
  have ld := lt_of_cell d0
  generalize pulledN u' + u'.front = F at *
  generalize pulledN u' - u'.length - u'.rear = R at *
  generalize hWid : u'.width = Wd at *
  generalize placeS (a1, a2) (j1, j2) F Wd = q0 at *
  generalize placeS (a1, a2) (j1, j2) F (-Wd) = q1 at *
  generalize placeS (a1, a2) (j1, j2) R Wd = q2 at *
  generalize placeS (a1, a2) (j1, j2) R (-Wd) = q3 at *
  obtain ⟨FE, hFE⟩ : ∃ FE, firstE [q0, q1, q2, q3] = FE := ⟨_, rfl⟩
  rw [hFE] at HQ HRO
  simp only [List.map_cons, List.map_nil] at HQ HRO
  have HFE := Lib.hid hFE
  clear hFE
  go_wp2_with fail
  have b8 := heap2_first wq (.cells #[.int .i64 F, .int .i64 F, .int .i64 R, .int .i64 R] 2) (.cells #[.int .i64 Wd, .int .i64 (-Wd), .int .i64 Wd, .int .i64 (-Wd)] 2)
  have b9 := heap2_second wq (.cells #[.int .i64 F, .int .i64 F, .int .i64 R, .int .i64 R] 2) (.cells #[.int .i64 Wd, .int .i64 (-Wd), .int .i64 Wd, .int .i64 (-Wd)] 2)
  have E9 : Ext wq ((wq.alloc (.cells #[.int .i64 F, .int .i64 F, .int .i64 R, .int .i64 R] 2)).alloc (.cells #[.int .i64 Wd, .int .i64 (-Wd), .int .i64 Wd, .int .i64 (-Wd)] 2)) := ((Ext.refl _).alloc _).alloc _
  have z9 : ((wq.alloc (.cells #[.int .i64 F, .int .i64 F, .int .i64 R, .int .i64 R] 2)).alloc (.cells #[.int .i64 Wd, .int .i64 (-Wd), .int .i64 Wd, .int .i64 (-Wd)] 2)).heap.size = wq.heap.size + 2 := by simp
  generalize ((wq.alloc (.cells #[.int .i64 F, .int .i64 F, .int .i64 R, .int .i64 R] 2)).alloc (.cells #[.int .i64 Wd, .int .i64 (-Wd), .int .i64 Wd, .int .i64 (-Wd)] 2)) = W9 at *
  replace p0 := E9.cell p0
  replace p1 := E9.cell p1
  replace g0 := E9.cell g0
  replace g1 := E9.cell g1
  replace t2 := E9.cell t2
  have x0 : W9.cell? ⟨wq.heap.size, 0, none⟩ = some (.int .i64 F) := World.news_of_block b8 0 _ rfl
  have z0 : W9.cell? ⟨wq.heap.size + 1, 0, none⟩ = some (.int .i64 Wd) := World.news_of_block b9 0 _ rfl
  have x1 : W9.cell? ⟨wq.heap.size, 1, none⟩ = some (.int .i64 F) := World.news_of_block b8 1 _ rfl
  have z1 : W9.cell? ⟨wq.heap.size + 1, 1, none⟩ = some (.int .i64 (-Wd)) := World.news_of_block b9 1 _ rfl
  have x2 : W9.cell? ⟨wq.heap.size, 2, none⟩ = some (.int .i64 R) := World.news_of_block b8 2 _ rfl
  have z2 : W9.cell? ⟨wq.heap.size + 1, 2, none⟩ = some (.int .i64 Wd) := World.news_of_block b9 2 _ rfl
  have x3 : W9.cell? ⟨wq.heap.size, 3, none⟩ = some (.int .i64 R) := World.news_of_block b8 3 _ rfl
  have z3 : W9.cell? ⟨wq.heap.size + 1, 3, none⟩ = some (.int .i64 (-Wd)) := World.news_of_block b9 3 _ rfl
  have EW9 := E4.trans E9
  have HCS := Lib.hid (And.intro p0 (And.intro p1 (And.intro g0 (And.intro g1 t2))))
  have HXS := Lib.hid (And.intro x0 (And.intro x1 (And.intro x2 x3)))
  have HYS := Lib.hid (And.intro z0 (And.intro z1 (And.intro z2 z3)))
  have z9' : wq.heap.size + 2 ≤ W9.heap.size := by omega
  have HEW := Lib.hid EW9
  have lg := lt_of_cell g0
  have lt2 := lt_of_cell t2
  have lp := lt_of_cell p0
  clear p0 p1 g0 g1 t2 x0 x1 x2 x3 z0 z1 z2 z3 b8 b9 E9 E4 EW9 z9 d0 d1 d2 d3 d4 d5 d6 d7 d8 d9 d10
  go_loopw [14, 15] (fun c t wr => ∃ (i N : Nat) (A : Option Addr) (cp : Nat), i ≤ 4 ∧ t = .int .i64 i ∧ c = .slice A N cp ∧ N = i ∧ firstE ([q0, q1, q2, q3].drop i) = FE ∧ OwnP W9.heap.size wr (.slice A N cp) ([q0.1, q1.1, q2.1, q3.1].take i) ∧ Ext W9 wr) (fun _ t _ => 4 - (intOf t).toNat)
  case atStart => exact ⟨0, 0, none, 0, by omega, rfl, rfl, rfl, HFE.out, OwnP.none0, Ext.refl _⟩
  case round =>
    obtain ⟨i, M, A, c5, hi, rfl, rfl, hM, hf, ho, hE⟩ := hrel
    have HF := Lib.hid hf
    have HO := Lib.hid ho
    have HE := Lib.hid hE
    have HM := Lib.hid hM
    clear hf ho hE hM
    by_cases hi4 : i = 4
    · subst hi4
      have hFE0 : FE = 0 := HF.out.symm
      have hok := HRO.out hFE0
      have CH := Lib.hid (fun W (h : Ext wr W) => Corners_c (.slice A M c5) [q0.1, q1.1, q2.1, q3.1] W (HO.out.pts.ext h) (fun p hp => okPt_wideB (hok p hp)) (by simp))
      clear hok
      have HZ := Lib.hid hFE0
      clear hFE0 hi
      go_wp2_with (go_at_call 34; refine (CH.out _ (by (repeat' (first | exact Ext.refl _ | assumption | refine Ext.alloc ?_ _ | refine Ext.drew ?_ | refine Ext.drewN ?_ _ | refine Ext.set ?_ (by first | exact Nat.le_refl _ | exact le1 _ | exact le2 _ | exact le3 _ | exact le4 _ | exact le5 _ | exact le6 _) _ | refine Ext.trans ?_ (by assumption))))).mono ?_; rintro e w8 ⟨v8, rfl, hp8, hb8⟩; obtain ⟨A8, c8, rfl, _⟩ := hp8.pts.shapeH; have HP8 := Lib.hid hp8.pts; clear hp8)
      exact bodyPost_ret (v := .tuple #[.slice A8 (cornersP [q0.1, q1.1, q2.1, q3.1]).length c8, .int .i64 0]) (by simp [results, Tryz.results8, go_sem]) rfl ⟨_, by rw [HQ.out, HZ.out], by rw [HQ.out, if_pos HZ.out]; exact HP8.out, HEW.out.trans (HE.out.trans hb8)⟩
    by_cases hi0 : i = 0
    · subst hi0
      clear hi4  hi
      rw [show ((0 : Nat) : Int) = 0 from rfl]
      obtain ⟨p0, p1, g0, g1, t2⟩ := HCS.out
      have xk := HXS.out.1
      have zk := HYS.out.1
      replace p0 := HE.out.cell p0
      replace p1 := HE.out.cell p1
      replace g0 := HE.out.cell g0
      replace g1 := HE.out.cell g1
      replace t2 := HE.out.cell t2
      replace xk := HE.out.cell xk
      replace zk := HE.out.cell zk
      have zE := HE.out.sz
      go_upto_region 14 with fail
      go_cut [16, 17] from 82 to 113 (fun sa sb wc => ∃ t, sa = .pointer (some ⟨t, 0, none⟩) ∧ sb = .int .i64 q0.2 ∧ Ext wr wc ∧ wr.heap.size ≤ t ∧ wc.heap[t]? = some (.cells #[.int .i64 q0.1.1, .int .i64 q0.1.2] 26 (0, 0)))
      case first =>
        go_region_held3 (fun w' => w'.cell? ⟨w.heap.size + 1, 2, none⟩ = some (.slice (some ⟨pb, poff, none⟩) ps.length capp) ∧ w'.cell? ⟨pb, poff + k * 2, none⟩ = some (.int .i64 a1) ∧ w'.cell? ⟨pb, poff + k * 2 + 1, none⟩ = some (.int .i64 a2) ∧ w'.cell? ⟨g, k * 2, none⟩ = some (.int .i64 j1) ∧ w'.cell? ⟨g, k * 2 + 1, none⟩ = some (.int .i64 j2) ∧ w'.cell? ⟨wq.heap.size, 0, none⟩ = some (.int .i64 F) ∧ w'.cell? ⟨wq.heap.size + 1, 0, none⟩ = some (.int .i64 Wd)) (refine ⟨?_, ?_, ?_, ?_, ?_, ?_, ?_⟩ <;> (repeat' (with_reducible (first | assumption | refine Ext.cell hbZ ?_ | refine Ext.cell (Ext.refl _).drew ?_ | refine cell_set_ne (by first | omega | (simp; omega)) ?_ | refine Ext.cell ((Ext.refl _).alloc _) ?_)))) (first
          | (go_at_call 33; refine (HA0.out _).mono ?_; rintro e wZ ⟨rfl, hbZ⟩; unfold ptV; have zZ := (show Ext wr wZ from by (repeat' (first | exact Ext.refl _ | assumption | refine Ext.alloc ?_ _ | refine Ext.drew ?_ | refine Ext.drewN ?_ _ | refine Ext.set ?_ (by first | exact Nat.le_refl _ | exact le1 _ | exact le2 _ | exact le3 _ | exact le4 _ | exact le5 _ | exact le6 _) _ | refine Ext.trans ?_ (by assumption)))).sz; (try (replace yW := (hbZ.block _ (Array.getElem?_eq_some_iff.1 yW).1).trans yW)); (try (have yW : wZ.heap[wr.heap.size]? = some (.cells #[.int .i64 0, .int .i64 0] 26 (0, 0)) := new_kept (W := wr.drew) hbZ)); (try (have c0 : wZ.cell? ⟨wr.heap.size, 0, none⟩ = some (.int .i64 0) := World.news_of_block yW 0 _ rfl; have c1 : wZ.cell? ⟨wr.heap.size, 1, none⟩ = some (.int .i64 0) := World.news_of_block yW 1 _ rfl; have f0 := blk_frz yW 0; have f1 := blk_frz yW 1)); skip))
        all_goals
          go_wp2_with fail
          go_meet
          first
            | exact ⟨wZ.heap.size, rfl, rfl, by (repeat' (first | exact Ext.refl _ | assumption | refine Ext.alloc ?_ _ | refine Ext.drew ?_ | refine Ext.drewN ?_ _ | refine Ext.set ?_ (by first | exact Nat.le_refl _ | exact le1 _ | exact le2 _ | exact le3 _ | exact le4 _ | exact le5 _ | exact le6 _) _ | refine Ext.trans ?_ (by assumption))), zZ, World.alloc_heap_new wZ _⟩
            | exact ⟨wr.heap.size, rfl, rfl, ((show Ext wr wZ from by (repeat' (first | exact Ext.refl _ | assumption | refine Ext.alloc ?_ _ | refine Ext.drew ?_ | refine Ext.drewN ?_ _ | refine Ext.set ?_ (by first | exact Nat.le_refl _ | exact le1 _ | exact le2 _ | exact le3 _ | exact le4 _ | exact le5 _ | exact le6 _) _ | refine Ext.trans ?_ (by assumption)))).set (p := ⟨wr.heap.size, 0, none⟩) (Nat.le_refl _) _).set (p := ⟨wr.heap.size, 1, none⟩) (Nat.le_refl _) _, (Nat.le_refl _), two1 _ (two0 _ yW)⟩
      case rest =>
        obtain ⟨tb, rfl, rfl, EZ, ztb, hT⟩ := hcut
        have EZ9 := HE.out.trans EZ
        have zZ := EZ.sz
        by_cases hqe : q0.2 = 0
        · have hf2 : firstE ([q0, q1, q2, q3].drop 1) = FE := (firstE_ok hqe).symm.trans HF.out
          have HF2 := Lib.hid hf2
          have hMe : M = 0 := HM.out
          have HMe := Lib.hid (show ([] : List Pt).length = M from hMe.symm)
          have hMb : M ≤ 10 := by omega
          have ho2 : OwnP W9.heap.size wr (.slice A M c5) [] := HO.out
          have HO2 := Lib.hid (ho2.ext EZ)
          have HEZ := Lib.hid EZ9
          have T0 : wc.cell? ⟨tb, 0, none⟩ = some (.int .i64 q0.1.1) := World.news_of_block hT 0 _ rfl
          have T1 : wc.cell? ⟨tb, 1, none⟩ = some (.int .i64 q0.1.2) := World.news_of_block hT 1 _ rfl
          clear hf2 hMe ho2 EZ EZ9 hT p0 p1 g0 g1 t2 xk zk
          rw [hqe]
          clear hqe
          go_wp2_with (at_builtin; refine wpList_append_pt1 (by rfl) _ _ (by rfl) W9.heap.size (.slice A M c5) [] M wc.heap.size q0.1.1 q0.1.2 (by rfl) (HO2.out.ext ((Ext.refl _).alloc _)) HMe.out (by rfl) (World.alloc_heap_new wc _) (by omega) (by simp; omega) ?_; intro g4 c4 w4 ho4 hg4 _; have E4 : Ext W9 w4 := Ext.trans' (w := W9) (HEZ.out.alloc _) hg4 (own_ge' HO2.out); replace ho4 := Lib.hid ho4; replace hg4 := Lib.hid hg4; replace E4 := Lib.hid E4)
          go_roundw
          case rel => exact ⟨1, M + 1, some ⟨g4, 0, none⟩, c4, by omega, by go_num, rfl, by have := HM.out; omega, HF2.out, ho4.out, E4.out⟩
          case measure => simp [intOf]
        · have hf2 : q0.2 = FE := (firstE_bad hqe).symm.trans HF.out
          have hn1 : (q0.2 != 0) = true := by simpa using hqe
          have HF2 := Lib.hid hf2
          have HNQ := Lib.hid hqe
          clear hf2 hqe
          go_wp2_with fail
          exact bodyPost_ret (v := .tuple #[.slice none 0 0, .int .i64 q0.2]) (by simp [results, Tryz.results8, go_sem]) rfl ⟨_, by rw [HQ.out, ← HF2.out], by rw [HQ.out, if_neg (by rw [← HF2.out]; exact HNQ.out)]; exact .inl ⟨none, 0, rfl, rfl⟩, HEW.out.trans EZ9⟩
    by_cases hi1 : i = 1
    · subst hi1
      clear hi4 hi0 hi
      rw [show ((1 : Nat) : Int) = 1 from rfl]
      obtain ⟨p0, p1, g0, g1, t2⟩ := HCS.out
      have xk := HXS.out.2.1
      have zk := HYS.out.2.1
      replace p0 := HE.out.cell p0
      replace p1 := HE.out.cell p1
      replace g0 := HE.out.cell g0
      replace g1 := HE.out.cell g1
      replace t2 := HE.out.cell t2
      replace xk := HE.out.cell xk
      replace zk := HE.out.cell zk
      have zE := HE.out.sz
      go_upto_region 14 with fail
      go_cut [16, 17] from 82 to 113 (fun sa sb wc => ∃ t, sa = .pointer (some ⟨t, 0, none⟩) ∧ sb = .int .i64 q1.2 ∧ Ext wr wc ∧ wr.heap.size ≤ t ∧ wc.heap[t]? = some (.cells #[.int .i64 q1.1.1, .int .i64 q1.1.2] 26 (0, 0)))
      case first =>
        go_region_held3 (fun w' => w'.cell? ⟨w.heap.size + 1, 2, none⟩ = some (.slice (some ⟨pb, poff, none⟩) ps.length capp) ∧ w'.cell? ⟨pb, poff + k * 2, none⟩ = some (.int .i64 a1) ∧ w'.cell? ⟨pb, poff + k * 2 + 1, none⟩ = some (.int .i64 a2) ∧ w'.cell? ⟨g, k * 2, none⟩ = some (.int .i64 j1) ∧ w'.cell? ⟨g, k * 2 + 1, none⟩ = some (.int .i64 j2) ∧ w'.cell? ⟨wq.heap.size, 1, none⟩ = some (.int .i64 F) ∧ w'.cell? ⟨wq.heap.size + 1, 1, none⟩ = some (.int .i64 (-Wd))) (refine ⟨?_, ?_, ?_, ?_, ?_, ?_, ?_⟩ <;> (repeat' (with_reducible (first | assumption | refine Ext.cell hbZ ?_ | refine Ext.cell (Ext.refl _).drew ?_ | refine cell_set_ne (by first | omega | (simp; omega)) ?_ | refine Ext.cell ((Ext.refl _).alloc _) ?_)))) (first
          | (go_at_call 33; refine (HA1.out _).mono ?_; rintro e wZ ⟨rfl, hbZ⟩; unfold ptV; have zZ := (show Ext wr wZ from by (repeat' (first | exact Ext.refl _ | assumption | refine Ext.alloc ?_ _ | refine Ext.drew ?_ | refine Ext.drewN ?_ _ | refine Ext.set ?_ (by first | exact Nat.le_refl _ | exact le1 _ | exact le2 _ | exact le3 _ | exact le4 _ | exact le5 _ | exact le6 _) _ | refine Ext.trans ?_ (by assumption)))).sz; (try (replace yW := (hbZ.block _ (Array.getElem?_eq_some_iff.1 yW).1).trans yW)); (try (have yW : wZ.heap[wr.heap.size]? = some (.cells #[.int .i64 0, .int .i64 0] 26 (0, 0)) := new_kept (W := wr.drew) hbZ)); (try (have c0 : wZ.cell? ⟨wr.heap.size, 0, none⟩ = some (.int .i64 0) := World.news_of_block yW 0 _ rfl; have c1 : wZ.cell? ⟨wr.heap.size, 1, none⟩ = some (.int .i64 0) := World.news_of_block yW 1 _ rfl; have f0 := blk_frz yW 0; have f1 := blk_frz yW 1)); skip))
        all_goals
          go_wp2_with fail
          go_meet
          first
            | exact ⟨wZ.heap.size, rfl, rfl, by (repeat' (first | exact Ext.refl _ | assumption | refine Ext.alloc ?_ _ | refine Ext.drew ?_ | refine Ext.drewN ?_ _ | refine Ext.set ?_ (by first | exact Nat.le_refl _ | exact le1 _ | exact le2 _ | exact le3 _ | exact le4 _ | exact le5 _ | exact le6 _) _ | refine Ext.trans ?_ (by assumption))), zZ, World.alloc_heap_new wZ _⟩
            | exact ⟨wr.heap.size, rfl, rfl, ((show Ext wr wZ from by (repeat' (first | exact Ext.refl _ | assumption | refine Ext.alloc ?_ _ | refine Ext.drew ?_ | refine Ext.drewN ?_ _ | refine Ext.set ?_ (by first | exact Nat.le_refl _ | exact le1 _ | exact le2 _ | exact le3 _ | exact le4 _ | exact le5 _ | exact le6 _) _ | refine Ext.trans ?_ (by assumption)))).set (p := ⟨wr.heap.size, 0, none⟩) (Nat.le_refl _) _).set (p := ⟨wr.heap.size, 1, none⟩) (Nat.le_refl _) _, (Nat.le_refl _), two1 _ (two0 _ yW)⟩
      case rest =>
        obtain ⟨tb, rfl, rfl, EZ, ztb, hT⟩ := hcut
        have EZ9 := HE.out.trans EZ
        have zZ := EZ.sz
        by_cases hqe : q1.2 = 0
        · have hf2 : firstE ([q0, q1, q2, q3].drop 2) = FE := (firstE_ok hqe).symm.trans HF.out
          have HF2 := Lib.hid hf2
          have hMe : M = 1 := HM.out
          have HMe := Lib.hid (show ([q0.1] : List Pt).length = M from hMe.symm)
          have hMb : M ≤ 10 := by omega
          have ho2 : OwnP W9.heap.size wr (.slice A M c5) [q0.1] := HO.out
          have HO2 := Lib.hid (ho2.ext EZ)
          have HEZ := Lib.hid EZ9
          have T0 : wc.cell? ⟨tb, 0, none⟩ = some (.int .i64 q1.1.1) := World.news_of_block hT 0 _ rfl
          have T1 : wc.cell? ⟨tb, 1, none⟩ = some (.int .i64 q1.1.2) := World.news_of_block hT 1 _ rfl
          clear hf2 hMe ho2 EZ EZ9 hT p0 p1 g0 g1 t2 xk zk
          rw [hqe]
          clear hqe
          go_wp2_with (at_builtin; refine wpList_append_pt1 (by rfl) _ _ (by rfl) W9.heap.size (.slice A M c5) [q0.1] M wc.heap.size q1.1.1 q1.1.2 (by rfl) (HO2.out.ext ((Ext.refl _).alloc _)) HMe.out (by rfl) (World.alloc_heap_new wc _) (by omega) (by simp; omega) ?_; intro g4 c4 w4 ho4 hg4 _; have E4 : Ext W9 w4 := Ext.trans' (w := W9) (HEZ.out.alloc _) hg4 (own_ge' HO2.out); replace ho4 := Lib.hid ho4; replace hg4 := Lib.hid hg4; replace E4 := Lib.hid E4)
          go_roundw
          case rel => exact ⟨2, M + 1, some ⟨g4, 0, none⟩, c4, by omega, by go_num, rfl, by have := HM.out; omega, HF2.out, ho4.out, E4.out⟩
          case measure => simp [intOf]
        · have hf2 : q1.2 = FE := (firstE_bad hqe).symm.trans HF.out
          have hn1 : (q1.2 != 0) = true := by simpa using hqe
          have HF2 := Lib.hid hf2
          have HNQ := Lib.hid hqe
          clear hf2 hqe
          go_wp2_with fail
          exact bodyPost_ret (v := .tuple #[.slice none 0 0, .int .i64 q1.2]) (by simp [results, Tryz.results8, go_sem]) rfl ⟨_, by rw [HQ.out, ← HF2.out], by rw [HQ.out, if_neg (by rw [← HF2.out]; exact HNQ.out)]; exact .inl ⟨none, 0, rfl, rfl⟩, HEW.out.trans EZ9⟩
    by_cases hi2 : i = 2
    · subst hi2
      clear hi4 hi0 hi1 hi
      rw [show ((2 : Nat) : Int) = 2 from rfl]
      obtain ⟨p0, p1, g0, g1, t2⟩ := HCS.out
      have xk := HXS.out.2.2.1
      have zk := HYS.out.2.2.1
      replace p0 := HE.out.cell p0
      replace p1 := HE.out.cell p1
      replace g0 := HE.out.cell g0
      replace g1 := HE.out.cell g1
      replace t2 := HE.out.cell t2
      replace xk := HE.out.cell xk
      replace zk := HE.out.cell zk
      have zE := HE.out.sz
      go_upto_region 14 with fail
      go_cut [16, 17] from 82 to 113 (fun sa sb wc => ∃ t, sa = .pointer (some ⟨t, 0, none⟩) ∧ sb = .int .i64 q2.2 ∧ Ext wr wc ∧ wr.heap.size ≤ t ∧ wc.heap[t]? = some (.cells #[.int .i64 q2.1.1, .int .i64 q2.1.2] 26 (0, 0)))
      case first =>
        go_region_held3 (fun w' => w'.cell? ⟨w.heap.size + 1, 2, none⟩ = some (.slice (some ⟨pb, poff, none⟩) ps.length capp) ∧ w'.cell? ⟨pb, poff + k * 2, none⟩ = some (.int .i64 a1) ∧ w'.cell? ⟨pb, poff + k * 2 + 1, none⟩ = some (.int .i64 a2) ∧ w'.cell? ⟨g, k * 2, none⟩ = some (.int .i64 j1) ∧ w'.cell? ⟨g, k * 2 + 1, none⟩ = some (.int .i64 j2) ∧ w'.cell? ⟨wq.heap.size, 2, none⟩ = some (.int .i64 R) ∧ w'.cell? ⟨wq.heap.size + 1, 2, none⟩ = some (.int .i64 Wd)) (refine ⟨?_, ?_, ?_, ?_, ?_, ?_, ?_⟩ <;> (repeat' (with_reducible (first | assumption | refine Ext.cell hbZ ?_ | refine Ext.cell (Ext.refl _).drew ?_ | refine cell_set_ne (by first | omega | (simp; omega)) ?_ | refine Ext.cell ((Ext.refl _).alloc _) ?_)))) (first
          | (go_at_call 33; refine (HA2.out _).mono ?_; rintro e wZ ⟨rfl, hbZ⟩; unfold ptV; have zZ := (show Ext wr wZ from by (repeat' (first | exact Ext.refl _ | assumption | refine Ext.alloc ?_ _ | refine Ext.drew ?_ | refine Ext.drewN ?_ _ | refine Ext.set ?_ (by first | exact Nat.le_refl _ | exact le1 _ | exact le2 _ | exact le3 _ | exact le4 _ | exact le5 _ | exact le6 _) _ | refine Ext.trans ?_ (by assumption)))).sz; (try (replace yW := (hbZ.block _ (Array.getElem?_eq_some_iff.1 yW).1).trans yW)); (try (have yW : wZ.heap[wr.heap.size]? = some (.cells #[.int .i64 0, .int .i64 0] 26 (0, 0)) := new_kept (W := wr.drew) hbZ)); (try (have c0 : wZ.cell? ⟨wr.heap.size, 0, none⟩ = some (.int .i64 0) := World.news_of_block yW 0 _ rfl; have c1 : wZ.cell? ⟨wr.heap.size, 1, none⟩ = some (.int .i64 0) := World.news_of_block yW 1 _ rfl; have f0 := blk_frz yW 0; have f1 := blk_frz yW 1)); skip))
        all_goals
          go_wp2_with fail
          go_meet
          first
            | exact ⟨wZ.heap.size, rfl, rfl, by (repeat' (first | exact Ext.refl _ | assumption | refine Ext.alloc ?_ _ | refine Ext.drew ?_ | refine Ext.drewN ?_ _ | refine Ext.set ?_ (by first | exact Nat.le_refl _ | exact le1 _ | exact le2 _ | exact le3 _ | exact le4 _ | exact le5 _ | exact le6 _) _ | refine Ext.trans ?_ (by assumption))), zZ, World.alloc_heap_new wZ _⟩
            | exact ⟨wr.heap.size, rfl, rfl, ((show Ext wr wZ from by (repeat' (first | exact Ext.refl _ | assumption | refine Ext.alloc ?_ _ | refine Ext.drew ?_ | refine Ext.drewN ?_ _ | refine Ext.set ?_ (by first | exact Nat.le_refl _ | exact le1 _ | exact le2 _ | exact le3 _ | exact le4 _ | exact le5 _ | exact le6 _) _ | refine Ext.trans ?_ (by assumption)))).set (p := ⟨wr.heap.size, 0, none⟩) (Nat.le_refl _) _).set (p := ⟨wr.heap.size, 1, none⟩) (Nat.le_refl _) _, (Nat.le_refl _), two1 _ (two0 _ yW)⟩
      case rest =>
        obtain ⟨tb, rfl, rfl, EZ, ztb, hT⟩ := hcut
        have EZ9 := HE.out.trans EZ
        have zZ := EZ.sz
        by_cases hqe : q2.2 = 0
        · have hf2 : firstE ([q0, q1, q2, q3].drop 3) = FE := (firstE_ok hqe).symm.trans HF.out
          have HF2 := Lib.hid hf2
          have hMe : M = 2 := HM.out
          have HMe := Lib.hid (show ([q0.1, q1.1] : List Pt).length = M from hMe.symm)
          have hMb : M ≤ 10 := by omega
          have ho2 : OwnP W9.heap.size wr (.slice A M c5) [q0.1, q1.1] := HO.out
          have HO2 := Lib.hid (ho2.ext EZ)
          have HEZ := Lib.hid EZ9
          have T0 : wc.cell? ⟨tb, 0, none⟩ = some (.int .i64 q2.1.1) := World.news_of_block hT 0 _ rfl
          have T1 : wc.cell? ⟨tb, 1, none⟩ = some (.int .i64 q2.1.2) := World.news_of_block hT 1 _ rfl
          clear hf2 hMe ho2 EZ EZ9 hT p0 p1 g0 g1 t2 xk zk
          rw [hqe]
          clear hqe
          go_wp2_with (at_builtin; refine wpList_append_pt1 (by rfl) _ _ (by rfl) W9.heap.size (.slice A M c5) [q0.1, q1.1] M wc.heap.size q2.1.1 q2.1.2 (by rfl) (HO2.out.ext ((Ext.refl _).alloc _)) HMe.out (by rfl) (World.alloc_heap_new wc _) (by omega) (by simp; omega) ?_; intro g4 c4 w4 ho4 hg4 _; have E4 : Ext W9 w4 := Ext.trans' (w := W9) (HEZ.out.alloc _) hg4 (own_ge' HO2.out); replace ho4 := Lib.hid ho4; replace hg4 := Lib.hid hg4; replace E4 := Lib.hid E4)
          go_roundw
          case rel => exact ⟨3, M + 1, some ⟨g4, 0, none⟩, c4, by omega, by go_num, rfl, by have := HM.out; omega, HF2.out, ho4.out, E4.out⟩
          case measure => simp [intOf]
        · have hf2 : q2.2 = FE := (firstE_bad hqe).symm.trans HF.out
          have hn1 : (q2.2 != 0) = true := by simpa using hqe
          have HF2 := Lib.hid hf2
          have HNQ := Lib.hid hqe
          clear hf2 hqe
          go_wp2_with fail
          exact bodyPost_ret (v := .tuple #[.slice none 0 0, .int .i64 q2.2]) (by simp [results, Tryz.results8, go_sem]) rfl ⟨_, by rw [HQ.out, ← HF2.out], by rw [HQ.out, if_neg (by rw [← HF2.out]; exact HNQ.out)]; exact .inl ⟨none, 0, rfl, rfl⟩, HEW.out.trans EZ9⟩
    obtain rfl : i = 3 := by omega
    · clear hi4 hi0 hi1 hi2 hi
      rw [show ((3 : Nat) : Int) = 3 from rfl]
      obtain ⟨p0, p1, g0, g1, t2⟩ := HCS.out
      have xk := HXS.out.2.2.2
      have zk := HYS.out.2.2.2
      replace p0 := HE.out.cell p0
      replace p1 := HE.out.cell p1
      replace g0 := HE.out.cell g0
      replace g1 := HE.out.cell g1
      replace t2 := HE.out.cell t2
      replace xk := HE.out.cell xk
      replace zk := HE.out.cell zk
      have zE := HE.out.sz
      go_upto_region 14 with fail
      go_cut [16, 17] from 82 to 113 (fun sa sb wc => ∃ t, sa = .pointer (some ⟨t, 0, none⟩) ∧ sb = .int .i64 q3.2 ∧ Ext wr wc ∧ wr.heap.size ≤ t ∧ wc.heap[t]? = some (.cells #[.int .i64 q3.1.1, .int .i64 q3.1.2] 26 (0, 0)))
      case first =>
        go_region_held3 (fun w' => w'.cell? ⟨w.heap.size + 1, 2, none⟩ = some (.slice (some ⟨pb, poff, none⟩) ps.length capp) ∧ w'.cell? ⟨pb, poff + k * 2, none⟩ = some (.int .i64 a1) ∧ w'.cell? ⟨pb, poff + k * 2 + 1, none⟩ = some (.int .i64 a2) ∧ w'.cell? ⟨g, k * 2, none⟩ = some (.int .i64 j1) ∧ w'.cell? ⟨g, k * 2 + 1, none⟩ = some (.int .i64 j2) ∧ w'.cell? ⟨wq.heap.size, 3, none⟩ = some (.int .i64 R) ∧ w'.cell? ⟨wq.heap.size + 1, 3, none⟩ = some (.int .i64 (-Wd))) (refine ⟨?_, ?_, ?_, ?_, ?_, ?_, ?_⟩ <;> (repeat' (with_reducible (first | assumption | refine Ext.cell hbZ ?_ | refine Ext.cell (Ext.refl _).drew ?_ | refine cell_set_ne (by first | omega | (simp; omega)) ?_ | refine Ext.cell ((Ext.refl _).alloc _) ?_)))) (first
          | (go_at_call 33; refine (HA3.out _).mono ?_; rintro e wZ ⟨rfl, hbZ⟩; unfold ptV; have zZ := (show Ext wr wZ from by (repeat' (first | exact Ext.refl _ | assumption | refine Ext.alloc ?_ _ | refine Ext.drew ?_ | refine Ext.drewN ?_ _ | refine Ext.set ?_ (by first | exact Nat.le_refl _ | exact le1 _ | exact le2 _ | exact le3 _ | exact le4 _ | exact le5 _ | exact le6 _) _ | refine Ext.trans ?_ (by assumption)))).sz; (try (replace yW := (hbZ.block _ (Array.getElem?_eq_some_iff.1 yW).1).trans yW)); (try (have yW : wZ.heap[wr.heap.size]? = some (.cells #[.int .i64 0, .int .i64 0] 26 (0, 0)) := new_kept (W := wr.drew) hbZ)); (try (have c0 : wZ.cell? ⟨wr.heap.size, 0, none⟩ = some (.int .i64 0) := World.news_of_block yW 0 _ rfl; have c1 : wZ.cell? ⟨wr.heap.size, 1, none⟩ = some (.int .i64 0) := World.news_of_block yW 1 _ rfl; have f0 := blk_frz yW 0; have f1 := blk_frz yW 1)); skip))
        all_goals
          go_wp2_with fail
          go_meet
          first
            | exact ⟨wZ.heap.size, rfl, rfl, by (repeat' (first | exact Ext.refl _ | assumption | refine Ext.alloc ?_ _ | refine Ext.drew ?_ | refine Ext.drewN ?_ _ | refine Ext.set ?_ (by first | exact Nat.le_refl _ | exact le1 _ | exact le2 _ | exact le3 _ | exact le4 _ | exact le5 _ | exact le6 _) _ | refine Ext.trans ?_ (by assumption))), zZ, World.alloc_heap_new wZ _⟩
            | exact ⟨wr.heap.size, rfl, rfl, ((show Ext wr wZ from by (repeat' (first | exact Ext.refl _ | assumption | refine Ext.alloc ?_ _ | refine Ext.drew ?_ | refine Ext.drewN ?_ _ | refine Ext.set ?_ (by first | exact Nat.le_refl _ | exact le1 _ | exact le2 _ | exact le3 _ | exact le4 _ | exact le5 _ | exact le6 _) _ | refine Ext.trans ?_ (by assumption)))).set (p := ⟨wr.heap.size, 0, none⟩) (Nat.le_refl _) _).set (p := ⟨wr.heap.size, 1, none⟩) (Nat.le_refl _) _, (Nat.le_refl _), two1 _ (two0 _ yW)⟩
      case rest =>
        obtain ⟨tb, rfl, rfl, EZ, ztb, hT⟩ := hcut
        have EZ9 := HE.out.trans EZ
        have zZ := EZ.sz
        by_cases hqe : q3.2 = 0
        · have hf2 : firstE ([q0, q1, q2, q3].drop 4) = FE := (firstE_ok hqe).symm.trans HF.out
          have HF2 := Lib.hid hf2
          have hMe : M = 3 := HM.out
          have HMe := Lib.hid (show ([q0.1, q1.1, q2.1] : List Pt).length = M from hMe.symm)
          have hMb : M ≤ 10 := by omega
          have ho2 : OwnP W9.heap.size wr (.slice A M c5) [q0.1, q1.1, q2.1] := HO.out
          have HO2 := Lib.hid (ho2.ext EZ)
          have HEZ := Lib.hid EZ9
          have T0 : wc.cell? ⟨tb, 0, none⟩ = some (.int .i64 q3.1.1) := World.news_of_block hT 0 _ rfl
          have T1 : wc.cell? ⟨tb, 1, none⟩ = some (.int .i64 q3.1.2) := World.news_of_block hT 1 _ rfl
          clear hf2 hMe ho2 EZ EZ9 hT p0 p1 g0 g1 t2 xk zk
          rw [hqe]
          clear hqe
          go_wp2_with (at_builtin; refine wpList_append_pt1 (by rfl) _ _ (by rfl) W9.heap.size (.slice A M c5) [q0.1, q1.1, q2.1] M wc.heap.size q3.1.1 q3.1.2 (by rfl) (HO2.out.ext ((Ext.refl _).alloc _)) HMe.out (by rfl) (World.alloc_heap_new wc _) (by omega) (by simp; omega) ?_; intro g4 c4 w4 ho4 hg4 _; have E4 : Ext W9 w4 := Ext.trans' (w := W9) (HEZ.out.alloc _) hg4 (own_ge' HO2.out); replace ho4 := Lib.hid ho4; replace hg4 := Lib.hid hg4; replace E4 := Lib.hid E4)
          go_roundw
          case rel => exact ⟨4, M + 1, some ⟨g4, 0, none⟩, c4, by omega, by go_num, rfl, by have := HM.out; omega, HF2.out, ho4.out, E4.out⟩
          case measure => simp [intOf]
        · have hf2 : q3.2 = FE := (firstE_bad hqe).symm.trans HF.out
          have hn1 : (q3.2 != 0) = true := by simpa using hqe
          have HF2 := Lib.hid hf2
          have HNQ := Lib.hid hqe
          clear hf2 hqe
          go_wp2_with fail
          exact bodyPost_ret (v := .tuple #[.slice none 0 0, .int .i64 q3.2]) (by simp [results, Tryz.results8, go_sem]) rfl ⟨_, by rw [HQ.out, ← HF2.out], by rw [HQ.out, if_neg (by rw [← HF2.out]; exact HNQ.out)]; exact .inl ⟨none, 0, rfl, rfl⟩, HEW.out.trans EZ9⟩
end
end Go.Proofs.YtcbjecpfijogcaaGreat
