
/- Contract: LoadLine, by the reference. -/
import Derived.Test.YtcbjecpfijogcaaGreatCBodySAll
import Derived.Test.YtcbjecpfijogcaaGreatHAppAll
import Derived.Test.YtcbjecpfijogcaaGreatCRJoint
namespace Go.Proofs.YtcbjecpfijogcaaGreat
open Go.RowKit Go.Shelf

section
variable {vu vp : Value} {v : CVeh} {lead : Pt} {ps : List Pt}
set_option maxRecDepth 100000 in
set_option maxHeartbeats 6400000 in
theorem RLine_go (w : World) (hs : Sl 11 RUnit w vu v.units) (hp : Pts w vp ps) (h1 : poseE v lead ps = 0) :
    Calls Tryz.prog 11 #[vehV v vu, poseV lead vp] w fun e w' => e = .returned (lineV (lineS v lead ps)) ∧ Ext w w' := by
  have CP := fun w' (h : Ext w w') => RCheckPose_c (lead := lead) w' (hs.ext RUnit.stable h) (hp.ext h)
  rw [h1] at CP
  have hpl := puts_len h1
  obtain ⟨f, l, hf, hl, hfl, hln⟩ := veh_ends hpl.2.1
  have hpb : poseB v.units lead ps = true := by
    cases hb : poseB v.units lead ps
    · rw [poseE_no hpl.2.1 hb] at h1; cases h1
    · rfl
  have CJ := fun w' (h : Ext w w') => joints_yes (lead := lead) w' (hs.ext RUnit.stable h) (hp.ext h) hpl.2.1 hpb
  have hvv := vehE_units hpl.2.1
  obtain ⟨pa, hpa⟩ := some_of_lt (show f < (putsN lead v.units ps).length by omega)
  obtain ⟨pc, hpc⟩ := some_of_lt (show l < (putsN lead v.units ps).length by omega)
  have HLL := lineS_ok h1 hf hl hpa hpc
  have hax := (putsN_at _ _ _ _ _ hpa).2
  have hun := (putsN_at _ _ _ _ _ hpa).1
  have hax2 := (putsN_at _ _ _ _ _ hpc).2
  have hun2 := (putsN_at _ _ _ _ _ hpc).1
  have hux := hvv _ (mem_of_some hun)
  have huy := hvv _ (mem_of_some hun2)
  obtain ⟨A, cap, rfl, hl', hl2⟩ := hs.shape
  obtain ⟨Ap, capp, rfl⟩ := pts_shape hp
  obtain ⟨pb, poff, rfl, p0, p1⟩ := pts_at hp hax
  obtain ⟨pb', poff', ev, p2, p3⟩ := pts_at hp hax2
  simp only [Option.some.injEq, Addr.mk.injEq, and_true] at ev
  obtain ⟨rfl, rfl⟩ := ev
  obtain ⟨b, off, csu, rfl, _, ⟨vx, rfl, haxl⟩, hcu⟩ := hs.at hun
  obtain ⟨b', off', csu', ev, _, ⟨vx', rfl, haxl2⟩, hcu2⟩ := hs.at hun2
  simp only [Option.some.injEq, Addr.mk.injEq, and_true] at ev
  obtain ⟨rfl, rfl⟩ := ev
  obtain ⟨A2, cap2, rfl, _, _⟩ := haxl.shape
  obtain ⟨A4, cap4, rfl, _, _⟩ := haxl2.shape
  have HUJ := Lib.hid (putsN_joint hpa)
  have HUK := Lib.hid (putsN_joint hpc)
  obtain ⟨l1, l2⟩ := lead
  obtain ⟨⟨ua, ⟨j1, j2⟩, ⟨a1, a2⟩⟩, rfl⟩ : ∃ u', u' = pa := ⟨pa, rfl⟩
  obtain ⟨⟨ub, ⟨j3, j4⟩, ⟨a3, a4⟩⟩, rfl⟩ : ∃ u', u' = pc := ⟨pc, rfl⟩
  simp only at p0 p1 p2 p3 haxl haxl2 hcu hcu2 hux huy HUJ HUK ⊢
  have CUx := Lib.hid (fun w' (he : Ext w w') => Rpulled_c (.slice A2 ua.axles.length cap2) ua w' hux (haxl.ext RAxle.stable he))
  have CUy := Lib.hid (fun w' (he : Ext w w') => Rpulled_c (.slice A4 ub.axles.length cap4) ub w' huy (haxl2.ext RAxle.stable he))
  have CAx := fun w' => RPlace_c a1 a2 j1 j2 (pulledN ua - ua.length) 0 w'
  have CAy := fun w' => RPlace_c a3 a4 j3 j4 (pulledN ub - ub.length) 0 w'
  have hp1 := pulled_bds hux
  have hp2 := pulled_bds huy
  have hq1 := unitB_bds hux
  have hq2 := unitB_bds huy
  have ex := IntWalk.i64_in (pulledN ua - ua.length) (by omega)
  have ey := IntWalk.i64_in (pulledN ub - ub.length) (by omega)
  unfold lineL rearP at HLL
  simp only at HLL
  generalize placeS (a1, a2) (j1, j2) (pulledN ua - ua.length) 0 = qa at *
  generalize placeS (a3, a4) (j3, j4) (pulledN ub - ub.length) 0 = qb at *
  have HCAy := Lib.hid CAy
  unfold ptV at CAx
  have HAx := Lib.hid CAx
  unfold vehV poseV at *
  rw [hf, hl] at CP CJ ⊢
  simp only at CP CJ ⊢
  generalize lineS v (l1, l2) ps = LS at *
  have hpl1 := hpl.1
  obtain ⟨n, hn⟩ : ∃ n, (putsN (l1, l2) v.units ps).length = n := ⟨_, rfl⟩
  rw [hn] at CJ hpl1
  subst hpl1
  generalize putsN (l1, l2) v.units ps = PN at *
  have hpsl := hpl.2.2
  have i0 : (0 : Int) ≤ (f : Int) := by omega
  have i1 : (f : Int) < (v.units.length : Int) := by omega
  have i2 : (0 : Int) ≤ (l : Int) := by omega
  have i3 : (l : Int) < (v.units.length : Int) := by omega
  have i4 : (f : Int) < (ps.length : Int) := by omega
  have i5 : (l : Int) < (ps.length : Int) := by omega
  have hbp := lt_of_cell p0
  replace CP := Lib.hid CP
  replace CJ := Lib.hid CJ
  have k0 := hcu 0 _ rfl
  have m0 := hcu2 0 _ rfl
  have k1 := hcu 1 _ rfl
  have m1 := hcu2 1 _ rfl
  have k2 := hcu 2 _ rfl
  have m2 := hcu2 2 _ rfl
  have k3 := hcu 3 _ rfl
  have m3 := hcu2 3 _ rfl
  have k4 := hcu 4 _ rfl
  have m4 := hcu2 4 _ rfl
  have k5 := hcu 5 _ rfl
  have m5 := hcu2 5 _ rfl
  have k6 := hcu 6 _ rfl
  have m6 := hcu2 6 _ rfl
  have k7 := hcu 7 _ rfl
  have m7 := hcu2 7 _ rfl
  have k8 := hcu 8 _ rfl
  have m8 := hcu2 8 _ rfl
  have k9 := hcu 9 _ rfl
  have m9 := hcu2 9 _ rfl
  have k10 := hcu 10 _ rfl
  have m10 := hcu2 10 _ rfl
  simp only [Nat.add_zero] at k0 m0
  have hbk := lt_of_cell k0
  have HL := Lib.hid (And.intro hfl hln)
  clear hs hp h1 hpl hpb hpa hpc hax hax2 hun hun2 hvv hn hpsl hux huy hcu hcu2 haxl haxl2 CAx CAy hp1 hp2 hq1 hq2 hf hl
  go_enter Tryz.func11, Tryz.ntmps11
  go_upto_region 5 with (first
    | (go_at_call 15; refine (CP.out _ (by (repeat' (first | exact Ext.refl _ | assumption | refine Ext.alloc ?_ _ | refine Ext.drew ?_ | refine Ext.drewN ?_ _ | refine Ext.set ?_ (by first | exact Nat.le_refl _ | exact le1 _ | exact le2 _ | exact le3 _ | exact le4 _ | exact le5 _ | exact le6 _) _ | refine Ext.trans ?_ (by assumption))))).mono ?_; rintro e w1 ⟨rfl, hb⟩; have E1 : Ext w w1 := (((((Ext.refl w).alloc _).alloc _).alloc _).alloc _).trans hb; have y1 := Ext.cell hb (p := ⟨w.heap.size, 1, none⟩) (v := .slice (some ⟨b, off, none⟩) v.units.length cap) (by go_simp); have y0 := Ext.cell hb (p := ⟨w.heap.size, 0, none⟩) (v := .string v.name) (by go_simp); have y2 := Ext.cell hb (p := ⟨w.heap.size, 2, none⟩) (v := .int .i64 f) (by go_simp); have y3 := Ext.cell hb (p := ⟨w.heap.size, 3, none⟩) (v := .int .i64 l) (by go_simp); have t0 := Ext.cell hb (p := ⟨w.heap.size + 1, 0, none⟩) (v := .int .i64 l1) (by go_simp); have t1 := Ext.cell hb (p := ⟨w.heap.size + 1, 1, none⟩) (v := .int .i64 l2) (by go_simp); have t2 := Ext.cell hb (p := ⟨w.heap.size + 1, 2, none⟩) (v := .slice (some ⟨pb, poff, none⟩) ps.length capp) (by go_simp); have bR1 : w1.heap[w.heap.size + 1 + 1]? = some (.cells #[.int .i64 0, .int .i64 0] 26 (0, 0)) := (hb.block _ (by simp)).trans ((Below.heap_alloc _ _ _ (by simp)).trans (new_at (by simp))); have bR2 : w1.heap[w.heap.size + 1 + 1 + 1]? = some (.cells #[.int .i64 0, .int .i64 0] 26 (0, 0)) := (hb.block _ (by simp)).trans (new_at (by simp)); have lR := fst_lt bR2; clear hb)
    | (go_at_call 31; refine (CJ.out _ E1).mono ?_; rintro e w2 ⟨A3, c3, rfl, ho, hb⟩; have E2 := E1.trans hb; replace y1 := hb.cell y1; replace y2 := hb.cell y2; replace y3 := hb.cell y3; replace t2 := hb.cell t2; replace bR1 := hb.blk bR1; replace bR2 := hb.blk bR2; have z12 := hb.sz; clear hb y0 t0 t1))
  obtain ⟨g, c, ev, _, _, g0, g1⟩ := ho.at HUJ.out
  simp only [Value.slice.injEq] at ev
  obtain ⟨rfl, -, rfl⟩ := ev
  obtain ⟨g', c', ev, _, _, g2, g3⟩ := ho.at HUK.out
  simp only [Value.slice.injEq, Option.some.injEq, Addr.mk.injEq, and_true] at ev
  obtain ⟨rfl, -⟩ := ev
  replace k0 := E2.cell k0
  replace m0 := E2.cell m0
  replace k1 := E2.cell k1
  replace m1 := E2.cell m1
  replace k2 := E2.cell k2
  replace m2 := E2.cell m2
  replace k3 := E2.cell k3
  replace m3 := E2.cell m3
  replace k4 := E2.cell k4
  replace m4 := E2.cell m4
  replace k5 := E2.cell k5
  replace m5 := E2.cell m5
  replace k6 := E2.cell k6
  replace m6 := E2.cell m6
  replace k7 := E2.cell k7
  replace m7 := E2.cell m7
  replace k8 := E2.cell k8
  replace m8 := E2.cell m8
  replace k9 := E2.cell k9
  replace m9 := E2.cell m9
  replace k10 := E2.cell k10
  replace m10 := E2.cell m10
  replace p0 := E2.cell p0
  replace p1 := E2.cell p1
  replace p2 := E2.cell p2
  replace p3 := E2.cell p3
  have HBR := Lib.hid (And.intro bR1 bR2)
  have lv := lt_of_cell y2
  have lg := lt_of_cell g0
  have lb := lt_of_cell k0
  have lp := lt_of_cell p0
  have lt2 := lt_of_cell t2
  have HE2 := Lib.hid E2
  clear ho bR1 bR2 E2 E1
  go_upto_region 7 with fail
  have hU := heap2_first w2 (.cells #[.int .i64 ua.kind, .int .i64 ua.length, .int .i64 ua.behind, .int .i64 ua.front, .int .i64 ua.rear, .int .i64 ua.width, .int .i64 ua.height, .int .i64 ua.mass, .int .i64 ua.steer, .int .i64 ua.most, .slice A2 ua.axles.length cap2] 45) (.cells #[.int .i64 j1, .int .i64 j2] 26)
  have hF := heap2_second w2 (.cells #[.int .i64 ua.kind, .int .i64 ua.length, .int .i64 ua.behind, .int .i64 ua.front, .int .i64 ua.rear, .int .i64 ua.width, .int .i64 ua.height, .int .i64 ua.mass, .int .i64 ua.steer, .int .i64 ua.most, .slice A2 ua.axles.length cap2] 45) (.cells #[.int .i64 j1, .int .i64 j2] 26)
  have E26 : Ext w2 ((w2.alloc (.cells #[.int .i64 ua.kind, .int .i64 ua.length, .int .i64 ua.behind, .int .i64 ua.front, .int .i64 ua.rear, .int .i64 ua.width, .int .i64 ua.height, .int .i64 ua.mass, .int .i64 ua.steer, .int .i64 ua.most, .slice A2 ua.axles.length cap2] 45)).alloc (.cells #[.int .i64 j1, .int .i64 j2] 26)) := ((Ext.refl _).alloc _).alloc _
  have z26 : ((w2.alloc (.cells #[.int .i64 ua.kind, .int .i64 ua.length, .int .i64 ua.behind, .int .i64 ua.front, .int .i64 ua.rear, .int .i64 ua.width, .int .i64 ua.height, .int .i64 ua.mass, .int .i64 ua.steer, .int .i64 ua.most, .slice A2 ua.axles.length cap2] 45)).alloc (.cells #[.int .i64 j1, .int .i64 j2] 26)).heap.size = w2.heap.size + 2 := by simp
  generalize ((w2.alloc (.cells #[.int .i64 ua.kind, .int .i64 ua.length, .int .i64 ua.behind, .int .i64 ua.front, .int .i64 ua.rear, .int .i64 ua.width, .int .i64 ua.height, .int .i64 ua.mass, .int .i64 ua.steer, .int .i64 ua.most, .slice A2 ua.axles.length cap2] 45)).alloc (.cells #[.int .i64 j1, .int .i64 j2] 26)) = W6 at *
  have z6 : w2.heap.size + 2 ≤ W6.heap.size := by omega
  have HF6 := Lib.hid hF
  have HE26 := Lib.hid E26
  have HC := Lib.hid ((And.intro y1 (And.intro y2 (And.intro y3 (And.intro t2 (And.intro p0 (And.intro p1 (And.intro p2 (And.intro p3 (And.intro g0 (And.intro g1 (And.intro g2 (And.intro g3 (And.intro m0 (And.intro m1 (And.intro m2 (And.intro m3 (And.intro m4 (And.intro m5 (And.intro m6 (And.intro m7 (And.intro m8 (And.intro m9 m10)))))))))))))))))))))))
  clear k0 k1 k2 k3 k4 k5 k6 k7 k8 k9 k10 y1 y2 y3 t2 p0 p1 p2 p3 g0 g1 g2 g3 m0 m1 m2 m3 m4 m5 m6 m7 m8 m9 m10
  have hne1 : w2.heap.size + 1 ≠ w.heap.size + 1 + 1 := by omega
  have hne2 : w2.heap.size + 1 ≠ w.heap.size + 1 + 1 + 1 := by omega
  have hne3 : w.heap.size + 1 + 1 ≠ w2.heap.size + 1 := by omega
  have hne4 : w.heap.size + 1 + 1 + 1 ≠ w2.heap.size + 1 := by omega
  have a0 : W6.cell? ⟨w2.heap.size, 0, none⟩ = some (.int .i64 ua.kind) := World.news_of_block hU 0 _ rfl
  have a1 : W6.cell? ⟨w2.heap.size, 1, none⟩ = some (.int .i64 ua.length) := World.news_of_block hU 1 _ rfl
  have a2 : W6.cell? ⟨w2.heap.size, 2, none⟩ = some (.int .i64 ua.behind) := World.news_of_block hU 2 _ rfl
  have a3 : W6.cell? ⟨w2.heap.size, 3, none⟩ = some (.int .i64 ua.front) := World.news_of_block hU 3 _ rfl
  have a4 : W6.cell? ⟨w2.heap.size, 4, none⟩ = some (.int .i64 ua.rear) := World.news_of_block hU 4 _ rfl
  have a5 : W6.cell? ⟨w2.heap.size, 5, none⟩ = some (.int .i64 ua.width) := World.news_of_block hU 5 _ rfl
  have a6 : W6.cell? ⟨w2.heap.size, 6, none⟩ = some (.int .i64 ua.height) := World.news_of_block hU 6 _ rfl
  have a7 : W6.cell? ⟨w2.heap.size, 7, none⟩ = some (.int .i64 ua.mass) := World.news_of_block hU 7 _ rfl
  have a8 : W6.cell? ⟨w2.heap.size, 8, none⟩ = some (.int .i64 ua.steer) := World.news_of_block hU 8 _ rfl
  have a9 : W6.cell? ⟨w2.heap.size, 9, none⟩ = some (.int .i64 ua.most) := World.news_of_block hU 9 _ rfl
  have a10 : W6.cell? ⟨w2.heap.size, 10, none⟩ = some (.slice A2 ua.axles.length cap2) := World.news_of_block hU 10 _ rfl
  clear hU hF E26 z26
  obtain ⟨⟨qa1, qa2⟩, qae⟩ := qa
  by_cases hflt : f < l
  · have hlt : ¬ (f : Int) = (l : Int) := by omega
    have hlt2 : ¬ f = l := by omega
    have hdec : decide (f = l) = false := decide_eq_false (by omega)
    rw [hdec] at HLL
    clear hdec hflt
    have y1 := HE26.out.cell HC.out.1
    have y2 := HE26.out.cell HC.out.2.1
    have y3 := HE26.out.cell HC.out.2.2.1
    have t2 := HE26.out.cell HC.out.2.2.2.1
    have p0 := HE26.out.cell HC.out.2.2.2.2.1
    have p1 := HE26.out.cell HC.out.2.2.2.2.2.1
    have g0 := HE26.out.cell HC.out.2.2.2.2.2.2.2.2.1
    have g1 := HE26.out.cell HC.out.2.2.2.2.2.2.2.2.2.1
    have hEw6 : Ext w W6 := HE2.out.trans HE26.out
    go_upto_region 8 with fail
    (refine Tail.wp_region_qtail (C := fun w' => Ext W6 w') 17 (by kernel_rfl) (by kernel_rfl) (fun _ _ _ _ _ h => h) (by (repeat' (first | exact Ext.refl _ | assumption | refine Ext.alloc ?_ _ | refine Ext.drew ?_ | refine Ext.drewN ?_ _ | refine Ext.set ?_ (by first | exact Nat.le_refl _ | exact le1 _ | exact le2 _ | exact le3 _ | exact le4 _ | exact le5 _ | exact le6 _) _ | refine Ext.trans ?_ (by assumption)))) ?_; simp only [List.take_succ_cons, List.take_zero, List.drop_succ_cons, List.drop_zero]; (repeat (with_reducible refine wpQuiet_step (fun K hK => ?_); go_simp; first | (refine hK _ ?_; clear hK K) | (apply Exists.intro; refine ⟨fun w' hC => ?_, hK _ ?_⟩; (focus first | with_reducible rfl | (have q0 := hC.cell y2; have q1 := hC.cell t2; have q2 := hC.cell p0; have q3 := hC.cell p1; have q4 := hC.cell g0; have q5 := hC.cell g1; have q6 := hC.cell a0; have q7 := hC.cell a1; have q8 := hC.cell a2; have q9 := hC.cell a3; have q10 := hC.cell a4; have q11 := hC.cell a5; have q12 := hC.cell a6; have q13 := hC.cell a7; have q14 := hC.cell a8; have q15 := hC.cell a9; have q16 := hC.cell a10; go_simp; done) | (have q0 := hC.cell y2; have q1 := hC.cell t2; have q2 := hC.cell p0; have q3 := hC.cell p1; have q4 := hC.cell g0; have q5 := hC.cell g1; have q6 := hC.cell a0; have q7 := hC.cell a1; have q8 := hC.cell a2; have q9 := hC.cell a3; have q10 := hC.cell a4; have q11 := hC.cell a5; have q12 := hC.cell a6; have q13 := hC.cell a7; have q14 := hC.cell a8; have q15 := hC.cell a9; have q16 := hC.cell a10; go_simp; exact ⟨rfl, rfl⟩) | (have q0 := hC.cell y2; have q1 := hC.cell t2; have q2 := hC.cell p0; have q3 := hC.cell p1; have q4 := hC.cell g0; have q5 := hC.cell g1; have q6 := hC.cell a0; have q7 := hC.cell a1; have q8 := hC.cell a2; have q9 := hC.cell a3; have q10 := hC.cell a4; have q11 := hC.cell a5; have q12 := hC.cell a6; have q13 := hC.cell a7; have q14 := hC.cell a8; have q15 := hC.cell a9; have q16 := hC.cell a10; go_simp; with_reducible rfl) | (exact (CUx.out _ (hEw6.trans hC)).mono fun e w'' ⟨he, hw''⟩ => ⟨he, hC.trans hw''⟩) | (exact (HAx.out _).mono fun e w'' ⟨he, hw''⟩ => ⟨he, hC.trans hw''⟩)); clear hK K))); refine wpQuiet_nil ?_; intro wq hEq)
    have hFq := hEq.blk HF6.out
    have u0 : wq.cell? ⟨w2.heap.size + 1, 0, none⟩ = some (.int .i64 j1) := World.news_of_block hFq 0 _ rfl
    have u1 : wq.cell? ⟨w2.heap.size + 1, 1, none⟩ = some (.int .i64 j2) := World.news_of_block hFq 1 _ rfl
    have f0 := blk_frz hFq 0
    have f1 := blk_frz hFq 1
    have zq := hEq.sz
    have lF := fst_lt hFq
    have HFQ := Lib.hid hFq
    have E2Q := HE26.out.trans hEq
    have HE2Q := Lib.hid E2Q
    have hR1 := E2Q.blk HBR.out.1
    have hR2 := E2Q.blk HBR.out.2
    have r10 : wq.cell? ⟨w.heap.size + 1 + 1, 0, none⟩ = some (.int .i64 0) := World.news_of_block hR1 0 _ rfl
    have fr10 := blk_frz hR1 0
    have r11 : wq.cell? ⟨w.heap.size + 1 + 1, 1, none⟩ = some (.int .i64 0) := World.news_of_block hR1 1 _ rfl
    have fr11 := blk_frz hR1 1
    have r20 : wq.cell? ⟨w.heap.size + 1 + 1 + 1, 0, none⟩ = some (.int .i64 0) := World.news_of_block hR2 0 _ rfl
    have fr20 := blk_frz hR2 0
    have r21 : wq.cell? ⟨w.heap.size + 1 + 1 + 1, 1, none⟩ = some (.int .i64 0) := World.news_of_block hR2 1 _ rfl
    have fr21 := blk_frz hR2 1
    have HR12 := Lib.hid (And.intro hR1 hR2)
    have HEQ := Lib.hid (HE2.out.trans E2Q)
    clear hR1 hR2 hFq hEq E2Q a0 a1 a2 a3 a4 a5 a6 a7 a8 a9 a10 y1 y2 y3 t2 p0 p1 g0 g1 hEw6
    by_cases hqe : qae = 0
    · subst hqe
      go_upto_region 11 with fail
      have hx0 := two1 (.int .i64 qa2) (two0 (.int .i64 qa1) HFQ.out)
      have hx1 := (blk_oth (c := w2.heap.size + 1) (i := 1) (u := .int .i64 qa2) (by omega) (blk_oth (c := w2.heap.size + 1) (i := 0) (u := .int .i64 qa1) (by omega) HR12.out.1))
      have hx2 := (blk_oth (c := w2.heap.size + 1) (i := 1) (u := .int .i64 qa2) (by omega) (blk_oth (c := w2.heap.size + 1) (i := 0) (u := .int .i64 qa1) (by omega) HR12.out.2))
      have eQ2 : Ext w ((wq.setCell ⟨w2.heap.size + 1, 0, none⟩ (.int .i64 qa1)).setCell ⟨w2.heap.size + 1, 1, none⟩ (.int .i64 qa2)) := ((HEQ.out.set (p := ⟨w2.heap.size + 1, 0, none⟩) (show w.heap.size ≤ w2.heap.size + 1 by omega) (.int .i64 qa1)).set (p := ⟨w2.heap.size + 1, 1, none⟩) (show w.heap.size ≤ w2.heap.size + 1 by omega) (.int .i64 qa2))
      have eQ5 : Ext w2 ((wq.setCell ⟨w2.heap.size + 1, 0, none⟩ (.int .i64 qa1)).setCell ⟨w2.heap.size + 1, 1, none⟩ (.int .i64 qa2)) := ((HE2Q.out.set (p := ⟨w2.heap.size + 1, 0, none⟩) (show w2.heap.size ≤ w2.heap.size + 1 by omega) (.int .i64 qa1)).set (p := ⟨w2.heap.size + 1, 1, none⟩) (show w2.heap.size ≤ w2.heap.size + 1 by omega) (.int .i64 qa2))
      have zW := eQ5.sz
      have zW2 : ((wq.setCell ⟨w2.heap.size + 1, 0, none⟩ (.int .i64 qa1)).setCell ⟨w2.heap.size + 1, 1, none⟩ (.int .i64 qa2)).heap.size = wq.heap.size := by simp
      generalize ((wq.setCell ⟨w2.heap.size + 1, 0, none⟩ (.int .i64 qa1)).setCell ⟨w2.heap.size + 1, 1, none⟩ (.int .i64 qa2)) = W7 at *
      have zW3 : w2.heap.size + 2 ≤ W7.heap.size := by omega
      have HFB := Lib.hid hx0
      have HR12' := Lib.hid (And.intro hx1 hx2)
      have HEB := Lib.hid eQ2
      have HEB2 := Lib.hid eQ5
      clear HR12 hx0 hx1 hx2 eQ2 eQ5 r10 r11 r20 r21 fr10 fr11 fr20 fr21 u0 u1 f0 f1 HFQ zW2
      have HR12 := HR12'
      clear HR12'
      have y1 := HEB2.out.cell HC.out.1
      have y2 := HEB2.out.cell HC.out.2.1
      have y3 := HEB2.out.cell HC.out.2.2.1
      have m0 := HEB2.out.cell HC.out.2.2.2.2.2.2.2.2.2.2.2.2.1
      have m1 := HEB2.out.cell HC.out.2.2.2.2.2.2.2.2.2.2.2.2.2.1
      have m2 := HEB2.out.cell HC.out.2.2.2.2.2.2.2.2.2.2.2.2.2.2.1
      have m3 := HEB2.out.cell HC.out.2.2.2.2.2.2.2.2.2.2.2.2.2.2.2.1
      have m4 := HEB2.out.cell HC.out.2.2.2.2.2.2.2.2.2.2.2.2.2.2.2.2.1
      have m5 := HEB2.out.cell HC.out.2.2.2.2.2.2.2.2.2.2.2.2.2.2.2.2.2.1
      have m6 := HEB2.out.cell HC.out.2.2.2.2.2.2.2.2.2.2.2.2.2.2.2.2.2.2.1
      have m7 := HEB2.out.cell HC.out.2.2.2.2.2.2.2.2.2.2.2.2.2.2.2.2.2.2.2.1
      have m8 := HEB2.out.cell HC.out.2.2.2.2.2.2.2.2.2.2.2.2.2.2.2.2.2.2.2.2.1
      have m9 := HEB2.out.cell HC.out.2.2.2.2.2.2.2.2.2.2.2.2.2.2.2.2.2.2.2.2.2.1
      have m10 := HEB2.out.cell HC.out.2.2.2.2.2.2.2.2.2.2.2.2.2.2.2.2.2.2.2.2.2.2
      go_upto_region 12 with fail
      have hU2 := World.alloc_heap_new W7 (.cells #[.int .i64 ub.kind, .int .i64 ub.length, .int .i64 ub.behind, .int .i64 ub.front, .int .i64 ub.rear, .int .i64 ub.width, .int .i64 ub.height, .int .i64 ub.mass, .int .i64 ub.steer, .int .i64 ub.most, .slice A4 ub.axles.length cap4] 45)
      have E8 : Ext W7 (W7.alloc (.cells #[.int .i64 ub.kind, .int .i64 ub.length, .int .i64 ub.behind, .int .i64 ub.front, .int .i64 ub.rear, .int .i64 ub.width, .int .i64 ub.height, .int .i64 ub.mass, .int .i64 ub.steer, .int .i64 ub.most, .slice A4 ub.axles.length cap4] 45)) := (Ext.refl _).alloc _
      have z8 := E8.sz
      generalize (W7.alloc (.cells #[.int .i64 ub.kind, .int .i64 ub.length, .int .i64 ub.behind, .int .i64 ub.front, .int .i64 ub.rear, .int .i64 ub.width, .int .i64 ub.height, .int .i64 ub.mass, .int .i64 ub.steer, .int .i64 ub.most, .slice A4 ub.axles.length cap4] 45)) = W8 at *
      clear y1 y2 y3 m0 m1 m2 m3 m4 m5 m6 m7 m8 m9 m10
      have y3 := (HEB2.out.trans E8).cell HC.out.2.2.1
      have t2 := (HEB2.out.trans E8).cell HC.out.2.2.2.1
      have p2 := (HEB2.out.trans E8).cell HC.out.2.2.2.2.2.2.1
      have p3 := (HEB2.out.trans E8).cell HC.out.2.2.2.2.2.2.2.1
      have g2 := (HEB2.out.trans E8).cell HC.out.2.2.2.2.2.2.2.2.2.2.1
      have g3 := (HEB2.out.trans E8).cell HC.out.2.2.2.2.2.2.2.2.2.2.2.1
      have c0 : W8.cell? ⟨W7.heap.size, 0, none⟩ = some (.int .i64 ub.kind) := World.news_of_block hU2 0 _ rfl
      have c1 : W8.cell? ⟨W7.heap.size, 1, none⟩ = some (.int .i64 ub.length) := World.news_of_block hU2 1 _ rfl
      have c2 : W8.cell? ⟨W7.heap.size, 2, none⟩ = some (.int .i64 ub.behind) := World.news_of_block hU2 2 _ rfl
      have c3 : W8.cell? ⟨W7.heap.size, 3, none⟩ = some (.int .i64 ub.front) := World.news_of_block hU2 3 _ rfl
      have c4 : W8.cell? ⟨W7.heap.size, 4, none⟩ = some (.int .i64 ub.rear) := World.news_of_block hU2 4 _ rfl
      have c5 : W8.cell? ⟨W7.heap.size, 5, none⟩ = some (.int .i64 ub.width) := World.news_of_block hU2 5 _ rfl
      have c6 : W8.cell? ⟨W7.heap.size, 6, none⟩ = some (.int .i64 ub.height) := World.news_of_block hU2 6 _ rfl
      have c7 : W8.cell? ⟨W7.heap.size, 7, none⟩ = some (.int .i64 ub.mass) := World.news_of_block hU2 7 _ rfl
      have c8 : W8.cell? ⟨W7.heap.size, 8, none⟩ = some (.int .i64 ub.steer) := World.news_of_block hU2 8 _ rfl
      have c9 : W8.cell? ⟨W7.heap.size, 9, none⟩ = some (.int .i64 ub.most) := World.news_of_block hU2 9 _ rfl
      have c10 : W8.cell? ⟨W7.heap.size, 10, none⟩ = some (.slice A4 ub.axles.length cap4) := World.news_of_block hU2 10 _ rfl
      have hEw8 : Ext w W8 := HEB.out.trans E8
      have lU2 := fst_lt hU2
      go_cut [13, 7] from 76 to 94 (fun sa sb wc => ∃ t, sa = .pointer (some ⟨t, 0, none⟩) ∧ sb = .int .i64 qb.2 ∧ Ext W8 wc ∧ W8.heap.size ≤ t ∧ wc.heap[t]? = some (.cells #[.int .i64 qb.1.1, .int .i64 qb.1.2] 26 (0, 0)))
      case first =>
        go_region_held3 (fun w' => w'.cell? ⟨w.heap.size, 3, none⟩ = some (.int .i64 l) ∧ w'.cell? ⟨w.heap.size + 1, 2, none⟩ = some (.slice (some ⟨pb, poff, none⟩) ps.length capp) ∧ w'.cell? ⟨pb, poff + l * 2, none⟩ = some (.int .i64 a3) ∧ w'.cell? ⟨pb, poff + l * 2 + 1, none⟩ = some (.int .i64 a4) ∧ w'.cell? ⟨g, l * 2, none⟩ = some (.int .i64 j3) ∧ w'.cell? ⟨g, l * 2 + 1, none⟩ = some (.int .i64 j4) ∧ w'.cell? ⟨W7.heap.size, 0, none⟩ = some (.int .i64 ub.kind) ∧ w'.cell? ⟨W7.heap.size, 1, none⟩ = some (.int .i64 ub.length) ∧ w'.cell? ⟨W7.heap.size, 2, none⟩ = some (.int .i64 ub.behind) ∧ w'.cell? ⟨W7.heap.size, 3, none⟩ = some (.int .i64 ub.front) ∧ w'.cell? ⟨W7.heap.size, 4, none⟩ = some (.int .i64 ub.rear) ∧ w'.cell? ⟨W7.heap.size, 5, none⟩ = some (.int .i64 ub.width) ∧ w'.cell? ⟨W7.heap.size, 6, none⟩ = some (.int .i64 ub.height) ∧ w'.cell? ⟨W7.heap.size, 7, none⟩ = some (.int .i64 ub.mass) ∧ w'.cell? ⟨W7.heap.size, 8, none⟩ = some (.int .i64 ub.steer) ∧ w'.cell? ⟨W7.heap.size, 9, none⟩ = some (.int .i64 ub.most) ∧ w'.cell? ⟨W7.heap.size, 10, none⟩ = some (.slice A4 ub.axles.length cap4)) (refine ⟨?_, ?_, ?_, ?_, ?_, ?_, ?_, ?_, ?_, ?_, ?_, ?_, ?_, ?_, ?_, ?_, ?_⟩ <;> (repeat' (with_reducible (first | assumption | refine Ext.cell hbZ ?_ | refine Ext.cell hbE ?_ | refine Ext.cell (Ext.refl _).drew ?_ | refine cell_set_ne (by first | omega | (simp; omega)) ?_ | refine Ext.cell ((Ext.refl _).alloc _) ?_)))) (first
          | (go_at_call 32; refine (CUy.out _ (by (repeat' (first | exact Ext.refl _ | assumption | refine Ext.alloc ?_ _ | refine Ext.drew ?_ | refine Ext.drewN ?_ _ | refine Ext.set ?_ (by first | exact Nat.le_refl _ | exact le1 _ | exact le2 _ | exact le3 _ | exact le4 _ | exact le5 _ | exact le6 _) _ | refine Ext.trans ?_ (by assumption))))).mono ?_; rintro e wE ⟨rfl, hbE⟩; have zE := (show Ext W8 wE from by (repeat' (first | exact Ext.refl _ | assumption | refine Ext.alloc ?_ _ | refine Ext.drew ?_ | refine Ext.drewN ?_ _ | refine Ext.set ?_ (by first | exact Nat.le_refl _ | exact le1 _ | exact le2 _ | exact le3 _ | exact le4 _ | exact le5 _ | exact le6 _) _ | refine Ext.trans ?_ (by assumption)))).sz; (try (replace yW := (hbE.block _ (Array.getElem?_eq_some_iff.1 yW).1).trans yW)); (try (have yW : wE.heap[W8.heap.size]? = some (.cells #[.int .i64 0, .int .i64 0] 26 (0, 0)) := new_kept (W := W8.drew) hbE)); skip)
          | (go_at_call 33; refine (HCAy.out _).mono ?_; rintro e wZ ⟨rfl, hbZ⟩; unfold ptV; have zZ := (show Ext W8 wZ from by (repeat' (first | exact Ext.refl _ | assumption | refine Ext.alloc ?_ _ | refine Ext.drew ?_ | refine Ext.drewN ?_ _ | refine Ext.set ?_ (by first | exact Nat.le_refl _ | exact le1 _ | exact le2 _ | exact le3 _ | exact le4 _ | exact le5 _ | exact le6 _) _ | refine Ext.trans ?_ (by assumption)))).sz; (try (replace yE := (hbZ.block _ (Array.getElem?_eq_some_iff.1 yE).1).trans yE)); (try (replace yW := (hbZ.block _ (Array.getElem?_eq_some_iff.1 yW).1).trans yW)); (try (have yW : wZ.heap[W8.heap.size]? = some (.cells #[.int .i64 0, .int .i64 0] 26 (0, 0)) := new_kept (W := W8.drew) hbZ)); (try (have yE : wZ.heap[wE.heap.size]? = some (.cells #[.int .i64 0, .int .i64 0] 26 (0, 0)) := new_kept (W := wE) hbZ)); (try (have c0 : wZ.cell? ⟨W8.heap.size, 0, none⟩ = some (.int .i64 0) := World.news_of_block yW 0 _ rfl; have c1 : wZ.cell? ⟨W8.heap.size, 1, none⟩ = some (.int .i64 0) := World.news_of_block yW 1 _ rfl; have f0 := blk_frz yW 0; have f1 := blk_frz yW 1)); (try (have c0 : wZ.cell? ⟨wE.heap.size, 0, none⟩ = some (.int .i64 0) := World.news_of_block yE 0 _ rfl; have c1 : wZ.cell? ⟨wE.heap.size, 1, none⟩ = some (.int .i64 0) := World.news_of_block yE 1 _ rfl; have f0 := blk_frz yE 0; have f1 := blk_frz yE 1)); skip))
        all_goals
          go_wp2_with fail
          go_meet
          first
            | exact ⟨wZ.heap.size, rfl, rfl, by (repeat' (first | exact Ext.refl _ | assumption | refine Ext.alloc ?_ _ | refine Ext.drew ?_ | refine Ext.drewN ?_ _ | refine Ext.set ?_ (by first | exact Nat.le_refl _ | exact le1 _ | exact le2 _ | exact le3 _ | exact le4 _ | exact le5 _ | exact le6 _) _ | refine Ext.trans ?_ (by assumption))), zZ, World.alloc_heap_new wZ _⟩
            | exact ⟨wE.heap.size, rfl, rfl, ((show Ext W8 wZ from by (repeat' (first | exact Ext.refl _ | assumption | refine Ext.alloc ?_ _ | refine Ext.drew ?_ | refine Ext.drewN ?_ _ | refine Ext.set ?_ (by first | exact Nat.le_refl _ | exact le1 _ | exact le2 _ | exact le3 _ | exact le4 _ | exact le5 _ | exact le6 _) _ | refine Ext.trans ?_ (by assumption)))).set (p := ⟨wE.heap.size, 0, none⟩) zE _).set (p := ⟨wE.heap.size, 1, none⟩) zE _, zE, two1 _ (two0 _ yE)⟩
            | exact ⟨W8.heap.size, rfl, rfl, ((show Ext W8 wZ from by (repeat' (first | exact Ext.refl _ | assumption | refine Ext.alloc ?_ _ | refine Ext.drew ?_ | refine Ext.drewN ?_ _ | refine Ext.set ?_ (by first | exact Nat.le_refl _ | exact le1 _ | exact le2 _ | exact le3 _ | exact le4 _ | exact le5 _ | exact le6 _) _ | refine Ext.trans ?_ (by assumption)))).set (p := ⟨W8.heap.size, 0, none⟩) (Nat.le_refl _) _).set (p := ⟨W8.heap.size, 1, none⟩) (Nat.le_refl _) _, (Nat.le_refl _), two1 _ (two0 _ yW)⟩
      case rest =>
        obtain ⟨tb, rfl, rfl, EZ0, ztb, hT⟩ := hcut
        have EZ := E8.trans EZ0
        have hFz := EZ.blk HFB.out
        have hR1 := EZ.blk HR12.out.1
        have hR2 := EZ.blk HR12.out.2
        have eZ : Ext w wc := HEB.out.trans EZ
        obtain ⟨⟨qb1, qb2⟩, qbe⟩ := qb
        dsimp only at hT HLL ⊢
        have r10 : wc.cell? ⟨w.heap.size + 1 + 1, 0, none⟩ = some (.int .i64 0) := World.news_of_block hR1 0 _ rfl
        have fr10 := blk_frz hR1 0
        have r11 : wc.cell? ⟨w.heap.size + 1 + 1, 1, none⟩ = some (.int .i64 0) := World.news_of_block hR1 1 _ rfl
        have fr11 := blk_frz hR1 1
        have r20 : wc.cell? ⟨w.heap.size + 1 + 1 + 1, 0, none⟩ = some (.int .i64 0) := World.news_of_block hR2 0 _ rfl
        have fr20 := blk_frz hR2 0
        have r21 : wc.cell? ⟨w.heap.size + 1 + 1 + 1, 1, none⟩ = some (.int .i64 0) := World.news_of_block hR2 1 _ rfl
        have fr21 := blk_frz hR2 1
        have lR2 := fst_lt hR2
        clear c0 c1 c2 c3 c4 c5 c6 c7 c8 c9 c10 y3 t2 p2 p3 g2 g3
        by_cases hqb : qbe = 0
        · subst hqb
          have t0 : wc.cell? ⟨tb, 0, none⟩ = some (.int .i64 qb1) := World.news_of_block hT 0 _ rfl
          have t1 : wc.cell? ⟨tb, 1, none⟩ = some (.int .i64 qb2) := World.news_of_block hT 1 _ rfl
          have k0 : wc.cell? ⟨w2.heap.size + 1, 0, none⟩ = some (.int .i64 qa1) := World.news_of_block hFz 0 _ rfl
          have k1 : wc.cell? ⟨w2.heap.size + 1, 1, none⟩ = some (.int .i64 qa2) := World.news_of_block hFz 1 _ rfl
          have htb1 : tb ≠ w.heap.size + 1 + 1 := by omega
          have htb2 : tb ≠ w.heap.size + 1 + 1 + 1 := by omega
          go_upto_region 15 with fail
          go_region_held3 (fun w' => w'.cell? ⟨tb, 0, none⟩ = some (.int .i64 qb1) ∧ w'.cell? ⟨tb, 1, none⟩ = some (.int .i64 qb2) ∧ w'.cell? ⟨w2.heap.size + 1, 0, none⟩ = some (.int .i64 qa1) ∧ w'.cell? ⟨w2.heap.size + 1, 1, none⟩ = some (.int .i64 qa2)) (refine ⟨?_, ?_, ?_, ?_⟩ <;> (repeat' (with_reducible (first | assumption | refine Ext.cell (Ext.refl _).drew ?_ | refine cell_set_ne (by first | omega | (simp; omega)) ?_)))) (fail)
          all_goals
            go_wp2_with fail
            first
              | (have hx1 : ((((wc.setCell ⟨w.heap.size + 1 + 1, 0, none⟩ (.int .i64 qa1)).setCell ⟨w.heap.size + 1 + 1, 1, none⟩ (.int .i64 qa2)).setCell ⟨w.heap.size + 1 + 1 + 1, 0, none⟩ (.int .i64 qb1)).setCell ⟨w.heap.size + 1 + 1 + 1, 1, none⟩ (.int .i64 qb2)).drew.heap[w.heap.size + 1 + 1]? = some (.cells #[.int .i64 qa1, .int .i64 qa2] 26 (0, 0)) := (blk_oth (c := w.heap.size + 1 + 1 + 1) (i := 1) (u := .int .i64 qb2) (by omega) (blk_oth (c := w.heap.size + 1 + 1 + 1) (i := 0) (u := .int .i64 qb1) (by omega) (two1 (.int .i64 qa2) (two0 (.int .i64 qa1) hR1))))
                 have hx2 : ((((wc.setCell ⟨w.heap.size + 1 + 1, 0, none⟩ (.int .i64 qa1)).setCell ⟨w.heap.size + 1 + 1, 1, none⟩ (.int .i64 qa2)).setCell ⟨w.heap.size + 1 + 1 + 1, 0, none⟩ (.int .i64 qb1)).setCell ⟨w.heap.size + 1 + 1 + 1, 1, none⟩ (.int .i64 qb2)).drew.heap[w.heap.size + 1 + 1 + 1]? = some (.cells #[.int .i64 qb1, .int .i64 qb2] 26 (0, 0)) := (two1 (.int .i64 qb2) (two0 (.int .i64 qb1) (blk_oth (c := w.heap.size + 1 + 1) (i := 1) (u := .int .i64 qa2) (by omega) (blk_oth (c := w.heap.size + 1 + 1) (i := 0) (u := .int .i64 qa1) (by omega) hR2))))
                 have eF : Ext w ((((wc.setCell ⟨w.heap.size + 1 + 1, 0, none⟩ (.int .i64 qa1)).setCell ⟨w.heap.size + 1 + 1, 1, none⟩ (.int .i64 qa2)).setCell ⟨w.heap.size + 1 + 1 + 1, 0, none⟩ (.int .i64 qb1)).setCell ⟨w.heap.size + 1 + 1 + 1, 1, none⟩ (.int .i64 qb2)).drew := ((((eZ.set (p := ⟨w.heap.size + 1 + 1, 0, none⟩) (show w.heap.size ≤ w.heap.size + 1 + 1 by omega) (.int .i64 qa1)).set (p := ⟨w.heap.size + 1 + 1, 1, none⟩) (show w.heap.size ≤ w.heap.size + 1 + 1 by omega) (.int .i64 qa2)).set (p := ⟨w.heap.size + 1 + 1 + 1, 0, none⟩) (show w.heap.size ≤ w.heap.size + 1 + 1 + 1 by omega) (.int .i64 qb1)).set (p := ⟨w.heap.size + 1 + 1 + 1, 1, none⟩) (show w.heap.size ≤ w.heap.size + 1 + 1 + 1 by omega) (.int .i64 qb2)).drew
                 generalize ((((wc.setCell ⟨w.heap.size + 1 + 1, 0, none⟩ (.int .i64 qa1)).setCell ⟨w.heap.size + 1 + 1, 1, none⟩ (.int .i64 qa2)).setCell ⟨w.heap.size + 1 + 1 + 1, 0, none⟩ (.int .i64 qb1)).setCell ⟨w.heap.size + 1 + 1 + 1, 1, none⟩ (.int .i64 qb2)).drew = WF at *
                 have n00 : WF.cell? ⟨w.heap.size + 1 + 1, 0, none⟩ = some (.int .i64 qa1) := World.news_of_block hx1 0 _ rfl
                 have n01 : WF.cell? ⟨w.heap.size + 1 + 1, 1, none⟩ = some (.int .i64 qa2) := World.news_of_block hx1 1 _ rfl
                 have n10 : WF.cell? ⟨w.heap.size + 1 + 1 + 1, 0, none⟩ = some (.int .i64 qb1) := World.news_of_block hx2 0 _ rfl
                 have n11 : WF.cell? ⟨w.heap.size + 1 + 1 + 1, 1, none⟩ = some (.int .i64 qb2) := World.news_of_block hx2 1 _ rfl
                 exact bodyPost_ret (v := .tuple #[.agg #[.int .i64 qa1, .int .i64 qa2], .agg #[.int .i64 qb1, .int .i64 qb2], .int .i64 0]) (by simp [results, Tryz.results11, go_sem, n00, n01, n10, n11]) rfl ⟨rfl, eF⟩)
              | (have hx1 : ((((wc.setCell ⟨w.heap.size + 1 + 1 + 1, 0, none⟩ (.int .i64 qb1)).setCell ⟨w.heap.size + 1 + 1 + 1, 1, none⟩ (.int .i64 qb2)).setCell ⟨w.heap.size + 1 + 1, 0, none⟩ (.int .i64 qa1)).setCell ⟨w.heap.size + 1 + 1, 1, none⟩ (.int .i64 qa2)).drew.heap[w.heap.size + 1 + 1]? = some (.cells #[.int .i64 qa1, .int .i64 qa2] 26 (0, 0)) := (two1 (.int .i64 qa2) (two0 (.int .i64 qa1) (blk_oth (c := w.heap.size + 1 + 1 + 1) (i := 1) (u := .int .i64 qb2) (by omega) (blk_oth (c := w.heap.size + 1 + 1 + 1) (i := 0) (u := .int .i64 qb1) (by omega) hR1))))
                 have hx2 : ((((wc.setCell ⟨w.heap.size + 1 + 1 + 1, 0, none⟩ (.int .i64 qb1)).setCell ⟨w.heap.size + 1 + 1 + 1, 1, none⟩ (.int .i64 qb2)).setCell ⟨w.heap.size + 1 + 1, 0, none⟩ (.int .i64 qa1)).setCell ⟨w.heap.size + 1 + 1, 1, none⟩ (.int .i64 qa2)).drew.heap[w.heap.size + 1 + 1 + 1]? = some (.cells #[.int .i64 qb1, .int .i64 qb2] 26 (0, 0)) := (blk_oth (c := w.heap.size + 1 + 1) (i := 1) (u := .int .i64 qa2) (by omega) (blk_oth (c := w.heap.size + 1 + 1) (i := 0) (u := .int .i64 qa1) (by omega) (two1 (.int .i64 qb2) (two0 (.int .i64 qb1) hR2))))
                 have eF : Ext w ((((wc.setCell ⟨w.heap.size + 1 + 1 + 1, 0, none⟩ (.int .i64 qb1)).setCell ⟨w.heap.size + 1 + 1 + 1, 1, none⟩ (.int .i64 qb2)).setCell ⟨w.heap.size + 1 + 1, 0, none⟩ (.int .i64 qa1)).setCell ⟨w.heap.size + 1 + 1, 1, none⟩ (.int .i64 qa2)).drew := ((((eZ.set (p := ⟨w.heap.size + 1 + 1 + 1, 0, none⟩) (show w.heap.size ≤ w.heap.size + 1 + 1 + 1 by omega) (.int .i64 qb1)).set (p := ⟨w.heap.size + 1 + 1 + 1, 1, none⟩) (show w.heap.size ≤ w.heap.size + 1 + 1 + 1 by omega) (.int .i64 qb2)).set (p := ⟨w.heap.size + 1 + 1, 0, none⟩) (show w.heap.size ≤ w.heap.size + 1 + 1 by omega) (.int .i64 qa1)).set (p := ⟨w.heap.size + 1 + 1, 1, none⟩) (show w.heap.size ≤ w.heap.size + 1 + 1 by omega) (.int .i64 qa2)).drew
                 generalize ((((wc.setCell ⟨w.heap.size + 1 + 1 + 1, 0, none⟩ (.int .i64 qb1)).setCell ⟨w.heap.size + 1 + 1 + 1, 1, none⟩ (.int .i64 qb2)).setCell ⟨w.heap.size + 1 + 1, 0, none⟩ (.int .i64 qa1)).setCell ⟨w.heap.size + 1 + 1, 1, none⟩ (.int .i64 qa2)).drew = WF at *
                 have n00 : WF.cell? ⟨w.heap.size + 1 + 1, 0, none⟩ = some (.int .i64 qa1) := World.news_of_block hx1 0 _ rfl
                 have n01 : WF.cell? ⟨w.heap.size + 1 + 1, 1, none⟩ = some (.int .i64 qa2) := World.news_of_block hx1 1 _ rfl
                 have n10 : WF.cell? ⟨w.heap.size + 1 + 1 + 1, 0, none⟩ = some (.int .i64 qb1) := World.news_of_block hx2 0 _ rfl
                 have n11 : WF.cell? ⟨w.heap.size + 1 + 1 + 1, 1, none⟩ = some (.int .i64 qb2) := World.news_of_block hx2 1 _ rfl
                 exact bodyPost_ret (v := .tuple #[.agg #[.int .i64 qa1, .int .i64 qa2], .agg #[.int .i64 qb1, .int .i64 qb2], .int .i64 0]) (by simp [results, Tryz.results11, go_sem, n00, n01, n10, n11]) rfl ⟨rfl, eF⟩)
        · have hn1 : (qbe != 0) = true := by simpa using hqb
          have HNB := Lib.hid hqb
          clear hqb
          go_wp2_with fail
          have hx1 : ((((wc.setCell ⟨w.heap.size + 1 + 1, 0, none⟩ (.int .i64 0)).setCell ⟨w.heap.size + 1 + 1, 1, none⟩ (.int .i64 0)).setCell ⟨w.heap.size + 1 + 1 + 1, 0, none⟩ (.int .i64 0)).setCell ⟨w.heap.size + 1 + 1 + 1, 1, none⟩ (.int .i64 0)).heap[w.heap.size + 1 + 1]? = some (.cells #[.int .i64 0, .int .i64 0] 26 (0, 0)) := (blk_oth (c := w.heap.size + 1 + 1 + 1) (i := 1) (u := .int .i64 0) (by omega) (blk_oth (c := w.heap.size + 1 + 1 + 1) (i := 0) (u := .int .i64 0) (by omega) (two1 (.int .i64 0) (two0 (.int .i64 0) hR1))))
          have hx2 : ((((wc.setCell ⟨w.heap.size + 1 + 1, 0, none⟩ (.int .i64 0)).setCell ⟨w.heap.size + 1 + 1, 1, none⟩ (.int .i64 0)).setCell ⟨w.heap.size + 1 + 1 + 1, 0, none⟩ (.int .i64 0)).setCell ⟨w.heap.size + 1 + 1 + 1, 1, none⟩ (.int .i64 0)).heap[w.heap.size + 1 + 1 + 1]? = some (.cells #[.int .i64 0, .int .i64 0] 26 (0, 0)) := (two1 (.int .i64 0) (two0 (.int .i64 0) (blk_oth (c := w.heap.size + 1 + 1) (i := 1) (u := .int .i64 0) (by omega) (blk_oth (c := w.heap.size + 1 + 1) (i := 0) (u := .int .i64 0) (by omega) hR2))))
          have eF : Ext w ((((wc.setCell ⟨w.heap.size + 1 + 1, 0, none⟩ (.int .i64 0)).setCell ⟨w.heap.size + 1 + 1, 1, none⟩ (.int .i64 0)).setCell ⟨w.heap.size + 1 + 1 + 1, 0, none⟩ (.int .i64 0)).setCell ⟨w.heap.size + 1 + 1 + 1, 1, none⟩ (.int .i64 0)) := ((((eZ.set (p := ⟨w.heap.size + 1 + 1, 0, none⟩) (show w.heap.size ≤ w.heap.size + 1 + 1 by omega) (.int .i64 0)).set (p := ⟨w.heap.size + 1 + 1, 1, none⟩) (show w.heap.size ≤ w.heap.size + 1 + 1 by omega) (.int .i64 0)).set (p := ⟨w.heap.size + 1 + 1 + 1, 0, none⟩) (show w.heap.size ≤ w.heap.size + 1 + 1 + 1 by omega) (.int .i64 0)).set (p := ⟨w.heap.size + 1 + 1 + 1, 1, none⟩) (show w.heap.size ≤ w.heap.size + 1 + 1 + 1 by omega) (.int .i64 0))
          generalize ((((wc.setCell ⟨w.heap.size + 1 + 1, 0, none⟩ (.int .i64 0)).setCell ⟨w.heap.size + 1 + 1, 1, none⟩ (.int .i64 0)).setCell ⟨w.heap.size + 1 + 1 + 1, 0, none⟩ (.int .i64 0)).setCell ⟨w.heap.size + 1 + 1 + 1, 1, none⟩ (.int .i64 0)) = WF at *
          have n00 : WF.cell? ⟨w.heap.size + 1 + 1, 0, none⟩ = some (.int .i64 0) := World.news_of_block hx1 0 _ rfl
          have n01 : WF.cell? ⟨w.heap.size + 1 + 1, 1, none⟩ = some (.int .i64 0) := World.news_of_block hx1 1 _ rfl
          have n10 : WF.cell? ⟨w.heap.size + 1 + 1 + 1, 0, none⟩ = some (.int .i64 0) := World.news_of_block hx2 0 _ rfl
          have n11 : WF.cell? ⟨w.heap.size + 1 + 1 + 1, 1, none⟩ = some (.int .i64 0) := World.news_of_block hx2 1 _ rfl
          exact bodyPost_ret (v := .tuple #[.agg #[.int .i64 0, .int .i64 0], .agg #[.int .i64 0, .int .i64 0], .int .i64 qbe]) (by simp [results, Tryz.results11, go_sem, n00, n01, n10, n11]) rfl ⟨rfl, eF⟩
    · have hn1 : (qae != 0) = true := by simpa using hqe
      have HNQ := Lib.hid hqe
      clear hqe
      go_wp2_with fail
      have hx1 : ((((((wq.setCell ⟨w2.heap.size + 1, 0, none⟩ (.int .i64 qa1)).setCell ⟨w2.heap.size + 1, 1, none⟩ (.int .i64 qa2)).setCell ⟨w.heap.size + 1 + 1, 0, none⟩ (.int .i64 0)).setCell ⟨w.heap.size + 1 + 1, 1, none⟩ (.int .i64 0)).setCell ⟨w.heap.size + 1 + 1 + 1, 0, none⟩ (.int .i64 0)).setCell ⟨w.heap.size + 1 + 1 + 1, 1, none⟩ (.int .i64 0)).heap[w.heap.size + 1 + 1]? = some (.cells #[.int .i64 0, .int .i64 0] 26 (0, 0)) := (blk_oth (c := w.heap.size + 1 + 1 + 1) (i := 1) (u := .int .i64 0) (by omega) (blk_oth (c := w.heap.size + 1 + 1 + 1) (i := 0) (u := .int .i64 0) (by omega) (two1 (.int .i64 0) (two0 (.int .i64 0) (blk_oth (c := w2.heap.size + 1) (i := 1) (u := .int .i64 qa2) (by omega) (blk_oth (c := w2.heap.size + 1) (i := 0) (u := .int .i64 qa1) (by omega) HR12.out.1))))))
      have hx2 : ((((((wq.setCell ⟨w2.heap.size + 1, 0, none⟩ (.int .i64 qa1)).setCell ⟨w2.heap.size + 1, 1, none⟩ (.int .i64 qa2)).setCell ⟨w.heap.size + 1 + 1, 0, none⟩ (.int .i64 0)).setCell ⟨w.heap.size + 1 + 1, 1, none⟩ (.int .i64 0)).setCell ⟨w.heap.size + 1 + 1 + 1, 0, none⟩ (.int .i64 0)).setCell ⟨w.heap.size + 1 + 1 + 1, 1, none⟩ (.int .i64 0)).heap[w.heap.size + 1 + 1 + 1]? = some (.cells #[.int .i64 0, .int .i64 0] 26 (0, 0)) := (two1 (.int .i64 0) (two0 (.int .i64 0) (blk_oth (c := w.heap.size + 1 + 1) (i := 1) (u := .int .i64 0) (by omega) (blk_oth (c := w.heap.size + 1 + 1) (i := 0) (u := .int .i64 0) (by omega) (blk_oth (c := w2.heap.size + 1) (i := 1) (u := .int .i64 qa2) (by omega) (blk_oth (c := w2.heap.size + 1) (i := 0) (u := .int .i64 qa1) (by omega) HR12.out.2))))))
      have eF : Ext w ((((((wq.setCell ⟨w2.heap.size + 1, 0, none⟩ (.int .i64 qa1)).setCell ⟨w2.heap.size + 1, 1, none⟩ (.int .i64 qa2)).setCell ⟨w.heap.size + 1 + 1, 0, none⟩ (.int .i64 0)).setCell ⟨w.heap.size + 1 + 1, 1, none⟩ (.int .i64 0)).setCell ⟨w.heap.size + 1 + 1 + 1, 0, none⟩ (.int .i64 0)).setCell ⟨w.heap.size + 1 + 1 + 1, 1, none⟩ (.int .i64 0)) := ((((((HEQ.out.set (p := ⟨w2.heap.size + 1, 0, none⟩) (show w.heap.size ≤ w2.heap.size + 1 by omega) (.int .i64 qa1)).set (p := ⟨w2.heap.size + 1, 1, none⟩) (show w.heap.size ≤ w2.heap.size + 1 by omega) (.int .i64 qa2)).set (p := ⟨w.heap.size + 1 + 1, 0, none⟩) (show w.heap.size ≤ w.heap.size + 1 + 1 by omega) (.int .i64 0)).set (p := ⟨w.heap.size + 1 + 1, 1, none⟩) (show w.heap.size ≤ w.heap.size + 1 + 1 by omega) (.int .i64 0)).set (p := ⟨w.heap.size + 1 + 1 + 1, 0, none⟩) (show w.heap.size ≤ w.heap.size + 1 + 1 + 1 by omega) (.int .i64 0)).set (p := ⟨w.heap.size + 1 + 1 + 1, 1, none⟩) (show w.heap.size ≤ w.heap.size + 1 + 1 + 1 by omega) (.int .i64 0))
      generalize ((((((wq.setCell ⟨w2.heap.size + 1, 0, none⟩ (.int .i64 qa1)).setCell ⟨w2.heap.size + 1, 1, none⟩ (.int .i64 qa2)).setCell ⟨w.heap.size + 1 + 1, 0, none⟩ (.int .i64 0)).setCell ⟨w.heap.size + 1 + 1, 1, none⟩ (.int .i64 0)).setCell ⟨w.heap.size + 1 + 1 + 1, 0, none⟩ (.int .i64 0)).setCell ⟨w.heap.size + 1 + 1 + 1, 1, none⟩ (.int .i64 0)) = WF at *
      have n00 : WF.cell? ⟨w.heap.size + 1 + 1, 0, none⟩ = some (.int .i64 0) := World.news_of_block hx1 0 _ rfl
      have n01 : WF.cell? ⟨w.heap.size + 1 + 1, 1, none⟩ = some (.int .i64 0) := World.news_of_block hx1 1 _ rfl
      have n10 : WF.cell? ⟨w.heap.size + 1 + 1 + 1, 0, none⟩ = some (.int .i64 0) := World.news_of_block hx2 0 _ rfl
      have n11 : WF.cell? ⟨w.heap.size + 1 + 1 + 1, 1, none⟩ = some (.int .i64 0) := World.news_of_block hx2 1 _ rfl
      exact bodyPost_ret (v := .tuple #[.agg #[.int .i64 0, .int .i64 0], .agg #[.int .i64 0, .int .i64 0], .int .i64 qae]) (by simp [results, Tryz.results11, go_sem, n00, n01, n10, n11]) rfl ⟨rfl, eF⟩
  · have hfl : f = l := by have := HL.out.1; omega
    have hlt : (f : Int) = (l : Int) := by omega
    have hdec : decide (f = l) = true := decide_eq_true hfl
    rw [hdec] at HLL
    have hR1 := HE26.out.blk HBR.out.1
    have hR2 := HE26.out.blk HBR.out.2
    have HFB := HF6
    have HR12 := Lib.hid (And.intro hR1 hR2)
    have HEB := Lib.hid (HE2.out.trans HE26.out)
    have HEB2 := HE26
    clear hR1 hR2 hdec hflt a0 a1 a2 a3 a4 a5 a6 a7 a8 a9 a10
    subst hfl
    clear hlt
    have y1 := HEB2.out.cell HC.out.1
    have y2 := HEB2.out.cell HC.out.2.1
    have y3 := HEB2.out.cell HC.out.2.2.1
    have m0 := HEB2.out.cell HC.out.2.2.2.2.2.2.2.2.2.2.2.2.1
    have m1 := HEB2.out.cell HC.out.2.2.2.2.2.2.2.2.2.2.2.2.2.1
    have m2 := HEB2.out.cell HC.out.2.2.2.2.2.2.2.2.2.2.2.2.2.2.1
    have m3 := HEB2.out.cell HC.out.2.2.2.2.2.2.2.2.2.2.2.2.2.2.2.1
    have m4 := HEB2.out.cell HC.out.2.2.2.2.2.2.2.2.2.2.2.2.2.2.2.2.1
    have m5 := HEB2.out.cell HC.out.2.2.2.2.2.2.2.2.2.2.2.2.2.2.2.2.2.1
    have m6 := HEB2.out.cell HC.out.2.2.2.2.2.2.2.2.2.2.2.2.2.2.2.2.2.2.1
    have m7 := HEB2.out.cell HC.out.2.2.2.2.2.2.2.2.2.2.2.2.2.2.2.2.2.2.2.1
    have m8 := HEB2.out.cell HC.out.2.2.2.2.2.2.2.2.2.2.2.2.2.2.2.2.2.2.2.2.1
    have m9 := HEB2.out.cell HC.out.2.2.2.2.2.2.2.2.2.2.2.2.2.2.2.2.2.2.2.2.2.1
    have m10 := HEB2.out.cell HC.out.2.2.2.2.2.2.2.2.2.2.2.2.2.2.2.2.2.2.2.2.2.2
    go_upto_region 12 with fail
    have hU2 := World.alloc_heap_new W6 (.cells #[.int .i64 ub.kind, .int .i64 ub.length, .int .i64 ub.behind, .int .i64 ub.front, .int .i64 ub.rear, .int .i64 ub.width, .int .i64 ub.height, .int .i64 ub.mass, .int .i64 ub.steer, .int .i64 ub.most, .slice A4 ub.axles.length cap4] 45)
    have E8 : Ext W6 (W6.alloc (.cells #[.int .i64 ub.kind, .int .i64 ub.length, .int .i64 ub.behind, .int .i64 ub.front, .int .i64 ub.rear, .int .i64 ub.width, .int .i64 ub.height, .int .i64 ub.mass, .int .i64 ub.steer, .int .i64 ub.most, .slice A4 ub.axles.length cap4] 45)) := (Ext.refl _).alloc _
    have z8 := E8.sz
    generalize (W6.alloc (.cells #[.int .i64 ub.kind, .int .i64 ub.length, .int .i64 ub.behind, .int .i64 ub.front, .int .i64 ub.rear, .int .i64 ub.width, .int .i64 ub.height, .int .i64 ub.mass, .int .i64 ub.steer, .int .i64 ub.most, .slice A4 ub.axles.length cap4] 45)) = W8 at *
    clear y1 y2 y3 m0 m1 m2 m3 m4 m5 m6 m7 m8 m9 m10
    have y3 := (HEB2.out.trans E8).cell HC.out.2.2.1
    have t2 := (HEB2.out.trans E8).cell HC.out.2.2.2.1
    have p2 := (HEB2.out.trans E8).cell HC.out.2.2.2.2.2.2.1
    have p3 := (HEB2.out.trans E8).cell HC.out.2.2.2.2.2.2.2.1
    have g2 := (HEB2.out.trans E8).cell HC.out.2.2.2.2.2.2.2.2.2.2.1
    have g3 := (HEB2.out.trans E8).cell HC.out.2.2.2.2.2.2.2.2.2.2.2.1
    have c0 : W8.cell? ⟨W6.heap.size, 0, none⟩ = some (.int .i64 ub.kind) := World.news_of_block hU2 0 _ rfl
    have c1 : W8.cell? ⟨W6.heap.size, 1, none⟩ = some (.int .i64 ub.length) := World.news_of_block hU2 1 _ rfl
    have c2 : W8.cell? ⟨W6.heap.size, 2, none⟩ = some (.int .i64 ub.behind) := World.news_of_block hU2 2 _ rfl
    have c3 : W8.cell? ⟨W6.heap.size, 3, none⟩ = some (.int .i64 ub.front) := World.news_of_block hU2 3 _ rfl
    have c4 : W8.cell? ⟨W6.heap.size, 4, none⟩ = some (.int .i64 ub.rear) := World.news_of_block hU2 4 _ rfl
    have c5 : W8.cell? ⟨W6.heap.size, 5, none⟩ = some (.int .i64 ub.width) := World.news_of_block hU2 5 _ rfl
    have c6 : W8.cell? ⟨W6.heap.size, 6, none⟩ = some (.int .i64 ub.height) := World.news_of_block hU2 6 _ rfl
    have c7 : W8.cell? ⟨W6.heap.size, 7, none⟩ = some (.int .i64 ub.mass) := World.news_of_block hU2 7 _ rfl
    have c8 : W8.cell? ⟨W6.heap.size, 8, none⟩ = some (.int .i64 ub.steer) := World.news_of_block hU2 8 _ rfl
    have c9 : W8.cell? ⟨W6.heap.size, 9, none⟩ = some (.int .i64 ub.most) := World.news_of_block hU2 9 _ rfl
    have c10 : W8.cell? ⟨W6.heap.size, 10, none⟩ = some (.slice A4 ub.axles.length cap4) := World.news_of_block hU2 10 _ rfl
    have hEw8 : Ext w W8 := HEB.out.trans E8
    have lU2 := fst_lt hU2
    go_cut [13, 7] from 76 to 94 (fun sa sb wc => ∃ t, sa = .pointer (some ⟨t, 0, none⟩) ∧ sb = .int .i64 qb.2 ∧ Ext W8 wc ∧ W8.heap.size ≤ t ∧ wc.heap[t]? = some (.cells #[.int .i64 qb.1.1, .int .i64 qb.1.2] 26 (0, 0)))
    case first =>
      go_region_held3 (fun w' => w'.cell? ⟨w.heap.size, 3, none⟩ = some (.int .i64 f) ∧ w'.cell? ⟨w.heap.size + 1, 2, none⟩ = some (.slice (some ⟨pb, poff, none⟩) ps.length capp) ∧ w'.cell? ⟨pb, poff + f * 2, none⟩ = some (.int .i64 a3) ∧ w'.cell? ⟨pb, poff + f * 2 + 1, none⟩ = some (.int .i64 a4) ∧ w'.cell? ⟨g, f * 2, none⟩ = some (.int .i64 j3) ∧ w'.cell? ⟨g, f * 2 + 1, none⟩ = some (.int .i64 j4) ∧ w'.cell? ⟨W6.heap.size, 0, none⟩ = some (.int .i64 ub.kind) ∧ w'.cell? ⟨W6.heap.size, 1, none⟩ = some (.int .i64 ub.length) ∧ w'.cell? ⟨W6.heap.size, 2, none⟩ = some (.int .i64 ub.behind) ∧ w'.cell? ⟨W6.heap.size, 3, none⟩ = some (.int .i64 ub.front) ∧ w'.cell? ⟨W6.heap.size, 4, none⟩ = some (.int .i64 ub.rear) ∧ w'.cell? ⟨W6.heap.size, 5, none⟩ = some (.int .i64 ub.width) ∧ w'.cell? ⟨W6.heap.size, 6, none⟩ = some (.int .i64 ub.height) ∧ w'.cell? ⟨W6.heap.size, 7, none⟩ = some (.int .i64 ub.mass) ∧ w'.cell? ⟨W6.heap.size, 8, none⟩ = some (.int .i64 ub.steer) ∧ w'.cell? ⟨W6.heap.size, 9, none⟩ = some (.int .i64 ub.most) ∧ w'.cell? ⟨W6.heap.size, 10, none⟩ = some (.slice A4 ub.axles.length cap4)) (refine ⟨?_, ?_, ?_, ?_, ?_, ?_, ?_, ?_, ?_, ?_, ?_, ?_, ?_, ?_, ?_, ?_, ?_⟩ <;> (repeat' (with_reducible (first | assumption | refine Ext.cell hbZ ?_ | refine Ext.cell hbE ?_ | refine Ext.cell (Ext.refl _).drew ?_ | refine cell_set_ne (by first | omega | (simp; omega)) ?_ | refine Ext.cell ((Ext.refl _).alloc _) ?_)))) (first
        | (go_at_call 32; refine (CUy.out _ (by (repeat' (first | exact Ext.refl _ | assumption | refine Ext.alloc ?_ _ | refine Ext.drew ?_ | refine Ext.drewN ?_ _ | refine Ext.set ?_ (by first | exact Nat.le_refl _ | exact le1 _ | exact le2 _ | exact le3 _ | exact le4 _ | exact le5 _ | exact le6 _) _ | refine Ext.trans ?_ (by assumption))))).mono ?_; rintro e wE ⟨rfl, hbE⟩; have zE := (show Ext W8 wE from by (repeat' (first | exact Ext.refl _ | assumption | refine Ext.alloc ?_ _ | refine Ext.drew ?_ | refine Ext.drewN ?_ _ | refine Ext.set ?_ (by first | exact Nat.le_refl _ | exact le1 _ | exact le2 _ | exact le3 _ | exact le4 _ | exact le5 _ | exact le6 _) _ | refine Ext.trans ?_ (by assumption)))).sz; (try (replace yW := (hbE.block _ (Array.getElem?_eq_some_iff.1 yW).1).trans yW)); (try (have yW : wE.heap[W8.heap.size]? = some (.cells #[.int .i64 0, .int .i64 0] 26 (0, 0)) := new_kept (W := W8.drew) hbE)); skip)
        | (go_at_call 33; refine (HCAy.out _).mono ?_; rintro e wZ ⟨rfl, hbZ⟩; unfold ptV; have zZ := (show Ext W8 wZ from by (repeat' (first | exact Ext.refl _ | assumption | refine Ext.alloc ?_ _ | refine Ext.drew ?_ | refine Ext.drewN ?_ _ | refine Ext.set ?_ (by first | exact Nat.le_refl _ | exact le1 _ | exact le2 _ | exact le3 _ | exact le4 _ | exact le5 _ | exact le6 _) _ | refine Ext.trans ?_ (by assumption)))).sz; (try (replace yE := (hbZ.block _ (Array.getElem?_eq_some_iff.1 yE).1).trans yE)); (try (replace yW := (hbZ.block _ (Array.getElem?_eq_some_iff.1 yW).1).trans yW)); (try (have yW : wZ.heap[W8.heap.size]? = some (.cells #[.int .i64 0, .int .i64 0] 26 (0, 0)) := new_kept (W := W8.drew) hbZ)); (try (have yE : wZ.heap[wE.heap.size]? = some (.cells #[.int .i64 0, .int .i64 0] 26 (0, 0)) := new_kept (W := wE) hbZ)); (try (have c0 : wZ.cell? ⟨W8.heap.size, 0, none⟩ = some (.int .i64 0) := World.news_of_block yW 0 _ rfl; have c1 : wZ.cell? ⟨W8.heap.size, 1, none⟩ = some (.int .i64 0) := World.news_of_block yW 1 _ rfl; have f0 := blk_frz yW 0; have f1 := blk_frz yW 1)); (try (have c0 : wZ.cell? ⟨wE.heap.size, 0, none⟩ = some (.int .i64 0) := World.news_of_block yE 0 _ rfl; have c1 : wZ.cell? ⟨wE.heap.size, 1, none⟩ = some (.int .i64 0) := World.news_of_block yE 1 _ rfl; have f0 := blk_frz yE 0; have f1 := blk_frz yE 1)); skip))
      all_goals
        go_wp2_with fail
        go_meet
        first
          | exact ⟨wZ.heap.size, rfl, rfl, by (repeat' (first | exact Ext.refl _ | assumption | refine Ext.alloc ?_ _ | refine Ext.drew ?_ | refine Ext.drewN ?_ _ | refine Ext.set ?_ (by first | exact Nat.le_refl _ | exact le1 _ | exact le2 _ | exact le3 _ | exact le4 _ | exact le5 _ | exact le6 _) _ | refine Ext.trans ?_ (by assumption))), zZ, World.alloc_heap_new wZ _⟩
          | exact ⟨wE.heap.size, rfl, rfl, ((show Ext W8 wZ from by (repeat' (first | exact Ext.refl _ | assumption | refine Ext.alloc ?_ _ | refine Ext.drew ?_ | refine Ext.drewN ?_ _ | refine Ext.set ?_ (by first | exact Nat.le_refl _ | exact le1 _ | exact le2 _ | exact le3 _ | exact le4 _ | exact le5 _ | exact le6 _) _ | refine Ext.trans ?_ (by assumption)))).set (p := ⟨wE.heap.size, 0, none⟩) zE _).set (p := ⟨wE.heap.size, 1, none⟩) zE _, zE, two1 _ (two0 _ yE)⟩
          | exact ⟨W8.heap.size, rfl, rfl, ((show Ext W8 wZ from by (repeat' (first | exact Ext.refl _ | assumption | refine Ext.alloc ?_ _ | refine Ext.drew ?_ | refine Ext.drewN ?_ _ | refine Ext.set ?_ (by first | exact Nat.le_refl _ | exact le1 _ | exact le2 _ | exact le3 _ | exact le4 _ | exact le5 _ | exact le6 _) _ | refine Ext.trans ?_ (by assumption)))).set (p := ⟨W8.heap.size, 0, none⟩) (Nat.le_refl _) _).set (p := ⟨W8.heap.size, 1, none⟩) (Nat.le_refl _) _, (Nat.le_refl _), two1 _ (two0 _ yW)⟩
    case rest =>
      obtain ⟨tb, rfl, rfl, EZ0, ztb, hT⟩ := hcut
      have EZ := E8.trans EZ0
      have hFz := EZ.blk HFB.out
      have hR1 := EZ.blk HR12.out.1
      have hR2 := EZ.blk HR12.out.2
      have eZ : Ext w wc := HEB.out.trans EZ
      obtain ⟨⟨qb1, qb2⟩, qbe⟩ := qb
      dsimp only at hT HLL ⊢
      have r10 : wc.cell? ⟨w.heap.size + 1 + 1, 0, none⟩ = some (.int .i64 0) := World.news_of_block hR1 0 _ rfl
      have fr10 := blk_frz hR1 0
      have r11 : wc.cell? ⟨w.heap.size + 1 + 1, 1, none⟩ = some (.int .i64 0) := World.news_of_block hR1 1 _ rfl
      have fr11 := blk_frz hR1 1
      have r20 : wc.cell? ⟨w.heap.size + 1 + 1 + 1, 0, none⟩ = some (.int .i64 0) := World.news_of_block hR2 0 _ rfl
      have fr20 := blk_frz hR2 0
      have r21 : wc.cell? ⟨w.heap.size + 1 + 1 + 1, 1, none⟩ = some (.int .i64 0) := World.news_of_block hR2 1 _ rfl
      have fr21 := blk_frz hR2 1
      have lR2 := fst_lt hR2
      clear c0 c1 c2 c3 c4 c5 c6 c7 c8 c9 c10 y3 t2 p2 p3 g2 g3
      by_cases hqb : qbe = 0
      · subst hqb
        have t0 : wc.cell? ⟨tb, 0, none⟩ = some (.int .i64 qb1) := World.news_of_block hT 0 _ rfl
        have t1 : wc.cell? ⟨tb, 1, none⟩ = some (.int .i64 qb2) := World.news_of_block hT 1 _ rfl
        have k0 : wc.cell? ⟨w2.heap.size + 1, 0, none⟩ = some (.int .i64 j1) := World.news_of_block hFz 0 _ rfl
        have k1 : wc.cell? ⟨w2.heap.size + 1, 1, none⟩ = some (.int .i64 j2) := World.news_of_block hFz 1 _ rfl
        have htb1 : tb ≠ w.heap.size + 1 + 1 := by omega
        have htb2 : tb ≠ w.heap.size + 1 + 1 + 1 := by omega
        go_upto_region 15 with fail
        go_region_held3 (fun w' => w'.cell? ⟨tb, 0, none⟩ = some (.int .i64 qb1) ∧ w'.cell? ⟨tb, 1, none⟩ = some (.int .i64 qb2) ∧ w'.cell? ⟨w2.heap.size + 1, 0, none⟩ = some (.int .i64 j1) ∧ w'.cell? ⟨w2.heap.size + 1, 1, none⟩ = some (.int .i64 j2)) (refine ⟨?_, ?_, ?_, ?_⟩ <;> (repeat' (with_reducible (first | assumption | refine Ext.cell (Ext.refl _).drew ?_ | refine cell_set_ne (by first | omega | (simp; omega)) ?_)))) (fail)
        all_goals
          go_wp2_with fail
          first
            | (have hx1 : ((((wc.setCell ⟨w.heap.size + 1 + 1, 0, none⟩ (.int .i64 j1)).setCell ⟨w.heap.size + 1 + 1, 1, none⟩ (.int .i64 j2)).setCell ⟨w.heap.size + 1 + 1 + 1, 0, none⟩ (.int .i64 qb1)).setCell ⟨w.heap.size + 1 + 1 + 1, 1, none⟩ (.int .i64 qb2)).drew.heap[w.heap.size + 1 + 1]? = some (.cells #[.int .i64 j1, .int .i64 j2] 26 (0, 0)) := (blk_oth (c := w.heap.size + 1 + 1 + 1) (i := 1) (u := .int .i64 qb2) (by omega) (blk_oth (c := w.heap.size + 1 + 1 + 1) (i := 0) (u := .int .i64 qb1) (by omega) (two1 (.int .i64 j2) (two0 (.int .i64 j1) hR1))))
               have hx2 : ((((wc.setCell ⟨w.heap.size + 1 + 1, 0, none⟩ (.int .i64 j1)).setCell ⟨w.heap.size + 1 + 1, 1, none⟩ (.int .i64 j2)).setCell ⟨w.heap.size + 1 + 1 + 1, 0, none⟩ (.int .i64 qb1)).setCell ⟨w.heap.size + 1 + 1 + 1, 1, none⟩ (.int .i64 qb2)).drew.heap[w.heap.size + 1 + 1 + 1]? = some (.cells #[.int .i64 qb1, .int .i64 qb2] 26 (0, 0)) := (two1 (.int .i64 qb2) (two0 (.int .i64 qb1) (blk_oth (c := w.heap.size + 1 + 1) (i := 1) (u := .int .i64 j2) (by omega) (blk_oth (c := w.heap.size + 1 + 1) (i := 0) (u := .int .i64 j1) (by omega) hR2))))
               have eF : Ext w ((((wc.setCell ⟨w.heap.size + 1 + 1, 0, none⟩ (.int .i64 j1)).setCell ⟨w.heap.size + 1 + 1, 1, none⟩ (.int .i64 j2)).setCell ⟨w.heap.size + 1 + 1 + 1, 0, none⟩ (.int .i64 qb1)).setCell ⟨w.heap.size + 1 + 1 + 1, 1, none⟩ (.int .i64 qb2)).drew := ((((eZ.set (p := ⟨w.heap.size + 1 + 1, 0, none⟩) (show w.heap.size ≤ w.heap.size + 1 + 1 by omega) (.int .i64 j1)).set (p := ⟨w.heap.size + 1 + 1, 1, none⟩) (show w.heap.size ≤ w.heap.size + 1 + 1 by omega) (.int .i64 j2)).set (p := ⟨w.heap.size + 1 + 1 + 1, 0, none⟩) (show w.heap.size ≤ w.heap.size + 1 + 1 + 1 by omega) (.int .i64 qb1)).set (p := ⟨w.heap.size + 1 + 1 + 1, 1, none⟩) (show w.heap.size ≤ w.heap.size + 1 + 1 + 1 by omega) (.int .i64 qb2)).drew
               generalize ((((wc.setCell ⟨w.heap.size + 1 + 1, 0, none⟩ (.int .i64 j1)).setCell ⟨w.heap.size + 1 + 1, 1, none⟩ (.int .i64 j2)).setCell ⟨w.heap.size + 1 + 1 + 1, 0, none⟩ (.int .i64 qb1)).setCell ⟨w.heap.size + 1 + 1 + 1, 1, none⟩ (.int .i64 qb2)).drew = WF at *
               have n00 : WF.cell? ⟨w.heap.size + 1 + 1, 0, none⟩ = some (.int .i64 j1) := World.news_of_block hx1 0 _ rfl
               have n01 : WF.cell? ⟨w.heap.size + 1 + 1, 1, none⟩ = some (.int .i64 j2) := World.news_of_block hx1 1 _ rfl
               have n10 : WF.cell? ⟨w.heap.size + 1 + 1 + 1, 0, none⟩ = some (.int .i64 qb1) := World.news_of_block hx2 0 _ rfl
               have n11 : WF.cell? ⟨w.heap.size + 1 + 1 + 1, 1, none⟩ = some (.int .i64 qb2) := World.news_of_block hx2 1 _ rfl
               exact bodyPost_ret (v := .tuple #[.agg #[.int .i64 j1, .int .i64 j2], .agg #[.int .i64 qb1, .int .i64 qb2], .int .i64 0]) (by simp [results, Tryz.results11, go_sem, n00, n01, n10, n11]) rfl ⟨rfl, eF⟩)
            | (have hx1 : ((((wc.setCell ⟨w.heap.size + 1 + 1 + 1, 0, none⟩ (.int .i64 qb1)).setCell ⟨w.heap.size + 1 + 1 + 1, 1, none⟩ (.int .i64 qb2)).setCell ⟨w.heap.size + 1 + 1, 0, none⟩ (.int .i64 j1)).setCell ⟨w.heap.size + 1 + 1, 1, none⟩ (.int .i64 j2)).drew.heap[w.heap.size + 1 + 1]? = some (.cells #[.int .i64 j1, .int .i64 j2] 26 (0, 0)) := (two1 (.int .i64 j2) (two0 (.int .i64 j1) (blk_oth (c := w.heap.size + 1 + 1 + 1) (i := 1) (u := .int .i64 qb2) (by omega) (blk_oth (c := w.heap.size + 1 + 1 + 1) (i := 0) (u := .int .i64 qb1) (by omega) hR1))))
               have hx2 : ((((wc.setCell ⟨w.heap.size + 1 + 1 + 1, 0, none⟩ (.int .i64 qb1)).setCell ⟨w.heap.size + 1 + 1 + 1, 1, none⟩ (.int .i64 qb2)).setCell ⟨w.heap.size + 1 + 1, 0, none⟩ (.int .i64 j1)).setCell ⟨w.heap.size + 1 + 1, 1, none⟩ (.int .i64 j2)).drew.heap[w.heap.size + 1 + 1 + 1]? = some (.cells #[.int .i64 qb1, .int .i64 qb2] 26 (0, 0)) := (blk_oth (c := w.heap.size + 1 + 1) (i := 1) (u := .int .i64 j2) (by omega) (blk_oth (c := w.heap.size + 1 + 1) (i := 0) (u := .int .i64 j1) (by omega) (two1 (.int .i64 qb2) (two0 (.int .i64 qb1) hR2))))
               have eF : Ext w ((((wc.setCell ⟨w.heap.size + 1 + 1 + 1, 0, none⟩ (.int .i64 qb1)).setCell ⟨w.heap.size + 1 + 1 + 1, 1, none⟩ (.int .i64 qb2)).setCell ⟨w.heap.size + 1 + 1, 0, none⟩ (.int .i64 j1)).setCell ⟨w.heap.size + 1 + 1, 1, none⟩ (.int .i64 j2)).drew := ((((eZ.set (p := ⟨w.heap.size + 1 + 1 + 1, 0, none⟩) (show w.heap.size ≤ w.heap.size + 1 + 1 + 1 by omega) (.int .i64 qb1)).set (p := ⟨w.heap.size + 1 + 1 + 1, 1, none⟩) (show w.heap.size ≤ w.heap.size + 1 + 1 + 1 by omega) (.int .i64 qb2)).set (p := ⟨w.heap.size + 1 + 1, 0, none⟩) (show w.heap.size ≤ w.heap.size + 1 + 1 by omega) (.int .i64 j1)).set (p := ⟨w.heap.size + 1 + 1, 1, none⟩) (show w.heap.size ≤ w.heap.size + 1 + 1 by omega) (.int .i64 j2)).drew
               generalize ((((wc.setCell ⟨w.heap.size + 1 + 1 + 1, 0, none⟩ (.int .i64 qb1)).setCell ⟨w.heap.size + 1 + 1 + 1, 1, none⟩ (.int .i64 qb2)).setCell ⟨w.heap.size + 1 + 1, 0, none⟩ (.int .i64 j1)).setCell ⟨w.heap.size + 1 + 1, 1, none⟩ (.int .i64 j2)).drew = WF at *
               have n00 : WF.cell? ⟨w.heap.size + 1 + 1, 0, none⟩ = some (.int .i64 j1) := World.news_of_block hx1 0 _ rfl
               have n01 : WF.cell? ⟨w.heap.size + 1 + 1, 1, none⟩ = some (.int .i64 j2) := World.news_of_block hx1 1 _ rfl
               have n10 : WF.cell? ⟨w.heap.size + 1 + 1 + 1, 0, none⟩ = some (.int .i64 qb1) := World.news_of_block hx2 0 _ rfl
               have n11 : WF.cell? ⟨w.heap.size + 1 + 1 + 1, 1, none⟩ = some (.int .i64 qb2) := World.news_of_block hx2 1 _ rfl
               exact bodyPost_ret (v := .tuple #[.agg #[.int .i64 j1, .int .i64 j2], .agg #[.int .i64 qb1, .int .i64 qb2], .int .i64 0]) (by simp [results, Tryz.results11, go_sem, n00, n01, n10, n11]) rfl ⟨rfl, eF⟩)
      · have hn1 : (qbe != 0) = true := by simpa using hqb
        have HNB := Lib.hid hqb
        clear hqb
        go_wp2_with fail
        have hx1 : ((((wc.setCell ⟨w.heap.size + 1 + 1, 0, none⟩ (.int .i64 0)).setCell ⟨w.heap.size + 1 + 1, 1, none⟩ (.int .i64 0)).setCell ⟨w.heap.size + 1 + 1 + 1, 0, none⟩ (.int .i64 0)).setCell ⟨w.heap.size + 1 + 1 + 1, 1, none⟩ (.int .i64 0)).heap[w.heap.size + 1 + 1]? = some (.cells #[.int .i64 0, .int .i64 0] 26 (0, 0)) := (blk_oth (c := w.heap.size + 1 + 1 + 1) (i := 1) (u := .int .i64 0) (by omega) (blk_oth (c := w.heap.size + 1 + 1 + 1) (i := 0) (u := .int .i64 0) (by omega) (two1 (.int .i64 0) (two0 (.int .i64 0) hR1))))
        have hx2 : ((((wc.setCell ⟨w.heap.size + 1 + 1, 0, none⟩ (.int .i64 0)).setCell ⟨w.heap.size + 1 + 1, 1, none⟩ (.int .i64 0)).setCell ⟨w.heap.size + 1 + 1 + 1, 0, none⟩ (.int .i64 0)).setCell ⟨w.heap.size + 1 + 1 + 1, 1, none⟩ (.int .i64 0)).heap[w.heap.size + 1 + 1 + 1]? = some (.cells #[.int .i64 0, .int .i64 0] 26 (0, 0)) := (two1 (.int .i64 0) (two0 (.int .i64 0) (blk_oth (c := w.heap.size + 1 + 1) (i := 1) (u := .int .i64 0) (by omega) (blk_oth (c := w.heap.size + 1 + 1) (i := 0) (u := .int .i64 0) (by omega) hR2))))
        have eF : Ext w ((((wc.setCell ⟨w.heap.size + 1 + 1, 0, none⟩ (.int .i64 0)).setCell ⟨w.heap.size + 1 + 1, 1, none⟩ (.int .i64 0)).setCell ⟨w.heap.size + 1 + 1 + 1, 0, none⟩ (.int .i64 0)).setCell ⟨w.heap.size + 1 + 1 + 1, 1, none⟩ (.int .i64 0)) := ((((eZ.set (p := ⟨w.heap.size + 1 + 1, 0, none⟩) (show w.heap.size ≤ w.heap.size + 1 + 1 by omega) (.int .i64 0)).set (p := ⟨w.heap.size + 1 + 1, 1, none⟩) (show w.heap.size ≤ w.heap.size + 1 + 1 by omega) (.int .i64 0)).set (p := ⟨w.heap.size + 1 + 1 + 1, 0, none⟩) (show w.heap.size ≤ w.heap.size + 1 + 1 + 1 by omega) (.int .i64 0)).set (p := ⟨w.heap.size + 1 + 1 + 1, 1, none⟩) (show w.heap.size ≤ w.heap.size + 1 + 1 + 1 by omega) (.int .i64 0))
        generalize ((((wc.setCell ⟨w.heap.size + 1 + 1, 0, none⟩ (.int .i64 0)).setCell ⟨w.heap.size + 1 + 1, 1, none⟩ (.int .i64 0)).setCell ⟨w.heap.size + 1 + 1 + 1, 0, none⟩ (.int .i64 0)).setCell ⟨w.heap.size + 1 + 1 + 1, 1, none⟩ (.int .i64 0)) = WF at *
        have n00 : WF.cell? ⟨w.heap.size + 1 + 1, 0, none⟩ = some (.int .i64 0) := World.news_of_block hx1 0 _ rfl
        have n01 : WF.cell? ⟨w.heap.size + 1 + 1, 1, none⟩ = some (.int .i64 0) := World.news_of_block hx1 1 _ rfl
        have n10 : WF.cell? ⟨w.heap.size + 1 + 1 + 1, 0, none⟩ = some (.int .i64 0) := World.news_of_block hx2 0 _ rfl
        have n11 : WF.cell? ⟨w.heap.size + 1 + 1 + 1, 1, none⟩ = some (.int .i64 0) := World.news_of_block hx2 1 _ rfl
        exact bodyPost_ret (v := .tuple #[.agg #[.int .i64 0, .int .i64 0], .agg #[.int .i64 0, .int .i64 0], .int .i64 qbe]) (by simp [results, Tryz.results11, go_sem, n00, n01, n10, n11]) rfl ⟨rfl, eF⟩
end
end Go.Proofs.YtcbjecpfijogcaaGreat
