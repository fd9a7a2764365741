/- The law ChainPoses, walked. -/
import Derived.Test.YtgikfliibimkdaaCStrC
import Derived.Test.YtgikfliibimkdaaCOpen
namespace Go.Proofs.Ytgikfliibimkdaa
open Go.RowKit Go.Shelf

section
variable {vu vp : Value} {v : CVeh} {lead : Pt} {ps : List Pt}
set_option maxRecDepth 100000 in
set_option maxHeartbeats 3200000 in
theorem poses_long (l1 l2 b1 b2 i X Y : Int) (w : World) (hs : Sl 11 RUnit w vu v.units) (hp : Pts w vp ps) (h : longB v = true ∨ (30 : Int) < ps.length) :
    Calls Try.prog 3 #[vehV v vu, poseV lead vp, .agg #[.int .i64 l1, .int .i64 l2], .agg #[.int .i64 b1, .int .i64 b2], .int .i64 i, .int .i64 X, .int .i64 Y] w fun e w' => e = .returned (.bool true) ∧ Ext w w' := by
  have CL := fun w' (h : Ext w w') => long_c vu v w' (hs.ext RUnit.stable h)
  have CW := fun w => cworks_c w
  obtain ⟨A, cap, rfl, hl, hl2⟩ := hs.shape
  obtain ⟨Ap, capp, rfl⟩ := pts_shape hp
  obtain ⟨p1, p2⟩ := lead
  unfold vehV poseV at *
  simp only
  have hc : longB v = true ∨ (longB v = false ∧ (30 : Int) < ps.length) := by
    cases hb : longB v
    · rcases h with h | h
      · rw [hb] at h; cases h
      · exact .inr ⟨rfl, h⟩
    · exact .inl rfl
  replace CW := Lib.hid CW
  clear hs hp h
  rcases hc with h | ⟨h, h2⟩
  all_goals
    rw [h] at CL
    replace CL := Lib.hid CL
    clear h
    go_enter Try.func3, Try.ntmps3
    go_wp2_with (first
      | (go_at_call 9; refine (CL.out _ (by (repeat' (first | exact Ext.refl _ | assumption | refine Ext.alloc ?_ _ | refine Ext.drew ?_ | refine Ext.drewN ?_ _ | refine Ext.set ?_ (by first | exact Nat.le_refl _ | exact le1 _ | exact le2 _ | exact le3 _ | exact le4 _ | exact le5 _ | exact le6 _) _ | refine Ext.trans ?_ (by assumption))))).mono ?_; rintro e w1 ⟨rfl, hb1⟩; obtain ⟨hc, hf⟩ := bcell hb1)
      | (go_at_call 10; refine (CW.out _).mono ?_; rintro e w2 ⟨rfl, hb2⟩))
    go_ret
    exact ⟨rfl, by (repeat' (first | exact Ext.refl _ | assumption | refine Ext.alloc ?_ _ | refine Ext.drew ?_ | refine Ext.drewN ?_ _ | refine Ext.set ?_ (by first | exact Nat.le_refl _ | exact le1 _ | exact le2 _ | exact le3 _ | exact le4 _ | exact le5 _ | exact le6 _) _ | refine Ext.trans ?_ (by assumption)))⟩

set_option maxRecDepth 100000 in
set_option maxHeartbeats 6400000 in
theorem poses_short (l1 l2 b1 b2 i X Y : Int) (w : World) (hs : Sl 11 RUnit w vu v.units) (hp : Pts w vp ps) (h : longB v = false) (h2 : ¬ (30 : Int) < ps.length) :
    Calls Try.prog 3 #[vehV v vu, poseV lead vp, .agg #[.int .i64 l1, .int .i64 l2], .agg #[.int .i64 b1, .int .i64 b2], .int .i64 i, .int .i64 X, .int .i64 Y] w fun e w' => e = .returned (.bool true) ∧ Ext w w' := by
  have CL := fun w' (h : Ext w w') => long_c vu v w' (hs.ext RUnit.stable h)
  rw [h] at CL
  have CW := fun w => cworks_c w
  have CS := fun w' (h : Ext w w') => Straight_c l1 l2 b1 b2 w' (hs.ext RUnit.stable h)
  have CT := fun w' (h : Ext w w') => RStraight_c l1 l2 b1 b2 w' (hs.ext RUnit.stable h)
  have CP := fun w' (h : Ext w w') => CheckPose_c (lead := lead) w' (hs.ext RUnit.stable h) (hp.ext h)
  have CQ := fun w' (h : Ext w w') => RCheckPose_c (lead := lead) w' (hs.ext RUnit.stable h) (hp.ext h)
  have CJ := fun w' (h : Ext w w') => CJoint_c (lead := lead) i w' (hs.ext RUnit.stable h) (hp.ext h)
  have CK := fun w' (h : Ext w w') => RJoint_c (lead := lead) i w' (hs.ext RUnit.stable h) (hp.ext h)
  have CM := fun w' (h : Ext w w') => CPlace_c (lead := lead) i X Y w' (hs.ext RUnit.stable h) (hp.ext h)
  have CN := fun w' (h : Ext w w') => RPlaceAt_c (lead := lead) i X Y w' (hs.ext RUnit.stable h) (hp.ext h)
  obtain ⟨A, cap, rfl, hl, hl2⟩ := hs.shape
  obtain ⟨Ap, capp, rfl⟩ := pts_shape hp
  obtain ⟨p1, p2⟩ := lead
  unfold vehV poseV ptV StrR poseEV at *
  obtain ⟨⟨⟨s1, s2⟩, sl, se⟩, hS⟩ : ∃ S, straightS v (l1, l2) (b1, b2) = S := ⟨_, rfl⟩
  rw [hS] at CS CT
  obtain ⟨⟨⟨j1, j2⟩, je⟩, hJ⟩ : ∃ q, jointS v (p1, p2) ps i = q := ⟨_, rfl⟩
  rw [hJ] at CJ CK
  obtain ⟨⟨⟨m1, m2⟩, me⟩, hM⟩ : ∃ q, placeAtS v (p1, p2) ps i X Y = q := ⟨_, rfl⟩
  rw [hM] at CM CN
  generalize poseE v (p1, p2) ps = pe at *
  simp only at CS CT CP CQ CJ CK CM CN ⊢
  replace CL := Lib.hid CL
  replace CW := Lib.hid CW
  replace CS := Lib.hid CS
  replace CT := Lib.hid CT
  replace CP := Lib.hid CP
  replace CQ := Lib.hid CQ
  replace CJ := Lib.hid CJ
  replace CK := Lib.hid CK
  replace CM := Lib.hid CM
  replace CN := Lib.hid CN
  clear hs hp h hS hJ hM
  go_enter Try.func3, Try.ntmps3
  go_upto_region 5 with (first
    | (go_at_call 9; refine (CL.out _ (by (repeat' (first | exact Ext.refl _ | assumption | refine Ext.alloc ?_ _ | refine Ext.drew ?_ | refine Ext.drewN ?_ _ | refine Ext.set ?_ (by first | exact Nat.le_refl _ | exact le1 _ | exact le2 _ | exact le3 _ | exact le4 _ | exact le5 _ | exact le6 _) _ | refine Ext.trans ?_ (by assumption))))).mono ?_; rintro e w1 ⟨rfl, hb⟩; have y0 := Ext.cell hb (p := ⟨w.heap.size, 0, none⟩) (v := .string v.name) (by go_simp); have y1 := Ext.cell hb (p := ⟨w.heap.size, 1, none⟩) (v := .slice A v.units.length cap) (by go_simp); have y2 := Ext.cell hb (p := ⟨w.heap.size, 2, none⟩) (v := .int .i64 v.first) (by go_simp); have y3 := Ext.cell hb (p := ⟨w.heap.size, 3, none⟩) (v := .int .i64 v.last) (by go_simp); have t0 := Ext.cell hb (p := ⟨w.heap.size + 1, 0, none⟩) (v := .int .i64 p1) (by go_simp); have t1 := Ext.cell hb (p := ⟨w.heap.size + 1, 1, none⟩) (v := .int .i64 p2) (by go_simp); have t2 := Ext.cell hb (p := ⟨w.heap.size + 1, 2, none⟩) (v := .slice Ap ps.length capp) (by go_simp); have L0 := Ext.cell hb (p := ⟨w.heap.size + 1 + 1, 0, none⟩) (v := .int .i64 l1) (by go_simp); have L1 := Ext.cell hb (p := ⟨w.heap.size + 1 + 1, 1, none⟩) (v := .int .i64 l2) (by go_simp); have B0 := Ext.cell hb (p := ⟨w.heap.size + 1 + 1 + 1, 0, none⟩) (v := .int .i64 b1) (by go_simp); have B1 := Ext.cell hb (p := ⟨w.heap.size + 1 + 1 + 1, 1, none⟩) (v := .int .i64 b2) (by go_simp); have E1 : Ext w w1 := (((((Ext.refl w).alloc _).alloc _).alloc _).alloc _).trans hb; clear hb)
    | (go_at_call 11; refine (CS.out _ E1).mono ?_; rintro e w2 ⟨vp1, rfl, hp1, hb⟩; obtain ⟨A1, c1, rfl⟩ := pts_shape hp1; replace y0 := Ext.cell hb y0; replace y1 := Ext.cell hb y1; replace y2 := Ext.cell hb y2; replace y3 := Ext.cell hb y3; replace t0 := Ext.cell hb t0; replace t1 := Ext.cell hb t1; replace t2 := Ext.cell hb t2; replace L0 := Ext.cell hb L0; replace L1 := Ext.cell hb L1; replace B0 := Ext.cell hb B0; replace B1 := Ext.cell hb B1; have E2 := E1.trans hb; have hy2 := lt_of_cell y0; have ht2 := lt_of_cell t0; have hL2 := lt_of_cell L0; have hB2 := lt_of_cell B0; clear hb)
    | (go_at_call 12; refine (CT.out _ (E2.alloc _)).mono ?_; rintro e w3 ⟨vp2, rfl, hp2, hb⟩; obtain ⟨A2, c2, rfl⟩ := pts_shape hp2; have hb23 := ((Ext.refl w2).alloc _).trans hb; replace y0 := Ext.cell hb23 y0; replace y1 := Ext.cell hb23 y1; replace y2 := Ext.cell hb23 y2; replace y3 := Ext.cell hb23 y3; replace t0 := Ext.cell hb23 t0; replace t1 := Ext.cell hb23 t1; replace t2 := Ext.cell hb23 t2; replace L0 := Ext.cell hb23 L0; replace L1 := Ext.cell hb23 L1; replace B0 := Ext.cell hb23 B0; replace B1 := Ext.cell hb23 B1; have E3 := E2.trans hb23; have hA : w3.heap[w2.heap.size]? = some (.cells #[.int .i64 s1, .int .i64 s2, .slice A1 sl.length c1] 29 (0, 0)) := hb.blk (new_at rfl); replace hp1 := hp1.ext hb23; clear hb))
  have h34 : Ext w3 (w3.alloc (.cells #[.int .i64 s1, .int .i64 s2, .slice A2 sl.length c2] 29)) := (Ext.refl w3).alloc _
  have hB : (w3.alloc (.cells #[.int .i64 s1, .int .i64 s2, .slice A2 sl.length c2] 29)).heap[w3.heap.size]? = some (.cells #[.int .i64 s1, .int .i64 s2, .slice A2 sl.length c2] 29 (0, 0)) := new_at rfl
  generalize (w3.alloc (.cells #[.int .i64 s1, .int .i64 s2, .slice A2 sl.length c2] 29)) = W4 at *
  replace y0 := Ext.cell h34 y0
  replace y1 := Ext.cell h34 y1
  replace y2 := Ext.cell h34 y2
  replace y3 := Ext.cell h34 y3
  replace t0 := Ext.cell h34 t0
  replace t1 := Ext.cell h34 t1
  replace t2 := Ext.cell h34 t2
  replace L0 := Ext.cell h34 L0
  replace L1 := Ext.cell h34 L1
  replace B0 := Ext.cell h34 B0
  replace B1 := Ext.cell h34 B1
  replace hA := h34.blk hA
  have E4 := E3.trans h34
  replace hp1 := hp1.ext h34
  replace hp2 := hp2.ext h34
  have a0 : W4.cell? ⟨w2.heap.size, 0, none⟩ = some (.int .i64 s1) := World.news_of_block hA 0 _ rfl
  have a1 : W4.cell? ⟨w2.heap.size, 1, none⟩ = some (.int .i64 s2) := World.news_of_block hA 1 _ rfl
  have a2 : W4.cell? ⟨w2.heap.size, 2, none⟩ = some (.slice A1 sl.length c1) := World.news_of_block hA 2 _ rfl
  have d0 : W4.cell? ⟨w3.heap.size, 0, none⟩ = some (.int .i64 s1) := World.news_of_block hB 0 _ rfl
  have d1 : W4.cell? ⟨w3.heap.size, 1, none⟩ = some (.int .i64 s2) := World.news_of_block hB 1 _ rfl
  have d2 : W4.cell? ⟨w3.heap.size, 2, none⟩ = some (.slice A2 sl.length c2) := World.news_of_block hB 2 _ rfl
  have CSm := Lib.hid (fun w' (h : Ext W4 w') => Same_c s1 s2 (.slice A1 sl.length c1) (.slice A2 sl.length c2) sl w' (hp1.ext h) (hp2.ext h))
  have hlA := fst_lt hA
  have hly := lt_of_cell y0
  have hlt := lt_of_cell t0
  clear hp1 hp2 hA hB h34 E1 E2 E3 hb23
  go_cut [65] (fun sa wx => sa = .bool false ∧ Ext W4 wx)
  case first =>
    go_region_held3 (fun w' => w'.cell? ⟨w2.heap.size, 0, none⟩ = some (.int .i64 s1) ∧ w'.cell? ⟨w2.heap.size, 1, none⟩ = some (.int .i64 s2) ∧ w'.cell? ⟨w2.heap.size, 2, none⟩ = some (.slice A1 sl.length c1) ∧ w'.cell? ⟨w3.heap.size, 0, none⟩ = some (.int .i64 s1) ∧ w'.cell? ⟨w3.heap.size, 1, none⟩ = some (.int .i64 s2) ∧ w'.cell? ⟨w3.heap.size, 2, none⟩ = some (.slice A2 sl.length c2) ∧ w'.cell? ⟨w.heap.size, 0, none⟩ = some (.string v.name) ∧ w'.cell? ⟨w.heap.size, 1, none⟩ = some (.slice A v.units.length cap) ∧ w'.cell? ⟨w.heap.size, 2, none⟩ = some (.int .i64 v.first) ∧ w'.cell? ⟨w.heap.size, 3, none⟩ = some (.int .i64 v.last) ∧ w'.cell? ⟨w.heap.size + 1, 0, none⟩ = some (.int .i64 p1) ∧ w'.cell? ⟨w.heap.size + 1, 1, none⟩ = some (.int .i64 p2) ∧ w'.cell? ⟨w.heap.size + 1, 2, none⟩ = some (.slice Ap ps.length capp)) (refine ⟨?_, ?_, ?_, ?_, ?_, ?_, ?_, ?_, ?_, ?_, ?_, ?_, ?_⟩ <;> (repeat' (with_reducible (first | assumption | refine Ext.cell hb7 ?_ | refine Ext.cell hb6 ?_ | refine Ext.cell hb5 ?_ | refine Ext.cell (Ext.refl _).drew ?_)))) (first
      | (go_at_call 13; refine (CSm.out _ (by (repeat' (first | exact Ext.refl _ | assumption | refine Ext.alloc ?_ _ | refine Ext.drew ?_ | refine Ext.drewN ?_ _ | refine Ext.set ?_ (by first | exact Nat.le_refl _ | exact le1 _ | exact le2 _ | exact le3 _ | exact le4 _ | exact le5 _ | exact le6 _) _ | refine Ext.trans ?_ (by assumption))))).mono ?_; rintro e w5 ⟨rfl, hb5⟩)
      | (go_at_call 14; refine (CP.out _ (by (repeat' (first | exact Ext.refl _ | assumption | refine Ext.alloc ?_ _ | refine Ext.drew ?_ | refine Ext.drewN ?_ _ | refine Ext.set ?_ (by first | exact Nat.le_refl _ | exact le1 _ | exact le2 _ | exact le3 _ | exact le4 _ | exact le5 _ | exact le6 _) _ | refine Ext.trans ?_ (by assumption))))).mono ?_; rintro e w6 ⟨rfl, hb6⟩)
      | (go_at_call 15; refine (CQ.out _ (by (repeat' (first | exact Ext.refl _ | assumption | refine Ext.alloc ?_ _ | refine Ext.drew ?_ | refine Ext.drewN ?_ _ | refine Ext.set ?_ (by first | exact Nat.le_refl _ | exact le1 _ | exact le2 _ | exact le3 _ | exact le4 _ | exact le5 _ | exact le6 _) _ | refine Ext.trans ?_ (by assumption))))).mono ?_; rintro e w7 ⟨rfl, hb7⟩))
    all_goals
      go_wp2_with fail
      go_meet
      exact ⟨rfl, by (repeat' (first | exact Ext.refl _ | assumption | refine Ext.alloc ?_ _ | refine Ext.drew ?_ | refine Ext.drewN ?_ _ | refine Ext.set ?_ (by first | exact Nat.le_refl _ | exact le1 _ | exact le2 _ | exact le3 _ | exact le4 _ | exact le5 _ | exact le6 _) _ | refine Ext.trans ?_ (by assumption)))⟩
  case rest =>
    obtain ⟨rfl, E45⟩ := hcut
    generalize wc = W5 at *
    have E5 := E4.trans E45
    replace y0 := Ext.cell E45 y0
    replace y1 := Ext.cell E45 y1
    replace y2 := Ext.cell E45 y2
    replace y3 := Ext.cell E45 y3
    replace t0 := Ext.cell E45 t0
    replace t1 := Ext.cell E45 t1
    replace t2 := Ext.cell E45 t2
    have hs45 := E45.sz
    clear a0 a1 a2 d0 d1 d2 L0 L1 B0 B1 E45 CSm
    go_wp2_with (first
      | (go_at_call 16; refine (CJ.out _ E5).mono ?_; rintro e w6 ⟨rfl, hb⟩; replace y0 := Ext.cell hb y0; replace y1 := Ext.cell hb y1; replace y2 := Ext.cell hb y2; replace y3 := Ext.cell hb y3; replace t0 := Ext.cell hb t0; replace t1 := Ext.cell hb t1; replace t2 := Ext.cell hb t2; have E6 := E5.trans hb; have hy6 := lt_of_cell y0; have ht6 := lt_of_cell t0; clear hb)
      | (go_at_call 17; refine (CK.out _ (E6.alloc _)).mono ?_; rintro e w7 ⟨rfl, hb⟩; have hb7 := ((Ext.refl w6).alloc _).trans hb; replace y0 := Ext.cell hb7 y0; replace y1 := Ext.cell hb7 y1; replace y2 := Ext.cell hb7 y2; replace y3 := Ext.cell hb7 y3; replace t0 := Ext.cell hb7 t0; replace t1 := Ext.cell hb7 t1; replace t2 := Ext.cell hb7 t2; have E7 := E6.trans hb7; have hy7 := lt_of_cell y0; have ht7 := lt_of_cell t0; have q0 : w7.cell? ⟨w6.heap.size, 0, none⟩ = some (.int .i64 j1) := Ext.cell hb (World.news_of_block (new_at (W := w6) rfl) 0 _ rfl); have q1 : w7.cell? ⟨w6.heap.size, 1, none⟩ = some (.int .i64 j2) := Ext.cell hb (World.news_of_block (new_at (W := w6) rfl) 1 _ rfl); clear hb)
      | (go_at_call 18; refine (CM.out _ (E7.alloc _)).mono ?_; rintro e w8 ⟨rfl, hb⟩; have hb8 := ((Ext.refl w7).alloc _).trans hb; replace y0 := Ext.cell hb8 y0; replace y1 := Ext.cell hb8 y1; replace y2 := Ext.cell hb8 y2; replace y3 := Ext.cell hb8 y3; replace t0 := Ext.cell hb8 t0; replace t1 := Ext.cell hb8 t1; replace t2 := Ext.cell hb8 t2; replace q0 := Ext.cell hb8 q0; replace q1 := Ext.cell hb8 q1; have E8 := E7.trans hb8; have hy8 := lt_of_cell y0; have ht8 := lt_of_cell t0; have r0 : w8.cell? ⟨w7.heap.size, 0, none⟩ = some (.int .i64 j1) := Ext.cell hb (World.news_of_block (new_at (W := w7) rfl) 0 _ rfl); have r1 : w8.cell? ⟨w7.heap.size, 1, none⟩ = some (.int .i64 j2) := Ext.cell hb (World.news_of_block (new_at (W := w7) rfl) 1 _ rfl); clear hb)
      | (go_at_call 19; refine (CN.out _ (E8.alloc _)).mono ?_; rintro e w9 ⟨rfl, hb⟩; have hb9 := ((Ext.refl w8).alloc _).trans hb; replace y0 := Ext.cell hb9 y0; replace y1 := Ext.cell hb9 y1; replace y2 := Ext.cell hb9 y2; replace y3 := Ext.cell hb9 y3; replace t0 := Ext.cell hb9 t0; replace t1 := Ext.cell hb9 t1; replace t2 := Ext.cell hb9 t2; replace q0 := Ext.cell hb9 q0; replace q1 := Ext.cell hb9 q1; replace r0 := Ext.cell hb9 r0; replace r1 := Ext.cell hb9 r1; have E9 := E8.trans hb9; have s0 : w9.cell? ⟨w8.heap.size, 0, none⟩ = some (.int .i64 m1) := Ext.cell hb (World.news_of_block (new_at (W := w8) rfl) 0 _ rfl); have s01 : w9.cell? ⟨w8.heap.size, 1, none⟩ = some (.int .i64 m2) := Ext.cell hb (World.news_of_block (new_at (W := w8) rfl) 1 _ rfl); have lq := lt_of_cell q0; have lr := lt_of_cell r0; have ls := lt_of_cell s0; clear hb)
      | (go_at_call 10; refine (CW.out _).mono ?_; rintro e w10 ⟨rfl, hb10⟩))
    go_ret
    exact ⟨rfl, by (repeat' (first | exact Ext.refl _ | assumption | refine Ext.alloc ?_ _ | refine Ext.drew ?_ | refine Ext.drewN ?_ _ | refine Ext.set ?_ (by first | exact Nat.le_refl _ | exact le1 _ | exact le2 _ | exact le3 _ | exact le4 _ | exact le5 _ | exact le6 _) _ | refine Ext.trans ?_ (by assumption)))⟩
theorem poses_law (l1 l2 b1 b2 i X Y : Int) (w : World) (hs : Sl 11 RUnit w vu v.units) (hp : Pts w vp ps) :
    Calls Try.prog 3 #[vehV v vu, poseV lead vp, .agg #[.int .i64 l1, .int .i64 l2], .agg #[.int .i64 b1, .int .i64 b2], .int .i64 i, .int .i64 X, .int .i64 Y] w fun e w' => e = .returned (.bool true) ∧ Ext w w' := by
  cases h : longB v
  · by_cases h2 : (30 : Int) < ps.length
    · exact poses_long l1 l2 b1 b2 i X Y w hs hp (.inr h2)
    · exact poses_short l1 l2 b1 b2 i X Y w hs hp h h2
  · exact poses_long l1 l2 b1 b2 i X Y w hs hp (.inl h)
end
end Go.Proofs.Ytgikfliibimkdaa
