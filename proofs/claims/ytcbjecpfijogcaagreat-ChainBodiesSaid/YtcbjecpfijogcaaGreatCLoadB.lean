
/- Contract: LoadLine, by the program. -/
import Derived.Test.YtcbjecpfijogcaaGreatCBodySAll
import Derived.Test.YtcbjecpfijogcaaGreatHAppAll
import Derived.Test.YtcbjecpfijogcaaGreatCRJoint
namespace Go.Proofs.YtcbjecpfijogcaaGreat
open Go.RowKit Go.Shelf

section
variable {vu vp : Value} {v : CVeh} {lead : Pt} {ps : List Pt}
set_option maxRecDepth 100000 in
set_option maxHeartbeats 6400000 in
theorem Line_two (w : World) (hs : Sl 11 RUnit w vu v.units) (hp : Pts w vp ps) (h1 : poseE v lead ps = 0) (hcase : ¬ v.first = v.last) :
    Calls Tryz.prog 10 #[vehV v vu, poseV lead vp] w fun e w' => e = .returned (lineV (lineS v lead ps)) ∧ Ext w w' := by
  have CO := fun w' (h : Ext w w') => look_ok (lead := lead) w' (hs.ext RUnit.stable h) (hp.ext h) h1
  have hpl := puts_len h1
  obtain ⟨f, l, hf, hl, hfl, hln⟩ := veh_ends hpl.2.1
  have HFC := Lib.hid (show f < l by omega)
  clear hcase
  have HV := Lib.hid (vehE_units hpl.2.1)
  have HLS := Lib.hid (fun a b ha hb => lineS_ok (a := a) (b := b) h1 hf hl ha hb)
  obtain ⟨A, cap, rfl, hl', hl2⟩ := hs.shape
  obtain ⟨Ap, capp, rfl⟩ := pts_shape hp
  obtain ⟨l1, l2⟩ := lead
  clear hs hp
  have hlen := hpl.1
  clear hpl h1
  unfold vehV poseV at *
  rw [hf, hl] at CO ⊢
  simp only at CO ⊢
  generalize lineS v (l1, l2) ps = LS at *
  have HL := Lib.hid (And.intro hfl hln)
  have C := Lib.hid CO
  clear CO hf hl
  have i0 : (0 : Int) ≤ (f : Int) := by omega
  have i1 : (f : Int) < (v.units.length : Int) := by omega
  have i2 : (0 : Int) ≤ (l : Int) := by omega
  have i3 : (l : Int) < (v.units.length : Int) := by omega
  go_enter Tryz.func10, Tryz.ntmps10
  go_upto_region 4 with (go_at_call 35; refine (C.out _ (by (repeat' (first | exact Ext.refl _ | assumption | refine Ext.alloc ?_ _ | refine Ext.drew ?_ | refine Ext.drewN ?_ _ | refine Ext.set ?_ (by first | exact Nat.le_refl _ | exact le1 _ | exact le2 _ | exact le3 _ | exact le4 _ | exact le5 _ | exact le6 _) _ | refine Ext.trans ?_ (by assumption))))).mono ?_; rintro e w1 ⟨vl, xs, rfl, ho, hm, hxl, hb1⟩; have hmm := Lib.hid hm; have hxx := Lib.hid hxl; obtain ⟨A0, c0, rfl⟩ := own_len ho; rw [hxl])
  have EW : Ext w w1 := by (repeat' (first | exact Ext.refl _ | assumption | refine Ext.alloc ?_ _ | refine Ext.drew ?_ | refine Ext.drewN ?_ _ | refine Ext.set ?_ (by first | exact Nat.le_refl _ | exact le1 _ | exact le2 _ | exact le3 _ | exact le4 _ | exact le5 _ | exact le6 _) _ | refine Ext.trans ?_ (by assumption)))
  obtain ⟨x, hx⟩ := some_of_lt (show f < xs.length by omega)
  obtain ⟨y, hy⟩ := some_of_lt (show l < xs.length by omega)
  have hpx : (putsN (l1, l2) v.units ps)[f]? = some ⟨x.unit, x.joint, x.axle⟩ := by rw [← hmm.out, List.getElem?_map, hx]; rfl
  have hpy : (putsN (l1, l2) v.units ps)[l]? = some ⟨y.unit, y.joint, y.axle⟩ := by rw [← hmm.out, List.getElem?_map, hy]; rfl
  have HLQ := Lib.hid (HLS.out _ _ hpx hpy)
  have hux := HV.out x.unit (mem_of_some (putsN_at _ _ _ _ _ hpx).1)
  have huy := HV.out y.unit (mem_of_some (putsN_at _ _ _ _ _ hpy).1)
  obtain ⟨g, c, ev, hcx⟩ := own_at ho hx
  simp only [Value.slice.injEq] at ev
  obtain ⟨rfl, -, rfl⟩ := ev
  obtain ⟨g', c', ev, hcy⟩ := own_at ho hy
  simp only [Value.slice.injEq, Option.some.injEq, Addr.mk.injEq, and_true] at ev
  obtain ⟨rfl, -⟩ := ev
  have x0 := hcx 0 _ rfl
  have y0 := hcy 0 _ rfl
  have x1 := hcx 1 _ rfl
  have y1 := hcy 1 _ rfl
  have x2 := hcx 2 _ rfl
  have y2 := hcy 2 _ rfl
  have x3 := hcx 3 _ rfl
  have y3 := hcy 3 _ rfl
  have x4 := hcx 4 _ rfl
  have y4 := hcy 4 _ rfl
  have x5 := hcx 5 _ rfl
  have y5 := hcy 5 _ rfl
  have x6 := hcx 6 _ rfl
  have y6 := hcy 6 _ rfl
  have x7 := hcx 7 _ rfl
  have y7 := hcy 7 _ rfl
  have x8 := hcx 8 _ rfl
  have y8 := hcy 8 _ rfl
  have x9 := hcx 9 _ rfl
  have y9 := hcy 9 _ rfl
  have x10 := hcx 10 _ rfl
  have y10 := hcy 10 _ rfl
  have x11 := hcx 11 _ rfl
  have y11 := hcy 11 _ rfl
  have x12 := hcx 12 _ rfl
  have y12 := hcy 12 _ rfl
  have x13 := hcx 13 _ rfl
  have y13 := hcy 13 _ rfl
  have x14 := hcx 14 _ rfl
  have y14 := hcy 14 _ rfl
  simp only [Nat.add_zero] at x0 y0
  have bR1 : w1.heap[w.heap.size + 1 + 1]? = some (.cells #[.int .i64 0, .int .i64 0] 26 (0, 0)) := (hb1.block _ (by simp)).trans ((Below.heap_alloc _ _ _ (by simp)).trans (new_at (by simp)))
  have bR2 : w1.heap[w.heap.size + 1 + 1 + 1]? = some (.cells #[.int .i64 0, .int .i64 0] 26 (0, 0)) := (hb1.block _ (by simp)).trans (new_at (by simp))
  have vf := Ext.cell hb1 (p := ⟨w.heap.size, 2, none⟩) (v := .int .i64 f) (by go_simp)
  have vl := Ext.cell hb1 (p := ⟨w.heap.size, 3, none⟩) (v := .int .i64 l) (by go_simp)
  have HBR := Lib.hid (And.intro bR1 bR2)
  have HEW := Lib.hid EW
  have lR := (Array.getElem?_eq_some_iff.1 bR2).1
  have lx := lt_of_cell x0
  have lv := lt_of_cell vf
  clear ho hcx hcy hx hy hpx hpy bR1 bR2 EW hb1
  go_cut [9, 10] from 24 to 33 (fun sa sb wc => ∃ ba bb : Nat, sa = .pointer (some ⟨ba, 0, none⟩) ∧ sb = .pointer (some ⟨bb, 0, none⟩) ∧ w1.heap.size ≤ ba ∧ w1.heap.size ≤ bb ∧ Ext w1 wc ∧ wc.heap[ba]? = some (.cells #[.int .i64 x.unit.kind, .int .i64 x.unit.length, .int .i64 x.unit.behind, .int .i64 x.unit.front, .int .i64 x.unit.rear, .int .i64 x.unit.width, .int .i64 x.unit.height, .int .i64 x.unit.mass, .int .i64 x.unit.steer, .int .i64 x.unit.most, .slice x.A x.unit.axles.length x.cap, .int .i64 x.joint.1, .int .i64 x.joint.2, .int .i64 x.axle.1, .int .i64 x.axle.2] 64 (0, 0)) ∧ wc.heap[bb]? = some (.cells #[.int .i64 y.unit.kind, .int .i64 y.unit.length, .int .i64 y.unit.behind, .int .i64 y.unit.front, .int .i64 y.unit.rear, .int .i64 y.unit.width, .int .i64 y.unit.height, .int .i64 y.unit.mass, .int .i64 y.unit.steer, .int .i64 y.unit.most, .slice y.A y.unit.axles.length y.cap, .int .i64 y.joint.1, .int .i64 y.joint.2, .int .i64 y.axle.1, .int .i64 y.axle.2] 64 (0, 0)))
  case first =>
    go_region_held3 (fun w' => w'.cell? ⟨w.heap.size, 2, none⟩ = some (.int .i64 f) ∧ w'.cell? ⟨w.heap.size, 3, none⟩ = some (.int .i64 l) ∧ w'.cell? ⟨g, f * 15, none⟩ = some (.int .i64 x.unit.kind) ∧ w'.cell? ⟨g, f * 15 + 1, none⟩ = some (.int .i64 x.unit.length) ∧ w'.cell? ⟨g, f * 15 + 2, none⟩ = some (.int .i64 x.unit.behind) ∧ w'.cell? ⟨g, f * 15 + 3, none⟩ = some (.int .i64 x.unit.front) ∧ w'.cell? ⟨g, f * 15 + 4, none⟩ = some (.int .i64 x.unit.rear) ∧ w'.cell? ⟨g, f * 15 + 5, none⟩ = some (.int .i64 x.unit.width) ∧ w'.cell? ⟨g, f * 15 + 6, none⟩ = some (.int .i64 x.unit.height) ∧ w'.cell? ⟨g, f * 15 + 7, none⟩ = some (.int .i64 x.unit.mass) ∧ w'.cell? ⟨g, f * 15 + 8, none⟩ = some (.int .i64 x.unit.steer) ∧ w'.cell? ⟨g, f * 15 + 9, none⟩ = some (.int .i64 x.unit.most) ∧ w'.cell? ⟨g, f * 15 + 10, none⟩ = some (.slice x.A x.unit.axles.length x.cap) ∧ w'.cell? ⟨g, f * 15 + 11, none⟩ = some (.int .i64 x.joint.1) ∧ w'.cell? ⟨g, f * 15 + 12, none⟩ = some (.int .i64 x.joint.2) ∧ w'.cell? ⟨g, f * 15 + 13, none⟩ = some (.int .i64 x.axle.1) ∧ w'.cell? ⟨g, f * 15 + 14, none⟩ = some (.int .i64 x.axle.2) ∧ w'.cell? ⟨g, l * 15, none⟩ = some (.int .i64 y.unit.kind) ∧ w'.cell? ⟨g, l * 15 + 1, none⟩ = some (.int .i64 y.unit.length) ∧ w'.cell? ⟨g, l * 15 + 2, none⟩ = some (.int .i64 y.unit.behind) ∧ w'.cell? ⟨g, l * 15 + 3, none⟩ = some (.int .i64 y.unit.front) ∧ w'.cell? ⟨g, l * 15 + 4, none⟩ = some (.int .i64 y.unit.rear) ∧ w'.cell? ⟨g, l * 15 + 5, none⟩ = some (.int .i64 y.unit.width) ∧ w'.cell? ⟨g, l * 15 + 6, none⟩ = some (.int .i64 y.unit.height) ∧ w'.cell? ⟨g, l * 15 + 7, none⟩ = some (.int .i64 y.unit.mass) ∧ w'.cell? ⟨g, l * 15 + 8, none⟩ = some (.int .i64 y.unit.steer) ∧ w'.cell? ⟨g, l * 15 + 9, none⟩ = some (.int .i64 y.unit.most) ∧ w'.cell? ⟨g, l * 15 + 10, none⟩ = some (.slice y.A y.unit.axles.length y.cap) ∧ w'.cell? ⟨g, l * 15 + 11, none⟩ = some (.int .i64 y.joint.1) ∧ w'.cell? ⟨g, l * 15 + 12, none⟩ = some (.int .i64 y.joint.2) ∧ w'.cell? ⟨g, l * 15 + 13, none⟩ = some (.int .i64 y.axle.1) ∧ w'.cell? ⟨g, l * 15 + 14, none⟩ = some (.int .i64 y.axle.2)) (exact (fun (E : Ext w1 _) => ⟨E.cell vf, E.cell vl, E.cell x0, E.cell x1, E.cell x2, E.cell x3, E.cell x4, E.cell x5, E.cell x6, E.cell x7, E.cell x8, E.cell x9, E.cell x10, E.cell x11, E.cell x12, E.cell x13, E.cell x14, E.cell y0, E.cell y1, E.cell y2, E.cell y3, E.cell y4, E.cell y5, E.cell y6, E.cell y7, E.cell y8, E.cell y9, E.cell y10, E.cell y11, E.cell y12, E.cell y13, E.cell y14⟩) (by (repeat' (first | exact Ext.refl _ | assumption | refine Ext.alloc ?_ _ | refine Ext.drew ?_ | refine Ext.drewN ?_ _ | refine Ext.set ?_ (by first | exact Nat.le_refl _ | exact le1 _ | exact le2 _ | exact le3 _ | exact le4 _ | exact le5 _ | exact le6 _) _ | refine Ext.trans ?_ (by assumption))))) (fail)
    all_goals
      go_wp2_with fail
      go_meet
      first
        | exact ⟨w1.heap.size, w1.heap.size + 1, rfl, rfl, by omega, by omega, (((Ext.refl w1).alloc _).alloc _).drew, heap2_first w1 _ _, heap2_second w1 _ _⟩
        | exact ⟨w1.heap.size + 1, w1.heap.size, rfl, rfl, by omega, by omega, (((Ext.refl w1).alloc _).alloc _).drew, heap2_second w1 _ _, heap2_first w1 _ _⟩
  case rest =>
    obtain ⟨ba, bb, rfl, rfl, hba, hbb, E4, hA, hB⟩ := hcut
    generalize wc = W5 at *
    have a0 : W5.cell? ⟨ba, 0, none⟩ = some (.int .i64 x.unit.kind) := World.news_of_block hA 0 _ rfl
    have a1 : W5.cell? ⟨ba, 1, none⟩ = some (.int .i64 x.unit.length) := World.news_of_block hA 1 _ rfl
    have a2 : W5.cell? ⟨ba, 2, none⟩ = some (.int .i64 x.unit.behind) := World.news_of_block hA 2 _ rfl
    have a3 : W5.cell? ⟨ba, 3, none⟩ = some (.int .i64 x.unit.front) := World.news_of_block hA 3 _ rfl
    have a4 : W5.cell? ⟨ba, 4, none⟩ = some (.int .i64 x.unit.rear) := World.news_of_block hA 4 _ rfl
    have a5 : W5.cell? ⟨ba, 5, none⟩ = some (.int .i64 x.unit.width) := World.news_of_block hA 5 _ rfl
    have a6 : W5.cell? ⟨ba, 6, none⟩ = some (.int .i64 x.unit.height) := World.news_of_block hA 6 _ rfl
    have a7 : W5.cell? ⟨ba, 7, none⟩ = some (.int .i64 x.unit.mass) := World.news_of_block hA 7 _ rfl
    have a8 : W5.cell? ⟨ba, 8, none⟩ = some (.int .i64 x.unit.steer) := World.news_of_block hA 8 _ rfl
    have a9 : W5.cell? ⟨ba, 9, none⟩ = some (.int .i64 x.unit.most) := World.news_of_block hA 9 _ rfl
    have a10 : W5.cell? ⟨ba, 10, none⟩ = some (.slice x.A x.unit.axles.length x.cap) := World.news_of_block hA 10 _ rfl
    have a11 : W5.cell? ⟨ba, 11, none⟩ = some (.int .i64 x.joint.1) := World.news_of_block hA 11 _ rfl
    have a12 : W5.cell? ⟨ba, 12, none⟩ = some (.int .i64 x.joint.2) := World.news_of_block hA 12 _ rfl
    have a13 : W5.cell? ⟨ba, 13, none⟩ = some (.int .i64 x.axle.1) := World.news_of_block hA 13 _ rfl
    have a14 : W5.cell? ⟨ba, 14, none⟩ = some (.int .i64 x.axle.2) := World.news_of_block hA 14 _ rfl
    have vf5 := E4.cell vf
    have vl5 := E4.cell vl
    have z4 := E4.sz
    have HBB := Lib.hid (And.intro hA hB)
    have lba := (Array.getElem?_eq_some_iff.1 hA).1
    have lbb := (Array.getElem?_eq_some_iff.1 hB).1
    have CUx := Lib.hid (fun w' => pulled_x x.A x.unit.axles.length x.cap x.unit w' hux)
    have CUy := Lib.hid (fun w' => pulled_x y.A y.unit.axles.length y.cap y.unit w' huy)
    have CAx := fun w' => at_c x (pulledN x.unit - x.unit.length) 0 w'
    have CAy := fun w' => at_c y (pulledN y.unit - y.unit.length) 0 w'
    unfold putV at CAx CAy
    have hp1 := pulled_bds hux
    have hp2 := pulled_bds huy
    have hq1 := unitB_bds hux
    have hq2 := unitB_bds huy
    have ex := IntWalk.i64_in (pulledN x.unit - x.unit.length) (by omega)
    have ey := IntWalk.i64_in (pulledN y.unit - y.unit.length) (by omega)
    have HLL := HLQ.out
    unfold lineL rearP at HLL
    simp only at HLL
    generalize placeS x.axle x.joint (pulledN x.unit - x.unit.length) 0 = qa at *
    generalize placeS y.axle y.joint (pulledN y.unit - y.unit.length) 0 = qb at *
    have HCAx := Lib.hid CAx
    have HCAy := Lib.hid CAy
    unfold ptV at CAx
    have HAx := Lib.hid CAx
    have HE4 := Lib.hid E4
    have HCV := Lib.hid (And.intro vf vl)
    clear CAx CAy hp1 hp2 hq1 hq2 hux huy hA hB vf vl x0 y0 x1 y1 x2 y2 x3 y3 x4 y4 x5 y5 x6 y6 x7 y7 x8 y8 x9 y9 x10 y10 x11 y11 x12 y12 x13 y13 x14 y14 HLQ
    go_upto_region 6 with fail
    have hF := World.alloc_heap_new W5 (.cells #[.int .i64 x.joint.1, .int .i64 x.joint.2] 26)
    have E56 : Ext W5 (W5.alloc (.cells #[.int .i64 x.joint.1, .int .i64 x.joint.2] 26)) := (Ext.refl _).alloc _
    have z56 : (W5.alloc (.cells #[.int .i64 x.joint.1, .int .i64 x.joint.2] 26)).heap.size = W5.heap.size + 1 := by simp
    generalize (W5.alloc (.cells #[.int .i64 x.joint.1, .int .i64 x.joint.2] 26)) = W6 at *
    have z6 : W5.heap.size + 1 ≤ W6.heap.size := by omega
    clear z56
    replace a0 := E56.cell a0
    replace a1 := E56.cell a1
    replace a2 := E56.cell a2
    replace a3 := E56.cell a3
    replace a4 := E56.cell a4
    replace a5 := E56.cell a5
    replace a6 := E56.cell a6
    replace a7 := E56.cell a7
    replace a8 := E56.cell a8
    replace a9 := E56.cell a9
    replace a10 := E56.cell a10
    replace a11 := E56.cell a11
    replace a12 := E56.cell a12
    replace a13 := E56.cell a13
    replace a14 := E56.cell a14
    replace vf5 := E56.cell vf5
    replace vl5 := E56.cell vl5
    have HF6 := Lib.hid hF
    have E6 := HE4.out.trans E56
    have HE6 := Lib.hid E6
    have HE56 := Lib.hid E56
    have hne1 : W5.heap.size ≠ w.heap.size + 1 + 1 := by omega
    have hne2 : W5.heap.size ≠ w.heap.size + 1 + 1 + 1 := by omega
    have hne3 : w.heap.size + 1 + 1 ≠ W5.heap.size := by omega
    have hne4 : w.heap.size + 1 + 1 + 1 ≠ W5.heap.size := by omega
    clear hF E56 E6
    obtain ⟨⟨qa1, qa2⟩, qae⟩ := qa
    have hflt := HFC.out
    have hlt : (f : Int) < (l : Int) := by omega
    have hdec : decide (f = l) = false := decide_eq_false (by omega)
    rw [hdec] at HLL
    clear hdec hflt
    go_upto_region 7 with fail
    (refine Tail.wp_region_qtail (C := fun w' => Ext W6 w') 10 (by kernel_rfl) (by kernel_rfl) (fun _ _ _ _ _ h => h) (by (repeat' (first | exact Ext.refl _ | assumption | refine Ext.alloc ?_ _ | refine Ext.drew ?_ | refine Ext.drewN ?_ _ | refine Ext.set ?_ (by first | exact Nat.le_refl _ | exact le1 _ | exact le2 _ | exact le3 _ | exact le4 _ | exact le5 _ | exact le6 _) _ | refine Ext.trans ?_ (by assumption)))) ?_; simp only [List.take_succ_cons, List.take_zero, List.drop_succ_cons, List.drop_zero]; (repeat (with_reducible refine wpQuiet_step (fun K hK => ?_); go_simp; first | (refine hK _ ?_; clear hK K) | (apply Exists.intro; refine ⟨fun w' hC => ?_, hK _ ?_⟩; (focus first | with_reducible rfl | (have q0 := hC.cell a0; have q1 := hC.cell a1; have q2 := hC.cell a2; have q3 := hC.cell a3; have q4 := hC.cell a4; have q5 := hC.cell a5; have q6 := hC.cell a6; have q7 := hC.cell a7; have q8 := hC.cell a8; have q9 := hC.cell a9; have q10 := hC.cell a10; have q11 := hC.cell a11; have q12 := hC.cell a12; have q13 := hC.cell a13; have q14 := hC.cell a14; go_simp; done) | (have q0 := hC.cell a0; have q1 := hC.cell a1; have q2 := hC.cell a2; have q3 := hC.cell a3; have q4 := hC.cell a4; have q5 := hC.cell a5; have q6 := hC.cell a6; have q7 := hC.cell a7; have q8 := hC.cell a8; have q9 := hC.cell a9; have q10 := hC.cell a10; have q11 := hC.cell a11; have q12 := hC.cell a12; have q13 := hC.cell a13; have q14 := hC.cell a14; go_simp; exact ⟨rfl, rfl⟩) | (have q0 := hC.cell a0; have q1 := hC.cell a1; have q2 := hC.cell a2; have q3 := hC.cell a3; have q4 := hC.cell a4; have q5 := hC.cell a5; have q6 := hC.cell a6; have q7 := hC.cell a7; have q8 := hC.cell a8; have q9 := hC.cell a9; have q10 := hC.cell a10; have q11 := hC.cell a11; have q12 := hC.cell a12; have q13 := hC.cell a13; have q14 := hC.cell a14; go_simp; with_reducible rfl) | (exact (CUx.out _).mono fun e w'' ⟨he, hw''⟩ => ⟨he, hC.trans hw''⟩) | (exact (HAx.out _).mono fun e w'' ⟨he, hw''⟩ => ⟨he, hC.trans hw''⟩)); clear hK K))); refine wpQuiet_nil ?_; intro wq hEq)
    have hFq := hEq.blk HF6.out
    have u0 : wq.cell? ⟨W5.heap.size, 0, none⟩ = some (.int .i64 x.joint.1) := World.news_of_block hFq 0 _ rfl
    have u1 : wq.cell? ⟨W5.heap.size, 1, none⟩ = some (.int .i64 x.joint.2) := World.news_of_block hFq 1 _ rfl
    have f0 := blk_frz hFq 0
    have f1 := blk_frz hFq 1
    have zq := hEq.sz
    have lF := fst_lt hFq
    have HFQ := Lib.hid hFq
    have EQ := HE6.out.trans hEq
    have HEQ := Lib.hid EQ
    have HE5Q := Lib.hid (HE56.out.trans hEq)
    have hR1 := EQ.blk HBR.out.1
    have hR2 := EQ.blk HBR.out.2
    have r10 : wq.cell? ⟨w.heap.size + 1 + 1, 0, none⟩ = some (.int .i64 0) := World.news_of_block hR1 0 _ rfl
    have fr10 := blk_frz hR1 0
    have r11 : wq.cell? ⟨w.heap.size + 1 + 1, 1, none⟩ = some (.int .i64 0) := World.news_of_block hR1 1 _ rfl
    have fr11 := blk_frz hR1 1
    have r20 : wq.cell? ⟨w.heap.size + 1 + 1 + 1, 0, none⟩ = some (.int .i64 0) := World.news_of_block hR2 0 _ rfl
    have fr20 := blk_frz hR2 0
    have r21 : wq.cell? ⟨w.heap.size + 1 + 1 + 1, 1, none⟩ = some (.int .i64 0) := World.news_of_block hR2 1 _ rfl
    have fr21 := blk_frz hR2 1
    have HR12 := Lib.hid (And.intro hR1 hR2)
    clear hR1 hR2
    clear hFq hEq EQ a0 a1 a2 a3 a4 a5 a6 a7 a8 a9 a10 a11 a12 a13 a14 vf5 vl5
    by_cases hqe : qae = 0
    · subst hqe
      go_upto_region 10 with fail
      have hx0 := two1 (.int .i64 qa2) (two0 (.int .i64 qa1) HFQ.out)
      have hx1 := (blk_oth (c := W5.heap.size) (i := 1) (u := .int .i64 qa2) (by omega) (blk_oth (c := W5.heap.size) (i := 0) (u := .int .i64 qa1) (by omega) HR12.out.1))
      have hx2 := (blk_oth (c := W5.heap.size) (i := 1) (u := .int .i64 qa2) (by omega) (blk_oth (c := W5.heap.size) (i := 0) (u := .int .i64 qa1) (by omega) HR12.out.2))
      have eQ2 : Ext w ((wq.setCell ⟨W5.heap.size, 0, none⟩ (.int .i64 qa1)).setCell ⟨W5.heap.size, 1, none⟩ (.int .i64 qa2)) := (((HEW.out.trans HEQ.out).set (p := ⟨W5.heap.size, 0, none⟩) (show w.heap.size ≤ W5.heap.size by omega) (.int .i64 qa1)).set (p := ⟨W5.heap.size, 1, none⟩) (show w.heap.size ≤ W5.heap.size by omega) (.int .i64 qa2))
      have eQ1 : Ext w1 ((wq.setCell ⟨W5.heap.size, 0, none⟩ (.int .i64 qa1)).setCell ⟨W5.heap.size, 1, none⟩ (.int .i64 qa2)) := ((HEQ.out.set (p := ⟨W5.heap.size, 0, none⟩) (show w1.heap.size ≤ W5.heap.size by omega) (.int .i64 qa1)).set (p := ⟨W5.heap.size, 1, none⟩) (show w1.heap.size ≤ W5.heap.size by omega) (.int .i64 qa2))
      have eQ5 : Ext W5 ((wq.setCell ⟨W5.heap.size, 0, none⟩ (.int .i64 qa1)).setCell ⟨W5.heap.size, 1, none⟩ (.int .i64 qa2)) := ((HE5Q.out.set (p := ⟨W5.heap.size, 0, none⟩) (show W5.heap.size ≤ W5.heap.size by omega) (.int .i64 qa1)).set (p := ⟨W5.heap.size, 1, none⟩) (show W5.heap.size ≤ W5.heap.size by omega) (.int .i64 qa2))
      have zW := eQ5.sz
      generalize ((wq.setCell ⟨W5.heap.size, 0, none⟩ (.int .i64 qa1)).setCell ⟨W5.heap.size, 1, none⟩ (.int .i64 qa2)) = W7 at *
      have HFB := Lib.hid hx0
      have HR12' := Lib.hid (And.intro hx1 hx2)
      have HEB := Lib.hid eQ2
      have HEB2 := Lib.hid eQ5
      clear HR12 hx0 hx1 hx2 eQ2 eQ1 eQ5 r10 r11 r20 r21 fr10 fr11 fr20 fr21 u0 u1 f0 f1 HFQ
      have HR12 := HR12'
      clear HR12'
      have hBt := HEB2.out.blk HBB.out.2
      have c0 : W7.cell? ⟨bb, 0, none⟩ = some (.int .i64 y.unit.kind) := World.news_of_block hBt 0 _ rfl
      have c1 : W7.cell? ⟨bb, 1, none⟩ = some (.int .i64 y.unit.length) := World.news_of_block hBt 1 _ rfl
      have c2 : W7.cell? ⟨bb, 2, none⟩ = some (.int .i64 y.unit.behind) := World.news_of_block hBt 2 _ rfl
      have c3 : W7.cell? ⟨bb, 3, none⟩ = some (.int .i64 y.unit.front) := World.news_of_block hBt 3 _ rfl
      have c4 : W7.cell? ⟨bb, 4, none⟩ = some (.int .i64 y.unit.rear) := World.news_of_block hBt 4 _ rfl
      have c5 : W7.cell? ⟨bb, 5, none⟩ = some (.int .i64 y.unit.width) := World.news_of_block hBt 5 _ rfl
      have c6 : W7.cell? ⟨bb, 6, none⟩ = some (.int .i64 y.unit.height) := World.news_of_block hBt 6 _ rfl
      have c7 : W7.cell? ⟨bb, 7, none⟩ = some (.int .i64 y.unit.mass) := World.news_of_block hBt 7 _ rfl
      have c8 : W7.cell? ⟨bb, 8, none⟩ = some (.int .i64 y.unit.steer) := World.news_of_block hBt 8 _ rfl
      have c9 : W7.cell? ⟨bb, 9, none⟩ = some (.int .i64 y.unit.most) := World.news_of_block hBt 9 _ rfl
      have c10 : W7.cell? ⟨bb, 10, none⟩ = some (.slice y.A y.unit.axles.length y.cap) := World.news_of_block hBt 10 _ rfl
      have c11 : W7.cell? ⟨bb, 11, none⟩ = some (.int .i64 y.joint.1) := World.news_of_block hBt 11 _ rfl
      have c12 : W7.cell? ⟨bb, 12, none⟩ = some (.int .i64 y.joint.2) := World.news_of_block hBt 12 _ rfl
      have c13 : W7.cell? ⟨bb, 13, none⟩ = some (.int .i64 y.axle.1) := World.news_of_block hBt 13 _ rfl
      have c14 : W7.cell? ⟨bb, 14, none⟩ = some (.int .i64 y.axle.2) := World.news_of_block hBt 14 _ rfl
      clear hBt
      go_upto_region 10 with fail
      go_cut [12, 8] from 60 to 71 (fun sa sb wc => ∃ t, sa = .pointer (some ⟨t, 0, none⟩) ∧ sb = .int .i64 qb.2 ∧ Ext W7 wc ∧ W7.heap.size ≤ t ∧ wc.heap[t]? = some (.cells #[.int .i64 qb.1.1, .int .i64 qb.1.2] 26 (0, 0)))
      case first =>
        go_region_held3 (fun w' => w'.cell? ⟨bb, 0, none⟩ = some (.int .i64 y.unit.kind) ∧ w'.cell? ⟨bb, 1, none⟩ = some (.int .i64 y.unit.length) ∧ w'.cell? ⟨bb, 2, none⟩ = some (.int .i64 y.unit.behind) ∧ w'.cell? ⟨bb, 3, none⟩ = some (.int .i64 y.unit.front) ∧ w'.cell? ⟨bb, 4, none⟩ = some (.int .i64 y.unit.rear) ∧ w'.cell? ⟨bb, 5, none⟩ = some (.int .i64 y.unit.width) ∧ w'.cell? ⟨bb, 6, none⟩ = some (.int .i64 y.unit.height) ∧ w'.cell? ⟨bb, 7, none⟩ = some (.int .i64 y.unit.mass) ∧ w'.cell? ⟨bb, 8, none⟩ = some (.int .i64 y.unit.steer) ∧ w'.cell? ⟨bb, 9, none⟩ = some (.int .i64 y.unit.most) ∧ w'.cell? ⟨bb, 10, none⟩ = some (.slice y.A y.unit.axles.length y.cap) ∧ w'.cell? ⟨bb, 11, none⟩ = some (.int .i64 y.joint.1) ∧ w'.cell? ⟨bb, 12, none⟩ = some (.int .i64 y.joint.2) ∧ w'.cell? ⟨bb, 13, none⟩ = some (.int .i64 y.axle.1) ∧ w'.cell? ⟨bb, 14, none⟩ = some (.int .i64 y.axle.2)) (refine ⟨?_, ?_, ?_, ?_, ?_, ?_, ?_, ?_, ?_, ?_, ?_, ?_, ?_, ?_, ?_⟩ <;> (repeat' (with_reducible (first | assumption | refine Ext.cell hbZ ?_ | refine Ext.cell hbE ?_ | refine Ext.cell (Ext.refl _).drew ?_ | refine cell_set_ne (by first | omega | (simp; omega)) ?_ | refine Ext.cell ((Ext.refl _).alloc _) ?_)))) (first
          | (go_at_call 28; refine (CUy.out _).mono ?_; rintro e wE ⟨rfl, hbE⟩; have zE := (show Ext W7 wE from by (repeat' (first | exact Ext.refl _ | assumption | refine Ext.alloc ?_ _ | refine Ext.drew ?_ | refine Ext.drewN ?_ _ | refine Ext.set ?_ (by first | exact Nat.le_refl _ | exact le1 _ | exact le2 _ | exact le3 _ | exact le4 _ | exact le5 _ | exact le6 _) _ | refine Ext.trans ?_ (by assumption)))).sz; (try (replace yW := (hbE.block _ (Array.getElem?_eq_some_iff.1 yW).1).trans yW)); (try (have yW : wE.heap[W7.heap.size]? = some (.cells #[.int .i64 0, .int .i64 0] 26 (0, 0)) := new_kept (W := W7.drew) hbE)); skip)
          | (go_at_call 29; refine (HCAy.out _).mono ?_; rintro e wZ ⟨rfl, hbZ⟩; unfold ptV; have zZ := (show Ext W7 wZ from by (repeat' (first | exact Ext.refl _ | assumption | refine Ext.alloc ?_ _ | refine Ext.drew ?_ | refine Ext.drewN ?_ _ | refine Ext.set ?_ (by first | exact Nat.le_refl _ | exact le1 _ | exact le2 _ | exact le3 _ | exact le4 _ | exact le5 _ | exact le6 _) _ | refine Ext.trans ?_ (by assumption)))).sz; (try (replace yE := (hbZ.block _ (Array.getElem?_eq_some_iff.1 yE).1).trans yE)); (try (replace yW := (hbZ.block _ (Array.getElem?_eq_some_iff.1 yW).1).trans yW)); (try (have yW : wZ.heap[W7.heap.size]? = some (.cells #[.int .i64 0, .int .i64 0] 26 (0, 0)) := new_kept (W := W7.drew) hbZ)); (try (have yE : wZ.heap[wE.heap.size]? = some (.cells #[.int .i64 0, .int .i64 0] 26 (0, 0)) := new_kept (W := wE) hbZ)); (try (have c0 : wZ.cell? ⟨W7.heap.size, 0, none⟩ = some (.int .i64 0) := World.news_of_block yW 0 _ rfl; have c1 : wZ.cell? ⟨W7.heap.size, 1, none⟩ = some (.int .i64 0) := World.news_of_block yW 1 _ rfl; have f0 := blk_frz yW 0; have f1 := blk_frz yW 1)); (try (have c0 : wZ.cell? ⟨wE.heap.size, 0, none⟩ = some (.int .i64 0) := World.news_of_block yE 0 _ rfl; have c1 : wZ.cell? ⟨wE.heap.size, 1, none⟩ = some (.int .i64 0) := World.news_of_block yE 1 _ rfl; have f0 := blk_frz yE 0; have f1 := blk_frz yE 1)); skip))
        all_goals
          go_wp2_with fail
          go_meet
          first
            | exact ⟨wZ.heap.size, rfl, rfl, by (repeat' (first | exact Ext.refl _ | assumption | refine Ext.alloc ?_ _ | refine Ext.drew ?_ | refine Ext.drewN ?_ _ | refine Ext.set ?_ (by first | exact Nat.le_refl _ | exact le1 _ | exact le2 _ | exact le3 _ | exact le4 _ | exact le5 _ | exact le6 _) _ | refine Ext.trans ?_ (by assumption))), zZ, World.alloc_heap_new wZ _⟩
            | exact ⟨wE.heap.size, rfl, rfl, ((show Ext W7 wZ from by (repeat' (first | exact Ext.refl _ | assumption | refine Ext.alloc ?_ _ | refine Ext.drew ?_ | refine Ext.drewN ?_ _ | refine Ext.set ?_ (by first | exact Nat.le_refl _ | exact le1 _ | exact le2 _ | exact le3 _ | exact le4 _ | exact le5 _ | exact le6 _) _ | refine Ext.trans ?_ (by assumption)))).set (p := ⟨wE.heap.size, 0, none⟩) zE _).set (p := ⟨wE.heap.size, 1, none⟩) zE _, zE, two1 _ (two0 _ yE)⟩
            | exact ⟨W7.heap.size, rfl, rfl, ((show Ext W7 wZ from by (repeat' (first | exact Ext.refl _ | assumption | refine Ext.alloc ?_ _ | refine Ext.drew ?_ | refine Ext.drewN ?_ _ | refine Ext.set ?_ (by first | exact Nat.le_refl _ | exact le1 _ | exact le2 _ | exact le3 _ | exact le4 _ | exact le5 _ | exact le6 _) _ | refine Ext.trans ?_ (by assumption)))).set (p := ⟨W7.heap.size, 0, none⟩) (Nat.le_refl _) _).set (p := ⟨W7.heap.size, 1, none⟩) (Nat.le_refl _) _, (Nat.le_refl _), two1 _ (two0 _ yW)⟩
      case rest =>
        obtain ⟨tb, rfl, rfl, EZ, ztb, hT⟩ := hcut
        have hFz := EZ.blk HFB.out
        have hR1 := EZ.blk HR12.out.1
        have hR2 := EZ.blk HR12.out.2
        have eZ : Ext w wc := (HEB.out).trans EZ
        obtain ⟨⟨qb1, qb2⟩, qbe⟩ := qb
        dsimp only at hT HLL ⊢
        have r10 : wc.cell? ⟨w.heap.size + 1 + 1, 0, none⟩ = some (.int .i64 0) := World.news_of_block hR1 0 _ rfl
        have fr10 := blk_frz hR1 0
        have r11 : wc.cell? ⟨w.heap.size + 1 + 1, 1, none⟩ = some (.int .i64 0) := World.news_of_block hR1 1 _ rfl
        have fr11 := blk_frz hR1 1
        have r20 : wc.cell? ⟨w.heap.size + 1 + 1 + 1, 0, none⟩ = some (.int .i64 0) := World.news_of_block hR2 0 _ rfl
        have fr20 := blk_frz hR2 0
        have r21 : wc.cell? ⟨w.heap.size + 1 + 1 + 1, 1, none⟩ = some (.int .i64 0) := World.news_of_block hR2 1 _ rfl
        have fr21 := blk_frz hR2 1
        have lR2 := fst_lt hR2
        clear c0 c1 c2 c3 c4 c5 c6 c7 c8 c9 c10 c11 c12 c13 c14
        by_cases hqb : qbe = 0
        · subst hqb
          have t0 : wc.cell? ⟨tb, 0, none⟩ = some (.int .i64 qb1) := World.news_of_block hT 0 _ rfl
          have t1 : wc.cell? ⟨tb, 1, none⟩ = some (.int .i64 qb2) := World.news_of_block hT 1 _ rfl
          have k0 : wc.cell? ⟨W5.heap.size, 0, none⟩ = some (.int .i64 qa1) := World.news_of_block hFz 0 _ rfl
          have k1 : wc.cell? ⟨W5.heap.size, 1, none⟩ = some (.int .i64 qa2) := World.news_of_block hFz 1 _ rfl
          have htb1 : tb ≠ w.heap.size + 1 + 1 := by omega
          have htb2 : tb ≠ w.heap.size + 1 + 1 + 1 := by omega
          go_upto_region 13 with fail
          go_region_held3 (fun w' => w'.cell? ⟨tb, 0, none⟩ = some (.int .i64 qb1) ∧ w'.cell? ⟨tb, 1, none⟩ = some (.int .i64 qb2) ∧ w'.cell? ⟨W5.heap.size, 0, none⟩ = some (.int .i64 qa1) ∧ w'.cell? ⟨W5.heap.size, 1, none⟩ = some (.int .i64 qa2)) (refine ⟨?_, ?_, ?_, ?_⟩ <;> (repeat' (with_reducible (first | assumption | refine Ext.cell (Ext.refl _).drew ?_ | refine cell_set_ne (by first | omega | (simp; omega)) ?_)))) (fail)
          all_goals
            go_wp2_with fail
            first
              | (have hx1 : ((((wc.setCell ⟨w.heap.size + 1 + 1, 0, none⟩ (.int .i64 qa1)).setCell ⟨w.heap.size + 1 + 1, 1, none⟩ (.int .i64 qa2)).setCell ⟨w.heap.size + 1 + 1 + 1, 0, none⟩ (.int .i64 qb1)).setCell ⟨w.heap.size + 1 + 1 + 1, 1, none⟩ (.int .i64 qb2)).drew.heap[w.heap.size + 1 + 1]? = some (.cells #[.int .i64 qa1, .int .i64 qa2] 26 (0, 0)) := (blk_oth (c := w.heap.size + 1 + 1 + 1) (i := 1) (u := .int .i64 qb2) (by omega) (blk_oth (c := w.heap.size + 1 + 1 + 1) (i := 0) (u := .int .i64 qb1) (by omega) (two1 (.int .i64 qa2) (two0 (.int .i64 qa1) hR1))))
                 have hx2 : ((((wc.setCell ⟨w.heap.size + 1 + 1, 0, none⟩ (.int .i64 qa1)).setCell ⟨w.heap.size + 1 + 1, 1, none⟩ (.int .i64 qa2)).setCell ⟨w.heap.size + 1 + 1 + 1, 0, none⟩ (.int .i64 qb1)).setCell ⟨w.heap.size + 1 + 1 + 1, 1, none⟩ (.int .i64 qb2)).drew.heap[w.heap.size + 1 + 1 + 1]? = some (.cells #[.int .i64 qb1, .int .i64 qb2] 26 (0, 0)) := (two1 (.int .i64 qb2) (two0 (.int .i64 qb1) (blk_oth (c := w.heap.size + 1 + 1) (i := 1) (u := .int .i64 qa2) (by omega) (blk_oth (c := w.heap.size + 1 + 1) (i := 0) (u := .int .i64 qa1) (by omega) hR2))))
                 have eF : Ext w ((((wc.setCell ⟨w.heap.size + 1 + 1, 0, none⟩ (.int .i64 qa1)).setCell ⟨w.heap.size + 1 + 1, 1, none⟩ (.int .i64 qa2)).setCell ⟨w.heap.size + 1 + 1 + 1, 0, none⟩ (.int .i64 qb1)).setCell ⟨w.heap.size + 1 + 1 + 1, 1, none⟩ (.int .i64 qb2)).drew := ((((eZ.set (p := ⟨w.heap.size + 1 + 1, 0, none⟩) (show w.heap.size ≤ w.heap.size + 1 + 1 by omega) (.int .i64 qa1)).set (p := ⟨w.heap.size + 1 + 1, 1, none⟩) (show w.heap.size ≤ w.heap.size + 1 + 1 by omega) (.int .i64 qa2)).set (p := ⟨w.heap.size + 1 + 1 + 1, 0, none⟩) (show w.heap.size ≤ w.heap.size + 1 + 1 + 1 by omega) (.int .i64 qb1)).set (p := ⟨w.heap.size + 1 + 1 + 1, 1, none⟩) (show w.heap.size ≤ w.heap.size + 1 + 1 + 1 by omega) (.int .i64 qb2)).drew
                 generalize ((((wc.setCell ⟨w.heap.size + 1 + 1, 0, none⟩ (.int .i64 qa1)).setCell ⟨w.heap.size + 1 + 1, 1, none⟩ (.int .i64 qa2)).setCell ⟨w.heap.size + 1 + 1 + 1, 0, none⟩ (.int .i64 qb1)).setCell ⟨w.heap.size + 1 + 1 + 1, 1, none⟩ (.int .i64 qb2)).drew = WF at *
                 have n00 : WF.cell? ⟨w.heap.size + 1 + 1, 0, none⟩ = some (.int .i64 qa1) := World.news_of_block hx1 0 _ rfl
                 have n01 : WF.cell? ⟨w.heap.size + 1 + 1, 1, none⟩ = some (.int .i64 qa2) := World.news_of_block hx1 1 _ rfl
                 have n10 : WF.cell? ⟨w.heap.size + 1 + 1 + 1, 0, none⟩ = some (.int .i64 qb1) := World.news_of_block hx2 0 _ rfl
                 have n11 : WF.cell? ⟨w.heap.size + 1 + 1 + 1, 1, none⟩ = some (.int .i64 qb2) := World.news_of_block hx2 1 _ rfl
                 exact bodyPost_ret (v := .tuple #[.agg #[.int .i64 qa1, .int .i64 qa2], .agg #[.int .i64 qb1, .int .i64 qb2], .int .i64 0]) (by simp [results, Tryz.results10, go_sem, n00, n01, n10, n11]) rfl ⟨rfl, eF⟩)
              | (have hx1 : ((((wc.setCell ⟨w.heap.size + 1 + 1 + 1, 0, none⟩ (.int .i64 qb1)).setCell ⟨w.heap.size + 1 + 1 + 1, 1, none⟩ (.int .i64 qb2)).setCell ⟨w.heap.size + 1 + 1, 0, none⟩ (.int .i64 qa1)).setCell ⟨w.heap.size + 1 + 1, 1, none⟩ (.int .i64 qa2)).drew.heap[w.heap.size + 1 + 1]? = some (.cells #[.int .i64 qa1, .int .i64 qa2] 26 (0, 0)) := (two1 (.int .i64 qa2) (two0 (.int .i64 qa1) (blk_oth (c := w.heap.size + 1 + 1 + 1) (i := 1) (u := .int .i64 qb2) (by omega) (blk_oth (c := w.heap.size + 1 + 1 + 1) (i := 0) (u := .int .i64 qb1) (by omega) hR1))))
                 have hx2 : ((((wc.setCell ⟨w.heap.size + 1 + 1 + 1, 0, none⟩ (.int .i64 qb1)).setCell ⟨w.heap.size + 1 + 1 + 1, 1, none⟩ (.int .i64 qb2)).setCell ⟨w.heap.size + 1 + 1, 0, none⟩ (.int .i64 qa1)).setCell ⟨w.heap.size + 1 + 1, 1, none⟩ (.int .i64 qa2)).drew.heap[w.heap.size + 1 + 1 + 1]? = some (.cells #[.int .i64 qb1, .int .i64 qb2] 26 (0, 0)) := (blk_oth (c := w.heap.size + 1 + 1) (i := 1) (u := .int .i64 qa2) (by omega) (blk_oth (c := w.heap.size + 1 + 1) (i := 0) (u := .int .i64 qa1) (by omega) (two1 (.int .i64 qb2) (two0 (.int .i64 qb1) hR2))))
                 have eF : Ext w ((((wc.setCell ⟨w.heap.size + 1 + 1 + 1, 0, none⟩ (.int .i64 qb1)).setCell ⟨w.heap.size + 1 + 1 + 1, 1, none⟩ (.int .i64 qb2)).setCell ⟨w.heap.size + 1 + 1, 0, none⟩ (.int .i64 qa1)).setCell ⟨w.heap.size + 1 + 1, 1, none⟩ (.int .i64 qa2)).drew := ((((eZ.set (p := ⟨w.heap.size + 1 + 1 + 1, 0, none⟩) (show w.heap.size ≤ w.heap.size + 1 + 1 + 1 by omega) (.int .i64 qb1)).set (p := ⟨w.heap.size + 1 + 1 + 1, 1, none⟩) (show w.heap.size ≤ w.heap.size + 1 + 1 + 1 by omega) (.int .i64 qb2)).set (p := ⟨w.heap.size + 1 + 1, 0, none⟩) (show w.heap.size ≤ w.heap.size + 1 + 1 by omega) (.int .i64 qa1)).set (p := ⟨w.heap.size + 1 + 1, 1, none⟩) (show w.heap.size ≤ w.heap.size + 1 + 1 by omega) (.int .i64 qa2)).drew
                 generalize ((((wc.setCell ⟨w.heap.size + 1 + 1 + 1, 0, none⟩ (.int .i64 qb1)).setCell ⟨w.heap.size + 1 + 1 + 1, 1, none⟩ (.int .i64 qb2)).setCell ⟨w.heap.size + 1 + 1, 0, none⟩ (.int .i64 qa1)).setCell ⟨w.heap.size + 1 + 1, 1, none⟩ (.int .i64 qa2)).drew = WF at *
                 have n00 : WF.cell? ⟨w.heap.size + 1 + 1, 0, none⟩ = some (.int .i64 qa1) := World.news_of_block hx1 0 _ rfl
                 have n01 : WF.cell? ⟨w.heap.size + 1 + 1, 1, none⟩ = some (.int .i64 qa2) := World.news_of_block hx1 1 _ rfl
                 have n10 : WF.cell? ⟨w.heap.size + 1 + 1 + 1, 0, none⟩ = some (.int .i64 qb1) := World.news_of_block hx2 0 _ rfl
                 have n11 : WF.cell? ⟨w.heap.size + 1 + 1 + 1, 1, none⟩ = some (.int .i64 qb2) := World.news_of_block hx2 1 _ rfl
                 exact bodyPost_ret (v := .tuple #[.agg #[.int .i64 qa1, .int .i64 qa2], .agg #[.int .i64 qb1, .int .i64 qb2], .int .i64 0]) (by simp [results, Tryz.results10, go_sem, n00, n01, n10, n11]) rfl ⟨rfl, eF⟩)
        · have hn1 : (qbe != 0) = true := by simpa using hqb
          have HNB := Lib.hid hqb
          clear hqb
          go_wp2_with fail
          have hx1 : ((((wc.setCell ⟨w.heap.size + 1 + 1, 0, none⟩ (.int .i64 0)).setCell ⟨w.heap.size + 1 + 1, 1, none⟩ (.int .i64 0)).setCell ⟨w.heap.size + 1 + 1 + 1, 0, none⟩ (.int .i64 0)).setCell ⟨w.heap.size + 1 + 1 + 1, 1, none⟩ (.int .i64 0)).heap[w.heap.size + 1 + 1]? = some (.cells #[.int .i64 0, .int .i64 0] 26 (0, 0)) := (blk_oth (c := w.heap.size + 1 + 1 + 1) (i := 1) (u := .int .i64 0) (by omega) (blk_oth (c := w.heap.size + 1 + 1 + 1) (i := 0) (u := .int .i64 0) (by omega) (two1 (.int .i64 0) (two0 (.int .i64 0) hR1))))
          have hx2 : ((((wc.setCell ⟨w.heap.size + 1 + 1, 0, none⟩ (.int .i64 0)).setCell ⟨w.heap.size + 1 + 1, 1, none⟩ (.int .i64 0)).setCell ⟨w.heap.size + 1 + 1 + 1, 0, none⟩ (.int .i64 0)).setCell ⟨w.heap.size + 1 + 1 + 1, 1, none⟩ (.int .i64 0)).heap[w.heap.size + 1 + 1 + 1]? = some (.cells #[.int .i64 0, .int .i64 0] 26 (0, 0)) := (two1 (.int .i64 0) (two0 (.int .i64 0) (blk_oth (c := w.heap.size + 1 + 1) (i := 1) (u := .int .i64 0) (by omega) (blk_oth (c := w.heap.size + 1 + 1) (i := 0) (u := .int .i64 0) (by omega) hR2))))
          have eF : Ext w ((((wc.setCell ⟨w.heap.size + 1 + 1, 0, none⟩ (.int .i64 0)).setCell ⟨w.heap.size + 1 + 1, 1, none⟩ (.int .i64 0)).setCell ⟨w.heap.size + 1 + 1 + 1, 0, none⟩ (.int .i64 0)).setCell ⟨w.heap.size + 1 + 1 + 1, 1, none⟩ (.int .i64 0)) := ((((eZ.set (p := ⟨w.heap.size + 1 + 1, 0, none⟩) (show w.heap.size ≤ w.heap.size + 1 + 1 by omega) (.int .i64 0)).set (p := ⟨w.heap.size + 1 + 1, 1, none⟩) (show w.heap.size ≤ w.heap.size + 1 + 1 by omega) (.int .i64 0)).set (p := ⟨w.heap.size + 1 + 1 + 1, 0, none⟩) (show w.heap.size ≤ w.heap.size + 1 + 1 + 1 by omega) (.int .i64 0)).set (p := ⟨w.heap.size + 1 + 1 + 1, 1, none⟩) (show w.heap.size ≤ w.heap.size + 1 + 1 + 1 by omega) (.int .i64 0))
          generalize ((((wc.setCell ⟨w.heap.size + 1 + 1, 0, none⟩ (.int .i64 0)).setCell ⟨w.heap.size + 1 + 1, 1, none⟩ (.int .i64 0)).setCell ⟨w.heap.size + 1 + 1 + 1, 0, none⟩ (.int .i64 0)).setCell ⟨w.heap.size + 1 + 1 + 1, 1, none⟩ (.int .i64 0)) = WF at *
          have n00 : WF.cell? ⟨w.heap.size + 1 + 1, 0, none⟩ = some (.int .i64 0) := World.news_of_block hx1 0 _ rfl
          have n01 : WF.cell? ⟨w.heap.size + 1 + 1, 1, none⟩ = some (.int .i64 0) := World.news_of_block hx1 1 _ rfl
          have n10 : WF.cell? ⟨w.heap.size + 1 + 1 + 1, 0, none⟩ = some (.int .i64 0) := World.news_of_block hx2 0 _ rfl
          have n11 : WF.cell? ⟨w.heap.size + 1 + 1 + 1, 1, none⟩ = some (.int .i64 0) := World.news_of_block hx2 1 _ rfl
          exact bodyPost_ret (v := .tuple #[.agg #[.int .i64 0, .int .i64 0], .agg #[.int .i64 0, .int .i64 0], .int .i64 qbe]) (by simp [results, Tryz.results10, go_sem, n00, n01, n10, n11]) rfl ⟨rfl, eF⟩
    · have hn1 : (qae != 0) = true := by simpa using hqe
      have HNQ := Lib.hid hqe
      clear hqe
      go_wp2_with fail
      have hx1 : ((((((wq.setCell ⟨W5.heap.size, 0, none⟩ (.int .i64 qa1)).setCell ⟨W5.heap.size, 1, none⟩ (.int .i64 qa2)).setCell ⟨w.heap.size + 1 + 1, 0, none⟩ (.int .i64 0)).setCell ⟨w.heap.size + 1 + 1, 1, none⟩ (.int .i64 0)).setCell ⟨w.heap.size + 1 + 1 + 1, 0, none⟩ (.int .i64 0)).setCell ⟨w.heap.size + 1 + 1 + 1, 1, none⟩ (.int .i64 0)).heap[w.heap.size + 1 + 1]? = some (.cells #[.int .i64 0, .int .i64 0] 26 (0, 0)) := (blk_oth (c := w.heap.size + 1 + 1 + 1) (i := 1) (u := .int .i64 0) (by omega) (blk_oth (c := w.heap.size + 1 + 1 + 1) (i := 0) (u := .int .i64 0) (by omega) (two1 (.int .i64 0) (two0 (.int .i64 0) (blk_oth (c := W5.heap.size) (i := 1) (u := .int .i64 qa2) (by omega) (blk_oth (c := W5.heap.size) (i := 0) (u := .int .i64 qa1) (by omega) HR12.out.1))))))
      have hx2 : ((((((wq.setCell ⟨W5.heap.size, 0, none⟩ (.int .i64 qa1)).setCell ⟨W5.heap.size, 1, none⟩ (.int .i64 qa2)).setCell ⟨w.heap.size + 1 + 1, 0, none⟩ (.int .i64 0)).setCell ⟨w.heap.size + 1 + 1, 1, none⟩ (.int .i64 0)).setCell ⟨w.heap.size + 1 + 1 + 1, 0, none⟩ (.int .i64 0)).setCell ⟨w.heap.size + 1 + 1 + 1, 1, none⟩ (.int .i64 0)).heap[w.heap.size + 1 + 1 + 1]? = some (.cells #[.int .i64 0, .int .i64 0] 26 (0, 0)) := (two1 (.int .i64 0) (two0 (.int .i64 0) (blk_oth (c := w.heap.size + 1 + 1) (i := 1) (u := .int .i64 0) (by omega) (blk_oth (c := w.heap.size + 1 + 1) (i := 0) (u := .int .i64 0) (by omega) (blk_oth (c := W5.heap.size) (i := 1) (u := .int .i64 qa2) (by omega) (blk_oth (c := W5.heap.size) (i := 0) (u := .int .i64 qa1) (by omega) HR12.out.2))))))
      have eF : Ext w ((((((wq.setCell ⟨W5.heap.size, 0, none⟩ (.int .i64 qa1)).setCell ⟨W5.heap.size, 1, none⟩ (.int .i64 qa2)).setCell ⟨w.heap.size + 1 + 1, 0, none⟩ (.int .i64 0)).setCell ⟨w.heap.size + 1 + 1, 1, none⟩ (.int .i64 0)).setCell ⟨w.heap.size + 1 + 1 + 1, 0, none⟩ (.int .i64 0)).setCell ⟨w.heap.size + 1 + 1 + 1, 1, none⟩ (.int .i64 0)) := (((((((HEW.out.trans HEQ.out).set (p := ⟨W5.heap.size, 0, none⟩) (show w.heap.size ≤ W5.heap.size by omega) (.int .i64 qa1)).set (p := ⟨W5.heap.size, 1, none⟩) (show w.heap.size ≤ W5.heap.size by omega) (.int .i64 qa2)).set (p := ⟨w.heap.size + 1 + 1, 0, none⟩) (show w.heap.size ≤ w.heap.size + 1 + 1 by omega) (.int .i64 0)).set (p := ⟨w.heap.size + 1 + 1, 1, none⟩) (show w.heap.size ≤ w.heap.size + 1 + 1 by omega) (.int .i64 0)).set (p := ⟨w.heap.size + 1 + 1 + 1, 0, none⟩) (show w.heap.size ≤ w.heap.size + 1 + 1 + 1 by omega) (.int .i64 0)).set (p := ⟨w.heap.size + 1 + 1 + 1, 1, none⟩) (show w.heap.size ≤ w.heap.size + 1 + 1 + 1 by omega) (.int .i64 0))
      generalize ((((((wq.setCell ⟨W5.heap.size, 0, none⟩ (.int .i64 qa1)).setCell ⟨W5.heap.size, 1, none⟩ (.int .i64 qa2)).setCell ⟨w.heap.size + 1 + 1, 0, none⟩ (.int .i64 0)).setCell ⟨w.heap.size + 1 + 1, 1, none⟩ (.int .i64 0)).setCell ⟨w.heap.size + 1 + 1 + 1, 0, none⟩ (.int .i64 0)).setCell ⟨w.heap.size + 1 + 1 + 1, 1, none⟩ (.int .i64 0)) = WF at *
      have n00 : WF.cell? ⟨w.heap.size + 1 + 1, 0, none⟩ = some (.int .i64 0) := World.news_of_block hx1 0 _ rfl
      have n01 : WF.cell? ⟨w.heap.size + 1 + 1, 1, none⟩ = some (.int .i64 0) := World.news_of_block hx1 1 _ rfl
      have n10 : WF.cell? ⟨w.heap.size + 1 + 1 + 1, 0, none⟩ = some (.int .i64 0) := World.news_of_block hx2 0 _ rfl
      have n11 : WF.cell? ⟨w.heap.size + 1 + 1 + 1, 1, none⟩ = some (.int .i64 0) := World.news_of_block hx2 1 _ rfl
      exact bodyPost_ret (v := .tuple #[.agg #[.int .i64 0, .int .i64 0], .agg #[.int .i64 0, .int .i64 0], .int .i64 qae]) (by simp [results, Tryz.results10, go_sem, n00, n01, n10, n11]) rfl ⟨rfl, eF⟩
end
end Go.Proofs.YtcbjecpfijogcaaGreat
