
/- Contract: Folded, by the reference. -/
import Derived.Test.YtcbjecpfijogcaaGreatCFoldB
import Derived.Test.YtcbjecpfijogcaaGreatCRJoint
import Derived.Test.YtcbjecpfijogcaaGreatHAppAll
namespace Go.Proofs.YtcbjecpfijogcaaGreat
open Go.RowKit Go.Shelf

section
variable {vu vp : Value} {v : CVeh} {lead : Pt} {ps : List Pt}
set_option maxRecDepth 100000 in
set_option maxHeartbeats 3200000 in
theorem RFolded_go (w : World) (hs : Sl 11 RUnit w vu v.units) (hp : Pts w vp ps) (h1 : poseE v lead ps = 0) :
    Calls Tryz.prog 13 #[vehV v vu, poseV lead vp] w fun e w' => e = .returned (.tuple #[.bool (foldL (putsN lead v.units ps)), .int .i64 0]) ∧ Ext w w' := by
  have CP := fun w' (h : Ext w w') => RCheckPose_c (lead := lead) w' (hs.ext RUnit.stable h) (hp.ext h)
  rw [h1] at CP
  have hpl := puts_len h1
  have hpb : poseB v.units lead ps = true := by
    cases hb : poseB v.units lead ps
    · rw [poseE_no hpl.2.1 hb] at h1; cases h1
    · rfl
  have CJ := fun w' (h : Ext w w') => joints_yes (lead := lead) w' (hs.ext RUnit.stable h) (hp.ext h) hpl.2.1 hpb
  have HOK := Lib.hid (puts_ok v.units ps lead (lead_ok h1))
  have hlen := vehE_len hpl.2.1
  obtain ⟨A, cap, rfl, hl, hl2⟩ := hs.shape
  obtain ⟨Ap, capp, rfl⟩ := pts_shape hp
  obtain ⟨B, hB⟩ : ∃ B, foldL (putsN lead v.units ps) = B := ⟨_, rfl⟩
  rw [hB]
  obtain ⟨m, hm⟩ : ∃ m, v.units.length = m + 1 := ⟨v.units.length - 1, by omega⟩
  obtain ⟨u0, hu0⟩ := some_of_lt (show 0 < (putsN lead v.units ps).length by omega)
  obtain ⟨pb, poff, rfl, p0, p1⟩ := pts_at hp (putsN_at _ _ _ _ _ hu0).2
  have HPP := Lib.hid (fun (k : Nat) (u : CPut) (hu : (putsN lead v.units ps)[k]? = some u) => (show w.cell? ⟨pb, poff + k * 2, none⟩ = some (.int .i64 u.axle.1) ∧ w.cell? ⟨pb, poff + k * 2 + 1, none⟩ = some (.int .i64 u.axle.2) by
    obtain ⟨pb', poff', e, q0, q1⟩ := pts_at hp (putsN_at _ _ _ _ _ hu).2
    simp only [Option.some.injEq, Addr.mk.injEq, and_true] at e
    obtain ⟨rfl, rfl⟩ := e
    exact ⟨q0, q1⟩))
  have hbp := lt_of_cell p0
  have HPL := Lib.hid hpl.1
  have HB := Lib.hid hB
  have HM := Lib.hid hm
  have HLN := Lib.hid hlen
  have hLn := hpl.1
  have hps := hpl.2.2
  obtain ⟨l1, l2⟩ := lead
  obtain ⟨L, hL⟩ : ∃ L, putsN (l1, l2) v.units ps = L := ⟨_, rfl⟩
  rw [hL] at CJ HOK HPP HPL HB hLn hu0
  obtain ⟨N, hN⟩ : ∃ N, v.units.length = N := ⟨_, rfl⟩
  obtain ⟨NP, hNP⟩ : ∃ NP, ps.length = NP := ⟨_, rfl⟩
  have HNP := Lib.hid (show NP = N by omega)
  rw [hN] at HPL HM HLN hLn
  rw [hLn] at CJ
  clear hs hp h1 hpl hpb hL hm hlen hu0 p0 p1 hB
  unfold vehV poseV at *
  simp only at CP CJ ⊢
  rw [hN] at CP CJ ⊢
  rw [hNP] at CP CJ ⊢
  replace CP := Lib.hid CP
  replace CJ := Lib.hid CJ
  clear hN hNP hps hLn
  go_enter Tryz.func13, Tryz.ntmps13
  go_wp2_with (first
    | (go_at_call 15; refine (CP.out _ (by (repeat' (first | exact Ext.refl _ | assumption | refine Ext.alloc ?_ _ | refine Ext.drew ?_ | refine Ext.drewN ?_ _ | refine Ext.set ?_ (by first | exact Nat.le_refl _ | exact le1 _ | exact le2 _ | exact le3 _ | exact le4 _ | exact le5 _ | exact le6 _) _ | refine Ext.trans ?_ (by assumption))))).mono ?_; rintro e w1 ⟨rfl, hb⟩; have E1 : Ext w w1 := (((Ext.refl w).alloc _).alloc _).trans hb; have y1 := Ext.cell hb (p := ⟨w.heap.size, 1, none⟩) (v := .slice A N cap) (by go_simp); have y0 := Ext.cell hb (p := ⟨w.heap.size, 0, none⟩) (v := .string v.name) (by go_simp); have y2 := Ext.cell hb (p := ⟨w.heap.size, 2, none⟩) (v := .int .i64 v.first) (by go_simp); have y3 := Ext.cell hb (p := ⟨w.heap.size, 3, none⟩) (v := .int .i64 v.last) (by go_simp); have t0 := Ext.cell hb (p := ⟨w.heap.size + 1, 0, none⟩) (v := .int .i64 l1) (by go_simp); have t1 := Ext.cell hb (p := ⟨w.heap.size + 1, 1, none⟩) (v := .int .i64 l2) (by go_simp); have t2 := Ext.cell hb (p := ⟨w.heap.size + 1, 2, none⟩) (v := .slice (some ⟨pb, poff, none⟩) NP capp) (by go_simp); clear hb)
    | (go_at_call 31; refine (CJ.out _ E1).mono ?_; rintro e w2 ⟨A3, c3, rfl, ho, hb⟩; have E2 := E1.trans hb; replace t2 := Ext.cell hb t2; replace y1 := Ext.cell hb y1; clear hb y0 y2 y3 t0 t1))
  have HO := Lib.hid ho
  clear ho
  have HY := Lib.hid (And.intro y1 t2)
  clear y1 t2
  have HE2 := Lib.hid E2
  clear E2 E1
  go_loopw [9] (fun i wr => ∃ k : Nat, k ≤ m ∧ i = .int .i64 k ∧ foldL (L.drop k) = B ∧ Ext w2 wr) (fun i _ => m - (intOf i).toNat)
  case atStart => exact ⟨0, by omega, rfl, HB.out, Ext.refl _⟩
  case round =>
    obtain ⟨k, hk, rfl, hfk, E⟩ := hrel
    have HFK := Lib.hid hfk
    clear hfk
    have ewk := IntWalk.i64_in ((k : Int) + 1) (by have := HLN.out; have := HM.out; omega)
    have y1r := E.cell HY.out.1
    have t2r := E.cell HY.out.2
    by_cases hlt : k < m
    case neg =>
      have hni : ¬ ((k : Int) + 1 < (N : Int)) := by have := HM.out; omega
      obtain rfl : B = false := by rw [← HFK.out]; exact foldL_end (by have := HPL.out; have := HM.out; omega)
      go_wp2_with fail
      go_ret2
      exact ⟨rfl, HE2.out.trans E⟩
    case pos =>
      obtain ⟨x, hx⟩ := some_of_lt (show k < L.length by have := HPL.out; have := HM.out; omega)
      obtain ⟨y, hy⟩ := some_of_lt (show k + 1 < L.length by have := HPL.out; have := HM.out; omega)
      have hokx := HOK.out _ (mem_of_some hx)
      have hoky := HOK.out _ (mem_of_some hy)
      have hst := foldL_step hx hy
      unfold foldD at hst
      obtain ⟨px0, px1⟩ := HPP.out k x hx
      obtain ⟨py0, py1⟩ := HPP.out (k + 1) y hy
      have ex := HE2.out.trans E
      replace px0 := ex.cell px0
      replace px1 := ex.cell px1
      replace py0 := ex.cell py0
      replace py1 := ex.cell py1
      have hjx : (L.map (·.joint))[k]? = some x.joint := putsN_joint hx
      have hjy : (L.map (·.joint))[k + 1]? = some y.joint := putsN_joint hy
      have ho := HO.out
      obtain ⟨g, c, ev, _, _, g0, g1⟩ := ho.at hjx
      simp only [Value.slice.injEq] at ev
      obtain ⟨rfl, -, rfl⟩ := ev
      obtain ⟨g', c', ev, _, _, g2, g3⟩ := ho.at hjy
      simp only [Value.slice.injEq, Option.some.injEq, Addr.mk.injEq, and_true] at ev
      obtain ⟨rfl, -⟩ := ev
      replace g0 := E.cell g0
      replace g1 := E.cell g1
      replace g2 := E.cell g2
      replace g3 := E.cell g3
      clear ho hjx hjy
      obtain ⟨xu, ⟨xj1, xj2⟩, ⟨xa1, xa2⟩⟩ := x
      obtain ⟨yu, ⟨yj1, yj2⟩, ⟨ya1, ya2⟩⟩ := y
      simp only at px0 px1 py0 py1 g0 g1 g2 g3 hst hokx hoky
      have bx := okPt_bd hokx.1
      have by' := okPt_bd hoky.1
      have cx := okPt_bd hokx.2
      have cy := okPt_bd hoky.2
      have m1 := Pl.mul_bd (a := xj1 - xa1) (b := yj1 - ya1) (A := 33554432) (B := 33554432) (by omega) (by omega) (by omega) (by omega)
      have m2 := Pl.mul_bd (a := xj2 - xa2) (b := yj2 - ya2) (A := 33554432) (B := 33554432) (by omega) (by omega) (by omega) (by omega)
      have d1 := IntWalk.i64_in (xj1 - xa1) (by omega)
      have d2 := IntWalk.i64_in (xj2 - xa2) (by omega)
      have d3 := IntWalk.i64_in (yj1 - ya1) (by omega)
      have d4 := IntWalk.i64_in (yj2 - ya2) (by omega)
      have ew1 := IntWalk.i64_in ((xj1 - xa1) * (yj1 - ya1)) (by omega)
      have ew2 := IntWalk.i64_in ((xj2 - xa2) * (yj2 - ya2)) (by omega)
      have ew3 := IntWalk.i64_in ((xj1 - xa1) * (yj1 - ya1) + (xj2 - xa2) * (yj2 - ya2)) (by omega)
      have i0 : (0 : Int) ≤ (k : Int) := by omega
      have i1 : (k : Int) < (N : Int) := by have := HM.out; omega
      have i2 : (k : Int) + 1 < (N : Int) := by have := HM.out; omega
      have i3 : (k : Int) < (NP : Int) := by have := HM.out; have := HNP.out; omega
      have i4 : (k : Int) + 1 < (NP : Int) := by have := HM.out; have := HNP.out; omega
      have i5 : (0 : Int) ≤ (k : Int) + 1 := by omega
      have HLT := Lib.hid hlt
      clear hx hy hokx hoky bx by' cx cy m1 m2 ex hlt hk
      obtain ⟨D1, hD1⟩ : ∃ D1, xj1 - xa1 = D1 := ⟨_, rfl⟩
      obtain ⟨D2, hD2⟩ : ∃ D2, xj2 - xa2 = D2 := ⟨_, rfl⟩
      obtain ⟨F1, hF1⟩ : ∃ F1, yj1 - ya1 = F1 := ⟨_, rfl⟩
      obtain ⟨F2, hF2⟩ : ∃ F2, yj2 - ya2 = F2 := ⟨_, rfl⟩
      rw [hD1] at hst d1 ew1 ew3
      rw [hD2] at hst d2 ew2 ew3
      rw [hF1] at hst d3 ew1 ew3
      rw [hF2] at hst d4 ew2 ew3
      rw [HFK.out] at hst
      clear HFK
      have hsub : xj1 - xa1 = D1 ∧ xj2 - xa2 = D2 ∧ yj1 - ya1 = F1 ∧ yj2 - ya2 = F2 := ⟨hD1, hD2, hF1, hF2⟩
      by_cases hneg : D1 * F1 + D2 * F2 < 0
      · obtain rfl : B = true := by rw [hst, decide_eq_true hneg]; rfl
        clear hst hsub
        go_upto_region 8 with fail
        (refine wp_region_ext (C := fun w' => Ext wr w') (by kernel_rfl) (by kernel_rfl) (by (repeat' (first | exact Ext.refl _ | assumption | refine Ext.alloc ?_ _ | refine Ext.drew ?_ | refine Ext.drewN ?_ _ | refine Ext.set ?_ (by first | exact Nat.le_refl _ | exact le1 _ | exact le2 _ | exact le3 _ | exact le4 _ | exact le5 _ | exact le6 _) _ | refine Ext.trans ?_ (by assumption)))) ?_; (repeat (with_reducible refine wpQuiet_step (fun K hK => ?_); go_simp; first | (refine hK _ ?_; clear hK K) | (apply Exists.intro; refine ⟨fun w' hC => ?_, hK _ ?_⟩; (focus first | with_reducible rfl | (have q0 := hC.cell g0; have q1 := hC.cell px0; have q2 := hC.cell t2r; go_simp; done) | (have q0 := hC.cell g0; have q1 := hC.cell px0; have q2 := hC.cell t2r; go_simp; exact ⟨rfl, rfl⟩) | (have q0 := hC.cell g0; have q1 := hC.cell px0; have q2 := hC.cell t2r; go_simp; with_reducible rfl)); clear hK K))); refine wpQuiet_nil ?_; intro wq hEq)
        replace g0 := hEq.cell g0
        replace g1 := hEq.cell g1
        replace g2 := hEq.cell g2
        replace g3 := hEq.cell g3
        replace px0 := hEq.cell px0
        replace px1 := hEq.cell px1
        replace py0 := hEq.cell py0
        replace py1 := hEq.cell py1
        replace t2r := hEq.cell t2r
        replace y1r := hEq.cell y1r
        have EV1 := hEq
        clear hEq
        generalize wq = V1 at *
        go_upto_region 9 with fail
        (refine wp_region_ext (C := fun w' => Ext V1 w') (by kernel_rfl) (by kernel_rfl) (by (repeat' (first | exact Ext.refl _ | assumption | refine Ext.alloc ?_ _ | refine Ext.drew ?_ | refine Ext.drewN ?_ _ | refine Ext.set ?_ (by first | exact Nat.le_refl _ | exact le1 _ | exact le2 _ | exact le3 _ | exact le4 _ | exact le5 _ | exact le6 _) _ | refine Ext.trans ?_ (by assumption)))) ?_; (repeat (with_reducible refine wpQuiet_step (fun K hK => ?_); go_simp; first | (refine hK _ ?_; clear hK K) | (apply Exists.intro; refine ⟨fun w' hC => ?_, hK _ ?_⟩; (focus first | with_reducible rfl | (have q0 := hC.cell g1; have q1 := hC.cell px1; have q2 := hC.cell t2r; go_simp; done) | (have q0 := hC.cell g1; have q1 := hC.cell px1; have q2 := hC.cell t2r; go_simp; exact ⟨rfl, rfl⟩) | (have q0 := hC.cell g1; have q1 := hC.cell px1; have q2 := hC.cell t2r; go_simp; with_reducible rfl)); clear hK K))); refine wpQuiet_nil ?_; intro wq hEq)
        replace g0 := hEq.cell g0
        replace g1 := hEq.cell g1
        replace g2 := hEq.cell g2
        replace g3 := hEq.cell g3
        replace px0 := hEq.cell px0
        replace px1 := hEq.cell px1
        replace py0 := hEq.cell py0
        replace py1 := hEq.cell py1
        replace t2r := hEq.cell t2r
        replace y1r := hEq.cell y1r
        have EV2 := hEq
        clear hEq
        generalize wq = V2 at *
        go_upto_region 10 with fail
        (refine wp_region_ext (C := fun w' => Ext V2 w') (by kernel_rfl) (by kernel_rfl) (by (repeat' (first | exact Ext.refl _ | assumption | refine Ext.alloc ?_ _ | refine Ext.drew ?_ | refine Ext.drewN ?_ _ | refine Ext.set ?_ (by first | exact Nat.le_refl _ | exact le1 _ | exact le2 _ | exact le3 _ | exact le4 _ | exact le5 _ | exact le6 _) _ | refine Ext.trans ?_ (by assumption)))) ?_; (repeat (with_reducible refine wpQuiet_step (fun K hK => ?_); go_simp; first | (refine hK _ ?_; clear hK K) | (apply Exists.intro; refine ⟨fun w' hC => ?_, hK _ ?_⟩; (focus first | with_reducible rfl | (have q0 := hC.cell g2; have q1 := hC.cell py0; have q2 := hC.cell t2r; go_simp; done) | (have q0 := hC.cell g2; have q1 := hC.cell py0; have q2 := hC.cell t2r; go_simp; exact ⟨rfl, rfl⟩) | (have q0 := hC.cell g2; have q1 := hC.cell py0; have q2 := hC.cell t2r; go_simp; with_reducible rfl)); clear hK K))); refine wpQuiet_nil ?_; intro wq hEq)
        replace g0 := hEq.cell g0
        replace g1 := hEq.cell g1
        replace g2 := hEq.cell g2
        replace g3 := hEq.cell g3
        replace px0 := hEq.cell px0
        replace px1 := hEq.cell px1
        replace py0 := hEq.cell py0
        replace py1 := hEq.cell py1
        replace t2r := hEq.cell t2r
        replace y1r := hEq.cell y1r
        have EV3 := hEq
        clear hEq
        generalize wq = V3 at *
        go_upto_region 11 with fail
        (refine wp_region_ext (C := fun w' => Ext V3 w') (by kernel_rfl) (by kernel_rfl) (by (repeat' (first | exact Ext.refl _ | assumption | refine Ext.alloc ?_ _ | refine Ext.drew ?_ | refine Ext.drewN ?_ _ | refine Ext.set ?_ (by first | exact Nat.le_refl _ | exact le1 _ | exact le2 _ | exact le3 _ | exact le4 _ | exact le5 _ | exact le6 _) _ | refine Ext.trans ?_ (by assumption)))) ?_; (repeat (with_reducible refine wpQuiet_step (fun K hK => ?_); go_simp; first | (refine hK _ ?_; clear hK K) | (apply Exists.intro; refine ⟨fun w' hC => ?_, hK _ ?_⟩; (focus first | with_reducible rfl | (have q0 := hC.cell g3; have q1 := hC.cell py1; have q2 := hC.cell t2r; go_simp; done) | (have q0 := hC.cell g3; have q1 := hC.cell py1; have q2 := hC.cell t2r; go_simp; exact ⟨rfl, rfl⟩) | (have q0 := hC.cell g3; have q1 := hC.cell py1; have q2 := hC.cell t2r; go_simp; with_reducible rfl)); clear hK K))); refine wpQuiet_nil ?_; intro wq hEq)
        replace g0 := hEq.cell g0
        replace g1 := hEq.cell g1
        replace g2 := hEq.cell g2
        replace g3 := hEq.cell g3
        replace px0 := hEq.cell px0
        replace px1 := hEq.cell px1
        replace py0 := hEq.cell py0
        replace py1 := hEq.cell py1
        replace t2r := hEq.cell t2r
        replace y1r := hEq.cell y1r
        have EV4 := hEq
        clear hEq
        generalize wq = V4 at *
        go_wp2_with fail
        go_ret2
        exact ⟨rfl, HE2.out.trans (E.trans (EV1.trans (EV2.trans (EV3.trans EV4))))⟩
      · rw [decide_eq_false hneg, Bool.false_or] at hst
        have HST := Lib.hid hst
        clear hst hsub
        go_upto_region 8 with fail
        (refine wp_region_ext (C := fun w' => Ext wr w') (by kernel_rfl) (by kernel_rfl) (by (repeat' (first | exact Ext.refl _ | assumption | refine Ext.alloc ?_ _ | refine Ext.drew ?_ | refine Ext.drewN ?_ _ | refine Ext.set ?_ (by first | exact Nat.le_refl _ | exact le1 _ | exact le2 _ | exact le3 _ | exact le4 _ | exact le5 _ | exact le6 _) _ | refine Ext.trans ?_ (by assumption)))) ?_; (repeat (with_reducible refine wpQuiet_step (fun K hK => ?_); go_simp; first | (refine hK _ ?_; clear hK K) | (apply Exists.intro; refine ⟨fun w' hC => ?_, hK _ ?_⟩; (focus first | with_reducible rfl | (have q0 := hC.cell g0; have q1 := hC.cell px0; have q2 := hC.cell t2r; go_simp; done) | (have q0 := hC.cell g0; have q1 := hC.cell px0; have q2 := hC.cell t2r; go_simp; exact ⟨rfl, rfl⟩) | (have q0 := hC.cell g0; have q1 := hC.cell px0; have q2 := hC.cell t2r; go_simp; with_reducible rfl)); clear hK K))); refine wpQuiet_nil ?_; intro wq hEq)
        replace g0 := hEq.cell g0
        replace g1 := hEq.cell g1
        replace g2 := hEq.cell g2
        replace g3 := hEq.cell g3
        replace px0 := hEq.cell px0
        replace px1 := hEq.cell px1
        replace py0 := hEq.cell py0
        replace py1 := hEq.cell py1
        replace t2r := hEq.cell t2r
        replace y1r := hEq.cell y1r
        have EV1 := hEq
        clear hEq
        generalize wq = V1 at *
        go_upto_region 9 with fail
        (refine wp_region_ext (C := fun w' => Ext V1 w') (by kernel_rfl) (by kernel_rfl) (by (repeat' (first | exact Ext.refl _ | assumption | refine Ext.alloc ?_ _ | refine Ext.drew ?_ | refine Ext.drewN ?_ _ | refine Ext.set ?_ (by first | exact Nat.le_refl _ | exact le1 _ | exact le2 _ | exact le3 _ | exact le4 _ | exact le5 _ | exact le6 _) _ | refine Ext.trans ?_ (by assumption)))) ?_; (repeat (with_reducible refine wpQuiet_step (fun K hK => ?_); go_simp; first | (refine hK _ ?_; clear hK K) | (apply Exists.intro; refine ⟨fun w' hC => ?_, hK _ ?_⟩; (focus first | with_reducible rfl | (have q0 := hC.cell g1; have q1 := hC.cell px1; have q2 := hC.cell t2r; go_simp; done) | (have q0 := hC.cell g1; have q1 := hC.cell px1; have q2 := hC.cell t2r; go_simp; exact ⟨rfl, rfl⟩) | (have q0 := hC.cell g1; have q1 := hC.cell px1; have q2 := hC.cell t2r; go_simp; with_reducible rfl)); clear hK K))); refine wpQuiet_nil ?_; intro wq hEq)
        replace g0 := hEq.cell g0
        replace g1 := hEq.cell g1
        replace g2 := hEq.cell g2
        replace g3 := hEq.cell g3
        replace px0 := hEq.cell px0
        replace px1 := hEq.cell px1
        replace py0 := hEq.cell py0
        replace py1 := hEq.cell py1
        replace t2r := hEq.cell t2r
        replace y1r := hEq.cell y1r
        have EV2 := hEq
        clear hEq
        generalize wq = V2 at *
        go_upto_region 10 with fail
        (refine wp_region_ext (C := fun w' => Ext V2 w') (by kernel_rfl) (by kernel_rfl) (by (repeat' (first | exact Ext.refl _ | assumption | refine Ext.alloc ?_ _ | refine Ext.drew ?_ | refine Ext.drewN ?_ _ | refine Ext.set ?_ (by first | exact Nat.le_refl _ | exact le1 _ | exact le2 _ | exact le3 _ | exact le4 _ | exact le5 _ | exact le6 _) _ | refine Ext.trans ?_ (by assumption)))) ?_; (repeat (with_reducible refine wpQuiet_step (fun K hK => ?_); go_simp; first | (refine hK _ ?_; clear hK K) | (apply Exists.intro; refine ⟨fun w' hC => ?_, hK _ ?_⟩; (focus first | with_reducible rfl | (have q0 := hC.cell g2; have q1 := hC.cell py0; have q2 := hC.cell t2r; go_simp; done) | (have q0 := hC.cell g2; have q1 := hC.cell py0; have q2 := hC.cell t2r; go_simp; exact ⟨rfl, rfl⟩) | (have q0 := hC.cell g2; have q1 := hC.cell py0; have q2 := hC.cell t2r; go_simp; with_reducible rfl)); clear hK K))); refine wpQuiet_nil ?_; intro wq hEq)
        replace g0 := hEq.cell g0
        replace g1 := hEq.cell g1
        replace g2 := hEq.cell g2
        replace g3 := hEq.cell g3
        replace px0 := hEq.cell px0
        replace px1 := hEq.cell px1
        replace py0 := hEq.cell py0
        replace py1 := hEq.cell py1
        replace t2r := hEq.cell t2r
        replace y1r := hEq.cell y1r
        have EV3 := hEq
        clear hEq
        generalize wq = V3 at *
        go_upto_region 11 with fail
        (refine wp_region_ext (C := fun w' => Ext V3 w') (by kernel_rfl) (by kernel_rfl) (by (repeat' (first | exact Ext.refl _ | assumption | refine Ext.alloc ?_ _ | refine Ext.drew ?_ | refine Ext.drewN ?_ _ | refine Ext.set ?_ (by first | exact Nat.le_refl _ | exact le1 _ | exact le2 _ | exact le3 _ | exact le4 _ | exact le5 _ | exact le6 _) _ | refine Ext.trans ?_ (by assumption)))) ?_; (repeat (with_reducible refine wpQuiet_step (fun K hK => ?_); go_simp; first | (refine hK _ ?_; clear hK K) | (apply Exists.intro; refine ⟨fun w' hC => ?_, hK _ ?_⟩; (focus first | with_reducible rfl | (have q0 := hC.cell g3; have q1 := hC.cell py1; have q2 := hC.cell t2r; go_simp; done) | (have q0 := hC.cell g3; have q1 := hC.cell py1; have q2 := hC.cell t2r; go_simp; exact ⟨rfl, rfl⟩) | (have q0 := hC.cell g3; have q1 := hC.cell py1; have q2 := hC.cell t2r; go_simp; with_reducible rfl)); clear hK K))); refine wpQuiet_nil ?_; intro wq hEq)
        replace g0 := hEq.cell g0
        replace g1 := hEq.cell g1
        replace g2 := hEq.cell g2
        replace g3 := hEq.cell g3
        replace px0 := hEq.cell px0
        replace px1 := hEq.cell px1
        replace py0 := hEq.cell py0
        replace py1 := hEq.cell py1
        replace t2r := hEq.cell t2r
        replace y1r := hEq.cell y1r
        have EV4 := hEq
        clear hEq
        generalize wq = V4 at *
        go_wp2_with fail
        go_roundw
        case rel => exact ⟨k + 1, HLT.out, by go_num, HST.out.symm, E.trans (EV1.trans (EV2.trans (EV3.trans EV4)))⟩
        case measure => have := HLT.out; simp [intOf]; omega
theorem RFolded_c (w : World) (hs : Sl 11 RUnit w vu v.units) (hp : Pts w vp ps) :
    Calls Tryz.prog 13 #[vehV v vu, poseV lead vp] w fun e w' => e = .returned (b2V (foldS v lead ps)) ∧ Ext w w' := by
  by_cases h1 : poseE v lead ps = 0
  · rw [foldS_ok h1]
    exact RFolded_go w hs hp h1
  · rw [foldS_bad h1]
    have CB := fun w' (h : Ext w w') => RCheckPose_c (lead := lead) w' (hs.ext RUnit.stable h) (hp.ext h)
    obtain ⟨A, cap, rfl, hl, hl2⟩ := hs.shape
    obtain ⟨Ap, capp, rfl⟩ := pts_shape hp
    obtain ⟨l1, l2⟩ := lead
    clear hs hp
    unfold vehV poseV b2V at *
    simp only at CB ⊢
    have HN := h1
    generalize poseE v (l1, l2) ps = E at *
    have C := Lib.hid CB
    clear CB h1
    go_enter Tryz.func13, Tryz.ntmps13
    go_wp2_with (go_at_call 15; refine (C.out _ (by (repeat' (first | exact Ext.refl _ | assumption | refine Ext.alloc ?_ _ | refine Ext.drew ?_ | refine Ext.drewN ?_ _ | refine Ext.set ?_ (by first | exact Nat.le_refl _ | exact le1 _ | exact le2 _ | exact le3 _ | exact le4 _ | exact le5 _ | exact le6 _) _ | refine Ext.trans ?_ (by assumption))))).mono ?_; rintro e w1 ⟨rfl, hb1⟩)
    go_ret2
    exact ⟨rfl, by (repeat' (first | exact Ext.refl _ | assumption | refine Ext.alloc ?_ _ | refine Ext.drew ?_ | refine Ext.drewN ?_ _ | refine Ext.set ?_ (by first | exact Nat.le_refl _ | exact le1 _ | exact le2 _ | exact le3 _ | exact le4 _ | exact le5 _ | exact le6 _) _ | refine Ext.trans ?_ (by assumption)))⟩
end
end Go.Proofs.YtcbjecpfijogcaaGreat
