
/- The law ChainCorners, walked. -/
import Derived.Test.YtcbjecpfijogcaaGreatCCornF
import Derived.Test.YtcbjecpfijogcaaGreatCBodyC
import Derived.Test.YtcbjecpfijogcaaGreatCPulled
import Derived.Test.YtcbjecpfijogcaaGreatCJoint2
import Derived.Test.YtcbjecpfijogcaaGreatCRPose
import Derived.Test.YtcbjecpfijogcaaGreatCStrC
import Derived.Test.YtcbjecpfijogcaaGreatCOpen
import Derived.Test.YtcbjecpfijogcaaGreatHHas
namespace Go.Proofs.YtcbjecpfijogcaaGreat
open Go.RowKit Go.Shelf

theorem distance3_c (a b : Int) (w : World) (h1 : -4000000000000000000 ≤ a) (h2 : a ≤ 4000000000000000000) (h3 : -4000000000000000000 ≤ b) (h4 : b ≤ 4000000000000000000) :
    Calls Tryz.prog 22 #[.int .i64 a, .int .i64 b] w fun e w' => e = .returned (.int .i64 (max (a - b) (b - a))) ∧ w = w' := by
  have e1 := IntWalk.i64_in (a - b) (by omega)
  have e2 := IntWalk.i64_in (b - a) (by omega)
  go_enter Tryz.func22, Tryz.ntmps22
  go_wp2
  go_ret
  exact ⟨rfl, rfl⟩
theorem distS_ok {a b : Pt} (h1 : okPt a = true) (h2 : okPt b = true) : distS a b = (farS a b, 0) := by simp [distS, h1, h2]
theorem farS_bd {a b : Pt} (h1 : okPt a = true) (h2 : okPt b = true) : 0 ≤ farS a b ∧ farS a b ≤ 67108864 := by
  obtain ⟨ax, ay⟩ := a
  obtain ⟨bx, by'⟩ := b
  obtain ⟨a1, a2, a3, a4⟩ := okPt_bd h1
  obtain ⟨a5, a6, a7, a8⟩ := okPt_bd h2
  obtain ⟨c1, c2, c3, c4⟩ := dist_bd (u := bx - ax) (v := by' - ay) (by omega) (by omega) (by omega) (by omega)
  exact ⟨Pl.isqrt_nonneg _, Pl.isqrt_le_of (by simp only; omega) (by omega) (by simp only; omega)⟩
theorem farS_symm (a b : Pt) : farS a b = farS b a := by unfold farS; congr 1; grind
theorem ok_midC {p : HPt} (h : okPt p = true) : midB p := by
  simp only [okPt, inB, Bool.and_eq_true, decide_eq_true_eq] at h
  unfold midB
  omega
theorem corners_lenC (l : List HPt) : (cornersP l).length ≤ 2 * l.length := by
  have h0 := sort_len l
  unfold cornersP
  split
  · omega
  · have h1 := side_len (sortP l)
    have h2 := side_len (sortP l).reverse
    rw [List.length_reverse] at h2
    rw [List.length_append, List.length_dropLast, List.length_dropLast]
    omega
section
variable {vu vp : Value} {v : CVeh} {lead : Pt} {ps : List Pt}
set_option maxRecDepth 100000 in
set_option maxHeartbeats 3200000 in
theorem corn_no (i x y : Int) (w : World) (hs : Sl 11 RUnit w vu v.units) (hp : Pts w vp ps) (h : (longB v = false ∧ vehE v = 0) = False ∨ (30 : Int) < ps.length ∨ ¬ poseE v lead ps = 0) :
    Calls Tryz.prog 4 #[vehV v vu, poseV lead vp, .int .u8 i, .int .u16 x, .int .u16 y] w fun e w' => e = .returned (.bool true) ∧ Ext w w' := by
  have CV := fun w' (h : Ext w w') => lvalid_c w' (hs.ext RUnit.stable h)
  have CP := fun w' (h : Ext w w') => RCheckPose_c (lead := lead) w' (hs.ext RUnit.stable h) (hp.ext h)
  have CW := Lib.hid (fun w => cworks_c w)
  obtain ⟨A, cap, rfl, hl, hl2⟩ := hs.shape
  obtain ⟨Ap, capp, rfl⟩ := pts_shape hp
  obtain ⟨p1, p2⟩ := lead
  unfold vehV poseV at *
  simp only at CP ⊢
  obtain ⟨B, hB⟩ : ∃ B, (!longB v && decide (vehE v = 0)) = B := ⟨_, rfl⟩
  rw [hB] at CV
  obtain ⟨E, hE⟩ : ∃ E, poseE v (p1, p2) ps = E := ⟨_, rfl⟩
  rw [hE] at CP h
  have cs : B = false ∨ (B = true ∧ (30 : Int) < ps.length) ∨ (B = true ∧ ¬ (30 : Int) < ps.length ∧ (E != 0) = true) := by
    cases B
    · exact .inl rfl
    · by_cases h2 : (30 : Int) < ps.length
      · exact .inr (.inl ⟨rfl, h2⟩)
      · refine .inr (.inr ⟨rfl, h2, ?_⟩)
        rcases h with h | h | h
        · exfalso
          simp only [Bool.and_eq_true, Bool.not_eq_true', decide_eq_true_eq] at hB
          rw [h] at hB
          exact hB
        · exact absurd h h2
        · simpa using h
  replace CV := Lib.hid CV
  replace CP := Lib.hid CP
  clear hs hp h hB hE
  rcases cs with rfl | ⟨rfl, h2⟩ | ⟨rfl, h2, h3⟩
  all_goals
    go_enter Tryz.func4, Tryz.ntmps4
    go_wp2_with (first
      | (go_at_call 14; refine (CV.out _ (by (repeat' (first | exact Ext.refl _ | assumption | refine Ext.alloc ?_ _ | refine Ext.drew ?_ | refine Ext.drewN ?_ _ | refine Ext.set ?_ (by first | exact Nat.le_refl _ | exact le1 _ | exact le2 _ | exact le3 _ | exact le4 _ | exact le5 _ | exact le6 _) _ | refine Ext.trans ?_ (by assumption))))).mono ?_; rintro e w1 ⟨rfl, hb1⟩; have y0 := Ext.cell hb1 (p := ⟨w.heap.size, 0, none⟩) (v := .string v.name) (by go_simp); have y1 := Ext.cell hb1 (p := ⟨w.heap.size, 1, none⟩) (v := .slice A v.units.length cap) (by go_simp); have y2 := Ext.cell hb1 (p := ⟨w.heap.size, 2, none⟩) (v := .int .i64 v.first) (by go_simp); have y3 := Ext.cell hb1 (p := ⟨w.heap.size, 3, none⟩) (v := .int .i64 v.last) (by go_simp); have t0 := Ext.cell hb1 (p := ⟨w.heap.size + 1, 0, none⟩) (v := .int .i64 p1) (by go_simp); have t1 := Ext.cell hb1 (p := ⟨w.heap.size + 1, 1, none⟩) (v := .int .i64 p2) (by go_simp); have t2 := Ext.cell hb1 (p := ⟨w.heap.size + 1, 2, none⟩) (v := .slice Ap ps.length capp) (by go_simp); have lwhb1 := lt_of_cell t0; have lyhb1 := lt_of_cell y0)
      | (go_at_call 15; refine (CP.out _ (by (repeat' (first | exact Ext.refl _ | assumption | refine Ext.alloc ?_ _ | refine Ext.drew ?_ | refine Ext.drewN ?_ _ | refine Ext.set ?_ (by first | exact Nat.le_refl _ | exact le1 _ | exact le2 _ | exact le3 _ | exact le4 _ | exact le5 _ | exact le6 _) _ | refine Ext.trans ?_ (by assumption))))).mono ?_; rintro e w2 ⟨rfl, hb2⟩)
      | (go_at_call 6; refine (CW.out _).mono ?_; rintro e w3 ⟨rfl, hb3⟩))
    go_ret
    exact ⟨rfl, by (repeat' (first | exact Ext.refl _ | assumption | refine Ext.alloc ?_ _ | refine Ext.drew ?_ | refine Ext.drewN ?_ _ | refine Ext.set ?_ (by first | exact Nat.le_refl _ | exact le1 _ | exact le2 _ | exact le3 _ | exact le4 _ | exact le5 _ | exact le6 _) _ | refine Ext.trans ?_ (by assumption)))⟩
set_option maxRecDepth 100000 in
set_option maxHeartbeats 12800000 in
theorem corn_yes (i x y : Nat) (w : World) (hs : Sl 11 RUnit w vu v.units) (hp : Pts w vp ps) (hL : longB v = false) (hV : vehE v = 0) (hP : ¬ (30 : Int) < ps.length) (hE : poseE v lead ps = 0) (hi : i ≤ 255) (hx : x ≤ 65535) (hy : y ≤ 65535) :
    Calls Tryz.prog 4 #[vehV v vu, poseV lead vp, .int .u8 i, .int .u16 x, .int .u16 y] w fun e w' => e = .returned (.bool true) ∧ Ext w w' := by
  have CV := fun w' (h : Ext w w') => lvalid_c w' (hs.ext RUnit.stable h)
  have CP := fun w' (h : Ext w w') => RCheckPose_c (lead := lead) w' (hs.ext RUnit.stable h) (hp.ext h)
  rw [hE] at CP
  rw [hL, hV] at CV
  have hn := vehE_len hV
  obtain ⟨k, hk⟩ : ∃ k, i % v.units.length = k := ⟨_, rfl⟩
  have hkl : k < v.units.length := by rw [← hk]; exact Nat.mod_lt _ (by omega)
  have hpl := puts_len hE
  obtain ⟨c, hc⟩ : ∃ c, (putsN lead v.units ps)[k]? = some c := ⟨_, List.getElem?_eq_getElem (by rw [hpl.1]; exact hkl)⟩
  have H := cornF_of hE hc
  obtain ⟨hcu, hca⟩ := putsN_at _ _ _ _ _ hc
  have CB := fun w' (h : Ext w w') => Body_c (lead := lead) (k : Int) w' (hs.ext RUnit.stable h) (hp.ext h)
  have CU := fun w' (h : Ext w w') => Pulled_ok k w' (hs.ext RUnit.stable h) hV hcu
  have CL := fun X Y w' (h : Ext w w') => CPlace_c (lead := lead) (k : Int) X Y w' (hs.ext RUnit.stable h) (hp.ext h)
  have CJ := fun w' (h : Ext w w') => CJoint_c (lead := lead) (k : Int) w' (hs.ext RUnit.stable h) (hp.ext h)
  rw [jointS_in hE hkl hc] at CJ
  have hbs : bodyS v lead ps (k : Int) = (if firstE (bodyR c) = 0 then cornersP ((bodyR c).map (·.1)) else [], firstE (bodyR c)) := by
    unfold bodyS
    rw [if_pos (oneE_ok hE (by omega)), show ((k : Int)).toNat = k by omega, hc]
  rw [hbs] at CB
  obtain ⟨BL, hBL⟩ : ∃ BL, (if firstE (bodyR c) = 0 then cornersP ((bodyR c).map (·.1)) else []) = BL := ⟨_, rfl⟩
  obtain ⟨BE, hBE⟩ : ∃ BE, firstE (bodyR c) = BE := ⟨_, rfl⟩
  rw [hBL, hBE] at CB
  have hpa : ∀ X Y, placeAtS v lead ps (k : Int) X Y = placeS c.axle c.joint X Y := by
    intro X Y
    unfold placeAtS
    rw [if_pos (oneE_ok hE (by omega)), show ((k : Int)).toNat = k by omega, hc]
  simp only [hpa] at CL
  have CW := Lib.hid (fun w => cworks_c w)
  have hN0 : ¬ v.units = [] := by intro e; rw [e] at hkl; simp at hkl
  have hrem : Int.tmod (i : Int) (v.units.length : Int) = (k : Int) := by rw [← hk]; norm_cast
  obtain ⟨A, cap, rfl, hl, hl2⟩ := hs.shape
  have hu := hs.at hcu
  obtain ⟨b, off, csu, rfl, _, ⟨vx, rfl, hax⟩, hcs⟩ := hu
  obtain ⟨AX, capx, rfl, _, _⟩ := hax.shape
  have k0 := hcs 0 _ rfl
  have k1 := hcs 1 _ rfl
  have k2 := hcs 2 _ rfl
  have k3 := hcs 3 _ rfl
  have k4 := hcs 4 _ rfl
  have k5 := hcs 5 _ rfl
  have k6 := hcs 6 _ rfl
  have k7 := hcs 7 _ rfl
  have k8 := hcs 8 _ rfl
  have k9 := hcs 9 _ rfl
  have k10 := hcs 10 _ rfl
  simp only [Nat.add_zero] at k0
  have HKS := Lib.hid (And.intro k0 (And.intro k1 (And.intro k2 (And.intro k3 (And.intro k4 (And.intro k5 (And.intro k6 (And.intro k7 (And.intro k8 (And.intro k9 k10))))))))))
  obtain ⟨Ap, capp, rfl⟩ := pts_shape hp
  obtain ⟨bx, ox, rfl, xx0, xx1⟩ := pts_atH hp rfl hca
  have HX := Lib.hid (And.intro xx0 xx1)
  have q3 : (k : Int) < (ps.length : Int) := by have h9 := hpl.2.2; omega
  clear xx0 xx1
  obtain ⟨p1, p2⟩ := lead
  unfold vehV poseV at *
  simp only at CP CV CB CU CL CJ ⊢
  have q1 : (0 : Int) ≤ (k : Int) := by omega
  have q2 : (k : Int) < (v.units.length : Int) := by omega
  have e1 := IntWalk.i64_in (i : Int) (by omega)
  have e2 := IntWalk.i64_in (k : Int) (by omega)
  replace CV := Lib.hid CV
  replace CP := Lib.hid CP
  replace CB := Lib.hid CB
  replace CU := Lib.hid CU
  replace CL := Lib.hid CL
  replace CJ := Lib.hid CJ
  have HH := Lib.hid H
  have HB := Lib.hid (And.intro hBL hBE)
  have hrg := H.rng
  clear hax hs hp hcs k0 k1 k2 k3 k4 k5 k6 k7 k8 k9 k10 hbs hpa hBL hBE hc hcu hca H hk hn hpl hL hV hE hl hl2
  obtain ⟨u, hU⟩ : ∃ u, c.unit = u := ⟨_, rfl⟩
  rw [hU] at HKS CU hrg
  have HU := Lib.hid hU
  clear hU
  have lb := Lib.hid (lt_of_cell HKS.out.1)
  go_enter Tryz.func4, Tryz.ntmps4
  have EW : Ext w ((w.alloc (.cells #[.string v.name, .slice (some ⟨b, off, none⟩) v.units.length cap, .int .i64 v.first, .int .i64 v.last] 24)).alloc (.cells #[.int .i64 p1, .int .i64 p2, .slice (some ⟨bx, ox, none⟩) ps.length capp] 29)) := ((Ext.refl w).alloc _).alloc _
  go_upto_region 4 with (first
    | (go_at_call 14; refine (CV.out _ (by (repeat' (first | exact Ext.refl _ | assumption | refine Ext.alloc ?_ _ | refine Ext.drew ?_ | refine Ext.drewN ?_ _ | refine Ext.set ?_ (by first | exact Nat.le_refl _ | exact le1 _ | exact le2 _ | exact le3 _ | exact le4 _ | exact le5 _ | exact le6 _) _ | refine Ext.trans ?_ (by assumption))))).mono ?_; rintro e w1 ⟨rfl, hb1⟩; have y0 := Ext.cell hb1 (p := ⟨w.heap.size, 0, none⟩) (v := .string v.name) (by go_simp); have y1 := Ext.cell hb1 (p := ⟨w.heap.size, 1, none⟩) (v := .slice (some ⟨b, off, none⟩) v.units.length cap) (by go_simp); have y2 := Ext.cell hb1 (p := ⟨w.heap.size, 2, none⟩) (v := .int .i64 v.first) (by go_simp); have y3 := Ext.cell hb1 (p := ⟨w.heap.size, 3, none⟩) (v := .int .i64 v.last) (by go_simp); have t0 := Ext.cell hb1 (p := ⟨w.heap.size + 1, 0, none⟩) (v := .int .i64 p1) (by go_simp); have t1 := Ext.cell hb1 (p := ⟨w.heap.size + 1, 1, none⟩) (v := .int .i64 p2) (by go_simp); have t2 := Ext.cell hb1 (p := ⟨w.heap.size + 1, 2, none⟩) (v := .slice (some ⟨bx, ox, none⟩) ps.length capp) (by go_simp); have lwhb1 := lt_of_cell t0; have lyhb1 := lt_of_cell y0)
    | (go_at_call 15; refine (CP.out _ (by (repeat' (first | exact Ext.refl _ | assumption | refine Ext.alloc ?_ _ | refine Ext.drew ?_ | refine Ext.drewN ?_ _ | refine Ext.set ?_ (by first | exact Nat.le_refl _ | exact le1 _ | exact le2 _ | exact le3 _ | exact le4 _ | exact le5 _ | exact le6 _) _ | refine Ext.trans ?_ (by assumption))))).mono ?_; rintro e w2 ⟨rfl, hb2⟩; replace y0 := Ext.cell hb2 (p := ⟨w.heap.size, 0, none⟩) (v := .string v.name) (by go_simp); replace y1 := Ext.cell hb2 (p := ⟨w.heap.size, 1, none⟩) (v := .slice (some ⟨b, off, none⟩) v.units.length cap) (by go_simp); replace y2 := Ext.cell hb2 (p := ⟨w.heap.size, 2, none⟩) (v := .int .i64 v.first) (by go_simp); replace y3 := Ext.cell hb2 (p := ⟨w.heap.size, 3, none⟩) (v := .int .i64 v.last) (by go_simp); replace t0 := Ext.cell hb2 (p := ⟨w.heap.size + 1, 0, none⟩) (v := .int .i64 p1) (by go_simp); replace t1 := Ext.cell hb2 (p := ⟨w.heap.size + 1, 1, none⟩) (v := .int .i64 p2) (by go_simp); replace t2 := Ext.cell hb2 (p := ⟨w.heap.size + 1, 2, none⟩) (v := .slice (some ⟨bx, ox, none⟩) ps.length capp) (by go_simp); have lwhb2 := lt_of_cell t0; have lyhb2 := lt_of_cell y0))
  have E2 : Ext ((w.alloc (.cells #[.string v.name, .slice (some ⟨b, off, none⟩) v.units.length cap, .int .i64 v.first, .int .i64 v.last] 24)).alloc (.cells #[.int .i64 p1, .int .i64 p2, .slice (some ⟨bx, ox, none⟩) ps.length capp] 29)) w2 := by (repeat' (first | exact Ext.refl _ | assumption | refine Ext.alloc ?_ _ | refine Ext.drew ?_ | refine Ext.drewN ?_ _ | refine Ext.set ?_ (by first | exact Nat.le_refl _ | exact le1 _ | exact le2 _ | exact le3 _ | exact le4 _ | exact le5 _ | exact le6 _) _ | refine Ext.trans ?_ (by assumption)))
  have HE2 := Lib.hid (EW.trans E2)
  obtain ⟨k0, k1, k2, k3, k4, k5, k6, k7, k8, k9, k10⟩ := HKS.out
  replace k0 := HE2.out.cell k0
  replace k1 := HE2.out.cell k1
  replace k2 := HE2.out.cell k2
  replace k3 := HE2.out.cell k3
  replace k4 := HE2.out.cell k4
  replace k5 := HE2.out.cell k5
  replace k6 := HE2.out.cell k6
  replace k7 := HE2.out.cell k7
  replace k8 := HE2.out.cell k8
  replace k9 := HE2.out.cell k9
  replace k10 := HE2.out.cell k10
  clear hb1 hb2 E2 EW
  go_upto_region 5 with fail
  have EA : Ext w2 (w2.alloc (.cells #[.int .i64 u.kind, .int .i64 u.length, .int .i64 u.behind, .int .i64 u.front, .int .i64 u.rear, .int .i64 u.width, .int .i64 u.height, .int .i64 u.mass, .int .i64 u.steer, .int .i64 u.most, .slice AX u.axles.length capx] 45)) := (Ext.refl w2).alloc _
  have hUb := World.alloc_heap_new w2 (.cells #[.int .i64 u.kind, .int .i64 u.length, .int .i64 u.behind, .int .i64 u.front, .int .i64 u.rear, .int .i64 u.width, .int .i64 u.height, .int .i64 u.mass, .int .i64 u.steer, .int .i64 u.most, .slice AX u.axles.length capx] 45)
  replace y0 := EA.cell y0
  replace y1 := EA.cell y1
  replace y2 := EA.cell y2
  replace y3 := EA.cell y3
  replace t0 := EA.cell t0
  replace t1 := EA.cell t1
  replace t2 := EA.cell t2
  have HEA := Lib.hid (HE2.out.trans EA)
  have HUB := Lib.hid hUb
  have lwA := lt_of_cell t0
  have lyA := lt_of_cell y0
  have lbu := (Array.getElem?_eq_some_iff.1 hUb).1
  clear k0 k1 k2 k3 k4 k5 k6 k7 k8 k9 k10 lwhb1 lwhb2 lyhb1 lyhb2 hUb HE2
  generalize (w2.alloc (.cells #[.int .i64 u.kind, .int .i64 u.length, .int .i64 u.behind, .int .i64 u.front, .int .i64 u.rear, .int .i64 u.width, .int .i64 u.height, .int .i64 u.mass, .int .i64 u.steer, .int .i64 u.most, .slice AX u.axles.length capx] 45)) = WA at *
  generalize w2.heap.size = bu at *
  have herr := HH.out.err
  rw [HB.out.2] at herr
  rcases herr with rfl | rfl
  rotate_left
  · clear HH HU CL CJ CU CP CV HKS HX
    go_wp2_with (first
      | (go_at_call 7; refine (CB.out _ HEA.out).mono ?_; rintro e w3 ⟨v3, rfl, hp3, hb3⟩; obtain ⟨A3, c3, rfl⟩ := pts_shape hp3; replace hp3 := Lib.hid hp3; clear CB)
      | (go_at_call 6; refine (CW.out _).mono ?_; rintro e w4 ⟨rfl, hb4⟩))
    go_ret
    exact ⟨rfl, HEA.out.trans (hb3.trans hb4)⟩
  · have h0 := HB.out.2
    have hbl : BL = cornersP ((bodyR c).map (·.1)) := by rw [← HB.out.1, if_pos h0]
    obtain ⟨r1, r2, r3, r4, r5⟩ := hrg
    obtain ⟨PU, hPU⟩ : ∃ PU, pulledN u = PU := ⟨_, rfl⟩
    rw [hPU] at CU r5
    obtain ⟨F, hF⟩ : ∃ F, PU + u.front = F := ⟨_, rfl⟩
    obtain ⟨G, hG⟩ : ∃ G, PU - u.length = G := ⟨_, rfl⟩
    obtain ⟨B, hB⟩ : ∃ B, G - u.rear = B := ⟨_, rfl⟩
    obtain ⟨L, hL⟩ : ∃ L, F - B = L := ⟨_, rfl⟩
    obtain ⟨M1, hM1⟩ : ∃ M, L * (x : Int) = M := ⟨_, rfl⟩
    obtain ⟨T1, hT1⟩ : ∃ T, Int.tdiv M1 65535 = T := ⟨_, rfl⟩
    obtain ⟨AT, hAT⟩ : ∃ T, B + T1 = T := ⟨_, rfl⟩
    obtain ⟨W2, hW2⟩ : ∃ T, 2 * u.width = T := ⟨_, rfl⟩
    obtain ⟨M2, hM2⟩ : ∃ M, W2 * (y : Int) = M := ⟨_, rfl⟩
    obtain ⟨T2, hT2⟩ : ∃ T, Int.tdiv M2 65535 = T := ⟨_, rfl⟩
    obtain ⟨SD, hSD⟩ : ∃ T, -u.width + T2 = T := ⟨_, rfl⟩
    have hLL : 0 ≤ L ∧ L ≤ 393216 := by omega
    have hM1b : 0 ≤ M1 ∧ M1 ≤ L * 65535 := by
      rw [← hM1]
      exact ⟨Int.mul_nonneg hLL.1 (by omega), Int.mul_le_mul_of_nonneg_left (by omega) hLL.1⟩
    have hM2b : 0 ≤ M2 ∧ M2 ≤ W2 * 65535 := by
      rw [← hM2]
      exact ⟨Int.mul_nonneg (by omega) (by omega), Int.mul_le_mul_of_nonneg_left (by omega) (by omega)⟩
    have hT1b : 0 ≤ T1 ∧ T1 ≤ L := by
      rw [Int.tdiv_eq_ediv_of_nonneg hM1b.1] at hT1
      omega
    have hT2b : 0 ≤ T2 ∧ T2 ≤ W2 := by
      rw [Int.tdiv_eq_ediv_of_nonneg hM2b.1] at hT2
      omega
    have hat : pulledN c.unit - c.unit.length - c.unit.rear ≤ AT ∧ AT ≤ pulledN c.unit + c.unit.front := by rw [HU.out, hPU]; omega
    have hsd : -c.unit.width ≤ SD ∧ SD ≤ c.unit.width := by rw [HU.out]; omega
    obtain ⟨hp1, hp2, hp3⟩ := HH.out.inside h0 hat hsd
    rw [← hbl] at hp3
    have CLq := CL.out AT SD
    rw [hp1] at CLq
    have hpF := fun Y hY => HH.out.inside h0 (x := F) (y := Y) (by rw [HU.out, hPU]; omega) hY
    have hpB := HH.out.inside h0 (x := B) (y := u.width) (by rw [HU.out, hPU]; omega) (by rw [HU.out]; omega)
    have hpF1 := hpF u.width (by rw [HU.out]; omega)
    have hpF2 := hpF (-u.width) (by rw [HU.out]; omega)
    have CLa := CL.out F u.width
    have CLc := CL.out F (-u.width)
    have CLh := CL.out B u.width
    rw [hpF1.1] at CLa
    rw [hpF2.1] at CLc
    rw [hpB.1] at CLh
    have hwd := fun hd => HH.out.wide (x := F) hd
    have hlg := fun hd => HH.out.long (x := F) (y := B) (W := u.width) (by omega) hd
    rw [HU.out] at hwd
    have oq := hp2
    have oa := hpF1.2.1
    have oc := hpF2.2.1
    have oh := hpB.2.1
    generalize putP c.axle c.joint AT SD = q at *
    generalize putP c.axle c.joint F u.width = pa at *
    generalize putP c.axle c.joint F (-u.width) = pc at *
    generalize putP c.axle c.joint B u.width = ph at *
    obtain ⟨qa, qb⟩ := q
    obtain ⟨a1, a2⟩ := pa
    obtain ⟨c1, c2⟩ := pc
    obtain ⟨h1, h2⟩ := ph
    unfold ptV at CLq CLa CLc CLh
    simp only at CLq CLa CLc CLh
    have hbo : ∀ p ∈ BL, okPt p = true := by
      rw [hbl]
      intro p hp
      exact body_ok h0 p ((sort_sub_corners hp))
    have hbl4 : BL.length ≤ 8 := by
      rw [hbl]
      have h9 := corners_lenC ((bodyR c).map (·.1))
      rw [List.length_map] at h9
      unfold bodyR at h9
      simp only [List.length_cons, List.length_nil] at h9 ⊢
      unfold bodyR
      omega
    have hgw := grow_wide (t := 1) (by omega) (fun p hp => ok_midC (hbo p hp))
    have hgl : (cornersP (growP 1 BL)).length ≤ 64 := by
      have h9 := corners_lenC (growP 1 BL)
      rw [grow_len] at h9
      omega
    have GC := Lib.hid (fun v' W (hv : Pts W v' BL) => Grown_c 1 v' BL W hv (by omega) (fun p hp => ok_midC (hbo p hp)) (by omega))
    have HC := fun v' W (hv : Pts W v' (cornersP (growP 1 BL))) => Has_c v' (cornersP (growP 1 BL)) qa qb W hv (fun p hp => hgw p (sort_sub_corners hp)) (okPt_wideB oq) (by omega)
    rw [decide_eq_true hp3] at HC
    replace HC := Lib.hid HC
    obtain ⟨D, hD⟩ : ∃ D, farS c.axle c.joint = D := ⟨_, rfl⟩
    have hDb := farS_bd HH.out.oa HH.out.oj
    rw [hD] at hwd hlg hDb
    obtain ⟨⟨j1, j2⟩, hcj⟩ : ∃ z, c.joint = z := ⟨_, rfl⟩
    obtain ⟨⟨x1, x2⟩, hcx⟩ : ∃ z, c.axle = z := ⟨_, rfl⟩
    have DC := fun W => Distance_c j1 j2 x1 x2 W
    rw [distS_ok (by rw [← hcj]; exact HH.out.oj) (by rw [← hcx]; exact HH.out.oa), farS_symm, ← hcj, ← hcx, hD] at DC
    rw [hcj] at CJ
    rw [hcx] at HX
    simp only at HX
    unfold i2V at DC
    unfold ptV at CJ
    simp only at DC CJ
    have FA := Lib.hid (fun W => Far_c a1 a2 c1 c2 W oa oc)
    have FB := Lib.hid (fun W => Far_c a1 a2 h1 h2 W oa oh)
    have bA := farS_bd oa oc
    have bB := farS_bd oa oh
    generalize farS (a1, a2) (c1, c2) = D1 at *
    generalize farS (a1, a2) (h1, h2) = D2 at *
    replace DC := Lib.hid DC
    replace CLq := Lib.hid CLq
    replace CLa := Lib.hid CLa
    replace CLc := Lib.hid CLc
    replace CLh := Lib.hid CLh
    replace hwd := Lib.hid hwd
    replace hlg := Lib.hid hlg
    have i1 : IntKind.i64.wrap (PU + u.front) = F := by rw [hF]; exact IntWalk.i64_in F (by omega)
    have i2 : IntKind.i64.wrap (PU - u.length) = G := by rw [hG]; exact IntWalk.i64_in G (by omega)
    have i3 : IntKind.i64.wrap (G - u.rear) = B := by rw [hB]; exact IntWalk.i64_in B (by omega)
    have i4 : IntKind.i64.wrap (F - B) = L := by rw [hL]; exact IntWalk.i64_in L (by omega)
    have i5 : IntKind.i64.wrap (L * (x : Int)) = M1 := by rw [hM1]; exact IntWalk.i64_in M1 (by omega)
    have i6 := IntWalk.i64_in T1 (by omega)
    have i7 : IntKind.i64.wrap (B + T1) = AT := by rw [hAT]; exact IntWalk.i64_in AT (by omega)
    have i8 := IntWalk.i64_in (-u.width) (by omega)
    have i9 : IntKind.i64.wrap (2 * u.width) = W2 := by rw [hW2]; exact IntWalk.i64_in W2 (by omega)
    have i10 : IntKind.i64.wrap (W2 * (y : Int)) = M2 := by rw [hM2]; exact IntWalk.i64_in M2 (by omega)
    have i11 := IntWalk.i64_in T2 (by omega)
    have i12 : IntKind.i64.wrap (-u.width + T2) = SD := by rw [hSD]; exact IntWalk.i64_in SD (by omega)
    have i13 := IntWalk.i64_in (x : Int) (by omega)
    have i14 := IntWalk.i64_in (y : Int) (by omega)
    have i15 := IntWalk.i64_in (16 * D) (by omega)
    obtain ⟨X1, hX1⟩ : ∃ X, u.front + u.length = X := ⟨_, rfl⟩
    have i16 : IntKind.i64.wrap (u.front + u.length) = X1 := by rw [hX1]; exact IntWalk.i64_in X1 (by omega)
    have i17 : IntKind.i64.wrap (X1 + u.rear) = L := by rw [show X1 + u.rear = L by omega]; exact IntWalk.i64_in L (by omega)
    have HLB := Lib.hid (show F - B = L from hL)
    have hww : 0 ≤ u.width := r3.1
    have hL4 := hLL
    have HR := Lib.hid (And.intro r1 (And.intro r2 (And.intro r3 (And.intro r4 r5))))
    have HW2 := Lib.hid hW2
    have hTd1 : Int.tdiv M1 65535 = T1 := hT1
    have hTd2 : Int.tdiv M2 65535 = T2 := hT2
    clear hX1 hF hG hB hL hM1 hT1 hAT hW2 hM2 hT2 hSD hM1b hM2b hT1b hT2b hat hsd hp1 hp2 hp3 hpF hpF1 hpF2 hpB oq oa oc oh hbo hbl hbl4 hgw hgl hD hcj hcx hPU CL h0 r1 r2 r3 r4 r5
    go_upto_region 9 with (first
      | (go_at_call 7; refine (CB.out _ HEA.out).mono ?_; rintro e w3 ⟨v3, rfl, hp3, hb3⟩; obtain ⟨A3, c3, rfl⟩ := pts_shape hp3; replace hp3 := Lib.hid hp3; replace y0 := Ext.cell hb3 (p := ⟨w.heap.size, 0, none⟩) (v := .string v.name) (by go_simp); replace y1 := Ext.cell hb3 (p := ⟨w.heap.size, 1, none⟩) (v := .slice (some ⟨b, off, none⟩) v.units.length cap) (by go_simp); replace y2 := Ext.cell hb3 (p := ⟨w.heap.size, 2, none⟩) (v := .int .i64 v.first) (by go_simp); replace y3 := Ext.cell hb3 (p := ⟨w.heap.size, 3, none⟩) (v := .int .i64 v.last) (by go_simp); replace t0 := Ext.cell hb3 (p := ⟨w.heap.size + 1, 0, none⟩) (v := .int .i64 p1) (by go_simp); replace t1 := Ext.cell hb3 (p := ⟨w.heap.size + 1, 1, none⟩) (v := .int .i64 p2) (by go_simp); replace t2 := Ext.cell hb3 (p := ⟨w.heap.size + 1, 2, none⟩) (v := .slice (some ⟨bx, ox, none⟩) ps.length capp) (by go_simp); have lwhb3 := lt_of_cell t0; have lyhb3 := lt_of_cell y0; clear CB)
      | (go_at_call 16; refine (CU.out _ (HEA.out.trans hb3)).mono ?_; rintro e w4 ⟨rfl, hb4⟩; replace y0 := Ext.cell hb4 (p := ⟨w.heap.size, 0, none⟩) (v := .string v.name) (by go_simp); replace y1 := Ext.cell hb4 (p := ⟨w.heap.size, 1, none⟩) (v := .slice (some ⟨b, off, none⟩) v.units.length cap) (by go_simp); replace y2 := Ext.cell hb4 (p := ⟨w.heap.size, 2, none⟩) (v := .int .i64 v.first) (by go_simp); replace y3 := Ext.cell hb4 (p := ⟨w.heap.size, 3, none⟩) (v := .int .i64 v.last) (by go_simp); replace t0 := Ext.cell hb4 (p := ⟨w.heap.size + 1, 0, none⟩) (v := .int .i64 p1) (by go_simp); replace t1 := Ext.cell hb4 (p := ⟨w.heap.size + 1, 1, none⟩) (v := .int .i64 p2) (by go_simp); replace t2 := Ext.cell hb4 (p := ⟨w.heap.size + 1, 2, none⟩) (v := .slice (some ⟨bx, ox, none⟩) ps.length capp) (by go_simp); have lwhb4 := lt_of_cell t0; have lyhb4 := lt_of_cell y0; clear CU))
    have HE4 := Lib.hid (HEA.out.trans (hb3.trans hb4))
    have HA4 := Lib.hid (hb3.trans hb4)
    have HP4 := Lib.hid (hp3.out.ext hb4)
    have hU4 := HA4.out.blk HUB.out
    have u1 : w4.cell? ⟨bu, 1, none⟩ = some (.int .i64 u.length) := World.news_of_block hU4 1 _ rfl
    have u3 : w4.cell? ⟨bu, 3, none⟩ = some (.int .i64 u.front) := World.news_of_block hU4 3 _ rfl
    have u4 : w4.cell? ⟨bu, 4, none⟩ = some (.int .i64 u.rear) := World.news_of_block hU4 4 _ rfl
    have u5 : w4.cell? ⟨bu, 5, none⟩ = some (.int .i64 u.width) := World.news_of_block hU4 5 _ rfl
    clear hb3 hb4 hp3 HEA hU4
    (refine wp_region_ext (C := fun w' => Ext w4 w') (by kernel_rfl) (by kernel_rfl) (by (repeat' (first | exact Ext.refl _ | assumption | refine Ext.alloc ?_ _ | refine Ext.drew ?_ | refine Ext.drewN ?_ _ | refine Ext.set ?_ (by first | exact Nat.le_refl _ | exact le1 _ | exact le2 _ | exact le3 _ | exact le4 _ | exact le5 _ | exact le6 _) _ | refine Ext.trans ?_ (by assumption)))) ?_; (repeat (with_reducible refine wpQuiet_step (fun K hK => ?_); go_simp; first | (refine hK _ ?_; clear hK K) | (apply Exists.intro; refine ⟨fun w' hC => ?_, hK _ ?_⟩; (focus first | with_reducible rfl | (have q0 := hC.cell u1; have q1 := hC.cell u3; have q2 := hC.cell u4; go_simp; done) | (have q0 := hC.cell u1; have q1 := hC.cell u3; have q2 := hC.cell u4; go_simp; exact ⟨rfl, rfl⟩) | (have q0 := hC.cell u1; have q1 := hC.cell u3; have q2 := hC.cell u4; go_simp; with_reducible rfl)); clear hK K))); refine wpQuiet_nil ?_; intro wq hEq)
    replace y0 := hEq.cell y0
    replace y1 := hEq.cell y1
    replace y2 := hEq.cell y2
    replace y3 := hEq.cell y3
    replace t0 := hEq.cell t0
    replace t1 := hEq.cell t1
    replace t2 := hEq.cell t2
    replace u1 := hEq.cell u1
    replace u3 := hEq.cell u3
    replace u4 := hEq.cell u4
    replace u5 := hEq.cell u5
    have HE5 := Lib.hid (HE4.out.trans hEq)
    have HP5 := Lib.hid (HP4.out.ext hEq)
    have HA5 := Lib.hid (HA4.out.trans hEq)
    obtain ⟨wB, hwB⟩ : ∃ z : World, z = wq := ⟨_, rfl⟩
    subst hwB
    clear hEq HE4 HP4 HA4
    go_upto_region 18 with (first
      | (go_at_call 17; refine (CLq.out _ HE5.out).mono ?_; rintro e w5 ⟨rfl, hb5⟩; replace y0 := Ext.cell hb5 (p := ⟨w.heap.size, 0, none⟩) (v := .string v.name) (by go_simp); replace y1 := Ext.cell hb5 (p := ⟨w.heap.size, 1, none⟩) (v := .slice (some ⟨b, off, none⟩) v.units.length cap) (by go_simp); replace y2 := Ext.cell hb5 (p := ⟨w.heap.size, 2, none⟩) (v := .int .i64 v.first) (by go_simp); replace y3 := Ext.cell hb5 (p := ⟨w.heap.size, 3, none⟩) (v := .int .i64 v.last) (by go_simp); replace t0 := Ext.cell hb5 (p := ⟨w.heap.size + 1, 0, none⟩) (v := .int .i64 p1) (by go_simp); replace t1 := Ext.cell hb5 (p := ⟨w.heap.size + 1, 1, none⟩) (v := .int .i64 p2) (by go_simp); replace t2 := Ext.cell hb5 (p := ⟨w.heap.size + 1, 2, none⟩) (v := .slice (some ⟨bx, ox, none⟩) ps.length capp) (by go_simp); have lwhb5 := lt_of_cell t0; have lyhb5 := lt_of_cell y0; clear CLq)
      | (go_at_call 18; refine (GC.out _ _ (HP5.out.ext (by (repeat' (first | exact Ext.refl _ | assumption | refine Ext.alloc ?_ _ | refine Ext.drew ?_ | refine Ext.drewN ?_ _ | refine Ext.set ?_ (by first | exact Nat.le_refl _ | exact le1 _ | exact le2 _ | exact le3 _ | exact le4 _ | exact le5 _ | exact le6 _) _ | refine Ext.trans ?_ (by assumption)))))).mono ?_; rintro e w6 ⟨v6, rfl, ho6, hb6⟩; have hp6 := ho6.pts; obtain ⟨A6, c6, rfl⟩ := pts_shape hp6; replace hp6 := Lib.hid hp6; clear ho6; have z0 := Ext.cell hb6 (p := ⟨w5.heap.size, 0, none⟩) (v := .int .i64 qa) (by go_simp); have z1 := Ext.cell hb6 (p := ⟨w5.heap.size, 1, none⟩) (v := .int .i64 qb) (by go_simp); replace y0 := Ext.cell hb6 (p := ⟨w.heap.size, 0, none⟩) (v := .string v.name) (by go_simp); replace y1 := Ext.cell hb6 (p := ⟨w.heap.size, 1, none⟩) (v := .slice (some ⟨b, off, none⟩) v.units.length cap) (by go_simp); replace y2 := Ext.cell hb6 (p := ⟨w.heap.size, 2, none⟩) (v := .int .i64 v.first) (by go_simp); replace y3 := Ext.cell hb6 (p := ⟨w.heap.size, 3, none⟩) (v := .int .i64 v.last) (by go_simp); replace t0 := Ext.cell hb6 (p := ⟨w.heap.size + 1, 0, none⟩) (v := .int .i64 p1) (by go_simp); replace t1 := Ext.cell hb6 (p := ⟨w.heap.size + 1, 1, none⟩) (v := .int .i64 p2) (by go_simp); replace t2 := Ext.cell hb6 (p := ⟨w.heap.size + 1, 2, none⟩) (v := .slice (some ⟨bx, ox, none⟩) ps.length capp) (by go_simp); have lwhb6 := lt_of_cell t0; have lyhb6 := lt_of_cell y0; clear GC)
      | (go_at_call 19; refine (HC.out _ _ hp6.out).mono ?_; rintro e w7 ⟨rfl, hb7⟩; replace y0 := Ext.cell hb7 (p := ⟨w.heap.size, 0, none⟩) (v := .string v.name) (by go_simp); replace y1 := Ext.cell hb7 (p := ⟨w.heap.size, 1, none⟩) (v := .slice (some ⟨b, off, none⟩) v.units.length cap) (by go_simp); replace y2 := Ext.cell hb7 (p := ⟨w.heap.size, 2, none⟩) (v := .int .i64 v.first) (by go_simp); replace y3 := Ext.cell hb7 (p := ⟨w.heap.size, 3, none⟩) (v := .int .i64 v.last) (by go_simp); replace t0 := Ext.cell hb7 (p := ⟨w.heap.size + 1, 0, none⟩) (v := .int .i64 p1) (by go_simp); replace t1 := Ext.cell hb7 (p := ⟨w.heap.size + 1, 1, none⟩) (v := .int .i64 p2) (by go_simp); replace t2 := Ext.cell hb7 (p := ⟨w.heap.size + 1, 2, none⟩) (v := .slice (some ⟨bx, ox, none⟩) ps.length capp) (by go_simp); have lwhb7 := lt_of_cell t0; have lyhb7 := lt_of_cell y0; clear HC))
    have E57 : Ext wB w7 := by (repeat' (first | exact Ext.refl _ | assumption | refine Ext.alloc ?_ _ | refine Ext.drew ?_ | refine Ext.drewN ?_ _ | refine Ext.set ?_ (by first | exact Nat.le_refl _ | exact le1 _ | exact le2 _ | exact le3 _ | exact le4 _ | exact le5 _ | exact le6 _) _ | refine Ext.trans ?_ (by assumption)))
    clear hb5 hb6 hb7 hp6 z0 z1
    go_upto_region 19 with (go_at_call 20; refine (CJ.out _ (HE5.out.trans E57)).mono ?_; rintro e w8 ⟨rfl, hb8⟩; replace y0 := Ext.cell hb8 (p := ⟨w.heap.size, 0, none⟩) (v := .string v.name) (by go_simp); replace y1 := Ext.cell hb8 (p := ⟨w.heap.size, 1, none⟩) (v := .slice (some ⟨b, off, none⟩) v.units.length cap) (by go_simp); replace y2 := Ext.cell hb8 (p := ⟨w.heap.size, 2, none⟩) (v := .int .i64 v.first) (by go_simp); replace y3 := Ext.cell hb8 (p := ⟨w.heap.size, 3, none⟩) (v := .int .i64 v.last) (by go_simp); replace t0 := Ext.cell hb8 (p := ⟨w.heap.size + 1, 0, none⟩) (v := .int .i64 p1) (by go_simp); replace t1 := Ext.cell hb8 (p := ⟨w.heap.size + 1, 1, none⟩) (v := .int .i64 p2) (by go_simp); replace t2 := Ext.cell hb8 (p := ⟨w.heap.size + 1, 2, none⟩) (v := .slice (some ⟨bx, ox, none⟩) ps.length capp) (by go_simp); have lwhb8 := lt_of_cell t0; have lyhb8 := lt_of_cell y0; clear CJ)
    have EJ : Ext w8 (w8.alloc (.cells #[.int .i64 j1, .int .i64 j2] 26)) := (Ext.refl w8).alloc _
    have hJ := World.alloc_heap_new w8 (.cells #[.int .i64 j1, .int .i64 j2] 26)
    replace y0 := EJ.cell y0
    replace y1 := EJ.cell y1
    replace y2 := EJ.cell y2
    replace y3 := EJ.cell y3
    replace t0 := EJ.cell t0
    replace t1 := EJ.cell t1
    replace t2 := EJ.cell t2
    have HE8 := Lib.hid (HE5.out.trans (E57.trans (hb8.trans EJ)))
    have HA8 := Lib.hid (HA5.out.trans (E57.trans (hb8.trans EJ)))
    clear E57 hb8 EJ HE5 HA5 u1 u3 u4 u5
    generalize (w8.alloc (.cells #[.int .i64 j1, .int .i64 j2] 26)) = WD at *
    generalize w8.heap.size = bj at *
    have j0 : WD.cell? ⟨bj, 0, none⟩ = some (.int .i64 j1) := World.news_of_block hJ 0 _ rfl
    have j0' : WD.cell? ⟨bj, 1, none⟩ = some (.int .i64 j2) := World.news_of_block hJ 1 _ rfl
    have m0 := HE8.out.cell HX.out.1
    have m1 := HE8.out.cell HX.out.2
    clear hJ
    (refine wp_region_ext (C := fun w' => Ext WD w') (by kernel_rfl) (by kernel_rfl) (by (repeat' (first | exact Ext.refl _ | assumption | refine Ext.alloc ?_ _ | refine Ext.drew ?_ | refine Ext.drewN ?_ _ | refine Ext.set ?_ (by first | exact Nat.le_refl _ | exact le1 _ | exact le2 _ | exact le3 _ | exact le4 _ | exact le5 _ | exact le6 _) _ | refine Ext.trans ?_ (by assumption)))) ?_; (repeat (with_reducible refine wpQuiet_step (fun K hK => ?_); go_simp; first | (refine hK _ ?_; clear hK K) | (apply Exists.intro; refine ⟨fun w' hC => ?_, hK _ ?_⟩; (focus first | with_reducible rfl | (have q0 := hC.cell j0; have q1 := hC.cell j0'; have q2 := hC.cell t2; have q3 := hC.cell m0; have q4 := hC.cell m1; go_simp; done) | (have q0 := hC.cell j0; have q1 := hC.cell j0'; have q2 := hC.cell t2; have q3 := hC.cell m0; have q4 := hC.cell m1; go_simp; exact ⟨rfl, rfl⟩) | (have q0 := hC.cell j0; have q1 := hC.cell j0'; have q2 := hC.cell t2; have q3 := hC.cell m0; have q4 := hC.cell m1; go_simp; with_reducible rfl) | (exact (DC.out _).mono fun e w'' ⟨he, hw''⟩ => ⟨he, hC.trans hw''⟩)); clear hK K))); refine wpQuiet_nil ?_; intro wq hEq)
    replace y0 := hEq.cell y0
    replace y1 := hEq.cell y1
    replace y2 := hEq.cell y2
    replace y3 := hEq.cell y3
    replace t0 := hEq.cell t0
    replace t1 := hEq.cell t1
    replace t2 := hEq.cell t2
    have HE9 := Lib.hid (HE8.out.trans hEq)
    have hU9 := (HA8.out.trans hEq).blk HUB.out
    have u1 : wq.cell? ⟨bu, 1, none⟩ = some (.int .i64 u.length) := World.news_of_block hU9 1 _ rfl
    have u3 : wq.cell? ⟨bu, 3, none⟩ = some (.int .i64 u.front) := World.news_of_block hU9 3 _ rfl
    have u4 : wq.cell? ⟨bu, 4, none⟩ = some (.int .i64 u.rear) := World.news_of_block hU9 4 _ rfl
    have u5 : wq.cell? ⟨bu, 5, none⟩ = some (.int .i64 u.width) := World.news_of_block hU9 5 _ rfl
    obtain ⟨wE, hwE⟩ : ∃ z : World, z = wq := ⟨_, rfl⟩
    subst hwE
    have lwE := lt_of_cell t0
    have lyE := lt_of_cell y0
    have luE := lt_of_cell u5
    clear hEq HE8 HA8 hU9 j0 j0' m0 m1 DC
    rcases (show 16 * D < L ∨ (¬ 16 * D < L ∧ 16 * D < u.width) ∨ (¬ 16 * D < L ∧ ¬ 16 * D < u.width) by omega) with g1 | ⟨g1, g2⟩ | ⟨g1, g2⟩
    · have g3 : decide (16 * D < L) = true := by simpa using g1
      go_wp2_with (go_at_call 6; refine (CW.out _).mono ?_; rintro e w9 ⟨rfl, hb9⟩)
      go_ret
      exact ⟨rfl, HE9.out.trans hb9⟩
    · have g3 : decide (16 * D < L) = false := by simpa using g1
      go_wp2_with (go_at_call 6; refine (CW.out _).mono ?_; rintro e w9 ⟨rfl, hb9⟩)
      go_ret
      exact ⟨rfl, HE9.out.trans hb9⟩
    · have g3 : decide (16 * D < L) = false := by simpa using g1
      go_upto_region 24 with fail
      have hd1 := hwd.out (by omega)
      have hd2 := hlg.out (by have h9 := HLB.out; omega)
      have DS1 := fun W => distance3_c D1 W2 W (by omega) (by omega) (by have h9 := HW2.out; have h8 := HR.out.2.2.1; omega) (by have h9 := HW2.out; have h8 := HR.out.2.2.1; omega)
      have DS2 := fun W => distance3_c D2 L W (by omega) (by omega) (by omega) (by omega)
      obtain ⟨DD1, hDD1⟩ : ∃ z, max (D1 - W2) (W2 - D1) = z := ⟨_, rfl⟩
      obtain ⟨DD2, hDD2⟩ : ∃ z, max (D2 - L) (L - D2) = z := ⟨_, rfl⟩
      rw [hDD1] at DS1
      rw [hDD2] at DS2
      have g4 : decide (DD1 ≤ 4) = true := by rw [decide_eq_true_eq]; have h9 := HW2.out; omega
      have g5 : decide (DD2 ≤ 4) = true := by rw [decide_eq_true_eq]; have h9 := HLB.out; omega
      replace DS1 := Lib.hid DS1
      replace DS2 := Lib.hid DS2
      clear hd1 hd2 hDD1 hDD2 hwd hlg u1 u3 u4
      go_upto_region 29 with (first
        | (go_at_call 17; refine (CLa.out _ HE9.out).mono ?_; rintro e w9 ⟨rfl, hb9⟩; replace y0 := Ext.cell hb9 (p := ⟨w.heap.size, 0, none⟩) (v := .string v.name) (by go_simp); replace y1 := Ext.cell hb9 (p := ⟨w.heap.size, 1, none⟩) (v := .slice (some ⟨b, off, none⟩) v.units.length cap) (by go_simp); replace y2 := Ext.cell hb9 (p := ⟨w.heap.size, 2, none⟩) (v := .int .i64 v.first) (by go_simp); replace y3 := Ext.cell hb9 (p := ⟨w.heap.size, 3, none⟩) (v := .int .i64 v.last) (by go_simp); replace t0 := Ext.cell hb9 (p := ⟨w.heap.size + 1, 0, none⟩) (v := .int .i64 p1) (by go_simp); replace t1 := Ext.cell hb9 (p := ⟨w.heap.size + 1, 1, none⟩) (v := .int .i64 p2) (by go_simp); replace t2 := Ext.cell hb9 (p := ⟨w.heap.size + 1, 2, none⟩) (v := .slice (some ⟨bx, ox, none⟩) ps.length capp) (by go_simp); have lwhb9 := lt_of_cell t0; have lyhb9 := lt_of_cell y0; replace u5 := Ext.cell hb9 (p := ⟨bu, 5, none⟩) (v := .int .i64 u.width) (by go_simp); have lu9 := lt_of_cell u5; clear CLa)
        | (go_at_call 17; refine (CLc.out _ (HE9.out.trans (by (repeat' (first | exact Ext.refl _ | assumption | refine Ext.alloc ?_ _ | refine Ext.drew ?_ | refine Ext.drewN ?_ _ | refine Ext.set ?_ (by first | exact Nat.le_refl _ | exact le1 _ | exact le2 _ | exact le3 _ | exact le4 _ | exact le5 _ | exact le6 _) _ | refine Ext.trans ?_ (by assumption)))))).mono ?_; rintro e w10 ⟨rfl, hb10⟩; replace y0 := Ext.cell hb10 (p := ⟨w.heap.size, 0, none⟩) (v := .string v.name) (by go_simp); replace y1 := Ext.cell hb10 (p := ⟨w.heap.size, 1, none⟩) (v := .slice (some ⟨b, off, none⟩) v.units.length cap) (by go_simp); replace y2 := Ext.cell hb10 (p := ⟨w.heap.size, 2, none⟩) (v := .int .i64 v.first) (by go_simp); replace y3 := Ext.cell hb10 (p := ⟨w.heap.size, 3, none⟩) (v := .int .i64 v.last) (by go_simp); replace t0 := Ext.cell hb10 (p := ⟨w.heap.size + 1, 0, none⟩) (v := .int .i64 p1) (by go_simp); replace t1 := Ext.cell hb10 (p := ⟨w.heap.size + 1, 1, none⟩) (v := .int .i64 p2) (by go_simp); replace t2 := Ext.cell hb10 (p := ⟨w.heap.size + 1, 2, none⟩) (v := .slice (some ⟨bx, ox, none⟩) ps.length capp) (by go_simp); have lwhb10 := lt_of_cell t0; have lyhb10 := lt_of_cell y0; replace u5 := Ext.cell hb10 (p := ⟨bu, 5, none⟩) (v := .int .i64 u.width) (by go_simp); have lu10 := lt_of_cell u5; have a0 := Ext.cell hb10 (p := ⟨w9.heap.size, 0, none⟩) (v := .int .i64 a1) (by go_simp); have a0' := Ext.cell hb10 (p := ⟨w9.heap.size, 1, none⟩) (v := .int .i64 a2) (by go_simp); have la10 := lt_of_cell a0; clear CLc)
        | (go_at_call 17; refine (CLh.out _ (HE9.out.trans (by (repeat' (first | exact Ext.refl _ | assumption | refine Ext.alloc ?_ _ | refine Ext.drew ?_ | refine Ext.drewN ?_ _ | refine Ext.set ?_ (by first | exact Nat.le_refl _ | exact le1 _ | exact le2 _ | exact le3 _ | exact le4 _ | exact le5 _ | exact le6 _) _ | refine Ext.trans ?_ (by assumption)))))).mono ?_; rintro e w11 ⟨rfl, hb11⟩; replace u5 := Ext.cell hb11 (p := ⟨bu, 5, none⟩) (v := .int .i64 u.width) (by go_simp); replace a0 := Ext.cell hb11 (p := ⟨w9.heap.size, 0, none⟩) (v := .int .i64 a1) (by go_simp); replace a0' := Ext.cell hb11 (p := ⟨w9.heap.size, 1, none⟩) (v := .int .i64 a2) (by go_simp); have c0 := Ext.cell hb11 (p := ⟨w10.heap.size, 0, none⟩) (v := .int .i64 c1) (by go_simp); have c0' := Ext.cell hb11 (p := ⟨w10.heap.size, 1, none⟩) (v := .int .i64 c2) (by go_simp); clear CLh))
      have EH : Ext w11 (w11.alloc (.cells #[.int .i64 h1, .int .i64 h2] 26)) := (Ext.refl w11).alloc _
      have hH := World.alloc_heap_new w11 (.cells #[.int .i64 h1, .int .i64 h2] 26)
      have E911 : Ext wE w11 := by (repeat' (first | exact Ext.refl _ | assumption | refine Ext.alloc ?_ _ | refine Ext.drew ?_ | refine Ext.drewN ?_ _ | refine Ext.set ?_ (by first | exact Nat.le_refl _ | exact le1 _ | exact le2 _ | exact le3 _ | exact le4 _ | exact le5 _ | exact le6 _) _ | refine Ext.trans ?_ (by assumption)))
      have HEF := Lib.hid (HE9.out.trans (E911.trans EH))
      replace u5 := EH.cell u5
      replace a0 := EH.cell a0
      replace a0' := EH.cell a0'
      replace c0 := EH.cell c0
      replace c0' := EH.cell c0'
      clear hb9 hb10 hb11 EH E911
      generalize (w11.alloc (.cells #[.int .i64 h1, .int .i64 h2] 26)) = WF at *
      generalize w11.heap.size = bh at *
      have n0 : WF.cell? ⟨bh, 0, none⟩ = some (.int .i64 h1) := World.news_of_block hH 0 _ rfl
      have n1 : WF.cell? ⟨bh, 1, none⟩ = some (.int .i64 h2) := World.news_of_block hH 1 _ rfl
      clear hH
      (refine wp_region_ext (C := fun w' => Ext WF w') (by kernel_rfl) (by kernel_rfl) (by (repeat' (first | exact Ext.refl _ | assumption | refine Ext.alloc ?_ _ | refine Ext.drew ?_ | refine Ext.drewN ?_ _ | refine Ext.set ?_ (by first | exact Nat.le_refl _ | exact le1 _ | exact le2 _ | exact le3 _ | exact le4 _ | exact le5 _ | exact le6 _) _ | refine Ext.trans ?_ (by assumption)))) ?_; (repeat (with_reducible refine wpQuiet_step (fun K hK => ?_); go_simp; first | (refine hK _ ?_; clear hK K) | (apply Exists.intro; refine ⟨fun w' hC => ?_, hK _ ?_⟩; (focus first | with_reducible rfl | (have q0 := hC.cell u5; have q1 := hC.cell a0; have q2 := hC.cell a0'; have q3 := hC.cell c0; have q4 := hC.cell c0'; have q5 := hC.cell n0; have q6 := hC.cell n1; go_simp; done) | (have q0 := hC.cell u5; have q1 := hC.cell a0; have q2 := hC.cell a0'; have q3 := hC.cell c0; have q4 := hC.cell c0'; have q5 := hC.cell n0; have q6 := hC.cell n1; go_simp; exact ⟨rfl, rfl⟩) | (have q0 := hC.cell u5; have q1 := hC.cell a0; have q2 := hC.cell a0'; have q3 := hC.cell c0; have q4 := hC.cell c0'; have q5 := hC.cell n0; have q6 := hC.cell n1; go_simp; with_reducible rfl) | (exact (FA.out _).mono fun e w'' ⟨he, hw''⟩ => ⟨he, hC.trans hw''⟩) | (exact (FB.out _).mono fun e w'' ⟨he, hw''⟩ => ⟨he, hC.trans hw''⟩) | (exact (DS1.out _).mono fun e w'' ⟨he, hw''⟩ => ⟨he, hw'' ▸ hC⟩) | (exact (DS2.out _).mono fun e w'' ⟨he, hw''⟩ => ⟨he, hw'' ▸ hC⟩) | (exact (CW.out _).mono fun e w'' ⟨he, hw''⟩ => ⟨he, hC.trans hw''⟩)); clear hK K))); refine wpQuiet_nil ?_; intro wq hEq)
      have HEZ := Lib.hid (HEF.out.trans hEq)
      clear hEq
      go_wp2_with fail
      go_ret
      exact ⟨rfl, HEZ.out⟩
theorem corn_law (i x y : Int) (w : World) (hs : Sl 11 RUnit w vu v.units) (hp : Pts w vp ps) (w1 : (Lit.int .u8 i).wf = true) (w2 : (Lit.int .u16 x).wf = true) (w3 : (Lit.int .u16 y).wf = true) :
    Calls Tryz.prog 4 #[vehV v vu, poseV lead vp, .int .u8 i, .int .u16 x, .int .u16 y] w fun e w' => e = .returned (.bool true) ∧ Ext w w' := by
  have b1 := bounds_u8 w1
  have b2 := bounds_u16 w2
  have b3 := bounds_u16 w3
  by_cases h1 : longB v = false ∧ vehE v = 0
  · by_cases h2 : (30 : Int) < ps.length
    · exact corn_no i x y w hs hp (.inr (.inl h2))
    · by_cases h3 : poseE v lead ps = 0
      · obtain ⟨ni, rfl⟩ : ∃ n : Nat, i = n := ⟨i.toNat, by omega⟩
        obtain ⟨nx, rfl⟩ : ∃ n : Nat, x = n := ⟨x.toNat, by omega⟩
        obtain ⟨ny, rfl⟩ : ∃ n : Nat, y = n := ⟨y.toNat, by omega⟩
        exact corn_yes ni nx ny w hs hp h1.1 h1.2 h2 h3 (by omega) (by omega) (by omega)
      · exact corn_no i x y w hs hp (.inr (.inr h3))
  · exact corn_no i x y w hs hp (.inl (eq_false h1))
end
end Go.Proofs.YtcbjecpfijogcaaGreat
