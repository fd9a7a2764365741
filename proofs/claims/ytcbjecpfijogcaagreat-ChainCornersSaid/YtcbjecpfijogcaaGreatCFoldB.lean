
/- Contract: Folded, by the program. -/
import Derived.Test.YtcbjecpfijogcaaGreatCJoint2
namespace Go.Proofs.YtcbjecpfijogcaaGreat
open Go.RowKit Go.Shelf

theorem place_ok {a h : Pt} {x y : Int} (h0 : (placeS a h x y).2 = 0) : okPt (placeS a h x y).1 = true := by
  by_cases h1 : (okPt a && okPt h) = false
  · rw [placeS_2 h1] at h0; cases h0
  · have h1' : okPt a = true ∧ okPt h = true := by
      cases ha : okPt a <;> cases hh : okPt h <;> simp [ha, hh] at h1 ⊢
    by_cases h3 : (inB x (-16777216) 16777216 && inB y (-16777216) 16777216) = false
    · rw [placeS_3 h1'.1 h1'.2 h3] at h0; cases h0
    · have h3' : inB x (-16777216) 16777216 = true ∧ inB y (-16777216) 16777216 = true := by
        cases ha : inB x (-16777216) 16777216 <;> cases hh : inB y (-16777216) 16777216 <;> simp [ha, hh] at h3 ⊢
      by_cases he : a = h
      · subst he
        rw [placeS_9 h1'.1 h3'.1 h3'.2] at h0; cases h0
      · rw [placeS_r h1'.1 h1'.2 h3'.1 h3'.2 he] at h0 ⊢
        cases hp : okPt (putP a h x y)
        · rw [resS_no hp] at h0; cases h0
        · rw [resS_yes hp]; exact hp
theorem puts_ok : ∀ (us : List CUnit) (xs : List Pt) (j : Pt), okPt j = true → ∀ c ∈ putsN j us xs, okPt c.joint = true ∧ okPt c.axle = true
  | [], xs, j, _, c, hc => by cases xs <;> simp [putsN] at hc
  | u :: us, [], j, _, c, hc => by simp [putsN] at hc
  | u :: us, a :: xs, j, hj, c, hc => by
    simp only [putsN] at hc
    split at hc
    · simp at hc
    · rename_i hn
      rcases List.mem_cons.1 hc with rfl | hc
      · refine ⟨hj, ?_⟩
        cases ha : okPt a
        · exact absurd (.inl ha) hn
        · rfl
      · split at hc
        · rename_i h2
          exact puts_ok us xs _ (place_ok h2) c hc
        · simp at hc
theorem lead_ok {v : CVeh} {lead : Pt} {ps : List Pt} (h : poseE v lead ps = 0) : okPt lead = true := by
  have hE := (puts_len h).2.1
  cases hl : okPt lead
  · rw [poseE_no hE (poseB_lead hl)] at h; cases h
  · rfl
def foldD (c e : CPut) : Int := (c.joint.1 - c.axle.1) * (e.joint.1 - e.axle.1) + (c.joint.2 - c.axle.2) * (e.joint.2 - e.axle.2)
/-- whether two units, one behind the other, are folded -/
def foldL : List CPut → Bool
  | [] => false
  | [_] => false
  | c :: e :: r => decide (foldD c e < 0) || foldL (e :: r)
theorem drop_cons {α : Type} {l : List α} {k : Nat} {x : α} (h : l[k]? = some x) : l.drop k = x :: l.drop (k + 1) := by
  obtain ⟨hlt, he⟩ := List.getElem?_eq_some_iff.1 h
  rw [List.drop_eq_getElem_cons hlt, he]
theorem foldL_step {L : List CPut} {k : Nat} {c e : CPut} (hc : L[k]? = some c) (he : L[k + 1]? = some e) : foldL (L.drop k) = (decide (foldD c e < 0) || foldL (L.drop (k + 1))) := by
  rw [drop_cons hc, drop_cons he]
  rfl
theorem foldL_end {L : List CPut} {k : Nat} (h : L.length ≤ k + 1) : foldL (L.drop k) = false := by
  have hl : (L.drop k).length ≤ 1 := by rw [List.length_drop]; omega
  match hd : L.drop k with
  | [] => rfl
  | [_] => rfl
  | _ :: _ :: _ => rw [hd] at hl; simp at hl
/-- what Folded returns -/
def foldS (v : CVeh) (lead : Pt) (ps : List Pt) : Bool × Int := if poseE v lead ps = 0 then (foldL (putsN lead v.units ps), 0) else (false, poseE v lead ps)
theorem foldS_ok {v : CVeh} {lead : Pt} {ps : List Pt} (h : poseE v lead ps = 0) : foldS v lead ps = (foldL (putsN lead v.units ps), 0) := by unfold foldS; rw [if_pos h]
theorem foldS_bad {v : CVeh} {lead : Pt} {ps : List Pt} (h : ¬ poseE v lead ps = 0) : foldS v lead ps = (false, poseE v lead ps) := by unfold foldS; rw [if_neg h]
def b2V (r : Bool × Int) : Value := .tuple #[.bool r.1, .int .i64 r.2]
theorem own_cap {w : World} {base size n c : Nat} {t : TypeId} {A : Option Addr} {xs : List Value} (h : w.ownsRow base t size (.slice A n c) n xs) : n ≤ c := by
  rcases h.2 with ⟨h0, _⟩ | ⟨g, cap, cur, e, _, _, h5, _⟩
  · simp only [Value.slice.injEq] at h0; omega
  · simp only [Value.slice.injEq] at e; omega
section
variable {vu vp : Value} {v : CVeh} {lead : Pt} {ps : List Pt}
set_option maxHeartbeats 1600000 in
theorem Folded1_c (x : PPut) (w : World) (h1 : okPt x.joint = true) (h2 : okPt x.axle = true) :
    Calls Tryz.prog 36 #[putV x] w fun e w' => e = .returned (.tuple #[.int .i64 (x.joint.1 - x.axle.1), .int .i64 (x.joint.2 - x.axle.2)]) ∧ Ext w w' := by
  obtain ⟨u, A, cap, ⟨j1, j2⟩, ⟨a1, a2⟩⟩ := x
  obtain ⟨b1, b2, b3, b4⟩ := okPt_bd h1
  obtain ⟨c1, c2, c3, c4⟩ := okPt_bd h2
  have e1 := IntWalk.i64_in (j1 - a1) (by omega)
  have e2 := IntWalk.i64_in (j2 - a2) (by omega)
  unfold putV
  simp only
  clear h1 h2
  go_enter Tryz.func36, Tryz.ntmps36
  go_wp2
  go_quiet (fail)
  go_wp2
  go_ret2
  exact ⟨rfl, by (repeat' (first | exact Ext.refl _ | assumption | refine Ext.alloc ?_ _ | refine Ext.drew ?_ | refine Ext.drewN ?_ _ | refine Ext.set ?_ (by first | exact Nat.le_refl _ | exact le1 _ | exact le2 _ | exact le3 _ | exact le4 _ | exact le5 _ | exact le6 _) _ | refine Ext.trans ?_ (by assumption)))⟩
set_option maxRecDepth 100000 in
set_option maxHeartbeats 6400000 in
theorem Folded_go (w : World) (hs : Sl 11 RUnit w vu v.units) (hp : Pts w vp ps) (h1 : poseE v lead ps = 0) :
    Calls Tryz.prog 12 #[vehV v vu, poseV lead vp] w fun e w' => e = .returned (.tuple #[.bool (foldL (putsN lead v.units ps)), .int .i64 0]) ∧ Ext w w' := by
  have CO := fun w' (h : Ext w w') => look_ok (lead := lead) w' (hs.ext RUnit.stable h) (hp.ext h) h1
  have HOK := Lib.hid (puts_ok v.units ps lead (lead_ok h1))
  have hlen := vehE_len (puts_len h1).2.1
  obtain ⟨A, cap, rfl, hl, hl2⟩ := hs.shape
  obtain ⟨Ap, capp, rfl⟩ := pts_shape hp
  obtain ⟨B, hB⟩ : ∃ B, foldL (putsN lead v.units ps) = B := ⟨_, rfl⟩
  have hpl0 := (puts_len h1).1
  rw [hB]
  have HB := Lib.hid hB
  have HPL := Lib.hid hpl0
  clear hB hpl0
  have HLN := Lib.hid hlen
  obtain ⟨m, hm⟩ : ∃ m, v.units.length = m + 1 := ⟨v.units.length - 1, by omega⟩
  have HM := Lib.hid hm
  obtain ⟨l1, l2⟩ := lead
  clear hs hp hlen hm
  unfold vehV poseV at *
  simp only at CO ⊢
  have C := Lib.hid CO
  clear CO h1
  go_enter Tryz.func12, Tryz.ntmps12
  go_upto_region 5 with (go_at_call 35; refine (C.out _ (by (repeat' (first | exact Ext.refl _ | assumption | refine Ext.alloc ?_ _ | refine Ext.drew ?_ | refine Ext.drewN ?_ _ | refine Ext.set ?_ (by first | exact Nat.le_refl _ | exact le1 _ | exact le2 _ | exact le3 _ | exact le4 _ | exact le5 _ | exact le6 _) _ | refine Ext.trans ?_ (by assumption))))).mono ?_; rintro e w1 ⟨vl, xs, rfl, ho, hmap, hxl, hb1⟩; have HO := Lib.hid ho; have HMP := Lib.hid hmap; obtain ⟨x0, hx0⟩ := some_of_lt (show 0 < xs.length by have := HLN.out; omega); obtain ⟨g, c, rfl, hcs0⟩ := own_at ho hx0; have hlg := lt_of_cell (hcs0 0 _ rfl); have E1 : Ext w w1 := (((Ext.refl w).alloc _).alloc _).trans hb1; have hcc := own_cap ho; have HX := Lib.hid hxl; rw [hxl] at hcc ⊢; clear hb1 ho hmap hx0 hcs0 hxl)
  have hlm : (v.units.length : Int) = (m : Int) + 1 := by have := HM.out; omega
  have i3 : (1 : Int) ≤ (v.units.length : Int) := by omega
  have hml : v.units.length - 1 = m := by have := HM.out; omega
  go_cut [25, 26, 27] (fun sa sb sc wx => wx = w1 ∧ sb = .int .i64 m ∧ sc = .int .i64 0 ∧ ∃ SA c2, sa = .slice SA m c2 ∧ (0 < m → SA = some ⟨g, 15, none⟩))
  case first =>
    go_wp2_with fail
    · have hc1 : c = 1 := by assumption
      subst hc1
      go_meet
      exact ⟨rfl, rfl, rfl, _, _, rfl, fun h => by have := HM.out; omega⟩
    · go_meet
      exact ⟨rfl, rfl, rfl, _, _, rfl, fun _ => rfl⟩
  case rest =>
    obtain ⟨rfl, rfl, rfl, SA, c2, rfl, hSA⟩ := hcut
    replace hSA := Lib.hid hSA
    clear hml hlm
    go_wp2_with fail
    go_loopw [27] (fun i wr => ∃ k : Nat, k ≤ m ∧ i = .int .i64 k ∧ foldL ((putsN (l1, l2) v.units ps).drop k) = B ∧ Ext wc wr) (fun i _ => m - (intOf i).toNat)
    case atStart => exact ⟨0, by omega, rfl, HB.out, Ext.refl _⟩
    case round =>
      obtain ⟨k, hk, rfl, hfk, E⟩ := hrel
      have HFK := Lib.hid hfk
      clear hfk
      by_cases hlt : k < m
      case neg =>
        have hni : ¬ (k : Int) < (m : Int) := by omega
        obtain rfl : B = false := by rw [← HFK.out]; exact foldL_end (by have := HPL.out; have := HM.out; omega)
        go_wp2_with fail
        go_ret2
        exact ⟨rfl, by (repeat' (first | exact Ext.refl _ | assumption | refine Ext.alloc ?_ _ | refine Ext.drew ?_ | refine Ext.drewN ?_ _ | refine Ext.set ?_ (by first | exact Nat.le_refl _ | exact le1 _ | exact le2 _ | exact le3 _ | exact le4 _ | exact le5 _ | exact le6 _) _ | refine Ext.trans ?_ (by assumption)))⟩
      case pos =>
        obtain ⟨x, hx⟩ := some_of_lt (show k < xs.length by have := HX.out; have := HM.out; omega)
        obtain ⟨y, hy⟩ := some_of_lt (show k + 1 < xs.length by have := HX.out; have := HM.out; omega)
        obtain rfl := hSA.out (by omega)
        have HO2 := HO.out
        obtain ⟨g1, c1, e1, hcx⟩ := own_at HO2 hx
        obtain ⟨g2, c3, e2, hcy⟩ := own_at HO2 hy
        simp only [Value.slice.injEq, Option.some.injEq, Addr.mk.injEq, and_true] at e1 e2
        obtain ⟨rfl, -⟩ := e1
        obtain ⟨e2, -⟩ := e2
        subst e2
        have hpx : (putsN (l1, l2) v.units ps)[k]? = some ⟨x.unit, x.joint, x.axle⟩ := by rw [← HMP.out, List.getElem?_map, hx]; rfl
        have hpy : (putsN (l1, l2) v.units ps)[k + 1]? = some ⟨y.unit, y.joint, y.axle⟩ := by rw [← HMP.out, List.getElem?_map, hy]; rfl
        have hokx := HOK.out _ (mem_of_some hpx)
        have hoky := HOK.out _ (mem_of_some hpy)
        have hst := foldL_step hpx hpy
        unfold foldD at hst
        simp only at hokx hoky hst
        have CX := Lib.hid (fun w' => Folded1_c x w' hokx.1 hokx.2)
        have CY := Lib.hid (fun w' => Folded1_c y w' hoky.1 hoky.2)
        unfold putV at CX CY
        have bx := okPt_bd (x := x.joint.1) (y := x.joint.2) hokx.1
        have by' := okPt_bd (x := y.joint.1) (y := y.joint.2) hoky.1
        have cx := okPt_bd (x := x.axle.1) (y := x.axle.2) hokx.2
        have cy := okPt_bd (x := y.axle.1) (y := y.axle.2) hoky.2
        have m1 := Pl.mul_bd (a := x.joint.1 - x.axle.1) (b := y.joint.1 - y.axle.1) (A := 33554432) (B := 33554432) (by omega) (by omega) (by omega) (by omega)
        have m2 := Pl.mul_bd (a := x.joint.2 - x.axle.2) (b := y.joint.2 - y.axle.2) (A := 33554432) (B := 33554432) (by omega) (by omega) (by omega) (by omega)
        have ew1 := IntWalk.i64_in ((x.joint.1 - x.axle.1) * (y.joint.1 - y.axle.1)) (by omega)
        have ew2 := IntWalk.i64_in ((x.joint.2 - x.axle.2) * (y.joint.2 - y.axle.2)) (by omega)
        have ew3 := IntWalk.i64_in ((x.joint.1 - x.axle.1) * (y.joint.1 - y.axle.1) + (x.joint.2 - x.axle.2) * (y.joint.2 - y.axle.2)) (by omega)
        generalize hD1 : x.joint.1 - x.axle.1 = D1 at *
        generalize hD2 : x.joint.2 - x.axle.2 = D2 at *
        generalize hF1 : y.joint.1 - y.axle.1 = F1 at *
        generalize hF2 : y.joint.2 - y.axle.2 = F2 at *
        have i0 : (0 : Int) ≤ (k : Int) := by omega
        have i1 : (k : Int) < (m : Int) := by omega
        have i2 : (k : Int) < (v.units.length : Int) := by have := HM.out; omega
        have ewk := IntWalk.i64_in ((k : Int) + 1) (by have := HLN.out; omega)
        have hof : (k + 1) * 15 = 15 + k * 15 := by omega

        have x0 := Ext.cell E (hcx 0 _ rfl)
        have x1 := Ext.cell E (hcx 1 _ rfl)
        have x2 := Ext.cell E (hcx 2 _ rfl)
        have x3 := Ext.cell E (hcx 3 _ rfl)
        have x4 := Ext.cell E (hcx 4 _ rfl)
        have x5 := Ext.cell E (hcx 5 _ rfl)
        have x6 := Ext.cell E (hcx 6 _ rfl)
        have x7 := Ext.cell E (hcx 7 _ rfl)
        have x8 := Ext.cell E (hcx 8 _ rfl)
        have x9 := Ext.cell E (hcx 9 _ rfl)
        have x10 := Ext.cell E (hcx 10 _ rfl)
        have x11 := Ext.cell E (hcx 11 _ rfl)
        have x12 := Ext.cell E (hcx 12 _ rfl)
        have x13 := Ext.cell E (hcx 13 _ rfl)
        have x14 := Ext.cell E (hcx 14 _ rfl)
        have y0 := Ext.cell E (hcy 0 _ rfl)
        have y1 := Ext.cell E (hcy 1 _ rfl)
        have y2 := Ext.cell E (hcy 2 _ rfl)
        have y3 := Ext.cell E (hcy 3 _ rfl)
        have y4 := Ext.cell E (hcy 4 _ rfl)
        have y5 := Ext.cell E (hcy 5 _ rfl)
        have y6 := Ext.cell E (hcy 6 _ rfl)
        have y7 := Ext.cell E (hcy 7 _ rfl)
        have y8 := Ext.cell E (hcy 8 _ rfl)
        have y9 := Ext.cell E (hcy 9 _ rfl)
        have y10 := Ext.cell E (hcy 10 _ rfl)
        have y11 := Ext.cell E (hcy 11 _ rfl)
        have y12 := Ext.cell E (hcy 12 _ rfl)
        have y13 := Ext.cell E (hcy 13 _ rfl)
        have y14 := Ext.cell E (hcy 14 _ rfl)
        rw [hof] at y0 y1 y2 y3 y4 y5 y6 y7 y8 y9 y10 y11 y12 y13 y14
        simp only [Nat.add_zero] at x0 y0
        have lx := lt_of_cell x0
        have HLT := Lib.hid hlt
        clear hx hy HO2 hcx hcy hpx hpy hokx hoky bx by' cx cy m1 m2 hof hD1 hD2 hF1 hF2 hlt hk
        rw [HFK.out] at hst
        clear HFK
        by_cases hneg : D1 * F1 + D2 * F2 < 0
        · obtain rfl : B = true := by rw [hst, decide_eq_true hneg]; rfl
          clear hst
          go_wp2_with (first
            | (go_at_call 36; (with_reducible refine (CX.out _).mono ?_); rintro e w3 ⟨rfl, hb3⟩; have z0 := Ext.cell hb3 (p := ⟨wr.heap.size, 0, none⟩) (v := .int .i64 y.unit.kind) (by go_simp); have z1 := Ext.cell hb3 (p := ⟨wr.heap.size, 1, none⟩) (v := .int .i64 y.unit.length) (by go_simp); have z2 := Ext.cell hb3 (p := ⟨wr.heap.size, 2, none⟩) (v := .int .i64 y.unit.behind) (by go_simp); have z3 := Ext.cell hb3 (p := ⟨wr.heap.size, 3, none⟩) (v := .int .i64 y.unit.front) (by go_simp); have z4 := Ext.cell hb3 (p := ⟨wr.heap.size, 4, none⟩) (v := .int .i64 y.unit.rear) (by go_simp); have z5 := Ext.cell hb3 (p := ⟨wr.heap.size, 5, none⟩) (v := .int .i64 y.unit.width) (by go_simp); have z6 := Ext.cell hb3 (p := ⟨wr.heap.size, 6, none⟩) (v := .int .i64 y.unit.height) (by go_simp); have z7 := Ext.cell hb3 (p := ⟨wr.heap.size, 7, none⟩) (v := .int .i64 y.unit.mass) (by go_simp); have z8 := Ext.cell hb3 (p := ⟨wr.heap.size, 8, none⟩) (v := .int .i64 y.unit.steer) (by go_simp); have z9 := Ext.cell hb3 (p := ⟨wr.heap.size, 9, none⟩) (v := .int .i64 y.unit.most) (by go_simp); have z10 := Ext.cell hb3 (p := ⟨wr.heap.size, 10, none⟩) (v := .slice y.A y.unit.axles.length y.cap) (by go_simp); have z11 := Ext.cell hb3 (p := ⟨wr.heap.size, 11, none⟩) (v := .int .i64 y.joint.1) (by go_simp); have z12 := Ext.cell hb3 (p := ⟨wr.heap.size, 12, none⟩) (v := .int .i64 y.joint.2) (by go_simp); have z13 := Ext.cell hb3 (p := ⟨wr.heap.size, 13, none⟩) (v := .int .i64 y.axle.1) (by go_simp); have z14 := Ext.cell hb3 (p := ⟨wr.heap.size, 14, none⟩) (v := .int .i64 y.axle.2) (by go_simp))
            | (go_at_call 36; (with_reducible refine (CY.out _).mono ?_); rintro e w4 ⟨rfl, hb4⟩))
          go_ret2
          exact ⟨rfl, by (repeat' (first | exact Ext.refl _ | assumption | refine Ext.alloc ?_ _ | refine Ext.drew ?_ | refine Ext.drewN ?_ _ | refine Ext.set ?_ (by first | exact Nat.le_refl _ | exact le1 _ | exact le2 _ | exact le3 _ | exact le4 _ | exact le5 _ | exact le6 _) _ | refine Ext.trans ?_ (by assumption)))⟩
        · rw [decide_eq_false hneg, Bool.false_or] at hst
          have HST := Lib.hid hst
          clear hst
          go_wp2_with (first
            | (go_at_call 36; (with_reducible refine (CX.out _).mono ?_); rintro e w3 ⟨rfl, hb3⟩; have z0 := Ext.cell hb3 (p := ⟨wr.heap.size, 0, none⟩) (v := .int .i64 y.unit.kind) (by go_simp); have z1 := Ext.cell hb3 (p := ⟨wr.heap.size, 1, none⟩) (v := .int .i64 y.unit.length) (by go_simp); have z2 := Ext.cell hb3 (p := ⟨wr.heap.size, 2, none⟩) (v := .int .i64 y.unit.behind) (by go_simp); have z3 := Ext.cell hb3 (p := ⟨wr.heap.size, 3, none⟩) (v := .int .i64 y.unit.front) (by go_simp); have z4 := Ext.cell hb3 (p := ⟨wr.heap.size, 4, none⟩) (v := .int .i64 y.unit.rear) (by go_simp); have z5 := Ext.cell hb3 (p := ⟨wr.heap.size, 5, none⟩) (v := .int .i64 y.unit.width) (by go_simp); have z6 := Ext.cell hb3 (p := ⟨wr.heap.size, 6, none⟩) (v := .int .i64 y.unit.height) (by go_simp); have z7 := Ext.cell hb3 (p := ⟨wr.heap.size, 7, none⟩) (v := .int .i64 y.unit.mass) (by go_simp); have z8 := Ext.cell hb3 (p := ⟨wr.heap.size, 8, none⟩) (v := .int .i64 y.unit.steer) (by go_simp); have z9 := Ext.cell hb3 (p := ⟨wr.heap.size, 9, none⟩) (v := .int .i64 y.unit.most) (by go_simp); have z10 := Ext.cell hb3 (p := ⟨wr.heap.size, 10, none⟩) (v := .slice y.A y.unit.axles.length y.cap) (by go_simp); have z11 := Ext.cell hb3 (p := ⟨wr.heap.size, 11, none⟩) (v := .int .i64 y.joint.1) (by go_simp); have z12 := Ext.cell hb3 (p := ⟨wr.heap.size, 12, none⟩) (v := .int .i64 y.joint.2) (by go_simp); have z13 := Ext.cell hb3 (p := ⟨wr.heap.size, 13, none⟩) (v := .int .i64 y.axle.1) (by go_simp); have z14 := Ext.cell hb3 (p := ⟨wr.heap.size, 14, none⟩) (v := .int .i64 y.axle.2) (by go_simp))
            | (go_at_call 36; (with_reducible refine (CY.out _).mono ?_); rintro e w4 ⟨rfl, hb4⟩))
          go_roundw
          case rel => exact ⟨k + 1, HLT.out, by go_num, HST.out.symm, by (repeat' (first | exact Ext.refl _ | assumption | refine Ext.alloc ?_ _ | refine Ext.drew ?_ | refine Ext.drewN ?_ _ | refine Ext.set ?_ (by first | exact Nat.le_refl _ | exact le1 _ | exact le2 _ | exact le3 _ | exact le4 _ | exact le5 _ | exact le6 _) _ | refine Ext.trans ?_ (by assumption)))⟩
          case measure => have := HLT.out; simp [intOf]; omega
set_option maxRecDepth 100000 in
set_option maxHeartbeats 1600000 in
theorem Folded_c (w : World) (hs : Sl 11 RUnit w vu v.units) (hp : Pts w vp ps) :
    Calls Tryz.prog 12 #[vehV v vu, poseV lead vp] w fun e w' => e = .returned (b2V (foldS v lead ps)) ∧ Ext w w' := by
  by_cases h1 : poseE v lead ps = 0
  · rw [foldS_ok h1]
    exact Folded_go w hs hp h1
  · rw [foldS_bad h1]
    have CB := fun w' (h : Ext w w') => look_bad (lead := lead) w' (hs.ext RUnit.stable h) (hp.ext h) h1
    obtain ⟨A, cap, rfl, hl, hl2⟩ := hs.shape
    obtain ⟨Ap, capp, rfl⟩ := pts_shape hp
    obtain ⟨l1, l2⟩ := lead
    clear hs hp
    unfold vehV poseV b2V at *
    simp only at CB ⊢
    have HN := h1
    generalize poseE v (l1, l2) ps = E at *
    have C := Lib.hid CB
    clear CB h1
    go_enter Tryz.func12, Tryz.ntmps12
    go_wp2_with (go_at_call 35; refine (C.out _ (by (repeat' (first | exact Ext.refl _ | assumption | refine Ext.alloc ?_ _ | refine Ext.drew ?_ | refine Ext.drewN ?_ _ | refine Ext.set ?_ (by first | exact Nat.le_refl _ | exact le1 _ | exact le2 _ | exact le3 _ | exact le4 _ | exact le5 _ | exact le6 _) _ | refine Ext.trans ?_ (by assumption))))).mono ?_; rintro e w1 ⟨rfl, hb1⟩)
    go_ret2
    exact ⟨rfl, by (repeat' (first | exact Ext.refl _ | assumption | refine Ext.alloc ?_ _ | refine Ext.drew ?_ | refine Ext.drewN ?_ _ | refine Ext.set ?_ (by first | exact Nat.le_refl _ | exact le1 _ | exact le2 _ | exact le3 _ | exact le4 _ | exact le5 _ | exact le6 _) _ | refine Ext.trans ?_ (by assumption)))⟩
end
end Go.Proofs.YtcbjecpfijogcaaGreat
