/- The law ChainAhead, walked. -/
import Derived.Test.YtgikfliibimkdaaCAheadO
import Derived.Test.YtgikfliibimkdaaCBack
import Derived.Test.YtgikfliibimkdaaCBack2
import Derived.Test.YtgikfliibimkdaaCStepC
import Derived.Test.YtgikfliibimkdaaCPulled
import Derived.Test.YtgikfliibimkdaaCStrC
import Derived.Test.YtgikfliibimkdaaCSame
import Derived.Deep.OwnRows
import Derived.Test.YtgikfliibimkdaaUntil
namespace Go.Proofs.Ytgikfliibimkdaa
open Go.RowKit Go.Shelf

def RByte (_ : World) (cs : List Value) (n : Int) : Prop := cs = [.int .u8 n] ∧ 0 ≤ n ∧ n ≤ 255
theorem RByte.stable : Stable RByte := fun _ _ _ _ _ h => h
theorem zeros_sl {W : World} {b n : Nat} (h : ∀ i, i < n → W.cell? ⟨b, i, none⟩ = some (.int .i64 0)) (hn : n ≤ 9223372036854775807) : Sl 1 RNum W (.slice (some ⟨b, 0, none⟩) n n) (List.replicate n 0) :=
  ⟨some ⟨b, 0, none⟩, n, by simp, by simpa using hn, by simp, fun i x hi => by
    obtain ⟨hi1, rfl⟩ := List.getElem?_eq_some_iff.1 hi
    simp only [List.length_replicate] at hi1
    refine ⟨b, 0, [.int .i64 0], rfl, rfl, ⟨by simp, by simp, by simp⟩, fun j c hj => ?_⟩
    match j, hj with
    | 0, hj =>
      simp only [List.getElem?_cons_zero, Option.some.injEq] at hj
      subst hj
      simpa using h i hi1
    | j + 1, hj => simp at hj⟩
theorem pts_ne {w : World} {t : Nat} {ty : TypeId} {x : Value} {q : Pt} {l : List Pt} (hb : w.heap[t]? = some (.cells #[.int .i64 0, .int .i64 0, .slice none 0 0] ty (0, 0))) (hp : Pts w x (q :: l)) (hq : ¬ q = (0, 0)) : x.ownBlock ≠ some t := by
  intro e
  rcases hp with ⟨_, _, _, h⟩ | ⟨g, off, cap, rfl, _, _, hc⟩
  · cases h
  · obtain rfl : g = t := by simpa [Value.ownBlock] using e
    obtain ⟨c0, c1⟩ := hc 0 (by simp)
    simp only [Nat.zero_mul, Nat.add_zero, List.getD_cons_zero] at c0 c1
    simp only [World.cell?, hb] at c0 c1
    match off, c0, c1 with
    | 0, c0, c1 =>
      simp at c0 c1
      exact hq (Prod.ext c0.symm c1.symm)
    | 1, c0, c1 => simp at c1
    | 2, c0, c1 => simp at c0
    | n + 3, c0, c1 => simp at c0
theorem infoInt1 : (Try.prog.info? 3).map (fun i => (i.zero, i.size, i.bytes)) = some (some (.int .i64 0), 1, 8) := by kernel_rfl
section
variable {vu vp vst : Value} {v : CVeh} {ps : List Pt} {st : List Int}
theorem Back_all (o1 o2 l1 l2 : Int) (w : World) (hs : Sl 11 RUnit w vu v.units) (hp : Pts w vp ps) (hst : Sl 1 RNum w vst st) :
    Calls Try.prog 26 #[vehV v vu, poseV (o1, o2) vp, .agg #[.int .i64 l1, .int .i64 l2], vst] w (BackR v (o1, o2) ps (l1, l2) st w) := by
  by_cases h : poseE v (o1, o2) ps = 0
  · cases h2 : okPt (l1, l2)
    · exact Back_tail o1 o2 l1 l2 w hs hp hst h h2
    · cases h3 : backB v.units
      · exact Back_state o1 o2 l1 l2 w hs hp hst h h2 h3
      · by_cases h4 : steerE v st = 0
        · exact Back_go o1 o2 l1 l2 w hs hp hst h h2 h3 h4
        · exact Back_steer o1 o2 l1 l2 w hs hp hst h h2 h3 h4
  · exact Back_pose o1 o2 l1 l2 w hs hp hst h
end
section
variable {vu vb : Value} {v : CVeh} {bs : List Int}
set_option maxRecDepth 100000 in
set_option maxHeartbeats 1600000 in
theorem ahead_no (a : Int) (w : World) (hs : Sl 11 RUnit w vu v.units) (hb : Sl 1 RByte w vb bs) (h : (!longB v && decide (vehE v = 0)) = false) :
    Calls Try.prog 6 #[vehV v vu, .int .u8 a, vb] w fun e w' => e = .returned (.bool true) ∧ Ext w w' := by
  have CL := fun w' (h : Ext w w') => lvalid_c (v := v) w' (hs.ext RUnit.stable h)
  rw [h] at CL
  have CW := Lib.hid (fun w => cworks_c w)
  obtain ⟨A, cap, rfl, hl, hl2⟩ := hs.shape
  obtain ⟨Ab, capb, rfl, hlb, hlb2⟩ := hb.shape
  unfold vehV at *
  replace CL := Lib.hid CL
  clear hs hb h
  go_enter Try.func6, Try.ntmps6
  go_wp2_with (first | (go_at_call 20; refine (CL.out _ (by (repeat' (first | exact Ext.refl _ | assumption | refine Ext.alloc ?_ _ | refine Ext.drew ?_ | refine Ext.drewN ?_ _ | refine Ext.set ?_ (by first | exact Nat.le_refl _ | exact le1 _ | exact le2 _ | exact le3 _ | exact le4 _ | exact le5 _ | exact le6 _) _ | refine Ext.trans ?_ (by assumption))))).mono ?_; rintro e w1 ⟨rfl, hb1⟩) | (go_at_call 10; refine (CW.out _).mono ?_; rintro e wW ⟨rfl, hbW⟩))
  go_ret
  exact ⟨rfl, by (repeat' (first | exact Ext.refl _ | assumption | refine Ext.alloc ?_ _ | refine Ext.drew ?_ | refine Ext.drewN ?_ _ | refine Ext.set ?_ (by first | exact Nat.le_refl _ | exact le1 _ | exact le2 _ | exact le3 _ | exact le4 _ | exact le5 _ | exact le6 _) _ | refine Ext.trans ?_ (by assumption)))⟩
set_option maxRecDepth 100000 in
set_option maxHeartbeats 6400000 in
theorem ahead_go (a : Int) (w : World) (h0 : 0 ≤ a) (hs : Sl 11 RUnit w vu v.units) (hb : Sl 1 RByte w vb bs) (h : (!longB v && decide (vehE v = 0)) = true) :
    Calls Try.prog 6 #[vehV v vu, .int .u8 a, vb] w fun e w' => e = .returned (.bool true) ∧ Ext w w' := by
  have CL := fun w' (h : Ext w w') => lvalid_c (v := v) w' (hs.ext RUnit.stable h)
  rw [h] at CL
  have hE : vehE v = 0 := by simp only [Bool.and_eq_true, decide_eq_true_eq] at h; exact h.2
  have CW := Lib.hid (fun w => cworks_c w)
  have hd := dirN_is a
  have CON := fun t w' t1 t2 => on_c a t w' h0 t1 t2
  have COF := fun t w' => off_c a t w' h0
  generalize dirN a = D at *
  have hS := straight_axis hd hE
  obtain ⟨⟨s1, s2⟩, hP0⟩ : ∃ P, axP D 0 = P := ⟨_, rfl⟩
  obtain ⟨⟨m1, m2⟩, hPM⟩ : ∃ P, axP D (-1000) = P := ⟨_, rfl⟩
  rw [hP0, hPM] at hS
  have CS := fun w' (h : Ext w w') => Straight_c s1 s2 m1 m2 w' (hs.ext RUnit.stable h)
  have CA := fun w' => CON 0 w' (by omega) (by omega)
  have CM := fun w' => CON (-1000) w' (by omega) (by omega)
  rw [hP0] at CA
  rw [hPM] at CM
  have hlen := vehE_len hE
  have HSL := Lib.hid hs
  have HBY := Lib.hid hb
  have HE := Lib.hid hE
  have HD := Lib.hid hd
  have HV := Lib.hid (vehE_units hE)
  have HLN := Lib.hid hlen
  obtain ⟨A, cap, rfl, hl, hl2⟩ := hs.shape
  obtain ⟨Ab, capb, rfl, hlb, hlb2⟩ := hb.shape
  obtain ⟨ps0, hps0⟩ : ∃ l, ((xsN 0 v.units).map (axP D)) = l := ⟨_, rfl⟩
  unfold vehV StrR poseEV at *
  rw [hS, hps0] at CS
  simp only at CS CA CM
  have HCS := Lib.hid CS
  have HCA := Lib.hid CA
  have HCM := Lib.hid CM
  have HON := Lib.hid CON
  have HOF := Lib.hid COF
  have HP0 := Lib.hid hP0
  have HPS := Lib.hid hps0
  have HNE := Lib.hid (show ∃ q l, ps0 = q :: l ∧ ¬ q = (0, 0) by
    match hu : v.units with
    | [] => rw [hu] at hlen; simp at hlen
    | u :: us =>
      rw [hu] at hps0
      refine ⟨_, _, hps0.symm, fun e => ?_⟩
      have hz : axP D (0 - pulledN u) = axP D 0 := e.trans (by unfold axP; simp)
      have h1 := axP_inj hd hz
      have h2 := (unit_nums (vehE_units hE u (by rw [hu]; simp))).1
      omega)
  replace CL := Lib.hid CL
  have hmk := run_make_row' (P := Try.prog) 42 3 (.int .i64 0) 8 Try.underlying42 infoInt1 rfl .i64 .i64 v.units.length (by omega) hl
  have hmz : ∀ (W : World) (i : Nat), i < v.units.length → (W.alloc (.cells (madeCells #[.int .i64 0] v.units.length) 3)).cell? ⟨W.heap.size, i, none⟩ = some (.int .i64 0) := fun W i hi => (World.rowIs_made W (.int .i64 0) v.units.length 3).cell hi
  obtain ⟨MC, hMC⟩ : ∃ MC, madeCells #[.int .i64 0] v.units.length = MC := ⟨_, rfl⟩
  rw [hMC] at hmk hmz
  have HMZ := Lib.hid hmz
  clear hs hb h hE hd CON COF CS CA CM hS hP0 hPM hps0 hmz hMC hlen
  go_enter Try.func6, Try.ntmps6
  go_upto_region 4 with (go_at_call 20; refine (CL.out _ (by (repeat' (first | exact Ext.refl _ | assumption | refine Ext.alloc ?_ _ | refine Ext.drew ?_ | refine Ext.drewN ?_ _ | refine Ext.set ?_ (by first | exact Nat.le_refl _ | exact le1 _ | exact le2 _ | exact le3 _ | exact le4 _ | exact le5 _ | exact le6 _) _ | refine Ext.trans ?_ (by assumption))))).mono ?_; rintro e w1 ⟨rfl, hb⟩; have y0 := Ext.cell hb (p := ⟨w.heap.size, 0, none⟩) (v := .string v.name) (by go_simp); have y1 := Ext.cell hb (p := ⟨w.heap.size, 1, none⟩) (v := .slice A v.units.length cap) (by go_simp); have y2 := Ext.cell hb (p := ⟨w.heap.size, 2, none⟩) (v := .int .i64 v.first) (by go_simp); have y3 := Ext.cell hb (p := ⟨w.heap.size, 3, none⟩) (v := .int .i64 v.last) (by go_simp); have E1 : Ext w w1 := ((Ext.refl w).alloc _).trans hb; clear hb; have hly := lt_of_cell y0)

  have HY := Lib.hid (And.intro y0 (And.intro y1 (And.intro y2 y3)))
  go_cut [8, 9] (fun sa sb wc => ∃ (t : Nat) (As : Option Addr) (cs : Nat), sa = .pointer (some ⟨t, 0, none⟩) ∧ sb = .int .i64 0 ∧ Ext w1 wc ∧ w1.heap.size ≤ t ∧ wc.heap[t]? = some (.cells #[.int .i64 s1, .int .i64 s2, .slice As ps0.length cs] 29 (0, 0)) ∧ Pts wc (.slice As ps0.length cs) ps0)
  case first =>
    go_region_held3 (fun w' => w'.cell? ⟨w.heap.size, 0, none⟩ = some (.string v.name) ∧ w'.cell? ⟨w.heap.size, 1, none⟩ = some (.slice A v.units.length cap) ∧ w'.cell? ⟨w.heap.size, 2, none⟩ = some (.int .i64 v.first) ∧ w'.cell? ⟨w.heap.size, 3, none⟩ = some (.int .i64 v.last)) (refine ⟨?_, ?_, ?_, ?_⟩ <;> (repeat' (with_reducible (first | assumption | refine Ext.cell hbZ ?_ | refine Ext.cell hbM ?_ | refine Ext.cell hbA ?_ | refine Ext.cell (Ext.refl _).drew ?_ | refine cell_set_ne (by first | omega | (simp; omega)) ?_ | refine Ext.cell ((Ext.refl _).alloc _) ?_)))) (first
      | (go_at_call 29; (with_reducible refine (HCA.out _).mono ?_); rintro e wA ⟨rfl, hbA⟩; have zA := (show Ext w1 wA from by (repeat' (first | exact Ext.refl _ | assumption | refine Ext.alloc ?_ _ | refine Ext.drew ?_ | refine Ext.drewN ?_ _ | refine Ext.set ?_ (by first | exact Nat.le_refl _ | exact le1 _ | exact le2 _ | exact le3 _ | exact le4 _ | exact le5 _ | exact le6 _) _ | refine Ext.trans ?_ (by assumption)))).sz; (try (have yW : wA.heap[w1.heap.size]? = some (.cells #[.int .i64 0, .int .i64 0, .slice none 0 0] 29 (0, 0)) := new_kept (W := w1.drew) hbA)); skip)
      | (go_at_call 29; (with_reducible refine (HCM.out _).mono ?_); rintro e wM ⟨rfl, hbM⟩; have zM := (show Ext w1 wM from by (repeat' (first | exact Ext.refl _ | assumption | refine Ext.alloc ?_ _ | refine Ext.drew ?_ | refine Ext.drewN ?_ _ | refine Ext.set ?_ (by first | exact Nat.le_refl _ | exact le1 _ | exact le2 _ | exact le3 _ | exact le4 _ | exact le5 _ | exact le6 _) _ | refine Ext.trans ?_ (by assumption)))).sz; (try (replace yW := (hbM.block _ (Array.getElem?_eq_some_iff.1 yW).1).trans yW)); (try (have yA : wM.heap[wA.heap.size]? = some (.cells #[.int .i64 0, .int .i64 0, .slice none 0 0] 29 (0, 0)) := new_kept (W := wA) hbM)); (try (have yW : wM.heap[w1.heap.size]? = some (.cells #[.int .i64 0, .int .i64 0, .slice none 0 0] 29 (0, 0)) := new_kept (W := w1.drew) hbM)); skip)
      | (go_at_call 11; refine (HCS.out _ (by (repeat' (first | exact Ext.refl _ | assumption | refine Ext.alloc ?_ _ | refine Ext.drew ?_ | refine Ext.drewN ?_ _ | refine Ext.set ?_ (by first | exact Nat.le_refl _ | exact le1 _ | exact le2 _ | exact le3 _ | exact le4 _ | exact le5 _ | exact le6 _) _ | refine Ext.trans ?_ (by assumption))))).mono ?_; rintro e wZ ⟨vz, rfl, hpz, hbZ⟩; obtain ⟨As, cs, rfl⟩ := pts_shape hpz; have zZ := (show Ext w1 wZ from by (repeat' (first | exact Ext.refl _ | assumption | refine Ext.alloc ?_ _ | refine Ext.drew ?_ | refine Ext.drewN ?_ _ | refine Ext.set ?_ (by first | exact Nat.le_refl _ | exact le1 _ | exact le2 _ | exact le3 _ | exact le4 _ | exact le5 _ | exact le6 _) _ | refine Ext.trans ?_ (by assumption)))).sz; (try (replace yW := (hbZ.block _ (Array.getElem?_eq_some_iff.1 yW).1).trans yW)); (try (replace yA := (hbZ.block _ (Array.getElem?_eq_some_iff.1 yA).1).trans yA)); (try (have yM : wZ.heap[wM.heap.size]? = some (.cells #[.int .i64 0, .int .i64 0, .slice none 0 0] 29 (0, 0)) := new_kept (W := wM) hbZ)); (try (have c0 : wZ.cell? ⟨w1.heap.size, 0, none⟩ = some (.int .i64 0) := news_at yW 0 _ rfl; have c1 : wZ.cell? ⟨w1.heap.size, 1, none⟩ = some (.int .i64 0) := news_at yW 1 _ rfl; have c2 : wZ.cell? ⟨w1.heap.size, 2, none⟩ = some (.slice none 0 0) := news_at yW 2 _ rfl; have f0 := blk_frz yW 0; have f1 := blk_frz yW 1; have f2 := blk_frz yW 2)); (try (have c0 : wZ.cell? ⟨wA.heap.size, 0, none⟩ = some (.int .i64 0) := news_at yA 0 _ rfl; have c1 : wZ.cell? ⟨wA.heap.size, 1, none⟩ = some (.int .i64 0) := news_at yA 1 _ rfl; have c2 : wZ.cell? ⟨wA.heap.size, 2, none⟩ = some (.slice none 0 0) := news_at yA 2 _ rfl; have f0 := blk_frz yA 0; have f1 := blk_frz yA 1; have f2 := blk_frz yA 2)); (try (have c0 : wZ.cell? ⟨wM.heap.size, 0, none⟩ = some (.int .i64 0) := news_at yM 0 _ rfl; have c1 : wZ.cell? ⟨wM.heap.size, 1, none⟩ = some (.int .i64 0) := news_at yM 1 _ rfl; have c2 : wZ.cell? ⟨wM.heap.size, 2, none⟩ = some (.slice none 0 0) := news_at yM 2 _ rfl; have f0 := blk_frz yM 0; have f1 := blk_frz yM 1; have f2 := blk_frz yM 2)); skip))
    all_goals
      obtain ⟨q0, l0, hpc, hq0⟩ := HNE.out
      go_wp2_with fail
      go_meet
      first
        | exact ⟨wZ.heap.size, As, cs, rfl, rfl, (show Ext w1 wZ from by (repeat' (first | exact Ext.refl _ | assumption | refine Ext.alloc ?_ _ | refine Ext.drew ?_ | refine Ext.drewN ?_ _ | refine Ext.set ?_ (by first | exact Nat.le_refl _ | exact le1 _ | exact le2 _ | exact le3 _ | exact le4 _ | exact le5 _ | exact le6 _) _ | refine Ext.trans ?_ (by assumption)))).alloc _, zZ, new_at rfl, hpz.ext ((Ext.refl wZ).alloc _)⟩
        | (have hnb : (Value.slice As ps0.length cs).ownBlock ≠ some wM.heap.size := pts_ne yM (by rw [hpc] at hpz ⊢; exact hpz) hq0; exact ⟨wM.heap.size, As, cs, rfl, rfl, (((show Ext w1 wZ from by (repeat' (first | exact Ext.refl _ | assumption | refine Ext.alloc ?_ _ | refine Ext.drew ?_ | refine Ext.drewN ?_ _ | refine Ext.set ?_ (by first | exact Nat.le_refl _ | exact le1 _ | exact le2 _ | exact le3 _ | exact le4 _ | exact le5 _ | exact le6 _) _ | refine Ext.trans ?_ (by assumption)))).set (p := ⟨wM.heap.size, 0, none⟩) zM _).set (p := ⟨wM.heap.size, 1, none⟩) zM _).set (p := ⟨wM.heap.size, 2, none⟩) zM _, zM, three_set _ _ _ yM, pts_put (pts_put (pts_put hpz hnb) hnb) hnb⟩)
        | (have hnb : (Value.slice As ps0.length cs).ownBlock ≠ some wA.heap.size := pts_ne yA (by rw [hpc] at hpz ⊢; exact hpz) hq0; exact ⟨wA.heap.size, As, cs, rfl, rfl, (((show Ext w1 wZ from by (repeat' (first | exact Ext.refl _ | assumption | refine Ext.alloc ?_ _ | refine Ext.drew ?_ | refine Ext.drewN ?_ _ | refine Ext.set ?_ (by first | exact Nat.le_refl _ | exact le1 _ | exact le2 _ | exact le3 _ | exact le4 _ | exact le5 _ | exact le6 _) _ | refine Ext.trans ?_ (by assumption)))).set (p := ⟨wA.heap.size, 0, none⟩) zA _).set (p := ⟨wA.heap.size, 1, none⟩) zA _).set (p := ⟨wA.heap.size, 2, none⟩) zA _, zA, three_set _ _ _ yA, pts_put (pts_put (pts_put hpz hnb) hnb) hnb⟩)
        | (have hnb : (Value.slice As ps0.length cs).ownBlock ≠ some w1.heap.size := pts_ne yW (by rw [hpc] at hpz ⊢; exact hpz) hq0; exact ⟨w1.heap.size, As, cs, rfl, rfl, (((show Ext w1 wZ from by (repeat' (first | exact Ext.refl _ | assumption | refine Ext.alloc ?_ _ | refine Ext.drew ?_ | refine Ext.drewN ?_ _ | refine Ext.set ?_ (by first | exact Nat.le_refl _ | exact le1 _ | exact le2 _ | exact le3 _ | exact le4 _ | exact le5 _ | exact le6 _) _ | refine Ext.trans ?_ (by assumption)))).set (p := ⟨w1.heap.size, 0, none⟩) (Nat.le_refl _) _).set (p := ⟨w1.heap.size, 1, none⟩) (Nat.le_refl _) _).set (p := ⟨w1.heap.size, 2, none⟩) (Nat.le_refl _) _, (Nat.le_refl _), three_set _ _ _ yW, pts_put (pts_put (pts_put hpz hnb) hnb) hnb⟩)
  case rest =>
    obtain ⟨t, As, cs, rfl, rfl, E14, ht, hT, hps⟩ := hcut
    generalize wc = W4 at *
    replace y0 := Ext.cell E14 y0
    replace y1 := Ext.cell E14 y1
    replace y2 := Ext.cell E14 y2
    replace y3 := Ext.cell E14 y3
    have hlt4 := fst_lt hT
    go_upto_region 8 with fail
    have h45 : Ext W4 (W4.alloc (.cells MC 3)) := (Ext.refl W4).alloc _
    have hz5 := fun i hi => HMZ.out W4 i hi
    have hT5 := h45.blk hT
    have hp5 := hps.ext h45
    have E15 := E14.trans h45
    have E5 := E1.trans E15
    obtain ⟨M, hM⟩ : ∃ M, W4.heap.size = M := ⟨_, rfl⟩
    have htM : t < M := by omega
    have h1M : w1.heap.size ≤ M := by have := E14.sz; omega
    rw [hM] at hz5 ⊢
    generalize (W4.alloc (.cells MC 3)) = W5 at *
    have hlw1 : w.heap.size < w1.heap.size := hly
    replace y0 := Ext.cell h45 y0
    replace y1 := Ext.cell h45 y1
    replace y2 := Ext.cell h45 y2
    replace y3 := Ext.cell h45 y3
    have HT := Lib.hid hT5
    have HP5 := Lib.hid hp5
    have HZ5 := Lib.hid hz5
    clear hT hps hT5 hp5 hz5 h45 E14 hM hlt4 E5
    go_wp2_with fail
    go_loopw [7, 11] (fun sn i wr => ∃ (k : Nat) (n : Int) (va : Value), k ≤ bs.length ∧ k ≤ 20 ∧ i = .int .i64 k ∧ sn = .int .i64 n ∧ 0 ≤ n ∧ n ≤ 255 * (k : Int) ∧ wr.heap[t]? = some (.cells #[.int .i64 (axP D n).1, .int .i64 (axP D n).2, va] 29 (0, 0)) ∧ Pts wr va ((xsN n v.units).map (axP D)) ∧ (∀ i, i < v.units.length → wr.cell? ⟨M, i, none⟩ = some (.int .i64 0)) ∧ Ext w1 wr) (fun _ i _ => 20 - (intOf i).toNat)
    case atStart => exact ⟨0, 0, _, by omega, by omega, rfl, rfl, by omega, by omega, by rw [HP0.out]; exact HT.out, by rw [HPS.out]; exact HP5.out, HZ5.out, E15⟩
    case round =>
      obtain ⟨k, n, va, hk, hk20, rfl, rfl, hn0, hn1, hA, hpx, hz, E⟩ := hrel
      have EW := E1.trans E
      by_cases hlt : k < bs.length ∧ k < 20
      case neg =>
        have hx : (¬ (k : Int) < (bs.length : Int)) ∨ ((k : Int) < (bs.length : Int) ∧ ¬ (k : Int) < 20) := by omega
        clear hpx hA hz
        rcases hx with hx | ⟨hx, hx2⟩
        all_goals
          go_wp2_with (go_at_call 10; refine (CW.out _).mono ?_; rintro e wW ⟨rfl, hbW⟩)
          go_ret
          exact ⟨rfl, by (repeat' (first | exact Ext.refl _ | assumption | refine Ext.alloc ?_ _ | refine Ext.drew ?_ | refine Ext.drewN ?_ _ | refine Ext.set ?_ (by first | exact Nat.le_refl _ | exact le1 _ | exact le2 _ | exact le3 _ | exact le4 _ | exact le5 _ | exact le6 _) _ | refine Ext.trans ?_ (by assumption)))⟩
      case pos =>
        obtain ⟨x, hx⟩ := some_of_lt hlt.1
        obtain ⟨bb, boff, css, rfl, _, ⟨rfl, x1, x2⟩, hcb⟩ := HBY.out.at hx
        have b0 := hcb 0 _ rfl
        simp only [Nat.add_zero, Nat.mul_one] at b0
        have hlen := HLN.out
        have r0 : roomB n v.units := by unfold roomB; omega
        have r1 : roomB (n + x) v.units := by unfold roomB; omega
        have hpose := pose_axis HD.out HE.out r0
        have hpose1 := pose_axis HD.out HE.out r1
        have hjt := joint_axis HD.out HE.out r0
        have hbk := backS_axis HD.out HE.out r0
        have hst := stepS_axis HD.out HE.out r0 r1 (by omega)
        have hdot := fun k c e => dot_axis HD.out HV.out r1 (k := k) (c := c) (e := e)
        have hlx : ((xsN n v.units).map (axP D)).length = v.units.length := by rw [List.length_map, xsN_len]
        have hlx1 : ((xsN (n + x) v.units).map (axP D)).length = v.units.length := by rw [List.length_map, xsN_len]
        have hxs : ∀ (j : Nat) (p : Pt), ((xsN (n + x) v.units).map (axP D))[j]? = some p → ∃ tt, p = axP D tt := by
          intro j p hp
          rw [List.getElem?_map] at hp
          cases hq : (xsN (n + x) v.units)[j]? with
          | none => rw [hq] at hp; cases hp
          | some tt => rw [hq] at hp; simp only [Option.map_some, Option.some.injEq] at hp; exact ⟨tt, hp.symm⟩
        have CN := fun w' => HON.out (n + x) w' (by omega) (by omega)
        obtain ⟨⟨p1, p2⟩, hP⟩ : ∃ P, axP D n = P := ⟨_, rfl⟩
        obtain ⟨⟨q1, q2⟩, hQ⟩ : ∃ P, axP D (n + x) = P := ⟨_, rfl⟩
        obtain ⟨⟨g1, g2⟩, hG⟩ : ∃ P, axP D (endN n v.units) = P := ⟨_, rfl⟩
        obtain ⟨pa, hpa⟩ : ∃ l, ((xsN n v.units).map (axP D)) = l := ⟨_, rfl⟩
        obtain ⟨pb, hpb⟩ : ∃ l, ((xsN (n + x) v.units).map (axP D)) = l := ⟨_, rfl⟩
        rw [hP, hpa] at hpose hjt hbk hst
        rw [hQ, hpb] at hpose1 hst hdot
        rw [hG] at hjt hbk
        rw [hP] at hA
        rw [hpa] at hpx hlx
        rw [hpb] at hlx1 hxs
        rw [hQ] at CN
        obtain ⟨Aa, ca, rfl⟩ := pts_shape hpx
        have HSLr := Lib.hid (HSL.out.ext RUnit.stable EW)
        have CJ := fun w' (he : Ext wr w') => CJoint_c (lead := (p1, p2)) (v.units.length : Int) w' (HSLr.out.ext RUnit.stable he) (hpx.ext he)
        rw [hjt] at CJ
        have CB := fun w' (he : Ext wr w') => Back_all p1 p2 g1 g2 w' (HSLr.out.ext RUnit.stable he) (hpx.ext he) (zeros_sl (fun i hi => Ext.cell he (hz i hi)) hl)
        unfold BackR at CB
        rw [hbk] at CB
        have CT := fun w' (he : Ext wr w') => Step_c p1 p2 q1 q2 w' (HSLr.out.ext RUnit.stable he) (hpx.ext he) (zeros_sl (fun i hi => Ext.cell he (hz i hi)) hl)
        unfold StepR at CT
        rw [hst] at CT
        have CF := fun w' (he : Ext w1 w') vq (hq : Pts w' vq pb) => Folded_no (lead := (q1, q2)) w' (HSL.out.ext RUnit.stable (E1.trans he)) hq hpose1 hdot
        unfold vehV poseV at CJ CB CT CF
        unfold ptV at CJ
        unfold poseEV at CB CT
        dsimp only at CJ CB CT CF CN
        have t0 : wr.cell? ⟨t, 0, none⟩ = some (.int .i64 p1) := news_at hA 0 _ rfl
        have t1 : wr.cell? ⟨t, 1, none⟩ = some (.int .i64 p2) := news_at hA 1 _ rfl
        have t2 : wr.cell? ⟨t, 2, none⟩ = some (.slice Aa pa.length ca) := news_at hA 2 _ rfl
        replace y0 := Ext.cell E HY.out.1
        replace y1 := Ext.cell E HY.out.2.1
        replace y2 := Ext.cell E HY.out.2.2.1
        replace y3 := Ext.cell E HY.out.2.2.2
        replace b0 := Ext.cell EW b0
        have HAA := Lib.hid hA
        have HPX := Lib.hid hpx
        have HZ := Lib.hid hz
        have HCJ := Lib.hid CJ
        have HCT := Lib.hid CT
        have HCF := Lib.hid CF
        have HCN := Lib.hid CN
        have HLX := Lib.hid (And.intro hlx hlx1)
        have HXS := Lib.hid hxs
        have HGP := Lib.hid (And.intro hQ hpb)
        have HLT := Lib.hid hlt
        have HB := Lib.hid CB
        have i0 : (0 : Int) ≤ (k : Int) := by omega
        have i1 : (k : Int) < (bs.length : Int) := by omega
        have i2 : (k : Int) < 20 := by omega
        have ewx := IntWalk.i64_in x (by omega)
        have ewn := IntWalk.i64_in (n + x) (by omega)
        have ewk := IntWalk.i64_in ((k : Int) + 1) (by omega)
        have lty := lt_of_cell y0
        have ltt := lt_of_cell t0
        have ltb := lt_of_cell b0
        clear CJ CT CF CN CB hxs hlx hlx1 hQ hpb hP hpa hG hlt hx hcb hpose hpose1 hjt hbk hst hdot hA hpx hz r0 r1 hlen
        go_upto_region 12 with (go_at_call 16; refine (HCJ.out _ (by (repeat' (first | exact Ext.refl _ | assumption | refine Ext.alloc ?_ _ | refine Ext.drew ?_ | refine Ext.drewN ?_ _ | refine Ext.set ?_ (by first | exact Nat.le_refl _ | exact le1 _ | exact le2 _ | exact le3 _ | exact le4 _ | exact le5 _ | exact le6 _) _ | refine Ext.trans ?_ (by assumption))))).mono ?_; rintro e w7 ⟨rfl, hbJ⟩; replace y0 := Ext.cell hbJ y0; replace y1 := Ext.cell hbJ y1; replace y2 := Ext.cell hbJ y2; replace y3 := Ext.cell hbJ y3; replace t0 := Ext.cell hbJ t0; replace t1 := Ext.cell hbJ t1; replace t2 := Ext.cell hbJ t2; replace b0 := Ext.cell hbJ b0; have lt6 := lt_of_cell y0; have lt7 := lt_of_cell t0)
        have E7 : Ext wr (w7.alloc (.cells #[.int .i64 g1, .int .i64 g2] 26)) := hbJ.alloc _
        have G7 : (w7.alloc (.cells #[.int .i64 g1, .int .i64 g2] 26)).heap[w7.heap.size]? = some (.cells #[.int .i64 g1, .int .i64 g2] 26 (0, 0)) := new_at rfl
        have h78 : Ext w7 (w7.alloc (.cells #[.int .i64 g1, .int .i64 g2] 26)) := (Ext.refl w7).alloc _
        generalize (w7.alloc (.cells #[.int .i64 g1, .int .i64 g2] 26)) = W8 at *
        replace y0 := Ext.cell h78 y0
        replace y1 := Ext.cell h78 y1
        replace y2 := Ext.cell h78 y2
        replace y3 := Ext.cell h78 y3
        replace t0 := Ext.cell h78 t0
        replace t1 := Ext.cell h78 t1
        replace t2 := Ext.cell h78 t2
        replace b0 := Ext.cell h78 b0
        have G0 : W8.cell? ⟨w7.heap.size, 0, none⟩ = some (.int .i64 g1) := news_at G7 0 _ rfl
        have G1 : W8.cell? ⟨w7.heap.size, 1, none⟩ = some (.int .i64 g2) := news_at G7 1 _ rfl
        have lt8 := lt_of_cell y0
        have lt9 := lt_of_cell t0
        have lt10 := lt_of_cell G0
        clear h78 G7 hbJ
        go_cut [14, 15] from 38 to 139 (fun sa sb wc => ∃ (tb : Nat) (ob1 ob2 eb : Int) (vb : Value), sa = .pointer (some ⟨tb, 0, none⟩) ∧ sb = .int .i64 eb ∧ Ext W8 wc ∧ wc.heap[tb]? = some (.cells #[.int .i64 ob1, .int .i64 ob2, vb] 29 (0, 0)) ∧ (∃ (A : Option Addr) (n c : Nat), vb = .slice A n c) ∧ ((eb = 0 ∧ ob1 = p1 ∧ ob2 = p2 ∧ Pts wc vb pa) ∨ eb = 10))
        case first =>
          have hB := HB.out
          by_cases hbb : backB v.units = true
          case pos =>
            rw [if_pos hbb] at hB
            have HB2 := Lib.hid hB
            clear hB hbb
            go_wp2_with (go_at_call 26; refine (HB2.out _ E7).mono ?_; rintro e w9 ⟨vb9, rfl, hp9, hb9⟩; obtain ⟨A9, c9, rfl⟩ := pts_shape hp9; dsimp only)
            go_meet
            exact ⟨w9.heap.size, p1, p2, 0, _, rfl, rfl, hb9.alloc _, new_at rfl, ⟨_, _, _, rfl⟩, .inl ⟨rfl, rfl, rfl, hp9.ext ((Ext.refl w9).alloc _)⟩⟩
          case neg =>
            rw [if_neg hbb] at hB
            have HB2 := Lib.hid hB
            clear hB hbb
            go_wp2_with (go_at_call 26; refine (HB2.out _ E7).mono ?_; rintro e w9 ⟨vb9, rfl, hp9, hb9⟩; obtain ⟨A9, c9, rfl⟩ := pts_shape hp9; dsimp only)
            go_meet
            exact ⟨w9.heap.size, 0, 0, 10, _, rfl, rfl, hb9.alloc _, new_at rfl, ⟨_, _, _, rfl⟩, .inr rfl⟩
        case rest =>
          obtain ⟨tb, ob1, ob2, eb, vb, rfl, rfl, E89, hTB, ⟨Ab, nb, cb, rfl⟩, hor⟩ := hcut
          generalize wc = W9 at *
          replace y0 := Ext.cell E89 y0
          replace y1 := Ext.cell E89 y1
          replace y2 := Ext.cell E89 y2
          replace y3 := Ext.cell E89 y3
          replace t0 := Ext.cell E89 t0
          replace t1 := Ext.cell E89 t1
          replace t2 := Ext.cell E89 t2
          replace b0 := Ext.cell E89 b0
          have E9 := E7.trans E89
          clear G0 G1 lt8 lt9 lt10 lty ltt ltb
          have o0 : W9.cell? ⟨tb, 0, none⟩ = some (.int .i64 ob1) := news_at hTB 0 _ rfl
          have o1 : W9.cell? ⟨tb, 1, none⟩ = some (.int .i64 ob2) := news_at hTB 1 _ rfl
          have o2 : W9.cell? ⟨tb, 2, none⟩ = some (.slice Ab nb cb) := news_at hTB 2 _ rfl
          have HPA9 := Lib.hid (HPX.out.ext E9)
          go_upto_region 13 with fail
          go_cut [84] from 38 to 139 (fun sa wc => sa = .bool false ∧ Ext W9 wc)
          case first =>
            rcases hor with ⟨rfl, rfl, rfl, hpo⟩ | rfl
            · obtain ⟨A5, c5, e5⟩ := pts_shape hpo
              rw [e5] at o2 hpo
              have CSm := Lib.hid (fun w' (h : Ext W9 w') => Same_c ob1 ob2 (.slice A5 pa.length c5) (.slice Aa pa.length ca) pa w' (hpo.ext h) (HPA9.out.ext h))
              clear hpo e5
              go_wp2_with (go_at_call 13; refine (CSm.out _ (by (repeat' (first | exact Ext.refl _ | assumption | refine Ext.alloc ?_ _ | refine Ext.drew ?_ | refine Ext.drewN ?_ _ | refine Ext.set ?_ (by first | exact Nat.le_refl _ | exact le1 _ | exact le2 _ | exact le3 _ | exact le4 _ | exact le5 _ | exact le6 _) _ | refine Ext.trans ?_ (by assumption))))).mono ?_; rintro e w10 ⟨rfl, hb10⟩)
              go_meet
              exact ⟨rfl, by (repeat' (first | exact Ext.refl _ | assumption | refine Ext.alloc ?_ _ | refine Ext.drew ?_ | refine Ext.drewN ?_ _ | refine Ext.set ?_ (by first | exact Nat.le_refl _ | exact le1 _ | exact le2 _ | exact le3 _ | exact le4 _ | exact le5 _ | exact le6 _) _ | refine Ext.trans ?_ (by assumption)))⟩
            · go_wp2_with fail
              go_meet
              exact ⟨rfl, by (repeat' (first | exact Ext.refl _ | assumption | refine Ext.alloc ?_ _ | refine Ext.drew ?_ | refine Ext.drewN ?_ _ | refine Ext.set ?_ (by first | exact Nat.le_refl _ | exact le1 _ | exact le2 _ | exact le3 _ | exact le4 _ | exact le5 _ | exact le6 _) _ | refine Ext.trans ?_ (by assumption)))⟩
          case rest =>
            obtain ⟨rfl, E910⟩ := hcut
            generalize wc = W10 at *
            replace y0 := Ext.cell E910 y0
            replace y1 := Ext.cell E910 y1
            replace y2 := Ext.cell E910 y2
            replace y3 := Ext.cell E910 y3
            replace t0 := Ext.cell E910 t0
            replace t1 := Ext.cell E910 t1
            replace t2 := Ext.cell E910 t2
            replace b0 := Ext.cell E910 b0
            have E10 := E9.trans E910
            clear o0 o1 o2 hor hTB E89 E910 E7 E9
            have lty := lt_of_cell y0
            have ltt := lt_of_cell t0
            have ltb := lt_of_cell b0
            go_upto_region 16 with fail
            go_cut [13] from 38 to 139 (fun sa wc => sa = .int .i64 0 ∧ ∃ (wz : World) (Az : Option Addr) (cz : Nat), Ext W10 wz ∧ Pts wz (.slice Az pb.length cz) pb ∧ (Value.slice Az pb.length cz).ownBlock ≠ some t ∧ wc = (((wz.setCell ⟨t, 0, none⟩ (.int .i64 q1)).setCell ⟨t, 1, none⟩ (.int .i64 q2)).setCell ⟨t, 2, none⟩ (.slice Az pb.length cz)))
            case first =>
              refine until_region 10 (S := (fun w' => w'.cell? ⟨w.heap.size, 0, none⟩ = some (.string v.name) ∧ w'.cell? ⟨w.heap.size, 1, none⟩ = some (.slice A v.units.length cap) ∧ w'.cell? ⟨w.heap.size, 2, none⟩ = some (.int .i64 v.first) ∧ w'.cell? ⟨w.heap.size, 3, none⟩ = some (.int .i64 v.last) ∧ w'.cell? ⟨t, 0, none⟩ = some (.int .i64 p1) ∧ w'.cell? ⟨t, 1, none⟩ = some (.int .i64 p2) ∧ w'.cell? ⟨t, 2, none⟩ = some (.slice Aa pa.length ca))) (by kernel_rfl) ⟨y0, y1, y2, y3, t0, t1, t2⟩ (fun hHeld => ?_)
              refine until_take (i := 0) (v := ?_) rfl (by kernel_rfl) (by kernel_rfl) (by kernel_rfl) (by kernel_rfl) (fun _ _ _ h => h) (Or.inl ⟨by rfl, ?_⟩) (by assumption) ?_
              rotate_left
              · (intro w hSw; (try dsimp only at hSw); go_simp; (first | done | with_reducible rfl))
              simp only [Act.put, List.setIfInBounds_toArray, List.set_cons_zero, List.set_cons_succ]
              refine until_take (i := 1) (v := ?_) rfl (by kernel_rfl) (by kernel_rfl) (by kernel_rfl) (by kernel_rfl) (fun _ _ _ h => h) (Or.inl ⟨by rfl, ?_⟩) (by assumption) ?_
              rotate_left
              · (intro w hSw; (try dsimp only at hSw); go_simp; (first | done | with_reducible rfl))
              simp only [Act.put, List.setIfInBounds_toArray, List.set_cons_zero, List.set_cons_succ]
              refine until_takeY (i := 2) (v := ?_) rfl (by kernel_rfl) (by kernel_rfl) (by kernel_rfl) (by rfl) (fun _ _ _ h => h) (Or.inl ⟨by rfl, ?_⟩) (by assumption) ?_
              rotate_left
              · (intro w; go_simp; (first | done | with_reducible rfl))
              simp only [Act.put, List.setIfInBounds_toArray, List.set_cons_zero, List.set_cons_succ]
              refine until_takeY (i := 3) (v := ?_) rfl (by kernel_rfl) (by kernel_rfl) (by kernel_rfl) (by rfl) (fun _ _ _ h => h) (Or.inl ⟨by rfl, ?_⟩) (by assumption) ?_
              rotate_left
              · (intro w; go_simp; (first | done | with_reducible rfl))
              simp only [Act.put, List.setIfInBounds_toArray, List.set_cons_zero, List.set_cons_succ]
              refine until_takeY (i := 5) (v := ?_) rfl (by kernel_rfl) (by kernel_rfl) (by kernel_rfl) (by rfl) (fun _ _ _ h => h) (Or.inl ⟨by rfl, ?_⟩) (by assumption) ?_
              rotate_left
              · (intro w; go_simp; (first | done | with_reducible rfl))
              simp only [Act.put, List.setIfInBounds_toArray, List.set_cons_zero, List.set_cons_succ]
              refine until_one (i := 4) rfl (by kernel_rfl) (by rfl) (fun K hK => ?_)
              go_simp
              (go_at_call 29; refine (HCN.out _).mono ?_; rintro e wN ⟨rfl, hbN⟩; go_wp2_with fail)
              have EN : Ext W10 wN := (Ext.refl W10).drew.trans hbN
              refine hK.out _ _ ⟨Ext.cell EN y0, Ext.cell EN y1, Ext.cell EN y2, Ext.cell EN y3, Ext.cell EN t0, Ext.cell EN t1, Ext.cell EN t2⟩ (fun hHeld2 => ?_)
              refine until_one (i := 6) rfl (by kernel_rfl) (by rfl) (fun K hK => ?_)
              go_simp
              (go_at_call 21; refine (HCT.out _ (E10.trans EN)).mono ?_; rintro e wZ ⟨vz, rfl, hpz, hoz, hbZ⟩; obtain ⟨Az, cz, rfl⟩ := pts_shape hpz; dsimp only; go_wp2_with fail)
              have EZ : Ext W10 wZ := EN.trans hbZ
              refine hK.out _ _ ⟨Ext.cell EZ y0, Ext.cell EZ y1, Ext.cell EZ y2, Ext.cell EZ y3, Ext.cell EZ t0, Ext.cell EZ t1, Ext.cell EZ t2⟩ (fun hHeld3 => ?_)
              refine until_takeY (i := 7) (v := ?_) rfl (by kernel_rfl) (by kernel_rfl) (by kernel_rfl) (by rfl) (fun _ _ _ h => h) (Or.inl ⟨by rfl, ?_⟩) (by assumption) ?_
              rotate_left
              · (intro w; go_simp; (first | done | with_reducible rfl))
              simp only [Act.put, List.setIfInBounds_toArray, List.set_cons_zero, List.set_cons_succ]
              refine until_takeY (i := 8) (v := ?_) rfl (by kernel_rfl) (by kernel_rfl) (by kernel_rfl) (by rfl) (fun _ _ _ h => h) (Or.inl ⟨by rfl, ?_⟩) (by assumption) ?_
              rotate_left
              · (intro w; go_simp; (first | done | with_reducible rfl))
              simp only [Act.put, List.setIfInBounds_toArray, List.set_cons_zero, List.set_cons_succ]
              refine until_takeY (i := 9) (v := ?_) rfl (by kernel_rfl) (by kernel_rfl) (by kernel_rfl) (by rfl) (fun _ _ _ h => h) (Or.inl ⟨by rfl, ?_⟩) (by assumption) ?_
              rotate_left
              · (intro w; go_simp; (first | done | with_reducible rfl))
              simp only [Act.put, List.setIfInBounds_toArray, List.set_cons_zero, List.set_cons_succ]
              have tZ := EZ.blk (E10.blk HAA.out)
              have z0 := Ext.cell EZ t0
              have z1 := Ext.cell EZ t1
              have z2 := Ext.cell EZ t2
              have f0 := blk_frz tZ 0
              have f1 := blk_frz tZ 1
              have f2 := blk_frz tZ 2
              refine until_last (st := 10) rfl (by kernel_rfl) (fun K hK => ?_)
              go_simp
              refine hK.out _ _ ?_
              refine uany_take (i := 11) (v := ?_) rfl (by kernel_rfl) (by kernel_rfl) (by kernel_rfl) (fun _ _ _ h => h) (Or.inl ⟨by rfl, ?_⟩) ?_
              rotate_left
              · (intro w; go_simp; (first | done | with_reducible rfl))
              simp only [Act.put, List.setIfInBounds_toArray, List.set_cons_zero, List.set_cons_succ]
              refine uany_done (by kernel_rfl) ?_ _
              go_wp2_with fail
              go_meet
              exact ⟨rfl, wZ, Az, cz, EZ, hpz, fun hg => by have h7 := hoz _ hg; have h8 := EN.sz; omega, rfl⟩
            case rest =>
              obtain ⟨rfl, wz, Az, cz, Ez, hpz, hnz, hwc⟩ := hcut
              have hAz := Ez.blk (E10.blk HAA.out)
              have E0z := (E.trans E10).trans Ez
              have hTF : wc.heap[t]? = some (.cells #[.int .i64 q1, .int .i64 q2, .slice Az pb.length cz] 29 (0, 0)) := by rw [hwc]; exact three_set _ _ _ hAz
              have hPF : Pts wc (.slice Az pb.length cz) pb := by rw [hwc]; exact pts_put (pts_put (pts_put hpz hnz) hnz) hnz
              have EF : Ext w1 wc := by rw [hwc]; exact ((E0z.set (p := ⟨t, 0, none⟩) ht _).set (p := ⟨t, 1, none⟩) ht _).set (p := ⟨t, 2, none⟩) ht _
              have hZF : ∀ i, i < v.units.length → wc.cell? ⟨M, i, none⟩ = some (.int .i64 0) := by
                intro i hi
                rw [hwc]
                exact cell_set_ne (by show M ≠ t; omega) (cell_set_ne (by show M ≠ t; omega) (cell_set_ne (by show M ≠ t; omega) (Ext.cell (E10.trans Ez) (HZ.out i hi))))
              generalize wc = W11 at *
              clear hwc hpz hnz hAz Ez E0z E10 E EW lty ltt ltb b0 HAA HPX HZ HCJ HB HCT HCN
              replace y0 := Ext.cell EF HY.out.1
              replace y1 := Ext.cell EF HY.out.2.1
              replace y2 := Ext.cell EF HY.out.2.2.1
              replace y3 := Ext.cell EF HY.out.2.2.2
              replace t0 : W11.cell? ⟨t, 0, none⟩ = some (.int .i64 q1) := news_at hTF 0 _ rfl
              replace t1 : W11.cell? ⟨t, 1, none⟩ = some (.int .i64 q2) := news_at hTF 1 _ rfl
              replace t2 : W11.cell? ⟨t, 2, none⟩ = some (.slice Az pb.length cz) := news_at hTF 2 _ rfl
              have HTF := Lib.hid hTF
              have HPF := Lib.hid hPF
              have HZF := Lib.hid hZF
              have lty := lt_of_cell y0
              have ltt := lt_of_cell t0
              clear hTF hPF hZF
              go_upto_region 18 with (go_at_call 30; refine (HCF.out _ (by (repeat' (first | exact Ext.refl _ | assumption | refine Ext.alloc ?_ _ | refine Ext.drew ?_ | refine Ext.drewN ?_ _ | refine Ext.set ?_ (by first | exact Nat.le_refl _ | exact le1 _ | exact le2 _ | exact le3 _ | exact le4 _ | exact le5 _ | exact le6 _) _ | refine Ext.trans ?_ (by assumption)))) (.slice Az pb.length cz) HPF.out).mono ?_; rintro e w12 ⟨rfl, hb12⟩; replace y0 := Ext.cell hb12 y0; replace y1 := Ext.cell hb12 y1; replace y2 := Ext.cell hb12 y2; replace y3 := Ext.cell hb12 y3; replace t0 := Ext.cell hb12 t0; replace t1 := Ext.cell hb12 t1; replace t2 := Ext.cell hb12 t2)
              have E12 : Ext w1 w12 := EF.trans hb12
              go_cut [125] from 38 to 139 (fun sa wc => sa = .bool false ∧ wc = w12)
              case first =>
                have hl1 : (pb.length : Int) = (v.units.length : Int) := by have := HLX.out.2; omega
                go_wp2_with fail
                go_meet
                exact ⟨rfl, rfl⟩
              case rest =>
                obtain ⟨rfl, hwc⟩ := hcut
                subst hwc
                have hl24 := HLX.out.2
                have HL24 := Lib.hid hl24
                clear hl24
                go_wp2_with fail
                go_loopw [18] (fun i wl => ∃ j : Nat, j ≤ pb.length ∧ i = .int .i64 j ∧ Ext wc wl) (fun i _ => pb.length - (intOf i).toNat)
                case atStart => exact ⟨0, by omega, rfl, Ext.refl _⟩
                case round =>
                  obtain ⟨j, hj, rfl, El⟩ := hrel
                  replace t0 := Ext.cell El t0
                  replace t1 := Ext.cell El t1
                  replace t2 := Ext.cell El t2
                  have hln12 := HLN.out
                  have hl24 := HL24.out
                  by_cases hjl : j < pb.length
                  case neg =>
                    have ix : ¬ (j : Int) < (pb.length : Int) := by omega
                    have HR := Lib.hid (show ∃ (k' : Nat) (n' : Int) (va : Value), k' ≤ bs.length ∧ k' ≤ 20 ∧ Value.int .i64 ((k : Int) + 1) = .int .i64 k' ∧ Value.int .i64 (n + x) = .int .i64 n' ∧ 0 ≤ n' ∧ n' ≤ 255 * (k' : Int) ∧ wr.heap[t]? = some (.cells #[.int .i64 (axP D n').1, .int .i64 (axP D n').2, va] 29 (0, 0)) ∧ Pts wr va ((xsN n' v.units).map (axP D)) ∧ (∀ i, i < v.units.length → wr.cell? ⟨M, i, none⟩ = some (.int .i64 0)) ∧ Ext w1 wr from by
                      refine ⟨k + 1, n + x, .slice Az pb.length cz, HLT.out.1, HLT.out.2, by simp, rfl, by omega, by omega, ?_, ?_, fun i hi => Ext.cell (hb12.trans El) (HZF.out i hi), E12.trans El⟩
                      · rw [HGP.out.1]; exact El.blk (hb12.blk HTF.out)
                      · rw [HGP.out.2]; exact HPF.out.ext (hb12.trans El))
                    clear hln12 hl24 hj hjl
                    go_wp2_with fail
                    go_roundw
                    case rel => exact HR.out
                    case measure => have h8 := HLT.out; simp [intOf]; omega
                  case pos =>
                    obtain ⟨⟨w01, w02⟩, hp⟩ := some_of_lt hjl
                    obtain ⟨tt, htt⟩ := HXS.out j _ hp
                    obtain ⟨zb, zo, rfl, z0, z1⟩ := pts_at (HPF.out.ext (hb12.trans El)) hp
                    have COF := fun w' => HOF.out tt w'
                    rw [← htt] at COF
                    dsimp only at COF
                    have HF2 := Lib.hid COF
                    have i5 : (0 : Int) ≤ (j : Int) := by omega
                    have i6 : (j : Int) < (pb.length : Int) := by omega
                    have ewj := IntWalk.i64_in ((j : Int) + 1) (by omega)
                    have HJL := Lib.hid hjl
                    clear COF htt hp hjl hj hln12 hl24
                    go_wp2_with (go_at_call 31; refine (HF2.out _).mono ?_; rintro e w13 ⟨rfl, hb13⟩)
                    go_roundw
                    case rel => exact ⟨j + 1, HJL.out, by go_num, El.trans hb13⟩
                    case measure => have := HJL.out; simp [intOf]; omega
theorem ahead_law (a : Int) (w : World) (h0 : 0 ≤ a) (hs : Sl 11 RUnit w vu v.units) (hb : Sl 1 RByte w vb bs) :
    Calls Try.prog 6 #[vehV v vu, .int .u8 a, vb] w fun e w' => e = .returned (.bool true) ∧ Ext w w' := by
  cases h : (!longB v && decide (vehE v = 0))
  · exact ahead_no a w hs hb h
  · exact ahead_go a w h0 hs hb h
end
end Go.Proofs.Ytgikfliibimkdaa
