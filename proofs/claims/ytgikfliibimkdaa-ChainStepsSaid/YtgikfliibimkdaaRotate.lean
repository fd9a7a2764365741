
/- Contracts on turns: Rotate (both texts). -/
import Derived.Test.YtgikfliibimkdaaRot2
import Derived.Deep.DeepCutAuto
namespace Go.Proofs.Ytgikfliibimkdaa
open Go.RowKit

/-- a point, turned -/
def turnP (p o : Int × Int) (c s n : Int) : Int × Int :=
  (o.1 + Pl.near ((p.1 - o.1) * c - (p.2 - o.2) * s) n, o.2 + Pl.near ((p.1 - o.1) * s + (p.2 - o.2) * c) n)
def rotateS (p o : Int × Int) (c s n : Int) : (Int × Int) × Int :=
  if (okPt p && okPt o) = false then ((0, 0), 2) else if okRot c s n = false then ((0, 0), 2) else resS (turnP p o c s n)

theorem turn_bds {u v c s n : Int} (h : okRot c s n = true) (u1 : -33554432 ≤ u) (u2 : u ≤ 33554432) (v1 : -33554432 ≤ v) (v2 : v ≤ 33554432) :
    (-562949953421312 ≤ u * c ∧ u * c ≤ 562949953421312) ∧ (-562949953421312 ≤ v * s ∧ v * s ≤ 562949953421312) ∧ (-562949953421312 ≤ u * s ∧ u * s ≤ 562949953421312) ∧ (-562949953421312 ≤ v * c ∧ v * c ≤ 562949953421312) ∧
    (1 ≤ n ∧ n ≤ 16777216) ∧ (-2000000000000000 ≤ Pl.near (u * c - v * s) n ∧ Pl.near (u * c - v * s) n ≤ 2000000000000000) ∧ (-2000000000000000 ≤ Pl.near (u * s + v * c) n ∧ Pl.near (u * s + v * c) n ≤ 2000000000000000) := by
  obtain ⟨p1, p2, p3, _⟩ := okRot_bd h
  have m1 := Pl.mul_bd (a := u) (b := c) (A := 33554432) (B := 16777216) (by omega) (by omega) (by omega) (by omega)
  have m2 := Pl.mul_bd (a := v) (b := s) (A := 33554432) (B := 16777216) (by omega) (by omega) (by omega) (by omega)
  have m3 := Pl.mul_bd (a := u) (b := s) (A := 33554432) (B := 16777216) (by omega) (by omega) (by omega) (by omega)
  have m4 := Pl.mul_bd (a := v) (b := c) (A := 33554432) (B := 16777216) (by omega) (by omega) (by omega) (by omega)
  have r1 := Pl.near_bd (n := u * c - v * s) (d := n) (b := 1200000000000000) (by omega) (by omega) (by omega) (by omega)
  have r2 := Pl.near_bd (n := u * s + v * c) (d := n) (b := 1200000000000000) (by omega) (by omega) (by omega) (by omega)
  omega

set_option maxRecDepth 100000 in
set_option maxHeartbeats 1600000 in
theorem Turned_c (px py ox oy c s n : Int) (w : World) (h1 : okPt (px, py) = true) (h2 : okPt (ox, oy) = true) (h3 : okRot c s n = true) :
    Calls Try.prog 107 #[.agg #[.int .i64 px, .int .i64 py], .agg #[.int .i64 ox, .int .i64 oy], .agg #[.int .i64 c, .int .i64 s, .int .i64 n]] w fun e w' =>
      e = .returned (.agg #[.int .i64 (turnP (px, py) (ox, oy) c s n).1, .int .i64 (turnP (px, py) (ox, oy) c s n).2]) ∧ Ext w w' := by
  obtain ⟨a1, a2, a3, a4⟩ := okPt_bd h1
  obtain ⟨a5, a6, a7, a8⟩ := okPt_bd h2
  obtain ⟨⟨b1, b2⟩, ⟨b3, b4⟩, ⟨b5, b6⟩, ⟨b7, b8⟩, ⟨b9, b10⟩, ⟨b11, b12⟩, b13, b14⟩ := turn_bds (u := px - ox) (v := py - oy) h3 (by omega) (by omega) (by omega) (by omega)
  clear h1 h2 h3
  have q1 : -4000000000000000000 ≤ (px - ox) * c - (py - oy) * s ∧ (px - ox) * c - (py - oy) * s ≤ 4000000000000000000 := by omega
  have q2 : -4000000000000000000 ≤ (px - ox) * s + (py - oy) * c ∧ (px - ox) * s + (py - oy) * c ≤ 4000000000000000000 := by omega
  have q3 : n ≤ 4000000000000000000 := by omega
  have e1 := IntWalk.i64_in ((px - ox) * c) (by omega)
  have e2 := IntWalk.i64_in ((py - oy) * s) (by omega)
  have e3 := IntWalk.i64_in ((px - ox) * c - (py - oy) * s) (by omega)
  have e4 := IntWalk.i64_in ((px - ox) * s) (by omega)
  have e5 := IntWalk.i64_in ((py - oy) * c) (by omega)
  have e6 := IntWalk.i64_in ((px - ox) * s + (py - oy) * c) (by omega)
  have e7 := IntWalk.i64_in (ox + Pl.near ((px - ox) * c - (py - oy) * s) n) (by omega)
  have e8 := IntWalk.i64_in (oy + Pl.near ((px - ox) * s + (py - oy) * c) n) (by omega)
  have E := Lib.hid (And.intro e1 (And.intro e2 (And.intro e3 (And.intro e4 (And.intro e5 (And.intro e6 (And.intro e7 e8)))))))
  have Q := Lib.hid (And.intro q1 (And.intro q2 (And.intro b9 q3)))
  clear e1 e2 e3 e4 e5 e6 e7 e8 q1 q2 q3 b1 b2 b3 b4 b5 b6 b7 b8 b11 b12 b13 b14 b9 b10
  unfold turnP
  go_enter Try.func107, Try.ntmps107
  go_wp2_with fail
  obtain ⟨e1, e2, e3, e4, e5, e6, e7, e8⟩ := E
  clear a1 a2 a3 a4 a5 a6 a7 a8
  generalize hU : px - ox = u at *
  generalize hV : py - oy = v at *
  refine Tail.wp_region_tail 31 (by kernel_rfl) (by kernel_rfl) (fun _ _ _ _ _ h => h) ?_
  simp only [List.take_succ_cons, List.take_zero, List.drop_succ_cons, List.drop_zero]
  repeat (first
    | still_step
    | (refine wpStill_step (fun K hK => ?_); go_simp
       refine ⟨_, (Near_c _ _ _ (by first | exact Q.out.1.1 | exact Q.out.2.1.1) (by first | exact Q.out.1.2 | exact Q.out.2.1.2) (by exact Q.out.2.2.1) (by exact Q.out.2.2.2)).mono (fun _ _ h => ⟨h.1, h.2.symm⟩), hK _ ?_⟩
       clear hK K))
  refine wpStill_nil ?_
  clear e1 e2 e3 e4 e5 e6 e7 e8
  go_wp2_with fail
  subst hV hU
  exact bodyPost_ret (v := .agg #[.int .i64 (ox + Pl.near ((px - ox) * c - (py - oy) * s) n), .int .i64 (oy + Pl.near ((px - ox) * s + (py - oy) * c) n)]) (by simp [results, Try.results107, go_sem]) rfl ⟨rfl, by (repeat' (first | exact Ext.refl _ | assumption | refine Ext.alloc ?_ _ | refine Ext.drew ?_ | refine Ext.drewN ?_ _ | refine Ext.set ?_ (by first | exact Nat.le_refl _ | exact le1 _ | exact le2 _ | exact le3 _ | exact le4 _ | exact le5 _ | exact le6 _) _ | refine Ext.trans ?_ (by assumption)))⟩

set_option maxRecDepth 100000 in
set_option maxHeartbeats 1600000 in
theorem Rotate_c (px py ox oy c s n : Int) (w : World) :
    Calls Try.prog 87 #[.agg #[.int .i64 px, .int .i64 py], .agg #[.int .i64 ox, .int .i64 oy], .agg #[.int .i64 c, .int .i64 s, .int .i64 n]] w fun e w' =>
      e = .returned (ptV (rotateS (px, py) (ox, oy) c s n)) ∧ Ext w w' := by
  cases h1 : (okPt (px, py) && okPt (ox, oy))
  · rw [show rotateS (px, py) (ox, oy) c s n = ((0, 0), 2) by simp only [rotateS, h1, if_true]]
    have hA : RowKit.Hid ([(px, py), (ox, oy)].all okPt = false) := by simp [RowKit.Hid] at h1 ⊢; exact h1
    clear h1
    go_enter Try.func87, Try.ntmps87
    go_wp2_with (go_at_call 58; refine (valid_c _ [(px, py), (ox, oy)] _ (two_pts _ _ _ _ _ _ ?_ ?_ ?_ ?_)).mono ?_)
    · go_simp
    · go_simp
    · go_simp
    · go_simp
    rintro e w' ⟨he, hb2⟩
    rw [hA.out] at he; subst he
    (first | (replace hb := Ext.trans hb hb2; clear hb2 hc hf; obtain ⟨hc, hf⟩ := bcell hb) | (obtain ⟨hc, hf⟩ := bcell hb2; have hb := hb2; clear hb2)); have hz := Ext.sz hb; repeat (first | rw [size_alloc] at hz | rw [size_drewN] at hz | rw [size_drew] at hz | rw [size_setCell] at hz)
    go_wp2
    exact bodyPost_ret (v := ptV ((0, 0), 2)) (by simp [results, Try.results87, go_sem, hc, ptV]) rfl ⟨rfl, by (repeat' (first | exact Ext.refl _ | assumption | refine Ext.alloc ?_ _ | refine Ext.drew ?_ | refine Ext.drewN ?_ _ | refine Ext.set ?_ (by first | exact Nat.le_refl _ | exact le1 _ | exact le2 _ | exact le3 _ | exact le4 _ | exact le5 _ | exact le6 _) _ | refine Ext.trans ?_ (by assumption)))⟩
  have hA : RowKit.Hid ([(px, py), (ox, oy)].all okPt = true) := by simp [RowKit.Hid] at h1 ⊢; exact h1
  cases h3 : okRot c s n
  · rw [show rotateS (px, py) (ox, oy) c s n = ((0, 0), 2) by simp [rotateS, h3]]
    have h4 : RowKit.Hid (errRot c s n = 2) := by simp [RowKit.Hid, errRot, h3]
    clear h1 h3
    go_enter Try.func87, Try.ntmps87
    go_wp2_with (go_at_call 58; refine (valid_c _ [(px, py), (ox, oy)] _ (two_pts _ _ _ _ _ _ ?_ ?_ ?_ ?_)).mono ?_)
    · go_simp
    · go_simp
    · go_simp
    · go_simp
    rintro e w' ⟨he, hb2⟩
    rw [hA.out] at he; subst he
    (first | (replace hb := Ext.trans hb hb2; clear hb2 hc hf; obtain ⟨hc, hf⟩ := bcell hb) | (obtain ⟨hc, hf⟩ := bcell hb2; have hb := hb2; clear hb2)); have hz := Ext.sz hb; repeat (first | rw [size_alloc] at hz | rw [size_drewN] at hz | rw [size_drew] at hz | rw [size_setCell] at hz)
    go_wp2_with fail
    refine (CheckRot_c _ _ _ _).mono ?_; rintro e w' ⟨he, hb2⟩; rw [h4.out] at he; subst he; (first | (replace hb := Ext.trans hb hb2; clear hb2 hc hf; obtain ⟨hc, hf⟩ := bcell hb) | (obtain ⟨hc, hf⟩ := bcell hb2; have hb := hb2; clear hb2)); have hz := Ext.sz hb; repeat (first | rw [size_alloc] at hz | rw [size_drewN] at hz | rw [size_drew] at hz | rw [size_setCell] at hz)
    go_wp2_with fail
    exact bodyPost_ret (v := ptV ((0, 0), 2)) (by simp [results, Try.results87, go_sem, hc, ptV]) rfl ⟨rfl, by (repeat' (first | exact Ext.refl _ | assumption | refine Ext.alloc ?_ _ | refine Ext.drew ?_ | refine Ext.drewN ?_ _ | refine Ext.set ?_ (by first | exact Nat.le_refl _ | exact le1 _ | exact le2 _ | exact le3 _ | exact le4 _ | exact le5 _ | exact le6 _) _ | refine Ext.trans ?_ (by assumption)))⟩
  rw [show rotateS (px, py) (ox, oy) c s n = resS (turnP (px, py) (ox, oy) c s n) by simp [rotateS, h1, h3]]
  have h4 : RowKit.Hid (errRot c s n = 0) := by simp [RowKit.Hid, errRot, h3]
  simp only [Bool.and_eq_true] at h1
  obtain ⟨h1, h2⟩ := h1
  obtain ⟨a1, a2, a3, a4⟩ := okPt_bd h1
  obtain ⟨a5, a6, a7, a8⟩ := okPt_bd h2
  obtain ⟨⟨b1, b2⟩, ⟨b3, b4⟩, ⟨b5, b6⟩, ⟨b7, b8⟩, ⟨b9, b10⟩, ⟨b11, b12⟩, b13, b14⟩ := turn_bds (u := px - ox) (v := py - oy) h3 (by omega) (by omega) (by omega) (by omega)
  clear h1 h2 h3
  have q1 : -4000000000000000000 ≤ (px - ox) * c - (py - oy) * s ∧ (px - ox) * c - (py - oy) * s ≤ 4000000000000000000 := by omega
  have q2 : -4000000000000000000 ≤ (px - ox) * s + (py - oy) * c ∧ (px - ox) * s + (py - oy) * c ≤ 4000000000000000000 := by omega
  have q3 : n ≤ 4000000000000000000 := by omega
  have e1 := IntWalk.i64_in ((px - ox) * c) (by omega)
  have e2 := IntWalk.i64_in ((py - oy) * s) (by omega)
  have e3 := IntWalk.i64_in ((px - ox) * c - (py - oy) * s) (by omega)
  have e4 := IntWalk.i64_in ((px - ox) * s) (by omega)
  have e5 := IntWalk.i64_in ((py - oy) * c) (by omega)
  have e6 := IntWalk.i64_in ((px - ox) * s + (py - oy) * c) (by omega)
  have e7 := IntWalk.i64_in (ox + Pl.near ((px - ox) * c - (py - oy) * s) n) (by omega)
  have e8 := IntWalk.i64_in (oy + Pl.near ((px - ox) * s + (py - oy) * c) n) (by omega)
  have E := Lib.hid (And.intro e1 (And.intro e2 (And.intro e3 (And.intro e4 (And.intro e5 (And.intro e6 (And.intro e7 e8)))))))
  have Q := Lib.hid (And.intro q1 (And.intro q2 (And.intro b9 q3)))
  clear e1 e2 e3 e4 e5 e6 e7 e8 q1 q2 q3 b1 b2 b3 b4 b5 b6 b7 b8 b11 b12 b13 b14 b9 b10
  unfold turnP
  go_enter Try.func87, Try.ntmps87
  go_wp2_with (go_at_call 58; refine (valid_c _ [(px, py), (ox, oy)] _ (two_pts _ _ _ _ _ _ ?_ ?_ ?_ ?_)).mono ?_)
  · go_simp
  · go_simp
  · go_simp
  · go_simp
  rintro e w' ⟨he, hb2⟩
  rw [hA.out] at he; subst he
  (first | (replace hb := Ext.trans hb hb2; clear hb2 hc hf; obtain ⟨hc, hf⟩ := bcell hb) | (obtain ⟨hc, hf⟩ := bcell hb2; have hb := hb2; clear hb2)); have hz := Ext.sz hb; repeat (first | rw [size_alloc] at hz | rw [size_drewN] at hz | rw [size_drew] at hz | rw [size_setCell] at hz)
  go_wp2_with fail
  refine (CheckRot_c _ _ _ _).mono ?_; rintro e w' ⟨he, hb2⟩; rw [h4.out] at he; subst he; (first | (replace hb := Ext.trans hb hb2; clear hb2 hc hf; obtain ⟨hc, hf⟩ := bcell hb) | (obtain ⟨hc, hf⟩ := bcell hb2; have hb := hb2; clear hb2)); have hz := Ext.sz hb; repeat (first | rw [size_alloc] at hz | rw [size_drewN] at hz | rw [size_drew] at hz | rw [size_setCell] at hz)
  go_upto_region 3 with (fail)
  go_cut [8, 9] (fun s8 s9 wc => s8 = .int .i64 (px - ox) ∧ s9 = .int .i64 (py - oy) ∧ Ext w wc ∧ wc.cell? ⟨w.heap.size + 1, 0, none⟩ = some (.int .i64 ox) ∧ wc.cell? ⟨w.heap.size + 1, 1, none⟩ = some (.int .i64 oy) ∧
    wc.cell? ⟨w.heap.size + 1 + 1, 0, none⟩ = some (.int .i64 c) ∧ wc.cell? ⟨w.heap.size + 1 + 1, 1, none⟩ = some (.int .i64 s) ∧ wc.cell? ⟨w.heap.size + 1 + 1, 2, none⟩ = some (.int .i64 n) ∧
    wc.cell? ⟨w.heap.size + 1 + 1 + 1, 0, none⟩ = some (.int .i64 0) ∧ wc.cell? ⟨w.heap.size + 1 + 1 + 1, 1, none⟩ = some (.int .i64 0) ∧ wc.frozen? ⟨w.heap.size + 1 + 1 + 1, 0, none⟩ = false ∧ wc.frozen? ⟨w.heap.size + 1 + 1 + 1, 1, none⟩ = false ∧ w.heap.size + 1 + 1 + 1 < wc.heap.size)
  case first =>
    go_quiet (fail)
    go_wp2_with fail
    go_meet
    exact ⟨rfl, rfl, by (repeat' (first | exact Ext.refl _ | assumption | refine Ext.alloc ?_ _ | refine Ext.drew ?_ | refine Ext.drewN ?_ _ | refine Ext.set ?_ (by first | exact Nat.le_refl _ | exact le1 _ | exact le2 _ | exact le3 _ | exact le4 _ | exact le5 _ | exact le6 _) _ | refine Ext.trans ?_ (by assumption))), by go_simp, by go_simp, by go_simp, by go_simp, by go_simp, by go_simp, by go_simp, by go_simp, by go_simp, by rw [size_drewN]; omega⟩
  case rest =>
    obtain ⟨rfl, rfl, hE, o0, o1, r0, r1, r2, z0, z1, f0, f1, hlt⟩ := hcut
    clear hc hf hb hz h4 hA
    go_wp2_with fail
    obtain ⟨e1, e2, e3, e4, e5, e6, e7, e8⟩ := E
    clear a1 a2 a3 a4 a5 a6 a7 a8
    generalize hU : px - ox = u at *
    generalize hV : py - oy = v at *
    refine Tail.wp_region_tail 31 (by kernel_rfl) (by kernel_rfl) (fun _ _ _ _ _ h => h) ?_
    simp only [List.take_succ_cons, List.take_zero, List.drop_succ_cons, List.drop_zero]
    repeat (first
      | still_step
      | (refine wpStill_step (fun K hK => ?_); go_simp
         refine ⟨_, (near_c _ _ _ (by first | exact Q.out.1.1 | exact Q.out.2.1.1) (by first | exact Q.out.1.2 | exact Q.out.2.1.2) (by exact Q.out.2.2.1) (by exact Q.out.2.2.2)).mono (fun _ _ h => ⟨h.1, h.2.symm⟩), hK _ ?_⟩
         clear hK K))
    refine wpStill_nil ?_
    clear e1 e2 e3 e4 e5 e6 e7 e8
    go_wp2_with fail
    refine (result_c _ _ _).mono ?_
    rintro e w' ⟨he, hb⟩
    unfold ptV at he; subst he
    have z0' := Ext.cell hb (p := ⟨w.heap.size + 1 + 1 + 1, 0, none⟩) (v := .int .i64 0) (by go_simp)
    have z1' := Ext.cell hb (p := ⟨w.heap.size + 1 + 1 + 1, 1, none⟩) (v := .int .i64 0) (by go_simp)
    have f0' := Ext.frz hb (p := ⟨w.heap.size + 1 + 1 + 1, 0, none⟩) hlt (by go_simp)
    have f1' := Ext.frz hb (p := ⟨w.heap.size + 1 + 1 + 1, 1, none⟩) hlt (by go_simp)
    go_wp2_with fail
    subst hV hU
    exact bodyPost_ret (v := ptV (resS (ox + Pl.near ((px - ox) * c - (py - oy) * s) n, oy + Pl.near ((px - ox) * s + (py - oy) * c) n))) (by simp [results, Try.results87, go_sem, ptV, z0', z1']) rfl ⟨rfl, by (repeat' (first | exact Ext.refl _ | assumption | refine Ext.alloc ?_ _ | refine Ext.drew ?_ | refine Ext.drewN ?_ _ | refine Ext.set ?_ (by first | exact Nat.le_refl _ | exact le1 _ | exact le2 _ | exact le3 _ | exact le4 _ | exact le5 _ | exact le6 _) _ | refine Ext.trans ?_ (by assumption)))⟩

set_option maxRecDepth 100000 in
set_option maxHeartbeats 1600000 in
theorem RRotate_c (px py ox oy c s n : Int) (w : World) :
    Calls Try.prog 90 #[.agg #[.int .i64 px, .int .i64 py], .agg #[.int .i64 ox, .int .i64 oy], .agg #[.int .i64 c, .int .i64 s, .int .i64 n]] w fun e w' =>
      e = .returned (ptV (rotateS (px, py) (ox, oy) c s n)) ∧ Ext w w' := by
  cases h1 : okPt (px, py)
  · rw [show rotateS (px, py) (ox, oy) c s n = ((0, 0), 2) by simp [rotateS, h1]]
    go_enter Try.func90, Try.ntmps90
    go_wp2_with (go_at_call 47; refine (Is_c _ _ _).mono ?_; rintro e w' ⟨rfl, hb2⟩; (first | (replace hb := Ext.trans hb hb2; clear hb2 hc hf; obtain ⟨hc, hf⟩ := bcell hb) | (obtain ⟨hc, hf⟩ := bcell hb2; have hb := hb2; clear hb2)); have hz := Ext.sz hb; repeat (first | rw [size_alloc] at hz | rw [size_drewN] at hz | rw [size_drew] at hz | rw [size_setCell] at hz))
    exact bodyPost_ret (v := ptV ((0, 0), 2)) (by simp [results, Try.results90, go_sem, hc, ptV]) rfl ⟨rfl, by (repeat' (first | exact Ext.refl _ | assumption | refine Ext.alloc ?_ _ | refine Ext.drew ?_ | refine Ext.drewN ?_ _ | refine Ext.set ?_ (by first | exact Nat.le_refl _ | exact le1 _ | exact le2 _ | exact le3 _ | exact le4 _ | exact le5 _ | exact le6 _) _ | refine Ext.trans ?_ (by assumption)))⟩
  cases h2 : okPt (ox, oy)
  · rw [show rotateS (px, py) (ox, oy) c s n = ((0, 0), 2) by simp [rotateS, h2]]
    go_enter Try.func90, Try.ntmps90
    go_wp2_with (go_at_call 47; refine (Is_c _ _ _).mono ?_; rintro e w' ⟨rfl, hb2⟩; (first | (replace hb := Ext.trans hb hb2; clear hb2 hc hf; obtain ⟨hc, hf⟩ := bcell hb) | (obtain ⟨hc, hf⟩ := bcell hb2; have hb := hb2; clear hb2)); have hz := Ext.sz hb; repeat (first | rw [size_alloc] at hz | rw [size_drewN] at hz | rw [size_drew] at hz | rw [size_setCell] at hz))
    exact bodyPost_ret (v := ptV ((0, 0), 2)) (by simp [results, Try.results90, go_sem, hc, ptV]) rfl ⟨rfl, by (repeat' (first | exact Ext.refl _ | assumption | refine Ext.alloc ?_ _ | refine Ext.drew ?_ | refine Ext.drewN ?_ _ | refine Ext.set ?_ (by first | exact Nat.le_refl _ | exact le1 _ | exact le2 _ | exact le3 _ | exact le4 _ | exact le5 _ | exact le6 _) _ | refine Ext.trans ?_ (by assumption)))⟩
  cases h3 : okRot c s n
  · rw [show rotateS (px, py) (ox, oy) c s n = ((0, 0), 2) by simp [rotateS, h3]]
    have h4 : RowKit.Hid (errRot c s n = 2) := by simp [RowKit.Hid, errRot, h3]
    clear h3
    go_enter Try.func90, Try.ntmps90
    go_wp2_with (first | (go_at_call 47; refine (Is_c _ _ _).mono ?_; rintro e w' ⟨rfl, hb2⟩; (first | (replace hb := Ext.trans hb hb2; clear hb2 hc hf; obtain ⟨hc, hf⟩ := bcell hb) | (obtain ⟨hc, hf⟩ := bcell hb2; have hb := hb2; clear hb2)); have hz := Ext.sz hb; repeat (first | rw [size_alloc] at hz | rw [size_drewN] at hz | rw [size_drew] at hz | rw [size_setCell] at hz)) | (go_at_call 106; refine (RCheckRot_c _ _ _ _).mono ?_; rintro e w' ⟨he, hb2⟩; rw [h4.out] at he; subst he; (first | (replace hb := Ext.trans hb hb2; clear hb2 hc hf; obtain ⟨hc, hf⟩ := bcell hb) | (obtain ⟨hc, hf⟩ := bcell hb2; have hb := hb2; clear hb2)); have hz := Ext.sz hb; repeat (first | rw [size_alloc] at hz | rw [size_drewN] at hz | rw [size_drew] at hz | rw [size_setCell] at hz)))
    exact bodyPost_ret (v := ptV ((0, 0), 2)) (by simp [results, Try.results90, go_sem, hc, ptV]) rfl ⟨rfl, by (repeat' (first | exact Ext.refl _ | assumption | refine Ext.alloc ?_ _ | refine Ext.drew ?_ | refine Ext.drewN ?_ _ | refine Ext.set ?_ (by first | exact Nat.le_refl _ | exact le1 _ | exact le2 _ | exact le3 _ | exact le4 _ | exact le5 _ | exact le6 _) _ | refine Ext.trans ?_ (by assumption)))⟩
  rw [show rotateS (px, py) (ox, oy) c s n = resS (turnP (px, py) (ox, oy) c s n) by simp [rotateS, h1, h2, h3]]
  have h4 : RowKit.Hid (errRot c s n = 0) := by simp [RowKit.Hid, errRot, h3]
  have hT := fun w => Turned_c px py ox oy c s n w h1 h2 h3
  generalize turnP (px, py) (ox, oy) c s n = t at *
  obtain ⟨tx, ty⟩ := t
  have HT := Lib.hid hT
  clear hT h3
  go_enter Try.func90, Try.ntmps90
  go_wp2_with (first
    | (go_at_call 47; refine (Is_c _ _ _).mono ?_; rintro e w' ⟨rfl, hb2⟩; (first | (replace hb := Ext.trans hb hb2; clear hb2 hc hf; obtain ⟨hc, hf⟩ := bcell hb) | (obtain ⟨hc, hf⟩ := bcell hb2; have hb := hb2; clear hb2)); have hz := Ext.sz hb; repeat (first | rw [size_alloc] at hz | rw [size_drewN] at hz | rw [size_drew] at hz | rw [size_setCell] at hz))
    | (go_at_call 106; refine (RCheckRot_c _ _ _ _).mono ?_; rintro e w' ⟨he, hb2⟩; rw [h4.out] at he; subst he; (first | (replace hb := Ext.trans hb hb2; clear hb2 hc hf; obtain ⟨hc, hf⟩ := bcell hb) | (obtain ⟨hc, hf⟩ := bcell hb2; have hb := hb2; clear hb2)); have hz := Ext.sz hb; repeat (first | rw [size_alloc] at hz | rw [size_drewN] at hz | rw [size_drew] at hz | rw [size_setCell] at hz))
    | (go_at_call 107; refine (HT.out _).mono ?_; rintro e w' ⟨rfl, hb2⟩; (first | (replace hb := Ext.trans hb hb2; clear hb2 hc hf; obtain ⟨hc, hf⟩ := bcell hb) | (obtain ⟨hc, hf⟩ := bcell hb2; have hb := hb2; clear hb2)); have hz := Ext.sz hb; repeat (first | rw [size_alloc] at hz | rw [size_drewN] at hz | rw [size_drew] at hz | rw [size_setCell] at hz))
    | (go_at_call 82; refine (result_ref_c _ _ _).mono ?_; rintro e w' ⟨he, hb2⟩; unfold ptV at he; subst he; (first | (replace hb := Ext.trans hb hb2; clear hb2 hc hf; obtain ⟨hc, hf⟩ := bcell hb) | (obtain ⟨hc, hf⟩ := bcell hb2; have hb := hb2; clear hb2)); have hz := Ext.sz hb; repeat (first | rw [size_alloc] at hz | rw [size_drewN] at hz | rw [size_drew] at hz | rw [size_setCell] at hz)))
  exact bodyPost_ret (v := ptV (resS (tx, ty))) (by simp [results, Try.results90, go_sem, hc, ptV]) rfl ⟨rfl, by (repeat' (first | exact Ext.refl _ | assumption | refine Ext.alloc ?_ _ | refine Ext.drew ?_ | refine Ext.drewN ?_ _ | refine Ext.set ?_ (by first | exact Nat.le_refl _ | exact le1 _ | exact le2 _ | exact le3 _ | exact le4 _ | exact le5 _ | exact le6 _) _ | refine Ext.trans ?_ (by assumption)))⟩
end Go.Proofs.Ytgikfliibimkdaa
