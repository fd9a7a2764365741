
/- Contracts of 'place' and 'Put': a place of a body. -/
import Derived.Test.YtgikfliibimkdaaPut
import Derived.Deep.DeepCutAuto
namespace Go.Proofs.Ytgikfliibimkdaa
open Go.RowKit

set_option maxRecDepth 100000 in
set_option maxHeartbeats 1600000 in
theorem place_ne (ax ay hx hy x y : Int) (w : World) (hne : ¬ (hx - ax = 0 ∧ hy - ay = 0)) (b1 : okPt (ax, ay) = true) (b2 : okPt (hx, hy) = true) (b3 : -16777216 ≤ x ∧ x ≤ 16777216) (b4 : -16777216 ≤ y ∧ y ≤ 16777216) :
    Calls Try.prog 78 #[.agg #[.int .i64 ax, .int .i64 ay], .agg #[.int .i64 hx, .int .i64 hy], .int .i64 x, .int .i64 y] w fun e w' => e = .returned (ptV (resS (putP (ax, ay) (hx, hy) x y))) ∧ Ext w w' := by
  rw [okPt_iff] at b1 b2
  obtain ⟨⟨ax1, ax2⟩, ay1, ay2⟩ := b1
  obtain ⟨⟨hx1, hx2⟩, hy1, hy2⟩ := b2
  have PB := put_bds (x := x) (y := y) hne (by omega) (by omega) (by omega) (by omega) b3.1 b3.2 b4.1 b4.2
  obtain ⟨c1, c2, c3, c4, c5, c6, c7, c8, c9, c10, c11, c12, c13, c14, c15, c16, c17, c18, c19⟩ := PB
  have q1 : -4000000000000000000 ≤ 32 * ((hx - ax) * x - (hy - ay) * y) ∧ 32 * ((hx - ax) * x - (hy - ay) * y) ≤ 4000000000000000000 := by omega
  have q2 : -4000000000000000000 ≤ 32 * ((hy - ay) * x + (hx - ax) * y) ∧ 32 * ((hy - ay) * x + (hx - ax) * y) ≤ 4000000000000000000 := by omega
  have q3 : Pl.isqrt (1024 * ((hx - ax) * (hx - ax) + (hy - ay) * (hy - ay))) ≤ 4000000000000000000 := by omega
  have e1 := IntWalk.i64_in ((hx - ax) * x) (by omega)
  have e2 := IntWalk.i64_in ((hy - ay) * y) (by omega)
  have e3 := IntWalk.i64_in ((hx - ax) * x - (hy - ay) * y) (by omega)
  have e4 := IntWalk.i64_in (32 * ((hx - ax) * x - (hy - ay) * y)) (by omega)
  have e5 := IntWalk.i64_in ((hy - ay) * x) (by omega)
  have e6 := IntWalk.i64_in ((hx - ax) * y) (by omega)
  have e7 := IntWalk.i64_in ((hy - ay) * x + (hx - ax) * y) (by omega)
  have e8 := IntWalk.i64_in (32 * ((hy - ay) * x + (hx - ax) * y)) (by omega)
  have e9 := IntWalk.i64_in (ax + Pl.near (32 * ((hx - ax) * x - (hy - ay) * y)) (Pl.isqrt (1024 * ((hx - ax) * (hx - ax) + (hy - ay) * (hy - ay))))) (by omega)
  have e10 := IntWalk.i64_in (ay + Pl.near (32 * ((hy - ay) * x + (hx - ax) * y)) (Pl.isqrt (1024 * ((hx - ax) * (hx - ax) + (hy - ay) * (hy - ay))))) (by omega)
  have E := Lib.hid (And.intro e1 (And.intro e2 (And.intro e3 (And.intro e4 (And.intro e5 (And.intro e6 (And.intro e7 (And.intro e8 (And.intro e9 e10)))))))))
  have Q := Lib.hid (And.intro q1 (And.intro q2 (And.intro c14 q3)))
  clear e1 e2 e3 e4 e5 e6 e7 e8 e9 e10 q1 q2 q3 c6 c7 c8 c9 c10 c11 c12 c13 c14 c15 c16 c17 c18 c19 b3 b4
  have hk : RowKit.Hid (putP (ax, ay) (hx, hy) x y = (ax + Pl.near (32 * ((hx - ax) * x - (hy - ay) * y)) (Pl.isqrt (1024 * ((hx - ax) * (hx - ax) + (hy - ay) * (hy - ay)))), ay + Pl.near (32 * ((hy - ay) * x + (hx - ax) * y)) (Pl.isqrt (1024 * ((hx - ax) * (hx - ax) + (hy - ay) * (hy - ay)))))) := rfl
  rw [hk.out]
  clear hk
  have hz : (((hx - ax) == 0) && ((hy - ay) == 0)) = false := by
    cases h : (((hx - ax) == 0) && ((hy - ay) == 0)) with
    | false => rfl
    | true => exact absurd (by simpa using h) hne
  clear hne
  go_enter Try.func78, Try.ntmps78
  go_wp2_with fail
  go_quiet (fail)
  clear ax1 ax2 ay1 ay2 hx1 hx2 hy1 hy2
  go_upto_region 2 with (fail)
  go_cut [28] (fun s w1 => s = .bool false ∧ Ext w w1 ∧ w1.heap.size = w.heap.size + 3 ∧ w1.cell? ⟨w.heap.size, 0, none⟩ = some (.int .i64 ax) ∧ w1.cell? ⟨w.heap.size, 1, none⟩ = some (.int .i64 ay) ∧ w1.cell? ⟨w.heap.size + 2, 0, none⟩ = some (.int .i64 0) ∧ w1.cell? ⟨w.heap.size + 2, 1, none⟩ = some (.int .i64 0) ∧ w1.frozen? ⟨w.heap.size + 2, 0, none⟩ = false ∧ w1.frozen? ⟨w.heap.size + 2, 1, none⟩ = false)
  case first =>
    by_cases hu : hx - ax = 0
    · have hu' : ((hx - ax) == 0) = true := by simpa using hu
      have hv' : ((hy - ay) == 0) = false := by simpa [hu'] using hz
      clear hz hu
      go_wp2_with fail
      go_meet
      exact ⟨rfl, (((Ext.refl w).alloc _).alloc _).alloc _ |>.drewN _, by simp, by go_simp, by go_simp, by go_simp, by go_simp, by go_simp, by go_simp⟩
    · have hu' : ((hx - ax) == 0) = false := by simpa using hu
      clear hu hz
      go_wp2_with fail
      go_meet
      exact ⟨rfl, (((Ext.refl w).alloc _).alloc _).alloc _ |>.drewN _, by simp, by go_simp, by go_simp, by go_simp, by go_simp, by go_simp, by go_simp⟩
  case rest =>
    obtain ⟨rfl, hE, hsz, d1, d2, d3, d4, d5, d6⟩ := hcut
    go_wp2_with (go_at_call 88; refine (root_c _ _ (by omega) (by omega)).mono ?_; rintro e w' ⟨rfl, rfl⟩)
    obtain ⟨e1, e2, e3, e4, e5, e6, e7, e8, e9, e10⟩ := E
    clear c1 c2 c3 c4 c5 hz
    generalize hR : Pl.isqrt (1024 * ((hx - ax) * (hx - ax) + (hy - ay) * (hy - ay))) = r at *
    generalize hU : hx - ax = u at *
    generalize hV : hy - ay = v at *
    refine Tail.wp_region_tail 27 (by kernel_rfl) (by kernel_rfl) (fun _ _ _ _ _ h => h) ?_
    simp only [List.take_succ_cons, List.take_zero, List.drop_succ_cons, List.drop_zero]
    repeat (first
      | still_step
      | (refine wpStill_step (fun K hK => ?_); go_simp
         refine ⟨_, (near_c _ _ _ (by first | exact Q.out.1.1 | exact Q.out.2.1.1) (by first | exact Q.out.1.2 | exact Q.out.2.1.2) (by exact Q.out.2.2.1) (by exact Q.out.2.2.2)).mono (fun _ _ h => ⟨h.1, h.2.symm⟩), hK _ ?_⟩
         clear hK K))
    refine wpStill_nil ?_
    clear e1 e2 e3 e4 e5 e6 e7 e8 e9 e10
    go_wp2_with (go_at_call 100; refine (result_c _ _ _).mono ?_; rintro e w' ⟨he, hb⟩; unfold ptV at he; subst he; obtain ⟨hc, hf⟩ := bcell hb)
    subst hR hV hU
    exact bodyPost_ret (v := ptV (resS (ax + Pl.near (32 * ((hx - ax) * x - (hy - ay) * y)) (Pl.isqrt (1024 * ((hx - ax) * (hx - ax) + (hy - ay) * (hy - ay)))), ay + Pl.near (32 * ((hy - ay) * x + (hx - ax) * y)) (Pl.isqrt (1024 * ((hx - ax) * (hx - ax) + (hy - ay) * (hy - ay))))))) (by simp [results, Try.results78, go_sem, ptV, hc, hsz, d3, d4]) rfl ⟨rfl, (hE.drew.trans hb).set (le2 _) _ |>.set (le2 _) _⟩
set_option maxHeartbeats 800000 in
theorem place_eq (ax ay x y : Int) (w : World) (b1 : okPt (ax, ay) = true) :
    Calls Try.prog 78 #[.agg #[.int .i64 ax, .int .i64 ay], .agg #[.int .i64 ax, .int .i64 ay], .int .i64 x, .int .i64 y] w fun e w' => e = .returned (ptV ((0, 0), 9)) ∧ Ext w w' := by
  rw [okPt_iff] at b1
  obtain ⟨⟨ax1, ax2⟩, ay1, ay2⟩ := b1
  go_enter Try.func78, Try.ntmps78
  go_wp2_with fail
  go_quiet (fail)
  have z1 : ax - ax = 0 := by omega
  have z2 : ay - ay = 0 := by omega
  go_wp2_with fail
  exact bodyPost_ret (v := ptV ((0, 0), 9)) (by simp [results, Try.results78, go_sem, ptV]) rfl ⟨rfl, ((((Ext.refl w).alloc _).alloc _).alloc _ |>.drewN _).set (le2 _) _ |>.set (le2 _) _⟩

set_option maxRecDepth 100000 in
set_option maxHeartbeats 1600000 in
theorem Put_c (ax ay hx hy x y : Int) (w : World) (hne : ¬ (hx - ax = 0 ∧ hy - ay = 0)) (b1 : okPt (ax, ay) = true) (b2 : okPt (hx, hy) = true) (b3 : -16777216 ≤ x ∧ x ≤ 16777216) (b4 : -16777216 ≤ y ∧ y ≤ 16777216) :
    Calls Try.prog 83 #[.agg #[.int .i64 ax, .int .i64 ay], .agg #[.int .i64 hx, .int .i64 hy], .int .i64 x, .int .i64 y] w fun e w' => e = .returned (.agg #[.int .i64 (putP (ax, ay) (hx, hy) x y).1, .int .i64 (putP (ax, ay) (hx, hy) x y).2]) ∧ Ext w w' := by
  rw [okPt_iff] at b1 b2
  obtain ⟨⟨ax1, ax2⟩, ay1, ay2⟩ := b1
  obtain ⟨⟨hx1, hx2⟩, hy1, hy2⟩ := b2
  have PB := put_bds (x := x) (y := y) hne (by omega) (by omega) (by omega) (by omega) b3.1 b3.2 b4.1 b4.2
  obtain ⟨c1, c2, c3, c4, c5, c6, c7, c8, c9, c10, c11, c12, c13, c14, c15, c16, c17, c18, c19⟩ := PB
  have q1 : -4000000000000000000 ≤ 32 * ((hx - ax) * x - (hy - ay) * y) ∧ 32 * ((hx - ax) * x - (hy - ay) * y) ≤ 4000000000000000000 := by omega
  have q2 : -4000000000000000000 ≤ 32 * ((hy - ay) * x + (hx - ax) * y) ∧ 32 * ((hy - ay) * x + (hx - ax) * y) ≤ 4000000000000000000 := by omega
  have q3 : Pl.isqrt (1024 * ((hx - ax) * (hx - ax) + (hy - ay) * (hy - ay))) ≤ 4000000000000000000 := by omega
  have e1 := IntWalk.i64_in ((hx - ax) * x) (by omega)
  have e2 := IntWalk.i64_in ((hy - ay) * y) (by omega)
  have e3 := IntWalk.i64_in ((hx - ax) * x - (hy - ay) * y) (by omega)
  have e4 := IntWalk.i64_in (32 * ((hx - ax) * x - (hy - ay) * y)) (by omega)
  have e5 := IntWalk.i64_in ((hy - ay) * x) (by omega)
  have e6 := IntWalk.i64_in ((hx - ax) * y) (by omega)
  have e7 := IntWalk.i64_in ((hy - ay) * x + (hx - ax) * y) (by omega)
  have e8 := IntWalk.i64_in (32 * ((hy - ay) * x + (hx - ax) * y)) (by omega)
  have e9 := IntWalk.i64_in (ax + Pl.near (32 * ((hx - ax) * x - (hy - ay) * y)) (Pl.isqrt (1024 * ((hx - ax) * (hx - ax) + (hy - ay) * (hy - ay))))) (by omega)
  have e10 := IntWalk.i64_in (ay + Pl.near (32 * ((hy - ay) * x + (hx - ax) * y)) (Pl.isqrt (1024 * ((hx - ax) * (hx - ax) + (hy - ay) * (hy - ay))))) (by omega)
  have E := Lib.hid (And.intro e1 (And.intro e2 (And.intro e3 (And.intro e4 (And.intro e5 (And.intro e6 (And.intro e7 (And.intro e8 (And.intro e9 e10)))))))))
  have Q := Lib.hid (And.intro q1 (And.intro q2 (And.intro c14 q3)))
  clear e1 e2 e3 e4 e5 e6 e7 e8 e9 e10 q1 q2 q3 c6 c7 c8 c9 c10 c11 c12 c13 c14 c15 c16 c17 c18 c19 b3 b4 hne
  unfold putP
  go_enter Try.func83, Try.ntmps83
  go_wp2_with (go_at_call 101; refine (Sqrt_c _ _ (by omega) (by omega)).mono ?_; rintro e w' ⟨rfl, rfl⟩)
  obtain ⟨e1, e2, e3, e4, e5, e6, e7, e8, e9, e10⟩ := E
  clear c1 c2 c3 c4 c5 ax1 ax2 ay1 ay2 hx1 hx2 hy1 hy2
  generalize hR : Pl.isqrt (1024 * ((hx - ax) * (hx - ax) + (hy - ay) * (hy - ay))) = r at *
  generalize hU : hx - ax = u at *
  generalize hV : hy - ay = v at *
  refine Tail.wp_region_tail 27 (by kernel_rfl) (by kernel_rfl) (fun _ _ _ _ _ h => h) ?_
  simp only [List.take_succ_cons, List.take_zero, List.drop_succ_cons, List.drop_zero]
  repeat (first
    | still_step
    | (refine wpStill_step (fun K hK => ?_); go_simp
       refine ⟨_, (Near_c _ _ _ (by first | exact Q.out.1.1 | exact Q.out.2.1.1) (by first | exact Q.out.1.2 | exact Q.out.2.1.2) (by exact Q.out.2.2.1) (by exact Q.out.2.2.2)).mono (fun _ _ h => ⟨h.1, h.2.symm⟩), hK _ ?_⟩
       clear hK K))
  refine wpStill_nil ?_
  clear e1 e2 e3 e4 e5 e6 e7 e8 e9 e10
  go_wp2_with fail
  subst hR hV hU
  exact bodyPost_ret (v := .agg #[.int .i64 (ax + Pl.near (32 * ((hx - ax) * x - (hy - ay) * y)) (Pl.isqrt (1024 * ((hx - ax) * (hx - ax) + (hy - ay) * (hy - ay))))), .int .i64 (ay + Pl.near (32 * ((hy - ay) * x + (hx - ax) * y)) (Pl.isqrt (1024 * ((hx - ax) * (hx - ax) + (hy - ay) * (hy - ay)))))]) (by simp [results, Try.results83, go_sem]) rfl ⟨rfl, ((((Ext.refl w).alloc _).alloc _).alloc _ |>.drew)⟩
end Go.Proofs.Ytgikfliibimkdaa
