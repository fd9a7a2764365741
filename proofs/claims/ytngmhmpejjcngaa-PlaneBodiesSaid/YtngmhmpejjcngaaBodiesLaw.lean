/- The law PlaneBodies, walked. -/
import Derived.Test.YtngmhmpejjcngaaWorks
namespace Go.Proofs.Ytngmhmpejjcngaa
open Go.RowKit

set_option maxHeartbeats 1600000 in
theorem bodies_law (ax ay hx hy x y : Int) (w : World) :
    Calls Try.prog 3 #[.agg #[.int .i64 ax, .int .i64 ay], .agg #[.int .i64 hx, .int .i64 hy], .int .i64 x, .int .i64 y] w fun e w' => e = .returned (.bool true) ∧ Ext w w' := by
  have P1 := fun w => Place_c ax ay hx hy x y w
  have P2 := fun w => RPlace_c ax ay hx hy x y w
  have P3 := fun w => Pull_c ax ay hx hy x w
  have P4 := fun w => RPull_c ax ay hx hy x w
  generalize placeS (ax, ay) (hx, hy) x y = p at P1 P2
  generalize pullS (ax, ay) (hx, hy) x = q at P3 P4
  obtain ⟨⟨px, py⟩, pe⟩ := p
  obtain ⟨⟨qx, qy⟩, qe⟩ := q
  have H1 := Lib.hid P1
  have H2 := Lib.hid P2
  have H3 := Lib.hid P3
  have H4 := Lib.hid P4
  clear P1 P2 P3 P4
  go_enter Try.func3, Try.ntmps3
  go_wp2_with (first
    | (go_at_call 15; refine (H1.out _).mono ?_; rintro e w1 ⟨he, hb1⟩; unfold ptV at he; subst he
       have a0n := Ext.cell hb1 (p := ⟨w.heap.size, 0, none⟩) (v := .int .i64 ax) (by go_simp); have a1n := Ext.cell hb1 (p := ⟨w.heap.size, 1, none⟩) (v := .int .i64 ay) (by go_simp); have h0n := Ext.cell hb1 (p := ⟨w.heap.size + 1, 0, none⟩) (v := .int .i64 hx) (by go_simp); have h1n := Ext.cell hb1 (p := ⟨w.heap.size + 1, 1, none⟩) (v := .int .i64 hy) (by go_simp); have lan := World.block_lt_of_cell? w1 _ a0n; simp only at lan; have lhn := World.block_lt_of_cell? w1 _ h0n; simp only at lhn; replace a0 := a0n; clear a0n; replace a1 := a1n; clear a1n; replace la := lan; clear lan; replace h0 := h0n; clear h0n; replace h1 := h1n; clear h1n; replace lh := lhn; clear lhn)
    | (go_at_call 16; refine (H2.out _).mono ?_; rintro e w2 ⟨he, hb2⟩; unfold ptV at he; subst he
       have a0n := Ext.cell hb2 (p := ⟨w.heap.size, 0, none⟩) (v := .int .i64 ax) (by go_simp); have a1n := Ext.cell hb2 (p := ⟨w.heap.size, 1, none⟩) (v := .int .i64 ay) (by go_simp); have h0n := Ext.cell hb2 (p := ⟨w.heap.size + 1, 0, none⟩) (v := .int .i64 hx) (by go_simp); have h1n := Ext.cell hb2 (p := ⟨w.heap.size + 1, 1, none⟩) (v := .int .i64 hy) (by go_simp); have p0n := Ext.cell hb2 (p := ⟨w1.heap.size, 0, none⟩) (v := .int .i64 px) (by go_simp); have p1n := Ext.cell hb2 (p := ⟨w1.heap.size, 1, none⟩) (v := .int .i64 py) (by go_simp); have lan := World.block_lt_of_cell? w2 _ a0n; simp only at lan; have lhn := World.block_lt_of_cell? w2 _ h0n; simp only at lhn; have lpn := World.block_lt_of_cell? w2 _ p0n; simp only at lpn; replace a0 := a0n; clear a0n; replace a1 := a1n; clear a1n; replace la := lan; clear lan; replace h0 := h0n; clear h0n; replace h1 := h1n; clear h1n; replace lh := lhn; clear lhn; replace p0 := p0n; clear p0n; replace p1 := p1n; clear p1n; replace lp := lpn; clear lpn)
    | (go_at_call 17; refine (H3.out _).mono ?_; rintro e w3 ⟨he, hb3⟩; unfold ptV at he; subst he
       have a0n := Ext.cell hb3 (p := ⟨w.heap.size, 0, none⟩) (v := .int .i64 ax) (by go_simp); have a1n := Ext.cell hb3 (p := ⟨w.heap.size, 1, none⟩) (v := .int .i64 ay) (by go_simp); have h0n := Ext.cell hb3 (p := ⟨w.heap.size + 1, 0, none⟩) (v := .int .i64 hx) (by go_simp); have h1n := Ext.cell hb3 (p := ⟨w.heap.size + 1, 1, none⟩) (v := .int .i64 hy) (by go_simp); have p0n := Ext.cell hb3 (p := ⟨w1.heap.size, 0, none⟩) (v := .int .i64 px) (by go_simp); have p1n := Ext.cell hb3 (p := ⟨w1.heap.size, 1, none⟩) (v := .int .i64 py) (by go_simp); have q0n := Ext.cell hb3 (p := ⟨w2.heap.size, 0, none⟩) (v := .int .i64 px) (by go_simp); have q1n := Ext.cell hb3 (p := ⟨w2.heap.size, 1, none⟩) (v := .int .i64 py) (by go_simp); have lan := World.block_lt_of_cell? w3 _ a0n; simp only at lan; have lhn := World.block_lt_of_cell? w3 _ h0n; simp only at lhn; have lpn := World.block_lt_of_cell? w3 _ p0n; simp only at lpn; have lqn := World.block_lt_of_cell? w3 _ q0n; simp only at lqn; replace a0 := a0n; clear a0n; replace a1 := a1n; clear a1n; replace la := lan; clear lan; replace h0 := h0n; clear h0n; replace h1 := h1n; clear h1n; replace lh := lhn; clear lhn; replace p0 := p0n; clear p0n; replace p1 := p1n; clear p1n; replace lp := lpn; clear lpn; replace q0 := q0n; clear q0n; replace q1 := q1n; clear q1n; replace lq := lqn; clear lqn)
    | (go_at_call 18; refine (H4.out _).mono ?_; rintro e w4 ⟨he, hb4⟩; unfold ptV at he; subst he
       have p0n := Ext.cell hb4 (p := ⟨w1.heap.size, 0, none⟩) (v := .int .i64 px) (by go_simp); have p1n := Ext.cell hb4 (p := ⟨w1.heap.size, 1, none⟩) (v := .int .i64 py) (by go_simp); have q0n := Ext.cell hb4 (p := ⟨w2.heap.size, 0, none⟩) (v := .int .i64 px) (by go_simp); have q1n := Ext.cell hb4 (p := ⟨w2.heap.size, 1, none⟩) (v := .int .i64 py) (by go_simp); have u0n := Ext.cell hb4 (p := ⟨w3.heap.size, 0, none⟩) (v := .int .i64 qx) (by go_simp); have u1n := Ext.cell hb4 (p := ⟨w3.heap.size, 1, none⟩) (v := .int .i64 qy) (by go_simp); have lpn := World.block_lt_of_cell? w4 _ p0n; simp only at lpn; have lqn := World.block_lt_of_cell? w4 _ q0n; simp only at lqn; have lun := World.block_lt_of_cell? w4 _ u0n; simp only at lun; replace p0 := p0n; clear p0n; replace p1 := p1n; clear p1n; replace lp := lpn; clear lpn; replace q0 := q0n; clear q0n; replace q1 := q1n; clear q1n; replace lq := lqn; clear lqn; replace u0 := u0n; clear u0n; replace u1 := u1n; clear u1n; replace lu := lun; clear lun)
    | (go_at_call 19; refine (works_c _).mono ?_; rintro e w5 ⟨rfl, hb5⟩))
  go_ret
  exact ⟨rfl, by (repeat' (first | exact Ext.refl _ | assumption | refine Ext.alloc ?_ _ | refine Ext.drew ?_ | refine Ext.drewN ?_ _ | refine Ext.set ?_ (by first | exact Nat.le_refl _ | exact le1 _ | exact le2 _ | exact le3 _ | exact le4 _ | exact le5 _ | exact le6 _) _ | refine Ext.trans ?_ (by assumption)))⟩
end Go.Proofs.Ytngmhmpejjcngaa
