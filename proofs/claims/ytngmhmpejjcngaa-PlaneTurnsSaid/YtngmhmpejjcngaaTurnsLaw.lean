/- The law PlaneTurns, walked. -/
import Derived.Test.YtngmhmpejjcngaaRBoth
import Derived.Test.YtngmhmpejjcngaaRotate
import Derived.Deep.RegionHeld3
namespace Go.Proofs.Ytngmhmpejjcngaa
open Go.RowKit

set_option maxRecDepth 100000 in
set_option maxHeartbeats 1600000 in
theorem turns_law (ac as' an bc bs bn n d px py ox oy : Int) (w : World) :
    Calls Try.prog 5 #[.agg #[.int .i64 ac, .int .i64 as', .int .i64 an], .agg #[.int .i64 bc, .int .i64 bs, .int .i64 bn], .int .i64 n, .int .i64 d, .agg #[.int .i64 px, .int .i64 py], .agg #[.int .i64 ox, .int .i64 oy]] w fun e w' => e = .returned (.bool true) ∧ Ext w w' := by
  have P1 := fun w => Half_c n d w
  have P2 := fun w => RHalf_c n d w
  have P3 := fun w => CheckRot_c ac as' an w
  have P4 := fun w => RCheckRot_c ac as' an w
  have P5 := fun w => Both_c ac as' an bc bs bn w
  have P6 := fun w => RBoth_c ac as' an bc bs bn w
  have P7 := fun w => Rotate_c px py ox oy ac as' an w
  have P8 := fun w => RRotate_c px py ox oy ac as' an w
  generalize halfS n d = h at P1 P2
  generalize errRot ac as' an = er at P3 P4
  generalize bothS (ac, as', an) (bc, bs, bn) = bo at P5 P6
  generalize rotateS (px, py) (ox, oy) ac as' an = ro at P7 P8
  obtain ⟨⟨h1, h2, h3⟩, he'⟩ := h
  obtain ⟨⟨u1, u2, u3⟩, ue⟩ := bo
  obtain ⟨⟨r1, r2⟩, re⟩ := ro
  have H1 := Lib.hid P1
  have H2 := Lib.hid P2
  have H3 := Lib.hid P3
  have H4 := Lib.hid P4
  have H5 := Lib.hid P5
  have H6 := Lib.hid P6
  have H7 := Lib.hid P7
  have H8 := Lib.hid P8
  clear P1 P2 P3 P4 P5 P6 P7 P8
  go_enter Try.func5, Try.ntmps5
  go_wp2_with fail
  refine (H1.out _).mono ?_
  rintro e w1 ⟨he, hb1⟩
  unfold rotV at he; subst he
  go_wp2_with fail
  refine (H2.out _).mono ?_
  rintro e w2 ⟨he, hb2⟩
  unfold rotV at he; subst he
  have hz1 := Ext.sz hb1
  rw [size_alloc, size_alloc, size_alloc, size_alloc] at hz1
  have hz2 := Ext.sz hb2
  rw [size_alloc] at hz2
  have lt1 := Nat.lt_of_succ_le hz1
  have lt2 := Nat.lt_of_succ_le hz2
  have a0n := Ext.cell hb1 (p := ⟨w.heap.size, 0, none⟩) (v := .int .i64 ac) (by go_simp); have a1n := Ext.cell hb1 (p := ⟨w.heap.size, 1, none⟩) (v := .int .i64 as') (by go_simp); have a2n := Ext.cell hb1 (p := ⟨w.heap.size, 2, none⟩) (v := .int .i64 an) (by go_simp); have b0n := Ext.cell hb1 (p := ⟨w.heap.size + 1, 0, none⟩) (v := .int .i64 bc) (by go_simp); have b1n := Ext.cell hb1 (p := ⟨w.heap.size + 1, 1, none⟩) (v := .int .i64 bs) (by go_simp); have b2n := Ext.cell hb1 (p := ⟨w.heap.size + 1, 2, none⟩) (v := .int .i64 bn) (by go_simp); have p0n := Ext.cell hb1 (p := ⟨w.heap.size + 1 + 1, 0, none⟩) (v := .int .i64 px) (by go_simp); have p1n := Ext.cell hb1 (p := ⟨w.heap.size + 1 + 1, 1, none⟩) (v := .int .i64 py) (by go_simp); have o0n := Ext.cell hb1 (p := ⟨w.heap.size + 1 + 1 + 1, 0, none⟩) (v := .int .i64 ox) (by go_simp); have o1n := Ext.cell hb1 (p := ⟨w.heap.size + 1 + 1 + 1, 1, none⟩) (v := .int .i64 oy) (by go_simp); have lan := World.block_lt_of_cell? w1 _ a0n; simp only at lan; have lbn := World.block_lt_of_cell? w1 _ b0n; simp only at lbn; have lpn := World.block_lt_of_cell? w1 _ p0n; simp only at lpn; have lon := World.block_lt_of_cell? w1 _ o0n; simp only at lon; replace a0 := a0n; clear a0n; replace a1 := a1n; clear a1n; replace a2 := a2n; clear a2n; replace la := lan; clear lan; replace b0 := b0n; clear b0n; replace b1 := b1n; clear b1n; replace b2 := b2n; clear b2n; replace lb := lbn; clear lbn; replace p0 := p0n; clear p0n; replace p1 := p1n; clear p1n; replace lp := lpn; clear lpn; replace o0 := o0n; clear o0n; replace o1 := o1n; clear o1n; replace lo := lon; clear lon
  have a0n := Ext.cell hb2 (p := ⟨w.heap.size, 0, none⟩) (v := .int .i64 ac) (by go_simp); have a1n := Ext.cell hb2 (p := ⟨w.heap.size, 1, none⟩) (v := .int .i64 as') (by go_simp); have a2n := Ext.cell hb2 (p := ⟨w.heap.size, 2, none⟩) (v := .int .i64 an) (by go_simp); have b0n := Ext.cell hb2 (p := ⟨w.heap.size + 1, 0, none⟩) (v := .int .i64 bc) (by go_simp); have b1n := Ext.cell hb2 (p := ⟨w.heap.size + 1, 1, none⟩) (v := .int .i64 bs) (by go_simp); have b2n := Ext.cell hb2 (p := ⟨w.heap.size + 1, 2, none⟩) (v := .int .i64 bn) (by go_simp); have p0n := Ext.cell hb2 (p := ⟨w.heap.size + 1 + 1, 0, none⟩) (v := .int .i64 px) (by go_simp); have p1n := Ext.cell hb2 (p := ⟨w.heap.size + 1 + 1, 1, none⟩) (v := .int .i64 py) (by go_simp); have o0n := Ext.cell hb2 (p := ⟨w.heap.size + 1 + 1 + 1, 0, none⟩) (v := .int .i64 ox) (by go_simp); have o1n := Ext.cell hb2 (p := ⟨w.heap.size + 1 + 1 + 1, 1, none⟩) (v := .int .i64 oy) (by go_simp); have g0n := Ext.cell hb2 (p := ⟨w1.heap.size, 0, none⟩) (v := .int .i64 h1) (by go_simp); have g1n := Ext.cell hb2 (p := ⟨w1.heap.size, 1, none⟩) (v := .int .i64 h2) (by go_simp); have g2n := Ext.cell hb2 (p := ⟨w1.heap.size, 2, none⟩) (v := .int .i64 h3) (by go_simp); have lan := World.block_lt_of_cell? w2 _ a0n; simp only at lan; have lbn := World.block_lt_of_cell? w2 _ b0n; simp only at lbn; have lpn := World.block_lt_of_cell? w2 _ p0n; simp only at lpn; have lon := World.block_lt_of_cell? w2 _ o0n; simp only at lon; have lgn := World.block_lt_of_cell? w2 _ g0n; simp only at lgn; replace a0 := a0n; clear a0n; replace a1 := a1n; clear a1n; replace a2 := a2n; clear a2n; replace la := lan; clear lan; replace b0 := b0n; clear b0n; replace b1 := b1n; clear b1n; replace b2 := b2n; clear b2n; replace lb := lbn; clear lbn; replace p0 := p0n; clear p0n; replace p1 := p1n; clear p1n; replace lp := lpn; clear lpn; replace o0 := o0n; clear o0n; replace o1 := o1n; clear o1n; replace lo := lon; clear lon; replace g0 := g0n; clear g0n; replace g1 := g1n; clear g1n; replace g2 := g2n; clear g2n; replace lg := lgn; clear lgn
  have f0 := Ext.frz hb2 (p := ⟨w1.heap.size, 0, none⟩) (by rw [size_alloc]; exact Nat.lt_succ_self _) (by go_simp)
  have f1 := Ext.frz hb2 (p := ⟨w1.heap.size, 1, none⟩) (by rw [size_alloc]; exact Nat.lt_succ_self _) (by go_simp)
  have f2 := Ext.frz hb2 (p := ⟨w1.heap.size, 2, none⟩) (by rw [size_alloc]; exact Nat.lt_succ_self _) (by go_simp)
  have HE : Ext w w2 := by (repeat' (first | exact Ext.refl _ | assumption | refine Ext.alloc ?_ _ | refine Ext.drew ?_ | refine Ext.drewN ?_ _ | refine Ext.set ?_ (by first | exact Nat.le_refl _ | exact le1 _ | exact le2 _ | exact le3 _ | exact le4 _ | exact le5 _ | exact le6 _) _ | refine Ext.trans ?_ (by assumption)))
  clear hb1 hb2 hz1 hz2
  go_upto_region 3 with (fail)
  go_cut [47] (fun s47 wc => s47 = .bool false ∧ Ext w2 wc ∧ wc.cell? ⟨w.heap.size, 0, none⟩ = some (.int .i64 ac) ∧ wc.cell? ⟨w.heap.size, 1, none⟩ = some (.int .i64 as') ∧ wc.cell? ⟨w.heap.size, 2, none⟩ = some (.int .i64 an) ∧ wc.cell? ⟨w.heap.size + 1, 0, none⟩ = some (.int .i64 bc) ∧ wc.cell? ⟨w.heap.size + 1, 1, none⟩ = some (.int .i64 bs) ∧ wc.cell? ⟨w.heap.size + 1, 2, none⟩ = some (.int .i64 bn) ∧ wc.cell? ⟨w.heap.size + 1 + 1, 0, none⟩ = some (.int .i64 px) ∧ wc.cell? ⟨w.heap.size + 1 + 1, 1, none⟩ = some (.int .i64 py) ∧ wc.cell? ⟨w.heap.size + 1 + 1 + 1, 0, none⟩ = some (.int .i64 ox) ∧ wc.cell? ⟨w.heap.size + 1 + 1 + 1, 1, none⟩ = some (.int .i64 oy) ∧ wc.cell? ⟨w1.heap.size, 0, none⟩ = some (.int .i64 h1) ∧ wc.cell? ⟨w1.heap.size, 1, none⟩ = some (.int .i64 h2) ∧ wc.cell? ⟨w1.heap.size, 2, none⟩ = some (.int .i64 h3) ∧ wc.cell? ⟨w2.heap.size, 0, none⟩ = some (.int .i64 h1) ∧ wc.cell? ⟨w2.heap.size, 1, none⟩ = some (.int .i64 h2) ∧ wc.cell? ⟨w2.heap.size, 2, none⟩ = some (.int .i64 h3) ∧ wc.frozen? ⟨w1.heap.size, 0, none⟩ = false ∧ wc.frozen? ⟨w1.heap.size, 1, none⟩ = false ∧ wc.frozen? ⟨w1.heap.size, 2, none⟩ = false ∧ wc.frozen? ⟨w2.heap.size, 0, none⟩ = false ∧ wc.frozen? ⟨w2.heap.size, 1, none⟩ = false ∧ wc.frozen? ⟨w2.heap.size, 2, none⟩ = false)
  case first =>
    go_region_held3 (fun w' => w'.cell? ⟨w.heap.size, 0, none⟩ = some (.int .i64 ac) ∧ w'.cell? ⟨w.heap.size, 1, none⟩ = some (.int .i64 as') ∧ w'.cell? ⟨w.heap.size, 2, none⟩ = some (.int .i64 an) ∧ w'.cell? ⟨w1.heap.size, 0, none⟩ = some (.int .i64 h1) ∧ w'.cell? ⟨w1.heap.size, 1, none⟩ = some (.int .i64 h2) ∧ w'.cell? ⟨w1.heap.size, 2, none⟩ = some (.int .i64 h3) ∧ w'.cell? ⟨w2.heap.size, 0, none⟩ = some (.int .i64 h1) ∧ w'.cell? ⟨w2.heap.size, 1, none⟩ = some (.int .i64 h2) ∧ w'.cell? ⟨w2.heap.size, 2, none⟩ = some (.int .i64 h3))
      (first | go_keep | (refine ⟨?_, ?_, ?_, ?_, ?_, ?_, ?_, ?_, ?_⟩ <;> exact Ext.cell hb (by go_simp)))
      (first
        | (go_at_call 24; refine (H3.out _).mono ?_; rintro e w' ⟨rfl, hb⟩)
        | (go_at_call 25; refine (H4.out _).mono ?_; rintro e w' ⟨rfl, hb⟩))
    go_wp2_with fail
    go_meet
    have HX : Ext (w2.alloc (.cells #[.int .i64 h1, .int .i64 h2, .int .i64 h3] 40)) w' := by (repeat' (first | exact Ext.refl _ | assumption | refine Ext.alloc ?_ _ | refine Ext.drew ?_ | refine Ext.drewN ?_ _ | refine Ext.set ?_ (by first | exact Nat.le_refl _ | exact le1 _ | exact le2 _ | exact le3 _ | exact le4 _ | exact le5 _ | exact le6 _) _ | refine Ext.trans ?_ (by assumption)))
    exact ⟨rfl, (by (repeat' (first | exact Ext.refl _ | assumption | refine Ext.alloc ?_ _ | refine Ext.drew ?_ | refine Ext.drewN ?_ _ | refine Ext.set ?_ (by first | exact Nat.le_refl _ | exact le1 _ | exact le2 _ | exact le3 _ | exact le4 _ | exact le5 _ | exact le6 _) _ | refine Ext.trans ?_ (by assumption)))), Ext.cell HX (by go_simp), Ext.cell HX (by go_simp), Ext.cell HX (by go_simp), Ext.cell HX (by go_simp), Ext.cell HX (by go_simp), Ext.cell HX (by go_simp), Ext.cell HX (by go_simp), Ext.cell HX (by go_simp), Ext.cell HX (by go_simp), Ext.cell HX (by go_simp), Ext.cell HX (by go_simp), Ext.cell HX (by go_simp), Ext.cell HX (by go_simp), Ext.cell HX (by go_simp), Ext.cell HX (by go_simp), Ext.cell HX (by go_simp), Ext.frz HX (by rw [size_alloc]; exact Nat.lt_succ_of_lt lt2) (by go_simp), Ext.frz HX (by rw [size_alloc]; exact Nat.lt_succ_of_lt lt2) (by go_simp), Ext.frz HX (by rw [size_alloc]; exact Nat.lt_succ_of_lt lt2) (by go_simp), Ext.frz HX (by rw [size_alloc]; exact Nat.lt_succ_self _) (by go_simp), Ext.frz HX (by rw [size_alloc]; exact Nat.lt_succ_self _) (by go_simp), Ext.frz HX (by rw [size_alloc]; exact Nat.lt_succ_self _) (by go_simp)⟩
  case rest =>
    obtain ⟨rfl, hE2, a0, a1, a2, b0, b1, b2, p0, p1, o0, o1, g0, g1, g2, k0, k1, k2, f0, f1, f2, q0, q1, q2⟩ := hcut
    have HE2 := Ext.trans HE hE2
    clear H1 H2 H3 H4 HE hE2
    have ltc := World.block_lt_of_cell? wc _ k0
    simp only at ltc
    generalize w1.heap.size = A at *
    generalize w2.heap.size = B at *
    have n1 : ¬ w.heap.size = A := by omega
    have n2 : ¬ w.heap.size + 1 = A := by omega
    have n3 : ¬ w.heap.size + 1 + 1 = A := by omega
    have n4 : ¬ w.heap.size + 1 + 1 + 1 = A := by omega
    have n5 : ¬ w.heap.size = B := by omega
    have n6 : ¬ w.heap.size + 1 = B := by omega
    have n7 : ¬ w.heap.size + 1 + 1 = B := by omega
    have n8 : ¬ w.heap.size + 1 + 1 + 1 = B := by omega
    have n9 : ¬ A = B := by omega
    have n10 : ¬ B = A := by omega
    have lA : A < wc.heap.size := by omega
    have la : w.heap.size < wc.heap.size := by omega
    have lb : w.heap.size + 1 < wc.heap.size := by omega
    have lp : w.heap.size + 1 + 1 < wc.heap.size := by omega
    have lo : w.heap.size + 1 + 1 + 1 < wc.heap.size := by omega
    have wA : w.heap.size ≤ A := by omega
    have wB : w.heap.size ≤ B := by omega
    clear lt1 lt2
    go_wp2_with fail
    refine (H5.out _).mono ?_
    rintro e w5 ⟨he, hb5⟩
    unfold rotV at he; subst he
    have a0n := Ext.cell hb5 (p := ⟨w.heap.size, 0, none⟩) (v := .int .i64 ac) (by go_simp); have a1n := Ext.cell hb5 (p := ⟨w.heap.size, 1, none⟩) (v := .int .i64 as') (by go_simp); have a2n := Ext.cell hb5 (p := ⟨w.heap.size, 2, none⟩) (v := .int .i64 an) (by go_simp); have b0n := Ext.cell hb5 (p := ⟨w.heap.size + 1, 0, none⟩) (v := .int .i64 bc) (by go_simp); have b1n := Ext.cell hb5 (p := ⟨w.heap.size + 1, 1, none⟩) (v := .int .i64 bs) (by go_simp); have b2n := Ext.cell hb5 (p := ⟨w.heap.size + 1, 2, none⟩) (v := .int .i64 bn) (by go_simp); have p0n := Ext.cell hb5 (p := ⟨w.heap.size + 1 + 1, 0, none⟩) (v := .int .i64 px) (by go_simp); have p1n := Ext.cell hb5 (p := ⟨w.heap.size + 1 + 1, 1, none⟩) (v := .int .i64 py) (by go_simp); have o0n := Ext.cell hb5 (p := ⟨w.heap.size + 1 + 1 + 1, 0, none⟩) (v := .int .i64 ox) (by go_simp); have o1n := Ext.cell hb5 (p := ⟨w.heap.size + 1 + 1 + 1, 1, none⟩) (v := .int .i64 oy) (by go_simp); have g0n := Ext.cell hb5 (p := ⟨A, 0, none⟩) (v := .int .i64 h1) (by go_simp); have g1n := Ext.cell hb5 (p := ⟨A, 1, none⟩) (v := .int .i64 h2) (by go_simp); have g2n := Ext.cell hb5 (p := ⟨A, 2, none⟩) (v := .int .i64 h3) (by go_simp); have k0n := Ext.cell hb5 (p := ⟨B, 0, none⟩) (v := .int .i64 h1) (by go_simp); have k1n := Ext.cell hb5 (p := ⟨B, 1, none⟩) (v := .int .i64 h2) (by go_simp); have k2n := Ext.cell hb5 (p := ⟨B, 2, none⟩) (v := .int .i64 h3) (by go_simp); have lan := World.block_lt_of_cell? w5 _ a0n; simp only at lan; have lbn := World.block_lt_of_cell? w5 _ b0n; simp only at lbn; have lpn := World.block_lt_of_cell? w5 _ p0n; simp only at lpn; have lon := World.block_lt_of_cell? w5 _ o0n; simp only at lon; have lgn := World.block_lt_of_cell? w5 _ g0n; simp only at lgn; have lkn := World.block_lt_of_cell? w5 _ k0n; simp only at lkn; replace a0 := a0n; clear a0n; replace a1 := a1n; clear a1n; replace a2 := a2n; clear a2n; replace la := lan; clear lan; replace b0 := b0n; clear b0n; replace b1 := b1n; clear b1n; replace b2 := b2n; clear b2n; replace lb := lbn; clear lbn; replace p0 := p0n; clear p0n; replace p1 := p1n; clear p1n; replace lp := lpn; clear lpn; replace o0 := o0n; clear o0n; replace o1 := o1n; clear o1n; replace lo := lon; clear lon; replace g0 := g0n; clear g0n; replace g1 := g1n; clear g1n; replace g2 := g2n; clear g2n; replace lg := lgn; clear lgn; replace k0 := k0n; clear k0n; replace k1 := k1n; clear k1n; replace k2 := k2n; clear k2n; replace lk := lkn; clear lkn
    replace f0 := Ext.frz hb5 (p := ⟨A, 0, none⟩) lA (by go_simp)
    replace f1 := Ext.frz hb5 (p := ⟨A, 1, none⟩) lA (by go_simp)
    replace f2 := Ext.frz hb5 (p := ⟨A, 2, none⟩) lA (by go_simp)
    replace q0 := Ext.frz hb5 (p := ⟨B, 0, none⟩) ltc (by go_simp)
    replace q1 := Ext.frz hb5 (p := ⟨B, 1, none⟩) ltc (by go_simp)
    replace q2 := Ext.frz hb5 (p := ⟨B, 2, none⟩) ltc (by go_simp)
    have HE5 := Ext.trans HE2 hb5
    clear hb5 HE2 lA ltc
    go_wp2_with fail
    refine (H6.out _).mono ?_
    rintro e w6 ⟨he, hb6⟩
    unfold rotV at he; subst he
    have lB : B < w5.heap.size := lk
    have a0n := Ext.cell hb6 (p := ⟨w.heap.size, 0, none⟩) (v := .int .i64 ac) (by go_simp); have a1n := Ext.cell hb6 (p := ⟨w.heap.size, 1, none⟩) (v := .int .i64 as') (by go_simp); have a2n := Ext.cell hb6 (p := ⟨w.heap.size, 2, none⟩) (v := .int .i64 an) (by go_simp); have p0n := Ext.cell hb6 (p := ⟨w.heap.size + 1 + 1, 0, none⟩) (v := .int .i64 px) (by go_simp); have p1n := Ext.cell hb6 (p := ⟨w.heap.size + 1 + 1, 1, none⟩) (v := .int .i64 py) (by go_simp); have o0n := Ext.cell hb6 (p := ⟨w.heap.size + 1 + 1 + 1, 0, none⟩) (v := .int .i64 ox) (by go_simp); have o1n := Ext.cell hb6 (p := ⟨w.heap.size + 1 + 1 + 1, 1, none⟩) (v := .int .i64 oy) (by go_simp); have g0n := Ext.cell hb6 (p := ⟨A, 0, none⟩) (v := .int .i64 u1) (by go_simp); have g1n := Ext.cell hb6 (p := ⟨A, 1, none⟩) (v := .int .i64 u2) (by go_simp); have g2n := Ext.cell hb6 (p := ⟨A, 2, none⟩) (v := .int .i64 u3) (by go_simp); have k0n := Ext.cell hb6 (p := ⟨B, 0, none⟩) (v := .int .i64 h1) (by go_simp); have k1n := Ext.cell hb6 (p := ⟨B, 1, none⟩) (v := .int .i64 h2) (by go_simp); have k2n := Ext.cell hb6 (p := ⟨B, 2, none⟩) (v := .int .i64 h3) (by go_simp); have lan := World.block_lt_of_cell? w6 _ a0n; simp only at lan; have lpn := World.block_lt_of_cell? w6 _ p0n; simp only at lpn; have lon := World.block_lt_of_cell? w6 _ o0n; simp only at lon; have lgn := World.block_lt_of_cell? w6 _ g0n; simp only at lgn; have lkn := World.block_lt_of_cell? w6 _ k0n; simp only at lkn; replace a0 := a0n; clear a0n; replace a1 := a1n; clear a1n; replace a2 := a2n; clear a2n; replace la := lan; clear lan; replace p0 := p0n; clear p0n; replace p1 := p1n; clear p1n; replace lp := lpn; clear lpn; replace o0 := o0n; clear o0n; replace o1 := o1n; clear o1n; replace lo := lon; clear lon; replace g0 := g0n; clear g0n; replace g1 := g1n; clear g1n; replace g2 := g2n; clear g2n; replace lg := lgn; clear lgn; replace k0 := k0n; clear k0n; replace k1 := k1n; clear k1n; replace k2 := k2n; clear k2n; replace lk := lkn; clear lkn
    replace q0 := Ext.frz hb6 (p := ⟨B, 0, none⟩) (by rw [size_setCell, size_setCell, size_setCell]; exact lB) (by go_simp)
    replace q1 := Ext.frz hb6 (p := ⟨B, 1, none⟩) (by rw [size_setCell, size_setCell, size_setCell]; exact lB) (by go_simp)
    replace q2 := Ext.frz hb6 (p := ⟨B, 2, none⟩) (by rw [size_setCell, size_setCell, size_setCell]; exact lB) (by go_simp)
    have HE6 : Ext w w6 := Ext.trans (((HE5.set (p := ⟨A, 0, none⟩) wA _).set (p := ⟨A, 1, none⟩) wA _).set (p := ⟨A, 2, none⟩) wA _) hb6
    clear hb6 HE5 lB f0 f1 f2
    go_wp2_with fail
    refine (H7.out _).mono ?_
    rintro e w7 ⟨he, hb7⟩
    unfold ptV at he; subst he
    have a0n := Ext.cell hb7 (p := ⟨w.heap.size, 0, none⟩) (v := .int .i64 ac) (by go_simp); have a1n := Ext.cell hb7 (p := ⟨w.heap.size, 1, none⟩) (v := .int .i64 as') (by go_simp); have a2n := Ext.cell hb7 (p := ⟨w.heap.size, 2, none⟩) (v := .int .i64 an) (by go_simp); have p0n := Ext.cell hb7 (p := ⟨w.heap.size + 1 + 1, 0, none⟩) (v := .int .i64 px) (by go_simp); have p1n := Ext.cell hb7 (p := ⟨w.heap.size + 1 + 1, 1, none⟩) (v := .int .i64 py) (by go_simp); have o0n := Ext.cell hb7 (p := ⟨w.heap.size + 1 + 1 + 1, 0, none⟩) (v := .int .i64 ox) (by go_simp); have o1n := Ext.cell hb7 (p := ⟨w.heap.size + 1 + 1 + 1, 1, none⟩) (v := .int .i64 oy) (by go_simp); have g0n := Ext.cell hb7 (p := ⟨A, 0, none⟩) (v := .int .i64 u1) (by go_simp); have g1n := Ext.cell hb7 (p := ⟨A, 1, none⟩) (v := .int .i64 u2) (by go_simp); have g2n := Ext.cell hb7 (p := ⟨A, 2, none⟩) (v := .int .i64 u3) (by go_simp); have k0n := Ext.cell hb7 (p := ⟨B, 0, none⟩) (v := .int .i64 u1) (by go_simp); have k1n := Ext.cell hb7 (p := ⟨B, 1, none⟩) (v := .int .i64 u2) (by go_simp); have k2n := Ext.cell hb7 (p := ⟨B, 2, none⟩) (v := .int .i64 u3) (by go_simp); have lan := World.block_lt_of_cell? w7 _ a0n; simp only at lan; have lpn := World.block_lt_of_cell? w7 _ p0n; simp only at lpn; have lon := World.block_lt_of_cell? w7 _ o0n; simp only at lon; have lgn := World.block_lt_of_cell? w7 _ g0n; simp only at lgn; have lkn := World.block_lt_of_cell? w7 _ k0n; simp only at lkn; replace a0 := a0n; clear a0n; replace a1 := a1n; clear a1n; replace a2 := a2n; clear a2n; replace la := lan; clear lan; replace p0 := p0n; clear p0n; replace p1 := p1n; clear p1n; replace lp := lpn; clear lpn; replace o0 := o0n; clear o0n; replace o1 := o1n; clear o1n; replace lo := lon; clear lon; replace g0 := g0n; clear g0n; replace g1 := g1n; clear g1n; replace g2 := g2n; clear g2n; replace lg := lgn; clear lgn; replace k0 := k0n; clear k0n; replace k1 := k1n; clear k1n; replace k2 := k2n; clear k2n; replace lk := lkn; clear lkn
    have HE7 : Ext w w7 := Ext.trans (((HE6.set (p := ⟨B, 0, none⟩) wB _).set (p := ⟨B, 1, none⟩) wB _).set (p := ⟨B, 2, none⟩) wB _) hb7
    clear hb7 HE6 q0 q1 q2
    go_wp2_with fail
    refine (H8.out _).mono ?_
    rintro e w8 ⟨he, hb8⟩
    unfold ptV at he; subst he
    have g0n := Ext.cell hb8 (p := ⟨A, 0, none⟩) (v := .int .i64 u1) (by go_simp); have g1n := Ext.cell hb8 (p := ⟨A, 1, none⟩) (v := .int .i64 u2) (by go_simp); have g2n := Ext.cell hb8 (p := ⟨A, 2, none⟩) (v := .int .i64 u3) (by go_simp); have k0n := Ext.cell hb8 (p := ⟨B, 0, none⟩) (v := .int .i64 u1) (by go_simp); have k1n := Ext.cell hb8 (p := ⟨B, 1, none⟩) (v := .int .i64 u2) (by go_simp); have k2n := Ext.cell hb8 (p := ⟨B, 2, none⟩) (v := .int .i64 u3) (by go_simp); have r0n := Ext.cell hb8 (p := ⟨w7.heap.size, 0, none⟩) (v := .int .i64 r1) (by go_simp); have r1n := Ext.cell hb8 (p := ⟨w7.heap.size, 1, none⟩) (v := .int .i64 r2) (by go_simp); have lgn := World.block_lt_of_cell? w8 _ g0n; simp only at lgn; have lkn := World.block_lt_of_cell? w8 _ k0n; simp only at lkn; have lrn := World.block_lt_of_cell? w8 _ r0n; simp only at lrn; replace g0 := g0n; clear g0n; replace g1 := g1n; clear g1n; replace g2 := g2n; clear g2n; replace lg := lgn; clear lgn; replace k0 := k0n; clear k0n; replace k1 := k1n; clear k1n; replace k2 := k2n; clear k2n; replace lk := lkn; clear lkn; replace r0 := r0n; clear r0n; replace r1 := r1n; clear r1n; replace lr := lrn; clear lrn
    have HE8 : Ext w w8 := Ext.trans (HE7.alloc _) hb8
    clear hb8 HE7
    go_wp2_with (go_at_call 19; refine (works_c _).mono ?_; rintro e w9 ⟨rfl, hb9⟩)
    go_ret
    exact ⟨rfl, Ext.trans (HE8.alloc _) hb9⟩
end Go.Proofs.Ytngmhmpejjcngaa
