/- The law PlanePulls, walked. -/
import Derived.Test.YtngmhmpejjcngaaDist
import Derived.Test.YtngmhmpejjcngaaPullMath
import Derived.OpenShut
import Derived.Deep.DeepCutAuto
namespace Go.Proofs.Ytngmhmpejjcngaa
open Go.RowKit

theorem distS_ok {a b : Int × Int} (h1 : okPt a = true) (h2 : okPt b = true) : distS a b = (farS a b, 0) := by simp [distS, h1, h2]
theorem farS_bd {ax ay bx by' : Int} (h1 : okPt (ax, ay) = true) (h2 : okPt (bx, by') = true) : 0 ≤ farS (ax, ay) (bx, by') ∧ farS (ax, ay) (bx, by') ≤ 67108864 := by
  obtain ⟨a1, a2, a3, a4⟩ := okPt_bd h1
  obtain ⟨a5, a6, a7, a8⟩ := okPt_bd h2
  obtain ⟨c1, c2, c3, c4⟩ := dist_bd (u := bx - ax) (v := by' - ay) (by omega) (by omega) (by omega) (by omega)
  exact ⟨Pl.isqrt_nonneg _, Pl.isqrt_le_of (by simp only; omega) (by omega) (by simp only; omega)⟩

set_option maxRecDepth 100000 in
set_option maxHeartbeats 1600000 in
theorem pulls_law (hx hy ax ay b len : Int) (w : World) (w1 : (Lit.int .i8 hx).wf = true) (w2 : (Lit.int .i8 hy).wf = true) (w3 : (Lit.int .i8 ax).wf = true) (w4 : (Lit.int .i8 ay).wf = true) (w5 : (Lit.int .u16 b).wf = true) (w6 : (Lit.int .u32 len).wf = true) :
    Calls Try.prog 4 #[.agg #[.int .i8 hx, .int .i8 hy], .agg #[.int .i8 ax, .int .i8 ay], .int .u16 b, .int .u32 len] w fun e w' => e = .returned (.bool true) ∧ Ext w w' := by
  obtain ⟨a1, a2⟩ := bounds_i8 w1
  obtain ⟨a3, a4⟩ := bounds_i8 w2
  obtain ⟨a5, a6⟩ := bounds_i8 w3
  obtain ⟨a7, a8⟩ := bounds_i8 w4
  obtain ⟨b1, b2⟩ := bounds_u16 w5
  obtain ⟨l1, l2⟩ := bounds_u32 w6
  clear w1 w2 w3 w4 w5 w6
  have m1 := Pl.mul_bd (a := ax) (b := 1 + b) (A := 128) (B := 65536) (by omega) (by omega) (by omega) (by omega)
  have m2 := Pl.mul_bd (a := ay) (b := 1 + b) (A := 128) (B := 65536) (by omega) (by omega) (by omega) (by omega)
  obtain ⟨m3, m4⟩ := m1
  obtain ⟨m5, m6⟩ := m2
  have k1 : 1 ≤ 1 + len % 1048576 := by omega
  have k2 : 1 + len % 1048576 ≤ 1048576 := by omega
  have oH : okPt (hx, hy) = true := okPt_of (by omega) (by omega) (by omega) (by omega)
  have oY : okPt (ax * (1 + b), ay * (1 + b)) = true := okPt_of (by omega) (by omega) (by omega) (by omega)
  by_cases he : ax * (1 + b) = hx ∧ ay * (1 + b) = hy
  · obtain ⟨rfl, rfl⟩ := he
    have C1 := fun w => Pull_c (ax * (1 + b)) (ay * (1 + b)) (ax * (1 + b)) (ay * (1 + b)) (1 + len % 1048576) w
    rw [pullS_9 oY (inB_iff.2 ⟨by omega, by omega⟩)] at C1
    have H1 := Lib.hid C1
    clear C1 oH oY
    go_enter Try.func4, Try.ntmps4
    go_wp2_with fail
    refine (H1.out _).mono ?_
    rintro e w1 ⟨he, hb1⟩
    unfold ptV at he; subst he
    have x0n := Ext.cell hb1 (p := ⟨w.heap.size + 1 + 1, 0, none⟩) (v := .int .i64 (ax * (1 + b))) (by go_simp); have x1n := Ext.cell hb1 (p := ⟨w.heap.size + 1 + 1, 1, none⟩) (v := .int .i64 (ay * (1 + b))) (by go_simp); have y0n := Ext.cell hb1 (p := ⟨w.heap.size + 1 + 1 + 1, 0, none⟩) (v := .int .i64 (ax * (1 + b))) (by go_simp); have y1n := Ext.cell hb1 (p := ⟨w.heap.size + 1 + 1 + 1, 1, none⟩) (v := .int .i64 (ay * (1 + b))) (by go_simp); have lxn := World.block_lt_of_cell? w1 _ x0n; simp only at lxn; have lyn := World.block_lt_of_cell? w1 _ y0n; simp only at lyn; replace x0 := x0n; clear x0n; replace x1 := x1n; clear x1n; replace lx := lxn; clear lxn; replace y0 := y0n; clear y0n; replace y1 := y1n; clear y1n; replace ly := lyn; clear lyn
    go_wp2_with (go_at_call 19; refine (works_c _).mono ?_; rintro e w2 ⟨rfl, hb2⟩)
    go_ret
    exact ⟨rfl, by (repeat' (first | exact Ext.refl _ | assumption | refine Ext.alloc ?_ _ | refine Ext.drew ?_ | refine Ext.drewN ?_ _ | refine Ext.set ?_ (by first | exact Nat.le_refl _ | exact le1 _ | exact le2 _ | exact le3 _ | exact le4 _ | exact le5 _ | exact le6 _) _ | refine Ext.trans ?_ (by assumption)))⟩
  · obtain ⟨px, py, e1, ⟨z1, z2⟩, ⟨z3, z4⟩, hfar⟩ := pull_facts (l := 1 + len % 1048576) (by omega) (by omega) (by omega) (by omega) (by omega) (by omega) (by omega) (by omega) k1 k2 he
    have oP : okPt (px, py) = true := okPt_of (by omega) (by omega) (by omega) (by omega)
    have C1 := fun w => Pull_c hx hy (ax * (1 + b)) (ay * (1 + b)) (1 + len % 1048576) w
    rw [e1] at C1
    have C2 := fun w => Distance_c hx hy (ax * (1 + b)) (ay * (1 + b)) w
    rw [distS_ok oH oY] at C2
    have d12 := farS_bd oH oY
    have C3 := fun w => Distance_c hx hy px py w
    rw [distS_ok oH oP] at C3
    have n12 := farS_bd oH oP
    have C4 := fun w => Pull_c hx hy px py (1 + len % 1048576) w
    have hd : farS (hx, hy) (ax * (1 + b), ay * (1 + b)) = Pl.isqrt ((ax * (1 + b) - hx) * (ax * (1 + b) - hx) + (ay * (1 + b) - hy) * (ay * (1 + b) - hy)) := rfl
    have hn : farS (hx, hy) (px, py) = Pl.isqrt ((px - hx) * (px - hx) + (py - hy) * (py - hy)) := rfl
    rw [← hd, ← hn] at hfar
    clear hd hn e1 oH oY oP
    generalize farS (hx, hy) (ax * (1 + b), ay * (1 + b)) = d at *
    generalize farS (hx, hy) (px, py) = n at *
    obtain ⟨d1, d2⟩ := d12
    obtain ⟨n1, n2⟩ := n12
    have H1 := Lib.hid C1
    have H2 := Lib.hid C2
    have H3 := Lib.hid C3
    have H4 := Lib.hid C4
    have HF := Lib.hid hfar
    have HNE : RowKit.Hid ((ax * (1 + b) = hx ∧ ¬ ay * (1 + b) = hy) ∨ ¬ hx = ax * (1 + b)) := by
      by_cases e : ax * (1 + b) = hx
      · exact .inl ⟨e, fun e2 => he ⟨e, e2⟩⟩
      · exact .inr (fun e2 => e e2.symm)
    clear C1 C2 C3 C4 hfar he
    go_enter Try.func4, Try.ntmps4
    go_wp2_with fail
    clear m3 m4 m5 m6
    refine (H1.out _).mono ?_
    rintro e w1 ⟨he, hb1⟩
    unfold ptV at he; subst he
    have x0n := Ext.cell hb1 (p := ⟨w.heap.size + 1 + 1, 0, none⟩) (v := .int .i64 hx) (by go_simp); have x1n := Ext.cell hb1 (p := ⟨w.heap.size + 1 + 1, 1, none⟩) (v := .int .i64 hy) (by go_simp); have y0n := Ext.cell hb1 (p := ⟨w.heap.size + 1 + 1 + 1, 0, none⟩) (v := .int .i64 (ax * (1 + b))) (by go_simp); have y1n := Ext.cell hb1 (p := ⟨w.heap.size + 1 + 1 + 1, 1, none⟩) (v := .int .i64 (ay * (1 + b))) (by go_simp); have lxn := World.block_lt_of_cell? w1 _ x0n; simp only at lxn; have lyn := World.block_lt_of_cell? w1 _ y0n; simp only at lyn; replace x0 := x0n; clear x0n; replace x1 := x1n; clear x1n; replace lx := lxn; clear lxn; replace y0 := y0n; clear y0n; replace y1 := y1n; clear y1n; replace ly := lyn; clear lyn
    go_upto_region 6 with (fail)
    go_cut [53] (fun s wc => s = .bool false ∧ Ext w wc ∧ wc.cell? ⟨w.heap.size + 1 + 1, 0, none⟩ = some (.int .i64 hx) ∧ wc.cell? ⟨w.heap.size + 1 + 1, 1, none⟩ = some (.int .i64 hy) ∧
      wc.cell? ⟨w.heap.size + 1 + 1 + 1, 0, none⟩ = some (.int .i64 (ax * (1 + b))) ∧ wc.cell? ⟨w.heap.size + 1 + 1 + 1, 1, none⟩ = some (.int .i64 (ay * (1 + b))) ∧
      wc.cell? ⟨w1.heap.size, 0, none⟩ = some (.int .i64 px) ∧ wc.cell? ⟨w1.heap.size, 1, none⟩ = some (.int .i64 py))
    case first =>
      rcases HNE.out with ⟨rfl, hne⟩ | hne
      · have hne' : ¬ hy = ay * (1 + b) := fun e => hne e.symm
        clear HNE hne
        go_wp2_with fail
        go_meet
        exact ⟨rfl, by (repeat' (first | exact Ext.refl _ | assumption | refine Ext.alloc ?_ _ | refine Ext.drew ?_ | refine Ext.drewN ?_ _ | refine Ext.set ?_ (by first | exact Nat.le_refl _ | exact le1 _ | exact le2 _ | exact le3 _ | exact le4 _ | exact le5 _ | exact le6 _) _ | refine Ext.trans ?_ (by assumption))), by go_simp, by go_simp, by go_simp, by go_simp, by go_simp, by go_simp⟩
      · clear HNE
        go_wp2_with fail
        go_meet
        exact ⟨rfl, by (repeat' (first | exact Ext.refl _ | assumption | refine Ext.alloc ?_ _ | refine Ext.drew ?_ | refine Ext.drewN ?_ _ | refine Ext.set ?_ (by first | exact Nat.le_refl _ | exact le1 _ | exact le2 _ | exact le3 _ | exact le4 _ | exact le5 _ | exact le6 _) _ | refine Ext.trans ?_ (by assumption))), by go_simp, by go_simp, by go_simp, by go_simp, by go_simp, by go_simp⟩
    case rest =>
      obtain ⟨rfl, hE, x0, x1, y0, y1, p0, p1⟩ := hcut
      clear HNE hb1 lx ly
      go_wp2_with fail
      refine (H2.out _).mono ?_
      rintro e w2 ⟨he, hb2⟩
      unfold i2V at he; subst he
      have x0n := Ext.cell hb2 (p := ⟨w.heap.size + 1 + 1, 0, none⟩) (v := .int .i64 hx) (by go_simp); have x1n := Ext.cell hb2 (p := ⟨w.heap.size + 1 + 1, 1, none⟩) (v := .int .i64 hy) (by go_simp); have p0n := Ext.cell hb2 (p := ⟨w1.heap.size, 0, none⟩) (v := .int .i64 px) (by go_simp); have p1n := Ext.cell hb2 (p := ⟨w1.heap.size, 1, none⟩) (v := .int .i64 py) (by go_simp); have lxn := World.block_lt_of_cell? w2 _ x0n; simp only at lxn; have lpn := World.block_lt_of_cell? w2 _ p0n; simp only at lpn; replace x0 := x0n; clear x0n; replace x1 := x1n; clear x1n; replace lx := lxn; clear lxn; replace p0 := p0n; clear p0n; replace p1 := p1n; clear p1n; replace lp := lpn; clear lpn
      by_cases hd : 16 * d < 1 + len % 1048576
      · clear HF
        go_wp2_with (go_at_call 19; refine (works_c _).mono ?_; rintro e w3 ⟨rfl, hb3⟩)
        go_ret
        exact ⟨rfl, by (repeat' (first | exact Ext.refl _ | assumption | refine Ext.alloc ?_ _ | refine Ext.drew ?_ | refine Ext.drewN ?_ _ | refine Ext.set ?_ (by first | exact Nat.le_refl _ | exact le1 _ | exact le2 _ | exact le3 _ | exact le4 _ | exact le5 _ | exact le6 _) _ | refine Ext.trans ?_ (by assumption)))⟩
      · obtain ⟨⟨q1, q2⟩, hq⟩ := HF.out (by omega)
        have HQ := Lib.hid hq
        clear HF hq
        go_wp2_with fail
        refine (H3.out _).mono ?_
        rintro e w3 ⟨he, hb3⟩
        unfold i2V at he; subst he
        have x0n := Ext.cell hb3 (p := ⟨w.heap.size + 1 + 1, 0, none⟩) (v := .int .i64 hx) (by go_simp); have x1n := Ext.cell hb3 (p := ⟨w.heap.size + 1 + 1, 1, none⟩) (v := .int .i64 hy) (by go_simp); have p0n := Ext.cell hb3 (p := ⟨w1.heap.size, 0, none⟩) (v := .int .i64 px) (by go_simp); have p1n := Ext.cell hb3 (p := ⟨w1.heap.size, 1, none⟩) (v := .int .i64 py) (by go_simp); have lxn := World.block_lt_of_cell? w3 _ x0n; simp only at lxn; have lpn := World.block_lt_of_cell? w3 _ p0n; simp only at lpn; replace x0 := x0n; clear x0n; replace x1 := x1n; clear x1n; replace lx := lxn; clear lxn; replace p0 := p0n; clear p0n; replace p1 := p1n; clear p1n; replace lp := lpn; clear lpn
        go_wp2_with fail
        refine (distance_c _ _ _ (by omega) (by omega) (by omega) (by omega)).mono ?_
        rintro e w' ⟨rfl, rfl⟩
        have hm : max (n - (1 + len % 1048576)) (1 + len % 1048576 - n) ≤ 2 := by omega
        generalize max (n - (1 + len % 1048576)) (1 + len % 1048576 - n) = m at hm ⊢
        by_cases h100 : 1 + len % 1048576 < 100
        · clear HQ
          go_wp2_with (go_at_call 19; refine (works_c _).mono ?_; rintro e w4 ⟨rfl, hb4⟩)
          go_ret
          exact ⟨rfl, by (repeat' (first | exact Ext.refl _ | assumption | refine Ext.alloc ?_ _ | refine Ext.drew ?_ | refine Ext.drewN ?_ _ | refine Ext.set ?_ (by first | exact Nat.le_refl _ | exact le1 _ | exact le2 _ | exact le3 _ | exact le4 _ | exact le5 _ | exact le6 _) _ | refine Ext.trans ?_ (by assumption)))⟩
        · obtain ⟨qx, qy, hq, ⟨r1, r2⟩, r3, r4⟩ := HQ.out (by omega)
          have C5 := fun w => H4.out w
          rw [hq] at C5
          have H5 := Lib.hid C5
          clear HQ hq C5
          go_wp2_with fail
          refine (H5.out _).mono ?_
          rintro e w4 ⟨he, hb4⟩
          unfold ptV at he; subst he
          have p0n := Ext.cell hb4 (p := ⟨w1.heap.size, 0, none⟩) (v := .int .i64 px) (by go_simp); have p1n := Ext.cell hb4 (p := ⟨w1.heap.size, 1, none⟩) (v := .int .i64 py) (by go_simp); have lpn := World.block_lt_of_cell? w4 _ p0n; simp only at lpn; replace p0 := p0n; clear p0n; replace p1 := p1n; clear p1n; replace lp := lpn; clear lpn
          go_wp2_with fail
          refine (distance_c _ _ _ (by omega) (by omega) (by omega) (by omega)).mono ?_
          rintro e w' ⟨rfl, rfl⟩
          have hm1 : max (px - qx) (qx - px) ≤ 2 := by omega
          generalize max (px - qx) (qx - px) = m1 at hm1 ⊢
          go_wp2_with fail
          refine (distance_c _ _ _ (by omega) (by omega) (by omega) (by omega)).mono ?_
          rintro e w' ⟨rfl, rfl⟩
          have hm2 : max (py - qy) (qy - py) ≤ 2 := by omega
          generalize max (py - qy) (qy - py) = m2 at hm2 ⊢
          go_wp2_with (go_at_call 19; refine (works_c _).mono ?_; rintro e w5 ⟨rfl, hb5⟩)
          go_ret
          exact ⟨rfl, by (repeat' (first | exact Ext.refl _ | assumption | refine Ext.alloc ?_ _ | refine Ext.drew ?_ | refine Ext.drewN ?_ _ | refine Ext.set ?_ (by first | exact Nat.le_refl _ | exact le1 _ | exact le2 _ | exact le3 _ | exact le4 _ | exact le5 _ | exact le6 _) _ | refine Ext.trans ?_ (by assumption)))⟩
end Go.Proofs.Ytngmhmpejjcngaa
