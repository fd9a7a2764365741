/- The law PlaneHalves, walked. -/
import Derived.Test.YtngmhmpejjcngaaHalvesMath
import Derived.Test.YtngmhmpejjcngaaPullsLaw
namespace Go.Proofs.Ytngmhmpejjcngaa
open Go.RowKit

theorem tmod_bd (n : Int) : -2048 ≤ n.tmod 2049 ∧ n.tmod 2049 ≤ 2048 := by
  rcases Int.le_total 0 n with h | h
  · rw [Int.tmod_eq_emod_of_nonneg h]; omega
  · rw [show n = -(-n) by omega, Int.neg_tmod, Int.tmod_eq_emod_of_nonneg (by omega)]; omega
theorem errRot_yes {c s n : Int} (h : okRot c s n = true) : errRot c s n = 0 := by simp [errRot, h]

set_option maxRecDepth 100000 in
set_option maxHeartbeats 1600000 in
theorem halves_law (n m d k px py ox oy b : Int) (w : World) (w1 : (Lit.int .i16 n).wf = true) (w2 : (Lit.int .i16 m).wf = true) (w3 : (Lit.int .u16 d).wf = true) (w4 : (Lit.int .u16 k).wf = true)
    (w5 : (Lit.int .i8 px).wf = true) (w6 : (Lit.int .i8 py).wf = true) (w7 : (Lit.int .i8 ox).wf = true) (w8 : (Lit.int .i8 oy).wf = true) (w9 : (Lit.int .u8 b).wf = true) :
    Calls Try.prog 9 #[.int .i16 n, .int .i16 m, .int .u16 d, .int .u16 k, .agg #[.int .i8 px, .int .i8 py], .agg #[.int .i8 ox, .int .i8 oy], .int .u8 b] w fun e w' => e = .returned (.bool true) ∧ Ext w w' := by
  obtain ⟨a1, a2⟩ := bounds_i16 w1
  obtain ⟨a3, a4⟩ := bounds_i16 w2
  obtain ⟨a5, a6⟩ := bounds_u16 w3
  obtain ⟨a7, a8⟩ := bounds_u16 w4
  obtain ⟨p1, p2⟩ := bounds_i8 w5
  obtain ⟨p3, p4⟩ := bounds_i8 w6
  obtain ⟨o1, o2⟩ := bounds_i8 w7
  obtain ⟨o3, o4⟩ := bounds_i8 w8
  obtain ⟨b1, b2⟩ := bounds_u8 w9
  clear w1 w2 w3 w4 w5 w6 w7 w8 w9
  obtain ⟨m1, m2⟩ := Pl.mul_bd (a := px) (b := 1 + b) (A := 128) (B := 256) (by omega) (by omega) (by omega) (by omega)
  obtain ⟨m3, m4⟩ := Pl.mul_bd (a := py) (b := 1 + b) (A := 128) (B := 256) (by omega) (by omega) (by omega) (by omega)
  obtain ⟨t1, t2⟩ := tmod_bd n
  obtain ⟨t3, t4⟩ := tmod_bd m
  obtain ⟨C1, S1, N1, e1, k1⟩ := half_facts (n := n.tmod 2049) (d := 1 + d % 2048) t1 t2 (by omega) (by omega)
  obtain ⟨C2, S2, N2, e2, k2⟩ := half_facts (n := m.tmod 2049) (d := 1 + k % 2048) t3 t4 (by omega) (by omega)
  obtain ⟨zx, zy, e8, oZ, hfar⟩ := rotate_facts (px := px * (1 + b)) (py := py * (1 + b)) (ox := ox) (oy := oy) k1 (by omega) (by omega) (by omega) (by omega) (by omega) (by omega) (by omega) (by omega)
  have oP : okPt (px * (1 + b), py * (1 + b)) = true := okPt_of (by omega) (by omega) (by omega) (by omega)
  have oO : okPt (ox, oy) = true := okPt_of (by omega) (by omega) (by omega) (by omega)
  have P1 := fun w => Half_c (n.tmod 2049) (1 + d % 2048) w
  have P2 := fun w => Half_c (m.tmod 2049) (1 + k % 2048) w
  rw [e1] at P1
  rw [e2] at P2
  have P3 := fun w => CheckRot_c C1 S1 N1 w
  have P4 := fun w => CheckRot_c C2 S2 N2 w
  rw [errRot_yes k1] at P3
  rw [errRot_yes k2] at P4
  have P5 := fun w => Both_c C1 S1 N1 C2 S2 N2 w
  have P7 := fun w => Both_c C1 S1 N1 C1 (-S1) N1 w
  rw [back_facts k1] at P7
  have P8 := fun w => Rotate_c (px * (1 + b)) (py * (1 + b)) ox oy C1 S1 N1 w
  rw [e8] at P8
  have P9 := fun w => Distance_c (px * (1 + b)) (py * (1 + b)) ox oy w
  rw [distS_ok oP oO] at P9
  have P10 := fun w => Distance_c zx zy ox oy w
  rw [distS_ok oZ oO] at P10
  have d1 := farS_bd oP oO
  have d2 := farS_bd oZ oO
  generalize farS (px * (1 + b), py * (1 + b)) (ox, oy) = f1 at hfar P9 d1
  generalize farS (zx, zy) (ox, oy) = f2 at hfar P10 d2
  have hB : ∃ u1 u2 u3 ue : Int, bothS (C1, S1, N1) (C2, S2, N2) = ((u1, u2, u3), ue) ∧ (ue = 4 ∨ (ue = 0 ∧ ∀ w, Calls Try.prog 24 #[.agg #[.int .i64 u1, .int .i64 u2, .int .i64 u3]] w fun e w' => e = .returned (.int .i64 0) ∧ Ext w w')) := by
    rcases both_facts k1 k2 with e | ⟨C, S, N, e, h⟩
    · exact ⟨0, 0, 0, 4, e, .inl rfl⟩
    · refine ⟨C, S, N, 0, e, .inr ⟨rfl, fun w => ?_⟩⟩
      have := CheckRot_c C S N w
      rw [errRot_yes h] at this
      exact this
  obtain ⟨u1, u2, u3, ue, e5, hB⟩ := hB
  rw [e5] at P5
  have HB := Lib.hid hB
  obtain ⟨⟨q1, q2⟩, _, ⟨q3, q4⟩, _⟩ := okRot_bd k1
  have H1 := Lib.hid P1
  have H2 := Lib.hid P2
  have H3 := Lib.hid P3
  have H4 := Lib.hid P4
  have H5 := Lib.hid P5
  have H7 := Lib.hid P7
  have H8 := Lib.hid P8
  have H9 := Lib.hid P9
  have H10 := Lib.hid P10
  clear P1 P2 P3 P4 P5 P7 P8 P9 P10 hB e1 e2 e5 e8 k1 k2 oP oO oZ
  go_enter Try.func9, Try.ntmps9
  go_wp2_with fail
  refine (H1.out _).mono ?_
  rintro e w1 ⟨he, hb1⟩
  unfold rotV at he; subst he
  have x0n := Ext.cell hb1 (p := ⟨w.heap.size, 0, none⟩) (v := .int .i8 px) (by go_simp); have x1n := Ext.cell hb1 (p := ⟨w.heap.size, 1, none⟩) (v := .int .i8 py) (by go_simp); have y0n := Ext.cell hb1 (p := ⟨w.heap.size + 1, 0, none⟩) (v := .int .i8 ox) (by go_simp); have y1n := Ext.cell hb1 (p := ⟨w.heap.size + 1, 1, none⟩) (v := .int .i8 oy) (by go_simp); have lxn := World.block_lt_of_cell? w1 _ x0n; simp only at lxn; have lyn := World.block_lt_of_cell? w1 _ y0n; simp only at lyn; replace x0 := x0n; clear x0n; replace x1 := x1n; clear x1n; replace lx := lxn; clear lxn; replace y0 := y0n; clear y0n; replace y1 := y1n; clear y1n; replace ly := lyn; clear lyn
  go_wp2_with fail
  refine (H2.out _).mono ?_
  rintro e w2 ⟨he, hb2⟩
  unfold rotV at he; subst he
  have x0n := Ext.cell hb2 (p := ⟨w.heap.size, 0, none⟩) (v := .int .i8 px) (by go_simp); have x1n := Ext.cell hb2 (p := ⟨w.heap.size, 1, none⟩) (v := .int .i8 py) (by go_simp); have y0n := Ext.cell hb2 (p := ⟨w.heap.size + 1, 0, none⟩) (v := .int .i8 ox) (by go_simp); have y1n := Ext.cell hb2 (p := ⟨w.heap.size + 1, 1, none⟩) (v := .int .i8 oy) (by go_simp); have g0n := Ext.cell hb2 (p := ⟨w1.heap.size, 0, none⟩) (v := .int .i64 C1) (by go_simp); have g1n := Ext.cell hb2 (p := ⟨w1.heap.size, 1, none⟩) (v := .int .i64 S1) (by go_simp); have g2n := Ext.cell hb2 (p := ⟨w1.heap.size, 2, none⟩) (v := .int .i64 N1) (by go_simp); have lxn := World.block_lt_of_cell? w2 _ x0n; simp only at lxn; have lyn := World.block_lt_of_cell? w2 _ y0n; simp only at lyn; have lgn := World.block_lt_of_cell? w2 _ g0n; simp only at lgn; replace x0 := x0n; clear x0n; replace x1 := x1n; clear x1n; replace lx := lxn; clear lxn; replace y0 := y0n; clear y0n; replace y1 := y1n; clear y1n; replace ly := lyn; clear lyn; replace g0 := g0n; clear g0n; replace g1 := g1n; clear g1n; replace g2 := g2n; clear g2n; replace lg := lgn; clear lgn
  go_wp2_with fail
  refine (H3.out _).mono ?_
  rintro e w3 ⟨rfl, hb3⟩
  have x0n := Ext.cell hb3 (p := ⟨w.heap.size, 0, none⟩) (v := .int .i8 px) (by go_simp); have x1n := Ext.cell hb3 (p := ⟨w.heap.size, 1, none⟩) (v := .int .i8 py) (by go_simp); have y0n := Ext.cell hb3 (p := ⟨w.heap.size + 1, 0, none⟩) (v := .int .i8 ox) (by go_simp); have y1n := Ext.cell hb3 (p := ⟨w.heap.size + 1, 1, none⟩) (v := .int .i8 oy) (by go_simp); have g0n := Ext.cell hb3 (p := ⟨w1.heap.size, 0, none⟩) (v := .int .i64 C1) (by go_simp); have g1n := Ext.cell hb3 (p := ⟨w1.heap.size, 1, none⟩) (v := .int .i64 S1) (by go_simp); have g2n := Ext.cell hb3 (p := ⟨w1.heap.size, 2, none⟩) (v := .int .i64 N1) (by go_simp); have h0n := Ext.cell hb3 (p := ⟨w2.heap.size, 0, none⟩) (v := .int .i64 C2) (by go_simp); have h1n := Ext.cell hb3 (p := ⟨w2.heap.size, 1, none⟩) (v := .int .i64 S2) (by go_simp); have h2n := Ext.cell hb3 (p := ⟨w2.heap.size, 2, none⟩) (v := .int .i64 N2) (by go_simp); have lxn := World.block_lt_of_cell? w3 _ x0n; simp only at lxn; have lyn := World.block_lt_of_cell? w3 _ y0n; simp only at lyn; have lgn := World.block_lt_of_cell? w3 _ g0n; simp only at lgn; have lhn := World.block_lt_of_cell? w3 _ h0n; simp only at lhn; replace x0 := x0n; clear x0n; replace x1 := x1n; clear x1n; replace lx := lxn; clear lxn; replace y0 := y0n; clear y0n; replace y1 := y1n; clear y1n; replace ly := lyn; clear lyn; replace g0 := g0n; clear g0n; replace g1 := g1n; clear g1n; replace g2 := g2n; clear g2n; replace lg := lgn; clear lgn; replace h0 := h0n; clear h0n; replace h1 := h1n; clear h1n; replace h2 := h2n; clear h2n; replace lh := lhn; clear lhn
  go_wp2_with fail
  refine (H4.out _).mono ?_
  rintro e w4 ⟨rfl, hb4⟩
  have x0n := Ext.cell hb4 (p := ⟨w.heap.size, 0, none⟩) (v := .int .i8 px) (by go_simp); have x1n := Ext.cell hb4 (p := ⟨w.heap.size, 1, none⟩) (v := .int .i8 py) (by go_simp); have y0n := Ext.cell hb4 (p := ⟨w.heap.size + 1, 0, none⟩) (v := .int .i8 ox) (by go_simp); have y1n := Ext.cell hb4 (p := ⟨w.heap.size + 1, 1, none⟩) (v := .int .i8 oy) (by go_simp); have g0n := Ext.cell hb4 (p := ⟨w1.heap.size, 0, none⟩) (v := .int .i64 C1) (by go_simp); have g1n := Ext.cell hb4 (p := ⟨w1.heap.size, 1, none⟩) (v := .int .i64 S1) (by go_simp); have g2n := Ext.cell hb4 (p := ⟨w1.heap.size, 2, none⟩) (v := .int .i64 N1) (by go_simp); have h0n := Ext.cell hb4 (p := ⟨w2.heap.size, 0, none⟩) (v := .int .i64 C2) (by go_simp); have h1n := Ext.cell hb4 (p := ⟨w2.heap.size, 1, none⟩) (v := .int .i64 S2) (by go_simp); have h2n := Ext.cell hb4 (p := ⟨w2.heap.size, 2, none⟩) (v := .int .i64 N2) (by go_simp); have lxn := World.block_lt_of_cell? w4 _ x0n; simp only at lxn; have lyn := World.block_lt_of_cell? w4 _ y0n; simp only at lyn; have lgn := World.block_lt_of_cell? w4 _ g0n; simp only at lgn; have lhn := World.block_lt_of_cell? w4 _ h0n; simp only at lhn; replace x0 := x0n; clear x0n; replace x1 := x1n; clear x1n; replace lx := lxn; clear lxn; replace y0 := y0n; clear y0n; replace y1 := y1n; clear y1n; replace ly := lyn; clear lyn; replace g0 := g0n; clear g0n; replace g1 := g1n; clear g1n; replace g2 := g2n; clear g2n; replace lg := lgn; clear lgn; replace h0 := h0n; clear h0n; replace h1 := h1n; clear h1n; replace h2 := h2n; clear h2n; replace lh := lhn; clear lhn
  go_wp2_with fail
  refine (H5.out _).mono ?_
  rintro e w5 ⟨he, hb5⟩
  unfold rotV at he; subst he
  have x0n := Ext.cell hb5 (p := ⟨w.heap.size, 0, none⟩) (v := .int .i8 px) (by go_simp); have x1n := Ext.cell hb5 (p := ⟨w.heap.size, 1, none⟩) (v := .int .i8 py) (by go_simp); have y0n := Ext.cell hb5 (p := ⟨w.heap.size + 1, 0, none⟩) (v := .int .i8 ox) (by go_simp); have y1n := Ext.cell hb5 (p := ⟨w.heap.size + 1, 1, none⟩) (v := .int .i8 oy) (by go_simp); have g0n := Ext.cell hb5 (p := ⟨w1.heap.size, 0, none⟩) (v := .int .i64 C1) (by go_simp); have g1n := Ext.cell hb5 (p := ⟨w1.heap.size, 1, none⟩) (v := .int .i64 S1) (by go_simp); have g2n := Ext.cell hb5 (p := ⟨w1.heap.size, 2, none⟩) (v := .int .i64 N1) (by go_simp); have lxn := World.block_lt_of_cell? w5 _ x0n; simp only at lxn; have lyn := World.block_lt_of_cell? w5 _ y0n; simp only at lyn; have lgn := World.block_lt_of_cell? w5 _ g0n; simp only at lgn; replace x0 := x0n; clear x0n; replace x1 := x1n; clear x1n; replace lx := lxn; clear lxn; replace y0 := y0n; clear y0n; replace y1 := y1n; clear y1n; replace ly := lyn; clear lyn; replace g0 := g0n; clear g0n; replace g1 := g1n; clear g1n; replace g2 := g2n; clear g2n; replace lg := lgn; clear lgn
  clear H1 H2 H3 H4 H5
  go_upto_region 6 with (fail)
  go_cut [85] (fun s wc => s = .bool false ∧ Ext w wc ∧ wc.cell? ⟨w.heap.size, 0, none⟩ = some (.int .i8 px) ∧ wc.cell? ⟨w.heap.size, 1, none⟩ = some (.int .i8 py) ∧
    wc.cell? ⟨w.heap.size + 1, 0, none⟩ = some (.int .i8 ox) ∧ wc.cell? ⟨w.heap.size + 1, 1, none⟩ = some (.int .i8 oy) ∧
    wc.cell? ⟨w1.heap.size, 0, none⟩ = some (.int .i64 C1) ∧ wc.cell? ⟨w1.heap.size, 1, none⟩ = some (.int .i64 S1) ∧ wc.cell? ⟨w1.heap.size, 2, none⟩ = some (.int .i64 N1))
  case first =>
    rcases HB.out with rfl | ⟨rfl, HC'⟩
    · clear HB
      go_wp2_with fail
      go_meet
      exact ⟨rfl, by (repeat' (first | exact Ext.refl _ | assumption | refine Ext.alloc ?_ _ | refine Ext.drew ?_ | refine Ext.drewN ?_ _ | refine Ext.set ?_ (by first | exact Nat.le_refl _ | exact le1 _ | exact le2 _ | exact le3 _ | exact le4 _ | exact le5 _ | exact le6 _) _ | refine Ext.trans ?_ (by assumption))), by go_simp, by go_simp, by go_simp, by go_simp, by go_simp, by go_simp, by go_simp⟩
    · have HC := Lib.hid HC'
      clear HB HC'
      go_wp2_with fail
      refine (HC.out _).mono ?_
      rintro e w6 ⟨rfl, hb6⟩
      have x0n := Ext.cell hb6 (p := ⟨w.heap.size, 0, none⟩) (v := .int .i8 px) (by go_simp); have x1n := Ext.cell hb6 (p := ⟨w.heap.size, 1, none⟩) (v := .int .i8 py) (by go_simp); have y0n := Ext.cell hb6 (p := ⟨w.heap.size + 1, 0, none⟩) (v := .int .i8 ox) (by go_simp); have y1n := Ext.cell hb6 (p := ⟨w.heap.size + 1, 1, none⟩) (v := .int .i8 oy) (by go_simp); have g0n := Ext.cell hb6 (p := ⟨w1.heap.size, 0, none⟩) (v := .int .i64 C1) (by go_simp); have g1n := Ext.cell hb6 (p := ⟨w1.heap.size, 1, none⟩) (v := .int .i64 S1) (by go_simp); have g2n := Ext.cell hb6 (p := ⟨w1.heap.size, 2, none⟩) (v := .int .i64 N1) (by go_simp); have lxn := World.block_lt_of_cell? w6 _ x0n; simp only at lxn; have lyn := World.block_lt_of_cell? w6 _ y0n; simp only at lyn; have lgn := World.block_lt_of_cell? w6 _ g0n; simp only at lgn; replace x0 := x0n; clear x0n; replace x1 := x1n; clear x1n; replace lx := lxn; clear lxn; replace y0 := y0n; clear y0n; replace y1 := y1n; clear y1n; replace ly := lyn; clear lyn; replace g0 := g0n; clear g0n; replace g1 := g1n; clear g1n; replace g2 := g2n; clear g2n; replace lg := lgn; clear lgn
      go_wp2_with fail
      go_meet
      exact ⟨rfl, by (repeat' (first | exact Ext.refl _ | assumption | refine Ext.alloc ?_ _ | refine Ext.drew ?_ | refine Ext.drewN ?_ _ | refine Ext.set ?_ (by first | exact Nat.le_refl _ | exact le1 _ | exact le2 _ | exact le3 _ | exact le4 _ | exact le5 _ | exact le6 _) _ | refine Ext.trans ?_ (by assumption))), by go_simp, by go_simp, by go_simp, by go_simp, by go_simp, by go_simp, by go_simp⟩
  case rest =>
    obtain ⟨rfl, hE, x0, x1, y0, y1, g0, g1, g2⟩ := hcut
    clear HB hb1 hb2 hb3 hb4 hb5
    go_wp2_with fail
    refine (H7.out _).mono ?_
    rintro e w7 ⟨he, hb7⟩
    unfold rotV at he; subst he
    have x0n := Ext.cell hb7 (p := ⟨w.heap.size, 0, none⟩) (v := .int .i8 px) (by go_simp); have x1n := Ext.cell hb7 (p := ⟨w.heap.size, 1, none⟩) (v := .int .i8 py) (by go_simp); have y0n := Ext.cell hb7 (p := ⟨w.heap.size + 1, 0, none⟩) (v := .int .i8 ox) (by go_simp); have y1n := Ext.cell hb7 (p := ⟨w.heap.size + 1, 1, none⟩) (v := .int .i8 oy) (by go_simp); have g0n := Ext.cell hb7 (p := ⟨w1.heap.size, 0, none⟩) (v := .int .i64 C1) (by go_simp); have g1n := Ext.cell hb7 (p := ⟨w1.heap.size, 1, none⟩) (v := .int .i64 S1) (by go_simp); have g2n := Ext.cell hb7 (p := ⟨w1.heap.size, 2, none⟩) (v := .int .i64 N1) (by go_simp); have lxn := World.block_lt_of_cell? w7 _ x0n; simp only at lxn; have lyn := World.block_lt_of_cell? w7 _ y0n; simp only at lyn; have lgn := World.block_lt_of_cell? w7 _ g0n; simp only at lgn; replace x0 := x0n; clear x0n; replace x1 := x1n; clear x1n; replace lx := lxn; clear lxn; replace y0 := y0n; clear y0n; replace y1 := y1n; clear y1n; replace ly := lyn; clear lyn; replace g0 := g0n; clear g0n; replace g1 := g1n; clear g1n; replace g2 := g2n; clear g2n; replace lg := lgn; clear lgn
    go_upto_region 12 with (fail)
    go_cut [22] (fun s wc => s = .pointer (some ⟨w7.heap.size + 1 + 1, 0, none⟩) ∧ Ext w wc ∧ wc.cell? ⟨w7.heap.size + 1, 0, none⟩ = some (.int .i64 (px * (1 + b))) ∧ wc.cell? ⟨w7.heap.size + 1, 1, none⟩ = some (.int .i64 (py * (1 + b))) ∧
      wc.cell? ⟨w7.heap.size + 1 + 1, 0, none⟩ = some (.int .i64 ox) ∧ wc.cell? ⟨w7.heap.size + 1 + 1, 1, none⟩ = some (.int .i64 oy) ∧
      wc.cell? ⟨w1.heap.size, 0, none⟩ = some (.int .i64 C1) ∧ wc.cell? ⟨w1.heap.size, 1, none⟩ = some (.int .i64 S1) ∧ wc.cell? ⟨w1.heap.size, 2, none⟩ = some (.int .i64 N1))
    case first =>
      go_wp2_with fail
      go_meet
      exact ⟨rfl, by (repeat' (first | exact Ext.refl _ | assumption | refine Ext.alloc ?_ _ | refine Ext.drew ?_ | refine Ext.drewN ?_ _ | refine Ext.set ?_ (by first | exact Nat.le_refl _ | exact le1 _ | exact le2 _ | exact le3 _ | exact le4 _ | exact le5 _ | exact le6 _) _ | refine Ext.trans ?_ (by assumption))), by go_simp, by go_simp, by go_simp, by go_simp, Ext.cell (w := w7) (by (repeat' (first | exact Ext.refl _ | assumption | refine Ext.alloc ?_ _ | refine Ext.drew ?_ | refine Ext.drewN ?_ _ | refine Ext.set ?_ (by first | exact Nat.le_refl _ | exact le1 _ | exact le2 _ | exact le3 _ | exact le4 _ | exact le5 _ | exact le6 _) _ | refine Ext.trans ?_ (by assumption)))) g0, Ext.cell (w := w7) (by (repeat' (first | exact Ext.refl _ | assumption | refine Ext.alloc ?_ _ | refine Ext.drew ?_ | refine Ext.drewN ?_ _ | refine Ext.set ?_ (by first | exact Nat.le_refl _ | exact le1 _ | exact le2 _ | exact le3 _ | exact le4 _ | exact le5 _ | exact le6 _) _ | refine Ext.trans ?_ (by assumption)))) g1, Ext.cell (w := w7) (by (repeat' (first | exact Ext.refl _ | assumption | refine Ext.alloc ?_ _ | refine Ext.drew ?_ | refine Ext.drewN ?_ _ | refine Ext.set ?_ (by first | exact Nat.le_refl _ | exact le1 _ | exact le2 _ | exact le3 _ | exact le4 _ | exact le5 _ | exact le6 _) _ | refine Ext.trans ?_ (by assumption)))) g2⟩
    case rest =>
    obtain ⟨rfl, hE2, p0, p1, o0, o1, g0, g1, g2⟩ := hcut
    generalize w7.heap.size = B at *
    generalize w1.heap.size = A at *
    clear hb7 hE
    go_wp2_with fail
    refine (H8.out _).mono ?_
    rintro e w8 ⟨he, hb8⟩
    unfold ptV at he; subst he
    have p0n := Ext.cell hb8 (p := ⟨B + 1, 0, none⟩) (v := .int .i64 (px * (1 + b))) (by go_simp); have p1n := Ext.cell hb8 (p := ⟨B + 1, 1, none⟩) (v := .int .i64 (py * (1 + b))) (by go_simp); have o0n := Ext.cell hb8 (p := ⟨B + 1 + 1, 0, none⟩) (v := .int .i64 ox) (by go_simp); have o1n := Ext.cell hb8 (p := ⟨B + 1 + 1, 1, none⟩) (v := .int .i64 oy) (by go_simp); have lpn := World.block_lt_of_cell? w8 _ p0n; simp only at lpn; have lon := World.block_lt_of_cell? w8 _ o0n; simp only at lon; replace p0 := p0n; clear p0n; replace p1 := p1n; clear p1n; replace lp := lpn; clear lpn; replace o0 := o0n; clear o0n; replace o1 := o1n; clear o1n; replace lo := lon; clear lon
    go_wp2_with fail
    refine (H9.out _).mono ?_
    rintro e w9 ⟨he, hb9⟩
    unfold i2V at he; subst he
    have o0n := Ext.cell hb9 (p := ⟨B + 1 + 1, 0, none⟩) (v := .int .i64 ox) (by go_simp); have o1n := Ext.cell hb9 (p := ⟨B + 1 + 1, 1, none⟩) (v := .int .i64 oy) (by go_simp); have q0n := Ext.cell hb9 (p := ⟨w8.heap.size, 0, none⟩) (v := .int .i64 zx) (by go_simp); have q1n := Ext.cell hb9 (p := ⟨w8.heap.size, 1, none⟩) (v := .int .i64 zy) (by go_simp); have lon := World.block_lt_of_cell? w9 _ o0n; simp only at lon; have lqn := World.block_lt_of_cell? w9 _ q0n; simp only at lqn; replace o0 := o0n; clear o0n; replace o1 := o1n; clear o1n; replace lo := lon; clear lon; replace q0 := q0n; clear q0n; replace q1 := q1n; clear q1n; replace lq := lqn; clear lqn
    go_wp2_with fail
    refine (H10.out _).mono ?_
    rintro e w10 ⟨he, hb10⟩
    unfold i2V at he; subst he
    go_wp2_with fail
    refine (distance_c _ _ _ (by omega) (by omega) (by omega) (by omega)).mono ?_
    rintro e w' ⟨rfl, rfl⟩
    have hm : max (f1 - f2) (f2 - f1) ≤ 2 := by omega
    generalize max (f1 - f2) (f2 - f1) = m0 at hm ⊢
    go_wp2_with (go_at_call 19; refine (works_c _).mono ?_; rintro e w11 ⟨rfl, hb11⟩)
    go_ret
    exact ⟨rfl, by (repeat' (first | exact Ext.refl _ | assumption | refine Ext.alloc ?_ _ | refine Ext.drew ?_ | refine Ext.drewN ?_ _ | refine Ext.set ?_ (by first | exact Nat.le_refl _ | exact le1 _ | exact le2 _ | exact le3 _ | exact le4 _ | exact le5 _ | exact le6 _) _ | refine Ext.trans ?_ (by assumption)))⟩
end Go.Proofs.Ytngmhmpejjcngaa
