
/- Contracts: boxOf, (*weight).add, total. -/
import Derived.Test.YtkkeblgahbpmmaaLBlk
namespace Go.Proofs.Ytkkeblgahbpmmaa
open Go.RowKit

def pieceV (p : LPiece) : Value := .agg #[.int .i64 p.x, .int .i64 p.y, .int .i64 p.z, .int .i64 p.l, .int .i64 p.w, .int .i64 p.h, .int .i64 p.mass]
def boxV (p : LPiece) : Value := .agg #[.int .i64 p.x, .int .i64 p.y, .int .i64 p.z, .int .i64 (p.x + p.l), .int .i64 (p.y + p.w), .int .i64 (p.z + p.h)]
set_option maxRecDepth 100000 in
set_option maxHeartbeats 1600000 in
theorem boxOf_c (p : LPiece) (w : World) (hp : pieceB p = true) :
    Calls Try.prog 44 #[pieceV p] w fun e w' => e = .returned (boxV p) ∧ Ext w w' := by
  obtain ⟨⟨a1, a2⟩, ⟨b1, b2⟩, ⟨c1, c2⟩, ⟨d1, d2⟩, ⟨e1, e2⟩, ⟨f1, f2⟩, g1, g2⟩ := piece_bds hp
  clear hp
  obtain ⟨x, y, z, l, wd, h, m⟩ := p
  unfold pieceV boxV
  simp only at *
  have w1 := IntWalk.i64_in (x + l) (by omega)
  have w2 := IntWalk.i64_in (y + wd) (by omega)
  have w3 := IntWalk.i64_in (z + h) (by omega)
  clear a1 a2 b1 b2 c1 c2 d1 d2 e1 e2 f1 f2 g1 g2
  go_enter Try.func44, Try.ntmps44
  go_wp2
  exact bodyPost_ret (v := .agg #[.int .i64 x, .int .i64 y, .int .i64 z, .int .i64 (x + l), .int .i64 (y + wd), .int .i64 (z + h)]) (by simp [results, Try.results44, go_sem]) rfl ⟨rfl, by (repeat' (first | exact Ext.refl _ | assumption | refine Ext.alloc ?_ _ | refine Ext.drew ?_ | refine Ext.drewN ?_ _ | refine Ext.set ?_ (by first | exact Nat.le_refl _ | exact le1 _ | exact le2 _ | exact le3 _ | exact le4 _ | exact le5 _ | exact le6 _) _ | refine Ext.trans ?_ (by assumption)))⟩

def weightCs (m x y z : Int) : Array Value := #[.int .i64 m, .int .i64 x, .int .i64 y, .int .i64 z]
theorem mom_eq (m a l : Int) : m * (a + (a + l)) = m * (2 * a + l) := by rw [show a + (a + l) = 2 * a + l by omega]
theorem mom_bd {m a l : Int} (h1 : 0 ≤ m ∧ m ≤ 16777216) (h2 : -131072 ≤ a ∧ a ≤ 131072) (h3 : 1 ≤ l ∧ a + l ≤ 131072) : -4398046511104 ≤ m * (a + (a + l)) ∧ m * (a + (a + l)) ≤ 4398046511104 := by
  have h := Pl.mul_bd (a := m) (b := a + (a + l)) (A := 16777216) (B := 262144) (by omega) (by omega) (by omega) (by omega)
  omega
set_option maxRecDepth 100000 in
set_option maxHeartbeats 3200000 in
theorem add_c (p : LPiece) (w0 w : World) (b : Nat) (m x y z : Int) (hE : Ext w0 w) (hb : w0.heap.size ≤ b) (hB : w.heap[b]? = some (.cells (weightCs m x y z) 79 (0, 0))) (hp : pieceB p = true)
    (bm : 0 ≤ m ∧ m ≤ 1000000000) (bx : -1000000000000000 ≤ x ∧ x ≤ 1000000000000000) (by' : -1000000000000000 ≤ y ∧ y ≤ 1000000000000000) (bz : -1000000000000000 ≤ z ∧ z ≤ 1000000000000000) :
    Calls Try.prog 70 #[.pointer (some ⟨b, 0, none⟩), pieceV p] w fun e w' => e = .returned (.tuple #[]) ∧ Ext w0 w' ∧
      w'.heap[b]? = some (.cells (weightCs (m + p.mass) (x + p.mass * (2 * p.x + p.l)) (y + p.mass * (2 * p.y + p.w)) (z + p.mass * (2 * p.z + p.h))) 79 (0, 0)) := by
  have BO := Lib.hid (fun w => boxOf_c p w hp)
  have lB := lb_lt hB
  obtain ⟨ha, hbb, hc, hl, hwd, hh, hm⟩ := piece_bds hp
  rw [← mom_eq, ← mom_eq, ← mom_eq]
  have mx := mom_bd hm ha hl
  have my := mom_bd hm hbb hwd
  have mz := mom_bd hm ⟨by omega, hc.2⟩ hh
  obtain ⟨a, bb, c, l, wd, h, ms⟩ := p
  unfold pieceV boxV weightCs at *
  simp only at *
  have g1 := IntWalk.i64_in (m + ms) (by omega)
  have qx1 := IntWalk.i64_in (a + (a + l)) (by omega)
  have qx2 := IntWalk.i64_in (ms * (a + (a + l))) (by omega)
  have qx3 := IntWalk.i64_in (x + ms * (a + (a + l))) (by omega)
  have qy1 := IntWalk.i64_in (bb + (bb + wd)) (by omega)
  have qy2 := IntWalk.i64_in (ms * (bb + (bb + wd))) (by omega)
  have qy3 := IntWalk.i64_in (y + ms * (bb + (bb + wd))) (by omega)
  have qz1 := IntWalk.i64_in (c + (c + h)) (by omega)
  have qz2 := IntWalk.i64_in (ms * (c + (c + h))) (by omega)
  have qz3 := IntWalk.i64_in (z + ms * (c + (c + h))) (by omega)
  have HQ := Lib.hid (And.intro qx1 (And.intro qx2 (And.intro qx3 (And.intro qy1 (And.intro qy2 (And.intro qy3 (And.intro qz1 (And.intro qz2 qz3))))))))
  clear qx1 qx2 qx3 qy1 qy2 qy3 qz1 qz2 qz3 mx my mz ha hbb hc hl hwd hh hm hp bm bx by' bz
  generalize hX : ms * (a + (a + l)) = X at *
  generalize hY : ms * (bb + (bb + wd)) = Y at *
  generalize hZ : ms * (c + (c + h)) = Z at *
  have HX := Lib.hid (And.intro hX (And.intro hY hZ))
  clear hX hY hZ
  have HB := Lib.hid hB
  clear hB
  go_enter Try.func70, Try.ntmps70
  go_wp2_with (go_at_call 44; refine (BO.out _).mono ?_; rintro e w1 ⟨rfl, h1⟩)
  have k1 := Ext.trans ((Ext.refl w).alloc _) h1
  have e2 := Ext.trans hE (k1.alloc (.cells #[.int .i64 a, .int .i64 bb, .int .i64 c, .int .i64 (a + l), .int .i64 (bb + wd), .int .i64 (c + h)] 83))
  have B2 := lb_alloc (lb_ext HB.out k1) (.cells #[.int .i64 a, .int .i64 bb, .int .i64 c, .int .i64 (a + l), .int .i64 (bb + wd), .int .i64 (c + h)] 83)
  have P2 := lb_alloc (lb_ext (lb_new w _) h1) (.cells #[.int .i64 a, .int .i64 bb, .int .i64 c, .int .i64 (a + l), .int .i64 (bb + wd), .int .i64 (c + h)] 83)
  have X2 := lb_new w1 (.cells #[.int .i64 a, .int .i64 bb, .int .i64 c, .int .i64 (a + l), .int .i64 (bb + wd), .int .i64 (c + h)] 83)
  have n1 := h1.size
  rw [size_alloc] at n1
  have ne1 : w.heap.size ≠ b := by omega
  have ne2 : w1.heap.size ≠ b := by omega
  clear k1 h1 n1
  generalize (w1.alloc (.cells #[.int .i64 a, .int .i64 bb, .int .i64 c, .int .i64 (a + l), .int .i64 (bb + wd), .int .i64 (c + h)] 83)) = W2 at *
  generalize w1.heap.size = xb at *
  generalize w.heap.size = pb at *
  have m0 : W2.cell? ⟨b, 0, none⟩ = some (.int .i64 m) := World.news_of_block B2 0 _ rfl
  have p6 : W2.cell? ⟨pb, 6, none⟩ = some (.int .i64 ms) := World.news_of_block P2 6 _ rfl
  have HN := Lib.hid (And.intro ne1 (And.intro ne2 hb))
  have H2 := Lib.hid (And.intro e2 (And.intro B2 (And.intro P2 X2)))
  clear e2 B2 P2 X2 ne1 ne2 lB hE hb
  (refine Tail.wp_region_qtail (C := fun w' => Ext W2 w') 9 (by kernel_rfl) (by kernel_rfl) (fun _ _ _ _ _ h => h) (by (repeat' (first | exact Ext.refl _ | assumption | refine Ext.alloc ?_ _ | refine Ext.drew ?_ | refine Ext.drewN ?_ _ | refine Ext.set ?_ (by first | exact Nat.le_refl _ | exact le1 _ | exact le2 _ | exact le3 _ | exact le4 _ | exact le5 _ | exact le6 _) _ | refine Ext.trans ?_ (by assumption)))) ?_; simp only [List.take_succ_cons, List.take_zero, List.drop_succ_cons, List.drop_zero]; (repeat (with_reducible refine wpQuiet_step (fun K hK => ?_); go_simp; first | (refine hK _ ?_; clear hK K) | (apply Exists.intro; refine ⟨fun w' hC => ?_, hK _ ?_⟩; (focus first | with_reducible rfl | (have q0 := hC.cell m0; have q1 := hC.cell p6; go_simp; done) | (have q0 := hC.cell m0; have q1 := hC.cell p6; go_simp; exact ⟨rfl, rfl⟩) | (have q0 := hC.cell m0; have q1 := hC.cell p6; go_simp; with_reducible rfl)); clear hK K))); refine wpQuiet_nil ?_; intro wq hEq)
  have z0 := hEq.cell m0
  have f0 := lb_frz (lb_ext H2.out.2.1 hEq) 0
  have HE := Lib.hid hEq
  clear hEq m0 p6
  go_wp2
  have e3 := Ext.set (Ext.trans H2.out.1 HE.out) (p := ⟨b, 0, none⟩) HN.out.2.2 (.int .i64 (m + ms))
  have B3 := lb_set 0 (.int .i64 (m + ms)) (lb_ext H2.out.2.1 HE.out)
  have P3 := lb_old (i := 0) (u := .int .i64 (m + ms)) (lb_ext H2.out.2.2.1 HE.out) HN.out.1
  have X3 := lb_old (i := 0) (u := .int .i64 (m + ms)) (lb_ext H2.out.2.2.2 HE.out) HN.out.2.1
  simp only [List.setIfInBounds_toArray, List.set_cons_zero] at B3
  clear z0 f0 g1
  generalize (wq.setCell ⟨b, 0, none⟩ (.int .i64 (m + ms))) = W3 at *
  have H3 := Lib.hid (And.intro e3 (And.intro B3 (And.intro P3 X3)))
  clear e3 B3 P3 X3 HE H2
  go_loopw [17] (fun i wr => ∃ (k : Nat) (x' y' z' : Int), k ≤ 3 ∧ i = .int .i64 k ∧ Ext w0 wr ∧ wr.heap[b]? = some (.cells #[.int .i64 (m + ms), .int .i64 x', .int .i64 y', .int .i64 z'] 79 (0, 0)) ∧ wr.heap[pb]? = some (.cells #[.int .i64 a, .int .i64 bb, .int .i64 c, .int .i64 l, .int .i64 wd, .int .i64 h, .int .i64 ms] 64 (0, 0)) ∧ wr.heap[xb]? = some (.cells #[.int .i64 a, .int .i64 bb, .int .i64 c, .int .i64 (a + l), .int .i64 (bb + wd), .int .i64 (c + h)] 83 (0, 0)) ∧ ((if 1 ≤ k then x + X else x) = x') ∧ ((if 2 ≤ k then y + Y else y) = y') ∧ ((if 3 ≤ k then z + Z else z) = z')) (fun i _ => 3 - (intOf i).toNat)
  case atStart => exact ⟨0, x, y, z, by omega, rfl, H3.out.1, H3.out.2.1, H3.out.2.2.1, H3.out.2.2.2, rfl, rfl, rfl⟩
  case round =>
    obtain ⟨k, x', y', z', hk, rfl, r1, r2, r3, r4, r5, r6, r7⟩ := hrel
    have R := Lib.hid (And.intro r1 (And.intro r2 (And.intro r3 r4)))
    clear r1 r2 r3 r4
    rcases (show k = 0 ∨ k = 1 ∨ k = 2 ∨ k = 3 by omega) with rfl | rfl | rfl | rfl
    · rw [if_neg (by omega)] at r5
      rw [if_neg (by omega)] at r6
      rw [if_neg (by omega)] at r7
      subst r5 r6 r7
      have v0 : wr.cell? ⟨b, 1, none⟩ = some (.int .i64 x) := World.news_of_block R.out.2.1 1 _ rfl
      have p6 : wr.cell? ⟨pb, 6, none⟩ = some (.int .i64 ms) := World.news_of_block R.out.2.2.1 6 _ rfl
      have l0 : wr.cell? ⟨xb, 0, none⟩ = some (.int .i64 a) := World.news_of_block R.out.2.2.2 0 _ rfl
      have l1 : wr.cell? ⟨xb, 3, none⟩ = some (.int .i64 (a + l)) := World.news_of_block R.out.2.2.2 3 _ rfl
      have g1 := HQ.out.1
      have g2 := HQ.out.2.1
      have g3 := HQ.out.2.2.1
      have g0 := HX.out.1
      go_wp2
      (refine Tail.wp_region_qtail (C := fun w' => Ext wr w') 22 (by kernel_rfl) (by kernel_rfl) (fun _ _ _ _ _ h => h) (by (repeat' (first | exact Ext.refl _ | assumption | refine Ext.alloc ?_ _ | refine Ext.drew ?_ | refine Ext.drewN ?_ _ | refine Ext.set ?_ (by first | exact Nat.le_refl _ | exact le1 _ | exact le2 _ | exact le3 _ | exact le4 _ | exact le5 _ | exact le6 _) _ | refine Ext.trans ?_ (by assumption)))) ?_; simp only [List.take_succ_cons, List.take_zero, List.drop_succ_cons, List.drop_zero]; (repeat (with_reducible refine wpQuiet_step (fun K hK => ?_); go_simp; first | (refine hK _ ?_; clear hK K) | (apply Exists.intro; refine ⟨fun w' hC => ?_, hK _ ?_⟩; (focus first | with_reducible rfl | (have q0 := hC.cell v0; have q1 := hC.cell p6; have q2 := hC.cell l0; have q3 := hC.cell l1; go_simp; done) | (have q0 := hC.cell v0; have q1 := hC.cell p6; have q2 := hC.cell l0; have q3 := hC.cell l1; go_simp; exact ⟨rfl, rfl⟩) | (have q0 := hC.cell v0; have q1 := hC.cell p6; have q2 := hC.cell l0; have q3 := hC.cell l1; go_simp; with_reducible rfl)); clear hK K))); refine wpQuiet_nil ?_; intro wq hEq)
      have z0 := hEq.cell v0
      have f0 := lb_frz (lb_ext R.out.2.1 hEq) 1
      have HE := Lib.hid hEq
      clear hEq v0 p6 l0 l1
      go_wp2
      have B3 := lb_set 1 (.int .i64 (x + X)) (lb_ext R.out.2.1 HE.out)
      simp only [List.setIfInBounds_toArray, List.set_cons_zero, List.set_cons_succ] at B3
      exact ⟨⟨0+1, (x + X), y, z, by omega, by go_num, Ext.set (Ext.trans R.out.1 HE.out) HN.out.2.2 _, B3, lb_old (lb_ext R.out.2.2.1 HE.out) HN.out.1, lb_old (lb_ext R.out.2.2.2 HE.out) HN.out.2.1, rfl, rfl, rfl⟩, by simp [intOf]⟩
    · rw [if_pos (by omega)] at r5
      rw [if_neg (by omega)] at r6
      rw [if_neg (by omega)] at r7
      subst r5 r6 r7
      have v0 : wr.cell? ⟨b, 2, none⟩ = some (.int .i64 y) := World.news_of_block R.out.2.1 2 _ rfl
      have p6 : wr.cell? ⟨pb, 6, none⟩ = some (.int .i64 ms) := World.news_of_block R.out.2.2.1 6 _ rfl
      have l0 : wr.cell? ⟨xb, 1, none⟩ = some (.int .i64 bb) := World.news_of_block R.out.2.2.2 1 _ rfl
      have l1 : wr.cell? ⟨xb, 4, none⟩ = some (.int .i64 (bb + wd)) := World.news_of_block R.out.2.2.2 4 _ rfl
      have g1 := HQ.out.2.2.2.1
      have g2 := HQ.out.2.2.2.2.1
      have g3 := HQ.out.2.2.2.2.2.1
      have g0 := HX.out.2.1
      go_wp2
      (refine Tail.wp_region_qtail (C := fun w' => Ext wr w') 22 (by kernel_rfl) (by kernel_rfl) (fun _ _ _ _ _ h => h) (by (repeat' (first | exact Ext.refl _ | assumption | refine Ext.alloc ?_ _ | refine Ext.drew ?_ | refine Ext.drewN ?_ _ | refine Ext.set ?_ (by first | exact Nat.le_refl _ | exact le1 _ | exact le2 _ | exact le3 _ | exact le4 _ | exact le5 _ | exact le6 _) _ | refine Ext.trans ?_ (by assumption)))) ?_; simp only [List.take_succ_cons, List.take_zero, List.drop_succ_cons, List.drop_zero]; (repeat (with_reducible refine wpQuiet_step (fun K hK => ?_); go_simp; first | (refine hK _ ?_; clear hK K) | (apply Exists.intro; refine ⟨fun w' hC => ?_, hK _ ?_⟩; (focus first | with_reducible rfl | (have q0 := hC.cell v0; have q1 := hC.cell p6; have q2 := hC.cell l0; have q3 := hC.cell l1; go_simp; done) | (have q0 := hC.cell v0; have q1 := hC.cell p6; have q2 := hC.cell l0; have q3 := hC.cell l1; go_simp; exact ⟨rfl, rfl⟩) | (have q0 := hC.cell v0; have q1 := hC.cell p6; have q2 := hC.cell l0; have q3 := hC.cell l1; go_simp; with_reducible rfl)); clear hK K))); refine wpQuiet_nil ?_; intro wq hEq)
      have z0 := hEq.cell v0
      have f0 := lb_frz (lb_ext R.out.2.1 hEq) 2
      have HE := Lib.hid hEq
      clear hEq v0 p6 l0 l1
      go_wp2
      have B3 := lb_set 2 (.int .i64 (y + Y)) (lb_ext R.out.2.1 HE.out)
      simp only [List.setIfInBounds_toArray, List.set_cons_zero, List.set_cons_succ] at B3
      exact ⟨⟨1+1, (x + X), (y + Y), z, by omega, by go_num, Ext.set (Ext.trans R.out.1 HE.out) HN.out.2.2 _, B3, lb_old (lb_ext R.out.2.2.1 HE.out) HN.out.1, lb_old (lb_ext R.out.2.2.2 HE.out) HN.out.2.1, rfl, rfl, rfl⟩, by simp [intOf]⟩
    · rw [if_pos (by omega)] at r5
      rw [if_pos (by omega)] at r6
      rw [if_neg (by omega)] at r7
      subst r5 r6 r7
      have v0 : wr.cell? ⟨b, 3, none⟩ = some (.int .i64 z) := World.news_of_block R.out.2.1 3 _ rfl
      have p6 : wr.cell? ⟨pb, 6, none⟩ = some (.int .i64 ms) := World.news_of_block R.out.2.2.1 6 _ rfl
      have l0 : wr.cell? ⟨xb, 2, none⟩ = some (.int .i64 c) := World.news_of_block R.out.2.2.2 2 _ rfl
      have l1 : wr.cell? ⟨xb, 5, none⟩ = some (.int .i64 (c + h)) := World.news_of_block R.out.2.2.2 5 _ rfl
      have g1 := HQ.out.2.2.2.2.2.2.1
      have g2 := HQ.out.2.2.2.2.2.2.2.1
      have g3 := HQ.out.2.2.2.2.2.2.2.2
      have g0 := HX.out.2.2
      go_wp2
      (refine Tail.wp_region_qtail (C := fun w' => Ext wr w') 22 (by kernel_rfl) (by kernel_rfl) (fun _ _ _ _ _ h => h) (by (repeat' (first | exact Ext.refl _ | assumption | refine Ext.alloc ?_ _ | refine Ext.drew ?_ | refine Ext.drewN ?_ _ | refine Ext.set ?_ (by first | exact Nat.le_refl _ | exact le1 _ | exact le2 _ | exact le3 _ | exact le4 _ | exact le5 _ | exact le6 _) _ | refine Ext.trans ?_ (by assumption)))) ?_; simp only [List.take_succ_cons, List.take_zero, List.drop_succ_cons, List.drop_zero]; (repeat (with_reducible refine wpQuiet_step (fun K hK => ?_); go_simp; first | (refine hK _ ?_; clear hK K) | (apply Exists.intro; refine ⟨fun w' hC => ?_, hK _ ?_⟩; (focus first | with_reducible rfl | (have q0 := hC.cell v0; have q1 := hC.cell p6; have q2 := hC.cell l0; have q3 := hC.cell l1; go_simp; done) | (have q0 := hC.cell v0; have q1 := hC.cell p6; have q2 := hC.cell l0; have q3 := hC.cell l1; go_simp; exact ⟨rfl, rfl⟩) | (have q0 := hC.cell v0; have q1 := hC.cell p6; have q2 := hC.cell l0; have q3 := hC.cell l1; go_simp; with_reducible rfl)); clear hK K))); refine wpQuiet_nil ?_; intro wq hEq)
      have z0 := hEq.cell v0
      have f0 := lb_frz (lb_ext R.out.2.1 hEq) 3
      have HE := Lib.hid hEq
      clear hEq v0 p6 l0 l1
      go_wp2
      have B3 := lb_set 3 (.int .i64 (z + Z)) (lb_ext R.out.2.1 HE.out)
      simp only [List.setIfInBounds_toArray, List.set_cons_zero, List.set_cons_succ] at B3
      exact ⟨⟨2+1, (x + X), (y + Y), (z + Z), by omega, by go_num, Ext.set (Ext.trans R.out.1 HE.out) HN.out.2.2 _, B3, lb_old (lb_ext R.out.2.2.1 HE.out) HN.out.1, lb_old (lb_ext R.out.2.2.2 HE.out) HN.out.2.1, rfl, rfl, rfl⟩, by simp [intOf]⟩
    · rw [if_pos (by omega)] at r5
      rw [if_pos (by omega)] at r6
      rw [if_pos (by omega)] at r7
      subst r5 r6 r7
      go_wp2
      go_end0
      exact ⟨rfl, R.out.1, R.out.2.1⟩
end Go.Proofs.Ytkkeblgahbpmmaa
