
/- Contract: validPiece. -/
import Derived.Test.YtkkeblgahbpmmaaLGreat
import Derived.Deep.RegionHeld3
import Derived.RangeFuncRecord
import Derived.Test.YtkkeblgahbpmmaaHApp
namespace Go.Proofs.Ytkkeblgahbpmmaa
open Go.RowKit

/-- whether a piece is right along an axis -/
def axB (at_ size least : Int) : Bool := inB at_ least 131072 && sideB at_ size
theorem pieceB_ax (p : LPiece) : pieceB p = (axB p.x p.l (-131072) && (axB p.y p.w (-131072) && (axB p.z p.h 0 && inB p.mass 0 16777216))) := by
  unfold pieceB axB
  cases inB p.x (-131072) 131072 <;> cases inB p.y (-131072) 131072 <;> cases inB p.z 0 131072 <;> cases sideB p.x p.l <;> cases sideB p.y p.w <;> cases sideB p.z p.h <;> rfl
theorem h2_first (W : World) (o1 o2 : Obj) : ((W.alloc o1).alloc o2).heap[W.heap.size]? = some o1 := (Below.heap_alloc (W.alloc o1) o2 W.heap.size (by rw [size_alloc]; omega)).trans (World.alloc_heap_new W o1)
theorem h2_second (W : World) (o1 o2 : Obj) : ((W.alloc o1).alloc o2).heap[W.heap.size + 1]? = some o2 := by
  have h := World.alloc_heap_new (W.alloc o1) o2
  rwa [size_alloc] at h
set_option maxRecDepth 100000 in
set_option maxHeartbeats 3200000 in
theorem validPiece_c (p : LPiece) (w : World) :
    Calls Try.prog 46 #[.agg #[.int .i64 p.x, .int .i64 p.y, .int .i64 p.z, .int .i64 p.l, .int .i64 p.w, .int .i64 p.h, .int .i64 p.mass]] w fun r w' => r = .returned (.bool (pieceB p)) ∧ Ext w w' := by
  rw [pieceB_ax]
  obtain ⟨x, y, z, l, wd, h, m⟩ := p
  simp only
  have B := fun x lo hi W => between_c x lo hi W
  replace B := Lib.hid B
  go_enter Try.func46, Try.ntmps46
  go_wp2
  have hB := World.alloc_heap_new w (.cells #[.int .i64 x, .int .i64 y, .int .i64 z, .int .i64 l, .int .i64 wd, .int .i64 h, .int .i64 m] 64)
  have EW : Ext w (w.alloc (.cells #[.int .i64 x, .int .i64 y, .int .i64 z, .int .i64 l, .int .i64 wd, .int .i64 h, .int .i64 m] 64)) := (Ext.refl w).alloc _
  generalize (w.alloc (.cells #[.int .i64 x, .int .i64 y, .int .i64 z, .int .i64 l, .int .i64 wd, .int .i64 h, .int .i64 m] 64)) = W at *
  have c0 : W.cell? ⟨w.heap.size, 0, none⟩ = some (.int .i64 x) := World.news_of_block hB 0 _ rfl
  have c1 : W.cell? ⟨w.heap.size, 1, none⟩ = some (.int .i64 y) := World.news_of_block hB 1 _ rfl
  have c2 : W.cell? ⟨w.heap.size, 2, none⟩ = some (.int .i64 z) := World.news_of_block hB 2 _ rfl
  have c3 : W.cell? ⟨w.heap.size, 3, none⟩ = some (.int .i64 l) := World.news_of_block hB 3 _ rfl
  have c4 : W.cell? ⟨w.heap.size, 4, none⟩ = some (.int .i64 wd) := World.news_of_block hB 4 _ rfl
  have c5 : W.cell? ⟨w.heap.size, 5, none⟩ = some (.int .i64 h) := World.news_of_block hB 5 _ rfl
  have HBK := Lib.hid hB
  clear hB
  go_cut [3, 4] from 7 to 20 (fun sa sb wc => ∃ ba bb : Nat, sa = .pointer (some ⟨ba, 0, none⟩) ∧ sb = .pointer (some ⟨bb, 0, none⟩) ∧ Ext W wc ∧ wc.heap[ba]? = some (.cells #[.int .i64 x, .int .i64 y, .int .i64 z] 40 (0, 0)) ∧ wc.heap[bb]? = some (.cells #[.int .i64 l, .int .i64 wd, .int .i64 h] 40 (0, 0)))
  case first =>
    go_region_held3 (fun w' => w'.cell? ⟨w.heap.size, 0, none⟩ = some (.int .i64 x) ∧ w'.cell? ⟨w.heap.size, 1, none⟩ = some (.int .i64 y) ∧ w'.cell? ⟨w.heap.size, 2, none⟩ = some (.int .i64 z) ∧ w'.cell? ⟨w.heap.size, 3, none⟩ = some (.int .i64 l) ∧ w'.cell? ⟨w.heap.size, 4, none⟩ = some (.int .i64 wd) ∧ w'.cell? ⟨w.heap.size, 5, none⟩ = some (.int .i64 h))
      (exact (fun (E : Ext W _) => ⟨E.cell c0, E.cell c1, E.cell c2, E.cell c3, E.cell c4, E.cell c5⟩) (by (repeat' (first | exact Ext.refl _ | assumption | refine Ext.alloc ?_ _ | refine Ext.drew ?_ | refine Ext.drewN ?_ _ | refine Ext.set ?_ (by first | exact Nat.le_refl _ | exact le1 _ | exact le2 _ | exact le3 _ | exact le4 _ | exact le5 _ | exact le6 _) _ | refine Ext.trans ?_ (by assumption))))) (fail)
    all_goals
      go_wp2_with fail
      go_meet
      first
        | exact ⟨W.heap.size, W.heap.size + 1, rfl, rfl, (((Ext.refl W).alloc _).alloc _).drew, h2_first W _ _, h2_second W _ _⟩
        | exact ⟨W.heap.size + 1, W.heap.size, rfl, rfl, (((Ext.refl W).alloc _).alloc _).drew, h2_second W _ _, h2_first W _ _⟩
  case rest =>
    obtain ⟨ba, bb, rfl, rfl, E1, hA, hS⟩ := hcut
    generalize wc = W1 at *
    clear c0 c1 c2 c3 c4 c5
    go_wp2
    have EL : Ext W1 (W1.alloc (.cells #[.int .i64 (-131072), .int .i64 (-131072), .int .i64 0] 40)) := (Ext.refl W1).alloc _
    have hL := World.alloc_heap_new W1 (.cells #[.int .i64 (-131072), .int .i64 (-131072), .int .i64 0] 40)
    have hA2 := (EL.block ba (Array.getElem?_eq_some_iff.1 hA).1).trans hA
    have hS2 := (EL.block bb (Array.getElem?_eq_some_iff.1 hS).1).trans hS
    have HE2 := Lib.hid (EW.trans (E1.trans EL))
    have HB2 := Lib.hid (((E1.trans EL).block w.heap.size (Array.getElem?_eq_some_iff.1 HBK.out).1).trans HBK.out)
    generalize W1.heap.size = bl at *
    clear hA hS E1
    generalize (W1.alloc (.cells #[.int .i64 (-131072), .int .i64 (-131072), .int .i64 0] 40)) = W2 at *
    have HABC := Lib.hid (And.intro hA2 (And.intro hS2 hL))
    clear hA2 hS2 hL EL
    go_loopw [22] (fun i wr => ∃ k : Nat, k ≤ 3 ∧ i = .int .i64 k ∧ (1 ≤ k → axB x l (-131072) = true) ∧ (2 ≤ k → axB y wd (-131072) = true) ∧ (3 ≤ k → axB z h 0 = true) ∧ Ext W2 wr) (fun i _ => 3 - (intOf i).toNat)
    case atStart => exact ⟨0, by omega, rfl, fun h => by omega, fun h => by omega, fun h => by omega, Ext.refl _⟩
    case round =>
      obtain ⟨k, hk, rfl, k1, k2, k3, hE⟩ := hrel
      have HK := Lib.hid (And.intro k1 (And.intro k2 k3))
      have hA := (hE.block ba (Array.getElem?_eq_some_iff.1 HABC.out.1).1).trans HABC.out.1
      have hS := (hE.block bb (Array.getElem?_eq_some_iff.1 HABC.out.2.1).1).trans HABC.out.2.1
      have hL := (hE.block bl (Array.getElem?_eq_some_iff.1 HABC.out.2.2).1).trans HABC.out.2.2
      have hP := (hE.block w.heap.size (Array.getElem?_eq_some_iff.1 HB2.out).1).trans HB2.out
      have HE := Lib.hid (HE2.out.trans hE)
      have HEr := Lib.hid hE
      clear k1 k2 k3 hE
      rcases (show k = 0 ∨ k = 1 ∨ k = 2 ∨ k = 3 by omega) with rfl | rfl | rfl | rfl
      · have a0 : wr.cell? ⟨ba, 0, none⟩ = some (.int .i64 x) := World.news_of_block hA 0 _ rfl
        have s0 : wr.cell? ⟨bb, 0, none⟩ = some (.int .i64 l) := World.news_of_block hS 0 _ rfl
        have l0 : wr.cell? ⟨bl, 0, none⟩ = some (.int .i64 (-131072)) := World.news_of_block hL 0 _ rfl
        have BC := fun W => B.out x (-131072) 131072 W
        clear hA hS hL hP
        cases hb : inB x (-131072) 131072
        · rw [hb] at BC
          replace BC := Lib.hid BC
          have hax : axB x l (-131072) = false := by unfold axB; rw [hb]; rfl
          replace hax := Lib.hid hax
          clear hb
          go_wp2
          (refine wp_region_ext (C := fun w' => Ext wr w') (by kernel_rfl) (by kernel_rfl) (by (repeat' (first | exact Ext.refl _ | assumption | refine Ext.alloc ?_ _ | refine Ext.drew ?_ | refine Ext.drewN ?_ _ | refine Ext.set ?_ (by first | exact Nat.le_refl _ | exact le1 _ | exact le2 _ | exact le3 _ | exact le4 _ | exact le5 _ | exact le6 _) _ | refine Ext.trans ?_ (by assumption)))) ?_; (repeat (with_reducible refine wpQuiet_step (fun K hK => ?_); go_simp; first | (refine hK _ ?_; clear hK K) | (apply Exists.intro; refine ⟨fun w' hC => ?_, hK _ ?_⟩; (focus first | with_reducible rfl | (have q0 := hC.cell a0; have q1 := hC.cell s0; have q2 := hC.cell l0; go_simp; done) | (have q0 := hC.cell a0; have q1 := hC.cell s0; have q2 := hC.cell l0; go_simp; exact ⟨rfl, rfl⟩) | (have q0 := hC.cell a0; have q1 := hC.cell s0; have q2 := hC.cell l0; go_simp; with_reducible rfl) | (exact (BC.out _).mono fun e w'' ⟨he, hw''⟩ => ⟨he, hw'' ▸ hC⟩)); clear hK K))); refine wpQuiet_nil ?_; intro wq hEq)
          replace hEq := Lib.hid hEq
          go_wp2
          go_ret
          exact ⟨ret_bool (by rw [hax.out]; simp), HE.out.trans hEq.out⟩
        · rw [hb] at BC
          replace BC := Lib.hid BC
          have hbd := inB_iff.1 hb
          have e1 := IntWalk.i64_in (131072 - x) (by omega)
          rcases (show l < 1 ∨ (¬ l < 1 ∧ 131072 - x < l) ∨ (¬ l < 1 ∧ ¬ 131072 - x < l) by omega) with g1 | ⟨g1, g2⟩ | ⟨g1, g2⟩
          · have hax : axB x l (-131072) = false := by unfold axB sideB; rw [hb, decide_eq_false (show ¬ 1 ≤ l by omega)]; rfl
            replace hax := Lib.hid hax
            have q1 : decide (l < 1) = true := by simpa using g1
            clear hb
            go_wp2
            (refine wp_region_ext (C := fun w' => Ext wr w') (by kernel_rfl) (by kernel_rfl) (by (repeat' (first | exact Ext.refl _ | assumption | refine Ext.alloc ?_ _ | refine Ext.drew ?_ | refine Ext.drewN ?_ _ | refine Ext.set ?_ (by first | exact Nat.le_refl _ | exact le1 _ | exact le2 _ | exact le3 _ | exact le4 _ | exact le5 _ | exact le6 _) _ | refine Ext.trans ?_ (by assumption)))) ?_; (repeat (with_reducible refine wpQuiet_step (fun K hK => ?_); go_simp; first | (refine hK _ ?_; clear hK K) | (apply Exists.intro; refine ⟨fun w' hC => ?_, hK _ ?_⟩; (focus first | with_reducible rfl | (have q0 := hC.cell a0; have q1 := hC.cell s0; have q2 := hC.cell l0; go_simp; done) | (have q0 := hC.cell a0; have q1 := hC.cell s0; have q2 := hC.cell l0; go_simp; exact ⟨rfl, rfl⟩) | (have q0 := hC.cell a0; have q1 := hC.cell s0; have q2 := hC.cell l0; go_simp; with_reducible rfl) | (exact (BC.out _).mono fun e w'' ⟨he, hw''⟩ => ⟨he, hw'' ▸ hC⟩)); clear hK K))); refine wpQuiet_nil ?_; intro wq hEq)
            replace hEq := Lib.hid hEq
            go_wp2
            go_ret
            exact ⟨ret_bool (by rw [hax.out]; simp), HE.out.trans hEq.out⟩
          · have hax : axB x l (-131072) = false := by unfold axB sideB; rw [hb, decide_eq_false (show ¬ l ≤ 131072 - x by omega)]; simp
            replace hax := Lib.hid hax
            have q1 : decide (l < 1) = false := by simpa using g1
            clear hb
            go_wp2
            (refine wp_region_ext (C := fun w' => Ext wr w') (by kernel_rfl) (by kernel_rfl) (by (repeat' (first | exact Ext.refl _ | assumption | refine Ext.alloc ?_ _ | refine Ext.drew ?_ | refine Ext.drewN ?_ _ | refine Ext.set ?_ (by first | exact Nat.le_refl _ | exact le1 _ | exact le2 _ | exact le3 _ | exact le4 _ | exact le5 _ | exact le6 _) _ | refine Ext.trans ?_ (by assumption)))) ?_; (repeat (with_reducible refine wpQuiet_step (fun K hK => ?_); go_simp; first | (refine hK _ ?_; clear hK K) | (apply Exists.intro; refine ⟨fun w' hC => ?_, hK _ ?_⟩; (focus first | with_reducible rfl | (have q0 := hC.cell a0; have q1 := hC.cell s0; have q2 := hC.cell l0; go_simp; done) | (have q0 := hC.cell a0; have q1 := hC.cell s0; have q2 := hC.cell l0; go_simp; exact ⟨rfl, rfl⟩) | (have q0 := hC.cell a0; have q1 := hC.cell s0; have q2 := hC.cell l0; go_simp; with_reducible rfl) | (exact (BC.out _).mono fun e w'' ⟨he, hw''⟩ => ⟨he, hw'' ▸ hC⟩)); clear hK K))); refine wpQuiet_nil ?_; intro wq hEq)
            replace hEq := Lib.hid hEq
            go_wp2
            go_ret
            exact ⟨ret_bool (by rw [hax.out]; simp), HE.out.trans hEq.out⟩
          · have hax := Lib.hid (show axB x l (-131072) = true by unfold axB sideB; rw [hb, decide_eq_true (show 1 ≤ l by omega), decide_eq_true (show l ≤ 131072 - x by omega)]; rfl)
            have q1 : decide (l < 1) = false := by simpa using g1
            clear hb
            go_wp2
            (refine wp_region_ext (C := fun w' => Ext wr w') (by kernel_rfl) (by kernel_rfl) (by (repeat' (first | exact Ext.refl _ | assumption | refine Ext.alloc ?_ _ | refine Ext.drew ?_ | refine Ext.drewN ?_ _ | refine Ext.set ?_ (by first | exact Nat.le_refl _ | exact le1 _ | exact le2 _ | exact le3 _ | exact le4 _ | exact le5 _ | exact le6 _) _ | refine Ext.trans ?_ (by assumption)))) ?_; (repeat (with_reducible refine wpQuiet_step (fun K hK => ?_); go_simp; first | (refine hK _ ?_; clear hK K) | (apply Exists.intro; refine ⟨fun w' hC => ?_, hK _ ?_⟩; (focus first | with_reducible rfl | (have q0 := hC.cell a0; have q1 := hC.cell s0; have q2 := hC.cell l0; go_simp; done) | (have q0 := hC.cell a0; have q1 := hC.cell s0; have q2 := hC.cell l0; go_simp; exact ⟨rfl, rfl⟩) | (have q0 := hC.cell a0; have q1 := hC.cell s0; have q2 := hC.cell l0; go_simp; with_reducible rfl) | (exact (BC.out _).mono fun e w'' ⟨he, hw''⟩ => ⟨he, hw'' ▸ hC⟩)); clear hK K))); refine wpQuiet_nil ?_; intro wq hEq)
            replace hEq := Lib.hid hEq
            go_wp2
            exact ⟨⟨0+1, by omega, by go_num, fun _ => hax.out, fun h => by omega, fun h => by omega, HEr.out.trans hEq.out⟩, by simp [intOf]⟩
      · have a0 : wr.cell? ⟨ba, 1, none⟩ = some (.int .i64 y) := World.news_of_block hA 1 _ rfl
        have s0 : wr.cell? ⟨bb, 1, none⟩ = some (.int .i64 wd) := World.news_of_block hS 1 _ rfl
        have l0 : wr.cell? ⟨bl, 1, none⟩ = some (.int .i64 (-131072)) := World.news_of_block hL 1 _ rfl
        have BC := fun W => B.out y (-131072) 131072 W
        clear hA hS hL hP
        cases hb : inB y (-131072) 131072
        · rw [hb] at BC
          replace BC := Lib.hid BC
          have hax : axB y wd (-131072) = false := by unfold axB; rw [hb]; rfl
          replace hax := Lib.hid hax
          clear hb
          go_wp2
          (refine wp_region_ext (C := fun w' => Ext wr w') (by kernel_rfl) (by kernel_rfl) (by (repeat' (first | exact Ext.refl _ | assumption | refine Ext.alloc ?_ _ | refine Ext.drew ?_ | refine Ext.drewN ?_ _ | refine Ext.set ?_ (by first | exact Nat.le_refl _ | exact le1 _ | exact le2 _ | exact le3 _ | exact le4 _ | exact le5 _ | exact le6 _) _ | refine Ext.trans ?_ (by assumption)))) ?_; (repeat (with_reducible refine wpQuiet_step (fun K hK => ?_); go_simp; first | (refine hK _ ?_; clear hK K) | (apply Exists.intro; refine ⟨fun w' hC => ?_, hK _ ?_⟩; (focus first | with_reducible rfl | (have q0 := hC.cell a0; have q1 := hC.cell s0; have q2 := hC.cell l0; go_simp; done) | (have q0 := hC.cell a0; have q1 := hC.cell s0; have q2 := hC.cell l0; go_simp; exact ⟨rfl, rfl⟩) | (have q0 := hC.cell a0; have q1 := hC.cell s0; have q2 := hC.cell l0; go_simp; with_reducible rfl) | (exact (BC.out _).mono fun e w'' ⟨he, hw''⟩ => ⟨he, hw'' ▸ hC⟩)); clear hK K))); refine wpQuiet_nil ?_; intro wq hEq)
          replace hEq := Lib.hid hEq
          go_wp2
          go_ret
          exact ⟨ret_bool (by rw [hax.out]; simp), HE.out.trans hEq.out⟩
        · rw [hb] at BC
          replace BC := Lib.hid BC
          have hbd := inB_iff.1 hb
          have e1 := IntWalk.i64_in (131072 - y) (by omega)
          rcases (show wd < 1 ∨ (¬ wd < 1 ∧ 131072 - y < wd) ∨ (¬ wd < 1 ∧ ¬ 131072 - y < wd) by omega) with g1 | ⟨g1, g2⟩ | ⟨g1, g2⟩
          · have hax : axB y wd (-131072) = false := by unfold axB sideB; rw [hb, decide_eq_false (show ¬ 1 ≤ wd by omega)]; rfl
            replace hax := Lib.hid hax
            have q1 : decide (wd < 1) = true := by simpa using g1
            clear hb
            go_wp2
            (refine wp_region_ext (C := fun w' => Ext wr w') (by kernel_rfl) (by kernel_rfl) (by (repeat' (first | exact Ext.refl _ | assumption | refine Ext.alloc ?_ _ | refine Ext.drew ?_ | refine Ext.drewN ?_ _ | refine Ext.set ?_ (by first | exact Nat.le_refl _ | exact le1 _ | exact le2 _ | exact le3 _ | exact le4 _ | exact le5 _ | exact le6 _) _ | refine Ext.trans ?_ (by assumption)))) ?_; (repeat (with_reducible refine wpQuiet_step (fun K hK => ?_); go_simp; first | (refine hK _ ?_; clear hK K) | (apply Exists.intro; refine ⟨fun w' hC => ?_, hK _ ?_⟩; (focus first | with_reducible rfl | (have q0 := hC.cell a0; have q1 := hC.cell s0; have q2 := hC.cell l0; go_simp; done) | (have q0 := hC.cell a0; have q1 := hC.cell s0; have q2 := hC.cell l0; go_simp; exact ⟨rfl, rfl⟩) | (have q0 := hC.cell a0; have q1 := hC.cell s0; have q2 := hC.cell l0; go_simp; with_reducible rfl) | (exact (BC.out _).mono fun e w'' ⟨he, hw''⟩ => ⟨he, hw'' ▸ hC⟩)); clear hK K))); refine wpQuiet_nil ?_; intro wq hEq)
            replace hEq := Lib.hid hEq
            go_wp2
            go_ret
            exact ⟨ret_bool (by rw [hax.out]; simp), HE.out.trans hEq.out⟩
          · have hax : axB y wd (-131072) = false := by unfold axB sideB; rw [hb, decide_eq_false (show ¬ wd ≤ 131072 - y by omega)]; simp
            replace hax := Lib.hid hax
            have q1 : decide (wd < 1) = false := by simpa using g1
            clear hb
            go_wp2
            (refine wp_region_ext (C := fun w' => Ext wr w') (by kernel_rfl) (by kernel_rfl) (by (repeat' (first | exact Ext.refl _ | assumption | refine Ext.alloc ?_ _ | refine Ext.drew ?_ | refine Ext.drewN ?_ _ | refine Ext.set ?_ (by first | exact Nat.le_refl _ | exact le1 _ | exact le2 _ | exact le3 _ | exact le4 _ | exact le5 _ | exact le6 _) _ | refine Ext.trans ?_ (by assumption)))) ?_; (repeat (with_reducible refine wpQuiet_step (fun K hK => ?_); go_simp; first | (refine hK _ ?_; clear hK K) | (apply Exists.intro; refine ⟨fun w' hC => ?_, hK _ ?_⟩; (focus first | with_reducible rfl | (have q0 := hC.cell a0; have q1 := hC.cell s0; have q2 := hC.cell l0; go_simp; done) | (have q0 := hC.cell a0; have q1 := hC.cell s0; have q2 := hC.cell l0; go_simp; exact ⟨rfl, rfl⟩) | (have q0 := hC.cell a0; have q1 := hC.cell s0; have q2 := hC.cell l0; go_simp; with_reducible rfl) | (exact (BC.out _).mono fun e w'' ⟨he, hw''⟩ => ⟨he, hw'' ▸ hC⟩)); clear hK K))); refine wpQuiet_nil ?_; intro wq hEq)
            replace hEq := Lib.hid hEq
            go_wp2
            go_ret
            exact ⟨ret_bool (by rw [hax.out]; simp), HE.out.trans hEq.out⟩
          · have hax := Lib.hid (show axB y wd (-131072) = true by unfold axB sideB; rw [hb, decide_eq_true (show 1 ≤ wd by omega), decide_eq_true (show wd ≤ 131072 - y by omega)]; rfl)
            have q1 : decide (wd < 1) = false := by simpa using g1
            clear hb
            go_wp2
            (refine wp_region_ext (C := fun w' => Ext wr w') (by kernel_rfl) (by kernel_rfl) (by (repeat' (first | exact Ext.refl _ | assumption | refine Ext.alloc ?_ _ | refine Ext.drew ?_ | refine Ext.drewN ?_ _ | refine Ext.set ?_ (by first | exact Nat.le_refl _ | exact le1 _ | exact le2 _ | exact le3 _ | exact le4 _ | exact le5 _ | exact le6 _) _ | refine Ext.trans ?_ (by assumption)))) ?_; (repeat (with_reducible refine wpQuiet_step (fun K hK => ?_); go_simp; first | (refine hK _ ?_; clear hK K) | (apply Exists.intro; refine ⟨fun w' hC => ?_, hK _ ?_⟩; (focus first | with_reducible rfl | (have q0 := hC.cell a0; have q1 := hC.cell s0; have q2 := hC.cell l0; go_simp; done) | (have q0 := hC.cell a0; have q1 := hC.cell s0; have q2 := hC.cell l0; go_simp; exact ⟨rfl, rfl⟩) | (have q0 := hC.cell a0; have q1 := hC.cell s0; have q2 := hC.cell l0; go_simp; with_reducible rfl) | (exact (BC.out _).mono fun e w'' ⟨he, hw''⟩ => ⟨he, hw'' ▸ hC⟩)); clear hK K))); refine wpQuiet_nil ?_; intro wq hEq)
            replace hEq := Lib.hid hEq
            go_wp2
            exact ⟨⟨1+1, by omega, by go_num, fun _ => HK.out.1 (by omega), fun _ => hax.out, fun h => by omega, HEr.out.trans hEq.out⟩, by simp [intOf]⟩
      · have a0 : wr.cell? ⟨ba, 2, none⟩ = some (.int .i64 z) := World.news_of_block hA 2 _ rfl
        have s0 : wr.cell? ⟨bb, 2, none⟩ = some (.int .i64 h) := World.news_of_block hS 2 _ rfl
        have l0 : wr.cell? ⟨bl, 2, none⟩ = some (.int .i64 0) := World.news_of_block hL 2 _ rfl
        have BC := fun W => B.out z 0 131072 W
        clear hA hS hL hP
        cases hb : inB z 0 131072
        · rw [hb] at BC
          replace BC := Lib.hid BC
          have hax : axB z h 0 = false := by unfold axB; rw [hb]; rfl
          replace hax := Lib.hid hax
          clear hb
          go_wp2
          (refine wp_region_ext (C := fun w' => Ext wr w') (by kernel_rfl) (by kernel_rfl) (by (repeat' (first | exact Ext.refl _ | assumption | refine Ext.alloc ?_ _ | refine Ext.drew ?_ | refine Ext.drewN ?_ _ | refine Ext.set ?_ (by first | exact Nat.le_refl _ | exact le1 _ | exact le2 _ | exact le3 _ | exact le4 _ | exact le5 _ | exact le6 _) _ | refine Ext.trans ?_ (by assumption)))) ?_; (repeat (with_reducible refine wpQuiet_step (fun K hK => ?_); go_simp; first | (refine hK _ ?_; clear hK K) | (apply Exists.intro; refine ⟨fun w' hC => ?_, hK _ ?_⟩; (focus first | with_reducible rfl | (have q0 := hC.cell a0; have q1 := hC.cell s0; have q2 := hC.cell l0; go_simp; done) | (have q0 := hC.cell a0; have q1 := hC.cell s0; have q2 := hC.cell l0; go_simp; exact ⟨rfl, rfl⟩) | (have q0 := hC.cell a0; have q1 := hC.cell s0; have q2 := hC.cell l0; go_simp; with_reducible rfl) | (exact (BC.out _).mono fun e w'' ⟨he, hw''⟩ => ⟨he, hw'' ▸ hC⟩)); clear hK K))); refine wpQuiet_nil ?_; intro wq hEq)
          replace hEq := Lib.hid hEq
          go_wp2
          go_ret
          exact ⟨ret_bool (by rw [hax.out]; simp), HE.out.trans hEq.out⟩
        · rw [hb] at BC
          replace BC := Lib.hid BC
          have hbd := inB_iff.1 hb
          have e1 := IntWalk.i64_in (131072 - z) (by omega)
          rcases (show h < 1 ∨ (¬ h < 1 ∧ 131072 - z < h) ∨ (¬ h < 1 ∧ ¬ 131072 - z < h) by omega) with g1 | ⟨g1, g2⟩ | ⟨g1, g2⟩
          · have hax : axB z h 0 = false := by unfold axB sideB; rw [hb, decide_eq_false (show ¬ 1 ≤ h by omega)]; rfl
            replace hax := Lib.hid hax
            have q1 : decide (h < 1) = true := by simpa using g1
            clear hb
            go_wp2
            (refine wp_region_ext (C := fun w' => Ext wr w') (by kernel_rfl) (by kernel_rfl) (by (repeat' (first | exact Ext.refl _ | assumption | refine Ext.alloc ?_ _ | refine Ext.drew ?_ | refine Ext.drewN ?_ _ | refine Ext.set ?_ (by first | exact Nat.le_refl _ | exact le1 _ | exact le2 _ | exact le3 _ | exact le4 _ | exact le5 _ | exact le6 _) _ | refine Ext.trans ?_ (by assumption)))) ?_; (repeat (with_reducible refine wpQuiet_step (fun K hK => ?_); go_simp; first | (refine hK _ ?_; clear hK K) | (apply Exists.intro; refine ⟨fun w' hC => ?_, hK _ ?_⟩; (focus first | with_reducible rfl | (have q0 := hC.cell a0; have q1 := hC.cell s0; have q2 := hC.cell l0; go_simp; done) | (have q0 := hC.cell a0; have q1 := hC.cell s0; have q2 := hC.cell l0; go_simp; exact ⟨rfl, rfl⟩) | (have q0 := hC.cell a0; have q1 := hC.cell s0; have q2 := hC.cell l0; go_simp; with_reducible rfl) | (exact (BC.out _).mono fun e w'' ⟨he, hw''⟩ => ⟨he, hw'' ▸ hC⟩)); clear hK K))); refine wpQuiet_nil ?_; intro wq hEq)
            replace hEq := Lib.hid hEq
            go_wp2
            go_ret
            exact ⟨ret_bool (by rw [hax.out]; simp), HE.out.trans hEq.out⟩
          · have hax : axB z h 0 = false := by unfold axB sideB; rw [hb, decide_eq_false (show ¬ h ≤ 131072 - z by omega)]; simp
            replace hax := Lib.hid hax
            have q1 : decide (h < 1) = false := by simpa using g1
            clear hb
            go_wp2
            (refine wp_region_ext (C := fun w' => Ext wr w') (by kernel_rfl) (by kernel_rfl) (by (repeat' (first | exact Ext.refl _ | assumption | refine Ext.alloc ?_ _ | refine Ext.drew ?_ | refine Ext.drewN ?_ _ | refine Ext.set ?_ (by first | exact Nat.le_refl _ | exact le1 _ | exact le2 _ | exact le3 _ | exact le4 _ | exact le5 _ | exact le6 _) _ | refine Ext.trans ?_ (by assumption)))) ?_; (repeat (with_reducible refine wpQuiet_step (fun K hK => ?_); go_simp; first | (refine hK _ ?_; clear hK K) | (apply Exists.intro; refine ⟨fun w' hC => ?_, hK _ ?_⟩; (focus first | with_reducible rfl | (have q0 := hC.cell a0; have q1 := hC.cell s0; have q2 := hC.cell l0; go_simp; done) | (have q0 := hC.cell a0; have q1 := hC.cell s0; have q2 := hC.cell l0; go_simp; exact ⟨rfl, rfl⟩) | (have q0 := hC.cell a0; have q1 := hC.cell s0; have q2 := hC.cell l0; go_simp; with_reducible rfl) | (exact (BC.out _).mono fun e w'' ⟨he, hw''⟩ => ⟨he, hw'' ▸ hC⟩)); clear hK K))); refine wpQuiet_nil ?_; intro wq hEq)
            replace hEq := Lib.hid hEq
            go_wp2
            go_ret
            exact ⟨ret_bool (by rw [hax.out]; simp), HE.out.trans hEq.out⟩
          · have hax := Lib.hid (show axB z h 0 = true by unfold axB sideB; rw [hb, decide_eq_true (show 1 ≤ h by omega), decide_eq_true (show h ≤ 131072 - z by omega)]; rfl)
            have q1 : decide (h < 1) = false := by simpa using g1
            clear hb
            go_wp2
            (refine wp_region_ext (C := fun w' => Ext wr w') (by kernel_rfl) (by kernel_rfl) (by (repeat' (first | exact Ext.refl _ | assumption | refine Ext.alloc ?_ _ | refine Ext.drew ?_ | refine Ext.drewN ?_ _ | refine Ext.set ?_ (by first | exact Nat.le_refl _ | exact le1 _ | exact le2 _ | exact le3 _ | exact le4 _ | exact le5 _ | exact le6 _) _ | refine Ext.trans ?_ (by assumption)))) ?_; (repeat (with_reducible refine wpQuiet_step (fun K hK => ?_); go_simp; first | (refine hK _ ?_; clear hK K) | (apply Exists.intro; refine ⟨fun w' hC => ?_, hK _ ?_⟩; (focus first | with_reducible rfl | (have q0 := hC.cell a0; have q1 := hC.cell s0; have q2 := hC.cell l0; go_simp; done) | (have q0 := hC.cell a0; have q1 := hC.cell s0; have q2 := hC.cell l0; go_simp; exact ⟨rfl, rfl⟩) | (have q0 := hC.cell a0; have q1 := hC.cell s0; have q2 := hC.cell l0; go_simp; with_reducible rfl) | (exact (BC.out _).mono fun e w'' ⟨he, hw''⟩ => ⟨he, hw'' ▸ hC⟩)); clear hK K))); refine wpQuiet_nil ?_; intro wq hEq)
            replace hEq := Lib.hid hEq
            go_wp2
            exact ⟨⟨2+1, by omega, by go_num, fun _ => HK.out.1 (by omega), fun _ => HK.out.2.1 (by omega), fun _ => hax.out, HEr.out.trans hEq.out⟩, by simp [intOf]⟩
      · have c6 : wr.cell? ⟨w.heap.size, 6, none⟩ = some (.int .i64 m) := World.news_of_block hP 6 _ rfl
        have BC := Lib.hid (fun W => B.out m 0 16777216 W)
        clear hA hS hL hP
        go_wp2_with (go_at_call 34; refine (BC.out _).mono ?_; rintro r w1 ⟨rfl, rfl⟩)
        go_ret
        exact ⟨ret_bool (by rw [HK.out.1 (by omega), HK.out.2.1 (by omega), HK.out.2.2 (by omega)]; simp), HE.out⟩
end Go.Proofs.Ytkkeblgahbpmmaa
