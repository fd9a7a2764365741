
/- Contract: Centre. -/
import Derived.Test.YtkkeblgahbpmmaaLMass
namespace Go.Proofs.Ytkkeblgahbpmmaa
open Go.RowKit

def cenI (m x : Int) : Int := (x + m) / (2 * m)
def cenV (l : LLoad) : Value := if loadE l = 0 then .agg #[.int .i64 (cenI (massN l.pieces) (momX l.pieces)), .int .i64 (cenI (massN l.pieces) (momY l.pieces)), .int .i64 (cenI (massN l.pieces) (momZ l.pieces))] else .agg #[.int .i64 0, .int .i64 0, .int .i64 0]
theorem all_bds {l : List LPiece} (hv : ∀ p ∈ l, pieceB p = true) (hn : l.length ≤ 40) :
    (0 ≤ massN l ∧ massN l ≤ 1000000000) ∧ (-1000000000000000 ≤ momX l ∧ momX l ≤ 1000000000000000) ∧ (-1000000000000000 ≤ momY l ∧ momY l ≤ 1000000000000000) ∧ (-1000000000000000 ≤ momZ l ∧ momZ l ≤ 1000000000000000) := by
  have h := take_bds hv hn l.length
  rwa [List.take_length] at h
set_option maxRecDepth 100000 in
set_option maxHeartbeats 1600000 in
theorem Centre_c (l : LLoad) (vp ve : Value) (w : World) (hl : IsLoad w l vp ve) :
    Calls Try.prog 19 #[loadV l vp ve] w fun e w' => e = .returned (.tuple #[cenV l, .int .i64 (loadE l)]) ∧ Ext w w' := by
  have C := Lib.hid (fun W (h : Ext w W) => LCheck_c l vp ve W (hl.ext h))
  have hok := @load_ok l
  have hs := hl.pieces
  obtain ⟨A, cap, rfl, hl1, hl2⟩ := hl.pieces.shape
  obtain ⟨B, cbp, rfl, hm1, hm2⟩ := hl.eyes.shape
  clear hl
  unfold cenV
  unfold loadV at *
  generalize loadE l = E at *
  by_cases hE : E = 0
  · subst hE
    rw [if_pos rfl]
    have K := hok rfl
    have T := Lib.hid (fun W (h : Ext w W) => total_c l.pieces _ W (hs.ext RPiece.stable h) K.pieces (Nat.le_trans K.n2 (by omega)))
    obtain ⟨-, hX, hY, hZ⟩ := all_bds K.pieces (Nat.le_trans K.n2 (by omega))
    have hM := K.mass
    clear hok hs K
    unfold totalV weightCs at T
    generalize massN l.pieces = M at *
    generalize momX l.pieces = X at *
    generalize momY l.pieces = Y at *
    generalize momZ l.pieces = Z at *
    have D := fun n W (h1 : -1000000000000000 ≤ n) (h2 : n ≤ 1000000000000000) => div_c (n + M) (2 * M) W (by omega) (by omega) (by omega) (by omega)
    replace D := Lib.hid D
    have HW := Lib.hid (And.intro (IntWalk.i64_in (2 * M) (by omega)) (And.intro (IntWalk.i64_in (X + M) (by omega)) (And.intro (IntWalk.i64_in (Y + M) (by omega)) (IntWalk.i64_in (Z + M) (by omega)))))
    have HBD := Lib.hid (And.intro hX (And.intro hY hZ))
    clear hX hY hZ hM
    go_enter Try.func19, Try.ntmps19
    go_wp2_with (first
      | (go_at_call 21; refine (C.out _ (((Ext.refl w).alloc _).alloc _)).mono ?_; rintro e w2 ⟨rfl, h2⟩; have d1 := lb_cell (lb_ext (lb_alloc (lb_new w _) _) h2) 1 _ rfl; have R2 := lb_ext (lb_new _ _) h2; rw [size_alloc] at R2; have e2 := Ext.trans (((Ext.refl w).alloc _).alloc _) h2; clear h2)
      | (go_at_call 42; refine (T.out _ e2).mono ?_; rintro e w3 ⟨rfl, h3⟩; have R3 := lb_ext R2 h3))
    have T4 := lb_new w3 (.cells #[.int .i64 M, .int .i64 X, .int .i64 Y, .int .i64 Z] 79)
    have R4 := lb_alloc R3 (.cells #[.int .i64 M, .int .i64 X, .int .i64 Y, .int .i64 Z] 79)
    have e4 := (e2.trans h3).alloc (.cells #[.int .i64 M, .int .i64 X, .int .i64 Y, .int .i64 Z] 79)
    have hne : w3.heap.size ≠ w.heap.size + 1 := by have := lb_lt R3; omega
    clear R3 R2 h3 d1
    generalize (w3.alloc (.cells #[.int .i64 M, .int .i64 X, .int .i64 Y, .int .i64 Z] 79)) = W4 at *
    generalize w3.heap.size = tb at *
    have H4 := Lib.hid (And.intro e4 (And.intro R4 T4))
    clear e4 R4 T4 e2
    have ix0 : ∀ W, (Instr.index 40 (.agg #[.int .i64 X, .int .i64 Y, .int .i64 Z]) (.int .i64 0)).run Try.prog W = .ok (.int .i64 X) W := fun _ => by rfl
    have ix1 : ∀ W, (Instr.index 40 (.agg #[.int .i64 X, .int .i64 Y, .int .i64 Z]) (.int .i64 1)).run Try.prog W = .ok (.int .i64 Y) W := fun _ => by rfl
    have ix2 : ∀ W, (Instr.index 40 (.agg #[.int .i64 X, .int .i64 Y, .int .i64 Z]) (.int .i64 2)).run Try.prog W = .ok (.int .i64 Z) W := fun _ => by rfl
    go_loopw [19] (fun i wr => ∃ (k : Nat) (x' y' z' : Int), k ≤ 3 ∧ i = .int .i64 k ∧ Ext w wr ∧ wr.heap[w.heap.size + 1]? = some (.cells #[.int .i64 x', .int .i64 y', .int .i64 z'] 40 (0, 0)) ∧ wr.heap[tb]? = some (.cells #[.int .i64 M, .int .i64 X, .int .i64 Y, .int .i64 Z] 79 (0, 0)) ∧ ((if 1 ≤ k then (X + M) / (2 * M) else 0) = x') ∧ ((if 2 ≤ k then (Y + M) / (2 * M) else 0) = y') ∧ ((if 3 ≤ k then (Z + M) / (2 * M) else 0) = z')) (fun i _ => 3 - (intOf i).toNat)
    case atStart => exact ⟨0, 0, 0, 0, by omega, rfl, H4.out.1, H4.out.2.1, H4.out.2.2, rfl, rfl, rfl⟩
    case round =>
      obtain ⟨k, x', y', z', hk, rfl, r1, r2, r3, r5, r6, r7⟩ := hrel
      have R := Lib.hid (And.intro r1 (And.intro r2 r3))
      clear r1 r2 r3
      rcases (show k = 0 ∨ k = 1 ∨ k = 2 ∨ k = 3 by omega) with rfl | rfl | rfl | rfl
      · rw [if_neg (by omega)] at r5
        rw [if_neg (by omega)] at r6
        rw [if_neg (by omega)] at r7
        subst r5 r6 r7
        have m0 := lb_cell R.out.2.2 0 _ rfl
        have z0 := lb_cell R.out.2.1 0 _ rfl
        have f0 := lb_frz R.out.2.1 0
        have g1 := HW.out.1
        have g2 := HW.out.2.1
        have DD := Lib.hid (fun W => D.out X W HBD.out.1.1 HBD.out.1.2)
        clear ix1 ix2
        go_wp2_with (go_at_call 43; refine (DD.out _).mono ?_; rintro e w5 ⟨rfl, rfl⟩)
        have B3 := lb_set 0 (.int .i64 ((X + M) / (2 * M))) R.out.2.1
        simp only [List.setIfInBounds_toArray, List.set_cons_zero] at B3
        exact ⟨⟨0+1, ((X + M) / (2 * M)), 0, 0, by omega, by go_num, Ext.set R.out.1 (by simp) _, B3, lb_old R.out.2.2 hne, rfl, rfl, rfl⟩, by simp [intOf]⟩
      · rw [if_pos (by omega)] at r5
        rw [if_neg (by omega)] at r6
        rw [if_neg (by omega)] at r7
        subst r5 r6 r7
        have m0 := lb_cell R.out.2.2 0 _ rfl
        have z0 := lb_cell R.out.2.1 1 _ rfl
        have f0 := lb_frz R.out.2.1 1
        have g1 := HW.out.1
        have g2 := HW.out.2.2.1
        have DD := Lib.hid (fun W => D.out Y W HBD.out.2.1.1 HBD.out.2.1.2)
        clear ix0 ix2
        go_wp2_with (go_at_call 43; refine (DD.out _).mono ?_; rintro e w5 ⟨rfl, rfl⟩)
        have B3 := lb_set 1 (.int .i64 ((Y + M) / (2 * M))) R.out.2.1
        simp only [List.setIfInBounds_toArray, List.set_cons_zero, List.set_cons_succ] at B3
        exact ⟨⟨1+1, ((X + M) / (2 * M)), ((Y + M) / (2 * M)), 0, by omega, by go_num, Ext.set R.out.1 (by simp) _, B3, lb_old R.out.2.2 hne, rfl, rfl, rfl⟩, by simp [intOf]⟩
      · rw [if_pos (by omega)] at r5
        rw [if_pos (by omega)] at r6
        rw [if_neg (by omega)] at r7
        subst r5 r6 r7
        have m0 := lb_cell R.out.2.2 0 _ rfl
        have z0 := lb_cell R.out.2.1 2 _ rfl
        have f0 := lb_frz R.out.2.1 2
        have g1 := HW.out.1
        have g2 := HW.out.2.2.2
        have DD := Lib.hid (fun W => D.out Z W HBD.out.2.2.1 HBD.out.2.2.2)
        clear ix0 ix1
        go_wp2_with (go_at_call 43; refine (DD.out _).mono ?_; rintro e w5 ⟨rfl, rfl⟩)
        have B3 := lb_set 2 (.int .i64 ((Z + M) / (2 * M))) R.out.2.1
        simp only [List.setIfInBounds_toArray, List.set_cons_zero, List.set_cons_succ] at B3
        exact ⟨⟨2+1, ((X + M) / (2 * M)), ((Y + M) / (2 * M)), ((Z + M) / (2 * M)), by omega, by go_num, Ext.set R.out.1 (by simp) _, B3, lb_old R.out.2.2 hne, rfl, rfl, rfl⟩, by simp [intOf]⟩
      · rw [if_pos (by omega)] at r5
        rw [if_pos (by omega)] at r6
        rw [if_pos (by omega)] at r7
        subst r5 r6 r7
        have y0 := lb_cell R.out.2.1 0 _ rfl
        have y1 := lb_cell R.out.2.1 1 _ rfl
        have y2 := lb_cell R.out.2.1 2 _ rfl
        have f0 := lb_frz R.out.2.1 0
        have f1 := lb_frz R.out.2.1 1
        have f2 := lb_frz R.out.2.1 2
        go_wp2
        exact bodyPost_ret (v := .tuple #[.agg #[.int .i64 ((X + M) / (2 * M)), .int .i64 ((Y + M) / (2 * M)), .int .i64 ((Z + M) / (2 * M))], .int .i64 0]) (by simp [results, Try.results19, go_sem, y0, y1, y2]) rfl ⟨rfl, ((R.out.1.set (by simp) _).set (by simp) _).set (by simp) _⟩
  · rw [if_neg hE]
    clear hok hs
    go_enter Try.func19, Try.ntmps19
    go_wp2_with (go_at_call 21; refine (C.out _ (((Ext.refl w).alloc _).alloc _)).mono ?_; rintro e w2 ⟨rfl, h2⟩; have R3 := lb_ext (lb_new _ _) h2; rw [size_alloc] at R3; have e2 := Ext.trans (((Ext.refl w).alloc _).alloc _) h2; clear h2; have y0 := lb_cell R3 0 _ rfl; have y1 := lb_cell R3 1 _ rfl; have y2 := lb_cell R3 2 _ rfl; have f0 := lb_frz R3 0; have f1 := lb_frz R3 1; have f2 := lb_frz R3 2)
    exact bodyPost_ret (v := .tuple #[.agg #[.int .i64 0, .int .i64 0, .int .i64 0], .int .i64 E]) (by simp [results, Try.results19, go_sem, y0, y1, y2]) rfl ⟨rfl, ((e2.set (by simp) _).set (by simp) _).set (by simp) _⟩
end Go.Proofs.Ytkkeblgahbpmmaa
