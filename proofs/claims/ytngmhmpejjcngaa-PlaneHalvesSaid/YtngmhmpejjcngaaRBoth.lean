/- Contracts on turns: Both (the reference's). -/
import Derived.Test.YtngmhmpejjcngaaBoth
namespace Go.Proofs.Ytngmhmpejjcngaa
open Go.RowKit

set_option maxRecDepth 100000 in
set_option maxHeartbeats 1600000 in
theorem RBoth_c (ac as' an bc bs bn : Int) (w : World) :
    Calls Try.prog 27 #[.agg #[.int .i64 ac, .int .i64 as', .int .i64 an], .agg #[.int .i64 bc, .int .i64 bs, .int .i64 bn]] w fun e w' => e = .returned (rotV (bothS (ac, as', an) (bc, bs, bn))) ∧ Ext w w' := by
  cases h1 : okRot ac as' an
  · rw [show bothS (ac, as', an) (bc, bs, bn) = ((0, 0, 0), 2) by simp [bothS, h1]]
    have h3 : errRot ac as' an = 2 := by simp [errRot, h1]
    go_enter Try.func27, Try.ntmps27
    go_wp2_with (go_at_call 25; refine (RCheckRot_c _ _ _ _).mono ?_; rintro e w' ⟨he, hb2⟩; rw [h3] at he; subst he; (first | (replace hb := Ext.trans hb hb2; clear hb2 hc hf; obtain ⟨hc, hf⟩ := bcell hb) | (obtain ⟨hc, hf⟩ := bcell hb2; have hb := hb2; clear hb2)); have hz := Ext.sz hb; repeat (first | rw [size_alloc] at hz | rw [size_drewN] at hz | rw [size_drew] at hz | rw [size_setCell] at hz))
    exact bodyPost_ret (v := rotV ((0, 0, 0), 2)) (by simp [results, Try.results27, go_sem, rotV, hc]) rfl ⟨rfl, by (repeat' (first | exact Ext.refl _ | assumption | refine Ext.alloc ?_ _ | refine Ext.drew ?_ | refine Ext.drewN ?_ _ | refine Ext.set ?_ (by first | exact Nat.le_refl _ | exact le1 _ | exact le2 _ | exact le3 _ | exact le4 _ | exact le5 _ | exact le6 _) _ | refine Ext.trans ?_ (by assumption)))⟩
  cases h2 : okRot bc bs bn
  · rw [show bothS (ac, as', an) (bc, bs, bn) = ((0, 0, 0), 2) by simp [bothS, h2]]
    have h3 : RowKit.Hid (errRot ac as' an = 0) := by simp [RowKit.Hid, errRot, h1]
    have h4 : RowKit.Hid (errRot bc bs bn = 2) := by simp [RowKit.Hid, errRot, h2]
    clear h1 h2
    go_enter Try.func27, Try.ntmps27
    go_wp2_with fail
    refine (RCheckRot_c _ _ _ _).mono ?_; rintro e w' ⟨he, hb2⟩; rw [h3.out] at he; subst he; (first | (replace hb := Ext.trans hb hb2; clear hb2 hc hf; obtain ⟨hc, hf⟩ := bcell hb) | (obtain ⟨hc, hf⟩ := bcell hb2; have hb := hb2; clear hb2)); have hz := Ext.sz hb; repeat (first | rw [size_alloc] at hz | rw [size_drewN] at hz | rw [size_drew] at hz | rw [size_setCell] at hz)
    go_wp2_with fail
    refine (RCheckRot_c _ _ _ _).mono ?_; rintro e w' ⟨he, hb2⟩; rw [h4.out] at he; subst he; (first | (replace hb := Ext.trans hb hb2; clear hb2 hc hf; obtain ⟨hc, hf⟩ := bcell hb) | (obtain ⟨hc, hf⟩ := bcell hb2; have hb := hb2; clear hb2)); have hz := Ext.sz hb; repeat (first | rw [size_alloc] at hz | rw [size_drewN] at hz | rw [size_drew] at hz | rw [size_setCell] at hz)
    go_wp2_with fail
    exact bodyPost_ret (v := rotV ((0, 0, 0), 2)) (by simp [results, Try.results27, go_sem, rotV, hc]) rfl ⟨rfl, by (repeat' (first | exact Ext.refl _ | assumption | refine Ext.alloc ?_ _ | refine Ext.drew ?_ | refine Ext.drewN ?_ _ | refine Ext.set ?_ (by first | exact Nat.le_refl _ | exact le1 _ | exact le2 _ | exact le3 _ | exact le4 _ | exact le5 _ | exact le6 _) _ | refine Ext.trans ?_ (by assumption)))⟩
  have h3 : RowKit.Hid (errRot ac as' an = 0) := by simp [RowKit.Hid, errRot, h1]
  have h4 : RowKit.Hid (errRot bc bs bn = 0) := by simp [RowKit.Hid, errRot, h2]
  rw [show bothS (ac, as', an) (bc, bs, bn) = bothR (ac * bc - as' * bs) (as' * bc + ac * bs) (an * bn) by simp [bothS, h1, h2]]
  obtain ⟨⟨c1, c2⟩, ⟨c3, c4⟩, ⟨c5, c6⟩, ⟨c7, c8⟩, c9, c10⟩ := rot_bds h1 h2
  clear h1 h2
  go_enter Try.func27, Try.ntmps27
  go_wp2_with fail
  refine (RCheckRot_c _ _ _ _).mono ?_; rintro e w' ⟨he, hb2⟩; rw [h3.out] at he; subst he; (first | (replace hb := Ext.trans hb hb2; clear hb2 hc hf; obtain ⟨hc, hf⟩ := bcell hb) | (obtain ⟨hc, hf⟩ := bcell hb2; have hb := hb2; clear hb2)); have hz := Ext.sz hb; repeat (first | rw [size_alloc] at hz | rw [size_drewN] at hz | rw [size_drew] at hz | rw [size_setCell] at hz)
  go_wp2_with fail
  refine (RCheckRot_c _ _ _ _).mono ?_; rintro e w' ⟨he, hb2⟩; rw [h4.out] at he; subst he; (first | (replace hb := Ext.trans hb hb2; clear hb2 hc hf; obtain ⟨hc, hf⟩ := bcell hb) | (obtain ⟨hc, hf⟩ := bcell hb2; have hb := hb2; clear hb2)); have hz := Ext.sz hb; repeat (first | rw [size_alloc] at hz | rw [size_drewN] at hz | rw [size_drew] at hz | rw [size_setCell] at hz)
  go_wp2_with fail
  have B : (-600000000000000 ≤ ac * bc - as' * bs ∧ ac * bc - as' * bs ≤ 600000000000000) ∧ (-600000000000000 ≤ as' * bc + ac * bs ∧ as' * bc + ac * bs ≤ 600000000000000) := by omega
  clear h3 h4 c1 c2 c3 c4 c5 c6 c7 c8
  generalize hC : ac * bc - as' * bs = C at *
  generalize hS : as' * bc + ac * bs = S at *
  generalize hN : an * bn = N at *
  have G1 := bothG_pos C S N c9
  have G2 := bothG_le C S N c9
  have G3 : 0 ≤ gcdI (max C (-C)) (max S (-S)) := gcdI_nonneg _ _
  have G4 : gcdI (max C (-C)) (max S (-S)) ≤ 600000000000000 := gcdI_le _ _ _ (by omega) (by omega) (by omega) (by omega)
  obtain ⟨⟨B1, B2⟩, B3, B4⟩ := B
  have n1 := IntWalk.i64_in (-C) (by omega)
  have n2 := IntWalk.i64_in (-S) (by omega)
  have hz3 := Nat.lt_of_succ_le hz
  have k0 : w'.cell? ⟨w.heap.size + 1 + 1, 0, none⟩ = some (.int .i64 0) := by go_simp
  have k1 : w'.cell? ⟨w.heap.size + 1 + 1, 1, none⟩ = some (.int .i64 0) := by go_simp
  have k2 : w'.cell? ⟨w.heap.size + 1 + 1, 2, none⟩ = some (.int .i64 0) := by go_simp
  have j0 : w'.frozen? ⟨w.heap.size + 1 + 1, 0, none⟩ = false := by go_simp
  have j1 : w'.frozen? ⟨w.heap.size + 1 + 1, 1, none⟩ = false := by go_simp
  have j2 : w'.frozen? ⟨w.heap.size + 1 + 1, 2, none⟩ = false := by go_simp
  have HE : Ext w w' := by (repeat' (first | exact Ext.refl _ | assumption | refine Ext.alloc ?_ _ | refine Ext.drew ?_ | refine Ext.drewN ?_ _ | refine Ext.set ?_ (by first | exact Nat.le_refl _ | exact le1 _ | exact le2 _ | exact le3 _ | exact le4 _ | exact le5 _ | exact le6 _) _ | refine Ext.trans ?_ (by assumption)))
  clear hc hf hb hz
  go_cut [7] (fun s7 wc => s7 = .int .i64 (bothG C S N) ∧ Ext w' wc ∧ wc.cell? ⟨w'.heap.size, 0, none⟩ = some (.int .i64 C) ∧ wc.cell? ⟨w'.heap.size, 1, none⟩ = some (.int .i64 S) ∧ wc.cell? ⟨w'.heap.size, 2, none⟩ = some (.int .i64 N) ∧
    wc.frozen? ⟨w'.heap.size, 0, none⟩ = false ∧ wc.frozen? ⟨w'.heap.size, 1, none⟩ = false ∧ wc.frozen? ⟨w'.heap.size, 2, none⟩ = false)
  case first =>
    go_quiet ((go_at_call 75; refine Calls.quiet_of_same ((common_c _ _ _ _ (Nat.le_refl _) (by omega) (by omega) (by omega) (by omega)).mono (fun _ _ h => ⟨h.1, h.2.symm⟩))))
    go_wp2_with fail
    go_meet
    exact ⟨rfl, by (repeat' (first | exact Ext.refl _ | assumption | refine Ext.alloc ?_ _ | refine Ext.drew ?_ | refine Ext.drewN ?_ _ | refine Ext.set ?_ (by first | exact Nat.le_refl _ | exact le1 _ | exact le2 _ | exact le3 _ | exact le4 _ | exact le5 _ | exact le6 _) _ | refine Ext.trans ?_ (by assumption))), by go_simp, by go_simp, by go_simp, by go_simp, by go_simp, by go_simp⟩
  case rest =>
    obtain ⟨rfl, hE, t0, t1, t2, q0, q1, q2⟩ := hcut
    have m0 := Ext.cell hE k0
    have m1 := Ext.cell hE k1
    have m2 := Ext.cell hE k2
    have p0 := Ext.frz hE (p := ⟨w.heap.size + 1 + 1, 0, none⟩) hz3 j0
    have p1 := Ext.frz hE (p := ⟨w.heap.size + 1 + 1, 1, none⟩) hz3 j1
    have p2 := Ext.frz hE (p := ⟨w.heap.size + 1 + 1, 2, none⟩) hz3 j2
    clear n1 n2 k0 k1 k2 j0 j1 j2 G3 G4
    generalize hg : bothG C S N = g at *
    generalize hT : w'.heap.size = T at *
    have hne := Nat.ne_of_lt hz3
    have hne' := hne.symm
    have hTw : w.heap.size ≤ T := by omega
    have HR : RowKit.Hid (bothR (ac * bc - as' * bs) (as' * bc + ac * bs) (an * bn) = if 16777216 < N / g then ((0, 0, 0), 4) else ((C.tdiv g, S.tdiv g, N / g), 0)) := by
      unfold RowKit.Hid; rw [hC, hS, hN]; unfold bothR; rw [hg]
    clear hC hS hN hg
    have D1 := Pl.tdiv_bd C g 600000000000000 G1 (by omega) (by omega) (by omega)
    have D2 := Pl.tdiv_bd S g 600000000000000 G1 (by omega) (by omega) (by omega)
    have D3 := Pl.ediv_le N g 281474976710656 G1 (by omega) (by omega)
    have D4 := Int.ediv_nonneg (show 0 ≤ N by omega) (show 0 ≤ g by omega)
    have g0 : ¬ g = 0 := by omega
    have u1 := IntWalk.i64_in (C.tdiv g) (by omega)
    have u2 := IntWalk.i64_in (S.tdiv g) (by omega)
    have u3 : IntKind.i64.wrap (N.tdiv g) = N / g := by rw [Int.tdiv_eq_ediv_of_nonneg (by omega)]; exact IntWalk.i64_in _ (by omega)
    clear D1 D2 D3 D4 B1 B2 B3 B4 c9 c10 G1 G2
    go_wp2_with fail
    refine Tail.wp_region_tail 13 (by kernel_rfl) (by kernel_rfl) (fun _ _ _ _ _ h => h) ?_
    simp only [List.take_succ_cons, List.take_zero, List.drop_succ_cons, List.drop_zero]
    repeat still_step
    refine wpStill_nil ?_
    clear u1 u2 u3 g0
    generalize C.tdiv g = X at *
    generalize S.tdiv g = Y at *
    generalize N / g = Z at *
    have HE2 := Ext.trans HE hE
    by_cases hq : 16777216 < Z
    · go_wp2_with fail
      exact bodyPost_ret (v := rotV ((0, 0, 0), 4)) (by simp [results, Try.results27, go_sem, rotV, m0, m1, m2]) rfl ⟨by rw [HR.out, if_pos (by omega)], by
        repeat' (first | with_reducible exact HE2 | with_reducible refine Ext.drew ?_ | with_reducible refine Ext.set ?_ ?_ _ | exact le2 _ | exact hTw)⟩
    · go_wp2_with fail
      exact bodyPost_ret (v := rotV ((X, Y, Z), 0)) (by simp [results, Try.results27, go_sem, rotV, m0, m1, m2]) rfl ⟨by rw [HR.out, if_neg (by omega)], by
        repeat' (first | with_reducible exact HE2 | with_reducible refine Ext.drew ?_ | with_reducible refine Ext.set ?_ ?_ _ | exact le2 _ | exact hTw)⟩
end Go.Proofs.Ytngmhmpejjcngaa
