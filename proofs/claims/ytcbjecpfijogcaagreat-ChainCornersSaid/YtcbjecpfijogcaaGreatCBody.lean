
/- Contract: Body, by the program. -/
import Derived.Test.YtcbjecpfijogcaaGreatCBodySAll
namespace Go.Proofs.YtcbjecpfijogcaaGreat
open Go.RowKit Go.Shelf

section
variable {vu vp : Value} {v : CVeh} {lead : Pt} {ps : List Pt}
set_option maxRecDepth 100000 in
set_option maxHeartbeats 6400000 in
theorem Body_in (k : Nat) (w : World) (hs : Sl 11 RUnit w vu v.units) (hp : Pts w vp ps) (h1 : poseE v lead ps = 0) (hk : k < v.units.length) :
    Calls Tryz.prog 7 #[vehV v vu, poseV lead vp, .int .i64 k] w fun e w' => ∃ v', e = .returned (.tuple #[v', .int .i64 (bodyS v lead ps k).2]) ∧ Pts w' v' (bodyS v lead ps k).1 ∧ Ext w w' := by
  have CO := fun w' (h : Ext w w') => one_ok (lead := lead) k w' (hs.ext RUnit.stable h) (hp.ext h) h1 hk
  have HV := Lib.hid (vehE_units (puts_len h1).2.1)
  have HBS := Lib.hid (fun c (hc : (putsN lead v.units ps)[k]? = some c) => (show bodyS v lead ps k = (if firstE (bodyR c) = 0 then cornersP ((bodyR c).map (·.1)) else [], firstE (bodyR c)) by
    unfold bodyS
    rw [if_pos (oneE_ok h1 (by omega)), show ((k : Int)).toNat = k by omega, hc]))
  obtain ⟨A, cap, rfl, hl, hl2⟩ := hs.shape
  obtain ⟨Ap, capp, rfl⟩ := pts_shape hp
  obtain ⟨l1, l2⟩ := lead
  clear hs hp
  unfold vehV poseV at *
  simp only at CO ⊢
  have C := Lib.hid CO
  generalize bodyS v (l1, l2) ps k = BS at *
  clear CO h1
  go_enter Tryz.func7, Tryz.ntmps7
  go_upto_region 4 with (go_at_call 27; refine (C.out _ (by (repeat' (first | exact Ext.refl _ | assumption | refine Ext.alloc ?_ _ | refine Ext.drew ?_ | refine Ext.drewN ?_ _ | refine Ext.set ?_ (by first | exact Nat.le_refl _ | exact le1 _ | exact le2 _ | exact le3 _ | exact le4 _ | exact le5 _ | exact le6 _) _ | refine Ext.trans ?_ (by assumption))))).mono ?_; rintro e w1 ⟨x, rfl, hx, hb1⟩; have HX := Lib.hid hx; clear hx; unfold putV)
  have EW : Ext w (w1.alloc (.cells #[.int .i64 x.unit.kind, .int .i64 x.unit.length, .int .i64 x.unit.behind, .int .i64 x.unit.front, .int .i64 x.unit.rear, .int .i64 x.unit.width, .int .i64 x.unit.height, .int .i64 x.unit.mass, .int .i64 x.unit.steer, .int .i64 x.unit.most, .slice x.A x.unit.axles.length x.cap, .int .i64 x.joint.1, .int .i64 x.joint.2, .int .i64 x.axle.1, .int .i64 x.axle.2] 64)) := by (repeat' (first | exact Ext.refl _ | assumption | refine Ext.alloc ?_ _ | refine Ext.drew ?_ | refine Ext.drewN ?_ _ | refine Ext.set ?_ (by first | exact Nat.le_refl _ | exact le1 _ | exact le2 _ | exact le3 _ | exact le4 _ | exact le5 _ | exact le6 _) _ | refine Ext.trans ?_ (by assumption)))
  have hB := World.alloc_heap_new w1 (.cells #[.int .i64 x.unit.kind, .int .i64 x.unit.length, .int .i64 x.unit.behind, .int .i64 x.unit.front, .int .i64 x.unit.rear, .int .i64 x.unit.width, .int .i64 x.unit.height, .int .i64 x.unit.mass, .int .i64 x.unit.steer, .int .i64 x.unit.most, .slice x.A x.unit.axles.length x.cap, .int .i64 x.joint.1, .int .i64 x.joint.2, .int .i64 x.axle.1, .int .i64 x.axle.2] 64)
  generalize (w1.alloc (.cells #[.int .i64 x.unit.kind, .int .i64 x.unit.length, .int .i64 x.unit.behind, .int .i64 x.unit.front, .int .i64 x.unit.rear, .int .i64 x.unit.width, .int .i64 x.unit.height, .int .i64 x.unit.mass, .int .i64 x.unit.steer, .int .i64 x.unit.most, .slice x.A x.unit.axles.length x.cap, .int .i64 x.joint.1, .int .i64 x.joint.2, .int .i64 x.axle.1, .int .i64 x.axle.2] 64)) = W4 at *
  have HB := Lib.hid hB
  have HEW := Lib.hid EW
  clear EW hb1
  have d0 : W4.cell? ⟨w1.heap.size, 0, none⟩ = some (.int .i64 x.unit.kind) := World.news_of_block hB 0 _ rfl
  have d1 : W4.cell? ⟨w1.heap.size, 1, none⟩ = some (.int .i64 x.unit.length) := World.news_of_block hB 1 _ rfl
  have d2 : W4.cell? ⟨w1.heap.size, 2, none⟩ = some (.int .i64 x.unit.behind) := World.news_of_block hB 2 _ rfl
  have d3 : W4.cell? ⟨w1.heap.size, 3, none⟩ = some (.int .i64 x.unit.front) := World.news_of_block hB 3 _ rfl
  have d4 : W4.cell? ⟨w1.heap.size, 4, none⟩ = some (.int .i64 x.unit.rear) := World.news_of_block hB 4 _ rfl
  have d5 : W4.cell? ⟨w1.heap.size, 5, none⟩ = some (.int .i64 x.unit.width) := World.news_of_block hB 5 _ rfl
  have d6 : W4.cell? ⟨w1.heap.size, 6, none⟩ = some (.int .i64 x.unit.height) := World.news_of_block hB 6 _ rfl
  have d7 : W4.cell? ⟨w1.heap.size, 7, none⟩ = some (.int .i64 x.unit.mass) := World.news_of_block hB 7 _ rfl
  have d8 : W4.cell? ⟨w1.heap.size, 8, none⟩ = some (.int .i64 x.unit.steer) := World.news_of_block hB 8 _ rfl
  have d9 : W4.cell? ⟨w1.heap.size, 9, none⟩ = some (.int .i64 x.unit.most) := World.news_of_block hB 9 _ rfl
  have d10 : W4.cell? ⟨w1.heap.size, 10, none⟩ = some (.slice x.A x.unit.axles.length x.cap) := World.news_of_block hB 10 _ rfl
  have d11 : W4.cell? ⟨w1.heap.size, 11, none⟩ = some (.int .i64 x.joint.1) := World.news_of_block hB 11 _ rfl
  have d12 : W4.cell? ⟨w1.heap.size, 12, none⟩ = some (.int .i64 x.joint.2) := World.news_of_block hB 12 _ rfl
  have d13 : W4.cell? ⟨w1.heap.size, 13, none⟩ = some (.int .i64 x.axle.1) := World.news_of_block hB 13 _ rfl
  have d14 : W4.cell? ⟨w1.heap.size, 14, none⟩ = some (.int .i64 x.axle.2) := World.news_of_block hB 14 _ rfl
  have hux := HV.out x.unit (mem_of_some (putsN_at _ _ _ _ _ HX.out).1)
  have HQ := Lib.hid (HBS.out _ HX.out)
  have HRO := Lib.hid (fun h => body_ok (c := ⟨x.unit, x.joint, x.axle⟩) h)
  unfold bodyR at HQ HRO
  simp only at HQ HRO
  have hpb := pulled_bds hux
  have hub := unitB_bds hux
  have hfb := fbd hux
  have CU := Lib.hid (fun w' => pulled_x x.A x.unit.axles.length x.cap x.unit w' hux)
  have CA := fun X Y w' => at_c x X Y w'
  unfold putV at CA
  unfold ptV at CA
  have A0 := Lib.hid (fun w' => CA (pulledN x.unit + x.unit.front) x.unit.width w')
  have A1 := Lib.hid (fun w' => CA (pulledN x.unit + x.unit.front) (-x.unit.width) w')
  have A2 := Lib.hid (fun w' => CA (pulledN x.unit - x.unit.length - x.unit.rear) x.unit.width w')
  have A3 := Lib.hid (fun w' => CA (pulledN x.unit - x.unit.length - x.unit.rear) (-x.unit.width) w')
  clear CA
  have e1 := IntWalk.i64_in (pulledN x.unit + x.unit.front) (by omega)
  have e2 := IntWalk.i64_in (pulledN x.unit - x.unit.length) (by omega)
  have e3 := IntWalk.i64_in (pulledN x.unit - x.unit.length - x.unit.rear) (by omega)
  have e4 := IntWalk.i64_in (-x.unit.width) (by omega)
  clear hux hpb hub hfb
  (refine wp_region_ext (C := fun w' => Ext W4 w') (by kernel_rfl) (by kernel_rfl) (by (repeat' (first | exact Ext.refl _ | assumption | refine Ext.alloc ?_ _ | refine Ext.drew ?_ | refine Ext.drewN ?_ _ | refine Ext.set ?_ (by first | exact Nat.le_refl _ | exact le1 _ | exact le2 _ | exact le3 _ | exact le4 _ | exact le5 _ | exact le6 _) _ | refine Ext.trans ?_ (by assumption)))) ?_; (repeat (with_reducible refine wpQuiet_step (fun K hK => ?_); go_simp; first | (refine hK _ ?_; clear hK K) | (apply Exists.intro; refine ⟨fun w' hC => ?_, hK _ ?_⟩; (focus first | with_reducible rfl | (have q0 := hC.cell d0; have q1 := hC.cell d1; have q2 := hC.cell d2; have q3 := hC.cell d3; have q4 := hC.cell d4; have q5 := hC.cell d5; have q6 := hC.cell d6; have q7 := hC.cell d7; have q8 := hC.cell d8; have q9 := hC.cell d9; have q10 := hC.cell d10; have q11 := hC.cell d11; have q12 := hC.cell d12; have q13 := hC.cell d13; have q14 := hC.cell d14; go_simp; done) | (have q0 := hC.cell d0; have q1 := hC.cell d1; have q2 := hC.cell d2; have q3 := hC.cell d3; have q4 := hC.cell d4; have q5 := hC.cell d5; have q6 := hC.cell d6; have q7 := hC.cell d7; have q8 := hC.cell d8; have q9 := hC.cell d9; have q10 := hC.cell d10; have q11 := hC.cell d11; have q12 := hC.cell d12; have q13 := hC.cell d13; have q14 := hC.cell d14; go_simp; exact ⟨rfl, rfl⟩) | (have q0 := hC.cell d0; have q1 := hC.cell d1; have q2 := hC.cell d2; have q3 := hC.cell d3; have q4 := hC.cell d4; have q5 := hC.cell d5; have q6 := hC.cell d6; have q7 := hC.cell d7; have q8 := hC.cell d8; have q9 := hC.cell d9; have q10 := hC.cell d10; have q11 := hC.cell d11; have q12 := hC.cell d12; have q13 := hC.cell d13; have q14 := hC.cell d14; go_simp; with_reducible rfl) | (exact (CU.out _).mono fun e w'' ⟨he, hw''⟩ => ⟨he, hC.trans hw''⟩)); clear hK K))); refine wpQuiet_nil ?_; intro wq hEq)
  generalize pulledN x.unit + x.unit.front = F at *
  generalize pulledN x.unit - x.unit.length - x.unit.rear = R at *
  generalize placeS x.axle x.joint F x.unit.width = q0 at *
  generalize placeS x.axle x.joint F (-x.unit.width) = q1 at *
  generalize placeS x.axle x.joint R x.unit.width = q2 at *
  generalize placeS x.axle x.joint R (-x.unit.width) = q3 at *
  have EQ0 := HEW.out.trans hEq
  have HEQ := Lib.hid EQ0
  have hBq := hEq.blk HB.out
  have HBQ := Lib.hid hBq
  clear hBq EQ0 hEq d0 d1 d2 d3 d4 d5 d6 d7 d8 d9 d10 d11 d12 d13 d14
  obtain ⟨q01, qe0⟩ := q0
  obtain ⟨q11, qe1⟩ := q1
  obtain ⟨q21, qe2⟩ := q2
  obtain ⟨q31, qe3⟩ := q3
  obtain ⟨q0a, q0b⟩ := q01
  obtain ⟨q1a, q1b⟩ := q11
  obtain ⟨q2a, q2b⟩ := q21
  obtain ⟨q3a, q3b⟩ := q31
  simp only at *
  obtain ⟨FE, hFE⟩ : ∃ FE, firstE [((q0a, q0b), qe0), ((q1a, q1b), qe1), ((q2a, q2b), qe2), ((q3a, q3b), qe3)] = FE := ⟨_, rfl⟩
  rw [hFE] at HQ HRO
  simp only [List.map_cons, List.map_nil] at HQ HRO
  have HFE := Lib.hid hFE
  clear hFE
  generalize hWid : x.unit.width = Wd at *
  have ix0 : ∀ w, (Instr.index 68 (.agg #[.int .i64 F, .int .i64 R]) (.int .i64 0)).run Tryz.prog w = .ok (.int .i64 F) w := fun _ => by rfl
  have ix1 : ∀ w, (Instr.index 68 (.agg #[.int .i64 F, .int .i64 R]) (.int .i64 1)).run Tryz.prog w = .ok (.int .i64 R) w := fun _ => by rfl
  have iy0 : ∀ w, (Instr.index 68 (.agg #[.int .i64 Wd, .int .i64 (-Wd)]) (.int .i64 0)).run Tryz.prog w = .ok (.int .i64 Wd) w := fun _ => by rfl
  have iy1 : ∀ w, (Instr.index 68 (.agg #[.int .i64 Wd, .int .i64 (-Wd)]) (.int .i64 1)).run Tryz.prog w = .ok (.int .i64 (-Wd)) w := fun _ => by rfl
  go_wp2_with fail
  go_loopw [12, 53] (fun c t wr => ∃ (j N : Nat) (A : Option Addr) (cp : Nat), j ≤ 2 ∧ t = .int .i64 j ∧ c = .slice A N cp ∧ N = 2 * j ∧ firstE ([((q0a, q0b), qe0), ((q1a, q1b), qe1), ((q2a, q2b), qe2), ((q3a, q3b), qe3)].drop (2 * j)) = FE ∧ OwnP wq.heap.size wr (.slice A N cp) ([(q0a, q0b), (q1a, q1b), (q2a, q2b), (q3a, q3b)].take (2 * j)) ∧ Ext wq wr) (fun _ t _ => 2 - (intOf t).toNat)
  case atStart => exact ⟨0, 0, none, 0, by omega, rfl, rfl, rfl, HFE.out, OwnP.none0, Ext.refl _⟩
  case round =>
    obtain ⟨j, N, A', cp, hj, rfl, rfl, hN, hf, ho, hE⟩ := hrel
    have HF := Lib.hid hf
    have HO := Lib.hid ho
    have HE := Lib.hid hE
    have HN := Lib.hid hN
    clear hf ho hE hN
    obtain ⟨wA, hwA⟩ : ∃ z : World, z = wr := ⟨_, rfl⟩
    subst hwA
    by_cases hj2 : j = 2
    · subst hj2
      have hFE0 : FE = 0 := HF.out.symm
      have hok := HRO.out hFE0
      have CH := Lib.hid (fun W (h : Ext wA W) => hull_ok (.slice A' N cp) [(q0a, q0b), (q1a, q1b), (q2a, q2b), (q3a, q3b)] W (HO.out.pts.ext h) (errPts_ok (by simp) (List.all_eq_true.2 hok)) (by simp) (fun p hp => okPt_wideB (hok p hp)) (by simp))
      clear hok
      have HZ := Lib.hid hFE0
      clear hFE0
      go_wp2_with (go_at_call 30; refine (CH.out _ (by (repeat' (first | exact Ext.refl _ | assumption | refine Ext.alloc ?_ _ | refine Ext.drew ?_ | refine Ext.drewN ?_ _ | refine Ext.set ?_ (by first | exact Nat.le_refl _ | exact le1 _ | exact le2 _ | exact le3 _ | exact le4 _ | exact le5 _ | exact le6 _) _ | refine Ext.trans ?_ (by assumption))))).mono ?_; rintro e w8 ⟨v8, rfl, hp8, hb8⟩; obtain ⟨A8, c8, rfl, _⟩ := hp8.shapeH; have HP8 := Lib.hid hp8; clear hp8)
      exact bodyPost_ret (v := .tuple #[.slice A8 (cornersP [(q0a, q0b), (q1a, q1b), (q2a, q2b), (q3a, q3b)]).length c8, .int .i64 0]) (by simp [results, Tryz.results7, go_sem]) rfl ⟨_, by rw [HQ.out, HZ.out], by rw [HQ.out, if_pos HZ.out]; exact HP8.out, HEQ.out.trans (HE.out.trans hb8)⟩
    by_cases hj0 : j = 0
    · subst hj0
      clear hj2
      rw [show ((0 : Nat) : Int) = 0 from rfl]
      have hBr := HE.out.blk HBQ.out
      have r0 : wA.cell? ⟨w1.heap.size, 0, none⟩ = some (.int .i64 x.unit.kind) := World.news_of_block hBr 0 _ rfl
      have r1 : wA.cell? ⟨w1.heap.size, 1, none⟩ = some (.int .i64 x.unit.length) := World.news_of_block hBr 1 _ rfl
      have r2 : wA.cell? ⟨w1.heap.size, 2, none⟩ = some (.int .i64 x.unit.behind) := World.news_of_block hBr 2 _ rfl
      have r3 : wA.cell? ⟨w1.heap.size, 3, none⟩ = some (.int .i64 x.unit.front) := World.news_of_block hBr 3 _ rfl
      have r4 : wA.cell? ⟨w1.heap.size, 4, none⟩ = some (.int .i64 x.unit.rear) := World.news_of_block hBr 4 _ rfl
      have r5 : wA.cell? ⟨w1.heap.size, 5, none⟩ = some (.int .i64 Wd) := World.news_of_block hBr 5 _ rfl
      have r6 : wA.cell? ⟨w1.heap.size, 6, none⟩ = some (.int .i64 x.unit.height) := World.news_of_block hBr 6 _ rfl
      have r7 : wA.cell? ⟨w1.heap.size, 7, none⟩ = some (.int .i64 x.unit.mass) := World.news_of_block hBr 7 _ rfl
      have r8 : wA.cell? ⟨w1.heap.size, 8, none⟩ = some (.int .i64 x.unit.steer) := World.news_of_block hBr 8 _ rfl
      have r9 : wA.cell? ⟨w1.heap.size, 9, none⟩ = some (.int .i64 x.unit.most) := World.news_of_block hBr 9 _ rfl
      have r10 : wA.cell? ⟨w1.heap.size, 10, none⟩ = some (.slice x.A x.unit.axles.length x.cap) := World.news_of_block hBr 10 _ rfl
      have r11 : wA.cell? ⟨w1.heap.size, 11, none⟩ = some (.int .i64 x.joint.1) := World.news_of_block hBr 11 _ rfl
      have r12 : wA.cell? ⟨w1.heap.size, 12, none⟩ = some (.int .i64 x.joint.2) := World.news_of_block hBr 12 _ rfl
      have r13 : wA.cell? ⟨w1.heap.size, 13, none⟩ = some (.int .i64 x.axle.1) := World.news_of_block hBr 13 _ rfl
      have r14 : wA.cell? ⟨w1.heap.size, 14, none⟩ = some (.int .i64 x.axle.2) := World.news_of_block hBr 14 _ rfl
      go_wp2_with fail
      clear hBr r0 r1 r2 r3 r4 r5 r6 r7 r8 r9 r10 r11 r12 r13 r14
      go_loopw [12, 66] (fun c t wr => ∃ (i N : Nat) (A : Option Addr) (cp : Nat), i ≤ 2 ∧ t = .int .i64 i ∧ c = .slice A N cp ∧ N = 0 + i ∧ firstE ([((q0a, q0b), qe0), ((q1a, q1b), qe1), ((q2a, q2b), qe2), ((q3a, q3b), qe3)].drop (0 + i)) = FE ∧ OwnP wq.heap.size wr (.slice A N cp) ([(q0a, q0b), (q1a, q1b), (q2a, q2b), (q3a, q3b)].take (0 + i)) ∧ Ext wq wr) (fun _ t _ => 2 - (intOf t).toNat)
      case atStart => exact ⟨0, N, A', cp, by omega, rfl, rfl, HN.out, HF.out, HO.out, HE.out⟩
      case round =>
        clear HF HO HE HN
        obtain ⟨i, M, A, c5, hi, rfl, rfl, hM, hf, ho, hE⟩ := hrel
        have HF := Lib.hid hf
        have HO := Lib.hid ho
        have HE := Lib.hid hE
        have HM := Lib.hid hM
        clear hf ho hE hM
        by_cases hi2 : i = 2
        · subst hi2
          clear hi
          go_wp2_with fail
          exact ⟨⟨1, M, A, c5, by omega, by go_num, rfl, by have := HM.out; omega, HF.out, HO.out, HE.out⟩, by simp [intOf]⟩
        by_cases hi0 : i = 0
        · subst hi0
          clear hi2 hi
          rw [show ((0 : Nat) : Int) = 0 from rfl]
          have hBr := HE.out.blk HBQ.out
          have r0 : wr.cell? ⟨w1.heap.size, 0, none⟩ = some (.int .i64 x.unit.kind) := World.news_of_block hBr 0 _ rfl
          have r1 : wr.cell? ⟨w1.heap.size, 1, none⟩ = some (.int .i64 x.unit.length) := World.news_of_block hBr 1 _ rfl
          have r2 : wr.cell? ⟨w1.heap.size, 2, none⟩ = some (.int .i64 x.unit.behind) := World.news_of_block hBr 2 _ rfl
          have r3 : wr.cell? ⟨w1.heap.size, 3, none⟩ = some (.int .i64 x.unit.front) := World.news_of_block hBr 3 _ rfl
          have r4 : wr.cell? ⟨w1.heap.size, 4, none⟩ = some (.int .i64 x.unit.rear) := World.news_of_block hBr 4 _ rfl
          have r5 : wr.cell? ⟨w1.heap.size, 5, none⟩ = some (.int .i64 Wd) := World.news_of_block hBr 5 _ rfl
          have r6 : wr.cell? ⟨w1.heap.size, 6, none⟩ = some (.int .i64 x.unit.height) := World.news_of_block hBr 6 _ rfl
          have r7 : wr.cell? ⟨w1.heap.size, 7, none⟩ = some (.int .i64 x.unit.mass) := World.news_of_block hBr 7 _ rfl
          have r8 : wr.cell? ⟨w1.heap.size, 8, none⟩ = some (.int .i64 x.unit.steer) := World.news_of_block hBr 8 _ rfl
          have r9 : wr.cell? ⟨w1.heap.size, 9, none⟩ = some (.int .i64 x.unit.most) := World.news_of_block hBr 9 _ rfl
          have r10 : wr.cell? ⟨w1.heap.size, 10, none⟩ = some (.slice x.A x.unit.axles.length x.cap) := World.news_of_block hBr 10 _ rfl
          have r11 : wr.cell? ⟨w1.heap.size, 11, none⟩ = some (.int .i64 x.joint.1) := World.news_of_block hBr 11 _ rfl
          have r12 : wr.cell? ⟨w1.heap.size, 12, none⟩ = some (.int .i64 x.joint.2) := World.news_of_block hBr 12 _ rfl
          have r13 : wr.cell? ⟨w1.heap.size, 13, none⟩ = some (.int .i64 x.axle.1) := World.news_of_block hBr 13 _ rfl
          have r14 : wr.cell? ⟨w1.heap.size, 14, none⟩ = some (.int .i64 x.axle.2) := World.news_of_block hBr 14 _ rfl
          by_cases hqe : qe0 = 0
          · subst hqe
            have hf2 : firstE ([((q0a, q0b), (0 : Int)), ((q1a, q1b), qe1), ((q2a, q2b), qe2), ((q3a, q3b), qe3)].drop 1) = FE := (firstE_ok (r := ((q0a, q0b), (0 : Int))) rfl).symm.trans HF.out
            have HF2 := Lib.hid hf2
            have hMe : M = 0 := HM.out
            have HMe := Lib.hid (show ([] : List Pt).length = M from hMe.symm)
            have hMb : M ≤ 10 := by omega
            have ho2 : OwnP wq.heap.size wr (.slice A M c5) [] := HO.out
            have HO2 := Lib.hid ho2
            clear hf2 hMe ho2
            have zE := HE.out.sz
            go_wp2_with (first
              | (go_at_call 29; (with_reducible refine (A0.out _).mono ?_); rintro e w5 ⟨rfl, hb5⟩)
              | (at_builtin; refine wpList_append_pt1 (by rfl) _ _ (by rfl) wq.heap.size (.slice A M c5) [] M (w5.heap.size + 1) q0a q0b (by rfl) (HO2.out.ext ((hb5.alloc _).alloc _)) HMe.out (by rfl) (heap2_second w5 _ _) (by omega) (by have := hb5.sz; simp; omega) ?_; intro g4 c4 w4 ho4 hg4 _; have E4 : Ext wq w4 := Ext.trans' (w := wq) (((HE.out.trans hb5).alloc _).alloc _) hg4 (own_ge' HO2.out); replace ho4 := Lib.hid ho4; replace hg4 := Lib.hid hg4; replace E4 := Lib.hid E4))
            go_roundw
            case rel => exact ⟨1, M + 1, some ⟨g4, 0, none⟩, c4, by omega, by go_num, rfl, by have := HM.out; omega, HF2.out, ho4.out, E4.out⟩
            case measure => simp [intOf]
          · have hf2 : qe0 = FE := (firstE_bad (r := ((q0a, q0b), qe0)) hqe).symm.trans HF.out
            have hn1 : (qe0 != 0) = true := by simpa using hqe
            have HF2 := Lib.hid hf2
            have HNQ := Lib.hid hqe
            clear hf2 hqe
            go_wp2_with (go_at_call 29; (with_reducible refine (A0.out _).mono ?_); rintro e w5 ⟨rfl, hb5⟩)
            exact bodyPost_ret (v := .tuple #[.slice none 0 0, .int .i64 qe0]) (by simp [results, Tryz.results7, go_sem]) rfl ⟨_, by rw [HQ.out, ← HF2.out], by rw [HQ.out, if_neg (by rw [← HF2.out]; exact HNQ.out)]; exact .inl ⟨none, 0, rfl, rfl⟩, HEQ.out.trans (HE.out.trans (by (repeat' (first | exact Ext.refl _ | assumption | refine Ext.alloc ?_ _ | refine Ext.drew ?_ | refine Ext.drewN ?_ _ | refine Ext.set ?_ (by first | exact Nat.le_refl _ | exact le1 _ | exact le2 _ | exact le3 _ | exact le4 _ | exact le5 _ | exact le6 _) _ | refine Ext.trans ?_ (by assumption)))))⟩
        obtain rfl : i = 1 := by omega
        · clear hi2 hi0 hi
          rw [show ((1 : Nat) : Int) = 1 from rfl]
          have hBr := HE.out.blk HBQ.out
          have r0 : wr.cell? ⟨w1.heap.size, 0, none⟩ = some (.int .i64 x.unit.kind) := World.news_of_block hBr 0 _ rfl
          have r1 : wr.cell? ⟨w1.heap.size, 1, none⟩ = some (.int .i64 x.unit.length) := World.news_of_block hBr 1 _ rfl
          have r2 : wr.cell? ⟨w1.heap.size, 2, none⟩ = some (.int .i64 x.unit.behind) := World.news_of_block hBr 2 _ rfl
          have r3 : wr.cell? ⟨w1.heap.size, 3, none⟩ = some (.int .i64 x.unit.front) := World.news_of_block hBr 3 _ rfl
          have r4 : wr.cell? ⟨w1.heap.size, 4, none⟩ = some (.int .i64 x.unit.rear) := World.news_of_block hBr 4 _ rfl
          have r5 : wr.cell? ⟨w1.heap.size, 5, none⟩ = some (.int .i64 Wd) := World.news_of_block hBr 5 _ rfl
          have r6 : wr.cell? ⟨w1.heap.size, 6, none⟩ = some (.int .i64 x.unit.height) := World.news_of_block hBr 6 _ rfl
          have r7 : wr.cell? ⟨w1.heap.size, 7, none⟩ = some (.int .i64 x.unit.mass) := World.news_of_block hBr 7 _ rfl
          have r8 : wr.cell? ⟨w1.heap.size, 8, none⟩ = some (.int .i64 x.unit.steer) := World.news_of_block hBr 8 _ rfl
          have r9 : wr.cell? ⟨w1.heap.size, 9, none⟩ = some (.int .i64 x.unit.most) := World.news_of_block hBr 9 _ rfl
          have r10 : wr.cell? ⟨w1.heap.size, 10, none⟩ = some (.slice x.A x.unit.axles.length x.cap) := World.news_of_block hBr 10 _ rfl
          have r11 : wr.cell? ⟨w1.heap.size, 11, none⟩ = some (.int .i64 x.joint.1) := World.news_of_block hBr 11 _ rfl
          have r12 : wr.cell? ⟨w1.heap.size, 12, none⟩ = some (.int .i64 x.joint.2) := World.news_of_block hBr 12 _ rfl
          have r13 : wr.cell? ⟨w1.heap.size, 13, none⟩ = some (.int .i64 x.axle.1) := World.news_of_block hBr 13 _ rfl
          have r14 : wr.cell? ⟨w1.heap.size, 14, none⟩ = some (.int .i64 x.axle.2) := World.news_of_block hBr 14 _ rfl
          by_cases hqe : qe1 = 0
          · subst hqe
            have hf2 : firstE ([((q0a, q0b), qe0), ((q1a, q1b), (0 : Int)), ((q2a, q2b), qe2), ((q3a, q3b), qe3)].drop 2) = FE := (firstE_ok (r := ((q1a, q1b), (0 : Int))) rfl).symm.trans HF.out
            have HF2 := Lib.hid hf2
            have hMe : M = 1 := HM.out
            have HMe := Lib.hid (show ([(q0a, q0b)] : List Pt).length = M from hMe.symm)
            have hMb : M ≤ 10 := by omega
            have ho2 : OwnP wq.heap.size wr (.slice A M c5) [(q0a, q0b)] := HO.out
            have HO2 := Lib.hid ho2
            clear hf2 hMe ho2
            have zE := HE.out.sz
            go_wp2_with (first
              | (go_at_call 29; (with_reducible refine (A1.out _).mono ?_); rintro e w5 ⟨rfl, hb5⟩)
              | (at_builtin; refine wpList_append_pt1 (by rfl) _ _ (by rfl) wq.heap.size (.slice A M c5) [(q0a, q0b)] M (w5.heap.size + 1) q1a q1b (by rfl) (HO2.out.ext ((hb5.alloc _).alloc _)) HMe.out (by rfl) (heap2_second w5 _ _) (by omega) (by have := hb5.sz; simp; omega) ?_; intro g4 c4 w4 ho4 hg4 _; have E4 : Ext wq w4 := Ext.trans' (w := wq) (((HE.out.trans hb5).alloc _).alloc _) hg4 (own_ge' HO2.out); replace ho4 := Lib.hid ho4; replace hg4 := Lib.hid hg4; replace E4 := Lib.hid E4))
            go_roundw
            case rel => exact ⟨2, M + 1, some ⟨g4, 0, none⟩, c4, by omega, by go_num, rfl, by have := HM.out; omega, HF2.out, ho4.out, E4.out⟩
            case measure => simp [intOf]
          · have hf2 : qe1 = FE := (firstE_bad (r := ((q1a, q1b), qe1)) hqe).symm.trans HF.out
            have hn1 : (qe1 != 0) = true := by simpa using hqe
            have HF2 := Lib.hid hf2
            have HNQ := Lib.hid hqe
            clear hf2 hqe
            go_wp2_with (go_at_call 29; (with_reducible refine (A1.out _).mono ?_); rintro e w5 ⟨rfl, hb5⟩)
            exact bodyPost_ret (v := .tuple #[.slice none 0 0, .int .i64 qe1]) (by simp [results, Tryz.results7, go_sem]) rfl ⟨_, by rw [HQ.out, ← HF2.out], by rw [HQ.out, if_neg (by rw [← HF2.out]; exact HNQ.out)]; exact .inl ⟨none, 0, rfl, rfl⟩, HEQ.out.trans (HE.out.trans (by (repeat' (first | exact Ext.refl _ | assumption | refine Ext.alloc ?_ _ | refine Ext.drew ?_ | refine Ext.drewN ?_ _ | refine Ext.set ?_ (by first | exact Nat.le_refl _ | exact le1 _ | exact le2 _ | exact le3 _ | exact le4 _ | exact le5 _ | exact le6 _) _ | refine Ext.trans ?_ (by assumption)))))⟩
    obtain rfl : j = 1 := by omega
    · clear hj2 hj0 hj
      rw [show ((1 : Nat) : Int) = 1 from rfl]
      have hBr := HE.out.blk HBQ.out
      have r0 : wA.cell? ⟨w1.heap.size, 0, none⟩ = some (.int .i64 x.unit.kind) := World.news_of_block hBr 0 _ rfl
      have r1 : wA.cell? ⟨w1.heap.size, 1, none⟩ = some (.int .i64 x.unit.length) := World.news_of_block hBr 1 _ rfl
      have r2 : wA.cell? ⟨w1.heap.size, 2, none⟩ = some (.int .i64 x.unit.behind) := World.news_of_block hBr 2 _ rfl
      have r3 : wA.cell? ⟨w1.heap.size, 3, none⟩ = some (.int .i64 x.unit.front) := World.news_of_block hBr 3 _ rfl
      have r4 : wA.cell? ⟨w1.heap.size, 4, none⟩ = some (.int .i64 x.unit.rear) := World.news_of_block hBr 4 _ rfl
      have r5 : wA.cell? ⟨w1.heap.size, 5, none⟩ = some (.int .i64 Wd) := World.news_of_block hBr 5 _ rfl
      have r6 : wA.cell? ⟨w1.heap.size, 6, none⟩ = some (.int .i64 x.unit.height) := World.news_of_block hBr 6 _ rfl
      have r7 : wA.cell? ⟨w1.heap.size, 7, none⟩ = some (.int .i64 x.unit.mass) := World.news_of_block hBr 7 _ rfl
      have r8 : wA.cell? ⟨w1.heap.size, 8, none⟩ = some (.int .i64 x.unit.steer) := World.news_of_block hBr 8 _ rfl
      have r9 : wA.cell? ⟨w1.heap.size, 9, none⟩ = some (.int .i64 x.unit.most) := World.news_of_block hBr 9 _ rfl
      have r10 : wA.cell? ⟨w1.heap.size, 10, none⟩ = some (.slice x.A x.unit.axles.length x.cap) := World.news_of_block hBr 10 _ rfl
      have r11 : wA.cell? ⟨w1.heap.size, 11, none⟩ = some (.int .i64 x.joint.1) := World.news_of_block hBr 11 _ rfl
      have r12 : wA.cell? ⟨w1.heap.size, 12, none⟩ = some (.int .i64 x.joint.2) := World.news_of_block hBr 12 _ rfl
      have r13 : wA.cell? ⟨w1.heap.size, 13, none⟩ = some (.int .i64 x.axle.1) := World.news_of_block hBr 13 _ rfl
      have r14 : wA.cell? ⟨w1.heap.size, 14, none⟩ = some (.int .i64 x.axle.2) := World.news_of_block hBr 14 _ rfl
      go_wp2_with fail
      clear hBr r0 r1 r2 r3 r4 r5 r6 r7 r8 r9 r10 r11 r12 r13 r14
      go_loopw [12, 66] (fun c t wr => ∃ (i N : Nat) (A : Option Addr) (cp : Nat), i ≤ 2 ∧ t = .int .i64 i ∧ c = .slice A N cp ∧ N = 2 + i ∧ firstE ([((q0a, q0b), qe0), ((q1a, q1b), qe1), ((q2a, q2b), qe2), ((q3a, q3b), qe3)].drop (2 + i)) = FE ∧ OwnP wq.heap.size wr (.slice A N cp) ([(q0a, q0b), (q1a, q1b), (q2a, q2b), (q3a, q3b)].take (2 + i)) ∧ Ext wq wr) (fun _ t _ => 2 - (intOf t).toNat)
      case atStart => exact ⟨0, N, A', cp, by omega, rfl, rfl, HN.out, HF.out, HO.out, HE.out⟩
      case round =>
        clear HF HO HE HN
        obtain ⟨i, M, A, c5, hi, rfl, rfl, hM, hf, ho, hE⟩ := hrel
        have HF := Lib.hid hf
        have HO := Lib.hid ho
        have HE := Lib.hid hE
        have HM := Lib.hid hM
        clear hf ho hE hM
        by_cases hi2 : i = 2
        · subst hi2
          clear hi
          go_wp2_with fail
          exact ⟨⟨2, M, A, c5, by omega, by go_num, rfl, by have := HM.out; omega, HF.out, HO.out, HE.out⟩, by simp [intOf]⟩
        by_cases hi0 : i = 0
        · subst hi0
          clear hi2 hi
          rw [show ((0 : Nat) : Int) = 0 from rfl]
          have hBr := HE.out.blk HBQ.out
          have r0 : wr.cell? ⟨w1.heap.size, 0, none⟩ = some (.int .i64 x.unit.kind) := World.news_of_block hBr 0 _ rfl
          have r1 : wr.cell? ⟨w1.heap.size, 1, none⟩ = some (.int .i64 x.unit.length) := World.news_of_block hBr 1 _ rfl
          have r2 : wr.cell? ⟨w1.heap.size, 2, none⟩ = some (.int .i64 x.unit.behind) := World.news_of_block hBr 2 _ rfl
          have r3 : wr.cell? ⟨w1.heap.size, 3, none⟩ = some (.int .i64 x.unit.front) := World.news_of_block hBr 3 _ rfl
          have r4 : wr.cell? ⟨w1.heap.size, 4, none⟩ = some (.int .i64 x.unit.rear) := World.news_of_block hBr 4 _ rfl
          have r5 : wr.cell? ⟨w1.heap.size, 5, none⟩ = some (.int .i64 Wd) := World.news_of_block hBr 5 _ rfl
          have r6 : wr.cell? ⟨w1.heap.size, 6, none⟩ = some (.int .i64 x.unit.height) := World.news_of_block hBr 6 _ rfl
          have r7 : wr.cell? ⟨w1.heap.size, 7, none⟩ = some (.int .i64 x.unit.mass) := World.news_of_block hBr 7 _ rfl
          have r8 : wr.cell? ⟨w1.heap.size, 8, none⟩ = some (.int .i64 x.unit.steer) := World.news_of_block hBr 8 _ rfl
          have r9 : wr.cell? ⟨w1.heap.size, 9, none⟩ = some (.int .i64 x.unit.most) := World.news_of_block hBr 9 _ rfl
          have r10 : wr.cell? ⟨w1.heap.size, 10, none⟩ = some (.slice x.A x.unit.axles.length x.cap) := World.news_of_block hBr 10 _ rfl
          have r11 : wr.cell? ⟨w1.heap.size, 11, none⟩ = some (.int .i64 x.joint.1) := World.news_of_block hBr 11 _ rfl
          have r12 : wr.cell? ⟨w1.heap.size, 12, none⟩ = some (.int .i64 x.joint.2) := World.news_of_block hBr 12 _ rfl
          have r13 : wr.cell? ⟨w1.heap.size, 13, none⟩ = some (.int .i64 x.axle.1) := World.news_of_block hBr 13 _ rfl
          have r14 : wr.cell? ⟨w1.heap.size, 14, none⟩ = some (.int .i64 x.axle.2) := World.news_of_block hBr 14 _ rfl
          by_cases hqe : qe2 = 0
          · subst hqe
            have hf2 : firstE ([((q0a, q0b), qe0), ((q1a, q1b), qe1), ((q2a, q2b), (0 : Int)), ((q3a, q3b), qe3)].drop 3) = FE := (firstE_ok (r := ((q2a, q2b), (0 : Int))) rfl).symm.trans HF.out
            have HF2 := Lib.hid hf2
            have hMe : M = 2 := HM.out
            have HMe := Lib.hid (show ([(q0a, q0b), (q1a, q1b)] : List Pt).length = M from hMe.symm)
            have hMb : M ≤ 10 := by omega
            have ho2 : OwnP wq.heap.size wr (.slice A M c5) [(q0a, q0b), (q1a, q1b)] := HO.out
            have HO2 := Lib.hid ho2
            clear hf2 hMe ho2
            have zE := HE.out.sz
            go_wp2_with (first
              | (go_at_call 29; (with_reducible refine (A2.out _).mono ?_); rintro e w5 ⟨rfl, hb5⟩)
              | (at_builtin; refine wpList_append_pt1 (by rfl) _ _ (by rfl) wq.heap.size (.slice A M c5) [(q0a, q0b), (q1a, q1b)] M (w5.heap.size + 1) q2a q2b (by rfl) (HO2.out.ext ((hb5.alloc _).alloc _)) HMe.out (by rfl) (heap2_second w5 _ _) (by omega) (by have := hb5.sz; simp; omega) ?_; intro g4 c4 w4 ho4 hg4 _; have E4 : Ext wq w4 := Ext.trans' (w := wq) (((HE.out.trans hb5).alloc _).alloc _) hg4 (own_ge' HO2.out); replace ho4 := Lib.hid ho4; replace hg4 := Lib.hid hg4; replace E4 := Lib.hid E4))
            go_roundw
            case rel => exact ⟨1, M + 1, some ⟨g4, 0, none⟩, c4, by omega, by go_num, rfl, by have := HM.out; omega, HF2.out, ho4.out, E4.out⟩
            case measure => simp [intOf]
          · have hf2 : qe2 = FE := (firstE_bad (r := ((q2a, q2b), qe2)) hqe).symm.trans HF.out
            have hn1 : (qe2 != 0) = true := by simpa using hqe
            have HF2 := Lib.hid hf2
            have HNQ := Lib.hid hqe
            clear hf2 hqe
            go_wp2_with (go_at_call 29; (with_reducible refine (A2.out _).mono ?_); rintro e w5 ⟨rfl, hb5⟩)
            exact bodyPost_ret (v := .tuple #[.slice none 0 0, .int .i64 qe2]) (by simp [results, Tryz.results7, go_sem]) rfl ⟨_, by rw [HQ.out, ← HF2.out], by rw [HQ.out, if_neg (by rw [← HF2.out]; exact HNQ.out)]; exact .inl ⟨none, 0, rfl, rfl⟩, HEQ.out.trans (HE.out.trans (by (repeat' (first | exact Ext.refl _ | assumption | refine Ext.alloc ?_ _ | refine Ext.drew ?_ | refine Ext.drewN ?_ _ | refine Ext.set ?_ (by first | exact Nat.le_refl _ | exact le1 _ | exact le2 _ | exact le3 _ | exact le4 _ | exact le5 _ | exact le6 _) _ | refine Ext.trans ?_ (by assumption)))))⟩
        obtain rfl : i = 1 := by omega
        · clear hi2 hi0 hi
          rw [show ((1 : Nat) : Int) = 1 from rfl]
          have hBr := HE.out.blk HBQ.out
          have r0 : wr.cell? ⟨w1.heap.size, 0, none⟩ = some (.int .i64 x.unit.kind) := World.news_of_block hBr 0 _ rfl
          have r1 : wr.cell? ⟨w1.heap.size, 1, none⟩ = some (.int .i64 x.unit.length) := World.news_of_block hBr 1 _ rfl
          have r2 : wr.cell? ⟨w1.heap.size, 2, none⟩ = some (.int .i64 x.unit.behind) := World.news_of_block hBr 2 _ rfl
          have r3 : wr.cell? ⟨w1.heap.size, 3, none⟩ = some (.int .i64 x.unit.front) := World.news_of_block hBr 3 _ rfl
          have r4 : wr.cell? ⟨w1.heap.size, 4, none⟩ = some (.int .i64 x.unit.rear) := World.news_of_block hBr 4 _ rfl
          have r5 : wr.cell? ⟨w1.heap.size, 5, none⟩ = some (.int .i64 Wd) := World.news_of_block hBr 5 _ rfl
          have r6 : wr.cell? ⟨w1.heap.size, 6, none⟩ = some (.int .i64 x.unit.height) := World.news_of_block hBr 6 _ rfl
          have r7 : wr.cell? ⟨w1.heap.size, 7, none⟩ = some (.int .i64 x.unit.mass) := World.news_of_block hBr 7 _ rfl
          have r8 : wr.cell? ⟨w1.heap.size, 8, none⟩ = some (.int .i64 x.unit.steer) := World.news_of_block hBr 8 _ rfl
          have r9 : wr.cell? ⟨w1.heap.size, 9, none⟩ = some (.int .i64 x.unit.most) := World.news_of_block hBr 9 _ rfl
          have r10 : wr.cell? ⟨w1.heap.size, 10, none⟩ = some (.slice x.A x.unit.axles.length x.cap) := World.news_of_block hBr 10 _ rfl
          have r11 : wr.cell? ⟨w1.heap.size, 11, none⟩ = some (.int .i64 x.joint.1) := World.news_of_block hBr 11 _ rfl
          have r12 : wr.cell? ⟨w1.heap.size, 12, none⟩ = some (.int .i64 x.joint.2) := World.news_of_block hBr 12 _ rfl
          have r13 : wr.cell? ⟨w1.heap.size, 13, none⟩ = some (.int .i64 x.axle.1) := World.news_of_block hBr 13 _ rfl
          have r14 : wr.cell? ⟨w1.heap.size, 14, none⟩ = some (.int .i64 x.axle.2) := World.news_of_block hBr 14 _ rfl
          by_cases hqe : qe3 = 0
          · subst hqe
            have hf2 : firstE ([((q0a, q0b), qe0), ((q1a, q1b), qe1), ((q2a, q2b), qe2), ((q3a, q3b), (0 : Int))].drop 4) = FE := (firstE_ok (r := ((q3a, q3b), (0 : Int))) rfl).symm.trans HF.out
            have HF2 := Lib.hid hf2
            have hMe : M = 3 := HM.out
            have HMe := Lib.hid (show ([(q0a, q0b), (q1a, q1b), (q2a, q2b)] : List Pt).length = M from hMe.symm)
            have hMb : M ≤ 10 := by omega
            have ho2 : OwnP wq.heap.size wr (.slice A M c5) [(q0a, q0b), (q1a, q1b), (q2a, q2b)] := HO.out
            have HO2 := Lib.hid ho2
            clear hf2 hMe ho2
            have zE := HE.out.sz
            go_wp2_with (first
              | (go_at_call 29; (with_reducible refine (A3.out _).mono ?_); rintro e w5 ⟨rfl, hb5⟩)
              | (at_builtin; refine wpList_append_pt1 (by rfl) _ _ (by rfl) wq.heap.size (.slice A M c5) [(q0a, q0b), (q1a, q1b), (q2a, q2b)] M (w5.heap.size + 1) q3a q3b (by rfl) (HO2.out.ext ((hb5.alloc _).alloc _)) HMe.out (by rfl) (heap2_second w5 _ _) (by omega) (by have := hb5.sz; simp; omega) ?_; intro g4 c4 w4 ho4 hg4 _; have E4 : Ext wq w4 := Ext.trans' (w := wq) (((HE.out.trans hb5).alloc _).alloc _) hg4 (own_ge' HO2.out); replace ho4 := Lib.hid ho4; replace hg4 := Lib.hid hg4; replace E4 := Lib.hid E4))
            go_roundw
            case rel => exact ⟨2, M + 1, some ⟨g4, 0, none⟩, c4, by omega, by go_num, rfl, by have := HM.out; omega, HF2.out, ho4.out, E4.out⟩
            case measure => simp [intOf]
          · have hf2 : qe3 = FE := (firstE_bad (r := ((q3a, q3b), qe3)) hqe).symm.trans HF.out
            have hn1 : (qe3 != 0) = true := by simpa using hqe
            have HF2 := Lib.hid hf2
            have HNQ := Lib.hid hqe
            clear hf2 hqe
            go_wp2_with (go_at_call 29; (with_reducible refine (A3.out _).mono ?_); rintro e w5 ⟨rfl, hb5⟩)
            exact bodyPost_ret (v := .tuple #[.slice none 0 0, .int .i64 qe3]) (by simp [results, Tryz.results7, go_sem]) rfl ⟨_, by rw [HQ.out, ← HF2.out], by rw [HQ.out, if_neg (by rw [← HF2.out]; exact HNQ.out)]; exact .inl ⟨none, 0, rfl, rfl⟩, HEQ.out.trans (HE.out.trans (by (repeat' (first | exact Ext.refl _ | assumption | refine Ext.alloc ?_ _ | refine Ext.drew ?_ | refine Ext.drewN ?_ _ | refine Ext.set ?_ (by first | exact Nat.le_refl _ | exact le1 _ | exact le2 _ | exact le3 _ | exact le4 _ | exact le5 _ | exact le6 _) _ | refine Ext.trans ?_ (by assumption)))))⟩
end
end Go.Proofs.YtcbjecpfijogcaaGreat
