
/- The law PlaneLeast, walked: a hull of more corners. -/
import Derived.Test.YtlndcpjaeoppmaaHLeastPre
import Derived.Test.YtlndcpjaeoppmaaHLeastOne
import Derived.Test.YtlndcpjaeoppmaaHLeastTwo
namespace Go.Proofs.Ytlndcpjaeoppmaa
open Go.RowKit Go.Shelf

set_option maxRecDepth 100000 in
set_option maxHeartbeats 12800000 in
theorem least_more (va : Value) (l : List HPt) (f : Int) (w : World) (ha : Pairs .i8 w va l) (wa : ∀ q ∈ l, (Lit.int .i8 q.1).wf = true ∧ (Lit.int .i8 q.2).wf = true) (hf : 0 ≤ f ∧ f ≤ 255) (h1 : ¬ l = []) (h1n : 2 < (cornersP (l.take 10)).length) :
    Calls Try.prog 3 #[va, .int .u8 f] w fun e w' => e = .returned (.bool true) ∧ Ext w w' := by
  have FA : ∀ W, Ext w W → Calls Try.prog 8 #[va, .int .i64 10] W fun e w' => ∃ A c, e = .returned (.slice A (l.take 10).length c) ∧ Pts w' (.slice A (l.take 10).length c) (l.take 10) ∧ Ext W w' := fun W h => few_at va l 10 w W h ha wa (by omega)
  obtain ⟨AA, ca, rfl, la⟩ := pairs_shape ha
  have g0 : l.take 10 ≠ [] := by simpa using h1
  have gs := few_ok wa 10
  have gl : (l.take 10).length ≤ 10 := by rw [List.length_take]; omega
  have hS := hullS_good g0 (fun p hp => ok_small (gs p hp)) (by omega)
  have ih := isHull_good g0 (fun p hp => ok_small (gs p hp)) (by omega)
  have F := leastF_of g0 gs gl
  have HA := Lib.hid (fun v W => hull_at hS v W)
  generalize cornersP (l.take 10) = h at *
  replace FA := Lib.hid FA
  clear hS ha wa h1
  generalize l.take 10 = p at *
  have IH := fun v W (hv : Pts W v h) => IsHull_c v h W hv
  rw [ih] at IH
  replace IH := Lib.hid IH
  have hzp : 0 < p.length := List.length_pos_iff.2 g0
  have hz : ((h.length : Int) == 0) = false := by rw [beq_eq_false_iff_ne]; have := F.n0; omega
  have hz2 : ((p.length : Int) == 0) = false := by rw [beq_eq_false_iff_ne]; omega
  have hn1 := F.n1
  have F0 := F.n0
  have H1N := Lib.hid h1n
  have HF := Lib.hid F
  have HG := Lib.hid gs
  clear F ih gs g0 h1n
  go_enter Try.func3, Try.ntmps3
  go_wp2_with (first
    | (go_at_call 8; refine (FA.out _ (by (repeat' (first | exact Ext.refl _ | assumption | refine Ext.alloc ?_ _ | refine Ext.drew ?_ | refine Ext.drewN ?_ _ | refine Ext.set ?_ (by first | exact Nat.le_refl _ | exact le1 _ | exact le2 _ | exact le3 _ | exact le4 _ | exact le5 _ | exact le6 _) _ | refine Ext.trans ?_ (by assumption))))).mono ?_; rintro e w1 ⟨A1, c1, rfl, hp1, hb1⟩; replace hp1 := Lib.hid hp1; clear FA)
    | (go_at_call 9; refine (HA.out _ _ hp1.out).mono ?_; rintro e w2 ⟨A2, c2, rfl, hp2, hb2⟩; replace hp2 := Lib.hid hp2; clear HA)
    | (go_at_call 11; refine (IH.out _ _ hp2.out).mono ?_; rintro e w3 ⟨rfl, hb3⟩; clear IH))
  have e13 : Ext w1 w3 := hb2.trans hb3
  have HPP := Lib.hid (hp1.out.ext e13)
  have HPH := Lib.hid (hp2.out.ext hb3)
  have EV := Lib.hid (hb1.trans e13)
  clear hp1 hp2 hb1 hb2 hb3 e13
  obtain ⟨bh, oh, rfl, kh, hch⟩ := pts_cells HPH.out F0
  obtain ⟨bp, op, rfl, kp, hcp⟩ := pts_cells HPP.out hzp
  have HCH := Lib.hid hch
  have HCP := Lib.hid hcp
  have lbh := World.block_lt_of_cell? _ _ (hch 0 F0).1
  have lbp := World.block_lt_of_cell? _ _ (hcp 0 hzp).1
  simp only at lbh lbp
  clear hch hcp
  go_loopw [9] (fun i wr => ∃ k : Nat, k ≤ h.length ∧ i = .int .i64 k ∧ Ext w3 wr) (fun i _ => h.length - (intOf i).toNat)
  case atStart => exact ⟨0, by omega, rfl, Ext.refl _⟩
  case round =>
    obtain ⟨k, hk, rfl, hE⟩ := hrel
    obtain ⟨wA, hwA⟩ : ∃ z : World, z = wr := ⟨_, rfl⟩
    subst hwA
    by_cases hlt : k < h.length
    · obtain ⟨M1, hM1⟩ : ∃ M, (k + 1) % h.length = M := ⟨_, rfl⟩
      obtain ⟨M2, hM2⟩ : ∃ M, (k + 2) % h.length = M := ⟨_, rfl⟩
      have hMl1 : M1 < h.length := by rw [← hM1]; exact Nat.mod_lt _ (by omega)
      have hMl2 : M2 < h.length := by rw [← hM2]; exact Nat.mod_lt _ (by omega)
      have x0 := hE.cell (HCH.out k hlt).1
      have x1 := hE.cell (HCH.out k hlt).2
      have y0 := hE.cell (HCH.out M1 hMl1).1
      have y1 := hE.cell (HCH.out M1 hMl1).2
      have z0 := hE.cell (HCH.out M2 hMl2).1
      have z1 := hE.cell (HCH.out M2 hMl2).2
      have u0 := hE.cell (HCH.out 0 F0).1
      have u1 := hE.cell (HCH.out 0 F0).2
      rw [Nat.zero_mul, Nat.add_zero] at u0 u1
      have sa := HF.out.small k hlt
      have sb := HF.out.small M1 hMl1
      have sc := HF.out.small M2 hMl2
      have ft := HF.out.turn k hlt
      have fl := HF.out.left k hlt
      have ff := HF.out.first k hlt
      have fo := HF.out.one
      have fs := HF.out.sub k hlt
      have fr := HF.out.rest k hlt
      have fx := HF.out.out k hlt
      rw [hM1, hM2] at ft
      rw [hM1] at fl
      have hrem1 : Int.tmod ((k : Int) + 1) (h.length : Int) = (M1 : Int) := by rw [← hM1]; norm_cast
      have hrem2 : Int.tmod ((k : Int) + 2) (h.length : Int) = (M2 : Int) := by rw [← hM2]; norm_cast
      have hl0 : ¬ h = [] := List.length_pos_iff.1 F0
      have e1 := IntWalk.i64_in ((k : Int) + 1) (by omega)
      have e2 := IntWalk.i64_in ((k : Int) + 2) (by omega)
      have e3 := IntWalk.i64_in (M1 : Int) (by omega)
      have e4 := IntWalk.i64_in (M2 : Int) (by omega)
      generalize h.getD k (0, 0) = a at *
      generalize h.getD M1 (0, 0) = b at *
      generalize h.getD M2 (0, 0) = c at *
      generalize h.getD 0 (0, 0) = d at *
      obtain ⟨a1, a2⟩ := a
      obtain ⟨b1, b2⟩ := b
      obtain ⟨c1', c2'⟩ := c
      obtain ⟨d1, d2⟩ := d
      simp only at x0 x1 y0 y1 z0 z1 u0 u1 sa sb sc
      replace ft := Lib.hid ft
      replace fl := Lib.hid fl
      replace ff := Lib.hid ff
      replace fo := Lib.hid fo
      replace fs := Lib.hid fs
      replace fr := Lib.hid fr
      replace fx := Lib.hid fx
      have HS := Lib.hid (And.intro sa (And.intro sb sc))
      have HM := Lib.hid (And.intro hM1 hM2)
      have HE := Lib.hid hE
      have zE := hE.sz
      clear hM1 hM2 sa sb sc hE
      go_wp2
      go_cut [10, 11, 12] from 57 to 74 (fun s0 s1 s2 wc => ∃ ba bb bc : Nat, s0 = .pointer (some ⟨ba, 0, none⟩) ∧ s1 = .pointer (some ⟨bb, 0, none⟩) ∧ s2 = .pointer (some ⟨bc, 0, none⟩) ∧ Ext wA wc ∧ wc.heap[ba]? = some (.cells #[.int .i64 a1, .int .i64 a2] 31 (0, 0)) ∧ wc.heap[bb]? = some (.cells #[.int .i64 b1, .int .i64 b2] 31 (0, 0)) ∧ wc.heap[bc]? = some (.cells #[.int .i64 c1', .int .i64 c2'] 31 (0, 0)))
      case first =>
        go_region_held3 (fun w' => w'.cell? ⟨bh, oh + k * 2, none⟩ = some (.int .i64 a1) ∧ w'.cell? ⟨bh, oh + k * 2 + 1, none⟩ = some (.int .i64 a2) ∧ w'.cell? ⟨bh, oh + M1 * 2, none⟩ = some (.int .i64 b1) ∧ w'.cell? ⟨bh, oh + M1 * 2 + 1, none⟩ = some (.int .i64 b2) ∧ w'.cell? ⟨bh, oh + M2 * 2, none⟩ = some (.int .i64 c1') ∧ w'.cell? ⟨bh, oh + M2 * 2 + 1, none⟩ = some (.int .i64 c2'))
          (exact (fun (E : Ext wA _) => ⟨E.cell x0, E.cell x1, E.cell y0, E.cell y1, E.cell z0, E.cell z1⟩) (by (repeat' (first | exact Ext.refl _ | assumption | refine Ext.alloc ?_ _ | refine Ext.drew ?_ | refine Ext.drewN ?_ _ | refine Ext.set ?_ (by first | exact Nat.le_refl _ | exact le1 _ | exact le2 _ | exact le3 _ | exact le4 _ | exact le5 _ | exact le6 _) _ | refine Ext.trans ?_ (by assumption))))) (fail)
        all_goals
          go_wp2_with fail
          go_meet
          first
            | exact ⟨wA.heap.size, wA.heap.size + 1, wA.heap.size + 1 + 1, rfl, rfl, rfl, ((((Ext.refl wA).alloc _).alloc _).alloc _).drew, heap3_first wA _ _ _, heap3_second wA _ _ _, heap3_third wA _ _ _⟩
            | exact ⟨wA.heap.size, wA.heap.size + 1 + 1, wA.heap.size + 1, rfl, rfl, rfl, ((((Ext.refl wA).alloc _).alloc _).alloc _).drew, heap3_first wA _ _ _, heap3_third wA _ _ _, heap3_second wA _ _ _⟩
            | exact ⟨wA.heap.size + 1, wA.heap.size, wA.heap.size + 1 + 1, rfl, rfl, rfl, ((((Ext.refl wA).alloc _).alloc _).alloc _).drew, heap3_second wA _ _ _, heap3_first wA _ _ _, heap3_third wA _ _ _⟩
            | exact ⟨wA.heap.size + 1, wA.heap.size + 1 + 1, wA.heap.size, rfl, rfl, rfl, ((((Ext.refl wA).alloc _).alloc _).alloc _).drew, heap3_second wA _ _ _, heap3_third wA _ _ _, heap3_first wA _ _ _⟩
            | exact ⟨wA.heap.size + 1 + 1, wA.heap.size, wA.heap.size + 1, rfl, rfl, rfl, ((((Ext.refl wA).alloc _).alloc _).alloc _).drew, heap3_third wA _ _ _, heap3_first wA _ _ _, heap3_second wA _ _ _⟩
            | exact ⟨wA.heap.size + 1 + 1, wA.heap.size + 1, wA.heap.size, rfl, rfl, rfl, ((((Ext.refl wA).alloc _).alloc _).alloc _).drew, heap3_third wA _ _ _, heap3_second wA _ _ _, heap3_first wA _ _ _⟩
      case rest =>
        obtain ⟨ba, bb, bc, rfl, rfl, rfl, E1, hA, hB, hC⟩ := hcut
        generalize wc = W1 at *
        have a0 : W1.cell? ⟨ba, 0, none⟩ = some (.int .i64 a1) := World.news_of_block hA 0 _ rfl
        have a1' : W1.cell? ⟨ba, 1, none⟩ = some (.int .i64 a2) := World.news_of_block hA 1 _ rfl
        have b0 : W1.cell? ⟨bb, 0, none⟩ = some (.int .i64 b1) := World.news_of_block hB 0 _ rfl
        have b1' : W1.cell? ⟨bb, 1, none⟩ = some (.int .i64 b2) := World.news_of_block hB 1 _ rfl
        have c0 : W1.cell? ⟨bc, 0, none⟩ = some (.int .i64 c1') := World.news_of_block hC 0 _ rfl
        have c1'' : W1.cell? ⟨bc, 1, none⟩ = some (.int .i64 c2') := World.news_of_block hC 1 _ rfl
        have v0 := E1.cell u0
        have v1 := E1.cell u1
        have HE1 := Lib.hid (HE.out.trans E1)
        have HAB := Lib.hid (And.intro hA hB)
        have SC := Lib.hid (fun W => sign_c a1 a2 b1 b2 c1' c2' W HS.out.1 HS.out.2.1 HS.out.2.2)
        clear E1 hA hB hC x0 x1 y0 y1 z0 z1 u0 u1 hrem1 hrem2 e1 e2 e3 e4
        go_wp2
        go_cut [110] from 75 to 109 (fun s wc => s = .bool false ∧ Ext W1 wc)
        case first =>
          have ff2 : (a1 < d1) = False ∧ (a1 = d1 → ¬ a2 < d2) := by
            have h9 := ff.out
            unfold ltP at h9
            simp only at h9
            exact ⟨eq_false (fun k => h9 (.inl k)), fun e k => h9 (.inr ⟨e, k⟩)⟩
          have q1 : decide (a1 < d1) = false := by rw [decide_eq_false_iff_not]; intro k; rw [ff2.1] at k; exact k
          rcases Decidable.em (a1 = d1) with g2 | g2
          · have q2 : decide (2 < h.length) = true := by (have h9 := H1N.out; simp; omega)
            have q2' : decide ((2 : Int) < (h.length : Int)) = true := by have h9 := H1N.out; rw [decide_eq_true_eq]; omega
            have q3 : (a1 == d1) = true := by simpa using g2
            have q4 : decide (a2 < d2) = false := by simpa using ff2.2 g2
            have ft2 := ft.out (by have h9 := H1N.out; omega)
            generalize crossP (a1, a2) (b1, b2) (c1', c2') = S at *
            have q5 : decide (S ≤ 0) = false := by simpa using ft2
            clear ft2 ff2 g2
            (refine wp_region_ext (C := fun w' => Ext W1 w') (by kernel_rfl) (by kernel_rfl) (by (repeat' (first | exact Ext.refl _ | assumption | refine Ext.alloc ?_ _ | refine Ext.drew ?_ | refine Ext.drewN ?_ _ | refine Ext.set ?_ (by first | exact Nat.le_refl _ | exact le1 _ | exact le2 _ | exact le3 _ | exact le4 _ | exact le5 _ | exact le6 _) _ | refine Ext.trans ?_ (by assumption)))) ?_; (repeat (with_reducible refine wpQuiet_step (fun K hK => ?_); go_simp; first | (refine hK _ ?_; clear hK K) | (apply Exists.intro; refine ⟨fun w' hC => ?_, hK _ ?_⟩; (focus first | with_reducible rfl | (have q0 := hC.cell a0; have q1 := hC.cell a1'; have q2 := hC.cell b0; have q3 := hC.cell b1'; have q4 := hC.cell c0; have q5 := hC.cell c1''; have q6 := hC.cell v0; have q7 := hC.cell v1; go_simp; done) | (have q0 := hC.cell a0; have q1 := hC.cell a1'; have q2 := hC.cell b0; have q3 := hC.cell b1'; have q4 := hC.cell c0; have q5 := hC.cell c1''; have q6 := hC.cell v0; have q7 := hC.cell v1; go_simp; exact ⟨rfl, rfl⟩) | (have q0 := hC.cell a0; have q1 := hC.cell a1'; have q2 := hC.cell b0; have q3 := hC.cell b1'; have q4 := hC.cell c0; have q5 := hC.cell c1''; have q6 := hC.cell v0; have q7 := hC.cell v1; go_simp; with_reducible rfl) | (exact (SC.out _).mono fun e w'' ⟨he, hw''⟩ => ⟨he, hC.trans hw''⟩)); clear hK K))); refine wpQuiet_nil ?_; intro wq hEq)
            go_wp2_with fail
            go_meet
            exact ⟨rfl, hEq⟩
          · have q2 : decide (2 < h.length) = true := by (have h9 := H1N.out; simp; omega)
            have q2' : decide ((2 : Int) < (h.length : Int)) = true := by have h9 := H1N.out; rw [decide_eq_true_eq]; omega
            have q3 : (a1 == d1) = false := by simpa using g2
            have ft2 := ft.out (by have h9 := H1N.out; omega)
            generalize crossP (a1, a2) (b1, b2) (c1', c2') = S at *
            have q5 : decide (S ≤ 0) = false := by simpa using ft2
            clear ft2 ff2 g2
            (refine wp_region_ext (C := fun w' => Ext W1 w') (by kernel_rfl) (by kernel_rfl) (by (repeat' (first | exact Ext.refl _ | assumption | refine Ext.alloc ?_ _ | refine Ext.drew ?_ | refine Ext.drewN ?_ _ | refine Ext.set ?_ (by first | exact Nat.le_refl _ | exact le1 _ | exact le2 _ | exact le3 _ | exact le4 _ | exact le5 _ | exact le6 _) _ | refine Ext.trans ?_ (by assumption)))) ?_; (repeat (with_reducible refine wpQuiet_step (fun K hK => ?_); go_simp; first | (refine hK _ ?_; clear hK K) | (apply Exists.intro; refine ⟨fun w' hC => ?_, hK _ ?_⟩; (focus first | with_reducible rfl | (have q0 := hC.cell a0; have q1 := hC.cell a1'; have q2 := hC.cell b0; have q3 := hC.cell b1'; have q4 := hC.cell c0; have q5 := hC.cell c1''; have q6 := hC.cell v0; have q7 := hC.cell v1; go_simp; done) | (have q0 := hC.cell a0; have q1 := hC.cell a1'; have q2 := hC.cell b0; have q3 := hC.cell b1'; have q4 := hC.cell c0; have q5 := hC.cell c1''; have q6 := hC.cell v0; have q7 := hC.cell v1; go_simp; exact ⟨rfl, rfl⟩) | (have q0 := hC.cell a0; have q1 := hC.cell a1'; have q2 := hC.cell b0; have q3 := hC.cell b1'; have q4 := hC.cell c0; have q5 := hC.cell c1''; have q6 := hC.cell v0; have q7 := hC.cell v1; go_simp; with_reducible rfl) | (exact (SC.out _).mono fun e w'' ⟨he, hw''⟩ => ⟨he, hC.trans hw''⟩)); clear hK K))); refine wpQuiet_nil ?_; intro wq hEq)
            go_wp2_with fail
            go_meet
            exact ⟨rfl, hEq⟩
        case rest =>
          obtain ⟨rfl, E2⟩ := hcut
          generalize wc = W2 at *
          have HE2 := Lib.hid (HE1.out.trans E2)
          have HE12 := Lib.hid E2
          clear E2 a0 a1' b0 b1' c0 c1'' v0 v1 SC
          go_wp2
          go_loopw [13, 14] (fun s i wr => ∃ j : Nat, j ≤ p.length ∧ i = .int .i64 j ∧ s = .bool ((p.take j).any (fun x => decide (x = (a1, a2)))) ∧ Ext W2 wr) (fun _ i _ => p.length - (intOf i).toNat)
          case atStart => exact ⟨0, by omega, rfl, by simp, Ext.refl _⟩
          case round =>
            obtain ⟨j, hj, rfl, hs, hE⟩ := hrel
            subst hs
            obtain ⟨wB, hwB⟩ : ∃ z : World, z = wr := ⟨_, rfl⟩
            subst hwB
            have hA := blk_ext HAB.out.1 (HE12.out.trans hE)
            have hB := blk_ext HAB.out.2 (HE12.out.trans hE)
            by_cases hjl : j < p.length
            · skip
              have x0 := (HE2.out.trans hE).cell (HCP.out j hjl).1
              have x1 := (HE2.out.trans hE).cell (HCP.out j hjl).2
              have hqm := get_mem hjl
              have hany := any_take_succ (p := fun x => decide (x = (a1, a2))) (k := j) (show p[j]? = some (p.getD j (0, 0)) by rw [getD_lt hjl]; exact List.getElem?_eq_getElem hjl)
              generalize p.getD j (0, 0) = q at *
              obtain ⟨q1, q2⟩ := q
              simp only at x0 x1
              have a0 : wB.cell? ⟨ba, 0, none⟩ = some (.int .i64 a1) := World.news_of_block hA 0 _ rfl
              have a1' : wB.cell? ⟨ba, 1, none⟩ = some (.int .i64 a2) := World.news_of_block hA 1 _ rfl
              have b0 : wB.cell? ⟨bb, 0, none⟩ = some (.int .i64 b1) := World.news_of_block hB 0 _ rfl
              have b1' : wB.cell? ⟨bb, 1, none⟩ = some (.int .i64 b2) := World.news_of_block hB 1 _ rfl
              generalize (p.take j).any (fun x => decide (x = (a1, a2))) = F at *
              have HQ := Lib.hid (And.intro hqm hany)
              have HEj := Lib.hid hE
              have zj := hE.sz
              clear hA hB hqm hany hE
              go_wp2
              go_cut [13] from 117 to 125 (fun s wc => s = .bool (F || decide (((q1, q2) : HPt) = (a1, a2))) ∧ Ext wB wc)
              case first =>
                have heq : ∀ w, (binOp .eql 31 (.agg #[.int .i64 q1, .int .i64 q2]) (.agg #[.int .i64 a1, .int .i64 a2])).run Try.prog w = .ok (.bool (decide (((q1, q2) : HPt) = (a1, a2)))) w := fun w => eqlP_c q1 q2 a1 a2 w
                generalize decide (((q1, q2) : HPt) = (a1, a2)) = E at *
                cases F
                · (refine wp_region_ext (C := fun w' => Ext wB w') (by kernel_rfl) (by kernel_rfl) (by (repeat' (first | exact Ext.refl _ | assumption | refine Ext.alloc ?_ _ | refine Ext.drew ?_ | refine Ext.drewN ?_ _ | refine Ext.set ?_ (by first | exact Nat.le_refl _ | exact le1 _ | exact le2 _ | exact le3 _ | exact le4 _ | exact le5 _ | exact le6 _) _ | refine Ext.trans ?_ (by assumption)))) ?_; (repeat (with_reducible refine wpQuiet_step (fun K hK => ?_); go_simp; first | (refine hK _ ?_; clear hK K) | (apply Exists.intro; refine ⟨fun w' hC => ?_, hK _ ?_⟩; (focus first | with_reducible rfl | (have q0 := hC.cell x0; have q1 := hC.cell x1; have q2 := hC.cell a0; have q3 := hC.cell a1'; go_simp; done) | (have q0 := hC.cell x0; have q1 := hC.cell x1; have q2 := hC.cell a0; have q3 := hC.cell a1'; go_simp; exact ⟨rfl, rfl⟩) | (have q0 := hC.cell x0; have q1 := hC.cell x1; have q2 := hC.cell a0; have q3 := hC.cell a1'; go_simp; with_reducible rfl)); clear hK K))); refine wpQuiet_nil ?_; intro wq hEq)
                  go_wp2_with fail
                  go_meet
                  exact ⟨by simp, hEq⟩
                · (refine wp_region_ext (C := fun w' => Ext wB w') (by kernel_rfl) (by kernel_rfl) (by (repeat' (first | exact Ext.refl _ | assumption | refine Ext.alloc ?_ _ | refine Ext.drew ?_ | refine Ext.drewN ?_ _ | refine Ext.set ?_ (by first | exact Nat.le_refl _ | exact le1 _ | exact le2 _ | exact le3 _ | exact le4 _ | exact le5 _ | exact le6 _) _ | refine Ext.trans ?_ (by assumption)))) ?_; (repeat (with_reducible refine wpQuiet_step (fun K hK => ?_); go_simp; first | (refine hK _ ?_; clear hK K) | (apply Exists.intro; refine ⟨fun w' hC => ?_, hK _ ?_⟩; (focus first | with_reducible rfl | (have q0 := hC.cell x0; have q1 := hC.cell x1; have q2 := hC.cell a0; have q3 := hC.cell a1'; go_simp; done) | (have q0 := hC.cell x0; have q1 := hC.cell x1; have q2 := hC.cell a0; have q3 := hC.cell a1'; go_simp; exact ⟨rfl, rfl⟩) | (have q0 := hC.cell x0; have q1 := hC.cell x1; have q2 := hC.cell a0; have q3 := hC.cell a1'; go_simp; with_reducible rfl)); clear hK K))); refine wpQuiet_nil ?_; intro wq hEq)
                  go_wp2_with fail
                  go_meet
                  exact ⟨by simp, hEq⟩
              case rest =>
                obtain ⟨hs, E3⟩ := hcut
                subst hs
                generalize wc = W3 at *
                replace x0 := E3.cell x0
                replace x1 := E3.cell x1
                replace a0 := E3.cell a0
                replace a1' := E3.cell a1'
                replace b0 := E3.cell b0
                replace b1' := E3.cell b1'
                have IC := fun W (hh : Ext W3 W) => Inside_c _ h q1 q2 W (HPH.out.ext (((HE2.out.trans HEj.out).trans E3).trans hh))
                rw [HF.out.ins _ HQ.out.1] at IC
                replace IC := Lib.hid IC
                have SC := Lib.hid (fun W => sign_c a1 a2 b1 b2 q1 q2 W HS.out.1 HS.out.2.1 (HG.out _ HQ.out.1))
                have HE3 := Lib.hid (HEj.out.trans E3)
                clear E3
                rw [← HQ.out.2]
                obtain ⟨F2, hF2⟩ : ∃ F2, (p.take (j + 1)).any (fun x => decide (x = (a1, a2))) = F2 := ⟨_, rfl⟩
                rw [hF2]
                replace hF2 := Lib.hid hF2
                go_upto_region 20 with (go_at_call 13; refine (IC.out _ (by (repeat' (first | exact Ext.refl _ | assumption | refine Ext.alloc ?_ _ | refine Ext.drew ?_ | refine Ext.drewN ?_ _ | refine Ext.set ?_ (by first | exact Nat.le_refl _ | exact le1 _ | exact le2 _ | exact le3 _ | exact le4 _ | exact le5 _ | exact le6 _) _ | refine Ext.trans ?_ (by assumption))))).mono ?_; rintro e w4 ⟨rfl, hb4⟩; replace x0 := hb4.cell x0; replace x1 := hb4.cell x1; replace a0 := hb4.cell a0; replace a1' := hb4.cell a1'; replace b0 := hb4.cell b0; replace b1' := hb4.cell b1')
                have fl2 := fl.out _ HQ.out.1
                generalize crossP (a1, a2) (b1, b2) (q1, q2) = S at *
                have q5 : decide (S < 0) = false := by simpa using fl2
                have HE4 := Lib.hid (HE3.out.trans hb4)
                clear fl2 hb4 IC HE3
                · have q6 : ((h.length : Int) == 1) = false := by have h9 := H1N.out; rw [beq_eq_false_iff_ne]; omega
                  (refine wp_region_ext (C := fun w' => Ext w4 w') (by kernel_rfl) (by kernel_rfl) (by (repeat' (first | exact Ext.refl _ | assumption | refine Ext.alloc ?_ _ | refine Ext.drew ?_ | refine Ext.drewN ?_ _ | refine Ext.set ?_ (by first | exact Nat.le_refl _ | exact le1 _ | exact le2 _ | exact le3 _ | exact le4 _ | exact le5 _ | exact le6 _) _ | refine Ext.trans ?_ (by assumption)))) ?_; (repeat (with_reducible refine wpQuiet_step (fun K hK => ?_); go_simp; first | (refine hK _ ?_; clear hK K) | (apply Exists.intro; refine ⟨fun w' hC => ?_, hK _ ?_⟩; (focus first | with_reducible rfl | (have q0 := hC.cell x0; have q1 := hC.cell x1; have q2 := hC.cell a0; have q3 := hC.cell a1'; have q4 := hC.cell b0; have q5 := hC.cell b1'; go_simp; done) | (have q0 := hC.cell x0; have q1 := hC.cell x1; have q2 := hC.cell a0; have q3 := hC.cell a1'; have q4 := hC.cell b0; have q5 := hC.cell b1'; go_simp; exact ⟨rfl, rfl⟩) | (have q0 := hC.cell x0; have q1 := hC.cell x1; have q2 := hC.cell a0; have q3 := hC.cell a1'; have q4 := hC.cell b0; have q5 := hC.cell b1'; go_simp; with_reducible rfl) | (exact (SC.out _).mono fun e w'' ⟨he, hw''⟩ => ⟨he, hC.trans hw''⟩)); clear hK K))); refine wpQuiet_nil ?_; intro wq hEq)
                  replace hEq := Lib.hid hEq
                  clear x0 x1 a0 a1' b0 b1'
                  go_wp2
                  exact ⟨⟨j + 1, by omega, by go_num, by rw [hF2.out], HE4.out.trans hEq.out⟩, by simp [intOf]; omega⟩
            · have hjp : j = p.length := by omega
              have hany : (p.take j).any (fun x => decide (x = (a1, a2))) = true := by
                rw [List.take_of_length_le (by omega)]
                exact List.any_eq_true.2 ⟨_, fs.out, by simp⟩
              rw [hany]
              have HEB := Lib.hid (HE2.out.trans hE)
              have hA9 := Lib.hid hA
              clear hA hB hany hE
              have hn2 : 1 < h.length := by have h9 := H1N.out; omega
              · have fr2 := fr.out hn2
                have fx2 := fx.out hn2
                obtain ⟨R, hR⟩ : ∃ R, cornersP (h.take k ++ h.drop (k + 1)) = R := ⟨_, rfl⟩
                rw [hR] at fr2 fx2
                have HC := Lib.hid (fun v W => hull_at fr2 v W)
                have IC := fun v W (hv : Pts W v R) => Inside_c v R a1 a2 W hv
                rw [fx2] at IC
                replace IC := Lib.hid IC
                have hkl1 : (h.take k).length = k := by rw [List.length_take]; omega
                have hkl2 : (h.drop (k + 1)).length = h.length - (k + 1) := by rw [List.length_drop]
                have HL1 := Lib.hid hkl1
                have HL2 := Lib.hid hkl2
                have HPW := Lib.hid (HPH.out.ext HEB.out)
                have HP1 := Lib.hid (fun W (hh : Ext wB W) => (HPW.out.ext hh).cut (m := k) (by omega) rfl)
                have HP2 := Lib.hid (fun W (hh : Ext wB W) => (HPW.out.ext hh).tail (m := k + 1) (by omega) rfl kh)
                have j1 : (k : Int) ≤ (c2 : Int) := by omega
                have j2 : (k : Int) + 1 ≤ (h.length : Int) := by omega
                have j3 := IntWalk.i64_in ((k : Int) + 1) (by omega)
                have j4 : ¬ c2 = 0 := by omega
                have j5 : (0 : Int) ≤ (k : Int) := by omega
                have j6 : (0 : Int) ≤ (k : Int) + 1 := by omega
                clear fr2 fx2 hR hkl1 hkl2
                have hzB := HEB.out.sz
                go_wp2
                go_cut [17, 18] from 171 to 184 (fun s e wc => ∃ (A : Option Addr) (c : Nat), s = .slice A R.length c ∧ e = .int .i64 0 ∧ Pts wc (.slice A R.length c) R ∧ Ext wB wc)
                case first =>
                  rcases Decidable.em (c2 = k + 1) with hcm | hcm
                  · subst hcm
                    have j7 : (k : Int) ≤ (k : Int) + 1 := by omega
                    go_region_held3 (fun w' => Ext wB w') (repeat' (first | exact Ext.refl _ | assumption | refine Ext.alloc ?_ _ | refine Ext.drew ?_ | refine Ext.drewN ?_ _ | refine Ext.set ?_ (by first | exact Nat.le_refl _ | exact le1 _ | exact le2 _ | exact le3 _ | exact le4 _ | exact le5 _ | exact le6 _) _ | refine Ext.trans ?_ (by assumption)))
                      (first
                        | (refine step_append_pts (by rfl) _ _ (by rfl) wB.heap.size (.slice (some ⟨wB.heap.size, 0, none⟩) 0 0) _ [] (h.take k) (by rfl) (OwnP.empty (World.alloc_heap_new _ _) (Nat.le_refl _)) (by rfl) (HP1.out _ (by (repeat' (first | exact Ext.refl _ | assumption | refine Ext.alloc ?_ _ | refine Ext.drew ?_ | refine Ext.drewN ?_ _ | refine Ext.set ?_ (by first | exact Nat.le_refl _ | exact le1 _ | exact le2 _ | exact le3 _ | exact le4 _ | exact le5 _ | exact le6 _) _ | refine Ext.trans ?_ (by assumption))))) (by simp; omega) (by simp; try omega) ?_; intro vA wA' hoA hgA; have EA : Ext wB wA' := Ext.trans' (w := wB) (by (repeat' (first | exact Ext.refl _ | assumption | refine Ext.alloc ?_ _ | refine Ext.drew ?_ | refine Ext.drewN ?_ _ | refine Ext.set ?_ (by first | exact Nat.le_refl _ | exact le1 _ | exact le2 _ | exact le3 _ | exact le4 _ | exact le5 _ | exact le6 _) _ | refine Ext.trans ?_ (by assumption)))) hgA (fun k e => Nat.le_of_eq (Option.some.inj e)); simp only [List.nil_append] at hoA)
                        | (refine step_append_pts (by rfl) _ _ (by rfl) wB.heap.size vA _ (h.take k) (h.drop (k + 1)) (by rfl) (by first | exact hoA | exact hoA.ext (by (repeat' (first | exact Ext.refl _ | assumption | refine Ext.alloc ?_ _ | refine Ext.drew ?_ | refine Ext.drewN ?_ _ | refine Ext.set ?_ (by first | exact Nat.le_refl _ | exact le1 _ | exact le2 _ | exact le3 _ | exact le4 _ | exact le5 _ | exact le6 _) _ | refine Ext.trans ?_ (by assumption))))) (by rfl) (by have h9 := HP2.out _ EA; rw [if_pos rfl, Nat.sub_self] at h9; first | exact h9 | (rw [show h.length - (k + 1) = 0 by omega] at h9; exact h9)) (by simp; omega) (by have := EA.sz; simp; try omega) ?_; intro vC wC hoC hgC; have EC : Ext wB wC := Ext.trans' (w := wB) (by (repeat' (first | exact Ext.refl _ | assumption | refine Ext.alloc ?_ _ | refine Ext.drew ?_ | refine Ext.drewN ?_ _ | refine Ext.set ?_ (by first | exact Nat.le_refl _ | exact le1 _ | exact le2 _ | exact le3 _ | exact le4 _ | exact le5 _ | exact le6 _) _ | refine Ext.trans ?_ (by assumption)))) hgC (own_ge' hoA); have hpC := hoC.pts; replace hpC := Lib.hid hpC)
                        | (go_at_call 9; refine (HC.out _ _ hpC.out).mono ?_; rintro e w5 ⟨A5, c5, rfl, hp5, hb5⟩; replace hp5 := Lib.hid hp5; have E15 : Ext wB w5 := EC.trans hb5))
                    all_goals
                      go_wp2_with fail
                      go_meet
                      exact ⟨A5, c5, rfl, rfl, hp5.out, E15⟩
                  · go_region_held3 (fun w' => Ext wB w') (repeat' (first | exact Ext.refl _ | assumption | refine Ext.alloc ?_ _ | refine Ext.drew ?_ | refine Ext.drewN ?_ _ | refine Ext.set ?_ (by first | exact Nat.le_refl _ | exact le1 _ | exact le2 _ | exact le3 _ | exact le4 _ | exact le5 _ | exact le6 _) _ | refine Ext.trans ?_ (by assumption)))
                      (first
                        | (refine step_append_pts (by rfl) _ _ (by rfl) wB.heap.size (.slice (some ⟨wB.heap.size, 0, none⟩) 0 0) _ [] (h.take k) (by rfl) (OwnP.empty (World.alloc_heap_new _ _) (Nat.le_refl _)) (by rfl) (HP1.out _ (by (repeat' (first | exact Ext.refl _ | assumption | refine Ext.alloc ?_ _ | refine Ext.drew ?_ | refine Ext.drewN ?_ _ | refine Ext.set ?_ (by first | exact Nat.le_refl _ | exact le1 _ | exact le2 _ | exact le3 _ | exact le4 _ | exact le5 _ | exact le6 _) _ | refine Ext.trans ?_ (by assumption))))) (by simp; omega) (by simp; try omega) ?_; intro vA wA' hoA hgA; have EA : Ext wB wA' := Ext.trans' (w := wB) (by (repeat' (first | exact Ext.refl _ | assumption | refine Ext.alloc ?_ _ | refine Ext.drew ?_ | refine Ext.drewN ?_ _ | refine Ext.set ?_ (by first | exact Nat.le_refl _ | exact le1 _ | exact le2 _ | exact le3 _ | exact le4 _ | exact le5 _ | exact le6 _) _ | refine Ext.trans ?_ (by assumption)))) hgA (fun k e => Nat.le_of_eq (Option.some.inj e)); simp only [List.nil_append] at hoA)
                        | (refine step_append_pts (by rfl) _ _ (by rfl) wB.heap.size vA _ (h.take k) (h.drop (k + 1)) (by rfl) (by first | exact hoA | exact hoA.ext (by (repeat' (first | exact Ext.refl _ | assumption | refine Ext.alloc ?_ _ | refine Ext.drew ?_ | refine Ext.drewN ?_ _ | refine Ext.set ?_ (by first | exact Nat.le_refl _ | exact le1 _ | exact le2 _ | exact le3 _ | exact le4 _ | exact le5 _ | exact le6 _) _ | refine Ext.trans ?_ (by assumption))))) (by rfl) (by have h9 := HP2.out _ EA; rw [if_neg hcm] at h9; exact h9) (by simp; omega) (by have := EA.sz; simp; try omega) ?_; intro vC wC hoC hgC; have EC : Ext wB wC := Ext.trans' (w := wB) (by (repeat' (first | exact Ext.refl _ | assumption | refine Ext.alloc ?_ _ | refine Ext.drew ?_ | refine Ext.drewN ?_ _ | refine Ext.set ?_ (by first | exact Nat.le_refl _ | exact le1 _ | exact le2 _ | exact le3 _ | exact le4 _ | exact le5 _ | exact le6 _) _ | refine Ext.trans ?_ (by assumption)))) hgC (own_ge' hoA); have hpC := hoC.pts; replace hpC := Lib.hid hpC)
                        | (go_at_call 9; refine (HC.out _ _ hpC.out).mono ?_; rintro e w5 ⟨A5, c5, rfl, hp5, hb5⟩; replace hp5 := Lib.hid hp5; have E15 : Ext wB w5 := EC.trans hb5))
                    all_goals
                      go_wp2_with fail
                      go_meet
                      exact ⟨A5, c5, rfl, rfl, hp5.out, E15⟩
                case rest =>
                  obtain ⟨A5, c5, rfl, rfl, hp5, E5⟩ := hcut
                  generalize wc = W5 at *
                  have hA5 := blk_ext hA9.out E5
                  have a0 : W5.cell? ⟨ba, 0, none⟩ = some (.int .i64 a1) := World.news_of_block hA5 0 _ rfl
                  have a1' : W5.cell? ⟨ba, 1, none⟩ = some (.int .i64 a2) := World.news_of_block hA5 1 _ rfl
                  have HE5 := Lib.hid (HEB.out.trans E5)
                  have HP5 := Lib.hid hp5
                  clear hp5 E5 HC HP1 HP2 hA5 j1 j2 j4 j5 j6
                  go_wp2_with (go_at_call 13; refine (IC.out _ _ HP5.out).mono ?_; rintro e w6 ⟨rfl, hb6⟩)
                  exact ⟨⟨k + 1, by omega, by go_num, HE5.out.trans hb6⟩, by simp [intOf]; omega⟩
    · have HEW := Lib.hid hE
      obtain ⟨fn, hfn⟩ : ∃ fn : Nat, f = fn := ⟨f.toNat, by omega⟩
      subst hfn
      obtain ⟨M, hM⟩ : ∃ M, fn % p.length = M := ⟨_, rfl⟩
      have hMl : M < p.length := by rw [← hM]; exact Nat.mod_lt _ hzp
      have hrem : Int.tmod (fn : Int) (p.length : Int) = (M : Int) := by rw [← hM]; norm_cast
      have hl0 : ¬ p = [] := List.length_pos_iff.1 hzp
      have e1 := IntWalk.i64_in (fn : Int) (by omega)
      have e2 := IntWalk.i64_in (M : Int) (by omega)
      have j1 : (M : Int) ≤ (p.length : Int) := by omega
      have j2 : (0 : Int) ≤ (M : Int) := by omega
      have j3 : ¬ c1 = M := by omega
      have hag := HF.out.again M
      have HC := Lib.hid (fun v W => hull_at hag v W)
      have HPW := Lib.hid (HPP.out.ext hE)
      have HHW := Lib.hid (HPH.out.ext hE)
      have HP2 := Lib.hid (fun W (hh : Ext wA W) => (HPW.out.ext hh).tail (m := M) (by omega) rfl kp)
      have zA := hE.sz
      clear hM hag hE HF HG
      rw [if_neg j3] at HP2
      go_wp2_with (first
        | (at_builtin; refine wpList_append_pts (by rfl) _ _ (by rfl) wA.heap.size (.slice (some ⟨wA.heap.size, 0, none⟩) 0 0) (.slice (some ⟨bp, op + M * 2, none⟩) (p.length - M) (c1 - M)) [] (p.drop M) (by rfl) (OwnP.empty (World.alloc_heap_new _ _) (Nat.le_refl _)) (by rfl) (HP2.out _ (by (repeat' (first | exact Ext.refl _ | assumption | refine Ext.alloc ?_ _ | refine Ext.drew ?_ | refine Ext.drewN ?_ _ | refine Ext.set ?_ (by first | exact Nat.le_refl _ | exact le1 _ | exact le2 _ | exact le3 _ | exact le4 _ | exact le5 _ | exact le6 _) _ | refine Ext.trans ?_ (by assumption))))) (by simp; omega) (by simp; try omega) ?_; intro vA wA' hoA hgA; have EA : Ext wA wA' := Ext.trans' (w := wA) (by (repeat' (first | exact Ext.refl _ | assumption | refine Ext.alloc ?_ _ | refine Ext.drew ?_ | refine Ext.drewN ?_ _ | refine Ext.set ?_ (by first | exact Nat.le_refl _ | exact le1 _ | exact le2 _ | exact le3 _ | exact le4 _ | exact le5 _ | exact le6 _) _ | refine Ext.trans ?_ (by assumption)))) hgA (fun k e => Nat.le_of_eq (Option.some.inj e)); simp only [List.nil_append] at hoA; have zA' := EA.sz)
        | (at_builtin; refine wpList_append_pts (by rfl) _ _ (by rfl) wA.heap.size vA (.slice (some ⟨bp, op, none⟩) p.length c1) (p.drop M) p (by rfl) hoA (by rfl) (HPW.out.ext EA) (by simp; omega) (by omega) ?_; intro vC wC hoC hgC; have EC : Ext wA wC := Ext.trans' (w := wA) EA hgC (own_ge' hoA); have hpC := hoC.pts; replace hpC := Lib.hid hpC)
        | (go_at_call 9; refine (HC.out _ _ hpC.out).mono ?_; rintro e w5 ⟨A5, c5, rfl, hp5, hb5⟩; replace hp5 := Lib.hid hp5; have E15 : Ext wA w5 := EC.trans hb5)
        | (go_at_call 14; refine (Same01_c _ _ h h _ hp5.out (HHW.out.ext E15)).mono ?_; rintro e w6 ⟨he, hb6⟩; rw [decide_eq_true rfl] at he; subst he)
        | (go_at_call 10; refine (works_c _).mono ?_; rintro e w7 ⟨rfl, hb7⟩))
      go_ret
      exact ⟨rfl, EV.out.trans (HEW.out.trans (E15.trans (hb6.trans hb7)))⟩
theorem least_law (va : Value) (l : List HPt) (f : Int) (w : World) (ha : Pairs .i8 w va l) (wa : ∀ q ∈ l, (Lit.int .i8 q.1).wf = true ∧ (Lit.int .i8 q.2).wf = true) (hf : (Lit.int .u8 f).wf = true) :
    Calls Try.prog 3 #[va, .int .u8 f] w fun e w' => e = .returned (.bool true) ∧ Ext w w' := by
  by_cases h : l = []
  · subst h
    exact least_none va f w ha
  · have h2 : 0 < (cornersP (l.take 10)).length := corners_pos (List.length_pos_iff.2 (by simpa using h))
    rcases (show (cornersP (l.take 10)).length = 1 ∨ (cornersP (l.take 10)).length = 2 ∨ 2 < (cornersP (l.take 10)).length by omega) with k | k | k
    · exact least_one va l f w ha wa (bounds_u8 hf) h k
    · exact least_two va l f w ha wa (bounds_u8 hf) h k
    · exact least_more va l f w ha wa (bounds_u8 hf) h k
end Go.Proofs.Ytlndcpjaeoppmaa
