
/- Contract: the chain of corners, the definition. -/
import Derived.Test.YtcbjecpfijogcaaGreatHAppAll
namespace Go.Proofs.YtcbjecpfijogcaaGreat
open Go.RowKit Go.Shelf

theorem sign_le (x : Int) : decide (signP x ≤ 0) = decide (x ≤ 0) := by
  unfold signP
  by_cases h : 0 < x
  · simp [h]
  · by_cases h2 : x < 0
    · simp [h, h2]; omega
    · simp [h, h2]; omega
set_option maxRecDepth 100000 in
set_option maxHeartbeats 8000000 in
theorem side_c (v : Value) (l : List HPt) (w : World) (hs : Pts w v l) (hw : ∀ p ∈ l, wideB p) (hn : l.length ≤ 100000) :
    Calls Tryz.prog 55 #[v] w fun e w' => ∃ v', e = .returned v' ∧ OwnP w.heap.size w' v' (sideP l) ∧ Ext w w' := by
  rcases hs with ⟨a0, c0, rfl, rfl⟩ | ⟨b, off, cap, rfl, hl, hcap, hc⟩
  · go_enter Tryz.func55, Tryz.ntmps55
    go_wp2
    go_loopw [3, 4] (fun o i wr => o = .slice none 0 0 ∧ i = .int .i64 0 ∧ wr = w) (fun _ i _ => 0)
    case atStart => exact ⟨rfl, rfl, rfl⟩
    case round =>
      obtain ⟨rfl, rfl, rfl⟩ := hrel
      go_wp2
      go_ret
      exact ⟨_, rfl, OwnP.none0, Ext.refl _⟩
  · have HC := Lib.hid hc
    have HW := Lib.hid hw
    clear hc hw
    go_enter Tryz.func55, Tryz.ntmps55
    go_wp2
    go_loopw [3, 4] (fun o i wr => ∃ (k N : Nat) (A : Option Addr) (c : Nat) (st : List HPt), k ≤ l.length ∧ i = .int .i64 k ∧ o = .slice A N c ∧ st.length = N ∧ (l.take k).foldl pushP [] = st ∧ OwnP w.heap.size wr (.slice A N c) st.reverse ∧ Ext w wr) (fun _ i _ => l.length - (intOf i).toNat)
    case atStart => exact ⟨0, 0, none, 0, [], by omega, rfl, rfl, rfl, rfl, OwnP.none0, Ext.refl _⟩
    case round =>
      obtain ⟨k, N, A, c, st, hk, rfl, rfl, hN, hst, ho, hE⟩ := hrel
      obtain ⟨wA, hwA⟩ : ∃ z : World, z = wr := ⟨_, rfl⟩
      subst hwA
      by_cases hlt : k < l.length
      · have hx1 := hE.cell (HC.out k hlt).1
        have hx2 := hE.cell (HC.out k hlt).2
        have hxw := HW.out (l.getD k (0, 0)) (by rw [getD_lt hlt]; exact List.getElem_mem hlt)
        have hfx : (l.take (k + 1)).foldl pushP [] = pushP st (l.getD k (0, 0)) := by rw [List.take_succ_eq_append_getElem hlt, List.foldl_append, hst, getD_lt hlt]; rfl
        generalize hp : l.getD k (0, 0) = p at hx1 hx2 hxw hfx
        obtain ⟨xa, xb⟩ := p
        simp only at hx1 hx2
        have hstl : st.length ≤ 100000 := by rw [← hst]; exact Nat.le_trans (foldP_len _ []) (by simp; omega)
        have hstw : ∀ q ∈ st, wideB q := fun q hq => by
          rw [← hst] at hq
          rcases foldP_mem _ _ hq with h | h
          · simp at h
          · exact HW.out q (List.mem_of_mem_take h)
        obtain ⟨X, hX⟩ : ∃ X, popP st (xa, xb) = X := ⟨_, rfl⟩
        have HX := Lib.hid (And.intro hfx (And.intro hX hp))
        have HO := Lib.hid (And.intro ho (And.intro hN (And.intro hstl hstw)))
        have HXW := Lib.hid hxw
        have HE := Lib.hid hE
        have HX12 := Lib.hid (And.intro hx1 hx2)
        clear hfx hX hp ho hN hst hstl hstw hxw hE hx1 hx2
        go_wp2
        go_loopw [3] (fun o wr2 => ∃ (N : Nat) (A : Option Addr) (c : Nat) (st : List HPt), o = .slice A N c ∧ st.length = N ∧ popP st (xa, xb) = X ∧ N ≤ 100000 ∧ (∀ q ∈ st, wideB q) ∧ OwnP w.heap.size wr2 (.slice A N c) st.reverse ∧ Ext wA wr2) (fun o _ => match o with | .slice _ n _ => n | _ => 0)
        case atStart => exact ⟨N, A, c, st, rfl, HO.out.2.1, HX.out.2.1, by rw [← HO.out.2.1]; exact HO.out.2.2.1, HO.out.2.2.2, HO.out.1, Ext.refl _⟩
        case round =>
          obtain ⟨N, A, c, st, rfl, hN, hpp, hN1, hstw, ho, hE2⟩ := hrel
          have hx1 := hE2.cell HX12.out.1
          have hx2 := hE2.cell HX12.out.2
          by_cases hst : st.length < 2
          · have HP := Lib.hid (popP_short hst xa xb)
            rw [hN] at hst
            have g0 : decide ((2 : Int) ≤ (N : Int)) = false := by simp; omega
            go_wp2
            (refine wp_region_ext (C := fun w' => Ext wr w') (by kernel_rfl) (by kernel_rfl) (by (repeat' (first | exact Ext.refl _ | assumption | refine Ext.alloc ?_ _ | refine Ext.drew ?_ | refine Ext.drewN ?_ _ | refine Ext.set ?_ (by first | exact Nat.le_refl _ | exact le1 _ | exact le2 _ | exact le3 _ | exact le4 _ | exact le5 _ | exact le6 _) _ | refine Ext.trans ?_ (by assumption)))) ?_; (repeat (with_reducible refine wpQuiet_step (fun K hK => ?_); go_simp; first | (refine hK _ ?_; clear hK K) | (apply Exists.intro; refine ⟨fun w' hC => ?_, hK _ ?_⟩; (focus first | with_reducible rfl | (skip; go_simp; done) | (skip; go_simp; exact ⟨rfl, rfl⟩) | (skip; go_simp; with_reducible rfl)); clear hK K))); refine wpQuiet_nil ?_; intro wq hEq)
            have hx1q := hEq.cell hx1
            have hx2q := hEq.cell hx2
            have HOQ := Lib.hid (ho.ext hEq)
            have HEQ := Lib.hid (HE.out.trans (hE2.trans hEq))
            have zq := HEQ.out.sz
            have HS := Lib.hid (And.intro hN (And.intro hpp HP.out))
            have lq := World.block_lt_of_cell? _ _ hx1q
            simp only at lq
            have HPF := Lib.hid (fun W' (h : Ext wq W') => (HOQ.out.ext h).pts)
            have hlN : st.reverse.length = N := by rw [List.length_reverse, hN]
            clear hx1 hx2 ho hEq hE2 hN hpp hstw
            go_upto_region 7 with fail
            go_region_law (first
              | (refine step_append_pts (by rfl) _ _ (by rfl) wq.heap.size (.slice (some ⟨wq.heap.size , 0, none⟩) 0 0) (.slice A N c) [] st.reverse (by rfl) (OwnP.empty (by first | exact World.alloc_heap_new _ _ | exact heap2_first _ _ _ | exact heap2_second _ _ _) (Nat.le_refl _)) (by rfl) (HPF.out _ (by (repeat' (first | exact Ext.refl _ | assumption | refine Ext.alloc ?_ _ | refine Ext.drew ?_ | refine Ext.drewN ?_ _ | refine Ext.set ?_ (by first | exact Nat.le_refl _ | exact le1 _ | exact le2 _ | exact le3 _ | exact le4 _ | exact le5 _ | exact le6 _) _ | refine Ext.trans ?_ (by assumption))))) (by rw [hlN]; simp; omega) (by simp; try omega) ?_; intro vA wA' hoA hgA; have EA : Ext wq wA' := Ext.trans' (w := wq) (by (repeat' (first | exact Ext.refl _ | assumption | refine Ext.alloc ?_ _ | refine Ext.drew ?_ | refine Ext.drewN ?_ _ | refine Ext.set ?_ (by first | exact Nat.le_refl _ | exact le1 _ | exact le2 _ | exact le3 _ | exact le4 _ | exact le5 _ | exact le6 _) _ | refine Ext.trans ?_ (by assumption)))) hgA (fun k e => Nat.le_of_eq (Option.some.inj e)); simp only [List.nil_append] at hoA; have q0 := EA.cell hx1q; have q1 := EA.cell hx2q; have lA := World.block_lt_of_cell? _ _ q0; simp only at lA)
              | (refine step_append_pts (by rfl) _ _ (by rfl) wq.heap.size (.slice (some ⟨wq.heap.size + 1, 0, none⟩) 0 0) (.slice A N c) [] st.reverse (by rfl) (OwnP.empty (by first | exact World.alloc_heap_new _ _ | exact heap2_first _ _ _ | exact heap2_second _ _ _) (Nat.le_succ _)) (by rfl) (HPF.out _ (by (repeat' (first | exact Ext.refl _ | assumption | refine Ext.alloc ?_ _ | refine Ext.drew ?_ | refine Ext.drewN ?_ _ | refine Ext.set ?_ (by first | exact Nat.le_refl _ | exact le1 _ | exact le2 _ | exact le3 _ | exact le4 _ | exact le5 _ | exact le6 _) _ | refine Ext.trans ?_ (by assumption))))) (by rw [hlN]; simp; omega) (by simp; try omega) ?_; intro vA wA' hoA hgA; have EA : Ext wq wA' := Ext.trans' (w := wq) (by (repeat' (first | exact Ext.refl _ | assumption | refine Ext.alloc ?_ _ | refine Ext.drew ?_ | refine Ext.drewN ?_ _ | refine Ext.set ?_ (by first | exact Nat.le_refl _ | exact le1 _ | exact le2 _ | exact le3 _ | exact le4 _ | exact le5 _ | exact le6 _) _ | refine Ext.trans ?_ (by assumption)))) hgA (fun k e => Nat.le_trans (Nat.le_succ _) (Nat.le_of_eq (Option.some.inj e))); simp only [List.nil_append] at hoA; have q0 := EA.cell hx1q; have q1 := EA.cell hx2q; have lA := World.block_lt_of_cell? _ _ q0; simp only at lA)
              | (refine step_append_pts (by rfl) _ _ (by rfl) wq.heap.size vA (.slice (some ⟨wA'.heap.size, 0, none⟩) 1 1) st.reverse [(xa, xb)] (by rfl) (by first | exact hoA.ext ((Ext.refl _).alloc _) | exact hoA.ext (((Ext.refl _).alloc _).drew) | exact hoA.ext ((((Ext.refl _).drew).alloc _))) (by rfl) (Pts.one (World.alloc_heap_new wA' _)) (by rw [hlN]; simp; omega) (by have := EA.sz; simp; try omega) ?_; intro vC wC hoC hgC; have EC : Ext wq wC := Ext.trans' (w := wq) (by (repeat' (first | exact Ext.refl _ | assumption | refine Ext.alloc ?_ _ | refine Ext.drew ?_ | refine Ext.drewN ?_ _ | refine Ext.set ?_ (by first | exact Nat.le_refl _ | exact le1 _ | exact le2 _ | exact le3 _ | exact le4 _ | exact le5 _ | exact le6 _) _ | refine Ext.trans ?_ (by assumption)))) hgC (own_ge' hoA); obtain ⟨AC, cC, rfl, _⟩ := hoC.shape)
              | (refine step_append_pts (by rfl) _ _ (by rfl) wq.heap.size vA (.slice (some ⟨wq.heap.size + 1, 0, none⟩) 1 1) st.reverse [(xa, xb)] (by rfl) hoA (by rfl) (Pts.one (kept_blk' hgA rfl (heap2_second _ _ _) (Nat.succ_ne_self _))) (by rw [hlN]; simp; omega) (by have := EA.sz; simp; try omega) ?_; intro vC wC hoC hgC; have EC : Ext wq wC := Ext.trans' (w := wq) (by (repeat' (first | exact Ext.refl _ | assumption | refine Ext.alloc ?_ _ | refine Ext.drew ?_ | refine Ext.drewN ?_ _ | refine Ext.set ?_ (by first | exact Nat.le_refl _ | exact le1 _ | exact le2 _ | exact le3 _ | exact le4 _ | exact le5 _ | exact le6 _) _ | refine Ext.trans ?_ (by assumption)))) hgC (own_ge' hoA); obtain ⟨AC, cC, rfl, _⟩ := hoC.shape)
              | (refine step_append_pts (by rfl) _ _ (by rfl) wq.heap.size vA (.slice (some ⟨wq.heap.size, 0, none⟩) 1 1) st.reverse [(xa, xb)] (by rfl) hoA (by rfl) (Pts.one (kept_blk' hgA rfl (heap2_first _ _ _) (Nat.succ_ne_self _).symm)) (by rw [hlN]; simp; omega) (by have := EA.sz; simp; try omega) ?_; intro vC wC hoC hgC; have EC : Ext wq wC := Ext.trans' (w := wq) (by (repeat' (first | exact Ext.refl _ | assumption | refine Ext.alloc ?_ _ | refine Ext.drew ?_ | refine Ext.drewN ?_ _ | refine Ext.set ?_ (by first | exact Nat.le_refl _ | exact le1 _ | exact le2 _ | exact le3 _ | exact le4 _ | exact le5 _ | exact le6 _) _ | refine Ext.trans ?_ (by assumption)))) hgC (own_ge' hoA); obtain ⟨AC, cC, rfl, _⟩ := hoC.shape))
            all_goals
              go_wp2
              have hlC : (st.reverse ++ [(xa, xb)]).length = N + 1 := by rw [List.length_append, hlN]; rfl
              have hOC : OwnP w.heap.size wC (.slice AC (N + 1) cC) ((xa, xb) :: st).reverse := by
                rw [List.reverse_cons, ← hlC]
                exact hoC.down zq
              refine ⟨⟨k + 1, N + 1, AC, cC, (xa, xb) :: st, by omega, by go_num, rfl, by rw [List.length_cons, HS.out.1], ?_, hOC, HEQ.out.trans EC⟩, by simp [intOf]; omega⟩
              rw [HX.out.1]
              show (xa, xb) :: popP _ _ = _
              rw [HX.out.2.1, ← HS.out.2.1, HS.out.2.2]
          · obtain ⟨b1, a1, r, hst3⟩ : ∃ b a r, st = b :: a :: r := by
              rcases st with _ | ⟨b, _ | ⟨a, r⟩⟩
              · exact absurd (by decide) hst
              · exact absurd (by simp) hst
              · exact ⟨b, a, r, rfl⟩
            have hA : st.reverse[r.length]? = some a1 := by rw [hst3]; simp
            have hB : st.reverse[r.length + 1]? = some b1 := by rw [hst3]; simp
            have hNr : st.reverse.length = N := by rw [List.length_reverse, hN]
            obtain ⟨g, c0, e1, hc1, hc2, ca1, ca2⟩ := ho.at hA
            obtain ⟨g2, c2, e2, _, _, cb1, cb2⟩ := ho.at hB
            rw [hNr] at e1 e2 hc1
            simp only [Value.slice.injEq] at e1 e2
            obtain ⟨rfl, -, rfl⟩ := e1
            obtain ⟨e3, -, -⟩ := e2
            simp only [Option.some.injEq, Addr.mk.injEq, and_true] at e3
            subst e3
            have HSTW := Lib.hid hstw
            have hwa := hstw a1 (by rw [hst3]; simp)
            have hwb := hstw b1 (by rw [hst3]; simp)
            obtain ⟨ax, ay⟩ := a1
            obtain ⟨bx, by'⟩ := b1
            have hlen : N = r.length + 2 := by rw [← hN, hst3]; rfl
            generalize hM : r.length = M at hlen ca1 ca2 cb1 cb2
            obtain ⟨M1, hM1⟩ : ∃ M1, M1 = M + 1 := ⟨_, rfl⟩
            rw [← hM1] at cb1 cb2
            have wm2 : IntKind.i64.wrap ((N : Int) - 2) = (M : Int) := by rw [IntWalk.i64_in _ (by omega)]; omega
            have wm1 : IntKind.i64.wrap ((N : Int) - 1) = (M1 : Int) := by rw [IntWalk.i64_in _ (by omega)]; omega
            have hMN : M < N := by omega
            have hM1N : M1 < N := by omega
            have g0 : decide ((2 : Int) ≤ (N : Int)) = true := by simp; omega
            have CR := fun w => SignW_c ax ay bx by' xa xb w hwa hwb HXW.out
            have hsg := sign_le (crossP (ax, ay) (bx, by') (xa, xb))
            have HS0 := Lib.hid (And.intro hst3 (And.intro hlen (And.intro hM (And.intro hM1 hNr))))
            clear hA hB hlen hM hM1 hNr hwa hwb hst
            generalize hSG : signP (crossP (ax, ay) (bx, by') (xa, xb)) = SG at CR hsg
            replace CR := Lib.hid CR
            have HSG := Lib.hid hSG
            clear hSG
            by_cases hcr : crossP (ax, ay) (bx, by') (xa, xb) ≤ 0
            · rw [decide_eq_true hcr] at hsg
              have hcr := Lib.hid hcr
              clear hst3
              go_wp2
              (refine wp_region_ext (C := fun w' => Ext wr w') (by kernel_rfl) (by kernel_rfl) (by (repeat' (first | exact Ext.refl _ | assumption | refine Ext.alloc ?_ _ | refine Ext.drew ?_ | refine Ext.drewN ?_ _ | refine Ext.set ?_ (by first | exact Nat.le_refl _ | exact le1 _ | exact le2 _ | exact le3 _ | exact le4 _ | exact le5 _ | exact le6 _) _ | refine Ext.trans ?_ (by assumption)))) ?_; (repeat (with_reducible refine wpQuiet_step (fun K hK => ?_); go_simp; first | (refine hK _ ?_; clear hK K) | (apply Exists.intro; refine ⟨fun w' hC => ?_, hK _ ?_⟩; (focus first | with_reducible rfl | (have q0 := hC.cell ca1; have q1 := hC.cell ca2; have q2 := hC.cell cb1; have q3 := hC.cell cb2; have q4 := hC.cell hx1; have q5 := hC.cell hx2; go_simp; done) | (have q0 := hC.cell ca1; have q1 := hC.cell ca2; have q2 := hC.cell cb1; have q3 := hC.cell cb2; have q4 := hC.cell hx1; have q5 := hC.cell hx2; go_simp; exact ⟨rfl, rfl⟩) | (have q0 := hC.cell ca1; have q1 := hC.cell ca2; have q2 := hC.cell cb1; have q3 := hC.cell cb2; have q4 := hC.cell hx1; have q5 := hC.cell hx2; go_simp; with_reducible rfl) | (exact (CR.out _).mono fun e w'' ⟨he, hw''⟩ => ⟨he, hC.trans hw''⟩)); clear hK K))); refine wpQuiet_nil ?_; intro wq hEq)
              have HOQ := Lib.hid (ho.ext hEq)
              have HEQ := Lib.hid (hE2.trans hEq)
              have HS := Lib.hid (And.intro hN hpp)
              clear hx1 hx2 ho hEq hE2 hN hpp hstw wm2 ca1 ca2 cb1 cb2 CR
              go_wp2
              have hml : M1 ≤ st.reverse.length := by rw [HS0.out.2.2.2.2]; omega
              have hst3 := HS0.out.1
              have htk : ((ax, ay) :: r).reverse = st.reverse.take M1 := by
                rw [hst3, HS0.out.2.2.2.1, ← HS0.out.2.2.1]
                rw [show ((bx, by') :: (ax, ay) :: r).reverse = ((ax, ay) :: r).reverse ++ [(bx, by')] from by simp, List.take_left' (by simp)]
              have hcut : OwnP w.heap.size wq (.slice (some ⟨g, 0, none⟩) M1 c) ((ax, ay) :: r).reverse := by
                rw [htk]
                refine OwnP.cut (l := st.reverse) ?_ M1 hml
                rw [HS0.out.2.2.2.2]
                exact HOQ.out
              refine ⟨⟨M1, some ⟨g, 0, none⟩, c, (ax, ay) :: r, rfl, ?_, ?_, by omega, ?_, hcut, HEQ.out⟩, hM1N⟩
              · rw [List.length_cons, HS0.out.2.2.1, HS0.out.2.2.2.1]
              · rw [← popP_drop hcr.out, ← hst3]; exact HS.out.2
              · intro q hq
                exact HSTW.out q (by rw [hst3]; exact List.mem_cons_of_mem _ hq)
            · rw [decide_eq_false hcr] at hsg
              have HP := Lib.hid (by have h := popP_keep (r := r) hcr; rw [← hst3] at h; exact h)
              clear hcr hst3
              go_wp2
              (refine wp_region_ext (C := fun w' => Ext wr w') (by kernel_rfl) (by kernel_rfl) (by (repeat' (first | exact Ext.refl _ | assumption | refine Ext.alloc ?_ _ | refine Ext.drew ?_ | refine Ext.drewN ?_ _ | refine Ext.set ?_ (by first | exact Nat.le_refl _ | exact le1 _ | exact le2 _ | exact le3 _ | exact le4 _ | exact le5 _ | exact le6 _) _ | refine Ext.trans ?_ (by assumption)))) ?_; (repeat (with_reducible refine wpQuiet_step (fun K hK => ?_); go_simp; first | (refine hK _ ?_; clear hK K) | (apply Exists.intro; refine ⟨fun w' hC => ?_, hK _ ?_⟩; (focus first | with_reducible rfl | (have q0 := hC.cell ca1; have q1 := hC.cell ca2; have q2 := hC.cell cb1; have q3 := hC.cell cb2; have q4 := hC.cell hx1; have q5 := hC.cell hx2; go_simp; done) | (have q0 := hC.cell ca1; have q1 := hC.cell ca2; have q2 := hC.cell cb1; have q3 := hC.cell cb2; have q4 := hC.cell hx1; have q5 := hC.cell hx2; go_simp; exact ⟨rfl, rfl⟩) | (have q0 := hC.cell ca1; have q1 := hC.cell ca2; have q2 := hC.cell cb1; have q3 := hC.cell cb2; have q4 := hC.cell hx1; have q5 := hC.cell hx2; go_simp; with_reducible rfl) | (exact (CR.out _).mono fun e w'' ⟨he, hw''⟩ => ⟨he, hC.trans hw''⟩)); clear hK K))); refine wpQuiet_nil ?_; intro wq hEq)
              have hx1q := hEq.cell hx1
              have hx2q := hEq.cell hx2
              have HOQ := Lib.hid (ho.ext hEq)
              have HEQ := Lib.hid (HE.out.trans (hE2.trans hEq))
              have zq := HEQ.out.sz
              have HS := Lib.hid (And.intro hN (And.intro hpp HP.out))
              have lq := World.block_lt_of_cell? _ _ hx1q
              simp only at lq
              have HPF := Lib.hid (fun W' (h : Ext wq W') => (HOQ.out.ext h).pts)
              have hlN : st.reverse.length = N := by rw [List.length_reverse, hN]
              clear ca1 ca2 cb1 cb2 wm2 wm1 CR hsg hx1 hx2 ho hEq hE2 hN hpp hstw
              go_upto_region 7 with fail
              go_region_law (first
                | (refine step_append_pts (by rfl) _ _ (by rfl) wq.heap.size (.slice (some ⟨wq.heap.size , 0, none⟩) 0 0) (.slice (some ⟨g, 0, none⟩) N c) [] st.reverse (by rfl) (OwnP.empty (by first | exact World.alloc_heap_new _ _ | exact heap2_first _ _ _ | exact heap2_second _ _ _) (Nat.le_refl _)) (by rfl) (HPF.out _ (by (repeat' (first | exact Ext.refl _ | assumption | refine Ext.alloc ?_ _ | refine Ext.drew ?_ | refine Ext.drewN ?_ _ | refine Ext.set ?_ (by first | exact Nat.le_refl _ | exact le1 _ | exact le2 _ | exact le3 _ | exact le4 _ | exact le5 _ | exact le6 _) _ | refine Ext.trans ?_ (by assumption))))) (by rw [hlN]; simp; omega) (by simp; try omega) ?_; intro vA wA' hoA hgA; have EA : Ext wq wA' := Ext.trans' (w := wq) (by (repeat' (first | exact Ext.refl _ | assumption | refine Ext.alloc ?_ _ | refine Ext.drew ?_ | refine Ext.drewN ?_ _ | refine Ext.set ?_ (by first | exact Nat.le_refl _ | exact le1 _ | exact le2 _ | exact le3 _ | exact le4 _ | exact le5 _ | exact le6 _) _ | refine Ext.trans ?_ (by assumption)))) hgA (fun k e => Nat.le_of_eq (Option.some.inj e)); simp only [List.nil_append] at hoA; have q0 := EA.cell hx1q; have q1 := EA.cell hx2q; have lA := World.block_lt_of_cell? _ _ q0; simp only at lA)
                | (refine step_append_pts (by rfl) _ _ (by rfl) wq.heap.size (.slice (some ⟨wq.heap.size + 1, 0, none⟩) 0 0) (.slice (some ⟨g, 0, none⟩) N c) [] st.reverse (by rfl) (OwnP.empty (by first | exact World.alloc_heap_new _ _ | exact heap2_first _ _ _ | exact heap2_second _ _ _) (Nat.le_succ _)) (by rfl) (HPF.out _ (by (repeat' (first | exact Ext.refl _ | assumption | refine Ext.alloc ?_ _ | refine Ext.drew ?_ | refine Ext.drewN ?_ _ | refine Ext.set ?_ (by first | exact Nat.le_refl _ | exact le1 _ | exact le2 _ | exact le3 _ | exact le4 _ | exact le5 _ | exact le6 _) _ | refine Ext.trans ?_ (by assumption))))) (by rw [hlN]; simp; omega) (by simp; try omega) ?_; intro vA wA' hoA hgA; have EA : Ext wq wA' := Ext.trans' (w := wq) (by (repeat' (first | exact Ext.refl _ | assumption | refine Ext.alloc ?_ _ | refine Ext.drew ?_ | refine Ext.drewN ?_ _ | refine Ext.set ?_ (by first | exact Nat.le_refl _ | exact le1 _ | exact le2 _ | exact le3 _ | exact le4 _ | exact le5 _ | exact le6 _) _ | refine Ext.trans ?_ (by assumption)))) hgA (fun k e => Nat.le_trans (Nat.le_succ _) (Nat.le_of_eq (Option.some.inj e))); simp only [List.nil_append] at hoA; have q0 := EA.cell hx1q; have q1 := EA.cell hx2q; have lA := World.block_lt_of_cell? _ _ q0; simp only at lA)
                | (refine step_append_pts (by rfl) _ _ (by rfl) wq.heap.size vA (.slice (some ⟨wA'.heap.size, 0, none⟩) 1 1) st.reverse [(xa, xb)] (by rfl) (by first | exact hoA.ext ((Ext.refl _).alloc _) | exact hoA.ext (((Ext.refl _).alloc _).drew) | exact hoA.ext ((((Ext.refl _).drew).alloc _))) (by rfl) (Pts.one (World.alloc_heap_new wA' _)) (by rw [hlN]; simp; omega) (by have := EA.sz; simp; try omega) ?_; intro vC wC hoC hgC; have EC : Ext wq wC := Ext.trans' (w := wq) (by (repeat' (first | exact Ext.refl _ | assumption | refine Ext.alloc ?_ _ | refine Ext.drew ?_ | refine Ext.drewN ?_ _ | refine Ext.set ?_ (by first | exact Nat.le_refl _ | exact le1 _ | exact le2 _ | exact le3 _ | exact le4 _ | exact le5 _ | exact le6 _) _ | refine Ext.trans ?_ (by assumption)))) hgC (own_ge' hoA); obtain ⟨AC, cC, rfl, _⟩ := hoC.shape)
                | (refine step_append_pts (by rfl) _ _ (by rfl) wq.heap.size vA (.slice (some ⟨wq.heap.size + 1, 0, none⟩) 1 1) st.reverse [(xa, xb)] (by rfl) hoA (by rfl) (Pts.one (kept_blk' hgA rfl (heap2_second _ _ _) (Nat.succ_ne_self _))) (by rw [hlN]; simp; omega) (by have := EA.sz; simp; try omega) ?_; intro vC wC hoC hgC; have EC : Ext wq wC := Ext.trans' (w := wq) (by (repeat' (first | exact Ext.refl _ | assumption | refine Ext.alloc ?_ _ | refine Ext.drew ?_ | refine Ext.drewN ?_ _ | refine Ext.set ?_ (by first | exact Nat.le_refl _ | exact le1 _ | exact le2 _ | exact le3 _ | exact le4 _ | exact le5 _ | exact le6 _) _ | refine Ext.trans ?_ (by assumption)))) hgC (own_ge' hoA); obtain ⟨AC, cC, rfl, _⟩ := hoC.shape)
                | (refine step_append_pts (by rfl) _ _ (by rfl) wq.heap.size vA (.slice (some ⟨wq.heap.size, 0, none⟩) 1 1) st.reverse [(xa, xb)] (by rfl) hoA (by rfl) (Pts.one (kept_blk' hgA rfl (heap2_first _ _ _) (Nat.succ_ne_self _).symm)) (by rw [hlN]; simp; omega) (by have := EA.sz; simp; try omega) ?_; intro vC wC hoC hgC; have EC : Ext wq wC := Ext.trans' (w := wq) (by (repeat' (first | exact Ext.refl _ | assumption | refine Ext.alloc ?_ _ | refine Ext.drew ?_ | refine Ext.drewN ?_ _ | refine Ext.set ?_ (by first | exact Nat.le_refl _ | exact le1 _ | exact le2 _ | exact le3 _ | exact le4 _ | exact le5 _ | exact le6 _) _ | refine Ext.trans ?_ (by assumption)))) hgC (own_ge' hoA); obtain ⟨AC, cC, rfl, _⟩ := hoC.shape))
              all_goals
                go_wp2
                have hlC : (st.reverse ++ [(xa, xb)]).length = N + 1 := by rw [List.length_append, hlN]; rfl
                have hOC : OwnP w.heap.size wC (.slice AC (N + 1) cC) ((xa, xb) :: st).reverse := by
                  rw [List.reverse_cons, ← hlC]
                  exact hoC.down zq
                refine ⟨⟨k + 1, N + 1, AC, cC, (xa, xb) :: st, by omega, by go_num, rfl, by rw [List.length_cons, HS.out.1], ?_, hOC, HEQ.out.trans EC⟩, by simp [intOf]; omega⟩
                rw [HX.out.1]
                show (xa, xb) :: popP _ _ = _
                rw [HX.out.2.1, ← HS.out.2.1, HS.out.2.2]

      · go_wp2
        go_ret
        have hk2 : k = l.length := by omega
        subst hk2
        rw [List.take_of_length_le (Nat.le_refl _)] at hst
        refine ⟨_, rfl, ?_, hE⟩
        unfold sideP
        rw [hst]
        exact ho
end Go.Proofs.YtcbjecpfijogcaaGreat
