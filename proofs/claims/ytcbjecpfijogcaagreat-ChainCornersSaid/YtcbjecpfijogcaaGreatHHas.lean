
/- Contracts: Has and Inside, the definition. -/
import Derived.Test.YtcbjecpfijogcaaGreatHSame
import Derived.Test.YtcbjecpfijogcaaGreatHSorted
namespace Go.Proofs.YtcbjecpfijogcaaGreat
open Go.RowKit Go.Shelf

set_option maxRecDepth 100000 in
set_option maxHeartbeats 3200000 in
theorem Has_c (v : Value) (h : List HPt) (x y : Int) (w : World) (hp : Pts w v h) (hw : ∀ q ∈ h, wideB q) (hk : wideB (x, y)) (hn : h.length ≤ 1000) :
    Calls Tryz.prog 19 #[v, .agg #[.int .i64 x, .int .i64 y]] w fun e w' => e = .returned (.bool (decide (cornersP (h ++ [(x, y)]) = h))) ∧ Ext w w' := by
  have CC := Lib.hid (fun W v' (hv : Pts W v' (h ++ [(x, y)])) => Corners_c v' _ W hv (fun q hq => by
    rcases List.mem_append.1 hq with hq | hq
    · exact hw q hq
    · have : q = (x, y) := by simpa using hq
      rw [this]; exact hk) (by simp; omega))
  have CS := Lib.hid (fun W (hh : Ext w W) v' (hv : Pts W v' (cornersP (h ++ [(x, y)]))) => Same01_c v' v _ h W hv (hp.ext hh))
  obtain ⟨A, c, rfl, _⟩ := hp.shapeH
  generalize cornersP (h ++ [(x, y)]) = K at *
  have HP0 := Lib.hid hp
  clear hp hw hk
  go_enter Tryz.func19, Tryz.ntmps19
  go_upto_region 1 with fail
  have EW1 : Ext w (w.alloc (.cells #[.int .i64 x, .int .i64 y] 26)) := (Ext.refl w).alloc _
  have y0 : (w.alloc (.cells #[.int .i64 x, .int .i64 y] 26)).cell? ⟨w.heap.size, 0, none⟩ = some (.int .i64 x) := World.cell?_alloc_new _ _ _ _
  have y1 : (w.alloc (.cells #[.int .i64 x, .int .i64 y] 26)).cell? ⟨w.heap.size, 1, none⟩ = some (.int .i64 y) := World.cell?_alloc_new _ _ _ _
  generalize (w.alloc (.cells #[.int .i64 x, .int .i64 y] 26)) = W1 at *
  have HPF := Lib.hid (fun W' (hh : Ext W1 W') => HP0.out.ext (EW1.trans hh))
  have HEW1 := Lib.hid EW1
  clear EW1
  have ly := World.block_lt_of_cell? _ _ y0
  simp only at ly
  go_region_held3 (fun w' => w'.cell? ⟨w.heap.size, 0, none⟩ = some (.int .i64 x) ∧ w'.cell? ⟨w.heap.size, 1, none⟩ = some (.int .i64 y)) (first | exact ⟨Ext.cell (w := W1) (by (repeat' (first | exact Ext.refl _ | assumption | refine Ext.alloc ?_ _ | refine Ext.drew ?_ | refine Ext.drewN ?_ _ | refine Ext.set ?_ (by first | exact Nat.le_refl _ | exact le1 _ | exact le2 _ | exact le3 _ | exact le4 _ | exact le5 _ | exact le6 _) _ | refine Ext.trans ?_ (by assumption)))) y0, Ext.cell (w := W1) (by (repeat' (first | exact Ext.refl _ | assumption | refine Ext.alloc ?_ _ | refine Ext.drew ?_ | refine Ext.drewN ?_ _ | refine Ext.set ?_ (by first | exact Nat.le_refl _ | exact le1 _ | exact le2 _ | exact le3 _ | exact le4 _ | exact le5 _ | exact le6 _) _ | refine Ext.trans ?_ (by assumption)))) y1⟩ | exact ⟨EA.cell y0, EA.cell y1⟩ | exact ⟨EC.cell y0, EC.cell y1⟩) (first
      | (refine step_append_pts (by rfl) _ _ (by rfl) W1.heap.size (.slice (some ⟨W1.heap.size, 0, none⟩) 0 0) (.slice A h.length c) [] h (by rfl) (OwnP.empty (by first | exact World.alloc_heap_new _ _ | exact heap2_first _ _ _ | exact heap2_second _ _ _) (Nat.le_refl _)) (by rfl) (HPF.out _ (by (repeat' (first | exact Ext.refl _ | assumption | refine Ext.alloc ?_ _ | refine Ext.drew ?_ | refine Ext.drewN ?_ _ | refine Ext.set ?_ (by first | exact Nat.le_refl _ | exact le1 _ | exact le2 _ | exact le3 _ | exact le4 _ | exact le5 _ | exact le6 _) _ | refine Ext.trans ?_ (by assumption))))) (by simp; omega) (by simp; try omega) ?_; intro vA wA' hoA hgA; have EA : Ext W1 wA' := Ext.trans' (w := W1) (by (repeat' (first | exact Ext.refl _ | assumption | refine Ext.alloc ?_ _ | refine Ext.drew ?_ | refine Ext.drewN ?_ _ | refine Ext.set ?_ (by first | exact Nat.le_refl _ | exact le1 _ | exact le2 _ | exact le3 _ | exact le4 _ | exact le5 _ | exact le6 _) _ | refine Ext.trans ?_ (by assumption)))) hgA (fun k e => Nat.le_of_eq (Option.some.inj e)); simp only [List.nil_append] at hoA; have q0 := EA.cell y0; have q1 := EA.cell y1; have lA := World.block_lt_of_cell? _ _ q0; simp only at lA)
      | (refine step_append_pts (by rfl) _ _ (by rfl) W1.heap.size (.slice (some ⟨W1.heap.size + 1, 0, none⟩) 0 0) (.slice A h.length c) [] h (by rfl) (OwnP.empty (by first | exact World.alloc_heap_new _ _ | exact heap2_first _ _ _ | exact heap2_second _ _ _) (Nat.le_succ _)) (by rfl) (HPF.out _ (by (repeat' (first | exact Ext.refl _ | assumption | refine Ext.alloc ?_ _ | refine Ext.drew ?_ | refine Ext.drewN ?_ _ | refine Ext.set ?_ (by first | exact Nat.le_refl _ | exact le1 _ | exact le2 _ | exact le3 _ | exact le4 _ | exact le5 _ | exact le6 _) _ | refine Ext.trans ?_ (by assumption))))) (by simp; omega) (by simp; try omega) ?_; intro vA wA' hoA hgA; have EA : Ext W1 wA' := Ext.trans' (w := W1) (by (repeat' (first | exact Ext.refl _ | assumption | refine Ext.alloc ?_ _ | refine Ext.drew ?_ | refine Ext.drewN ?_ _ | refine Ext.set ?_ (by first | exact Nat.le_refl _ | exact le1 _ | exact le2 _ | exact le3 _ | exact le4 _ | exact le5 _ | exact le6 _) _ | refine Ext.trans ?_ (by assumption)))) hgA (fun k e => Nat.le_trans (Nat.le_succ _) (Nat.le_of_eq (Option.some.inj e))); simp only [List.nil_append] at hoA; have q0 := EA.cell y0; have q1 := EA.cell y1; have lA := World.block_lt_of_cell? _ _ q0; simp only at lA)
      | (refine step_append_pts (by rfl) _ _ (by rfl) W1.heap.size vA (.slice (some ⟨wA'.heap.size, 0, none⟩) 1 1) h [(x, y)] (by rfl) (by first | exact hoA.ext ((Ext.refl _).alloc _) | exact hoA.ext (((Ext.refl _).alloc _).drew) | exact hoA.ext ((((Ext.refl _).drew).alloc _))) (by rfl) (Pts.one (World.alloc_heap_new wA' _)) (by simp; omega) (by have := EA.sz; simp; try omega) ?_; intro vC wC hoC hgC; have EC : Ext W1 wC := Ext.trans' (w := W1) (by (repeat' (first | exact Ext.refl _ | assumption | refine Ext.alloc ?_ _ | refine Ext.drew ?_ | refine Ext.drewN ?_ _ | refine Ext.set ?_ (by first | exact Nat.le_refl _ | exact le1 _ | exact le2 _ | exact le3 _ | exact le4 _ | exact le5 _ | exact le6 _) _ | refine Ext.trans ?_ (by assumption)))) hgC (own_ge' hoA); have hpC := hoC.pts; obtain ⟨AC, cC, rfl, _⟩ := hoC.shape; simp only [List.length_append, List.length_cons, List.length_nil, Nat.zero_add] at hpC; replace hpC := Lib.hid hpC)
      | (refine step_append_pts (by rfl) _ _ (by rfl) W1.heap.size vA (.slice (some ⟨W1.heap.size + 1, 0, none⟩) 1 1) h [(x, y)] (by rfl) hoA (by rfl) (Pts.one (kept_blk' hgA rfl (heap2_second _ _ _) (Nat.succ_ne_self _))) (by simp; omega) (by have := EA.sz; simp; try omega) ?_; intro vC wC hoC hgC; have EC : Ext W1 wC := Ext.trans' (w := W1) (by (repeat' (first | exact Ext.refl _ | assumption | refine Ext.alloc ?_ _ | refine Ext.drew ?_ | refine Ext.drewN ?_ _ | refine Ext.set ?_ (by first | exact Nat.le_refl _ | exact le1 _ | exact le2 _ | exact le3 _ | exact le4 _ | exact le5 _ | exact le6 _) _ | refine Ext.trans ?_ (by assumption)))) hgC (own_ge' hoA); have hpC := hoC.pts; obtain ⟨AC, cC, rfl, _⟩ := hoC.shape; simp only [List.length_append, List.length_cons, List.length_nil, Nat.zero_add] at hpC; replace hpC := Lib.hid hpC)
      | (refine step_append_pts (by rfl) _ _ (by rfl) W1.heap.size vA (.slice (some ⟨W1.heap.size, 0, none⟩) 1 1) h [(x, y)] (by rfl) hoA (by rfl) (Pts.one (kept_blk' hgA rfl (heap2_first _ _ _) (Nat.succ_ne_self _).symm)) (by simp; omega) (by have := EA.sz; simp; try omega) ?_; intro vC wC hoC hgC; have EC : Ext W1 wC := Ext.trans' (w := W1) (by (repeat' (first | exact Ext.refl _ | assumption | refine Ext.alloc ?_ _ | refine Ext.drew ?_ | refine Ext.drewN ?_ _ | refine Ext.set ?_ (by first | exact Nat.le_refl _ | exact le1 _ | exact le2 _ | exact le3 _ | exact le4 _ | exact le5 _ | exact le6 _) _ | refine Ext.trans ?_ (by assumption)))) hgC (own_ge' hoA); have hpC := hoC.pts; obtain ⟨AC, cC, rfl, _⟩ := hoC.shape; simp only [List.length_append, List.length_cons, List.length_nil, Nat.zero_add] at hpC; replace hpC := Lib.hid hpC)
      | (go_at_call 34; refine (CC.out wC _ hpC.out).mono ?_; rintro e w5 ⟨v5, rfl, ho5, hb5⟩; have hp5 := ho5.pts; obtain ⟨A5, c5, rfl, _⟩ := hp5.shapeH; replace hp5 := Lib.hid hp5; clear ho5; have E15 : Ext W1 w5 := EC.trans hb5; have HE5 := Lib.hid (HEW1.out.trans E15))
      | (go_at_call 9; refine (CS.out w5 HE5.out _ hp5.out).mono ?_; rintro e w6 ⟨rfl, hb6⟩))
  all_goals
    go_wp2
    go_ret
    exact ⟨rfl, HEW1.out.trans (by (repeat' (first | exact Ext.refl _ | assumption | refine Ext.alloc ?_ _ | refine Ext.drew ?_ | refine Ext.drewN ?_ _ | refine Ext.set ?_ (by first | exact Nat.le_refl _ | exact le1 _ | exact le2 _ | exact le3 _ | exact le4 _ | exact le5 _ | exact le6 _) _ | refine Ext.trans ?_ (by assumption))))⟩
end Go.Proofs.YtcbjecpfijogcaaGreat
