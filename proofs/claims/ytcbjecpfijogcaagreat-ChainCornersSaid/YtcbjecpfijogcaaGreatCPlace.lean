
/- Contracts: Place, by the program. -/
import Derived.Test.YtcbjecpfijogcaaGreatCPose
namespace Go.Proofs.YtcbjecpfijogcaaGreat
open Go.RowKit Go.Shelf

section
variable {vu vp : Value} {v : CVeh} {lead : Pt} {ps : List Pt}
/-- the error at the number of a unit -/
def oneE (v : CVeh) (lead : Pt) (ps : List Pt) (i : Int) : Int := if poseE v lead ps = 0 then (if 0 ≤ i ∧ i < v.units.length then 0 else 3) else poseE v lead ps
theorem oneE_pose {i : Int} (h : ¬ poseE v lead ps = 0) : oneE v lead ps i = poseE v lead ps := by unfold oneE; rw [if_neg h]
theorem oneE_no {i : Int} (h : poseE v lead ps = 0) (h2 : ¬ (0 ≤ i ∧ i < v.units.length)) : oneE v lead ps i = 3 := by unfold oneE; rw [if_pos h, if_neg h2]
theorem oneE_ok {i : Int} (h : poseE v lead ps = 0) (h2 : 0 ≤ i ∧ i < v.units.length) : oneE v lead ps i = 0 := by unfold oneE; rw [if_pos h, if_pos h2]
theorem new_at {W : World} {o : Obj} {n : Nat} (h : W.heap.size = n) : (W.alloc o).heap[n]? = some o := by subst h; exact World.alloc_heap_new W o
theorem blk_set {W : World} {b : Nat} {t : TypeId} {cs : Array Value} (i : Nat) (u : Value) (h : W.heap[b]? = some (.cells cs t (0, 0))) : (W.setCell ⟨b, i, none⟩ u).heap[b]? = some (.cells (cs.setIfInBounds i u) t (0, 0)) := by
  obtain ⟨hlt, hk⟩ := Array.getElem?_eq_some_iff.1 h
  show (W.heap.modify b _)[b]? = _
  rw [Array.getElem?_eq_getElem (by rw [Array.size_modify]; exact hlt), Array.getElem_modify_self, hk]
  rfl
def put0 : Value := .agg #[.int .i64 0, .int .i64 0, .int .i64 0, .int .i64 0, .int .i64 0, .int .i64 0, .int .i64 0, .int .i64 0, .int .i64 0, .int .i64 0, .slice none 0 0, .int .i64 0, .int .i64 0, .int .i64 0, .int .i64 0]

set_option maxRecDepth 100000 in
set_option maxHeartbeats 1600000 in
theorem one_bad (i : Int) (w : World) (hs : Sl 11 RUnit w vu v.units) (hp : Pts w vp ps) (h : ¬ oneE v lead ps i = 0) :
    Calls Tryz.prog 27 #[vehV v vu, poseV lead vp, .int .i64 i] w fun e w' => e = .returned (.tuple #[put0, .int .i64 (oneE v lead ps i)]) ∧ Ext w w' := by
  have CB := fun w' (h : Ext w w') => look_bad (lead := lead) w' (hs.ext RUnit.stable h) (hp.ext h)
  have CO := fun w' (h : Ext w w') => look_ok (lead := lead) w' (hs.ext RUnit.stable h) (hp.ext h)
  obtain ⟨A, cap, rfl, hl, hl2⟩ := hs.shape
  obtain ⟨Ap, capp, rfl⟩ := pts_shape hp
  obtain ⟨l1, l2⟩ := lead
  clear hs hp
  unfold vehV poseV at *
  simp only at CB CO ⊢
  unfold put0
  by_cases h1 : poseE v (l1, l2) ps = 0
  · rw [oneE_no h1 (fun h2 => h (oneE_ok h1 h2))]
    have hi : i < 0 ∨ (0 ≤ i ∧ (v.units.length : Int) ≤ i) := by
      by_cases h2 : 0 ≤ i ∧ i < v.units.length
      · exact absurd (oneE_ok h1 h2) h
      · omega
    have C := Lib.hid (fun w' hw => CO w' hw h1)
    clear CB CO h h1
    rcases hi with hi | ⟨hi, hi2⟩
    all_goals
      go_enter Tryz.func27, Tryz.ntmps27
      go_wp2_with (go_at_call 35; refine (C.out _ (by (repeat' (first | exact Ext.refl _ | assumption | refine Ext.alloc ?_ _ | refine Ext.drew ?_ | refine Ext.drewN ?_ _ | refine Ext.set ?_ (by first | exact Nat.le_refl _ | exact le1 _ | exact le2 _ | exact le3 _ | exact le4 _ | exact le5 _ | exact le6 _) _ | refine Ext.trans ?_ (by assumption))))).mono ?_; rintro e w1 ⟨vl, xs, rfl, ho, hm, hxl, hb1⟩; obtain ⟨hc, hf⟩ := bcell hb1; obtain ⟨A3, c3, rfl⟩ := own_len ho; rw [hxl])
      have hB : w1.heap[w.heap.size + 1 + 1]? = some (.cells #[.int .i64 0, .int .i64 0, .int .i64 0, .int .i64 0, .int .i64 0, .int .i64 0, .int .i64 0, .int .i64 0, .int .i64 0, .int .i64 0, .slice none 0 0, .int .i64 0, .int .i64 0, .int .i64 0, .int .i64 0] 64 (0, 0)) := (hb1.block _ (by simp)).trans (new_at (by simp))
      have EB : Ext w w1 := by (repeat' (first | exact Ext.refl _ | assumption | refine Ext.alloc ?_ _ | refine Ext.drew ?_ | refine Ext.drewN ?_ _ | refine Ext.set ?_ (by first | exact Nat.le_refl _ | exact le1 _ | exact le2 _ | exact le3 _ | exact le4 _ | exact le5 _ | exact le6 _) _ | refine Ext.trans ?_ (by assumption)))
      have hF := (blk_set 14 (.int .i64 0) (blk_set 13 (.int .i64 0) (blk_set 12 (.int .i64 0) (blk_set 11 (.int .i64 0) (blk_set 10 (.slice none 0 0) (blk_set 9 (.int .i64 0) (blk_set 8 (.int .i64 0) (blk_set 7 (.int .i64 0) (blk_set 6 (.int .i64 0) (blk_set 5 (.int .i64 0) (blk_set 4 (.int .i64 0) (blk_set 3 (.int .i64 0) (blk_set 2 (.int .i64 0) (blk_set 1 (.int .i64 0) (blk_set 0 (.int .i64 0) hB)))))))))))))))
      simp only [List.setIfInBounds_toArray, List.set_cons_zero, List.set_cons_succ] at hF
      have EF := (((((((((((((((EB.set (p := ⟨w.heap.size + 1 + 1, 0, none⟩) (le2 _) (.int .i64 0)).set (p := ⟨w.heap.size + 1 + 1, 1, none⟩) (le2 _) (.int .i64 0)).set (p := ⟨w.heap.size + 1 + 1, 2, none⟩) (le2 _) (.int .i64 0)).set (p := ⟨w.heap.size + 1 + 1, 3, none⟩) (le2 _) (.int .i64 0)).set (p := ⟨w.heap.size + 1 + 1, 4, none⟩) (le2 _) (.int .i64 0)).set (p := ⟨w.heap.size + 1 + 1, 5, none⟩) (le2 _) (.int .i64 0)).set (p := ⟨w.heap.size + 1 + 1, 6, none⟩) (le2 _) (.int .i64 0)).set (p := ⟨w.heap.size + 1 + 1, 7, none⟩) (le2 _) (.int .i64 0)).set (p := ⟨w.heap.size + 1 + 1, 8, none⟩) (le2 _) (.int .i64 0)).set (p := ⟨w.heap.size + 1 + 1, 9, none⟩) (le2 _) (.int .i64 0)).set (p := ⟨w.heap.size + 1 + 1, 10, none⟩) (le2 _) (.slice none 0 0)).set (p := ⟨w.heap.size + 1 + 1, 11, none⟩) (le2 _) (.int .i64 0)).set (p := ⟨w.heap.size + 1 + 1, 12, none⟩) (le2 _) (.int .i64 0)).set (p := ⟨w.heap.size + 1 + 1, 13, none⟩) (le2 _) (.int .i64 0)).set (p := ⟨w.heap.size + 1 + 1, 14, none⟩) (le2 _) (.int .i64 0))
      generalize (((((((((((((((w1.setCell ⟨w.heap.size + 1 + 1, 0, none⟩ (.int .i64 0)).setCell ⟨w.heap.size + 1 + 1, 1, none⟩ (.int .i64 0)).setCell ⟨w.heap.size + 1 + 1, 2, none⟩ (.int .i64 0)).setCell ⟨w.heap.size + 1 + 1, 3, none⟩ (.int .i64 0)).setCell ⟨w.heap.size + 1 + 1, 4, none⟩ (.int .i64 0)).setCell ⟨w.heap.size + 1 + 1, 5, none⟩ (.int .i64 0)).setCell ⟨w.heap.size + 1 + 1, 6, none⟩ (.int .i64 0)).setCell ⟨w.heap.size + 1 + 1, 7, none⟩ (.int .i64 0)).setCell ⟨w.heap.size + 1 + 1, 8, none⟩ (.int .i64 0)).setCell ⟨w.heap.size + 1 + 1, 9, none⟩ (.int .i64 0)).setCell ⟨w.heap.size + 1 + 1, 10, none⟩ (.slice none 0 0)).setCell ⟨w.heap.size + 1 + 1, 11, none⟩ (.int .i64 0)).setCell ⟨w.heap.size + 1 + 1, 12, none⟩ (.int .i64 0)).setCell ⟨w.heap.size + 1 + 1, 13, none⟩ (.int .i64 0)).setCell ⟨w.heap.size + 1 + 1, 14, none⟩ (.int .i64 0)) = WF at *
      have r0 : WF.cell? ⟨w.heap.size + 1 + 1, 0, none⟩ = some (.int .i64 0) := World.news_of_block hF 0 _ rfl
      have r1 : WF.cell? ⟨w.heap.size + 1 + 1, 1, none⟩ = some (.int .i64 0) := World.news_of_block hF 1 _ rfl
      have r2 : WF.cell? ⟨w.heap.size + 1 + 1, 2, none⟩ = some (.int .i64 0) := World.news_of_block hF 2 _ rfl
      have r3 : WF.cell? ⟨w.heap.size + 1 + 1, 3, none⟩ = some (.int .i64 0) := World.news_of_block hF 3 _ rfl
      have r4 : WF.cell? ⟨w.heap.size + 1 + 1, 4, none⟩ = some (.int .i64 0) := World.news_of_block hF 4 _ rfl
      have r5 : WF.cell? ⟨w.heap.size + 1 + 1, 5, none⟩ = some (.int .i64 0) := World.news_of_block hF 5 _ rfl
      have r6 : WF.cell? ⟨w.heap.size + 1 + 1, 6, none⟩ = some (.int .i64 0) := World.news_of_block hF 6 _ rfl
      have r7 : WF.cell? ⟨w.heap.size + 1 + 1, 7, none⟩ = some (.int .i64 0) := World.news_of_block hF 7 _ rfl
      have r8 : WF.cell? ⟨w.heap.size + 1 + 1, 8, none⟩ = some (.int .i64 0) := World.news_of_block hF 8 _ rfl
      have r9 : WF.cell? ⟨w.heap.size + 1 + 1, 9, none⟩ = some (.int .i64 0) := World.news_of_block hF 9 _ rfl
      have r10 : WF.cell? ⟨w.heap.size + 1 + 1, 10, none⟩ = some (.slice none 0 0) := World.news_of_block hF 10 _ rfl
      have r11 : WF.cell? ⟨w.heap.size + 1 + 1, 11, none⟩ = some (.int .i64 0) := World.news_of_block hF 11 _ rfl
      have r12 : WF.cell? ⟨w.heap.size + 1 + 1, 12, none⟩ = some (.int .i64 0) := World.news_of_block hF 12 _ rfl
      have r13 : WF.cell? ⟨w.heap.size + 1 + 1, 13, none⟩ = some (.int .i64 0) := World.news_of_block hF 13 _ rfl
      have r14 : WF.cell? ⟨w.heap.size + 1 + 1, 14, none⟩ = some (.int .i64 0) := World.news_of_block hF 14 _ rfl
      clear hF hB
      exact bodyPost_ret (v := .tuple #[.agg #[.int .i64 0, .int .i64 0, .int .i64 0, .int .i64 0, .int .i64 0, .int .i64 0, .int .i64 0, .int .i64 0, .int .i64 0, .int .i64 0, .slice none 0 0, .int .i64 0, .int .i64 0, .int .i64 0, .int .i64 0], .int .i64 3]) (by simp [results, Tryz.results27, go_sem, r0, r1, r2, r3, r4, r5, r6, r7, r8, r9, r10, r11, r12, r13, r14]) rfl ⟨rfl, EF⟩
  · rw [oneE_pose h1]
    have C := fun w' hw => CB w' hw h1
    have HN := h1
    generalize poseE v (l1, l2) ps = E at *
    replace C := Lib.hid C
    clear CB CO h h1
    go_enter Tryz.func27, Tryz.ntmps27
    go_wp2_with (go_at_call 35; refine (C.out _ (by (repeat' (first | exact Ext.refl _ | assumption | refine Ext.alloc ?_ _ | refine Ext.drew ?_ | refine Ext.drewN ?_ _ | refine Ext.set ?_ (by first | exact Nat.le_refl _ | exact le1 _ | exact le2 _ | exact le3 _ | exact le4 _ | exact le5 _ | exact le6 _) _ | refine Ext.trans ?_ (by assumption))))).mono ?_; rintro e w1 ⟨rfl, hb1⟩; obtain ⟨hc, hf⟩ := bcell hb1)
    have hB : w1.heap[w.heap.size + 1 + 1]? = some (.cells #[.int .i64 0, .int .i64 0, .int .i64 0, .int .i64 0, .int .i64 0, .int .i64 0, .int .i64 0, .int .i64 0, .int .i64 0, .int .i64 0, .slice none 0 0, .int .i64 0, .int .i64 0, .int .i64 0, .int .i64 0] 64 (0, 0)) := (hb1.block _ (by simp)).trans (new_at (by simp))
    have EB : Ext w w1 := by (repeat' (first | exact Ext.refl _ | assumption | refine Ext.alloc ?_ _ | refine Ext.drew ?_ | refine Ext.drewN ?_ _ | refine Ext.set ?_ (by first | exact Nat.le_refl _ | exact le1 _ | exact le2 _ | exact le3 _ | exact le4 _ | exact le5 _ | exact le6 _) _ | refine Ext.trans ?_ (by assumption)))
    have hF := (blk_set 14 (.int .i64 0) (blk_set 13 (.int .i64 0) (blk_set 12 (.int .i64 0) (blk_set 11 (.int .i64 0) (blk_set 10 (.slice none 0 0) (blk_set 9 (.int .i64 0) (blk_set 8 (.int .i64 0) (blk_set 7 (.int .i64 0) (blk_set 6 (.int .i64 0) (blk_set 5 (.int .i64 0) (blk_set 4 (.int .i64 0) (blk_set 3 (.int .i64 0) (blk_set 2 (.int .i64 0) (blk_set 1 (.int .i64 0) (blk_set 0 (.int .i64 0) hB)))))))))))))))
    simp only [List.setIfInBounds_toArray, List.set_cons_zero, List.set_cons_succ] at hF
    have EF := (((((((((((((((EB.set (p := ⟨w.heap.size + 1 + 1, 0, none⟩) (le2 _) (.int .i64 0)).set (p := ⟨w.heap.size + 1 + 1, 1, none⟩) (le2 _) (.int .i64 0)).set (p := ⟨w.heap.size + 1 + 1, 2, none⟩) (le2 _) (.int .i64 0)).set (p := ⟨w.heap.size + 1 + 1, 3, none⟩) (le2 _) (.int .i64 0)).set (p := ⟨w.heap.size + 1 + 1, 4, none⟩) (le2 _) (.int .i64 0)).set (p := ⟨w.heap.size + 1 + 1, 5, none⟩) (le2 _) (.int .i64 0)).set (p := ⟨w.heap.size + 1 + 1, 6, none⟩) (le2 _) (.int .i64 0)).set (p := ⟨w.heap.size + 1 + 1, 7, none⟩) (le2 _) (.int .i64 0)).set (p := ⟨w.heap.size + 1 + 1, 8, none⟩) (le2 _) (.int .i64 0)).set (p := ⟨w.heap.size + 1 + 1, 9, none⟩) (le2 _) (.int .i64 0)).set (p := ⟨w.heap.size + 1 + 1, 10, none⟩) (le2 _) (.slice none 0 0)).set (p := ⟨w.heap.size + 1 + 1, 11, none⟩) (le2 _) (.int .i64 0)).set (p := ⟨w.heap.size + 1 + 1, 12, none⟩) (le2 _) (.int .i64 0)).set (p := ⟨w.heap.size + 1 + 1, 13, none⟩) (le2 _) (.int .i64 0)).set (p := ⟨w.heap.size + 1 + 1, 14, none⟩) (le2 _) (.int .i64 0))
    generalize (((((((((((((((w1.setCell ⟨w.heap.size + 1 + 1, 0, none⟩ (.int .i64 0)).setCell ⟨w.heap.size + 1 + 1, 1, none⟩ (.int .i64 0)).setCell ⟨w.heap.size + 1 + 1, 2, none⟩ (.int .i64 0)).setCell ⟨w.heap.size + 1 + 1, 3, none⟩ (.int .i64 0)).setCell ⟨w.heap.size + 1 + 1, 4, none⟩ (.int .i64 0)).setCell ⟨w.heap.size + 1 + 1, 5, none⟩ (.int .i64 0)).setCell ⟨w.heap.size + 1 + 1, 6, none⟩ (.int .i64 0)).setCell ⟨w.heap.size + 1 + 1, 7, none⟩ (.int .i64 0)).setCell ⟨w.heap.size + 1 + 1, 8, none⟩ (.int .i64 0)).setCell ⟨w.heap.size + 1 + 1, 9, none⟩ (.int .i64 0)).setCell ⟨w.heap.size + 1 + 1, 10, none⟩ (.slice none 0 0)).setCell ⟨w.heap.size + 1 + 1, 11, none⟩ (.int .i64 0)).setCell ⟨w.heap.size + 1 + 1, 12, none⟩ (.int .i64 0)).setCell ⟨w.heap.size + 1 + 1, 13, none⟩ (.int .i64 0)).setCell ⟨w.heap.size + 1 + 1, 14, none⟩ (.int .i64 0)) = WF at *
    have r0 : WF.cell? ⟨w.heap.size + 1 + 1, 0, none⟩ = some (.int .i64 0) := World.news_of_block hF 0 _ rfl
    have r1 : WF.cell? ⟨w.heap.size + 1 + 1, 1, none⟩ = some (.int .i64 0) := World.news_of_block hF 1 _ rfl
    have r2 : WF.cell? ⟨w.heap.size + 1 + 1, 2, none⟩ = some (.int .i64 0) := World.news_of_block hF 2 _ rfl
    have r3 : WF.cell? ⟨w.heap.size + 1 + 1, 3, none⟩ = some (.int .i64 0) := World.news_of_block hF 3 _ rfl
    have r4 : WF.cell? ⟨w.heap.size + 1 + 1, 4, none⟩ = some (.int .i64 0) := World.news_of_block hF 4 _ rfl
    have r5 : WF.cell? ⟨w.heap.size + 1 + 1, 5, none⟩ = some (.int .i64 0) := World.news_of_block hF 5 _ rfl
    have r6 : WF.cell? ⟨w.heap.size + 1 + 1, 6, none⟩ = some (.int .i64 0) := World.news_of_block hF 6 _ rfl
    have r7 : WF.cell? ⟨w.heap.size + 1 + 1, 7, none⟩ = some (.int .i64 0) := World.news_of_block hF 7 _ rfl
    have r8 : WF.cell? ⟨w.heap.size + 1 + 1, 8, none⟩ = some (.int .i64 0) := World.news_of_block hF 8 _ rfl
    have r9 : WF.cell? ⟨w.heap.size + 1 + 1, 9, none⟩ = some (.int .i64 0) := World.news_of_block hF 9 _ rfl
    have r10 : WF.cell? ⟨w.heap.size + 1 + 1, 10, none⟩ = some (.slice none 0 0) := World.news_of_block hF 10 _ rfl
    have r11 : WF.cell? ⟨w.heap.size + 1 + 1, 11, none⟩ = some (.int .i64 0) := World.news_of_block hF 11 _ rfl
    have r12 : WF.cell? ⟨w.heap.size + 1 + 1, 12, none⟩ = some (.int .i64 0) := World.news_of_block hF 12 _ rfl
    have r13 : WF.cell? ⟨w.heap.size + 1 + 1, 13, none⟩ = some (.int .i64 0) := World.news_of_block hF 13 _ rfl
    have r14 : WF.cell? ⟨w.heap.size + 1 + 1, 14, none⟩ = some (.int .i64 0) := World.news_of_block hF 14 _ rfl
    clear hF hB
    exact bodyPost_ret (v := .tuple #[.agg #[.int .i64 0, .int .i64 0, .int .i64 0, .int .i64 0, .int .i64 0, .int .i64 0, .int .i64 0, .int .i64 0, .int .i64 0, .int .i64 0, .slice none 0 0, .int .i64 0, .int .i64 0, .int .i64 0, .int .i64 0], .int .i64 E]) (by simp [results, Tryz.results27, go_sem, r0, r1, r2, r3, r4, r5, r6, r7, r8, r9, r10, r11, r12, r13, r14]) rfl ⟨rfl, EF⟩

set_option maxRecDepth 100000 in
set_option maxHeartbeats 3200000 in
theorem one_ok (k : Nat) (w : World) (hs : Sl 11 RUnit w vu v.units) (hp : Pts w vp ps) (h1 : poseE v lead ps = 0) (hk : k < v.units.length) :
    Calls Tryz.prog 27 #[vehV v vu, poseV lead vp, .int .i64 k] w fun e w' => ∃ x : PPut, e = .returned (.tuple #[putV x, .int .i64 0]) ∧ (putsN lead v.units ps)[k]? = some ⟨x.unit, x.joint, x.axle⟩ ∧ Ext w w' := by
  have CB := fun w' (h : Ext w w') => look_bad (lead := lead) w' (hs.ext RUnit.stable h) (hp.ext h)
  have CO := fun w' (h : Ext w w') => look_ok (lead := lead) w' (hs.ext RUnit.stable h) (hp.ext h)
  obtain ⟨A, cap, rfl, hl, hl2⟩ := hs.shape
  obtain ⟨Ap, capp, rfl⟩ := pts_shape hp
  obtain ⟨l1, l2⟩ := lead
  clear hs hp
  unfold vehV poseV at *
  simp only at CB CO ⊢
  have C := Lib.hid (fun w' hw => CO w' hw h1)
  have i1 : (0 : Int) ≤ (k : Int) := by omega
  have i2 : (k : Int) < (v.units.length : Int) := by omega
  clear CB CO h1
  go_enter Tryz.func27, Tryz.ntmps27
  go_wp2_with (go_at_call 35; refine (C.out _ (by (repeat' (first | exact Ext.refl _ | assumption | refine Ext.alloc ?_ _ | refine Ext.drew ?_ | refine Ext.drewN ?_ _ | refine Ext.set ?_ (by first | exact Nat.le_refl _ | exact le1 _ | exact le2 _ | exact le3 _ | exact le4 _ | exact le5 _ | exact le6 _) _ | refine Ext.trans ?_ (by assumption))))).mono ?_; rintro e w1 ⟨vl, xs, rfl, ho, hm, hxl, hb1⟩; obtain ⟨hc, hf⟩ := bcell hb1; obtain ⟨x, hx⟩ := some_of_lt (show k < xs.length by omega); obtain ⟨g, c, rfl, hcs⟩ := own_at ho hx; have k0 := hcs 0 _ rfl; have k1 := hcs 1 _ rfl; have k2 := hcs 2 _ rfl; have k3 := hcs 3 _ rfl; have k4 := hcs 4 _ rfl; have k5 := hcs 5 _ rfl; have k6 := hcs 6 _ rfl; have k7 := hcs 7 _ rfl; have k8 := hcs 8 _ rfl; have k9 := hcs 9 _ rfl; have k10 := hcs 10 _ rfl; have k11 := hcs 11 _ rfl; have k12 := hcs 12 _ rfl; have k13 := hcs 13 _ rfl; have k14 := hcs 14 _ rfl; simp only [Nat.add_zero] at k0; have HM := Lib.hid (show (putsN (l1, l2) v.units ps)[k]? = some ⟨x.unit, x.joint, x.axle⟩ by rw [← hm, List.getElem?_map, hx]; rfl); rw [hxl]; clear hcs hm hx ho)
  have hB : w1.heap[w.heap.size + 1 + 1]? = some (.cells #[.int .i64 0, .int .i64 0, .int .i64 0, .int .i64 0, .int .i64 0, .int .i64 0, .int .i64 0, .int .i64 0, .int .i64 0, .int .i64 0, .slice none 0 0, .int .i64 0, .int .i64 0, .int .i64 0, .int .i64 0] 64 (0, 0)) := (hb1.block _ (by simp)).trans (new_at (by simp))
  have EB : Ext w w1 := by (repeat' (first | exact Ext.refl _ | assumption | refine Ext.alloc ?_ _ | refine Ext.drew ?_ | refine Ext.drewN ?_ _ | refine Ext.set ?_ (by first | exact Nat.le_refl _ | exact le1 _ | exact le2 _ | exact le3 _ | exact le4 _ | exact le5 _ | exact le6 _) _ | refine Ext.trans ?_ (by assumption)))
  have hF := (blk_set 14 (.int .i64 x.axle.2) (blk_set 13 (.int .i64 x.axle.1) (blk_set 12 (.int .i64 x.joint.2) (blk_set 11 (.int .i64 x.joint.1) (blk_set 10 (.slice x.A x.unit.axles.length x.cap) (blk_set 9 (.int .i64 x.unit.most) (blk_set 8 (.int .i64 x.unit.steer) (blk_set 7 (.int .i64 x.unit.mass) (blk_set 6 (.int .i64 x.unit.height) (blk_set 5 (.int .i64 x.unit.width) (blk_set 4 (.int .i64 x.unit.rear) (blk_set 3 (.int .i64 x.unit.front) (blk_set 2 (.int .i64 x.unit.behind) (blk_set 1 (.int .i64 x.unit.length) (blk_set 0 (.int .i64 x.unit.kind) hB)))))))))))))))
  simp only [List.setIfInBounds_toArray, List.set_cons_zero, List.set_cons_succ] at hF
  have EF := (((((((((((((((EB.set (p := ⟨w.heap.size + 1 + 1, 0, none⟩) (le2 _) (.int .i64 x.unit.kind)).set (p := ⟨w.heap.size + 1 + 1, 1, none⟩) (le2 _) (.int .i64 x.unit.length)).set (p := ⟨w.heap.size + 1 + 1, 2, none⟩) (le2 _) (.int .i64 x.unit.behind)).set (p := ⟨w.heap.size + 1 + 1, 3, none⟩) (le2 _) (.int .i64 x.unit.front)).set (p := ⟨w.heap.size + 1 + 1, 4, none⟩) (le2 _) (.int .i64 x.unit.rear)).set (p := ⟨w.heap.size + 1 + 1, 5, none⟩) (le2 _) (.int .i64 x.unit.width)).set (p := ⟨w.heap.size + 1 + 1, 6, none⟩) (le2 _) (.int .i64 x.unit.height)).set (p := ⟨w.heap.size + 1 + 1, 7, none⟩) (le2 _) (.int .i64 x.unit.mass)).set (p := ⟨w.heap.size + 1 + 1, 8, none⟩) (le2 _) (.int .i64 x.unit.steer)).set (p := ⟨w.heap.size + 1 + 1, 9, none⟩) (le2 _) (.int .i64 x.unit.most)).set (p := ⟨w.heap.size + 1 + 1, 10, none⟩) (le2 _) (.slice x.A x.unit.axles.length x.cap)).set (p := ⟨w.heap.size + 1 + 1, 11, none⟩) (le2 _) (.int .i64 x.joint.1)).set (p := ⟨w.heap.size + 1 + 1, 12, none⟩) (le2 _) (.int .i64 x.joint.2)).set (p := ⟨w.heap.size + 1 + 1, 13, none⟩) (le2 _) (.int .i64 x.axle.1)).set (p := ⟨w.heap.size + 1 + 1, 14, none⟩) (le2 _) (.int .i64 x.axle.2))
  generalize (((((((((((((((w1.setCell ⟨w.heap.size + 1 + 1, 0, none⟩ (.int .i64 x.unit.kind)).setCell ⟨w.heap.size + 1 + 1, 1, none⟩ (.int .i64 x.unit.length)).setCell ⟨w.heap.size + 1 + 1, 2, none⟩ (.int .i64 x.unit.behind)).setCell ⟨w.heap.size + 1 + 1, 3, none⟩ (.int .i64 x.unit.front)).setCell ⟨w.heap.size + 1 + 1, 4, none⟩ (.int .i64 x.unit.rear)).setCell ⟨w.heap.size + 1 + 1, 5, none⟩ (.int .i64 x.unit.width)).setCell ⟨w.heap.size + 1 + 1, 6, none⟩ (.int .i64 x.unit.height)).setCell ⟨w.heap.size + 1 + 1, 7, none⟩ (.int .i64 x.unit.mass)).setCell ⟨w.heap.size + 1 + 1, 8, none⟩ (.int .i64 x.unit.steer)).setCell ⟨w.heap.size + 1 + 1, 9, none⟩ (.int .i64 x.unit.most)).setCell ⟨w.heap.size + 1 + 1, 10, none⟩ (.slice x.A x.unit.axles.length x.cap)).setCell ⟨w.heap.size + 1 + 1, 11, none⟩ (.int .i64 x.joint.1)).setCell ⟨w.heap.size + 1 + 1, 12, none⟩ (.int .i64 x.joint.2)).setCell ⟨w.heap.size + 1 + 1, 13, none⟩ (.int .i64 x.axle.1)).setCell ⟨w.heap.size + 1 + 1, 14, none⟩ (.int .i64 x.axle.2)) = WF at *
  have r0 : WF.cell? ⟨w.heap.size + 1 + 1, 0, none⟩ = some (.int .i64 x.unit.kind) := World.news_of_block hF 0 _ rfl
  have r1 : WF.cell? ⟨w.heap.size + 1 + 1, 1, none⟩ = some (.int .i64 x.unit.length) := World.news_of_block hF 1 _ rfl
  have r2 : WF.cell? ⟨w.heap.size + 1 + 1, 2, none⟩ = some (.int .i64 x.unit.behind) := World.news_of_block hF 2 _ rfl
  have r3 : WF.cell? ⟨w.heap.size + 1 + 1, 3, none⟩ = some (.int .i64 x.unit.front) := World.news_of_block hF 3 _ rfl
  have r4 : WF.cell? ⟨w.heap.size + 1 + 1, 4, none⟩ = some (.int .i64 x.unit.rear) := World.news_of_block hF 4 _ rfl
  have r5 : WF.cell? ⟨w.heap.size + 1 + 1, 5, none⟩ = some (.int .i64 x.unit.width) := World.news_of_block hF 5 _ rfl
  have r6 : WF.cell? ⟨w.heap.size + 1 + 1, 6, none⟩ = some (.int .i64 x.unit.height) := World.news_of_block hF 6 _ rfl
  have r7 : WF.cell? ⟨w.heap.size + 1 + 1, 7, none⟩ = some (.int .i64 x.unit.mass) := World.news_of_block hF 7 _ rfl
  have r8 : WF.cell? ⟨w.heap.size + 1 + 1, 8, none⟩ = some (.int .i64 x.unit.steer) := World.news_of_block hF 8 _ rfl
  have r9 : WF.cell? ⟨w.heap.size + 1 + 1, 9, none⟩ = some (.int .i64 x.unit.most) := World.news_of_block hF 9 _ rfl
  have r10 : WF.cell? ⟨w.heap.size + 1 + 1, 10, none⟩ = some (.slice x.A x.unit.axles.length x.cap) := World.news_of_block hF 10 _ rfl
  have r11 : WF.cell? ⟨w.heap.size + 1 + 1, 11, none⟩ = some (.int .i64 x.joint.1) := World.news_of_block hF 11 _ rfl
  have r12 : WF.cell? ⟨w.heap.size + 1 + 1, 12, none⟩ = some (.int .i64 x.joint.2) := World.news_of_block hF 12 _ rfl
  have r13 : WF.cell? ⟨w.heap.size + 1 + 1, 13, none⟩ = some (.int .i64 x.axle.1) := World.news_of_block hF 13 _ rfl
  have r14 : WF.cell? ⟨w.heap.size + 1 + 1, 14, none⟩ = some (.int .i64 x.axle.2) := World.news_of_block hF 14 _ rfl
  clear hF hB
  exact bodyPost_ret (v := .tuple #[.agg #[.int .i64 x.unit.kind, .int .i64 x.unit.length, .int .i64 x.unit.behind, .int .i64 x.unit.front, .int .i64 x.unit.rear, .int .i64 x.unit.width, .int .i64 x.unit.height, .int .i64 x.unit.mass, .int .i64 x.unit.steer, .int .i64 x.unit.most, .slice x.A x.unit.axles.length x.cap, .int .i64 x.joint.1, .int .i64 x.joint.2, .int .i64 x.axle.1, .int .i64 x.axle.2], .int .i64 0]) (by simp [results, Tryz.results27, go_sem, r0, r1, r2, r3, r4, r5, r6, r7, r8, r9, r10, r11, r12, r13, r14]) rfl ⟨x, rfl, HM.out, EF⟩

/-- a place of a unit -/
def placeAtS (v : CVeh) (lead : Pt) (ps : List Pt) (i x y : Int) : Pt × Int :=
  if oneE v lead ps i = 0 then (match (putsN lead v.units ps)[i.toNat]? with | some u => placeS u.axle u.joint x y | none => ((0, 0), 3)) else ((0, 0), oneE v lead ps i)
set_option maxRecDepth 100000 in
set_option maxHeartbeats 1600000 in
theorem CPlace_c (i X Y : Int) (w : World) (hs : Sl 11 RUnit w vu v.units) (hp : Pts w vp ps) :
    Calls Tryz.prog 17 #[vehV v vu, poseV lead vp, .int .i64 i, .int .i64 X, .int .i64 Y] w fun e w' => e = .returned (ptV (placeAtS v lead ps i X Y)) ∧ Ext w w' := by
  have CB := fun w' (h : Ext w w') => one_bad (lead := lead) i w' (hs.ext RUnit.stable h) (hp.ext h)
  have CO := fun k w' (h : Ext w w') => one_ok (lead := lead) k w' (hs.ext RUnit.stable h) (hp.ext h)
  obtain ⟨A, cap, rfl, hl, hl2⟩ := hs.shape
  obtain ⟨Ap, capp, rfl⟩ := pts_shape hp
  obtain ⟨l1, l2⟩ := lead
  clear hs hp
  unfold vehV poseV placeAtS at *
  simp only at CB CO ⊢
  by_cases h : oneE v (l1, l2) ps i = 0
  · rw [if_pos h]
    have h1 : poseE v (l1, l2) ps = 0 := by
      by_cases h1 : poseE v (l1, l2) ps = 0
      · exact h1
      · rw [oneE_pose h1] at h; exact absurd h h1
    have h2 : 0 ≤ i ∧ i < v.units.length := by
      by_cases h2 : 0 ≤ i ∧ i < v.units.length
      · exact h2
      · rw [oneE_no h1 h2] at h; cases h
    obtain ⟨k, rfl⟩ : ∃ k : Nat, i = k := ⟨i.toNat, by omega⟩
    have C := Lib.hid (fun w' hw => CO k w' hw h1 (by omega))
    have hT : ((k : Int)).toNat = k := by omega
    rw [hT]
    obtain ⟨q, hq⟩ : ∃ q, (match (putsN (l1, l2) v.units ps)[k]? with | some u => placeS u.axle u.joint X Y | none => ((0, 0), 3)) = q := ⟨_, rfl⟩
    rw [hq]
    have HQ := Lib.hid hq
    clear CB CO h h1 h2 hT hq
    unfold ptV
    go_enter Tryz.func17, Tryz.ntmps17
    go_wp2_with (first | (go_at_call 27; refine (C.out _ (by (repeat' (first | exact Ext.refl _ | assumption | refine Ext.alloc ?_ _ | refine Ext.drew ?_ | refine Ext.drewN ?_ _ | refine Ext.set ?_ (by first | exact Nat.le_refl _ | exact le1 _ | exact le2 _ | exact le3 _ | exact le4 _ | exact le5 _ | exact le6 _) _ | refine Ext.trans ?_ (by assumption))))).mono ?_; rintro e w1 ⟨x, rfl, hx, hb1⟩; have y0 := Ext.cell hb1 (p := ⟨w.heap.size + 1 + 1, 0, none⟩) (v := .int .i64 0) (by go_simp); have y1 := Ext.cell hb1 (p := ⟨w.heap.size + 1 + 1, 1, none⟩) (v := .int .i64 0) (by go_simp); have f0 := Ext.frz hb1 (p := ⟨w.heap.size + 1 + 1, 0, none⟩) (by simp) (by go_simp); have f1 := Ext.frz hb1 (p := ⟨w.heap.size + 1 + 1, 1, none⟩) (by simp) (by go_simp); have ly := lt_of_cell y0; have CA := at_c x X Y; rw [show placeS x.axle x.joint X Y = q by rw [← HQ.out, hx]] at CA; replace CA := Lib.hid CA; unfold putV at *; clear hx) | (go_at_call 29; refine (CA.out _).mono ?_; rintro e w2 ⟨rfl, hb2⟩; unfold ptV; have Hb2 := ((Ext.refl w1).alloc _).trans hb2; have z0 := Ext.cell Hb2 y0; have z1 := Ext.cell Hb2 y1; have g0 := Ext.frz Hb2 (lt_of_cell y0) f0; have g1 := Ext.frz Hb2 (lt_of_cell y0) f1))
    exact bodyPost_ret (v := .tuple #[.agg #[.int .i64 q.1.1, .int .i64 q.1.2], .int .i64 q.2]) (by simp [results, Tryz.results17, go_sem, z0, z1]) rfl ⟨rfl, by (repeat' (first | exact Ext.refl _ | assumption | refine Ext.alloc ?_ _ | refine Ext.drew ?_ | refine Ext.drewN ?_ _ | refine Ext.set ?_ (by first | exact Nat.le_refl _ | exact le1 _ | exact le2 _ | exact le3 _ | exact le4 _ | exact le5 _ | exact le6 _) _ | refine Ext.trans ?_ (by assumption)))⟩
  · rw [if_neg h]
    have C := fun w' hw => CB w' hw h
    have HN := h
    unfold ptV put0 at *
    generalize oneE v (l1, l2) ps i = E at *
    replace C := Lib.hid C
    clear CB CO h
    go_enter Tryz.func17, Tryz.ntmps17
    go_wp2_with (go_at_call 27; refine (C.out _ (by (repeat' (first | exact Ext.refl _ | assumption | refine Ext.alloc ?_ _ | refine Ext.drew ?_ | refine Ext.drewN ?_ _ | refine Ext.set ?_ (by first | exact Nat.le_refl _ | exact le1 _ | exact le2 _ | exact le3 _ | exact le4 _ | exact le5 _ | exact le6 _) _ | refine Ext.trans ?_ (by assumption))))).mono ?_; rintro e w1 ⟨rfl, hb1⟩; have y0 := Ext.cell hb1 (p := ⟨w.heap.size + 1 + 1, 0, none⟩) (v := .int .i64 0) (by go_simp); have y1 := Ext.cell hb1 (p := ⟨w.heap.size + 1 + 1, 1, none⟩) (v := .int .i64 0) (by go_simp); have f0 := Ext.frz hb1 (p := ⟨w.heap.size + 1 + 1, 0, none⟩) (by simp) (by go_simp); have f1 := Ext.frz hb1 (p := ⟨w.heap.size + 1 + 1, 1, none⟩) (by simp) (by go_simp); have ly := lt_of_cell y0)
    exact bodyPost_ret (v := .tuple #[.agg #[.int .i64 0, .int .i64 0], .int .i64 E]) (by simp [results, Tryz.results17, go_sem, y0, y1, ly]) rfl ⟨rfl, by (repeat' (first | exact Ext.refl _ | assumption | refine Ext.alloc ?_ _ | refine Ext.drew ?_ | refine Ext.drewN ?_ _ | refine Ext.set ?_ (by first | exact Nat.le_refl _ | exact le1 _ | exact le2 _ | exact le3 _ | exact le4 _ | exact le5 _ | exact le6 _) _ | refine Ext.trans ?_ (by assumption)))⟩
end
end Go.Proofs.YtcbjecpfijogcaaGreat
