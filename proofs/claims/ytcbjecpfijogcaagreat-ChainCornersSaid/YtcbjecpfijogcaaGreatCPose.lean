
/- Contracts: CheckPose, ready, Joint and Place, by the program. -/
import Derived.Test.YtcbjecpfijogcaaGreatCLook
namespace Go.Proofs.YtcbjecpfijogcaaGreat
open Go.RowKit Go.Shelf

theorem flat_at : ∀ (l : List PPut) (i : Nat) (x : PPut) (j : Nat), l[i]? = some x → j < 15 → (l.flatMap putCs)[i * 15 + j]? = (putCs x)[j]?
  | [], i, x, j, h, hj => by simp at h
  | a :: l, 0, x, j, h, hj => by
    simp only [List.getElem?_cons_zero, Option.some.injEq] at h
    subst h
    rw [List.flatMap_cons, Nat.zero_mul, Nat.zero_add, List.getElem?_append_left (by simp [putCs]; omega)]
  | a :: l, i + 1, x, j, h, hj => by
    have hl : (putCs a).length = 15 := rfl
    rw [List.flatMap_cons, List.getElem?_append_right (by rw [hl]; omega), hl, show (i + 1) * 15 + j - 15 = i * 15 + j by omega]
    exact flat_at l i x j (by simpa using h) hj
/-- the cells of the i-th unit in a row of them -/
theorem own_at {w : World} {base : Nat} {v : Value} {xs : List PPut} (h : w.ownsRow base 64 15 v xs.length (xs.flatMap putCs)) {i : Nat} {x : PPut} (hi : xs[i]? = some x) :
    ∃ g c, v = .slice (some ⟨g, 0, none⟩) xs.length c ∧ ∀ j u, (putCs x)[j]? = some u → w.cell? ⟨g, i * 15 + j, none⟩ = some u := by
  have hx := lt_of_some hi
  rcases h.2 with ⟨_, h0⟩ | ⟨g, cap, cur, rfl, _, hb, _, _, hcs, ht⟩
  · omega
  · refine ⟨g, cap, rfl, fun j u hj => ?_⟩
    have hj15 : j < 15 := by have := (List.getElem?_eq_some_iff.1 hj).1; simpa [putCs] using this
    have h1 := flat_at xs i x j hi hj15
    rw [hj, ← ht, List.getElem?_take] at h1
    split at h1
    · have := World.news_of_block hb (i * 15 + j) u h1
      rwa [add_none, Nat.zero_add] at this
    · simp at h1

section
variable {vu vp : Value} {v : CVeh} {lead : Pt} {ps : List Pt}
theorem look_bad (w : World) (hs : Sl 11 RUnit w vu v.units) (hp : Pts w vp ps) (h : ¬ poseE v lead ps = 0) :
    Calls Tryz.prog 35 #[vehV v vu, poseV lead vp] w fun e w' => e = .returned (.tuple #[.slice none 0 0, .int .i64 (poseE v lead ps)]) ∧ Ext w w' := by
  refine (look_c vu v lead vp ps w hs hp).mono ?_
  rintro e w' ⟨hb, ⟨_, rfl⟩ | ⟨h0, _⟩⟩
  · exact ⟨rfl, hb⟩
  · exact absurd h0 h
theorem puts_len (h : poseE v lead ps = 0) : (putsN lead v.units ps).length = v.units.length ∧ vehE v = 0 ∧ ps.length = v.units.length := by
  by_cases hE : vehE v = 0
  · cases hb : poseB v.units lead ps
    · rw [poseE_no hE hb] at h; cases h
    · unfold poseB at hb
      simp only [Bool.and_eq_true, decide_eq_true_eq] at hb
      exact ⟨hb.2, hE, hb.1.1⟩
  · rw [poseE_bad hE] at h; exact absurd h hE
theorem look_ok (w : World) (hs : Sl 11 RUnit w vu v.units) (hp : Pts w vp ps) (h : poseE v lead ps = 0) :
    Calls Tryz.prog 35 #[vehV v vu, poseV lead vp] w fun e w' => ∃ (vl : Value) (xs : List PPut), e = .returned (.tuple #[vl, .int .i64 0]) ∧ w'.ownsRow w.heap.size 64 15 vl xs.length (xs.flatMap putCs) ∧ xs.map (fun x => (⟨x.unit, x.joint, x.axle⟩ : CPut)) = putsN lead v.units ps ∧ xs.length = v.units.length ∧ Ext w w' := by
  refine (look_c vu v lead vp ps w hs hp).mono ?_
  rintro e w' ⟨hb, ⟨h0, _⟩ | ⟨_, vl, xs, rfl, ho, hm⟩⟩
  · exact absurd h h0
  · exact ⟨vl, xs, rfl, ho, hm, by have := (puts_len h).1; rw [← hm, List.length_map] at this; exact this, hb⟩

/-- a pose and an error code, as a call hands them back -/
def poseEV (lead : Pt) (vp : Value) (e : Int) : Value := .tuple #[.agg #[.int .i64 lead.1, .int .i64 lead.2, vp], .int .i64 e]
set_option maxHeartbeats 800000 in
theorem ready_c (w : World) (hs : Sl 11 RUnit w vu v.units) (hp : Pts w vp ps) :
    Calls Tryz.prog 45 #[vehV v vu, poseV lead vp] w fun e w' => e = .returned (if poseE v lead ps = 0 then poseEV lead vp 0 else poseEV (0, 0) (.slice none 0 0) 9) ∧ Ext w w' := by
  have CB := fun w' (h : Ext w w') => look_bad (lead := lead) w' (hs.ext RUnit.stable h) (hp.ext h)
  have CO := fun w' (h : Ext w w') => look_ok (lead := lead) w' (hs.ext RUnit.stable h) (hp.ext h)
  obtain ⟨A, cap, rfl, hl, hl2⟩ := hs.shape
  obtain ⟨Ap, capp, rfl⟩ := pts_shape hp
  obtain ⟨l1, l2⟩ := lead
  clear hs hp
  unfold vehV poseV poseEV at *
  simp only at CB CO ⊢
  by_cases h : poseE v (l1, l2) ps = 0
  · rw [if_pos h]
    have C := Lib.hid (fun w' hw => CO w' hw h)
    clear CB CO h
    go_enter Tryz.func45, Tryz.ntmps45
    go_wp2_with (go_at_call 35; refine (C.out _ (by (repeat' (first | exact Ext.refl _ | assumption | refine Ext.alloc ?_ _ | refine Ext.drew ?_ | refine Ext.drewN ?_ _ | refine Ext.set ?_ (by first | exact Nat.le_refl _ | exact le1 _ | exact le2 _ | exact le3 _ | exact le4 _ | exact le5 _ | exact le6 _) _ | refine Ext.trans ?_ (by assumption))))).mono ?_; rintro e w1 ⟨vl, xs, rfl, ho, hm, hxl, hb1⟩; obtain ⟨hc, hf⟩ := bcell hb1)
    exact bodyPost_ret (v := .tuple #[.agg #[.int .i64 l1, .int .i64 l2, .slice Ap ps.length capp], .int .i64 0]) (by simp [results, Tryz.results45, go_sem, hc]) rfl ⟨rfl, by (repeat' (first | exact Ext.refl _ | assumption | refine Ext.alloc ?_ _ | refine Ext.drew ?_ | refine Ext.drewN ?_ _ | refine Ext.set ?_ (by first | exact Nat.le_refl _ | exact le1 _ | exact le2 _ | exact le3 _ | exact le4 _ | exact le5 _ | exact le6 _) _ | refine Ext.trans ?_ (by assumption)))⟩
  · rw [if_neg h]
    have C := fun w' hw => CB w' hw h
    have HN := h
    generalize poseE v (l1, l2) ps = E at *
    replace C := Lib.hid C
    clear CB CO h
    go_enter Tryz.func45, Tryz.ntmps45
    go_wp2_with (go_at_call 35; refine (C.out _ (by (repeat' (first | exact Ext.refl _ | assumption | refine Ext.alloc ?_ _ | refine Ext.drew ?_ | refine Ext.drewN ?_ _ | refine Ext.set ?_ (by first | exact Nat.le_refl _ | exact le1 _ | exact le2 _ | exact le3 _ | exact le4 _ | exact le5 _ | exact le6 _) _ | refine Ext.trans ?_ (by assumption))))).mono ?_; rintro e w1 ⟨rfl, hb1⟩; obtain ⟨hc, hf⟩ := bcell hb1)
    exact bodyPost_ret (v := .tuple #[.agg #[.int .i64 0, .int .i64 0, .slice none 0 0], .int .i64 9]) (by simp [results, Tryz.results45, go_sem, hc]) rfl ⟨rfl, by (repeat' (first | exact Ext.refl _ | assumption | refine Ext.alloc ?_ _ | refine Ext.drew ?_ | refine Ext.drewN ?_ _ | refine Ext.set ?_ (by first | exact Nat.le_refl _ | exact le1 _ | exact le2 _ | exact le3 _ | exact le4 _ | exact le5 _ | exact le6 _) _ | refine Ext.trans ?_ (by assumption)))⟩
end
end Go.Proofs.YtcbjecpfijogcaaGreat
