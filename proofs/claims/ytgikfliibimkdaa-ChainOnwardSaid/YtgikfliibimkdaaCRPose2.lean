/- Contracts: Place and Joint, by the reference. -/
import Derived.Test.YtgikfliibimkdaaCRPose
import Derived.Test.YtgikfliibimkdaaCSame
import Derived.Test.YtgikfliibimkdaaCStr2
namespace Go.Proofs.Ytgikfliibimkdaa
open Go.RowKit Go.Shelf

section
variable {vu vp : Value} {v : CVeh} {lead : Pt} {ps : List Pt}
theorem putsN_joint {j : Nat} {u : CPut} {l : List CPut} (h : l[j]? = some u) : (l.map (·.joint))[j]? = some u.joint := by rw [List.getElem?_map, h]; rfl
set_option maxRecDepth 100000 in
set_option maxHeartbeats 1600000 in
theorem RPlaceAt_bad (i X Y : Int) (w : World) (hs : Sl 11 RUnit w vu v.units) (hp : Pts w vp ps) (h : ¬ oneE v lead ps i = 0) :
    Calls Try.prog 19 #[vehV v vu, poseV lead vp, .int .i64 i, .int .i64 X, .int .i64 Y] w fun e w' => e = .returned (ptV (placeAtS v lead ps i X Y)) ∧ Ext w w' := by
  have CP := fun w' (h : Ext w w') => RCheckPose_c (lead := lead) w' (hs.ext RUnit.stable h) (hp.ext h)
  have hpl : placeAtS v lead ps i X Y = ((0, 0), oneE v lead ps i) := by unfold placeAtS; rw [if_neg h]
  rw [hpl]
  clear hpl
  obtain ⟨A, cap, rfl, hl, hl2⟩ := hs.shape
  obtain ⟨Ap, capp, rfl⟩ := pts_shape hp
  obtain ⟨l1, l2⟩ := lead
  clear hs hp
  unfold vehV poseV ptV at *
  simp only at CP ⊢
  by_cases h1 : poseE v (l1, l2) ps = 0
  · have hi : i < 0 ∨ (¬ i < 0 ∧ (v.units.length : Int) ≤ i) := by
      by_cases h2 : 0 ≤ i ∧ i < v.units.length
      · exact absurd (oneE_ok h1 h2) h
      · omega
    rw [oneE_no h1 (by omega)]
    rw [h1] at CP
    replace CP := Lib.hid CP
    clear h h1
    rcases hi with hi | ⟨hi, hi2⟩
    all_goals
      go_enter Try.func19, Try.ntmps19
      go_wp2_with (go_at_call 15; refine (CP.out _ (by (repeat' (first | exact Ext.refl _ | assumption | refine Ext.alloc ?_ _ | refine Ext.drew ?_ | refine Ext.drewN ?_ _ | refine Ext.set ?_ (by first | exact Nat.le_refl _ | exact le1 _ | exact le2 _ | exact le3 _ | exact le4 _ | exact le5 _ | exact le6 _) _ | refine Ext.trans ?_ (by assumption))))).mono ?_; rintro e w1 ⟨rfl, hb1⟩; obtain ⟨hc, hf⟩ := bcell hb1; have hz := hb1.sz; simp only [size_alloc] at hz)
      exact bodyPost_ret (v := .tuple #[.agg #[.int .i64 0, .int .i64 0], .int .i64 3]) (by simp [results, Try.results19, go_sem, hc]) rfl ⟨rfl, by (repeat' (first | exact Ext.refl _ | assumption | refine Ext.alloc ?_ _ | refine Ext.drew ?_ | refine Ext.drewN ?_ _ | refine Ext.set ?_ (by first | exact Nat.le_refl _ | exact le1 _ | exact le2 _ | exact le3 _ | exact le4 _ | exact le5 _ | exact le6 _) _ | refine Ext.trans ?_ (by assumption)))⟩
  · rw [oneE_pose h1]
    have HN := h1
    generalize poseE v (l1, l2) ps = E at *
    replace CP := Lib.hid CP
    clear h h1
    go_enter Try.func19, Try.ntmps19
    go_wp2_with (go_at_call 15; refine (CP.out _ (by (repeat' (first | exact Ext.refl _ | assumption | refine Ext.alloc ?_ _ | refine Ext.drew ?_ | refine Ext.drewN ?_ _ | refine Ext.set ?_ (by first | exact Nat.le_refl _ | exact le1 _ | exact le2 _ | exact le3 _ | exact le4 _ | exact le5 _ | exact le6 _) _ | refine Ext.trans ?_ (by assumption))))).mono ?_; rintro e w1 ⟨rfl, hb1⟩; obtain ⟨hc, hf⟩ := bcell hb1; have hz := hb1.sz; simp only [size_alloc] at hz)
    exact bodyPost_ret (v := .tuple #[.agg #[.int .i64 0, .int .i64 0], .int .i64 E]) (by simp [results, Try.results19, go_sem, hc]) rfl ⟨rfl, by (repeat' (first | exact Ext.refl _ | assumption | refine Ext.alloc ?_ _ | refine Ext.drew ?_ | refine Ext.drewN ?_ _ | refine Ext.set ?_ (by first | exact Nat.le_refl _ | exact le1 _ | exact le2 _ | exact le3 _ | exact le4 _ | exact le5 _ | exact le6 _) _ | refine Ext.trans ?_ (by assumption)))⟩
set_option maxRecDepth 100000 in
set_option maxHeartbeats 3200000 in
theorem RPlaceAt_ok (k : Nat) (X Y : Int) (w : World) (hs : Sl 11 RUnit w vu v.units) (hp : Pts w vp ps) (h1 : poseE v lead ps = 0) (hk : k < v.units.length) :
    Calls Try.prog 19 #[vehV v vu, poseV lead vp, .int .i64 k, .int .i64 X, .int .i64 Y] w fun e w' => e = .returned (ptV (placeAtS v lead ps k X Y)) ∧ Ext w w' := by
  have CP := fun w' (h : Ext w w') => RCheckPose_c (lead := lead) w' (hs.ext RUnit.stable h) (hp.ext h)
  rw [h1] at CP
  have hpl := puts_len h1
  have hpb : poseB v.units lead ps = true := by
    cases hb : poseB v.units lead ps
    · rw [poseE_no hpl.2.1 hb] at h1; cases h1
    · rfl
  have CJ := fun w' (h : Ext w w') => joints_yes (lead := lead) w' (hs.ext RUnit.stable h) (hp.ext h) hpl.2.1 hpb
  obtain ⟨u, hu⟩ := some_of_lt (show k < (putsN lead v.units ps).length by omega)
  have hpk : placeAtS v lead ps k X Y = placeS u.axle u.joint X Y := by
    unfold placeAtS
    rw [if_pos (oneE_ok h1 (by omega)), show ((k : Int)).toNat = k by omega, hu]
  rw [hpk]
  have hax := (putsN_at _ _ _ _ _ hu).2
  obtain ⟨A, cap, rfl, hl, hl2⟩ := hs.shape
  obtain ⟨Ap, capp, rfl⟩ := pts_shape hp
  obtain ⟨pb, poff, rfl, p0, p1⟩ := pts_at hp hax
  obtain ⟨l1, l2⟩ := lead
  obtain ⟨⟨u', ⟨j1, j2⟩, ⟨a1, a2⟩⟩, rfl⟩ : ∃ u', u' = u := ⟨u, rfl⟩
  have CA := fun w' => RPlace_c a1 a2 j1 j2 X Y w'
  simp only at p0 p1 ⊢
  obtain ⟨q, hq⟩ : ∃ q, placeS (a1, a2) (j1, j2) X Y = q := ⟨_, rfl⟩
  rw [hq] at CA ⊢
  unfold vehV poseV ptV at *
  simp only at CP CJ ⊢
  have HUJ := Lib.hid (putsN_joint hu)
  simp only at HUJ
  have hpl1 := hpl.1
  obtain ⟨n, hn⟩ : ∃ n, (putsN (l1, l2) v.units ps).length = n := ⟨_, rfl⟩
  rw [hn] at CJ hpl1
  subst hpl1
  generalize putsN (l1, l2) v.units ps = PN at *
  have hpsl := hpl.2.2
  have i0 : ¬ (k : Int) < 0 := by omega
  have i1 : (0 : Int) ≤ (k : Int) := by omega
  have i2 : (k : Int) < (v.units.length : Int) := by omega
  have i3 : ¬ (v.units.length : Int) ≤ (k : Int) := by omega
  have i4 : (k : Int) < (ps.length : Int) := by omega
  have hbp := lt_of_cell p0
  replace CP := Lib.hid CP
  replace CJ := Lib.hid CJ
  replace CA := Lib.hid CA
  clear hs hp h1 hpl hpb hu hpk hax hq hn hpsl
  go_enter Try.func19, Try.ntmps19
  go_upto_region 7 with (first
    | (go_at_call 15; refine (CP.out _ (by (repeat' (first | exact Ext.refl _ | assumption | refine Ext.alloc ?_ _ | refine Ext.drew ?_ | refine Ext.drewN ?_ _ | refine Ext.set ?_ (by first | exact Nat.le_refl _ | exact le1 _ | exact le2 _ | exact le3 _ | exact le4 _ | exact le5 _ | exact le6 _) _ | refine Ext.trans ?_ (by assumption))))).mono ?_; rintro e w1 ⟨rfl, hb⟩; have E1 : Ext w w1 := ((((Ext.refl w).alloc _).alloc _).alloc _).trans hb; have y1 := Ext.cell hb (p := ⟨w.heap.size, 1, none⟩) (v := .slice A v.units.length cap) (by go_simp); have y0 := Ext.cell hb (p := ⟨w.heap.size, 0, none⟩) (v := .string v.name) (by go_simp); have y2 := Ext.cell hb (p := ⟨w.heap.size, 2, none⟩) (v := .int .i64 v.first) (by go_simp); have y3 := Ext.cell hb (p := ⟨w.heap.size, 3, none⟩) (v := .int .i64 v.last) (by go_simp); have t0 := Ext.cell hb (p := ⟨w.heap.size + 1, 0, none⟩) (v := .int .i64 l1) (by go_simp); have t1 := Ext.cell hb (p := ⟨w.heap.size + 1, 1, none⟩) (v := .int .i64 l2) (by go_simp); have t2 := Ext.cell hb (p := ⟨w.heap.size + 1, 2, none⟩) (v := .slice (some ⟨pb, poff, none⟩) ps.length capp) (by go_simp); have hR : w1.heap[w.heap.size + 1 + 1]? = some (.cells #[.int .i64 0, .int .i64 0] 26 (0, 0)) := (hb.block _ (by simp)).trans (new_at (by simp)); have hlR1 := fst_lt hR; clear hb)
    | (go_at_call 53; refine (CJ.out _ E1).mono ?_; rintro e w2 ⟨A3, c3, rfl, ho, hb⟩; have E2 := E1.trans hb; replace t2 := Ext.cell hb t2; replace p0 := Ext.cell E2 p0; replace p1 := Ext.cell E2 p1; replace hR := hb.blk hR; clear hb))
  obtain ⟨g, c, ev, _, _, g0, g1⟩ := ho.at HUJ.out
  simp only [Value.slice.injEq] at ev
  obtain ⟨rfl, -, rfl⟩ := ev
  have r0 : w2.cell? ⟨w.heap.size + 1 + 1, 0, none⟩ = some (.int .i64 0) := World.news_of_block hR 0 _ rfl
  have r1 : w2.cell? ⟨w.heap.size + 1 + 1, 1, none⟩ = some (.int .i64 0) := World.news_of_block hR 1 _ rfl
  have f0 := blk_frz hR 0
  have f1 := blk_frz hR 1
  have hlR := fst_lt hR
  have hgg : w1.heap.size ≤ g := own_ge ho g rfl
  have hneP : pb ≠ w.heap.size + 1 + 1 := by omega
  have hneG : g ≠ w.heap.size + 1 + 1 := by omega
  have hneT : w.heap.size + 1 ≠ w.heap.size + 1 + 1 := by omega
  go_region_held3 (fun w' => w'.cell? ⟨w.heap.size + 1, 2, none⟩ = some (.slice (some ⟨pb, poff, none⟩) ps.length capp) ∧ w'.cell? ⟨pb, poff + k * 2, none⟩ = some (.int .i64 a1) ∧ w'.cell? ⟨pb, poff + k * 2 + 1, none⟩ = some (.int .i64 a2) ∧ w'.cell? ⟨g, k * 2, none⟩ = some (.int .i64 j1) ∧ w'.cell? ⟨g, k * 2 + 1, none⟩ = some (.int .i64 j2)) (refine ⟨?_, ?_, ?_, ?_, ?_⟩ <;> (repeat' (with_reducible (first | assumption | refine Ext.cell hb3 ?_ | refine Ext.cell (Ext.refl _).drew ?_ | refine cell_set_ne hneP ?_ | refine cell_set_ne hneG ?_ | refine cell_set_ne hneT ?_)))) ((go_at_call 50; refine (CA.out _).mono ?_; rintro e w3 ⟨rfl, hb3⟩; have hR3 := hb3.blk hR; have r03 : w3.cell? ⟨w.heap.size + 1 + 1, 0, none⟩ = some (.int .i64 0) := World.news_of_block hR3 0 _ rfl; have r13 : w3.cell? ⟨w.heap.size + 1 + 1, 1, none⟩ = some (.int .i64 0) := World.news_of_block hR3 1 _ rfl; have f03 := blk_frz hR3 0; have f13 := blk_frz hR3 1))
  go_wp2_with fail
  have hF := two1 (.int .i64 q.1.2) (two0 (.int .i64 q.1.1) hR3)
  have EF := ((E2.trans ((Ext.refl w2).drew.trans hb3)).set (p := ⟨w.heap.size + 1 + 1, 0, none⟩) (le2 _) (.int .i64 q.1.1)).set (p := ⟨w.heap.size + 1 + 1, 1, none⟩) (le2 _) (.int .i64 q.1.2)
  generalize ((w3.setCell ⟨w.heap.size + 1 + 1, 0, none⟩ (.int .i64 q.1.1)).setCell ⟨w.heap.size + 1 + 1, 1, none⟩ (.int .i64 q.1.2)) = WF at *
  have n0 : WF.cell? ⟨w.heap.size + 1 + 1, 0, none⟩ = some (.int .i64 q.1.1) := World.news_of_block hF 0 _ rfl
  have n1 : WF.cell? ⟨w.heap.size + 1 + 1, 1, none⟩ = some (.int .i64 q.1.2) := World.news_of_block hF 1 _ rfl
  exact bodyPost_ret (v := .tuple #[.agg #[.int .i64 q.1.1, .int .i64 q.1.2], .int .i64 q.2]) (by simp [results, Try.results19, go_sem, n0, n1]) rfl ⟨rfl, EF⟩
theorem RPlaceAt_c (i X Y : Int) (w : World) (hs : Sl 11 RUnit w vu v.units) (hp : Pts w vp ps) :
    Calls Try.prog 19 #[vehV v vu, poseV lead vp, .int .i64 i, .int .i64 X, .int .i64 Y] w fun e w' => e = .returned (ptV (placeAtS v lead ps i X Y)) ∧ Ext w w' := by
  by_cases h : oneE v lead ps i = 0
  · have h1 : poseE v lead ps = 0 := by
      by_cases h1 : poseE v lead ps = 0
      · exact h1
      · rw [oneE_pose h1] at h; exact absurd h h1
    have h2 : 0 ≤ i ∧ i < v.units.length := by
      by_cases h2 : 0 ≤ i ∧ i < v.units.length
      · exact h2
      · rw [oneE_no h1 h2] at h; cases h
    obtain ⟨k, rfl⟩ : ∃ k : Nat, i = k := ⟨i.toNat, by omega⟩
    exact RPlaceAt_ok k X Y w hs hp h1 (by omega)
  · exact RPlaceAt_bad i X Y w hs hp h
end
end Go.Proofs.Ytgikfliibimkdaa
