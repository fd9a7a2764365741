/- Contract: Follow, by the program. -/
import Derived.Test.YtgikfliibimkdaaCFolI
import Derived.Test.YtgikfliibimkdaaCStepC
import Derived.OwnWalk
import Derived.Deep.OwnRows
namespace Go.Proofs.Ytgikfliibimkdaa
open Go.RowKit Go.Shelf

section
variable {vu vp vg vst : Value} {v : CVeh} {ps guide : List Pt} {steer : List (List Int)}
set_option maxRecDepth 100000 in
set_option maxHeartbeats 6400000 in
theorem Follow_pose (o1 o2 s d : Int) (w : World) (hs : Sl 11 RUnit w vu v.units) (hp : Pts w vp ps) (hg : Pts w vg guide) (hst : Sl 1 RNums w vst steer) (h : ¬ poseE v (o1, o2) ps = 0) :
    Calls Try.prog 33 #[vehV v vu, poseV (o1, o2) vp, vg, .int .i64 s, .int .i64 d, vst] w (FolR v ((o1, o2), ps) guide s d steer w) := by
  have CC := fun w' (h : Ext w w') => CheckPose_c (lead := (o1, o2)) w' (hs.ext RUnit.stable h) (hp.ext h)
  have HR := Lib.hid (followS_pose (old := ((o1, o2), ps)) (guide := guide) (s := s) (d := d) (steer := steer) h)
  obtain ⟨A, cap, rfl, hl, hl2⟩ := hs.shape
  obtain ⟨Ap, capp, rfl⟩ := pts_shape hp
  obtain ⟨Ag, capg, rfl⟩ := pts_shape hg
  obtain ⟨As, caps, rfl, hls, hls2⟩ := hst.shape
  obtain ⟨Post, hPost⟩ : ∃ Post, FolR v ((o1, o2), ps) guide s d steer w = Post := ⟨_, rfl⟩
  rw [hPost]
  have HPo := Lib.hid hPost
  unfold vehV poseV at *
  simp only at *
  have HN := h
  generalize poseE v (o1, o2) ps = PE at *
  replace CC := Lib.hid CC
  clear hs hp hg hst h hPost
  go_enter Try.func33, Try.ntmps33
  go_wp2_with (go_at_call 14; refine (CC.out _ (by (repeat' (first | exact Ext.refl _ | assumption | refine Ext.alloc ?_ _ | refine Ext.drew ?_ | refine Ext.drewN ?_ _ | refine Ext.set ?_ (by first | exact Nat.le_refl _ | exact le1 _ | exact le2 _ | exact le3 _ | exact le4 _ | exact le5 _ | exact le6 _) _ | refine Ext.trans ?_ (by assumption))))).mono ?_; rintro e w1 ⟨rfl, hb⟩; have E3 : Ext w w1 := (((Ext.refl w).alloc _).alloc _).trans hb; clear hb)
  show Post (.returned (.tuple #[.slice none 0 0, .int .i64 PE])) _
  rw [← HPo.out]
  unfold FolR
  rw [HR.out]
  exact ⟨_, rfl, ⟨none, 0, rfl, by simp, by simp, fun i x hi => by simp at hi⟩, (fun g hg => by simp [Value.ownBlock] at hg), E3⟩
set_option maxRecDepth 100000 in
set_option maxHeartbeats 6400000 in
theorem Follow_len (o1 o2 s d : Int) (w : World) (hs : Sl 11 RUnit w vu v.units) (hp : Pts w vp ps) (hg : Pts w vg guide) (hst : Sl 1 RNums w vst steer) (h : poseE v (o1, o2) ps = 0) (h2 : ¬ (lenS guide).2 = 0) :
    Calls Try.prog 33 #[vehV v vu, poseV (o1, o2) vp, vg, .int .i64 s, .int .i64 d, vst] w (FolR v ((o1, o2), ps) guide s d steer w) := by
  have CC := fun w' (h : Ext w w') => CheckPose_c (lead := (o1, o2)) w' (hs.ext RUnit.stable h) (hp.ext h)
  rw [h] at CC
  have CL := fun w' (h : Ext w w') => Length_c vg guide w' (hg.ext h)
  have HR := Lib.hid (followS_len (old := ((o1, o2), ps)) (s := s) (d := d) (steer := steer) h h2)
  unfold i2V at CL
  obtain ⟨A, cap, rfl, hl, hl2⟩ := hs.shape
  obtain ⟨Ap, capp, rfl⟩ := pts_shape hp
  obtain ⟨Ag, capg, rfl⟩ := pts_shape hg
  obtain ⟨As, caps, rfl, hls, hls2⟩ := hst.shape
  obtain ⟨Post, hPost⟩ : ∃ Post, FolR v ((o1, o2), ps) guide s d steer w = Post := ⟨_, rfl⟩
  rw [hPost]
  have HPo := Lib.hid hPost
  unfold vehV poseV at *
  simp only at *
  have HN := h2
  generalize lenS guide = LE at *
  obtain ⟨n, le⟩ := LE
  simp only at *
  replace CC := Lib.hid CC
  replace CL := Lib.hid CL
  clear hs hp hg hst h h2 hPost
  go_enter Try.func33, Try.ntmps33
  go_wp2_with (first | (go_at_call 14; refine (CC.out _ (by (repeat' (first | exact Ext.refl _ | assumption | refine Ext.alloc ?_ _ | refine Ext.drew ?_ | refine Ext.drewN ?_ _ | refine Ext.set ?_ (by first | exact Nat.le_refl _ | exact le1 _ | exact le2 _ | exact le3 _ | exact le4 _ | exact le5 _ | exact le6 _) _ | refine Ext.trans ?_ (by assumption))))).mono ?_; rintro e w1 ⟨rfl, hb⟩; have E3 : Ext w w1 := (((Ext.refl w).alloc _).alloc _).trans hb; clear hb) | (go_at_call 35; refine (CL.out _ E3).mono ?_; rintro e w2 ⟨rfl, hb⟩; replace E3 := E3.trans hb; clear hb))
  show Post (.returned (.tuple #[.slice none 0 0, .int .i64 le])) _
  rw [← HPo.out]
  unfold FolR
  rw [HR.out]
  exact ⟨_, rfl, ⟨none, 0, rfl, by simp, by simp, fun i x hi => by simp at hi⟩, (fun g hg => by simp [Value.ownBlock] at hg), E3⟩
set_option maxRecDepth 100000 in
set_option maxHeartbeats 6400000 in
theorem Follow_range (o1 o2 s d : Int) (w : World) (hs : Sl 11 RUnit w vu v.units) (hp : Pts w vp ps) (hg : Pts w vg guide) (hst : Sl 1 RNums w vst steer) (h : poseE v (o1, o2) ps = 0) (h2 : (lenS guide).2 = 0) (h3 : inB d 1 16777216 = false ∨ inB s 0 (lenS guide).1 = false) :
    Calls Try.prog 33 #[vehV v vu, poseV (o1, o2) vp, vg, .int .i64 s, .int .i64 d, vst] w (FolR v ((o1, o2), ps) guide s d steer w) := by
  have CC := fun w' (h : Ext w w') => CheckPose_c (lead := (o1, o2)) w' (hs.ext RUnit.stable h) (hp.ext h)
  rw [h] at CC
  have CL := fun w' (h : Ext w w') => Length_c vg guide w' (hg.ext h)
  have HR := Lib.hid (followS_range (old := ((o1, o2), ps)) (steer := steer) h h2 h3)
  unfold i2V at CL
  rw [h2] at CL
  obtain ⟨A, cap, rfl, hl, hl2⟩ := hs.shape
  obtain ⟨Ap, capp, rfl⟩ := pts_shape hp
  obtain ⟨Ag, capg, rfl⟩ := pts_shape hg
  obtain ⟨As, caps, rfl, hls, hls2⟩ := hst.shape
  obtain ⟨Post, hPost⟩ : ∃ Post, FolR v ((o1, o2), ps) guide s d steer w = Post := ⟨_, rfl⟩
  rw [hPost]
  have HPo := Lib.hid hPost
  unfold vehV poseV at *
  simp only at *
  generalize (lenS guide).1 = n at *
  have B1 := fun w => cwithin_c d 1 16777216 w
  have B2 := fun w => cwithin_c s 0 n w
  have h4 : inB d 1 16777216 = false ∨ (inB d 1 16777216 = true ∧ inB s 0 n = false) := by
    cases hb : inB d 1 16777216
    · exact .inl rfl
    · rcases h3 with h3 | h3
      · rw [hb] at h3; cases h3
      · exact .inr ⟨rfl, h3⟩
  replace CC := Lib.hid CC
  replace CL := Lib.hid CL
  clear hs hp hg hst h h2 hPost h3
  rcases h4 with h4 | ⟨h4, h5⟩
  · rw [h4] at B1
    replace B1 := Lib.hid B1
    replace B2 := Lib.hid B2
    clear h4
    go_enter Try.func33, Try.ntmps33
    go_wp2_with (first | (go_at_call 14; refine (CC.out _ (by (repeat' (first | exact Ext.refl _ | assumption | refine Ext.alloc ?_ _ | refine Ext.drew ?_ | refine Ext.drewN ?_ _ | refine Ext.set ?_ (by first | exact Nat.le_refl _ | exact le1 _ | exact le2 _ | exact le3 _ | exact le4 _ | exact le5 _ | exact le6 _) _ | refine Ext.trans ?_ (by assumption))))).mono ?_; rintro e w1 ⟨rfl, hb⟩; have E3 : Ext w w1 := (((Ext.refl w).alloc _).alloc _).trans hb; clear hb) | (go_at_call 35; refine (CL.out _ E3).mono ?_; rintro e w2 ⟨rfl, hb⟩; replace E3 := E3.trans hb; clear hb) | (go_at_call 68; (with_reducible refine (B1.out _).mono ?_); rintro e w9 ⟨rfl, rfl⟩) | (go_at_call 68; (with_reducible refine (B2.out _).mono ?_); rintro e w9 ⟨rfl, rfl⟩))
    show Post (.returned (.tuple #[.slice none 0 0, .int .i64 3])) _
    rw [← HPo.out]
    unfold FolR
    rw [HR.out]
    exact ⟨_, rfl, ⟨none, 0, rfl, by simp, by simp, fun i x hi => by simp at hi⟩, (fun g hg => by simp [Value.ownBlock] at hg), E3⟩
  · rw [h4] at B1
    rw [h5] at B2
    replace B1 := Lib.hid B1
    replace B2 := Lib.hid B2
    clear h4 h5
    go_enter Try.func33, Try.ntmps33
    go_wp2_with (first | (go_at_call 14; refine (CC.out _ (by (repeat' (first | exact Ext.refl _ | assumption | refine Ext.alloc ?_ _ | refine Ext.drew ?_ | refine Ext.drewN ?_ _ | refine Ext.set ?_ (by first | exact Nat.le_refl _ | exact le1 _ | exact le2 _ | exact le3 _ | exact le4 _ | exact le5 _ | exact le6 _) _ | refine Ext.trans ?_ (by assumption))))).mono ?_; rintro e w1 ⟨rfl, hb⟩; have E3 : Ext w w1 := (((Ext.refl w).alloc _).alloc _).trans hb; clear hb) | (go_at_call 35; refine (CL.out _ E3).mono ?_; rintro e w2 ⟨rfl, hb⟩; replace E3 := E3.trans hb; clear hb) | (go_at_call 68; (with_reducible refine (B1.out _).mono ?_); rintro e w9 ⟨rfl, rfl⟩) | (go_at_call 68; (with_reducible refine (B2.out _).mono ?_); rintro e w9 ⟨rfl, rfl⟩))
    show Post (.returned (.tuple #[.slice none 0 0, .int .i64 3])) _
    rw [← HPo.out]
    unfold FolR
    rw [HR.out]
    exact ⟨_, rfl, ⟨none, 0, rfl, by simp, by simp, fun i x hi => by simp at hi⟩, (fun g hg => by simp [Value.ownBlock] at hg), E3⟩
set_option maxRecDepth 100000 in
set_option maxHeartbeats 6400000 in
theorem Follow_many (o1 o2 s d : Int) (w : World) (hs : Sl 11 RUnit w vu v.units) (hp : Pts w vp ps) (hg : Pts w vg guide) (hst : Sl 1 RNums w vst steer) (h : poseE v (o1, o2) ps = 0) (h2 : (lenS guide).2 = 0) (h3 : inB d 1 16777216 = true) (h4 : inB s 0 (lenS guide).1 = true) (h5 : 2000 < stepsI (lenS guide).1 s d) :
    Calls Try.prog 33 #[vehV v vu, poseV (o1, o2) vp, vg, .int .i64 s, .int .i64 d, vst] w (FolR v ((o1, o2), ps) guide s d steer w) := by
  have CC := fun w' (h : Ext w w') => CheckPose_c (lead := (o1, o2)) w' (hs.ext RUnit.stable h) (hp.ext h)
  rw [h] at CC
  have CL := fun w' (h : Ext w w') => Length_c vg guide w' (hg.ext h)
  have HR := Lib.hid (followS_many (old := ((o1, o2), ps)) (steer := steer) h h2 h3 h4 h5)
  unfold i2V at CL
  rw [h2] at CL
  have hn := lenS_0 h2
  have hnb := longS_le hn.1 hn.2.1
  rw [← hn.2.2] at hnb
  obtain ⟨hd1, hd2⟩ := inB_iff.1 h3
  obtain ⟨hs1, hs2⟩ := inB_iff.1 h4
  have hK1 := stepsI_bd hd1 hs2
  obtain ⟨m, hm⟩ : ∃ m : Nat, stepsI (lenS guide).1 s d = (m : Int) := ⟨(stepsI (lenS guide).1 s d).toNat, by omega⟩
  have hm0 : 1 ≤ m := by omega
  have B1 := fun w => cwithin_c d 1 16777216 w
  have B2 := fun w => cwithin_c s 0 (lenS guide).1 w
  rw [h3] at B1
  rw [h4] at B2
  rw [hm] at h5
  obtain ⟨A, cap, rfl, hl, hl2⟩ := hs.shape
  obtain ⟨Ap, capp, rfl⟩ := pts_shape hp
  obtain ⟨Ag, capg, rfl⟩ := pts_shape hg
  obtain ⟨As, caps, rfl, hls, hls2⟩ := hst.shape
  obtain ⟨Post, hPost⟩ : ∃ Post, FolR v ((o1, o2), ps) guide s d steer w = Post := ⟨_, rfl⟩
  rw [hPost]
  have HPo := Lib.hid hPost
  unfold vehV poseV at *
  simp only at *
  generalize (lenS guide).1 = n at *
  have hQ : (n - s + d - 1).tdiv d = (m : Int) - 1 := by
    rw [Int.tdiv_eq_ediv_of_nonneg (by omega)]
    unfold stepsI at hm
    omega
  have e1 := IntWalk.i64_in (n - s) (by omega)
  have e2 := IntWalk.i64_in (n - s + d) (by omega)
  have e3 := IntWalk.i64_in (n - s + d - 1) (by omega)
  have hdz : ¬ d = 0 := by omega
  have hq2 := Int.ediv_le_self (a := n - s + d - 1) d (by omega)
  have hmb : (m : Int) ≤ 17196646400 := by unfold stepsI at hm; omega
  have e4 := IntWalk.i64_in ((m : Int) - 1) (by omega)
  have e5 := (IntWalk.i64_in ((m : Int) - 1 + 1) (by omega)).trans (Int.sub_add_cancel (m : Int) 1)
  have e6 := IntWalk.i64_in (m : Int) (by omega)

  replace CC := Lib.hid CC
  replace CL := Lib.hid CL
  replace B1 := Lib.hid B1
  replace B2 := Lib.hid B2
  clear hs hp hg hst h h2 h3 h4 hn hm hPost hq2 hnb hK1 hmb
  go_enter Try.func33, Try.ntmps33
  go_wp2_with (first | (go_at_call 14; refine (CC.out _ (by (repeat' (first | exact Ext.refl _ | assumption | refine Ext.alloc ?_ _ | refine Ext.drew ?_ | refine Ext.drewN ?_ _ | refine Ext.set ?_ (by first | exact Nat.le_refl _ | exact le1 _ | exact le2 _ | exact le3 _ | exact le4 _ | exact le5 _ | exact le6 _) _ | refine Ext.trans ?_ (by assumption))))).mono ?_; rintro e w1 ⟨rfl, hb⟩; have E3 : Ext w w1 := (((Ext.refl w).alloc _).alloc _).trans hb; clear hb) | (go_at_call 35; refine (CL.out _ E3).mono ?_; rintro e w2 ⟨rfl, hb⟩; replace E3 := E3.trans hb; clear hb) | (go_at_call 68; (with_reducible refine (B1.out _).mono ?_); rintro e w9 ⟨rfl, rfl⟩) | (go_at_call 68; (with_reducible refine (B2.out _).mono ?_); rintro e w9 ⟨rfl, rfl⟩))
  show Post (.returned (.tuple #[.slice none 0 0, .int .i64 6])) _
  rw [← HPo.out]
  unfold FolR
  rw [HR.out]
  exact ⟨_, rfl, ⟨none, 0, rfl, by simp, by simp, fun i x hi => by simp at hi⟩, (fun g hg => by simp [Value.ownBlock] at hg), E3⟩
set_option maxRecDepth 100000 in
set_option maxHeartbeats 6400000 in
theorem Follow_equal (o1 o2 s d : Int) (w : World) (hs : Sl 11 RUnit w vu v.units) (hp : Pts w vp ps) (hg : Pts w vg guide) (hst : Sl 1 RNums w vst steer) (h : poseE v (o1, o2) ps = 0) (h2 : (lenS guide).2 = 0) (h3 : inB d 1 16777216 = true) (h4 : inB s 0 (lenS guide).1 = true) (h5 : ¬ 2000 < stepsI (lenS guide).1 s d) (h6 : steer ≠ [] ∧ (steer.length : Int) ≠ stepsI (lenS guide).1 s d) :
    Calls Try.prog 33 #[vehV v vu, poseV (o1, o2) vp, vg, .int .i64 s, .int .i64 d, vst] w (FolR v ((o1, o2), ps) guide s d steer w) := by
  have CC := fun w' (h : Ext w w') => CheckPose_c (lead := (o1, o2)) w' (hs.ext RUnit.stable h) (hp.ext h)
  rw [h] at CC
  have CL := fun w' (h : Ext w w') => Length_c vg guide w' (hg.ext h)
  have HR := Lib.hid (followS_equal (old := ((o1, o2), ps)) h h2 h3 h4 h5 h6)
  unfold i2V at CL
  rw [h2] at CL
  have hn := lenS_0 h2
  have hnb := longS_le hn.1 hn.2.1
  rw [← hn.2.2] at hnb
  obtain ⟨hd1, hd2⟩ := inB_iff.1 h3
  obtain ⟨hs1, hs2⟩ := inB_iff.1 h4
  have hK1 := stepsI_bd hd1 hs2
  obtain ⟨m, hm⟩ : ∃ m : Nat, stepsI (lenS guide).1 s d = (m : Int) := ⟨(stepsI (lenS guide).1 s d).toNat, by omega⟩
  have hm0 : 1 ≤ m := by omega
  have B1 := fun w => cwithin_c d 1 16777216 w
  have B2 := fun w => cwithin_c s 0 (lenS guide).1 w
  rw [h3] at B1
  rw [h4] at B2
  rw [hm] at h5 h6
  obtain ⟨h6, h7⟩ := h6
  have h8 : ¬ (steer.length : Int) = 0 := fun e => h6 (List.length_eq_zero_iff.1 (by omega))
  have h9 : ¬ (steer.length : Int) = (m : Int) := h7
  have h10 : ((steer.length : Int) != (m : Int)) = true := bne_iff_ne.2 h9
  have h11 : ((steer.length : Int) != 0) = true := bne_iff_ne.2 h8
  obtain ⟨A, cap, rfl, hl, hl2⟩ := hs.shape
  obtain ⟨Ap, capp, rfl⟩ := pts_shape hp
  obtain ⟨Ag, capg, rfl⟩ := pts_shape hg
  obtain ⟨As, caps, rfl, hls, hls2⟩ := hst.shape
  obtain ⟨Post, hPost⟩ : ∃ Post, FolR v ((o1, o2), ps) guide s d steer w = Post := ⟨_, rfl⟩
  rw [hPost]
  have HPo := Lib.hid hPost
  unfold vehV poseV at *
  simp only at *
  generalize (lenS guide).1 = n at *
  have hQ : (n - s + d - 1).tdiv d = (m : Int) - 1 := by
    rw [Int.tdiv_eq_ediv_of_nonneg (by omega)]
    unfold stepsI at hm
    omega
  have e1 := IntWalk.i64_in (n - s) (by omega)
  have e2 := IntWalk.i64_in (n - s + d) (by omega)
  have e3 := IntWalk.i64_in (n - s + d - 1) (by omega)
  have hdz : ¬ d = 0 := by omega
  have hq2 := Int.ediv_le_self (a := n - s + d - 1) d (by omega)
  have hmb : (m : Int) ≤ 17196646400 := by unfold stepsI at hm; omega
  have e4 := IntWalk.i64_in ((m : Int) - 1) (by omega)
  have e5 := (IntWalk.i64_in ((m : Int) - 1 + 1) (by omega)).trans (Int.sub_add_cancel (m : Int) 1)
  have e6 := IntWalk.i64_in (m : Int) (by omega)

  replace CC := Lib.hid CC
  replace CL := Lib.hid CL
  replace B1 := Lib.hid B1
  replace B2 := Lib.hid B2
  clear hs hp hg hst h h2 h3 h4 hn hm hPost hq2 hnb hK1 hmb h6 h7
  go_enter Try.func33, Try.ntmps33
  go_wp2_with (first | (go_at_call 14; refine (CC.out _ (by (repeat' (first | exact Ext.refl _ | assumption | refine Ext.alloc ?_ _ | refine Ext.drew ?_ | refine Ext.drewN ?_ _ | refine Ext.set ?_ (by first | exact Nat.le_refl _ | exact le1 _ | exact le2 _ | exact le3 _ | exact le4 _ | exact le5 _ | exact le6 _) _ | refine Ext.trans ?_ (by assumption))))).mono ?_; rintro e w1 ⟨rfl, hb⟩; have E3 : Ext w w1 := (((Ext.refl w).alloc _).alloc _).trans hb; clear hb) | (go_at_call 35; refine (CL.out _ E3).mono ?_; rintro e w2 ⟨rfl, hb⟩; replace E3 := E3.trans hb; clear hb) | (go_at_call 68; (with_reducible refine (B1.out _).mono ?_); rintro e w9 ⟨rfl, rfl⟩) | (go_at_call 68; (with_reducible refine (B2.out _).mono ?_); rintro e w9 ⟨rfl, rfl⟩))
  show Post (.returned (.tuple #[.slice none 0 0, .int .i64 17])) _
  rw [← HPo.out]
  unfold FolR
  rw [HR.out]
  exact ⟨_, rfl, ⟨none, 0, rfl, by simp, by simp, fun i x hi => by simp at hi⟩, (fun g hg => by simp [Value.ownBlock] at hg), E3⟩
end
end Go.Proofs.Ytgikfliibimkdaa
