/- Contract: Follow, by the reference. -/
import Derived.Test.YtgikfliibimkdaaCFolI
import Derived.Test.YtgikfliibimkdaaCRLeads
import Derived.Test.YtgikfliibimkdaaCRStep
import Derived.Test.YtgikfliibimkdaaCStepC
import Derived.Test.YtgikfliibimkdaaCRPose
import Derived.Deep.OwnRows
namespace Go.Proofs.Ytgikfliibimkdaa
open Go.RowKit Go.Shelf

theorem own_shape {base : Nat} {w : World} {v : Value} {l : List Pt} (h : OwnP base w v l) : ∃ A c, v = .slice A l.length c := by
  rcases h.2 with ⟨h, h0⟩ | ⟨g, cap, cur, h, _⟩
  · exact ⟨none, 0, by rw [h, h0]⟩
  · exact ⟨some ⟨g, 0, none⟩, cap, h⟩
theorem pts_off {w : World} {x : Value} {l : List Pt} (h : Pts w x l) {b o : Nat} {u : Value} (hne : x.ownBlock ≠ some b) : Pts (w.setCell ⟨b, o, none⟩ u) x l := by
  rcases h with h | ⟨g, off, cap, rfl, h1, h2, hc⟩
  · exact .inl h
  · have hgb : g ≠ b := fun e => hne (by rw [e]; rfl)
    exact .inr ⟨g, off, cap, rfl, h1, h2, fun i hi => ⟨cell_set_ne hgb (hc i hi).1, cell_set_ne hgb (hc i hi).2⟩⟩
section
variable {vu vp vg vst : Value} {v : CVeh} {ps guide : List Pt} {steer : List (List Int)}
set_option maxRecDepth 100000 in
set_option maxHeartbeats 6400000 in
theorem RFollow_pose (o1 o2 s d : Int) (w : World) (hs : Sl 11 RUnit w vu v.units) (hp : Pts w vp ps) (hg : Pts w vg guide) (hst : Sl 1 RNums w vst steer) (h : ¬ poseE v (o1, o2) ps = 0) :
    Calls Try.prog 34 #[vehV v vu, poseV (o1, o2) vp, vg, .int .i64 s, .int .i64 d, vst] w (FolR v ((o1, o2), ps) guide s d steer w) := by
  have CC := fun w' (h : Ext w w') => RCheckPose_c (lead := (o1, o2)) w' (hs.ext RUnit.stable h) (hp.ext h)
  have HR := Lib.hid (followS_pose (old := ((o1, o2), ps)) (guide := guide) (s := s) (d := d) (steer := steer) h)
  obtain ⟨A, cap, rfl, hl, hl2⟩ := hs.shape
  obtain ⟨Ap, capp, rfl⟩ := pts_shape hp
  obtain ⟨Ag, capg, rfl⟩ := pts_shape hg
  obtain ⟨As, caps, rfl, hls, hls2⟩ := hst.shape
  obtain ⟨Post, hPost⟩ : ∃ Post, FolR v ((o1, o2), ps) guide s d steer w = Post := ⟨_, rfl⟩
  rw [hPost]
  have HPo := Lib.hid hPost
  unfold vehV poseV at *
  simp only at *
  have HN := h
  generalize poseE v (o1, o2) ps = PE at *
  replace CC := Lib.hid CC
  clear hs hp hg hst h hPost
  go_enter Try.func34, Try.ntmps34
  go_wp2_with (go_at_call 15; refine (CC.out _ (by (repeat' (first | exact Ext.refl _ | assumption | refine Ext.alloc ?_ _ | refine Ext.drew ?_ | refine Ext.drewN ?_ _ | refine Ext.set ?_ (by first | exact Nat.le_refl _ | exact le1 _ | exact le2 _ | exact le3 _ | exact le4 _ | exact le5 _ | exact le6 _) _ | refine Ext.trans ?_ (by assumption))))).mono ?_; rintro e w1 ⟨rfl, hb⟩; have E3 : Ext w w1 := (((Ext.refl w).alloc _).alloc _).trans hb; clear hb)
  show Post (.returned (.tuple #[.slice none 0 0, .int .i64 PE])) _
  rw [← HPo.out]
  unfold FolR
  rw [HR.out]
  exact ⟨_, rfl, ⟨none, 0, rfl, by simp, by simp, fun i x hi => by simp at hi⟩, E3⟩
set_option maxRecDepth 100000 in
set_option maxHeartbeats 6400000 in
theorem RFollow_len (o1 o2 s d : Int) (w : World) (hs : Sl 11 RUnit w vu v.units) (hp : Pts w vp ps) (hg : Pts w vg guide) (hst : Sl 1 RNums w vst steer) (h : poseE v (o1, o2) ps = 0) (h2 : ¬ (lenS guide).2 = 0) :
    Calls Try.prog 34 #[vehV v vu, poseV (o1, o2) vp, vg, .int .i64 s, .int .i64 d, vst] w (FolR v ((o1, o2), ps) guide s d steer w) := by
  have CC := fun w' (h : Ext w w') => RCheckPose_c (lead := (o1, o2)) w' (hs.ext RUnit.stable h) (hp.ext h)
  rw [h] at CC
  have CL := fun w' (h : Ext w w') => RLength_c vg guide w' (hg.ext h)
  have HR := Lib.hid (followS_len (old := ((o1, o2), ps)) (s := s) (d := d) (steer := steer) h h2)
  unfold i2V at CL
  obtain ⟨A, cap, rfl, hl, hl2⟩ := hs.shape
  obtain ⟨Ap, capp, rfl⟩ := pts_shape hp
  obtain ⟨Ag, capg, rfl⟩ := pts_shape hg
  obtain ⟨As, caps, rfl, hls, hls2⟩ := hst.shape
  obtain ⟨Post, hPost⟩ : ∃ Post, FolR v ((o1, o2), ps) guide s d steer w = Post := ⟨_, rfl⟩
  rw [hPost]
  have HPo := Lib.hid hPost
  unfold vehV poseV at *
  simp only at *
  have HN := h2
  generalize lenS guide = LE at *
  obtain ⟨n, le⟩ := LE
  simp only at *
  replace CC := Lib.hid CC
  replace CL := Lib.hid CL
  clear hs hp hg hst h h2 hPost
  go_enter Try.func34, Try.ntmps34
  go_wp2_with (first | (go_at_call 15; refine (CC.out _ (by (repeat' (first | exact Ext.refl _ | assumption | refine Ext.alloc ?_ _ | refine Ext.drew ?_ | refine Ext.drewN ?_ _ | refine Ext.set ?_ (by first | exact Nat.le_refl _ | exact le1 _ | exact le2 _ | exact le3 _ | exact le4 _ | exact le5 _ | exact le6 _) _ | refine Ext.trans ?_ (by assumption))))).mono ?_; rintro e w1 ⟨rfl, hb⟩; have E3 : Ext w w1 := (((Ext.refl w).alloc _).alloc _).trans hb; clear hb) | (go_at_call 32; refine (CL.out _ E3).mono ?_; rintro e w2 ⟨rfl, hb⟩; replace E3 := E3.trans hb; clear hb))
  show Post (.returned (.tuple #[.slice none 0 0, .int .i64 le])) _
  rw [← HPo.out]
  unfold FolR
  rw [HR.out]
  exact ⟨_, rfl, ⟨none, 0, rfl, by simp, by simp, fun i x hi => by simp at hi⟩, E3⟩
set_option maxRecDepth 100000 in
set_option maxHeartbeats 6400000 in
theorem RFollow_range (o1 o2 s d : Int) (w : World) (hs : Sl 11 RUnit w vu v.units) (hp : Pts w vp ps) (hg : Pts w vg guide) (hst : Sl 1 RNums w vst steer) (h : poseE v (o1, o2) ps = 0) (h2 : (lenS guide).2 = 0) (h3 : inB d 1 16777216 = false ∨ inB s 0 (lenS guide).1 = false) :
    Calls Try.prog 34 #[vehV v vu, poseV (o1, o2) vp, vg, .int .i64 s, .int .i64 d, vst] w (FolR v ((o1, o2), ps) guide s d steer w) := by
  have CC := fun w' (h : Ext w w') => RCheckPose_c (lead := (o1, o2)) w' (hs.ext RUnit.stable h) (hp.ext h)
  rw [h] at CC
  have CL := fun w' (h : Ext w w') => RLength_c vg guide w' (hg.ext h)
  have HR := Lib.hid (followS_range (old := ((o1, o2), ps)) (steer := steer) h h2 h3)
  unfold i2V at CL
  rw [h2] at CL
  obtain ⟨A, cap, rfl, hl, hl2⟩ := hs.shape
  obtain ⟨Ap, capp, rfl⟩ := pts_shape hp
  obtain ⟨Ag, capg, rfl⟩ := pts_shape hg
  obtain ⟨As, caps, rfl, hls, hls2⟩ := hst.shape
  obtain ⟨Post, hPost⟩ : ∃ Post, FolR v ((o1, o2), ps) guide s d steer w = Post := ⟨_, rfl⟩
  rw [hPost]
  have HPo := Lib.hid hPost
  unfold vehV poseV at *
  simp only at *
  generalize (lenS guide).1 = n at *
  have B1 := fun w => in3_c d 1 16777216 w
  have B2 := fun w => in3_c s 0 n w
  have h4 : inB d 1 16777216 = false ∨ (inB d 1 16777216 = true ∧ inB s 0 n = false) := by
    cases hb : inB d 1 16777216
    · exact .inl rfl
    · rcases h3 with h3 | h3
      · rw [hb] at h3; cases h3
      · exact .inr ⟨rfl, h3⟩
  replace CC := Lib.hid CC
  replace CL := Lib.hid CL
  clear hs hp hg hst h h2 hPost h3
  rcases h4 with h4 | ⟨h4, h5⟩
  · rw [h4] at B1
    replace B1 := Lib.hid B1
    replace B2 := Lib.hid B2
    clear h4
    go_enter Try.func34, Try.ntmps34
    go_wp2_with (first | (go_at_call 15; refine (CC.out _ (by (repeat' (first | exact Ext.refl _ | assumption | refine Ext.alloc ?_ _ | refine Ext.drew ?_ | refine Ext.drewN ?_ _ | refine Ext.set ?_ (by first | exact Nat.le_refl _ | exact le1 _ | exact le2 _ | exact le3 _ | exact le4 _ | exact le5 _ | exact le6 _) _ | refine Ext.trans ?_ (by assumption))))).mono ?_; rintro e w1 ⟨rfl, hb⟩; have E3 : Ext w w1 := (((Ext.refl w).alloc _).alloc _).trans hb; clear hb) | (go_at_call 32; refine (CL.out _ E3).mono ?_; rintro e w2 ⟨rfl, hb⟩; replace E3 := E3.trans hb; clear hb) | (go_at_call 69; (with_reducible refine (B1.out _).mono ?_); rintro e w9 ⟨rfl, rfl⟩) | (go_at_call 69; (with_reducible refine (B2.out _).mono ?_); rintro e w9 ⟨rfl, rfl⟩))
    show Post (.returned (.tuple #[.slice none 0 0, .int .i64 3])) _
    rw [← HPo.out]
    unfold FolR
    rw [HR.out]
    exact ⟨_, rfl, ⟨none, 0, rfl, by simp, by simp, fun i x hi => by simp at hi⟩, E3⟩
  · rw [h4] at B1
    rw [h5] at B2
    replace B1 := Lib.hid B1
    replace B2 := Lib.hid B2
    clear h4 h5
    go_enter Try.func34, Try.ntmps34
    go_wp2_with (first | (go_at_call 15; refine (CC.out _ (by (repeat' (first | exact Ext.refl _ | assumption | refine Ext.alloc ?_ _ | refine Ext.drew ?_ | refine Ext.drewN ?_ _ | refine Ext.set ?_ (by first | exact Nat.le_refl _ | exact le1 _ | exact le2 _ | exact le3 _ | exact le4 _ | exact le5 _ | exact le6 _) _ | refine Ext.trans ?_ (by assumption))))).mono ?_; rintro e w1 ⟨rfl, hb⟩; have E3 : Ext w w1 := (((Ext.refl w).alloc _).alloc _).trans hb; clear hb) | (go_at_call 32; refine (CL.out _ E3).mono ?_; rintro e w2 ⟨rfl, hb⟩; replace E3 := E3.trans hb; clear hb) | (go_at_call 69; (with_reducible refine (B1.out _).mono ?_); rintro e w9 ⟨rfl, rfl⟩) | (go_at_call 69; (with_reducible refine (B2.out _).mono ?_); rintro e w9 ⟨rfl, rfl⟩))
    show Post (.returned (.tuple #[.slice none 0 0, .int .i64 3])) _
    rw [← HPo.out]
    unfold FolR
    rw [HR.out]
    exact ⟨_, rfl, ⟨none, 0, rfl, by simp, by simp, fun i x hi => by simp at hi⟩, E3⟩
set_option maxRecDepth 100000 in
set_option maxHeartbeats 6400000 in
theorem RFollow_many (o1 o2 s d : Int) (w : World) (hs : Sl 11 RUnit w vu v.units) (hp : Pts w vp ps) (hg : Pts w vg guide) (hst : Sl 1 RNums w vst steer) (h : poseE v (o1, o2) ps = 0) (h2 : (lenS guide).2 = 0) (h3 : inB d 1 16777216 = true) (h4 : inB s 0 (lenS guide).1 = true) (h5 : 2000 < stepsI (lenS guide).1 s d) :
    Calls Try.prog 34 #[vehV v vu, poseV (o1, o2) vp, vg, .int .i64 s, .int .i64 d, vst] w (FolR v ((o1, o2), ps) guide s d steer w) := by
  have CC := fun w' (h : Ext w w') => RCheckPose_c (lead := (o1, o2)) w' (hs.ext RUnit.stable h) (hp.ext h)
  rw [h] at CC
  have CL := fun w' (h : Ext w w') => RLength_c vg guide w' (hg.ext h)
  have HR := Lib.hid (followS_many (old := ((o1, o2), ps)) (steer := steer) h h2 h3 h4 h5)
  unfold i2V at CL
  rw [h2] at CL
  obtain ⟨hd1, hd2⟩ := inB_iff.1 h3
  obtain ⟨hs1, hs2⟩ := inB_iff.1 h4
  have CD := fun w' (h : Ext w w') => Leads_c vg guide s d (lenS guide).1 w' (hg.ext h) h2 rfl hd1 hd2 hs1 hs2
  have B1 := fun w => in3_c d 1 16777216 w
  have B2 := fun w => in3_c s 0 (lenS guide).1 w
  rw [h3] at B1
  rw [h4] at B2
  obtain ⟨A, cap, rfl, hl, hl2⟩ := hs.shape
  obtain ⟨Ap, capp, rfl⟩ := pts_shape hp
  obtain ⟨Ag, capg, rfl⟩ := pts_shape hg
  obtain ⟨As, caps, rfl, hls, hls2⟩ := hst.shape
  obtain ⟨Post, hPost⟩ : ∃ Post, FolR v ((o1, o2), ps) guide s d steer w = Post := ⟨_, rfl⟩
  rw [hPost]
  have HPo := Lib.hid hPost
  unfold vehV poseV at *
  simp only at *
  generalize (lenS guide).1 = n at *
  generalize stepsI n s d = K at *
  have HK := Lib.hid h5
  replace CC := Lib.hid CC
  replace CL := Lib.hid CL
  replace CD := Lib.hid CD
  replace B1 := Lib.hid B1
  replace B2 := Lib.hid B2
  clear hs hp hg hst h h2 h3 h4 h5 hPost hd1 hd2 hs1 hs2
  go_enter Try.func34, Try.ntmps34
  go_wp2_with (first | (go_at_call 15; refine (CC.out _ (by (repeat' (first | exact Ext.refl _ | assumption | refine Ext.alloc ?_ _ | refine Ext.drew ?_ | refine Ext.drewN ?_ _ | refine Ext.set ?_ (by first | exact Nat.le_refl _ | exact le1 _ | exact le2 _ | exact le3 _ | exact le4 _ | exact le5 _ | exact le6 _) _ | refine Ext.trans ?_ (by assumption))))).mono ?_; rintro e w1 ⟨rfl, hb⟩; have E3 : Ext w w1 := (((Ext.refl w).alloc _).alloc _).trans hb; clear hb) | (go_at_call 32; refine (CL.out _ E3).mono ?_; rintro e w2 ⟨rfl, hb⟩; replace E3 := E3.trans hb; clear hb) | (go_at_call 69; (with_reducible refine (B1.out _).mono ?_); rintro e w9 ⟨rfl, rfl⟩) | (go_at_call 69; (with_reducible refine (B2.out _).mono ?_); rintro e w9 ⟨rfl, rfl⟩) | (go_at_call 70; refine (CD.out _ E3).mono ?_; rintro e w3 ⟨vl, ls, rfl, hOL, hb, hL1, hL2⟩; obtain ⟨AL, cL, rfl⟩ := own_shape hOL; replace E3 := E3.trans hb; clear hb; have hlm : (2000 : Int) < (ls.length : Int) := (by have := hL2 HK.out; omega); clear hL1 hL2 hOL))
  show Post (.returned (.tuple #[.slice none 0 0, .int .i64 6])) _
  rw [← HPo.out]
  unfold FolR
  rw [HR.out]
  exact ⟨_, rfl, ⟨none, 0, rfl, by simp, by simp, fun i x hi => by simp at hi⟩, E3⟩
set_option maxRecDepth 100000 in
set_option maxHeartbeats 6400000 in
theorem RFollow_equal (o1 o2 s d : Int) (w : World) (hs : Sl 11 RUnit w vu v.units) (hp : Pts w vp ps) (hg : Pts w vg guide) (hst : Sl 1 RNums w vst steer) (h : poseE v (o1, o2) ps = 0) (h2 : (lenS guide).2 = 0) (h3 : inB d 1 16777216 = true) (h4 : inB s 0 (lenS guide).1 = true) (h5 : ¬ 2000 < stepsI (lenS guide).1 s d) (h6 : steer ≠ [] ∧ (steer.length : Int) ≠ stepsI (lenS guide).1 s d) :
    Calls Try.prog 34 #[vehV v vu, poseV (o1, o2) vp, vg, .int .i64 s, .int .i64 d, vst] w (FolR v ((o1, o2), ps) guide s d steer w) := by
  have CC := fun w' (h : Ext w w') => RCheckPose_c (lead := (o1, o2)) w' (hs.ext RUnit.stable h) (hp.ext h)
  rw [h] at CC
  have CL := fun w' (h : Ext w w') => RLength_c vg guide w' (hg.ext h)
  have HR := Lib.hid (followS_equal (old := ((o1, o2), ps)) h h2 h3 h4 h5 h6)
  unfold i2V at CL
  rw [h2] at CL
  obtain ⟨hd1, hd2⟩ := inB_iff.1 h3
  obtain ⟨hs1, hs2⟩ := inB_iff.1 h4
  have CD := fun w' (h : Ext w w') => Leads_c vg guide s d (lenS guide).1 w' (hg.ext h) h2 rfl hd1 hd2 hs1 hs2
  have B1 := fun w => in3_c d 1 16777216 w
  have B2 := fun w => in3_c s 0 (lenS guide).1 w
  rw [h3] at B1
  rw [h4] at B2
  have hK1 := stepsI_bd hd1 hs2
  obtain ⟨h6, h7⟩ := h6
  have h8 : ¬ (steer.length : Int) = 0 := fun e => h6 (List.length_eq_zero_iff.1 (by omega))
  have h11 : ((steer.length : Int) != 0) = true := bne_iff_ne.2 h8
  obtain ⟨A, cap, rfl, hl, hl2⟩ := hs.shape
  obtain ⟨Ap, capp, rfl⟩ := pts_shape hp
  obtain ⟨Ag, capg, rfl⟩ := pts_shape hg
  obtain ⟨As, caps, rfl, hls, hls2⟩ := hst.shape
  obtain ⟨Post, hPost⟩ : ∃ Post, FolR v ((o1, o2), ps) guide s d steer w = Post := ⟨_, rfl⟩
  rw [hPost]
  have HPo := Lib.hid hPost
  unfold vehV poseV at *
  simp only at *
  generalize (lenS guide).1 = n at *
  generalize stepsI n s d = K at *
  have HK := Lib.hid h5
  have HK7 := Lib.hid (And.intro hK1 h7)
  replace CC := Lib.hid CC
  replace CL := Lib.hid CL
  replace CD := Lib.hid CD
  replace B1 := Lib.hid B1
  replace B2 := Lib.hid B2
  clear hs hp hg hst h h2 h3 h4 h5 hPost hd1 hd2 hs1 hs2 hK1 h6 h7
  go_enter Try.func34, Try.ntmps34
  go_wp2_with (first | (go_at_call 15; refine (CC.out _ (by (repeat' (first | exact Ext.refl _ | assumption | refine Ext.alloc ?_ _ | refine Ext.drew ?_ | refine Ext.drewN ?_ _ | refine Ext.set ?_ (by first | exact Nat.le_refl _ | exact le1 _ | exact le2 _ | exact le3 _ | exact le4 _ | exact le5 _ | exact le6 _) _ | refine Ext.trans ?_ (by assumption))))).mono ?_; rintro e w1 ⟨rfl, hb⟩; have E3 : Ext w w1 := (((Ext.refl w).alloc _).alloc _).trans hb; clear hb) | (go_at_call 32; refine (CL.out _ E3).mono ?_; rintro e w2 ⟨rfl, hb⟩; replace E3 := E3.trans hb; clear hb) | (go_at_call 69; (with_reducible refine (B1.out _).mono ?_); rintro e w9 ⟨rfl, rfl⟩) | (go_at_call 69; (with_reducible refine (B2.out _).mono ?_); rintro e w9 ⟨rfl, rfl⟩) | (go_at_call 70; refine (CD.out _ E3).mono ?_; rintro e w3 ⟨vl, ls, rfl, hOL, hb, hL1, hL2⟩; obtain ⟨AL, cL, rfl⟩ := own_shape hOL; replace E3 := E3.trans hb; clear hb; have hln : (ls.length : Int) = K := (by have h9 := hL1 (by have := HK.out; omega); rw [h9]; simp; have := HK7.out.1; omega); have hlm : ¬ (2000 : Int) < (ls.length : Int) := (by have := HK.out; omega); have hlq : ((steer.length : Int) != (ls.length : Int)) = true := (bne_iff_ne.2 (by rw [hln]; exact HK7.out.2)); clear hL1 hL2 hOL hln))
  show Post (.returned (.tuple #[.slice none 0 0, .int .i64 17])) _
  rw [← HPo.out]
  unfold FolR
  rw [HR.out]
  exact ⟨_, rfl, ⟨none, 0, rfl, by simp, by simp, fun i x hi => by simp at hi⟩, E3⟩
end
end Go.Proofs.Ytgikfliibimkdaa
