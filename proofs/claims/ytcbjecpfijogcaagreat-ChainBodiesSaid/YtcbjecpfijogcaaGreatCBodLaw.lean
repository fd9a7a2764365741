
/- The law ChainBodies, walked. -/
import Derived.Test.YtcbjecpfijogcaaGreatCBodCAll
import Derived.Test.YtcbjecpfijogcaaGreatCRFoldB
import Derived.Test.YtcbjecpfijogcaaGreatCStrC
import Derived.Test.YtcbjecpfijogcaaGreatCOpen
namespace Go.Proofs.YtcbjecpfijogcaaGreat
open Go.RowKit Go.Shelf

section
variable {vu vp : Value} {v : CVeh} {lead : Pt} {ps : List Pt}
set_option maxRecDepth 100000 in
set_option maxHeartbeats 3200000 in
theorem bodies_long (i : Int) (w : World) (hs : Sl 11 RUnit w vu v.units) (hp : Pts w vp ps) (h : longB v = true ∨ (30 : Int) < ps.length) :
    Calls Tryz.prog 3 #[vehV v vu, poseV lead vp, .int .i64 i] w fun e w' => e = .returned (.bool true) ∧ Ext w w' := by
  have CL := fun w' (h : Ext w w') => long_c vu v w' (hs.ext RUnit.stable h)
  have CW := fun w => cworks_c w
  obtain ⟨A, cap, rfl, hl, hl2⟩ := hs.shape
  obtain ⟨Ap, capp, rfl⟩ := pts_shape hp
  obtain ⟨p1, p2⟩ := lead
  unfold vehV poseV at *
  simp only
  have hc : longB v = true ∨ (longB v = false ∧ (30 : Int) < ps.length) := by
    cases hb : longB v
    · rcases h with h | h
      · rw [hb] at h; cases h
      · exact .inr ⟨rfl, h⟩
    · exact .inl rfl
  replace CW := Lib.hid CW
  clear hs hp h
  rcases hc with h | ⟨h, h2⟩
  all_goals
    rw [h] at CL
    replace CL := Lib.hid CL
    clear h
    go_enter Tryz.func3, Tryz.ntmps3
    go_wp2_with (first
      | (go_at_call 5; refine (CL.out _ (by (repeat' (first | exact Ext.refl _ | assumption | refine Ext.alloc ?_ _ | refine Ext.drew ?_ | refine Ext.drewN ?_ _ | refine Ext.set ?_ (by first | exact Nat.le_refl _ | exact le1 _ | exact le2 _ | exact le3 _ | exact le4 _ | exact le5 _ | exact le6 _) _ | refine Ext.trans ?_ (by assumption))))).mono ?_; rintro e w1 ⟨rfl, hb1⟩; obtain ⟨hc, hf⟩ := bcell hb1)
      | (go_at_call 6; refine (CW.out _).mono ?_; rintro e w2 ⟨rfl, hb2⟩))
    go_ret
    exact ⟨rfl, by (repeat' (first | exact Ext.refl _ | assumption | refine Ext.alloc ?_ _ | refine Ext.drew ?_ | refine Ext.drewN ?_ _ | refine Ext.set ?_ (by first | exact Nat.le_refl _ | exact le1 _ | exact le2 _ | exact le3 _ | exact le4 _ | exact le5 _ | exact le6 _) _ | refine Ext.trans ?_ (by assumption)))⟩
set_option maxRecDepth 100000 in
set_option maxHeartbeats 6400000 in
theorem bodies_short (i : Int) (w : World) (hs : Sl 11 RUnit w vu v.units) (hp : Pts w vp ps) (h : longB v = false) (h2 : ¬ (30 : Int) < ps.length) :
    Calls Tryz.prog 3 #[vehV v vu, poseV lead vp, .int .i64 i] w fun e w' => e = .returned (.bool true) ∧ Ext w w' := by
  have CL := fun w' (h : Ext w w') => long_c vu v w' (hs.ext RUnit.stable h)
  rw [h] at CL
  have CW := fun w => cworks_c w
  have C1 := fun w' (h : Ext w w') => Body_c (lead := lead) i w' (hs.ext RUnit.stable h) (hp.ext h)
  have C2 := fun w' (h : Ext w w') => RBody_c (lead := lead) i w' (hs.ext RUnit.stable h) (hp.ext h)
  have C3 := fun w' (h : Ext w w') => Line_c (lead := lead) w' (hs.ext RUnit.stable h) (hp.ext h)
  have C4 := fun w' (h : Ext w w') => RLine_c (lead := lead) w' (hs.ext RUnit.stable h) (hp.ext h)
  have C5 := fun w' (h : Ext w w') => Folded_c (lead := lead) w' (hs.ext RUnit.stable h) (hp.ext h)
  have C6 := fun w' (h : Ext w w') => RFolded_c (lead := lead) w' (hs.ext RUnit.stable h) (hp.ext h)
  obtain ⟨A, cap, rfl, hl, hl2⟩ := hs.shape
  obtain ⟨Ap, capp, rfl⟩ := pts_shape hp
  obtain ⟨p1, p2⟩ := lead
  unfold vehV poseV lineV b2V at *
  obtain ⟨⟨bl, be⟩, hB⟩ : ∃ B, bodyS v (p1, p2) ps i = B := ⟨_, rfl⟩
  rw [hB] at C1 C2
  obtain ⟨⟨⟨⟨n1, n2⟩, ⟨n3, n4⟩⟩, ne⟩, hL⟩ : ∃ B, lineS v (p1, p2) ps = B := ⟨_, rfl⟩
  rw [hL] at C3 C4
  obtain ⟨⟨fb, fe⟩, hF⟩ : ∃ B, foldS v (p1, p2) ps = B := ⟨_, rfl⟩
  rw [hF] at C5 C6
  simp only at C1 C2 C3 C4 C5 C6 ⊢
  replace CL := Lib.hid CL
  replace CW := Lib.hid CW
  replace C1 := Lib.hid C1
  replace C2 := Lib.hid C2
  replace C3 := Lib.hid C3
  replace C4 := Lib.hid C4
  replace C5 := Lib.hid C5
  replace C6 := Lib.hid C6
  clear hs hp h hB hL hF
  go_enter Tryz.func3, Tryz.ntmps3
  go_upto_region 8 with (first
    | (go_at_call 5; refine (CL.out _ (by (repeat' (first | exact Ext.refl _ | assumption | refine Ext.alloc ?_ _ | refine Ext.drew ?_ | refine Ext.drewN ?_ _ | refine Ext.set ?_ (by first | exact Nat.le_refl _ | exact le1 _ | exact le2 _ | exact le3 _ | exact le4 _ | exact le5 _ | exact le6 _) _ | refine Ext.trans ?_ (by assumption))))).mono ?_; rintro e w1 ⟨rfl, hb1⟩; have y0 := Ext.cell hb1 (p := ⟨w.heap.size, 0, none⟩) (v := .string v.name) (by go_simp); have y1 := Ext.cell hb1 (p := ⟨w.heap.size, 1, none⟩) (v := .slice A v.units.length cap) (by go_simp); have y2 := Ext.cell hb1 (p := ⟨w.heap.size, 2, none⟩) (v := .int .i64 v.first) (by go_simp); have y3 := Ext.cell hb1 (p := ⟨w.heap.size, 3, none⟩) (v := .int .i64 v.last) (by go_simp); have t0 := Ext.cell hb1 (p := ⟨w.heap.size + 1, 0, none⟩) (v := .int .i64 p1) (by go_simp); have t1 := Ext.cell hb1 (p := ⟨w.heap.size + 1, 1, none⟩) (v := .int .i64 p2) (by go_simp); have t2 := Ext.cell hb1 (p := ⟨w.heap.size + 1, 2, none⟩) (v := .slice Ap ps.length capp) (by go_simp); have lw1 := lt_of_cell t0)
    | (go_at_call 7; refine (C1.out _ (by (repeat' (first | exact Ext.refl _ | assumption | refine Ext.alloc ?_ _ | refine Ext.drew ?_ | refine Ext.drewN ?_ _ | refine Ext.set ?_ (by first | exact Nat.le_refl _ | exact le1 _ | exact le2 _ | exact le3 _ | exact le4 _ | exact le5 _ | exact le6 _) _ | refine Ext.trans ?_ (by assumption))))).mono ?_; rintro e w2 ⟨v2, rfl, hp2, hb2⟩; obtain ⟨A2, c2, rfl⟩ := pts_shape hp2; replace hp2 := Lib.hid hp2; replace y0 := Ext.cell hb2 (p := ⟨w.heap.size, 0, none⟩) (v := .string v.name) (by go_simp); replace y1 := Ext.cell hb2 (p := ⟨w.heap.size, 1, none⟩) (v := .slice A v.units.length cap) (by go_simp); replace y2 := Ext.cell hb2 (p := ⟨w.heap.size, 2, none⟩) (v := .int .i64 v.first) (by go_simp); replace y3 := Ext.cell hb2 (p := ⟨w.heap.size, 3, none⟩) (v := .int .i64 v.last) (by go_simp); replace t0 := Ext.cell hb2 (p := ⟨w.heap.size + 1, 0, none⟩) (v := .int .i64 p1) (by go_simp); replace t1 := Ext.cell hb2 (p := ⟨w.heap.size + 1, 1, none⟩) (v := .int .i64 p2) (by go_simp); replace t2 := Ext.cell hb2 (p := ⟨w.heap.size + 1, 2, none⟩) (v := .slice Ap ps.length capp) (by go_simp); have lw1 := lt_of_cell t0)
    | (go_at_call 8; refine (C2.out _ (by (repeat' (first | exact Ext.refl _ | assumption | refine Ext.alloc ?_ _ | refine Ext.drew ?_ | refine Ext.drewN ?_ _ | refine Ext.set ?_ (by first | exact Nat.le_refl _ | exact le1 _ | exact le2 _ | exact le3 _ | exact le4 _ | exact le5 _ | exact le6 _) _ | refine Ext.trans ?_ (by assumption))))).mono ?_; rintro e w3 ⟨v3, rfl, hp3, hb3⟩; obtain ⟨A3, c3, rfl⟩ := pts_shape hp3; replace hp3 := Lib.hid hp3; replace y0 := Ext.cell hb3 (p := ⟨w.heap.size, 0, none⟩) (v := .string v.name) (by go_simp); replace y1 := Ext.cell hb3 (p := ⟨w.heap.size, 1, none⟩) (v := .slice A v.units.length cap) (by go_simp); replace y2 := Ext.cell hb3 (p := ⟨w.heap.size, 2, none⟩) (v := .int .i64 v.first) (by go_simp); replace y3 := Ext.cell hb3 (p := ⟨w.heap.size, 3, none⟩) (v := .int .i64 v.last) (by go_simp); replace t0 := Ext.cell hb3 (p := ⟨w.heap.size + 1, 0, none⟩) (v := .int .i64 p1) (by go_simp); replace t1 := Ext.cell hb3 (p := ⟨w.heap.size + 1, 1, none⟩) (v := .int .i64 p2) (by go_simp); replace t2 := Ext.cell hb3 (p := ⟨w.heap.size + 1, 2, none⟩) (v := .slice Ap ps.length capp) (by go_simp); have lw1 := lt_of_cell t0)
    | (go_at_call 9; refine (Same01_c _ _ bl _ (hp2.out.ext hb3) hp3.out).mono ?_; rintro e w4 ⟨rfl, hb4⟩; replace y0 := Ext.cell hb4 (p := ⟨w.heap.size, 0, none⟩) (v := .string v.name) (by go_simp); replace y1 := Ext.cell hb4 (p := ⟨w.heap.size, 1, none⟩) (v := .slice A v.units.length cap) (by go_simp); replace y2 := Ext.cell hb4 (p := ⟨w.heap.size, 2, none⟩) (v := .int .i64 v.first) (by go_simp); replace y3 := Ext.cell hb4 (p := ⟨w.heap.size, 3, none⟩) (v := .int .i64 v.last) (by go_simp); replace t0 := Ext.cell hb4 (p := ⟨w.heap.size + 1, 0, none⟩) (v := .int .i64 p1) (by go_simp); replace t1 := Ext.cell hb4 (p := ⟨w.heap.size + 1, 1, none⟩) (v := .int .i64 p2) (by go_simp); replace t2 := Ext.cell hb4 (p := ⟨w.heap.size + 1, 2, none⟩) (v := .slice Ap ps.length capp) (by go_simp); have lw1 := lt_of_cell t0)
    | (go_at_call 10; refine (C3.out _ (by (repeat' (first | exact Ext.refl _ | assumption | refine Ext.alloc ?_ _ | refine Ext.drew ?_ | refine Ext.drewN ?_ _ | refine Ext.set ?_ (by first | exact Nat.le_refl _ | exact le1 _ | exact le2 _ | exact le3 _ | exact le4 _ | exact le5 _ | exact le6 _) _ | refine Ext.trans ?_ (by assumption))))).mono ?_; rintro e w5 ⟨rfl, hb5⟩; replace y0 := Ext.cell hb5 (p := ⟨w.heap.size, 0, none⟩) (v := .string v.name) (by go_simp); replace y1 := Ext.cell hb5 (p := ⟨w.heap.size, 1, none⟩) (v := .slice A v.units.length cap) (by go_simp); replace y2 := Ext.cell hb5 (p := ⟨w.heap.size, 2, none⟩) (v := .int .i64 v.first) (by go_simp); replace y3 := Ext.cell hb5 (p := ⟨w.heap.size, 3, none⟩) (v := .int .i64 v.last) (by go_simp); replace t0 := Ext.cell hb5 (p := ⟨w.heap.size + 1, 0, none⟩) (v := .int .i64 p1) (by go_simp); replace t1 := Ext.cell hb5 (p := ⟨w.heap.size + 1, 1, none⟩) (v := .int .i64 p2) (by go_simp); replace t2 := Ext.cell hb5 (p := ⟨w.heap.size + 1, 2, none⟩) (v := .slice Ap ps.length capp) (by go_simp); have lw1 := lt_of_cell t0))
  have b0 := heap2_first w5 (.cells #[.int .i64 n1, .int .i64 n2] 26) (.cells #[.int .i64 n3, .int .i64 n4] 26)
  have b1 := heap2_second w5 (.cells #[.int .i64 n1, .int .i64 n2] 26) (.cells #[.int .i64 n3, .int .i64 n4] 26)
  have EV : Ext w5 ((w5.alloc (.cells #[.int .i64 n1, .int .i64 n2] 26)).alloc (.cells #[.int .i64 n3, .int .i64 n4] 26)) := ((Ext.refl _).alloc _).alloc _
  generalize ((w5.alloc (.cells #[.int .i64 n1, .int .i64 n2] 26)).alloc (.cells #[.int .i64 n3, .int .i64 n4] 26)) = V5 at *
  replace y0 := Ext.cell EV y0
  replace y1 := Ext.cell EV y1
  replace y2 := Ext.cell EV y2
  replace y3 := Ext.cell EV y3
  replace t0 := Ext.cell EV t0
  replace t1 := Ext.cell EV t1
  replace t2 := Ext.cell EV t2
  have q0 : V5.cell? ⟨w5.heap.size, 0, none⟩ = some (.int .i64 n1) := World.news_of_block b0 0 _ rfl
  have q1 : V5.cell? ⟨w5.heap.size, 1, none⟩ = some (.int .i64 n2) := World.news_of_block b0 1 _ rfl
  have q2 : V5.cell? ⟨w5.heap.size + 1, 0, none⟩ = some (.int .i64 n3) := World.news_of_block b1 0 _ rfl
  have q3 : V5.cell? ⟨w5.heap.size + 1, 1, none⟩ = some (.int .i64 n4) := World.news_of_block b1 1 _ rfl
  clear b0 b1
  go_upto_region 9 with (go_at_call 11; refine (C4.out _ (by (repeat' (first | exact Ext.refl _ | assumption | refine Ext.alloc ?_ _ | refine Ext.drew ?_ | refine Ext.drewN ?_ _ | refine Ext.set ?_ (by first | exact Nat.le_refl _ | exact le1 _ | exact le2 _ | exact le3 _ | exact le4 _ | exact le5 _ | exact le6 _) _ | refine Ext.trans ?_ (by assumption))))).mono ?_; rintro e w6 ⟨rfl, hb6⟩; replace y0 := Ext.cell hb6 y0; replace y1 := Ext.cell hb6 y1; replace y2 := Ext.cell hb6 y2; replace y3 := Ext.cell hb6 y3; replace t0 := Ext.cell hb6 t0; replace t1 := Ext.cell hb6 t1; replace t2 := Ext.cell hb6 t2; replace q0 := Ext.cell hb6 q0; replace q1 := Ext.cell hb6 q1; replace q2 := Ext.cell hb6 q2; replace q3 := Ext.cell hb6 q3)
  have b0 := heap2_first w6 (.cells #[.int .i64 n1, .int .i64 n2] 26) (.cells #[.int .i64 n3, .int .i64 n4] 26)
  have b1 := heap2_second w6 (.cells #[.int .i64 n1, .int .i64 n2] 26) (.cells #[.int .i64 n3, .int .i64 n4] 26)
  have EV6 : Ext w6 ((w6.alloc (.cells #[.int .i64 n1, .int .i64 n2] 26)).alloc (.cells #[.int .i64 n3, .int .i64 n4] 26)) := ((Ext.refl _).alloc _).alloc _
  generalize ((w6.alloc (.cells #[.int .i64 n1, .int .i64 n2] 26)).alloc (.cells #[.int .i64 n3, .int .i64 n4] 26)) = V6 at *
  replace y0 := Ext.cell EV6 y0
  replace y1 := Ext.cell EV6 y1
  replace y2 := Ext.cell EV6 y2
  replace y3 := Ext.cell EV6 y3
  replace t0 := Ext.cell EV6 t0
  replace t1 := Ext.cell EV6 t1
  replace t2 := Ext.cell EV6 t2
  replace q0 := Ext.cell EV6 q0
  replace q1 := Ext.cell EV6 q1
  replace q2 := Ext.cell EV6 q2
  replace q3 := Ext.cell EV6 q3
  have r0 : V6.cell? ⟨w6.heap.size, 0, none⟩ = some (.int .i64 n1) := World.news_of_block b0 0 _ rfl
  have r1 : V6.cell? ⟨w6.heap.size, 1, none⟩ = some (.int .i64 n2) := World.news_of_block b0 1 _ rfl
  have r2 : V6.cell? ⟨w6.heap.size + 1, 0, none⟩ = some (.int .i64 n3) := World.news_of_block b1 0 _ rfl
  have r3 : V6.cell? ⟨w6.heap.size + 1, 1, none⟩ = some (.int .i64 n4) := World.news_of_block b1 1 _ rfl
  clear b0 b1
  go_wp2_with (first
    | (go_at_call 12; refine (C5.out _ (by (repeat' (first | exact Ext.refl _ | assumption | refine Ext.alloc ?_ _ | refine Ext.drew ?_ | refine Ext.drewN ?_ _ | refine Ext.set ?_ (by first | exact Nat.le_refl _ | exact le1 _ | exact le2 _ | exact le3 _ | exact le4 _ | exact le5 _ | exact le6 _) _ | refine Ext.trans ?_ (by assumption))))).mono ?_; rintro e w7 ⟨rfl, hb7⟩; replace y0 := Ext.cell hb7 y0; replace y1 := Ext.cell hb7 y1; replace y2 := Ext.cell hb7 y2; replace y3 := Ext.cell hb7 y3; replace t0 := Ext.cell hb7 t0; replace t1 := Ext.cell hb7 t1; replace t2 := Ext.cell hb7 t2; replace q0 := Ext.cell hb7 q0; replace q1 := Ext.cell hb7 q1; replace q2 := Ext.cell hb7 q2; replace q3 := Ext.cell hb7 q3; replace r0 := Ext.cell hb7 r0; replace r1 := Ext.cell hb7 r1; replace r2 := Ext.cell hb7 r2; replace r3 := Ext.cell hb7 r3)
    | (go_at_call 13; refine (C6.out _ (by (repeat' (first | exact Ext.refl _ | assumption | refine Ext.alloc ?_ _ | refine Ext.drew ?_ | refine Ext.drewN ?_ _ | refine Ext.set ?_ (by first | exact Nat.le_refl _ | exact le1 _ | exact le2 _ | exact le3 _ | exact le4 _ | exact le5 _ | exact le6 _) _ | refine Ext.trans ?_ (by assumption))))).mono ?_; rintro e w8 ⟨rfl, hb8⟩; replace y0 := Ext.cell hb8 y0; replace y1 := Ext.cell hb8 y1; replace y2 := Ext.cell hb8 y2; replace y3 := Ext.cell hb8 y3; replace t0 := Ext.cell hb8 t0; replace t1 := Ext.cell hb8 t1; replace t2 := Ext.cell hb8 t2; replace q0 := Ext.cell hb8 q0; replace q1 := Ext.cell hb8 q1; replace q2 := Ext.cell hb8 q2; replace q3 := Ext.cell hb8 q3; replace r0 := Ext.cell hb8 r0; replace r1 := Ext.cell hb8 r1; replace r2 := Ext.cell hb8 r2; replace r3 := Ext.cell hb8 r3)
    | (go_at_call 6; refine (CW.out _).mono ?_; rintro e w9 ⟨rfl, hb9⟩))
  go_ret
  exact ⟨rfl, by (repeat' (first | exact Ext.refl _ | assumption | refine Ext.alloc ?_ _ | refine Ext.drew ?_ | refine Ext.drewN ?_ _ | refine Ext.set ?_ (by first | exact Nat.le_refl _ | exact le1 _ | exact le2 _ | exact le3 _ | exact le4 _ | exact le5 _ | exact le6 _) _ | refine Ext.trans ?_ (by assumption)))⟩
theorem bodies_law (i : Int) (w : World) (hs : Sl 11 RUnit w vu v.units) (hp : Pts w vp ps) :
    Calls Tryz.prog 3 #[vehV v vu, poseV lead vp, .int .i64 i] w fun e w' => e = .returned (.bool true) ∧ Ext w w' := by
  cases h : longB v
  · by_cases h2 : (30 : Int) < ps.length
    · exact bodies_long i w hs hp (.inr h2)
    · exact bodies_short i w hs hp h h2
  · exact bodies_long i w hs hp (.inl h)
end
end Go.Proofs.YtcbjecpfijogcaaGreat
