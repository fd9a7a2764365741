
/- known: the examples of the law's package hold. -/
import Derived.Test.YtkkeblgahbpmmaaLProvAll
import Derived.Test.YtkkeblgahbpmmaaLExAll
import Derived.Test.YtkkeblgahbpmmaaLCentre
namespace Go.Proofs.Ytkkeblgahbpmmaa
open Go.RowKit Instr

theorem ex_reach : reachN exampleL 1000 = exHull := by
  unfold reachN
  rw [ex_mass, ex_force]
  exact ex_hull
theorem ex_hold (vp ve : Value) (w : World) (hl : IsLoad w exampleL vp ve) (a z : Int) (q : HPt) (ha : steadyB a 0 1000 = true) (hp : wideB (needP 5000 a 0)) (hr : HoldAns exHull (needP 5000 a 0) z q) :
    Calls Try.prog 26 #[loadV exampleL vp ve, .slice none 0 0, .agg #[.int .i64 a, .int .i64 0, .int .i64 1000]] w fun e w' => e = .returned (.tuple #[.agg #[.int .i64 q.1, .int .i64 q.2], .int .i64 z]) ∧ Ext w w' := by
  refine hold_nil_of exampleL vp ve a 0 1000 z q w hl ex_ok ha ?_ ?_ ?_ ?_ ?_
  · rw [ex_reach]; decide
  · rw [ex_reach]; decide
  · rw [ex_reach]
    intro p hp
    unfold exHull at hp
    simp only [List.mem_cons, List.not_mem_nil, or_false] at hp
    unfold wideB
    rcases hp with rfl | rfl | rfl | rfl | rfl | rfl | rfl | rfl <;> decide
  · rw [ex_mass]; exact hp
  · rw [ex_reach, ex_mass]; exact hr
theorem ex_hold1 (vp ve : Value) (w : World) (hl : IsLoad w exampleL vp ve) :
    Calls Try.prog 26 #[loadV exampleL vp ve, .slice none 0 0, .agg #[.int .i64 301, .int .i64 0, .int .i64 1000]] w fun e w' => e = .returned (.tuple #[.agg #[.int .i64 1060, .int .i64 (-440)], .int .i64 20]) ∧ Ext w w' :=
  ex_hold vp ve w hl 301 20 (1060, -440) (by decide) (by unfold wideB; decide) (.inr ⟨by rw [ex_need.1]; exact ex_out, by decide, rfl, 3, by rw [ex_need.1]; exact ex_idx.1, ex_idx.2⟩)
theorem ex_hold2 (vp ve : Value) (w : World) (hl : IsLoad w exampleL vp ve) :
    Calls Try.prog 26 #[loadV exampleL vp ve, .slice none 0 0, .agg #[.int .i64 300, .int .i64 0, .int .i64 1000]] w fun e w' => e = .returned (.tuple #[.agg #[.int .i64 0, .int .i64 0], .int .i64 0]) ∧ Ext w w' :=
  ex_hold vp ve w hl 300 0 (0, 0) (by decide) (by unfold wideB; decide) (.inl ⟨by rw [ex_need.2]; exact ex_in, rfl, rfl⟩)
set_option maxRecDepth 100000 in
set_option maxHeartbeats 6400000 in
theorem known_c (w : World) : Calls Try.prog 7 #[] w fun e w' => e = .returned (.bool true) ∧ Ext w w' := by
  have CX := Lib.hid (fun W => Example_c W)
  have C1 := fun (vp ve : Value) W hl => Mass_c exampleL vp ve W hl
  have C2 := fun (vp ve : Value) W hl => Centre_c exampleL vp ve W hl
  have C3 := Lib.hid (fun (vp ve : Value) W hl => ex_hold1 vp ve W hl)
  have C4 := Lib.hid (fun (vp ve : Value) W hl => ex_hold2 vp ve W hl)
  unfold massR at C1
  unfold cenV at C2
  simp only [ex_ok, if_true, ex_mass, ex_cen.1, ex_cen.2.1, ex_cen.2.2] at C1 C2
  replace C1 := Lib.hid C1
  replace C2 := Lib.hid C2
  unfold loadV at *
  generalize exampleL = L at *
  go_enter Try.func7, Try.ntmps7
  go_upto_region 2 with (go_at_call 25; refine (CX.out _).mono ?_; rintro e w1 ⟨vp, ve, rfl, i1, h1⟩; obtain ⟨A1, A2, c1, c2, rfl, rfl⟩ := is_shape i1)
  have bL := lb_new w1 (.cells #[.string L.name, .slice A1 L.pieces.length c1, .slice A2 L.eyes.length c2, .int .i64 L.friction] 25)
  have eL := (Ext.refl w1).alloc (.cells #[.string L.name, .slice A1 L.pieces.length c1, .slice A2 L.eyes.length c2, .int .i64 L.friction] 25)
  have e2 := h1.trans eL
  replace i1 := IsLoad.ext i1 eL
  generalize (w1.alloc (.cells #[.string L.name, .slice A1 L.pieces.length c1, .slice A2 L.eyes.length c2, .int .i64 L.friction] 25)) = w2 at *
  have y0 := lb_cell bL 0 _ rfl
  have y1 := lb_cell bL 1 _ rfl
  have y2 := lb_cell bL 2 _ rfl
  have y3 := lb_cell bL 3 _ rfl
  have hlt := lb_lt bL
  have HI := Lib.hid i1
  clear i1 bL eL h1
  go_upto_region 3 with (go_at_call 17; refine (C1.out _ _ _ HI.out).mono ?_; rintro e w3 ⟨rfl, h3⟩; replace y0 := h3.cell y0; replace y1 := h3.cell y1; replace y2 := h3.cell y2; replace y3 := h3.cell y3)
  have e3 := e2.trans h3
  go_upto_region 4 with (go_at_call 19; refine (C2.out _ _ _ (HI.out.ext h3)).mono ?_; rintro e w4 ⟨rfl, h4⟩; replace y0 := h4.cell y0; replace y1 := h4.cell y1; replace y2 := h4.cell y2; replace y3 := h4.cell y3)
  have e4 := e3.trans h4
  have bC := lb_new w4 (.cells #[.int .i64 900, .int .i64 500, .int .i64 650] 40)
  have e5 := e4.alloc (.cells #[.int .i64 900, .int .i64 500, .int .i64 650] 40)
  have g5 := (h3.trans h4).alloc (.cells #[.int .i64 900, .int .i64 500, .int .i64 650] 40)
  have k5 := (Ext.refl w4).alloc (.cells #[.int .i64 900, .int .i64 500, .int .i64 650] 40)
  generalize (w4.alloc (.cells #[.int .i64 900, .int .i64 500, .int .i64 650] 40)) = w5 at *
  replace y0 := k5.cell y0; replace y1 := k5.cell y1; replace y2 := k5.cell y2; replace y3 := k5.cell y3
  go_upto_region 5 with (go_at_call 26; refine (C3.out _ _ _ (HI.out.ext g5)).mono ?_; rintro e w6 ⟨rfl, h6⟩; replace bC := lb_ext bC h6; replace y0 := h6.cell y0; replace y1 := h6.cell y1; replace y2 := h6.cell y2; replace y3 := h6.cell y3)
  have e6 := e5.trans h6
  have g6 := g5.trans h6
  have bN := lb_new w6 (.cells #[.int .i64 1060, .int .i64 (-440)] 52)
  have e7 := e6.alloc (.cells #[.int .i64 1060, .int .i64 (-440)] 52)
  have g7 := g6.alloc (.cells #[.int .i64 1060, .int .i64 (-440)] 52)
  have k7 := (Ext.refl w6).alloc (.cells #[.int .i64 1060, .int .i64 (-440)] 52)
  generalize (w6.alloc (.cells #[.int .i64 1060, .int .i64 (-440)] 52)) = w7 at *
  replace bC := lb_ext bC k7
  replace y0 := k7.cell y0; replace y1 := k7.cell y1; replace y2 := k7.cell y2; replace y3 := k7.cell y3
  have q1 := fun w => eql3_c 900 500 650 900 500 650 w
  have q2 := fun w => eqlP_c 1060 (-440) 1060 (-440) w
  go_wp2_with (go_at_call 26; refine (C4.out _ _ _ (HI.out.ext g7)).mono ?_; rintro e w8 ⟨rfl, h8⟩; replace bC := lb_ext bC h8; replace bN := lb_ext bN h8; have e8 := e7.trans h8; have u0 := lb_cell bC 0 _ rfl; have u1 := lb_cell bC 1 _ rfl; have u2 := lb_cell bC 2 _ rfl; have v0 := lb_cell bN 0 _ rfl; have v1 := lb_cell bN 1 _ rfl; have l1 := lb_lt bC; have l2 := lb_lt bN)
  go_ret
  exact ⟨rfl, e8.alloc _⟩
end Go.Proofs.Ytkkeblgahbpmmaa
