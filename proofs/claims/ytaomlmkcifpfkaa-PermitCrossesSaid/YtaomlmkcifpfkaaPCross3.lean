/- Contracts: breaks (the program's) and Breaks (the definition's). -/
import Derived.Test.YtaomlmkcifpfkaaPCross2
namespace Go.Proofs.Ytaomlmkcifpfkaa
open Go.RowKit Go.Shelf Go.Maps
attribute [local go_sem ↓] Go.wp_at_zero Go.wp_at_succ

theorem range_snoc {f : Nat → Bool} {k : Nat} (h : (List.range k).all f = true) (h2 : f k = true) : (List.range (k + 1)).all f = true := by
  rw [List.range_succ, List.all_append, h]; simp [h2]
theorem range_bad {f : Nat → Bool} {n k : Nat} (h : k < n) (h2 : f k = false) : (List.range n).all f = false := by
  rw [List.all_eq_false]; exact ⟨k, List.mem_range.2 h, by rw [h2]; simp⟩

set_option maxRecDepth 100000 in
set_option maxHeartbeats 3200000 in
theorem breaks_c (B o n : Nat) (vr vw vc v : Value) (r : PRule) (c : PCross) (w : World) (hs : RSls w vr vw vc r) (hv : ruleB r = true) (hc : Sl 3 RCount w v c.things) (hm : w.cell? ⟨B, o + 2, none⟩ = some (.int .i64 (n : Int)))
    (h0 : 0 ≤ c.start) (h1 : c.start ≤ 1099511627776) (hn : n ≤ 10080) :
    Calls Try.prog 102 #[.pointer (some ⟨B, o, none⟩), .agg #[.string r.name, vr, vw, .int .i64 r.h0, .int .i64 r.h1, .int .i64 r.days, .int .i64 r.s0, .int .i64 r.s1, .bool r.forbid, vc, .int .i64 r.cost], .agg #[.int .i64 c.start, v]] w fun e w' => e = .returned (.bool (breaksB r n c)) ∧ Ext w w' := by
  have C1 := fun (k : Nat) w' (h : Ext w w') (hk : k < n) => allows_c vr vw vc r (c.start + (k : Int)) w' (hs.ext h) hv (by omega) (by omega)
  have C2 := fun C w' (h : Ext w w') hC => bad_c C c v vc r.counts w' (hc.ext RCount.stable h) (hs.2.2.ext RCount.stable h) hC
  have hlt := lt_of_cell hm
  obtain ⟨hr, hw, hcc⟩ := hs
  obtain ⟨Ar, cr, rfl, lr, lr2⟩ := hr.shape
  obtain ⟨Aw, cw, rfl, lw, lw2⟩ := hw.shape
  obtain ⟨Ac, cc, rfl, lc, lc2⟩ := hcc.shape
  obtain ⟨At, ct, rfl, lt, lt2⟩ := hc.shape
  obtain ⟨q, hq⟩ : ∃ z, breaksB r n c = z := ⟨_, rfl⟩
  rw [hq]
  unfold breaksB runB at hq
  generalize r.counts.any (cntBad c) = u at *
  have HQ := Lib.hid hq
  replace C1 := Lib.hid C1
  replace C2 := Lib.hid C2
  clear hr hw hcc hc hv hq
  go_enter Try.func102, Try.ntmps102
  go_upto_region 1 with fail
  have e0 : Ext w (w.alloc (.cells #[.string r.name, .slice Ar r.roads.length cr, .slice Aw r.whens.length cw, .int .i64 r.h0, .int .i64 r.h1, .int .i64 r.days, .int .i64 r.s0, .int .i64 r.s1, .bool r.forbid, .slice Ac r.counts.length cc, .int .i64 r.cost] 58)) := (Ext.refl _).alloc _
  have g0 : (w.alloc (.cells #[.string r.name, .slice Ar r.roads.length cr, .slice Aw r.whens.length cw, .int .i64 r.h0, .int .i64 r.h1, .int .i64 r.days, .int .i64 r.s0, .int .i64 r.s1, .bool r.forbid, .slice Ac r.counts.length cc, .int .i64 r.cost] 58)).cell? ⟨w.heap.size, 0, none⟩ = some (.string r.name) := World.cell?_alloc_new _ _ _ _
  have g1 : (w.alloc (.cells #[.string r.name, .slice Ar r.roads.length cr, .slice Aw r.whens.length cw, .int .i64 r.h0, .int .i64 r.h1, .int .i64 r.days, .int .i64 r.s0, .int .i64 r.s1, .bool r.forbid, .slice Ac r.counts.length cc, .int .i64 r.cost] 58)).cell? ⟨w.heap.size, 1, none⟩ = some (.slice Ar r.roads.length cr) := World.cell?_alloc_new _ _ _ _
  have g2 : (w.alloc (.cells #[.string r.name, .slice Ar r.roads.length cr, .slice Aw r.whens.length cw, .int .i64 r.h0, .int .i64 r.h1, .int .i64 r.days, .int .i64 r.s0, .int .i64 r.s1, .bool r.forbid, .slice Ac r.counts.length cc, .int .i64 r.cost] 58)).cell? ⟨w.heap.size, 2, none⟩ = some (.slice Aw r.whens.length cw) := World.cell?_alloc_new _ _ _ _
  have g3 : (w.alloc (.cells #[.string r.name, .slice Ar r.roads.length cr, .slice Aw r.whens.length cw, .int .i64 r.h0, .int .i64 r.h1, .int .i64 r.days, .int .i64 r.s0, .int .i64 r.s1, .bool r.forbid, .slice Ac r.counts.length cc, .int .i64 r.cost] 58)).cell? ⟨w.heap.size, 3, none⟩ = some (.int .i64 r.h0) := World.cell?_alloc_new _ _ _ _
  have g4 : (w.alloc (.cells #[.string r.name, .slice Ar r.roads.length cr, .slice Aw r.whens.length cw, .int .i64 r.h0, .int .i64 r.h1, .int .i64 r.days, .int .i64 r.s0, .int .i64 r.s1, .bool r.forbid, .slice Ac r.counts.length cc, .int .i64 r.cost] 58)).cell? ⟨w.heap.size, 4, none⟩ = some (.int .i64 r.h1) := World.cell?_alloc_new _ _ _ _
  have g5 : (w.alloc (.cells #[.string r.name, .slice Ar r.roads.length cr, .slice Aw r.whens.length cw, .int .i64 r.h0, .int .i64 r.h1, .int .i64 r.days, .int .i64 r.s0, .int .i64 r.s1, .bool r.forbid, .slice Ac r.counts.length cc, .int .i64 r.cost] 58)).cell? ⟨w.heap.size, 5, none⟩ = some (.int .i64 r.days) := World.cell?_alloc_new _ _ _ _
  have g6 : (w.alloc (.cells #[.string r.name, .slice Ar r.roads.length cr, .slice Aw r.whens.length cw, .int .i64 r.h0, .int .i64 r.h1, .int .i64 r.days, .int .i64 r.s0, .int .i64 r.s1, .bool r.forbid, .slice Ac r.counts.length cc, .int .i64 r.cost] 58)).cell? ⟨w.heap.size, 6, none⟩ = some (.int .i64 r.s0) := World.cell?_alloc_new _ _ _ _
  have g7 : (w.alloc (.cells #[.string r.name, .slice Ar r.roads.length cr, .slice Aw r.whens.length cw, .int .i64 r.h0, .int .i64 r.h1, .int .i64 r.days, .int .i64 r.s0, .int .i64 r.s1, .bool r.forbid, .slice Ac r.counts.length cc, .int .i64 r.cost] 58)).cell? ⟨w.heap.size, 7, none⟩ = some (.int .i64 r.s1) := World.cell?_alloc_new _ _ _ _
  have g8 : (w.alloc (.cells #[.string r.name, .slice Ar r.roads.length cr, .slice Aw r.whens.length cw, .int .i64 r.h0, .int .i64 r.h1, .int .i64 r.days, .int .i64 r.s0, .int .i64 r.s1, .bool r.forbid, .slice Ac r.counts.length cc, .int .i64 r.cost] 58)).cell? ⟨w.heap.size, 8, none⟩ = some (.bool r.forbid) := World.cell?_alloc_new _ _ _ _
  have g9 : (w.alloc (.cells #[.string r.name, .slice Ar r.roads.length cr, .slice Aw r.whens.length cw, .int .i64 r.h0, .int .i64 r.h1, .int .i64 r.days, .int .i64 r.s0, .int .i64 r.s1, .bool r.forbid, .slice Ac r.counts.length cc, .int .i64 r.cost] 58)).cell? ⟨w.heap.size, 9, none⟩ = some (.slice Ac r.counts.length cc) := World.cell?_alloc_new _ _ _ _
  have g10 : (w.alloc (.cells #[.string r.name, .slice Ar r.roads.length cr, .slice Aw r.whens.length cw, .int .i64 r.h0, .int .i64 r.h1, .int .i64 r.days, .int .i64 r.s0, .int .i64 r.s1, .bool r.forbid, .slice Ac r.counts.length cc, .int .i64 r.cost] 58)).cell? ⟨w.heap.size, 10, none⟩ = some (.int .i64 r.cost) := World.cell?_alloc_new _ _ _ _
  have z0 : (w.alloc (.cells #[.string r.name, .slice Ar r.roads.length cr, .slice Aw r.whens.length cw, .int .i64 r.h0, .int .i64 r.h1, .int .i64 r.days, .int .i64 r.s0, .int .i64 r.s1, .bool r.forbid, .slice Ac r.counts.length cc, .int .i64 r.cost] 58)).heap.size = w.heap.size + 1 := size_alloc _ _
  generalize w.alloc (.cells #[.string r.name, .slice Ar r.roads.length cr, .slice Aw r.whens.length cw, .int .i64 r.h0, .int .i64 r.h1, .int .i64 r.days, .int .i64 r.s0, .int .i64 r.s1, .bool r.forbid, .slice Ac r.counts.length cc, .int .i64 r.cost] 58) = W0 at *
  have e1 : Ext W0 (W0.alloc (.cells #[.int .i64 c.start, .slice At c.things.length ct] 83)) := (Ext.refl _).alloc _
  have c0 : (W0.alloc (.cells #[.int .i64 c.start, .slice At c.things.length ct] 83)).cell? ⟨W0.heap.size, 0, none⟩ = some (.int .i64 c.start) := World.cell?_alloc_new _ _ _ _
  have c1 : (W0.alloc (.cells #[.int .i64 c.start, .slice At c.things.length ct] 83)).cell? ⟨W0.heap.size, 1, none⟩ = some (.slice At c.things.length ct) := World.cell?_alloc_new _ _ _ _
  rw [z0] at c0 c1
  generalize W0.alloc (.cells #[.int .i64 c.start, .slice At c.things.length ct] 83) = W1 at *
  have E1 := e0.trans e1
  replace g0 := e1.cell g0
  replace g1 := e1.cell g1
  replace g2 := e1.cell g2
  replace g3 := e1.cell g3
  replace g4 := e1.cell g4
  replace g5 := e1.cell g5
  replace g6 := e1.cell g6
  replace g7 := e1.cell g7
  replace g8 := e1.cell g8
  replace g9 := e1.cell g9
  replace g10 := e1.cell g10
  have m0 := E1.cell hm
  have HG := Lib.hid (And.intro g9 c1)
  clear e0 e1 z0
  go_wp2_with fail
  go_loopw [7, 12] (fun _ i wr => ∃ k : Nat, k ≤ n ∧ i = .int .i64 k ∧ (List.range k).all (fun i => allowsB r (c.start + (i : Int))) = true ∧ Ext W1 wr) (fun _ i _ => n - (intOf i).toNat)
  case atStart => exact ⟨0, by omega, rfl, by simp, Ext.refl _⟩
  case round =>
    obtain ⟨k, hk, rfl, ha, hb⟩ := hrel
    have HA := Lib.hid ha
    clear ha
    by_cases hltk : k < n
    · have C3 := fun w' (h : Ext W1 w') => C1.out k w' (E1.trans h) hltk
      have hlk : (k : Int) < (n : Int) := by omega
      have hwr := IntWalk.i64_in (c.start + (k : Int)) (by omega)
      obtain ⟨z, hz⟩ : ∃ z, allowsB r (c.start + (k : Int)) = z := ⟨_, rfl⟩
      rw [hz] at C3
      have HZ := Lib.hid hz
      replace C3 := Lib.hid C3
      clear hz
      have d0 := hb.cell g0
      have d1 := hb.cell g1
      have d2 := hb.cell g2
      have d3 := hb.cell g3
      have d4 := hb.cell g4
      have d5 := hb.cell g5
      have d6 := hb.cell g6
      have d7 := hb.cell g7
      have d8 := hb.cell g8
      have d9 := hb.cell g9
      have d10 := hb.cell g10
      have d11 := hb.cell c0
      cases z
      · obtain rfl : q = true := by rw [← HQ.out, range_bad hltk HZ.out]; rfl
        go_wp2_with (go_at_call 99; refine (C3.out _ (by (repeat' (first | exact Ext.refl _ | assumption | refine Ext.alloc ?_ _ | refine Ext.drew ?_ | refine Ext.drewN ?_ _ | refine Ext.set ?_ (by first | exact Nat.le_refl _ | exact le1 _ | exact le2 _ | exact le3 _ | exact le4 _ | exact le5 _ | exact le6 _) _ | refine Ext.trans ?_ (by assumption))))).mono ?_; rintro e w2 ⟨rfl, hb2⟩)
        go_ret
        exact ⟨rfl, E1.trans (hb.trans hb2)⟩
      · go_wp2_with (go_at_call 99; refine (C3.out _ (by (repeat' (first | exact Ext.refl _ | assumption | refine Ext.alloc ?_ _ | refine Ext.drew ?_ | refine Ext.drewN ?_ _ | refine Ext.set ?_ (by first | exact Nat.le_refl _ | exact le1 _ | exact le2 _ | exact le3 _ | exact le4 _ | exact le5 _ | exact le6 _) _ | refine Ext.trans ?_ (by assumption))))).mono ?_; rintro e w2 ⟨rfl, hb2⟩)
        go_roundw
        case rel => exact ⟨k + 1, by omega, by go_num, range_snoc HA.out HZ.out, hb.trans hb2⟩
        case measure => simp [intOf]; omega
    · obtain rfl : k = n := by omega
      obtain rfl : q = u := by rw [← HQ.out, HA.out]; rfl
      have d9 := hb.cell HG.out.1
      have d1 := hb.cell HG.out.2
      clear g0 g1 g2 g3 g4 g5 g6 g7 g8 g9 g10
      go_wp2_with (go_at_call 100; refine (C2.out _ _ (E1.trans hb) d1).mono ?_; rintro e w2 ⟨rfl, hb2⟩)
      go_ret
      exact ⟨rfl, E1.trans (hb.trans hb2)⟩

set_option maxRecDepth 100000 in
set_option maxHeartbeats 3200000 in
theorem Breaks_c (n : Nat) (vr vw vc v : Value) (r : PRule) (c : PCross) (w : World) (hs : RSls w vr vw vc r) (hv : ruleB r = true) (hc : Sl 3 RCount w v c.things)
    (h0 : 0 ≤ c.start) (h1 : c.start ≤ 1099511627776) (hn : n ≤ 10080) :
    Calls Try.prog 103 #[.agg #[.string r.name, vr, vw, .int .i64 r.h0, .int .i64 r.h1, .int .i64 r.days, .int .i64 r.s0, .int .i64 r.s1, .bool r.forbid, vc, .int .i64 r.cost], .int .i64 (n : Int), .agg #[.int .i64 c.start, v]] w fun e w' => e = .returned (.bool (breaksB r n c)) ∧ Ext w w' := by
  have C1 := fun (k : Nat) w' (h : Ext w w') (hk : k < n) => Allows_c vr vw vc r (c.start + (k : Int)) w' (hs.ext h) hv (by omega) (by omega)
  have C2 := fun nm w' (h : Ext w w') => many_c c v nm w' (hc.ext RCount.stable h)
  have hrc := (ruleB_parts hv).2.2.2.2.2.2.2.2.1
  obtain ⟨hr, hw, hcc⟩ := hs
  obtain ⟨Ar, cr, rfl, lr, lr2⟩ := hr.shape
  obtain ⟨Aw, cw, rfl, lw, lw2⟩ := hw.shape
  obtain ⟨Ac, cc, rfl, lc, lc2⟩ := hcc.shape
  obtain ⟨At, ct, rfl, lt, lt2⟩ := hc.shape
  obtain ⟨q, hq⟩ : ∃ z, breaksB r n c = z := ⟨_, rfl⟩
  rw [hq]
  unfold breaksB runB at hq
  have HQ := Lib.hid hq
  have HCC := Lib.hid hcc
  replace C1 := Lib.hid C1
  replace C2 := Lib.hid C2
  clear hr hw hcc hc hv hq
  go_enter Try.func103, Try.ntmps103
  go_upto_region 1 with fail
  have e0 : Ext w (w.alloc (.cells #[.string r.name, .slice Ar r.roads.length cr, .slice Aw r.whens.length cw, .int .i64 r.h0, .int .i64 r.h1, .int .i64 r.days, .int .i64 r.s0, .int .i64 r.s1, .bool r.forbid, .slice Ac r.counts.length cc, .int .i64 r.cost] 58)) := (Ext.refl _).alloc _
  have g0 : (w.alloc (.cells #[.string r.name, .slice Ar r.roads.length cr, .slice Aw r.whens.length cw, .int .i64 r.h0, .int .i64 r.h1, .int .i64 r.days, .int .i64 r.s0, .int .i64 r.s1, .bool r.forbid, .slice Ac r.counts.length cc, .int .i64 r.cost] 58)).cell? ⟨w.heap.size, 0, none⟩ = some (.string r.name) := World.cell?_alloc_new _ _ _ _
  have g1 : (w.alloc (.cells #[.string r.name, .slice Ar r.roads.length cr, .slice Aw r.whens.length cw, .int .i64 r.h0, .int .i64 r.h1, .int .i64 r.days, .int .i64 r.s0, .int .i64 r.s1, .bool r.forbid, .slice Ac r.counts.length cc, .int .i64 r.cost] 58)).cell? ⟨w.heap.size, 1, none⟩ = some (.slice Ar r.roads.length cr) := World.cell?_alloc_new _ _ _ _
  have g2 : (w.alloc (.cells #[.string r.name, .slice Ar r.roads.length cr, .slice Aw r.whens.length cw, .int .i64 r.h0, .int .i64 r.h1, .int .i64 r.days, .int .i64 r.s0, .int .i64 r.s1, .bool r.forbid, .slice Ac r.counts.length cc, .int .i64 r.cost] 58)).cell? ⟨w.heap.size, 2, none⟩ = some (.slice Aw r.whens.length cw) := World.cell?_alloc_new _ _ _ _
  have g3 : (w.alloc (.cells #[.string r.name, .slice Ar r.roads.length cr, .slice Aw r.whens.length cw, .int .i64 r.h0, .int .i64 r.h1, .int .i64 r.days, .int .i64 r.s0, .int .i64 r.s1, .bool r.forbid, .slice Ac r.counts.length cc, .int .i64 r.cost] 58)).cell? ⟨w.heap.size, 3, none⟩ = some (.int .i64 r.h0) := World.cell?_alloc_new _ _ _ _
  have g4 : (w.alloc (.cells #[.string r.name, .slice Ar r.roads.length cr, .slice Aw r.whens.length cw, .int .i64 r.h0, .int .i64 r.h1, .int .i64 r.days, .int .i64 r.s0, .int .i64 r.s1, .bool r.forbid, .slice Ac r.counts.length cc, .int .i64 r.cost] 58)).cell? ⟨w.heap.size, 4, none⟩ = some (.int .i64 r.h1) := World.cell?_alloc_new _ _ _ _
  have g5 : (w.alloc (.cells #[.string r.name, .slice Ar r.roads.length cr, .slice Aw r.whens.length cw, .int .i64 r.h0, .int .i64 r.h1, .int .i64 r.days, .int .i64 r.s0, .int .i64 r.s1, .bool r.forbid, .slice Ac r.counts.length cc, .int .i64 r.cost] 58)).cell? ⟨w.heap.size, 5, none⟩ = some (.int .i64 r.days) := World.cell?_alloc_new _ _ _ _
  have g6 : (w.alloc (.cells #[.string r.name, .slice Ar r.roads.length cr, .slice Aw r.whens.length cw, .int .i64 r.h0, .int .i64 r.h1, .int .i64 r.days, .int .i64 r.s0, .int .i64 r.s1, .bool r.forbid, .slice Ac r.counts.length cc, .int .i64 r.cost] 58)).cell? ⟨w.heap.size, 6, none⟩ = some (.int .i64 r.s0) := World.cell?_alloc_new _ _ _ _
  have g7 : (w.alloc (.cells #[.string r.name, .slice Ar r.roads.length cr, .slice Aw r.whens.length cw, .int .i64 r.h0, .int .i64 r.h1, .int .i64 r.days, .int .i64 r.s0, .int .i64 r.s1, .bool r.forbid, .slice Ac r.counts.length cc, .int .i64 r.cost] 58)).cell? ⟨w.heap.size, 7, none⟩ = some (.int .i64 r.s1) := World.cell?_alloc_new _ _ _ _
  have g8 : (w.alloc (.cells #[.string r.name, .slice Ar r.roads.length cr, .slice Aw r.whens.length cw, .int .i64 r.h0, .int .i64 r.h1, .int .i64 r.days, .int .i64 r.s0, .int .i64 r.s1, .bool r.forbid, .slice Ac r.counts.length cc, .int .i64 r.cost] 58)).cell? ⟨w.heap.size, 8, none⟩ = some (.bool r.forbid) := World.cell?_alloc_new _ _ _ _
  have g9 : (w.alloc (.cells #[.string r.name, .slice Ar r.roads.length cr, .slice Aw r.whens.length cw, .int .i64 r.h0, .int .i64 r.h1, .int .i64 r.days, .int .i64 r.s0, .int .i64 r.s1, .bool r.forbid, .slice Ac r.counts.length cc, .int .i64 r.cost] 58)).cell? ⟨w.heap.size, 9, none⟩ = some (.slice Ac r.counts.length cc) := World.cell?_alloc_new _ _ _ _
  have g10 : (w.alloc (.cells #[.string r.name, .slice Ar r.roads.length cr, .slice Aw r.whens.length cw, .int .i64 r.h0, .int .i64 r.h1, .int .i64 r.days, .int .i64 r.s0, .int .i64 r.s1, .bool r.forbid, .slice Ac r.counts.length cc, .int .i64 r.cost] 58)).cell? ⟨w.heap.size, 10, none⟩ = some (.int .i64 r.cost) := World.cell?_alloc_new _ _ _ _
  have z0 : (w.alloc (.cells #[.string r.name, .slice Ar r.roads.length cr, .slice Aw r.whens.length cw, .int .i64 r.h0, .int .i64 r.h1, .int .i64 r.days, .int .i64 r.s0, .int .i64 r.s1, .bool r.forbid, .slice Ac r.counts.length cc, .int .i64 r.cost] 58)).heap.size = w.heap.size + 1 := size_alloc _ _
  generalize w.alloc (.cells #[.string r.name, .slice Ar r.roads.length cr, .slice Aw r.whens.length cw, .int .i64 r.h0, .int .i64 r.h1, .int .i64 r.days, .int .i64 r.s0, .int .i64 r.s1, .bool r.forbid, .slice Ac r.counts.length cc, .int .i64 r.cost] 58) = W0 at *
  have e1 : Ext W0 (W0.alloc (.cells #[.int .i64 c.start, .slice At c.things.length ct] 83)) := (Ext.refl _).alloc _
  have c0 : (W0.alloc (.cells #[.int .i64 c.start, .slice At c.things.length ct] 83)).cell? ⟨W0.heap.size, 0, none⟩ = some (.int .i64 c.start) := World.cell?_alloc_new _ _ _ _
  have c1 : (W0.alloc (.cells #[.int .i64 c.start, .slice At c.things.length ct] 83)).cell? ⟨W0.heap.size, 1, none⟩ = some (.slice At c.things.length ct) := World.cell?_alloc_new _ _ _ _
  rw [z0] at c0 c1
  generalize W0.alloc (.cells #[.int .i64 c.start, .slice At c.things.length ct] 83) = W1 at *
  have E1 := e0.trans e1
  replace g0 := e1.cell g0
  replace g1 := e1.cell g1
  replace g2 := e1.cell g2
  replace g3 := e1.cell g3
  replace g4 := e1.cell g4
  replace g5 := e1.cell g5
  replace g6 := e1.cell g6
  replace g7 := e1.cell g7
  replace g8 := e1.cell g8
  replace g9 := e1.cell g9
  replace g10 := e1.cell g10
  have HG := Lib.hid (And.intro g9 (And.intro c0 c1))
  have hw9 := IntWalk.i64_in (c.start + (n : Int)) (by omega)
  clear e0 e1 z0
  go_wp2_with fail
  go_loopw [7] (fun i wr => ∃ k : Nat, k ≤ n ∧ i = .int .i64 (c.start + (k : Int)) ∧ (List.range k).all (fun i => allowsB r (c.start + (i : Int))) = true ∧ Ext W1 wr) (fun i _ => (c.start + (n : Int) - intOf i).toNat)
  case atStart => exact ⟨0, by omega, by simp, by simp, Ext.refl _⟩
  case round =>
    obtain ⟨k, hk, rfl, ha, hb⟩ := hrel
    obtain ⟨wA, hwA⟩ : ∃ z : World, z = wr := ⟨_, rfl⟩
    subst hwA
    have HA := Lib.hid ha
    have d11 := hb.cell c0
    clear ha
    by_cases hltk : k < n
    · have C3 := fun w' (h : Ext W1 w') => C1.out k w' (E1.trans h) hltk
      have hlk : c.start + (k : Int) < c.start + (n : Int) := by omega
      have hwr := IntWalk.i64_in (c.start + (k : Int)) (by omega)
      have hwr2 := IntWalk.i64_in (c.start + (k : Int) + 1) (by omega)
      obtain ⟨z, hz⟩ : ∃ z, allowsB r (c.start + (k : Int)) = z := ⟨_, rfl⟩
      rw [hz] at C3
      have HZ := Lib.hid hz
      replace C3 := Lib.hid C3
      clear hz
      have d0 := hb.cell g0
      have d1 := hb.cell g1
      have d2 := hb.cell g2
      have d3 := hb.cell g3
      have d4 := hb.cell g4
      have d5 := hb.cell g5
      have d6 := hb.cell g6
      have d7 := hb.cell g7
      have d8 := hb.cell g8
      have d9 := hb.cell g9
      have d10 := hb.cell g10
      cases z
      · obtain rfl : q = true := by rw [← HQ.out, range_bad hltk HZ.out]; rfl
        go_wp2_with (go_at_call 59; refine (C3.out _ (by (repeat' (first | exact Ext.refl _ | assumption | refine Ext.alloc ?_ _ | refine Ext.drew ?_ | refine Ext.drewN ?_ _ | refine Ext.set ?_ (by first | exact Nat.le_refl _ | exact le1 _ | exact le2 _ | exact le3 _ | exact le4 _ | exact le5 _ | exact le6 _) _ | refine Ext.trans ?_ (by assumption))))).mono ?_; rintro e w2 ⟨rfl, hb2⟩)
        go_ret
        exact ⟨rfl, E1.trans (hb.trans hb2)⟩
      · go_wp2_with (go_at_call 59; refine (C3.out _ (by (repeat' (first | exact Ext.refl _ | assumption | refine Ext.alloc ?_ _ | refine Ext.drew ?_ | refine Ext.drewN ?_ _ | refine Ext.set ?_ (by first | exact Nat.le_refl _ | exact le1 _ | exact le2 _ | exact le3 _ | exact le4 _ | exact le5 _ | exact le6 _) _ | refine Ext.trans ?_ (by assumption))))).mono ?_; rintro e w2 ⟨rfl, hb2⟩)
        go_roundw
        case rel => exact ⟨k + 1, by omega, by go_num, range_snoc HA.out HZ.out, hb.trans hb2⟩
        case measure => simp [intOf]; omega
    · obtain rfl : k = n := by omega
      have HQ2 := Lib.hid (show r.counts.any (cntBad c) = q by rw [← HQ.out, HA.out]; rfl)
      clear g0 g1 g2 g3 g4 g5 g6 g7 g8 g9 g10 c0 c1
      go_wp2_with fail
      go_loopw [8, 9] (fun i _ wr => ∃ j : Nat, j ≤ r.counts.length ∧ i = .int .i64 j ∧ (r.counts.take j).any (cntBad c) = false ∧ Ext wA wr) (fun i _ _ => r.counts.length - (intOf i).toNat)
      case atStart => exact ⟨0, by omega, rfl, by simp, Ext.refl _⟩
      case round =>
        obtain ⟨j, hj, rfl, ha, hE⟩ := hrel
        have HA2 := Lib.hid ha
        clear ha
        obtain ⟨wB, hwB⟩ : ∃ z : World, z = wr := ⟨_, rfl⟩
        subst hwB
        have E2 := hb.trans hE
        have g9 := E2.cell HG.out.1
        by_cases hltj : j < r.counts.length
        · obtain ⟨x, hx⟩ := some_of_lt hltj
          obtain ⟨b, off, cs, rfl, hnn, rfl, hc⟩ := (HCC.out.ext RCount.stable (E1.trans E2)).at hx
          have k0 := hc 0 _ rfl
          have k1 := hc 1 _ rfl
          have k2 := hc 2 _ rfl
          simp only [Nat.add_zero] at k0
          have c0 := E2.cell HG.out.2.1
          have c1 := E2.cell HG.out.2.2
          have HX := Lib.hid hx
          have CM := Lib.hid (fun w' (h : Ext wB w') => C2.out x.thing w' (E1.trans (E2.trans h)))
          have HB := Lib.hid (show cntBad c x = !inB (manyN c.things x.thing) x.least x.most from rfl)
          generalize manyN c.things x.thing = y at *
          have i1 : (0 : Int) ≤ (j : Int) := by omega
          have i2 : (j : Int) < (r.counts.length : Int) := by omega
          clear hc hnn hx
          go_upto_region 9 with fail
          go_region_held3 (fun w' => w'.cell? ⟨w.heap.size + 1, 0, none⟩ = some (.int .i64 c.start) ∧ w'.cell? ⟨w.heap.size + 1, 1, none⟩ = some (.slice At c.things.length ct) ∧ w'.cell? ⟨w.heap.size, 9, none⟩ = some (.slice (some ⟨b, off, none⟩) r.counts.length cc) ∧ w'.cell? ⟨b, off + j * 3, none⟩ = some (.string x.thing)) (refine ⟨?_, ?_, ?_, ?_⟩ <;> (repeat' (with_reducible (first | assumption | refine Ext.cell hb7 ?_ | refine Ext.cell (Ext.refl _).drew ?_)))) ((go_at_call 120; (with_reducible refine (CM.out _ (by (repeat' (first | exact Ext.refl _ | assumption | refine Ext.alloc ?_ _ | refine Ext.drew ?_ | refine Ext.drewN ?_ _ | refine Ext.set ?_ (by first | exact Nat.le_refl _ | exact le1 _ | exact le2 _ | exact le3 _ | exact le4 _ | exact le5 _ | exact le6 _) _ | refine Ext.trans ?_ (by assumption))))).mono ?_); rintro e w7 ⟨rfl, hb7⟩))
          have E7 : Ext wB w7 := by (repeat' (first | exact Ext.refl _ | assumption | refine Ext.alloc ?_ _ | refine Ext.drew ?_ | refine Ext.drewN ?_ _ | refine Ext.set ?_ (by first | exact Nat.le_refl _ | exact le1 _ | exact le2 _ | exact le3 _ | exact le4 _ | exact le5 _ | exact le6 _) _ | refine Ext.trans ?_ (by assumption)))
          have s0 := E7.cell k1
          have s1 := E7.cell k2
          have s2 := E7.cell g9
          by_cases hlo : y < x.least
          · obtain rfl : q = true := by rw [← HQ2.out]; exact any_yes HX.out (by rw [HB.out, show inB y x.least x.most = false from (inB_no1 hlo).symm]; rfl)
            go_wp2_with fail
            go_ret
            exact ⟨rfl, E1.trans (E2.trans E7)⟩
          · by_cases hhi : x.most < y
            · obtain rfl : q = true := by rw [← HQ2.out]; exact any_yes HX.out (by rw [HB.out, show inB y x.least x.most = false from (inB_no2 hhi).symm]; rfl)
              go_wp2_with fail
              go_ret
              exact ⟨rfl, E1.trans (E2.trans E7)⟩
            · have HOK := Lib.hid (show cntBad c x = false by rw [HB.out, show inB y x.least x.most = true from inB_iff.2 ⟨by omega, by omega⟩]; rfl)
              go_wp2_with fail
              go_roundw
              case rel => exact ⟨j + 1, by omega, by go_num, any_take HX.out HA2.out HOK.out, hE.trans E7⟩
              case measure => simp [intOf]; omega
        · obtain rfl : j = r.counts.length := by omega
          obtain rfl : q = false := by rw [← HQ2.out]; have h := HA2.out; rwa [List.take_length] at h
          go_wp2_with fail
          go_ret
          exact ⟨rfl, E1.trans E2⟩
end Go.Proofs.Ytaomlmkcifpfkaa
