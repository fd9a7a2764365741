/- PSetAll: several texts in one. -/
import Derived.Test.YtaomlmkcifpfkaaPDayAll
/- Contracts: what a set of rules does (forbid). -/
namespace Go.Proofs.Ytaomlmkcifpfkaa
open Go.RowKit

set_option maxHeartbeats 800000 in
theorem forbid1_c (vr vw vc : Value) (r : PRule) (w : World) (hs : RSls w vr vw vc r) :
    Calls Try.prog 113 #[.agg #[.string r.name, vr, vw, .int .i64 r.h0, .int .i64 r.h1, .int .i64 r.days, .int .i64 r.s0, .int .i64 r.s1, .bool r.forbid, vc, .int .i64 r.cost]] w fun e w' => e = .returned (.bool r.forbid) ∧ Ext w w' := by
  obtain ⟨hr, hw, hcc⟩ := hs
  obtain ⟨Ar, cr, rfl, lr, lr2⟩ := hr.shape
  obtain ⟨Aw, cw, rfl, lw, lw2⟩ := hw.shape
  obtain ⟨Ac, cc, rfl, lc, lc2⟩ := hcc.shape
  generalize r.forbid = q at *
  clear hr hw hcc
  go_enter Try.func113, Try.ntmps113
  go_wp2_with fail
  go_ret
  exact ⟨rfl, by (repeat' (first | exact Ext.refl _ | assumption | refine Ext.alloc ?_ _ | refine Ext.drew ?_ | refine Ext.drewN ?_ _ | refine Ext.set ?_ (by first | exact Nat.le_refl _ | exact le1 _ | exact le2 _ | exact le3 _ | exact le4 _ | exact le5 _ | exact le6 _) _ | refine Ext.trans ?_ (by assumption)))⟩

set_option maxHeartbeats 800000 in
theorem forbids_c (v : Value) (l : List PRule) (w : World) (hs : Sl 11 RRule w v l) :
    Calls Try.prog 112 #[v, .func (.func 113) #[] #[]] w fun e w' => e = .returned (.bool (l.any fun r => r.forbid)) ∧ Ext w w' := by
  refine ContainsFuncSet_c RRule.stable 113 _ (enters_of Try.func113 (by kernel_rfl) rfl) _ v l w hs ?_
  rintro W cs x he ⟨vr, vw, vc, rfl, hx⟩ hm
  exact forbid1_c vr vw vc x W hx

set_option maxHeartbeats 800000 in
theorem forbid_c (v : Value) (l : List PRule) (w : World) (hs : Sl 11 RRule w v l) :
    Calls Try.prog 93 #[v] w fun e w' => e = .returned (.bool (l.any fun r => r.forbid)) ∧ Ext w w' := by
  have C2 := forbids_c v l w hs
  obtain ⟨A, cap, rfl, hl, hl2⟩ := hs.shape
  generalize (l.any fun r => r.forbid) = q at *
  clear hs
  replace C2 := Lib.hid C2
  go_enter Try.func93, Try.ntmps93
  go_wp2_with (go_at_call 112; refine C2.out.mono ?_; rintro e w1 ⟨rfl, hb1⟩)
  go_ret
  exact ⟨rfl, by (repeat' (first | exact Ext.refl _ | assumption | refine Ext.alloc ?_ _ | refine Ext.drew ?_ | refine Ext.drewN ?_ _ | refine Ext.set ?_ (by first | exact Nat.le_refl _ | exact le1 _ | exact le2 _ | exact le3 _ | exact le4 _ | exact le5 _ | exact le6 _) _ | refine Ext.trans ?_ (by assumption)))⟩
set_option maxHeartbeats 800000 in
theorem hours1_c (vr vw vc : Value) (r : PRule) (w : World) (hs : RSls w vr vw vc r) :
    Calls Try.prog 115 #[.agg #[.string r.name, vr, vw, .int .i64 r.h0, .int .i64 r.h1, .int .i64 r.days, .int .i64 r.s0, .int .i64 r.s1, .bool r.forbid, vc, .int .i64 r.cost]] w fun e w' => e = .returned (.agg #[.int .i64 r.h0, .int .i64 r.h1]) ∧ Ext w w' := by
  obtain ⟨hr, hw, hcc⟩ := hs
  obtain ⟨Ar, cr, rfl, lr, lr2⟩ := hr.shape
  obtain ⟨Aw, cw, rfl, lw, lw2⟩ := hw.shape
  obtain ⟨Ac, cc, rfl, lc, lc2⟩ := hcc.shape
  clear hr hw hcc
  go_enter Try.func115, Try.ntmps115
  go_wp2_with fail
  exact bodyPost_ret (v := .agg #[.int .i64 r.h0, .int .i64 r.h1]) (by simp [results, Try.results115, go_sem]) rfl ⟨rfl, by (repeat' (first | exact Ext.refl _ | assumption | refine Ext.alloc ?_ _ | refine Ext.drew ?_ | refine Ext.drewN ?_ _ | refine Ext.set ?_ (by first | exact Nat.le_refl _ | exact le1 _ | exact le2 _ | exact le3 _ | exact le4 _ | exact le5 _ | exact le6 _) _ | refine Ext.trans ?_ (by assumption)))⟩

set_option maxHeartbeats 800000 in
theorem season1_c (vr vw vc : Value) (r : PRule) (w : World) (hs : RSls w vr vw vc r) :
    Calls Try.prog 116 #[.agg #[.string r.name, vr, vw, .int .i64 r.h0, .int .i64 r.h1, .int .i64 r.days, .int .i64 r.s0, .int .i64 r.s1, .bool r.forbid, vc, .int .i64 r.cost]] w fun e w' => e = .returned (.agg #[.int .i64 r.s0, .int .i64 r.s1]) ∧ Ext w w' := by
  obtain ⟨hr, hw, hcc⟩ := hs
  obtain ⟨Ar, cr, rfl, lr, lr2⟩ := hr.shape
  obtain ⟨Aw, cw, rfl, lw, lw2⟩ := hw.shape
  obtain ⟨Ac, cc, rfl, lc, lc2⟩ := hcc.shape
  clear hr hw hcc
  go_enter Try.func116, Try.ntmps116
  go_wp2_with fail
  exact bodyPost_ret (v := .agg #[.int .i64 r.s0, .int .i64 r.s1]) (by simp [results, Try.results116, go_sem]) rfl ⟨rfl, by (repeat' (first | exact Ext.refl _ | assumption | refine Ext.alloc ?_ _ | refine Ext.drew ?_ | refine Ext.drewN ?_ _ | refine Ext.set ?_ (by first | exact Nat.le_refl _ | exact le1 _ | exact le2 _ | exact le3 _ | exact le4 _ | exact le5 _ | exact le6 _) _ | refine Ext.trans ?_ (by assumption)))⟩

end Go.Proofs.Ytaomlmkcifpfkaa
/- Contracts: is there no number that all rules of a set allow. -/
namespace Go.Proofs.Ytaomlmkcifpfkaa
open Go.RowKit

/-- a function value picks two numbers of a rule -/
def PickR (g : Nat) (sel : PRule → Int × Int) : Prop :=
  (∀ args w, (callFunc g args).run Try.prog w = .ok (.enter g args) w) ∧
  ∀ W vr vw vc r, RSls W vr vw vc r → Calls Try.prog g #[.agg #[.string r.name, vr, vw, .int .i64 r.h0, .int .i64 r.h1, .int .i64 r.days, .int .i64 r.s0, .int .i64 r.s1, .bool r.forbid, vc, .int .i64 r.cost]] W fun e w' => e = .returned (.agg #[.int .i64 (sel r).1, .int .i64 (sel r).2]) ∧ Ext W w'

set_option maxRecDepth 100000 in
set_option maxHeartbeats 1600000 in
theorem empty1_c (g : Nat) (sel : PRule → Int × Int) (hg : PickR g sel) (m : Int) (B C : Nat) (vr vw vc : Value) (r : PRule) (w : World) (hs : RSls w vr vw vc r)
    (h1 : -1000000 ≤ (sel r).1 ∧ (sel r).1 ≤ 1000000) (h2 : -1000000 ≤ (sel r).2 ∧ (sel r).2 ≤ 1000000)
    (hm : w.cell? ⟨B, 0, none⟩ = some (.int .i64 m)) (hf : w.cell? ⟨C, 0, none⟩ = some (.func (.func g) #[] #[])) :
    Calls Try.prog 124 #[.agg #[.string r.name, vr, vw, .int .i64 r.h0, .int .i64 r.h1, .int .i64 r.days, .int .i64 r.s0, .int .i64 r.s1, .bool r.forbid, vc, .int .i64 r.cost], .pointer (some ⟨B, 0, none⟩), .pointer (some ⟨C, 0, none⟩)] w fun e w' => e = .returned (.bool (!liesB m (sel r).1 (sel r).2)) ∧ Ext w w' := by
  have C1 := fun w' => lies_c m (sel r).1 (sel r).2 w' h1 h2
  have C2 := fun w' (hE : Ext w w') => hg.2 w' vr vw vc r (hs.ext hE)
  have eg := hg.1
  have hB := lt_of_cell hm
  have hC := lt_of_cell hf
  obtain ⟨hr, hw, hcc⟩ := hs
  obtain ⟨Ar, cr, rfl, lr, lr2⟩ := hr.shape
  obtain ⟨Aw, cw, rfl, lw, lw2⟩ := hw.shape
  obtain ⟨Ac, cc, rfl, lc, lc2⟩ := hcc.shape
  generalize liesB m (sel r).1 (sel r).2 = q at *
  generalize (sel r).1 = s0 at *
  generalize (sel r).2 = s1 at *
  clear hr hw hcc hg
  replace C1 := Lib.hid C1
  replace C2 := Lib.hid C2
  obtain ⟨W0, hW0⟩ : ∃ W0, w.alloc (.cells #[.string r.name, .slice Ar r.roads.length cr, .slice Aw r.whens.length cw, .int .i64 r.h0, .int .i64 r.h1, .int .i64 r.days, .int .i64 r.s0, .int .i64 r.s1, .bool r.forbid, .slice Ac r.counts.length cc, .int .i64 r.cost] 58) = W0 := ⟨_, rfl⟩
  have hE0 : Ext w W0 := by rw [← hW0]; (repeat' (first | exact Ext.refl _ | assumption | refine Ext.alloc ?_ _ | refine Ext.drew ?_ | refine Ext.drewN ?_ _ | refine Ext.set ?_ (by first | exact Nat.le_refl _ | exact le1 _ | exact le2 _ | exact le3 _ | exact le4 _ | exact le5 _ | exact le6 _) _ | refine Ext.trans ?_ (by assumption)))
  have g0 : W0.cell? ⟨w.heap.size, 0, none⟩ = some (.string r.name) := by rw [← hW0]; exact World.cell?_alloc_new _ _ _ _
  have g1 : W0.cell? ⟨w.heap.size, 1, none⟩ = some (.slice Ar r.roads.length cr) := by rw [← hW0]; exact World.cell?_alloc_new _ _ _ _
  have g2 : W0.cell? ⟨w.heap.size, 2, none⟩ = some (.slice Aw r.whens.length cw) := by rw [← hW0]; exact World.cell?_alloc_new _ _ _ _
  have g3 : W0.cell? ⟨w.heap.size, 3, none⟩ = some (.int .i64 r.h0) := by rw [← hW0]; exact World.cell?_alloc_new _ _ _ _
  have g4 : W0.cell? ⟨w.heap.size, 4, none⟩ = some (.int .i64 r.h1) := by rw [← hW0]; exact World.cell?_alloc_new _ _ _ _
  have g5 : W0.cell? ⟨w.heap.size, 5, none⟩ = some (.int .i64 r.days) := by rw [← hW0]; exact World.cell?_alloc_new _ _ _ _
  have g6 : W0.cell? ⟨w.heap.size, 6, none⟩ = some (.int .i64 r.s0) := by rw [← hW0]; exact World.cell?_alloc_new _ _ _ _
  have g7 : W0.cell? ⟨w.heap.size, 7, none⟩ = some (.int .i64 r.s1) := by rw [← hW0]; exact World.cell?_alloc_new _ _ _ _
  have g8 : W0.cell? ⟨w.heap.size, 8, none⟩ = some (.bool r.forbid) := by rw [← hW0]; exact World.cell?_alloc_new _ _ _ _
  have g9 : W0.cell? ⟨w.heap.size, 9, none⟩ = some (.slice Ac r.counts.length cc) := by rw [← hW0]; exact World.cell?_alloc_new _ _ _ _
  have g10 : W0.cell? ⟨w.heap.size, 10, none⟩ = some (.int .i64 r.cost) := by rw [← hW0]; exact World.cell?_alloc_new _ _ _ _
  have hm0 := hE0.cell hm
  have hf0 := hE0.cell hf
  replace hW0 := Lib.hid hW0
  go_enter Try.func124, Try.ntmps124
  go_wp2_with fail
  rw [hW0.out]
  go_region_with (first | (go_at_fn g; refine (C2.out _ (by (repeat' (first | exact Ext.refl _ | assumption | refine Ext.alloc ?_ _ | refine Ext.drew ?_ | refine Ext.drewN ?_ _ | refine Ext.set ?_ (by first | exact Nat.le_refl _ | exact le1 _ | exact le2 _ | exact le3 _ | exact le4 _ | exact le5 _ | exact le6 _) _ | refine Ext.trans ?_ (by assumption))))).mono ?_; rintro e w1 ⟨rfl, hb1⟩; have hm1 := Ext.cell hb1 hm0) | (go_at_call 110; refine (C1.out _).mono ?_; rintro e w2 ⟨rfl, hb2⟩))
  all_goals
    go_wp2_with fail
    go_ret
    exact ⟨rfl, by (repeat' (first | exact Ext.refl _ | assumption | refine Ext.alloc ?_ _ | refine Ext.drew ?_ | refine Ext.drewN ?_ _ | refine Ext.set ?_ (by first | exact Nat.le_refl _ | exact le1 _ | exact le2 _ | exact le3 _ | exact le4 _ | exact le5 _ | exact le6 _) _ | refine Ext.trans ?_ (by assumption)))⟩
end Go.Proofs.Ytaomlmkcifpfkaa
/- Contracts: empty, hours, season. -/
namespace Go.Proofs.Ytaomlmkcifpfkaa
open Go.RowKit

def holdB (l : List PRule) (sel : PRule → Int × Int) (m : Nat) : Bool := l.any fun r => !liesB (m : Int) (sel r).1 (sel r).2
def emptyB (l : List PRule) (n : Nat) (sel : PRule → Int × Int) : Bool := (List.range n).all (holdB l sel)
def SelOk (l : List PRule) (sel : PRule → Int × Int) : Prop := ∀ r ∈ l, (-1000000 ≤ (sel r).1 ∧ (sel r).1 ≤ 1000000) ∧ (-1000000 ≤ (sel r).2 ∧ (sel r).2 ≤ 1000000)

set_option maxHeartbeats 800000 in
theorem holds_c (g : Nat) (sel : PRule → Int × Int) (hg : PickR g sel) (m : Nat) (B C : Nat) (v : Value) (l : List PRule) (w : World) (hs : Sl 11 RRule w v l) (hk : SelOk l sel)
    (hm : w.cell? ⟨B, 0, none⟩ = some (.int .i64 (m : Int))) (hf : w.cell? ⟨C, 0, none⟩ = some (.func (.func g) #[] #[])) :
    Calls Try.prog 112 #[v, .func (.func 124) #[] #[.pointer (some ⟨B, 0, none⟩), .pointer (some ⟨C, 0, none⟩)]] w fun e w' => e = .returned (.bool (holdB l sel m)) ∧ Ext w w' := by
  refine ContainsFuncSet_c RRule.stable 124 _ (enters_of Try.func124 (by kernel_rfl) rfl) _ v l w hs ?_
  rintro W cs x he ⟨vr, vw, vc, rfl, hx⟩ hxl
  exact empty1_c g sel hg m B C vr vw vc x W hx (hk x hxl).1 (hk x hxl).2 (he.cell hm) (he.cell hf)

set_option maxRecDepth 100000 in
set_option maxHeartbeats 1600000 in
theorem empty_c (g : Nat) (sel : PRule → Int × Int) (hg : PickR g sel) (n : Nat) (hn : n ≤ 100000) (v : Value) (l : List PRule) (w : World) (hs : Sl 11 RRule w v l) (hk : SelOk l sel) :
    Calls Try.prog 114 #[v, .int .i64 (n : Int), .func (.func g) #[] #[]] w fun e w' => e = .returned (.bool (emptyB l n sel)) ∧ Ext w w' := by
  have C2 := fun (m : Nat) (B C : Nat) w' (hE : Ext w w') (hm : w'.cell? ⟨B, 0, none⟩ = some (.int .i64 (m : Int))) (hf : w'.cell? ⟨C, 0, none⟩ = some (.func (.func g) #[] #[])) => holds_c g sel hg m B C v l w' (hs.ext RRule.stable hE) hk hm hf
  obtain ⟨A, cap, rfl, hl, hl2⟩ := hs.shape
  obtain ⟨ra, hra⟩ : ∃ z, emptyB l n sel = z := ⟨_, rfl⟩
  rw [hra]
  have HRA := Lib.hid hra
  clear hs hk hg hra
  replace C2 := Lib.hid C2
  go_enter Try.func114, Try.ntmps114
  go_wp2_with fail
  have hE0 : Ext w (w.alloc (.cells #[.func (.func g) #[] #[]] 158)) := by (repeat' (first | exact Ext.refl _ | assumption | refine Ext.alloc ?_ _ | refine Ext.drew ?_ | refine Ext.drewN ?_ _ | refine Ext.set ?_ (by first | exact Nat.le_refl _ | exact le1 _ | exact le2 _ | exact le3 _ | exact le4 _ | exact le5 _ | exact le6 _) _ | refine Ext.trans ?_ (by assumption)))
  have f0 : (w.alloc (.cells #[.func (.func g) #[] #[]] 158)).cell? ⟨w.heap.size, 0, none⟩ = some (.func (.func g) #[] #[]) := World.cell?_alloc_new _ _ _ _
  generalize w.alloc (.cells #[.func (.func g) #[] #[]] 158) = W at *
  go_loopw [7, 9] (fun _ i wr => ∃ k : Nat, k ≤ n ∧ i = .int .i64 k ∧ (List.range k).all (holdB l sel) = true ∧ Ext W wr) (fun _ i _ => n - (intOf i).toNat)
  case atStart => exact ⟨0, by omega, rfl, by simp, Ext.refl _⟩
  case round =>
    obtain ⟨k, hk, rfl, ha, hb⟩ := hrel
    have HA := Lib.hid ha
    have f1 := hb.cell f0
    have hB := lt_of_cell f1
    clear ha
    by_cases hlt : k < n
    · have C3 := C2.out k wr.heap.size w.heap.size
      obtain ⟨z, hz⟩ : ∃ z, holdB l sel k = z := ⟨_, rfl⟩
      rw [hz] at C3
      have HZ := Lib.hid hz
      clear hz
      replace C3 := Lib.hid C3
      cases z
      · obtain rfl : ra = false := HRA.out.symm.trans (by unfold emptyB; rw [List.all_eq_false]; exact ⟨k, List.mem_range.2 hlt, by rw [HZ.out]; simp⟩)
        go_wp2_with (go_at_call 112; refine (C3.out _ (by (repeat' (first | exact Ext.refl _ | assumption | refine Ext.alloc ?_ _ | refine Ext.drew ?_ | refine Ext.drewN ?_ _ | refine Ext.set ?_ (by first | exact Nat.le_refl _ | exact le1 _ | exact le2 _ | exact le3 _ | exact le4 _ | exact le5 _ | exact le6 _) _ | refine Ext.trans ?_ (by assumption)))) (by go_simp) (by go_simp)).mono ?_; rintro e w2 ⟨rfl, hb2⟩)
        go_ret
        exact ⟨by simp, by (repeat' (first | exact Ext.refl _ | assumption | refine Ext.alloc ?_ _ | refine Ext.drew ?_ | refine Ext.drewN ?_ _ | refine Ext.set ?_ (by first | exact Nat.le_refl _ | exact le1 _ | exact le2 _ | exact le3 _ | exact le4 _ | exact le5 _ | exact le6 _) _ | refine Ext.trans ?_ (by assumption)))⟩
      · go_wp2_with (go_at_call 112; refine (C3.out _ (by (repeat' (first | exact Ext.refl _ | assumption | refine Ext.alloc ?_ _ | refine Ext.drew ?_ | refine Ext.drewN ?_ _ | refine Ext.set ?_ (by first | exact Nat.le_refl _ | exact le1 _ | exact le2 _ | exact le3 _ | exact le4 _ | exact le5 _ | exact le6 _) _ | refine Ext.trans ?_ (by assumption)))) (by go_simp) (by go_simp)).mono ?_; rintro e w2 ⟨rfl, hb2⟩)
        go_roundw
        case rel => exact ⟨k + 1, by omega, by go_num, by rw [List.range_succ, List.all_append, HA.out]; simp [HZ.out], by (repeat' (first | exact Ext.refl _ | assumption | refine Ext.alloc ?_ _ | refine Ext.drew ?_ | refine Ext.drewN ?_ _ | refine Ext.set ?_ (by first | exact Nat.le_refl _ | exact le1 _ | exact le2 _ | exact le3 _ | exact le4 _ | exact le5 _ | exact le6 _) _ | refine Ext.trans ?_ (by assumption)))⟩
        case measure => simp [intOf]; omega
    · have hra : ra = true := HRA.out.symm.trans (by unfold emptyB; rw [show n = k by omega]; exact HA.out)
      subst hra
      go_wp2
      go_ret
      exact ⟨by simp, hE0.trans hb⟩

theorem pick_hours : PickR 115 (fun r => (r.h0, r.h1)) :=
  ⟨enters_of Try.func115 (by kernel_rfl) rfl, fun W vr vw vc r h => hours1_c vr vw vc r W h⟩
set_option maxHeartbeats 800000 in
theorem hours_c (v : Value) (l : List PRule) (w : World) (hs : Sl 11 RRule w v l) (hk : SelOk l (fun r => (r.h0, r.h1))) :
    Calls Try.prog 94 #[v] w fun e w' => e = .returned (.bool (emptyB l 1440 (fun r => (r.h0, r.h1)))) ∧ Ext w w' := by
  have C2 := empty_c _ _ pick_hours 1440 (by omega) v l w hs hk
  obtain ⟨A, cap, rfl, hl, hl2⟩ := hs.shape
  generalize emptyB l 1440 (fun r => (r.h0, r.h1)) = q at *
  clear hs hk
  replace C2 := Lib.hid C2
  go_enter Try.func94, Try.ntmps94
  go_wp2_with (go_at_call 114; refine C2.out.mono ?_; rintro e w1 ⟨rfl, hb1⟩)
  go_ret
  exact ⟨rfl, by (repeat' (first | exact Ext.refl _ | assumption | refine Ext.alloc ?_ _ | refine Ext.drew ?_ | refine Ext.drewN ?_ _ | refine Ext.set ?_ (by first | exact Nat.le_refl _ | exact le1 _ | exact le2 _ | exact le3 _ | exact le4 _ | exact le5 _ | exact le6 _) _ | refine Ext.trans ?_ (by assumption)))⟩

theorem pick_season : PickR 116 (fun r => (r.s0, r.s1)) :=
  ⟨enters_of Try.func116 (by kernel_rfl) rfl, fun W vr vw vc r h => season1_c vr vw vc r W h⟩
set_option maxHeartbeats 800000 in
theorem season_c (v : Value) (l : List PRule) (w : World) (hs : Sl 11 RRule w v l) (hk : SelOk l (fun r => (r.s0, r.s1))) :
    Calls Try.prog 96 #[v] w fun e w' => e = .returned (.bool (emptyB l 365 (fun r => (r.s0, r.s1)))) ∧ Ext w w' := by
  have C2 := empty_c _ _ pick_season 365 (by omega) v l w hs hk
  obtain ⟨A, cap, rfl, hl, hl2⟩ := hs.shape
  generalize emptyB l 365 (fun r => (r.s0, r.s1)) = q at *
  clear hs hk
  replace C2 := Lib.hid C2
  go_enter Try.func96, Try.ntmps96
  go_wp2_with (go_at_call 114; refine C2.out.mono ?_; rintro e w1 ⟨rfl, hb1⟩)
  go_ret
  exact ⟨rfl, by (repeat' (first | exact Ext.refl _ | assumption | refine Ext.alloc ?_ _ | refine Ext.drew ?_ | refine Ext.drewN ?_ _ | refine Ext.set ?_ (by first | exact Nat.le_refl _ | exact le1 _ | exact le2 _ | exact le3 _ | exact le4 _ | exact le5 _ | exact le6 _) _ | refine Ext.trans ?_ (by assumption)))⟩
end Go.Proofs.Ytaomlmkcifpfkaa
/- Contracts: the days that all rules of a set have. -/
namespace Go.Proofs.Ytaomlmkcifpfkaa
open Go.RowKit

def daysN (l : List PRule) : Int := l.foldl (fun a r => bits .and .i64 a r.days) 127
theorem daysN_succ {l : List PRule} {k : Nat} {x : PRule} (h : l[k]? = some x) : daysN (l.take (k + 1)) = bits .and .i64 (daysN (l.take k)) x.days := by
  unfold daysN
  rw [List.take_add_one, h]
  simp

set_option maxRecDepth 100000 in
set_option maxHeartbeats 1600000 in
theorem days_c (v : Value) (l : List PRule) (w : World) (hs : Sl 11 RRule w v l) :
    Calls Try.prog 95 #[v] w fun e w' => e = .returned (.bool (daysN l == 0)) ∧ Ext w w' := by
  obtain ⟨A, cap, rfl, hl, hl2⟩ := hs.shape
  have HS := Lib.hid hs
  clear hs
  go_enter Try.func95, Try.ntmps95
  go_wp2_with fail
  go_loopw [3, 5, 8] (fun d _ i wr => ∃ k : Nat, k ≤ l.length ∧ i = .int .i64 k ∧ d = .int .i64 (daysN (l.take k)) ∧ Ext w wr) (fun _ _ i _ => l.length - (intOf i).toNat)
  case atStart => exact ⟨0, by omega, rfl, rfl, Ext.refl _⟩
  case round =>
    obtain ⟨k, hk, rfl, rfl, hb⟩ := hrel
    by_cases hlt : k < l.length
    · obtain ⟨x, hx⟩ := some_of_lt hlt
      obtain ⟨b, off, cs, rfl, hn, ⟨vr, vw, vc, rfl, hr⟩, hc⟩ := (HS.out.ext RRule.stable hb).at hx
      obtain ⟨hr1, hw1, hc1⟩ := hr
      obtain ⟨Ar, cr, rfl, lr, lr2⟩ := hr1.shape
      obtain ⟨Aw, cw, rfl, lw, lw2⟩ := hw1.shape
      obtain ⟨Ac, cc, rfl, lc, lc2⟩ := hc1.shape
      have k0 := hc 0 _ rfl
      have k1 := hc 1 _ rfl
      have k2 := hc 2 _ rfl
      have k3 := hc 3 _ rfl
      have k4 := hc 4 _ rfl
      have k5 := hc 5 _ rfl
      have k6 := hc 6 _ rfl
      have k7 := hc 7 _ rfl
      have k8 := hc 8 _ rfl
      have k9 := hc 9 _ rfl
      have k10 := hc 10 _ rfl
      simp only [Nat.add_zero] at k0
      have HN := Lib.hid (daysN_succ hx)
      clear hc hn hx hr1 hw1 hc1
      generalize daysN (l.take k) = D at *
      go_wp2_with fail
      go_roundw
      case rel => exact ⟨k + 1, by omega, by go_num, by rw [HN.out], by (repeat' (first | exact Ext.refl _ | assumption | refine Ext.alloc ?_ _ | refine Ext.drew ?_ | refine Ext.drewN ?_ _ | refine Ext.set ?_ (by first | exact Nat.le_refl _ | exact le1 _ | exact le2 _ | exact le3 _ | exact le4 _ | exact le5 _ | exact le6 _) _ | refine Ext.trans ?_ (by assumption)))⟩
      case measure => simp [intOf]; omega
    · obtain rfl : k = l.length := by omega
      rw [List.take_length]
      go_wp2
      go_ret
      exact ⟨rfl, hb⟩
end Go.Proofs.Ytaomlmkcifpfkaa
/- Contract: numbers of a thing. -/
namespace Go.Proofs.Ytaomlmkcifpfkaa
open Go.RowKit

def cntStep (nm : ByteArray) (p : Int × Int) (c : PCount) : Int × Int := if c.thing = nm then (max p.1 c.least, min p.2 c.most) else p
def cntR (nm : ByteArray) (p : Int × Int) (r : PRule) : Int × Int := r.counts.foldl (cntStep nm) p
def thingN (nm : ByteArray) (l : List PRule) : Int × Int := l.foldl (cntR nm) (0, 1000)
def thingB (l : List PRule) (nm : ByteArray) : Bool := decide ((thingN nm l).2 < (thingN nm l).1)
theorem thingN_succ {nm : ByteArray} {l : List PRule} {k : Nat} {x : PRule} (h : l[k]? = some x) : thingN nm (l.take (k + 1)) = cntR nm (thingN nm (l.take k)) x := by
  unfold thingN
  rw [List.take_add_one, h]
  simp
theorem cnt_succ {nm : ByteArray} {p : Int × Int} {l : List PCount} {k : Nat} {x : PCount} (h : l[k]? = some x) : (l.take (k + 1)).foldl (cntStep nm) p = cntStep nm ((l.take k).foldl (cntStep nm) p) x := by
  rw [List.take_add_one, h]
  simp

set_option maxRecDepth 100000 in
set_option maxHeartbeats 3200000 in
theorem thing_c (nm : ByteArray) (v : Value) (l : List PRule) (w : World) (hs : Sl 11 RRule w v l) :
    Calls Try.prog 97 #[v, .string nm] w fun e w' => e = .returned (.bool (thingB l nm)) ∧ Ext w w' := by
  have hmx : ∀ (x y : Int) (W : World), (Builtin.max_ #[2, 2] 2 #[.int .i64 x, .int .i64 y]).run Try.prog W = .ok (.int .i64 (max x y)) W := fun x y W => by
    have : (if y > x then y else x) = max x y := by split <;> omega
    rw [← this]; rfl
  have hmn : ∀ (x y : Int) (W : World), (Builtin.min_ #[2, 2] 2 #[.int .i64 x, .int .i64 y]).run Try.prog W = .ok (.int .i64 (min x y)) W := fun x y W => by
    have : (if y < x then y else x) = min x y := by split <;> omega
    rw [← this]; rfl
  obtain ⟨A, cap, rfl, hl, hl2⟩ := hs.shape
  have HS := Lib.hid hs
  clear hs
  go_enter Try.func97, Try.ntmps97
  go_wp2_with fail
  go_loopw [5, 6, 13] (fun a b i wr => ∃ k : Nat, k ≤ l.length ∧ i = .int .i64 k ∧ a = .int .i64 (thingN nm (l.take k)).1 ∧ b = .int .i64 (thingN nm (l.take k)).2 ∧ Ext w wr) (fun _ _ i _ => l.length - (intOf i).toNat)
  case atStart => exact ⟨0, by omega, rfl, rfl, rfl, Ext.refl _⟩
  case round =>
    obtain ⟨k, hk, rfl, rfl, rfl, hb⟩ := hrel
    by_cases hlt : k < l.length
    · obtain ⟨x, hx⟩ := some_of_lt hlt
      obtain ⟨b, off, cs, rfl, hn, ⟨vr, vw, vc, rfl, hr⟩, hc⟩ := (HS.out.ext RRule.stable hb).at hx
      obtain ⟨hr1, hw1, hc1⟩ := hr
      obtain ⟨Ar, cr, rfl, lr, lr2⟩ := hr1.shape
      obtain ⟨Aw, cw, rfl, lw, lw2⟩ := hw1.shape
      obtain ⟨Ac, cc, rfl, lc, lc2⟩ := hc1.shape
      have k0 := hc 0 _ rfl
      have k1 := hc 1 _ rfl
      have k2 := hc 2 _ rfl
      have k3 := hc 3 _ rfl
      have k4 := hc 4 _ rfl
      have k5 := hc 5 _ rfl
      have k6 := hc 6 _ rfl
      have k7 := hc 7 _ rfl
      have k8 := hc 8 _ rfl
      have k9 := hc 9 _ rfl
      have k10 := hc 10 _ rfl
      simp only [Nat.add_zero] at k0
      have HN := Lib.hid (thingN_succ (nm := nm) hx)
      have HC := Lib.hid hc1
      clear hc hn hx hr1 hw1 hc1
      generalize thingN nm (l.take k) = D at *
      go_wp2_with fail
      have hE1 : Ext w (wr.alloc (.cells #[.string x.name, .slice Ar x.roads.length cr, .slice Aw x.whens.length cw, .int .i64 x.h0, .int .i64 x.h1, .int .i64 x.days, .int .i64 x.s0, .int .i64 x.s1, .bool x.forbid, .slice Ac x.counts.length cc, .int .i64 x.cost] 58)) := by (repeat' (first | exact Ext.refl _ | assumption | refine Ext.alloc ?_ _ | refine Ext.drew ?_ | refine Ext.drewN ?_ _ | refine Ext.set ?_ (by first | exact Nat.le_refl _ | exact le1 _ | exact le2 _ | exact le3 _ | exact le4 _ | exact le5 _ | exact le6 _) _ | refine Ext.trans ?_ (by assumption)))
      have HC1 := HC.out.ext RCount.stable (show Ext wr (wr.alloc (.cells #[.string x.name, .slice Ar x.roads.length cr, .slice Aw x.whens.length cw, .int .i64 x.h0, .int .i64 x.h1, .int .i64 x.days, .int .i64 x.s0, .int .i64 x.s1, .bool x.forbid, .slice Ac x.counts.length cc, .int .i64 x.cost] 58)) by (repeat' (first | exact Ext.refl _ | assumption | refine Ext.alloc ?_ _ | refine Ext.drew ?_ | refine Ext.drewN ?_ _ | refine Ext.set ?_ (by first | exact Nat.le_refl _ | exact le1 _ | exact le2 _ | exact le3 _ | exact le4 _ | exact le5 _ | exact le6 _) _ | refine Ext.trans ?_ (by assumption))))
      generalize wr.alloc (.cells #[.string x.name, .slice Ar x.roads.length cr, .slice Aw x.whens.length cw, .int .i64 x.h0, .int .i64 x.h1, .int .i64 x.days, .int .i64 x.s0, .int .i64 x.s1, .bool x.forbid, .slice Ac x.counts.length cc, .int .i64 x.cost] 58) = W1 at *
      replace HC1 := Lib.hid HC1
      clear k0 k1 k2 k3 k4 k5 k6 k7 k8 k9 k10
      go_loopw [5, 6, 20] (fun a b i ws => ∃ j : Nat, j ≤ x.counts.length ∧ i = .int .i64 j ∧ a = .int .i64 ((x.counts.take j).foldl (cntStep nm) D).1 ∧ b = .int .i64 ((x.counts.take j).foldl (cntStep nm) D).2 ∧ Ext W1 ws) (fun _ _ i _ => x.counts.length - (intOf i).toNat)
      case atStart => exact ⟨0, by omega, rfl, rfl, rfl, Ext.refl _⟩
      case round =>
        obtain ⟨j, hj, rfl, rfl, rfl, hbj⟩ := hrel
        by_cases hltj : j < x.counts.length
        · obtain ⟨c, hcx⟩ := some_of_lt hltj
          obtain ⟨b2, off2, cs2, rfl, hn2, rfl, hc2⟩ := (HC1.out.ext RCount.stable hbj).at hcx
          have q0 := hc2 0 _ rfl
          have q1 := hc2 1 _ rfl
          have q2 := hc2 2 _ rfl
          simp only [Nat.add_zero] at q0
          have HN2 := Lib.hid (cnt_succ (nm := nm) (p := D) hcx)
          clear hc2 hn2 hcx
          generalize (x.counts.take j).foldl (cntStep nm) D = E at *
          by_cases heq : c.thing = nm
          · have t1 : (c.thing.toList == nm.toList) = true := by rw [heq]; simp
            have HE := Lib.hid heq
            clear heq
            go_wp2_with fail
            have hE2 : Ext W1 (wr.alloc (.cells #[.string c.thing, .int .i64 c.least, .int .i64 c.most] 122)) := by (repeat' (first | exact Ext.refl _ | assumption | refine Ext.alloc ?_ _ | refine Ext.drew ?_ | refine Ext.drewN ?_ _ | refine Ext.set ?_ (by first | exact Nat.le_refl _ | exact le1 _ | exact le2 _ | exact le3 _ | exact le4 _ | exact le5 _ | exact le6 _) _ | refine Ext.trans ?_ (by assumption)))
            have z1 : (wr.alloc (.cells #[.string c.thing, .int .i64 c.least, .int .i64 c.most] 122)).cell? ⟨wr.heap.size, 1, none⟩ = some (.int .i64 c.least) := World.cell?_alloc_new _ _ _ _
            have z2 : (wr.alloc (.cells #[.string c.thing, .int .i64 c.least, .int .i64 c.most] 122)).cell? ⟨wr.heap.size, 2, none⟩ = some (.int .i64 c.most) := World.cell?_alloc_new _ _ _ _
            clear q0 q1 q2
            generalize wr.alloc (.cells #[.string c.thing, .int .i64 c.least, .int .i64 c.most] 122) = W2 at *
            go_region
            go_wp2_with fail
            go_roundw
            case rel => exact ⟨j + 1, by omega, by go_num, by rw [HN2.out, cntStep, if_pos HE.out], by rw [HN2.out, cntStep, if_pos HE.out], by (repeat' (first | exact Ext.refl _ | assumption | refine Ext.alloc ?_ _ | refine Ext.drew ?_ | refine Ext.drewN ?_ _ | refine Ext.set ?_ (by first | exact Nat.le_refl _ | exact le1 _ | exact le2 _ | exact le3 _ | exact le4 _ | exact le5 _ | exact le6 _) _ | refine Ext.trans ?_ (by assumption)))⟩
            case measure => simp [intOf]; omega
          · have t1 := beq_toList heq
            have HE := Lib.hid heq
            clear heq
            go_wp2_with fail
            go_roundw
            case rel => exact ⟨j + 1, by omega, by go_num, by rw [HN2.out, cntStep, if_neg HE.out], by rw [HN2.out, cntStep, if_neg HE.out], by (repeat' (first | exact Ext.refl _ | assumption | refine Ext.alloc ?_ _ | refine Ext.drew ?_ | refine Ext.drewN ?_ _ | refine Ext.set ?_ (by first | exact Nat.le_refl _ | exact le1 _ | exact le2 _ | exact le3 _ | exact le4 _ | exact le5 _ | exact le6 _) _ | refine Ext.trans ?_ (by assumption)))⟩
            case measure => simp [intOf]; omega
        · obtain rfl : j = x.counts.length := by omega
          rw [List.take_length]
          go_wp2_with fail
          go_roundw
          case rel => exact ⟨k + 1, by omega, by go_num, by rw [HN.out]; rfl, by rw [HN.out]; rfl, hE1.trans hbj⟩
          case measure => simp [intOf]; omega
    · obtain rfl : k = l.length := by omega
      rw [List.take_length]
      go_wp2
      go_ret
      exact ⟨by simp [thingB], hb⟩
end Go.Proofs.Ytaomlmkcifpfkaa
