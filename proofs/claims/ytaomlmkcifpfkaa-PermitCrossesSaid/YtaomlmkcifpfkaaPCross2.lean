/- What breaks a rule: breaks and its closures, Breaks (contracts). -/
import Derived.Test.YtaomlmkcifpfkaaPCross1
import Derived.Deep.RegionHeld3
namespace Go.Proofs.Ytaomlmkcifpfkaa
open Go.RowKit Go.Shelf Go.Maps
attribute [local go_sem ↓] Go.wp_at_zero Go.wp_at_succ

set_option maxHeartbeats 800000 in
theorem breaks11_c (B : Nat) (nm : ByteArray) (y : PCount) (w : World) (hB : w.cell? ⟨B, 0, none⟩ = some (.string nm)) :
    Calls Try.prog 119 #[.agg #[.string y.thing, .int .i64 y.least, .int .i64 y.most], .pointer (some ⟨B, 0, none⟩)] w fun e w' => e = .returned (.bool (isT nm y)) ∧ Ext w w' := by
  have hlt := lt_of_cell hB
  by_cases heq : y.thing = nm
  · have t1 : (y.thing.toList == nm.toList) = true := by rw [heq]; simp
    rw [show isT nm y = true from by simp [isT, heq]]
    clear heq
    go_enter Try.func119, Try.ntmps119
    go_wp2_with fail
    go_ret
    exact ⟨rfl, by (repeat' (first | exact Ext.refl _ | assumption | refine Ext.alloc ?_ _ | refine Ext.drew ?_ | refine Ext.drewN ?_ _ | refine Ext.set ?_ (by first | exact Nat.le_refl _ | exact le1 _ | exact le2 _ | exact le3 _ | exact le4 _ | exact le5 _ | exact le6 _) _ | refine Ext.trans ?_ (by assumption)))⟩
  · have t1 := beq_toList heq
    rw [show isT nm y = false from by simp [isT, heq]]
    clear heq
    go_enter Try.func119, Try.ntmps119
    go_wp2_with fail
    go_ret
    exact ⟨rfl, by (repeat' (first | exact Ext.refl _ | assumption | refine Ext.alloc ?_ _ | refine Ext.drew ?_ | refine Ext.drewN ?_ _ | refine Ext.set ?_ (by first | exact Nat.le_refl _ | exact le1 _ | exact le2 _ | exact le3 _ | exact le4 _ | exact le5 _ | exact le6 _) _ | refine Ext.trans ?_ (by assumption)))⟩
theorem find_c2 (B : Nat) (nm : ByteArray) (v : Value) (l : List PCount) (w : World) (hs : Sl 3 RCount w v l) (hB : w.cell? ⟨B, 0, none⟩ = some (.string nm)) :
    Calls Try.prog 117 #[v, .func (.func 119) #[] #[.pointer (some ⟨B, 0, none⟩)]] w fun e w' => e = .returned (.int .i64 (idxL (isT nm) l)) ∧ Ext w w' := by
  refine IndexFuncCount_c RCount.stable 119 _ (enters_of Try.func119 (by kernel_rfl) rfl) _ v l w hs ?_
  rintro W cs x he rfl _
  exact breaks11_c B nm x W (he.cell hB)

set_option maxRecDepth 100000 in
set_option maxHeartbeats 1600000 in
theorem breaks1_c (C : Nat) (c : PCross) (v : Value) (x : PCount) (w : World) (hs : Sl 3 RCount w v c.things) (hC : w.cell? ⟨C, 1, none⟩ = some v) :
    Calls Try.prog 118 #[.agg #[.string x.thing, .int .i64 x.least, .int .i64 x.most], .pointer (some ⟨C, 0, none⟩)] w fun e w' => e = .returned (.bool (cntBad c x)) ∧ Ext w w' := by
  have C1 := fun B w' (h : Ext w w') hB => find_c2 B x.thing v c.things w' (hs.ext RCount.stable h) hB
  have C2 := fun w' => between_c (manyN c.things x.thing) x.least x.most w'
  obtain ⟨A, cap, rfl, hl, hl2⟩ := hs.shape
  have HS := Lib.hid hs
  clear hs
  have hlt := lt_of_cell hC
  have hbd := idxL_bd (p := isT x.thing) (l := c.things)
  unfold cntBad
  generalize inB (manyN c.things x.thing) x.least x.most = q at *
  by_cases hz : idxL (isT x.thing) c.things < 0
  · rw [manyN_none hz] at C2
    generalize idxL (isT x.thing) c.things = z at *
    replace C1 := Lib.hid C1
    replace C2 := Lib.hid C2
    go_enter Try.func118, Try.ntmps118
    go_wp2_with fail
    have hE0 : Ext w (w.alloc (.cells #[.string x.thing, .int .i64 x.least, .int .i64 x.most] 122)) := by (repeat' (first | exact Ext.refl _ | assumption | refine Ext.alloc ?_ _ | refine Ext.drew ?_ | refine Ext.drewN ?_ _ | refine Ext.set ?_ (by first | exact Nat.le_refl _ | exact le1 _ | exact le2 _ | exact le3 _ | exact le4 _ | exact le5 _ | exact le6 _) _ | refine Ext.trans ?_ (by assumption)))
    have g0 : (w.alloc (.cells #[.string x.thing, .int .i64 x.least, .int .i64 x.most] 122)).cell? ⟨w.heap.size, 0, none⟩ = some (.string x.thing) := World.cell?_alloc_new _ _ _ _
    have g1 : (w.alloc (.cells #[.string x.thing, .int .i64 x.least, .int .i64 x.most] 122)).cell? ⟨w.heap.size, 1, none⟩ = some (.int .i64 x.least) := World.cell?_alloc_new _ _ _ _
    have g2 : (w.alloc (.cells #[.string x.thing, .int .i64 x.least, .int .i64 x.most] 122)).cell? ⟨w.heap.size, 2, none⟩ = some (.int .i64 x.most) := World.cell?_alloc_new _ _ _ _
    have hC1 := hE0.cell hC
    generalize w.alloc (.cells #[.string x.thing, .int .i64 x.least, .int .i64 x.most] 122) = W at *
    go_wp2_with (first | (go_at_call 117; refine (C1.out _ _ (by (repeat' (first | exact Ext.refl _ | assumption | refine Ext.alloc ?_ _ | refine Ext.drew ?_ | refine Ext.drewN ?_ _ | refine Ext.set ?_ (by first | exact Nat.le_refl _ | exact le1 _ | exact le2 _ | exact le3 _ | exact le4 _ | exact le5 _ | exact le6 _) _ | refine Ext.trans ?_ (by assumption)))) g0).mono ?_; rintro e w1 ⟨rfl, hb1⟩; have m1 := hb1.cell g1; have m2 := hb1.cell g2) | (go_at_call 52; refine (C2.out _).mono ?_; rintro e w2 ⟨rfl, rfl⟩))
    go_ret
    exact ⟨rfl, by (repeat' (first | exact Ext.refl _ | assumption | refine Ext.alloc ?_ _ | refine Ext.drew ?_ | refine Ext.drewN ?_ _ | refine Ext.set ?_ (by first | exact Nat.le_refl _ | exact le1 _ | exact le2 _ | exact le3 _ | exact le4 _ | exact le5 _ | exact le6 _) _ | refine Ext.trans ?_ (by assumption)))⟩
  · obtain ⟨k, hk⟩ : ∃ k : Nat, idxL (isT x.thing) c.things = (k : Int) := ⟨(idxL (isT x.thing) c.things).toNat, by omega⟩
    obtain ⟨y, hy, _⟩ := idxL_some hk
    rw [manyN_at hk hy] at C2
    rw [hk] at C1
    have hkl := lt_of_some hy
    obtain ⟨b, off, cs, rfl, hn, rfl, hc⟩ := HS.out.at hy
    have k1 := hc 1 _ rfl
    have i1 : (0 : Int) ≤ (k : Int) := by omega
    have i2 : (k : Int) < (c.things.length : Int) := by omega
    clear hc hn hy hk hz hbd
    replace C1 := Lib.hid C1
    replace C2 := Lib.hid C2
    go_enter Try.func118, Try.ntmps118
    go_wp2_with fail
    have hE0 : Ext w (w.alloc (.cells #[.string x.thing, .int .i64 x.least, .int .i64 x.most] 122)) := by (repeat' (first | exact Ext.refl _ | assumption | refine Ext.alloc ?_ _ | refine Ext.drew ?_ | refine Ext.drewN ?_ _ | refine Ext.set ?_ (by first | exact Nat.le_refl _ | exact le1 _ | exact le2 _ | exact le3 _ | exact le4 _ | exact le5 _ | exact le6 _) _ | refine Ext.trans ?_ (by assumption)))
    have g0 : (w.alloc (.cells #[.string x.thing, .int .i64 x.least, .int .i64 x.most] 122)).cell? ⟨w.heap.size, 0, none⟩ = some (.string x.thing) := World.cell?_alloc_new _ _ _ _
    have g1 : (w.alloc (.cells #[.string x.thing, .int .i64 x.least, .int .i64 x.most] 122)).cell? ⟨w.heap.size, 1, none⟩ = some (.int .i64 x.least) := World.cell?_alloc_new _ _ _ _
    have g2 : (w.alloc (.cells #[.string x.thing, .int .i64 x.least, .int .i64 x.most] 122)).cell? ⟨w.heap.size, 2, none⟩ = some (.int .i64 x.most) := World.cell?_alloc_new _ _ _ _
    have hC1 := hE0.cell hC
    have k2 := hE0.cell k1
    generalize w.alloc (.cells #[.string x.thing, .int .i64 x.least, .int .i64 x.most] 122) = W at *
    go_wp2_with (first | (go_at_call 117; refine (C1.out _ _ (by (repeat' (first | exact Ext.refl _ | assumption | refine Ext.alloc ?_ _ | refine Ext.drew ?_ | refine Ext.drewN ?_ _ | refine Ext.set ?_ (by first | exact Nat.le_refl _ | exact le1 _ | exact le2 _ | exact le3 _ | exact le4 _ | exact le5 _ | exact le6 _) _ | refine Ext.trans ?_ (by assumption)))) g0).mono ?_; rintro e w1 ⟨rfl, hb1⟩; have m1 := hb1.cell g1; have m2 := hb1.cell g2; have m3 := hb1.cell hC1; have m4 := hb1.cell k2) | (go_at_call 52; refine (C2.out _).mono ?_; rintro e w2 ⟨rfl, rfl⟩))
    go_ret
    exact ⟨rfl, by (repeat' (first | exact Ext.refl _ | assumption | refine Ext.alloc ?_ _ | refine Ext.drew ?_ | refine Ext.drewN ?_ _ | refine Ext.set ?_ (by first | exact Nat.le_refl _ | exact le1 _ | exact le2 _ | exact le3 _ | exact le4 _ | exact le5 _ | exact le6 _) _ | refine Ext.trans ?_ (by assumption)))⟩
theorem bad_c (C : Nat) (c : PCross) (v : Value) (vx : Value) (l : List PCount) (w : World) (hs : Sl 3 RCount w v c.things) (hx : Sl 3 RCount w vx l) (hC : w.cell? ⟨C, 1, none⟩ = some v) :
    Calls Try.prog 100 #[vx, .func (.func 118) #[] #[.pointer (some ⟨C, 0, none⟩)]] w fun e w' => e = .returned (.bool (l.any (cntBad c))) ∧ Ext w w' := by
  refine ContainsFuncCount_c RCount.stable 118 _ (enters_of Try.func118 (by kernel_rfl) rfl) _ vx l w hx ?_
  rintro W cs x he rfl _
  exact breaks1_c C c v x W (hs.ext RCount.stable he) (he.cell hC)
end Go.Proofs.Ytaomlmkcifpfkaa
