/- The law PlaneWays, walked. -/
import Derived.Test.YtngmhmpejjcngaaRAlong
namespace Go.Proofs.Ytngmhmpejjcngaa
open Go.RowKit

set_option maxRecDepth 100000 in
set_option maxHeartbeats 1600000 in
theorem ways_law (v : Value) (l : List (Int × Int)) (s : Int) (w : World) (hp : Pts w v l) :
    Calls Try.prog 7 #[v, .int .i64 s] w fun e w' => e = .returned (.bool true) ∧ Ext w w' := by
  have P1 := fun w' (h : Ext w w') => Length_c v l w' (hp.ext h)
  have P2 := fun w' (h : Ext w w') => RLength_c v l w' (hp.ext h)
  have P3 := fun w' (h : Ext w w') => Along_c v l s w' (hp.ext h)
  have P4 := fun w' (h : Ext w w') => RAlong_c v l s w' (hp.ext h)
  obtain ⟨a, cap, rfl, hl⟩ := hp.shape
  unfold i2V at P1 P2
  unfold ptieV at P3 P4
  generalize lenS l = n at *
  generalize alongS l s = T at *
  obtain ⟨n, e⟩ := n
  obtain ⟨⟨⟨t1, t2⟩, t3⟩, t4⟩ := T
  simp only at P1 P2 P3 P4
  have H1 := Lib.hid P1
  have H2 := Lib.hid P2
  have H3 := Lib.hid P3
  have H4 := Lib.hid P4
  clear P1 P2 P3 P4 hp
  by_cases hg : 400 < l.length
  · go_enter Try.func7, Try.ntmps7
    go_wp2_with (go_at_call 19; refine (works_c _).mono ?_; rintro e w5 ⟨rfl, hb5⟩)
    go_ret
    exact ⟨rfl, by (repeat' (first | exact Ext.refl _ | assumption | refine Ext.alloc ?_ _ | refine Ext.drew ?_ | refine Ext.drewN ?_ _ | refine Ext.set ?_ (by first | exact Nat.le_refl _ | exact le1 _ | exact le2 _ | exact le3 _ | exact le4 _ | exact le5 _ | exact le6 _) _ | refine Ext.trans ?_ (by assumption)))⟩
  · go_enter Try.func7, Try.ntmps7
    go_wp2_with fail
    refine (H1.out _ (by (repeat' (first | exact Ext.refl _ | assumption | refine Ext.alloc ?_ _ | refine Ext.drew ?_ | refine Ext.drewN ?_ _ | refine Ext.set ?_ (by first | exact Nat.le_refl _ | exact le1 _ | exact le2 _ | exact le3 _ | exact le4 _ | exact le5 _ | exact le6 _) _ | refine Ext.trans ?_ (by assumption))))).mono ?_
    rintro e w1 ⟨rfl, hb1⟩
    go_wp2_with fail
    refine (H2.out _ (by (repeat' (first | exact Ext.refl _ | assumption | refine Ext.alloc ?_ _ | refine Ext.drew ?_ | refine Ext.drewN ?_ _ | refine Ext.set ?_ (by first | exact Nat.le_refl _ | exact le1 _ | exact le2 _ | exact le3 _ | exact le4 _ | exact le5 _ | exact le6 _) _ | refine Ext.trans ?_ (by assumption))))).mono ?_
    rintro e w2 ⟨rfl, hb2⟩
    go_wp2_with fail
    refine (H3.out _ (by (repeat' (first | exact Ext.refl _ | assumption | refine Ext.alloc ?_ _ | refine Ext.drew ?_ | refine Ext.drewN ?_ _ | refine Ext.set ?_ (by first | exact Nat.le_refl _ | exact le1 _ | exact le2 _ | exact le3 _ | exact le4 _ | exact le5 _ | exact le6 _) _ | refine Ext.trans ?_ (by assumption))))).mono ?_
    rintro e w3 ⟨rfl, hb3⟩
    go_wp2_with fail
    refine (H4.out _ (by (repeat' (first | exact Ext.refl _ | assumption | refine Ext.alloc ?_ _ | refine Ext.drew ?_ | refine Ext.drewN ?_ _ | refine Ext.set ?_ (by first | exact Nat.le_refl _ | exact le1 _ | exact le2 _ | exact le3 _ | exact le4 _ | exact le5 _ | exact le6 _) _ | refine Ext.trans ?_ (by assumption))))).mono ?_
    rintro e w4 ⟨rfl, hb4⟩
    have p0n := Ext.cell hb4 (p := ⟨w3.heap.size, 0, none⟩) (v := .int .i64 t1) (by go_simp); have p1n := Ext.cell hb4 (p := ⟨w3.heap.size, 1, none⟩) (v := .int .i64 t2) (by go_simp); have lpn := World.block_lt_of_cell? w4 _ p0n; simp only at lpn; replace p0 := p0n; clear p0n; replace p1 := p1n; clear p1n; replace lp := lpn; clear lpn
    go_wp2_with (go_at_call 19; refine (works_c _).mono ?_; rintro e w5 ⟨rfl, hb5⟩)
    go_ret
    exact ⟨rfl, by (repeat' (first | exact Ext.refl _ | assumption | refine Ext.alloc ?_ _ | refine Ext.drew ?_ | refine Ext.drewN ?_ _ | refine Ext.set ?_ (by first | exact Nat.le_refl _ | exact le1 _ | exact le2 _ | exact le3 _ | exact le4 _ | exact le5 _ | exact le6 _) _ | refine Ext.trans ?_ (by assumption)))⟩
end Go.Proofs.Ytngmhmpejjcngaa
