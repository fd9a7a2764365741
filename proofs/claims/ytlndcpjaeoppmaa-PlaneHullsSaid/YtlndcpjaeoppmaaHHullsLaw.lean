
/- The law PlaneHulls, walked. -/
import Derived.Test.YtlndcpjaeoppmaaHAreaAll
import Derived.Test.YtlndcpjaeoppmaaHWorks
import Derived.Test.YtlndcpjaeoppmaaOpenPts
namespace Go.Proofs.Ytlndcpjaeoppmaa
open Go.RowKit Go.Shelf

set_option maxRecDepth 100000 in
set_option maxHeartbeats 3200000 in
theorem hulls_big (v : Value) (l : List HPt) (x y t : Int) (w : World) (hp : Pts w v l) (hbig : (40 < l.length ∧ l.length ≤ 256) ∨ 400 < l.length) :
    Calls Try.prog 4 #[v, .agg #[.int .i64 x, .int .i64 y], .int .i64 t] w fun e w' => e = .returned (.bool true) ∧ Ext w w' := by
  obtain ⟨A, ca, rfl, _⟩ := hp.shapeH
  clear hp
  generalize l.length = n at *
  rcases (show (40 < n ∧ n ≤ 256) ∨ (40 < n ∧ ¬ n ≤ 256 ∧ 400 < n) by omega) with ⟨c1, c2⟩ | ⟨c1, c2, c3⟩
  all_goals
    clear hbig
    go_enter Try.func4, Try.ntmps4
    go_wp2_with (go_at_call 10; refine (works_c _).mono ?_; rintro e w5 ⟨rfl, hb5⟩)
    go_ret
    exact ⟨rfl, by (repeat' (first | exact Ext.refl _ | assumption | refine Ext.alloc ?_ _ | refine Ext.drew ?_ | refine Ext.drewN ?_ _ | refine Ext.set ?_ (by first | exact Nat.le_refl _ | exact le1 _ | exact le2 _ | exact le3 _ | exact le4 _ | exact le5 _ | exact le6 _) _ | refine Ext.trans ?_ (by assumption)))⟩
set_option maxRecDepth 100000 in
set_option maxHeartbeats 6400000 in
theorem hulls_small (v : Value) (l : List HPt) (x y t : Int) (w : World) (hp : Pts w v l) (hbig : ¬ ((40 < l.length ∧ l.length ≤ 256) ∨ 400 < l.length)) :
    Calls Try.prog 4 #[v, .agg #[.int .i64 x, .int .i64 y], .int .i64 t] w fun e w' => e = .returned (.bool true) ∧ Ext w w' := by
  have P1 := Lib.hid (fun W (h : Ext w W) => Hull_c v l W (hp.ext h))
  have P2 := Lib.hid (fun W (h : Ext w W) => RHull_c v l W (hp.ext h))
  have P3 := Lib.hid (fun W (h : Ext w W) => IsHull_c v l W (hp.ext h))
  have P4 := Lib.hid (fun W (h : Ext w W) => RIsHull_c v l W (hp.ext h))
  have HP := Lib.hid hp
  obtain ⟨A, ca, rfl, _⟩ := hp.shapeH
  generalize hullS l = HS at *
  obtain ⟨H1, H2⟩ := HS
  simp only at P1 P2
  clear hp
  generalize l.length = n at *
  rcases (show (¬ 40 < n ∧ ¬ 400 < n) ∨ (40 < n ∧ ¬ n ≤ 256 ∧ ¬ 400 < n) by omega) with ⟨c1, c2⟩ | ⟨c1, c2, c3⟩
  all_goals
    clear hbig
    go_enter Try.func4, Try.ntmps4
    go_wp2_with (first
      | (go_at_call 9; refine (P1.out _ (by (repeat' (first | exact Ext.refl _ | assumption | refine Ext.alloc ?_ _ | refine Ext.drew ?_ | refine Ext.drewN ?_ _ | refine Ext.set ?_ (by first | exact Nat.le_refl _ | exact le1 _ | exact le2 _ | exact le3 _ | exact le4 _ | exact le5 _ | exact le6 _) _ | refine Ext.trans ?_ (by assumption))))).mono ?_; rintro e w1 ⟨v1, rfl, hp1, hb1⟩; obtain ⟨A1, c1', rfl, _⟩ := hp1.shapeH; replace hp1 := Lib.hid hp1)
      | (go_at_call 15; refine (P2.out _ (by (repeat' (first | exact Ext.refl _ | assumption | refine Ext.alloc ?_ _ | refine Ext.drew ?_ | refine Ext.drewN ?_ _ | refine Ext.set ?_ (by first | exact Nat.le_refl _ | exact le1 _ | exact le2 _ | exact le3 _ | exact le4 _ | exact le5 _ | exact le6 _) _ | refine Ext.trans ?_ (by assumption))))).mono ?_; rintro e w2 ⟨v2, rfl, hp2, hb2⟩; obtain ⟨A2, c2', rfl, _⟩ := hp2.shapeH; replace hp2 := Lib.hid hp2)
      | (go_at_call 14; refine (Same01_c _ _ H1 H1 _ (hp1.out.ext hb2) hp2.out).mono ?_; rintro e w3 ⟨he3, hb3⟩; rw [decide_eq_true rfl] at he3; subst he3)
      | (go_at_call 11; refine (P3.out _ (by (repeat' (first | exact Ext.refl _ | assumption | refine Ext.alloc ?_ _ | refine Ext.drew ?_ | refine Ext.drewN ?_ _ | refine Ext.set ?_ (by first | exact Nat.le_refl _ | exact le1 _ | exact le2 _ | exact le3 _ | exact le4 _ | exact le5 _ | exact le6 _) _ | refine Ext.trans ?_ (by assumption))))).mono ?_; rintro e w4 ⟨rfl, hb4⟩)
      | (go_at_call 16; refine (P4.out _ (by (repeat' (first | exact Ext.refl _ | assumption | refine Ext.alloc ?_ _ | refine Ext.drew ?_ | refine Ext.drewN ?_ _ | refine Ext.set ?_ (by first | exact Nat.le_refl _ | exact le1 _ | exact le2 _ | exact le3 _ | exact le4 _ | exact le5 _ | exact le6 _) _ | refine Ext.trans ?_ (by assumption))))).mono ?_; rintro e w5 ⟨rfl, hb5⟩))
    have hpB := hp2.out.ext (show Ext w2 w5 by (repeat' (first | exact Ext.refl _ | assumption | refine Ext.alloc ?_ _ | refine Ext.drew ?_ | refine Ext.drewN ?_ _ | refine Ext.set ?_ (by first | exact Nat.le_refl _ | exact le1 _ | exact le2 _ | exact le3 _ | exact le4 _ | exact le5 _ | exact le6 _) _ | refine Ext.trans ?_ (by assumption))))
    have E0 : Ext (w.alloc (.cells #[.int .i64 x, .int .i64 y] 31)) w5 := by (repeat' (first | exact Ext.refl _ | assumption | refine Ext.alloc ?_ _ | refine Ext.drew ?_ | refine Ext.drewN ?_ _ | refine Ext.set ?_ (by first | exact Nat.le_refl _ | exact le1 _ | exact le2 _ | exact le3 _ | exact le4 _ | exact le5 _ | exact le6 _) _ | refine Ext.trans ?_ (by assumption)))
    have E5 : Ext w w5 := ((Ext.refl w).alloc _).trans E0
    have y0 := Ext.cell E0 (p := ⟨w.heap.size, 0, none⟩) (v := .int .i64 x) (by go_simp)
    have y1 := Ext.cell E0 (p := ⟨w.heap.size, 1, none⟩) (v := .int .i64 y) (by go_simp)
    have EB : Ext w5 (w5.alloc (.cells #[.slice A n ca, .slice A2 H1.length c2'] 23)) := (Ext.refl w5).alloc _
    have hL := Lists.two (World.alloc_heap_new w5 (.cells #[.slice A n ca, .slice A2 H1.length c2'] 23)) ((HP.out.ext E5).ext EB) (hpB.ext EB)
    replace y0 := EB.cell y0
    replace y1 := EB.cell y1
    have EW := E5.trans EB
    have HL := Lib.hid hL
    have HEW := Lib.hid EW
    clear hL hpB EB E5 E0 hb1 hb2 hb3 hb4 hb5 hp1 hp2 P1 P2 P3 P4 HP EW
    generalize (w5.alloc (.cells #[.slice A n ca, .slice A2 H1.length c2'] 23)) = WB at *
    generalize w5.heap.size = bb at *
    go_loopw [12] (fun i wr => ∃ k : Nat, k ≤ 2 ∧ i = .int .i64 k ∧ Ext WB wr) (fun i _ => 2 - (intOf i).toNat)
    case atStart => exact ⟨0, by omega, rfl, Ext.refl _⟩
    case round =>
      obtain ⟨k, hk, rfl, hE⟩ := hrel
      by_cases hlt : k < 2
      · obtain ⟨vv, LL, hLL, hcell, hpp⟩ := (HL.out.ext hE).at (i := k) hlt
        have z0 := hE.cell y0
        have z1 := hE.cell y1
        have C5 := fun W (h : Ext wr W) => Inside_c vv LL x y W (hpp.ext h)
        have C6 := fun W (h : Ext wr W) => RInside_c vv LL x y W (hpp.ext h)
        have C7 := fun W (h : Ext wr W) => Area_c vv LL W (hpp.ext h)
        have C8 := fun W (h : Ext wr W) => RArea_c vv LL W (hpp.ext h)
        have C9 := fun W (h : Ext wr W) => Grow_c vv LL t W (hpp.ext h)
        have C10 := fun W (h : Ext wr W) => RGrow_c vv LL t W (hpp.ext h)
        obtain ⟨AL, cL, rfl, _⟩ := hpp.shapeH
        generalize insideS LL (x, y) = S1 at *
        obtain ⟨s1, s2⟩ := S1
        generalize areaE LL = S2 at *
        obtain ⟨a1, a2⟩ := S2
        generalize growE LL t = S3 at *
        obtain ⟨g1, g2⟩ := S3
        simp only at C5 C6 C7 C8 C9 C10
        replace C5 := Lib.hid C5
        replace C6 := Lib.hid C6
        replace C7 := Lib.hid C7
        replace C8 := Lib.hid C8
        replace C9 := Lib.hid C9
        replace C10 := Lib.hid C10
        clear hLL hpp
        generalize LL.length = nL at *
        go_wp2
        (refine wp_region_ext (C := fun w' => Ext wr w') (by kernel_rfl) (by kernel_rfl) (by (repeat' (first | exact Ext.refl _ | assumption | refine Ext.alloc ?_ _ | refine Ext.drew ?_ | refine Ext.drewN ?_ _ | refine Ext.set ?_ (by first | exact Nat.le_refl _ | exact le1 _ | exact le2 _ | exact le3 _ | exact le4 _ | exact le5 _ | exact le6 _) _ | refine Ext.trans ?_ (by assumption)))) ?_; (repeat (with_reducible refine wpQuiet_step (fun K hK => ?_); go_simp; first | (refine hK _ ?_; clear hK K) | (apply Exists.intro; refine ⟨fun w' hC => ?_, hK _ ?_⟩; (focus first | with_reducible rfl | (have q0 := hC.cell hcell; have q1 := hC.cell z0; have q2 := hC.cell z1; go_simp; done) | (have q0 := hC.cell hcell; have q1 := hC.cell z0; have q2 := hC.cell z1; go_simp; exact ⟨rfl, rfl⟩) | (have q0 := hC.cell hcell; have q1 := hC.cell z0; have q2 := hC.cell z1; go_simp; with_reducible rfl) | (exact (C5.out _ hC).mono fun e w'' ⟨he, hw''⟩ => ⟨he, hC.trans hw''⟩)); clear hK K))); refine wpQuiet_nil ?_; intro wq hEq)
        have hc1 := hEq.cell hcell
        have z2 := hEq.cell z0
        have z3 := hEq.cell z1
        have C6b := Lib.hid (fun W (h : Ext wq W) => C6.out W (hEq.trans h))
        obtain ⟨wA, hwA⟩ : ∃ z : World, z = wq := ⟨_, rfl⟩
        subst hwA
        have HEA := Lib.hid hEq
        clear hEq C5 C6 z0 z1 hcell
        go_wp2
        (refine wp_region_ext (C := fun w' => Ext wA w') (by kernel_rfl) (by kernel_rfl) (by (repeat' (first | exact Ext.refl _ | assumption | refine Ext.alloc ?_ _ | refine Ext.drew ?_ | refine Ext.drewN ?_ _ | refine Ext.set ?_ (by first | exact Nat.le_refl _ | exact le1 _ | exact le2 _ | exact le3 _ | exact le4 _ | exact le5 _ | exact le6 _) _ | refine Ext.trans ?_ (by assumption)))) ?_; (repeat (with_reducible refine wpQuiet_step (fun K hK => ?_); go_simp; first | (refine hK _ ?_; clear hK K) | (apply Exists.intro; refine ⟨fun w' hC => ?_, hK _ ?_⟩; (focus first | with_reducible rfl | (have q0 := hC.cell hc1; have q1 := hC.cell z2; have q2 := hC.cell z3; go_simp; done) | (have q0 := hC.cell hc1; have q1 := hC.cell z2; have q2 := hC.cell z3; go_simp; exact ⟨rfl, rfl⟩) | (have q0 := hC.cell hc1; have q1 := hC.cell z2; have q2 := hC.cell z3; go_simp; with_reducible rfl) | (exact (C6b.out _ hC).mono fun e w'' ⟨he, hw''⟩ => ⟨he, hC.trans hw''⟩)); clear hK K))); refine wpQuiet_nil ?_; intro wq hEq)
        have hcB := hEq.cell hc1
        have EA := HEA.out.trans hEq
        clear hEq HEA hc1 z2 z3 C6b
        go_wp2_with (first
          | (go_at_call 18; refine (C7.out _ (by (repeat' (first | exact Ext.refl _ | assumption | refine Ext.alloc ?_ _ | refine Ext.drew ?_ | refine Ext.drewN ?_ _ | refine Ext.set ?_ (by first | exact Nat.le_refl _ | exact le1 _ | exact le2 _ | exact le3 _ | exact le4 _ | exact le5 _ | exact le6 _) _ | refine Ext.trans ?_ (by assumption))))).mono ?_; rintro e w7 ⟨rfl, hb7⟩; replace hcB := hb7.cell hcB)
          | (go_at_call 19; refine (C8.out _ (by (repeat' (first | exact Ext.refl _ | assumption | refine Ext.alloc ?_ _ | refine Ext.drew ?_ | refine Ext.drewN ?_ _ | refine Ext.set ?_ (by first | exact Nat.le_refl _ | exact le1 _ | exact le2 _ | exact le3 _ | exact le4 _ | exact le5 _ | exact le6 _) _ | refine Ext.trans ?_ (by assumption))))).mono ?_; rintro e w8 ⟨rfl, hb8⟩; replace hcB := hb8.cell hcB)
          | (go_at_call 20; refine (C9.out _ (by (repeat' (first | exact Ext.refl _ | assumption | refine Ext.alloc ?_ _ | refine Ext.drew ?_ | refine Ext.drewN ?_ _ | refine Ext.set ?_ (by first | exact Nat.le_refl _ | exact le1 _ | exact le2 _ | exact le3 _ | exact le4 _ | exact le5 _ | exact le6 _) _ | refine Ext.trans ?_ (by assumption))))).mono ?_; rintro e w9 ⟨v9, rfl, hp9, hb9⟩; obtain ⟨A9, c9, rfl, _⟩ := hp9.shapeH; replace hp9 := Lib.hid hp9; replace hcB := hb9.cell hcB)
          | (go_at_call 21; refine (C10.out _ (by (repeat' (first | exact Ext.refl _ | assumption | refine Ext.alloc ?_ _ | refine Ext.drew ?_ | refine Ext.drewN ?_ _ | refine Ext.set ?_ (by first | exact Nat.le_refl _ | exact le1 _ | exact le2 _ | exact le3 _ | exact le4 _ | exact le5 _ | exact le6 _) _ | refine Ext.trans ?_ (by assumption))))).mono ?_; rintro e w10 ⟨v10, rfl, hp10, hb10⟩; obtain ⟨A10, c10, rfl, _⟩ := hp10.shapeH; replace hp10 := Lib.hid hp10; replace hcB := hb10.cell hcB)
          | (go_at_call 14; refine (Same01_c _ _ g1 g1 _ (hp9.out.ext hb10) hp10.out).mono ?_; rintro e w11 ⟨he3, hb11⟩; rw [decide_eq_true rfl] at he3; subst he3))
        refine ⟨⟨k + 1, by omega, by go_num, hE.trans (by (repeat' (first | exact Ext.refl _ | assumption | refine Ext.alloc ?_ _ | refine Ext.drew ?_ | refine Ext.drewN ?_ _ | refine Ext.set ?_ (by first | exact Nat.le_refl _ | exact le1 _ | exact le2 _ | exact le3 _ | exact le4 _ | exact le5 _ | exact le6 _) _ | refine Ext.trans ?_ (by assumption))))⟩, by simp [intOf]; omega⟩
      · go_wp2_with (go_at_call 10; refine (works_c _).mono ?_; rintro e w12 ⟨rfl, hb12⟩)
        go_ret
        exact ⟨rfl, (HEW.out.trans hE).trans hb12⟩
theorem hulls_law (v : Value) (l : List HPt) (x y t : Int) (w : World) (hp : Pts w v l) :
    Calls Try.prog 4 #[v, .agg #[.int .i64 x, .int .i64 y], .int .i64 t] w fun e w' => e = .returned (.bool true) ∧ Ext w w' := by
  by_cases h : (40 < l.length ∧ l.length ≤ 256) ∨ 400 < l.length
  · exact hulls_big v l x y t w hp h
  · exact hulls_small v l x y t w hp h
end Go.Proofs.Ytlndcpjaeoppmaa
