/- The law PermitCompiles, walked. -/
import Derived.Test.YtaomlmkcifpfkaaPKnown
import Derived.Deep.RegionHeld3
namespace Go.Proofs.Ytaomlmkcifpfkaa
open Go.RowKit Go.Shelf Go.Maps
attribute [local go_sem ↓] Go.wp_at_zero Go.wp_at_succ

set_option maxRecDepth 100000 in
set_option maxHeartbeats 1600000 in
theorem samePermit_c (va vb : Value) (cl : List PCond) (F N : Int) (w : World) (ha : Sl 3 RCond w va cl) (hb : Sl 3 RCond w vb cl) :
    Calls Try.prog 20 #[.agg #[va, .int .i64 F, .int .i64 N], .agg #[vb, .int .i64 F, .int .i64 N]] w fun e w' => e = .returned (.bool true) ∧ Ext w w' := by
  obtain ⟨A, cap, rfl, hl, hcap⟩ := ha.shape
  obtain ⟨B, capb, rfl, _, hcapb⟩ := hb.shape
  have HA := Lib.hid ha
  have HB := Lib.hid hb
  clear ha hb
  go_enter Try.func20, Try.ntmps20
  go_wp2_with fail
  have E1 : Ext w ((w.alloc (.cells #[.slice A cl.length cap, .int .i64 F, .int .i64 N] 31)).alloc (.cells #[.slice B cl.length capb, .int .i64 F, .int .i64 N] 31)) := ((Ext.refl w).alloc _).alloc _
  have p0 : ((w.alloc (.cells #[.slice A cl.length cap, .int .i64 F, .int .i64 N] 31)).alloc (.cells #[.slice B cl.length capb, .int .i64 F, .int .i64 N] 31)).cell? ⟨w.heap.size, 0, none⟩ = some (.slice A cl.length cap) := by go_simp
  have q0 : ((w.alloc (.cells #[.slice A cl.length cap, .int .i64 F, .int .i64 N] 31)).alloc (.cells #[.slice B cl.length capb, .int .i64 F, .int .i64 N] 31)).cell? ⟨w.heap.size + 1, 0, none⟩ = some (.slice B cl.length capb) := by go_simp
  generalize ((w.alloc (.cells #[.slice A cl.length cap, .int .i64 F, .int .i64 N] 31)).alloc (.cells #[.slice B cl.length capb, .int .i64 F, .int .i64 N] 31)) = W1 at *
  go_loopw [5] (fun i wr => ∃ k : Nat, k ≤ cl.length ∧ i = .int .i64 k ∧ Ext W1 wr) (fun i _ => cl.length - (intOf i).toNat)
  case atStart => exact ⟨0, by omega, rfl, Ext.refl _⟩
  case round =>
    obtain ⟨k, hk, rfl, hE⟩ := hrel
    have E2 := E1.trans hE
    have p0' := hE.cell p0
    have q0' := hE.cell q0
    by_cases hlt : k < cl.length
    · obtain ⟨x, hx⟩ := some_of_lt hlt
      obtain ⟨b1, o1, cs1, rfl, _, hr1, hc1⟩ := (HA.out.ext RCond.stable E2).at hx
      obtain ⟨b2, o2, cs2, rfl, _, hr2, hc2⟩ := (HB.out.ext RCond.stable E2).at hx
      obtain rfl : cs1 = [.int .i64 x.passage, .int .i64 x.auth, .int .i64 x.rule] := hr1
      obtain rfl : cs2 = [.int .i64 x.passage, .int .i64 x.auth, .int .i64 x.rule] := hr2
      have k0 := hc1 0 _ rfl
      have k1 := hc1 1 _ rfl
      have k2 := hc1 2 _ rfl
      have m0 := hc2 0 _ rfl
      have m1 := hc2 1 _ rfl
      have m2 := hc2 2 _ rfl
      simp only [Nat.add_zero] at k0 m0
      have i1 : (0 : Int) ≤ (k : Int) := by omega
      have i2 : (k : Int) < (cl.length : Int) := by omega
      clear hc1 hc2 hx
      go_wp2_with fail
      go_region
      go_wp2_with fail
      go_roundw
      case rel => exact ⟨k + 1, by omega, by go_num, by (repeat' (first | exact Ext.refl _ | assumption | refine Ext.alloc ?_ _ | refine Ext.drew ?_ | refine Ext.drewN ?_ _ | refine Ext.set ?_ (by first | exact Nat.le_refl _ | exact le1 _ | exact le2 _ | exact le3 _ | exact le4 _ | exact le5 _ | exact le6 _) _ | refine Ext.trans ?_ (by assumption)))⟩
      case measure => simp [intOf]; omega
    · go_wp2_with fail
      go_ret
      exact ⟨rfl, E2⟩

/-- a trip in its box -/
def TripAt (B : Nat) (t : PTrip) (vp : Value) (W : World) : Prop := W.cell? ⟨B, 0, none⟩ = some (.int .i64 t.z0) ∧ W.cell? ⟨B, 1, none⟩ = some (.int .i64 t.z1) ∧ W.cell? ⟨B, 2, none⟩ = some (.int .i64 t.z2) ∧ W.cell? ⟨B, 3, none⟩ = some (.int .i64 t.z3) ∧ W.cell? ⟨B, 4, none⟩ = some (.int .i64 t.z4) ∧ W.cell? ⟨B, 5, none⟩ = some (.int .i64 t.z5) ∧ W.cell? ⟨B, 6, none⟩ = some vp
theorem TripAt.ext {B : Nat} {t : PTrip} {vp : Value} {W W' : World} (h : TripAt B t vp W) (he : Ext W W') : TripAt B t vp W' := by
  obtain ⟨h0, h1, h2, h3, h4, h5, h6⟩ := h
  exact ⟨he.cell h0, he.cell h1, he.cell h2, he.cell h3, he.cell h4, he.cell h5, he.cell h6⟩
theorem TripAt.new (t : PTrip) (vp : Value) (w : World) : TripAt w.heap.size t vp (w.alloc (.cells #[.int .i64 t.z0, .int .i64 t.z1, .int .i64 t.z2, .int .i64 t.z3, .int .i64 t.z4, .int .i64 t.z5, vp] 26)) :=
  ⟨World.cell?_alloc_new _ _ _ _, World.cell?_alloc_new _ _ _ _, World.cell?_alloc_new _ _ _ _, World.cell?_alloc_new _ _ _ _, World.cell?_alloc_new _ _ _ _, World.cell?_alloc_new _ _ _ _, World.cell?_alloc_new _ _ _ _⟩
theorem compS_bad {l : List PAuth} {t : PTrip} (h : beginE l t ≠ 0) : compS l t = ([], 0, 0) := by unfold compS; rw [if_neg h]
theorem compS_ok {l : List PAuth} {t : PTrip} (h : beginE l t = 0) : compS l t = (conds l t, feeS l t, noticeS l t) := by unfold compS; rw [if_pos h]
/-- both compile alike -/
theorem comp_c (v vp : Value) (l : List PAuth) (t : PTrip) (w : World) (hs : Sl 4 RAuth w v l) (hp : Sl 3 RPass w vp t.passages) :
    Calls Try.prog 14 #[v, tripV t vp] w fun e w' => (∃ vc, e = .returned (.tuple #[.agg #[vc, .int .i64 (compS l t).2.1, .int .i64 (compS l t).2.2], .int .i64 (beginE l t)]) ∧ Sl 3 RCond w' vc (compS l t).1) ∧ Ext w w' := by
  refine (Compile_c v vp l t w hs hp).mono ?_
  rintro e w1 ⟨hb, ⟨hne, rfl⟩ | ⟨h0, vc, rfl, hC⟩⟩
  · rw [compS_bad hne]
    exact ⟨⟨_, rfl, sl_nil⟩, hb⟩
  · rw [compS_ok h0, h0]
    exact ⟨⟨_, rfl, hC⟩, hb⟩

set_option maxRecDepth 100000 in
set_option maxHeartbeats 4000000 in
theorem compiles_law {v vp : Value} {l : List PAuth} {t : PTrip} (w : World) (hs : Sl 4 RAuth w v l) (hp : Sl 3 RPass w vp t.passages) :
    Calls Try.prog 3 #[v, tripV t vp] w fun e w' => e = .returned (.bool true) ∧ Ext w w' := by
  have G := fun w' (h : Ext w w') => great_c v vp l t w' (hs.ext RAuth.stable h) (hp.ext RPass.stable h)
  have KN := fun w' => known_c w'
  have C1 := fun w' (h : Ext w w') => comp_c v vp l t w' (hs.ext RAuth.stable h) (hp.ext RPass.stable h)
  have C2 := fun w' (h : Ext w w') => RCompile_c v vp l t w' (hs.ext RAuth.stable h) (hp.ext RPass.stable h)
  have D1 := fun w' (h : Ext w w') => CheckAll_c v l w' (hs.ext RAuth.stable h)
  have D2 := fun w' (h : Ext w w') => RCheckAll_c v l w' (hs.ext RAuth.stable h)
  have D3 := fun w' (h : Ext w w') => CheckTrip_c vp t w' (hp.ext RPass.stable h)
  have D4 := fun w' (h : Ext w w') => RCheckTrip_c vp t w' (hp.ext RPass.stable h)
  have SP := fun va vb cl F N w' ha hb => samePermit_c va vb cl F N w' ha hb
  obtain ⟨A, cap, rfl, hl, hcap⟩ := hs.shape
  obtain ⟨Ap, capp, rfl, hpl, hpcap⟩ := hp.shape
  unfold tripV at *
  generalize allE l = ea at *
  generalize tripE t = et at *
  generalize beginE l t = eb at *
  obtain ⟨⟨cl, F, N⟩, hcs⟩ : ∃ z, compS l t = z := ⟨_, rfl⟩
  rw [hcs] at C1 C2
  simp only at C1 C2
  replace G := Lib.hid G
  replace KN := Lib.hid KN
  replace C1 := Lib.hid C1
  replace C2 := Lib.hid C2
  replace D1 := Lib.hid D1
  replace D2 := Lib.hid D2
  replace D3 := Lib.hid D3
  replace D4 := Lib.hid D4
  replace SP := Lib.hid SP
  clear hs hp hcs
  go_enter Try.func3, Try.ntmps3
  go_upto_region 1 with fail
  have T0 := TripAt.new t (.slice Ap t.passages.length capp) w
  have E0 : Ext w (w.alloc (.cells #[.int .i64 t.z0, .int .i64 t.z1, .int .i64 t.z2, .int .i64 t.z3, .int .i64 t.z4, .int .i64 t.z5, .slice Ap t.passages.length capp] 26)) := (Ext.refl w).alloc _
  generalize (w.alloc (.cells #[.int .i64 t.z0, .int .i64 t.z1, .int .i64 t.z2, .int .i64 t.z3, .int .i64 t.z4, .int .i64 t.z5, .slice Ap t.passages.length capp] 26)) = W0 at *
  have HT0 := Lib.hid T0
  obtain ⟨t0, t1, t2, t3, t4, t5, t6⟩ := T0
  go_wp2_with fail
  refine (G.out _ E0).mono ?_
  rintro e w1 ⟨⟨b, rfl⟩, hb1⟩
  have E1 := E0.trans hb1
  have T1 := HT0.out.ext hb1
  clear t0 t1 t2 t3 t4 t5 t6
  cases b
  · obtain ⟨t0, t1, t2, t3, t4, t5, t6⟩ := T1
    go_upto_region 4 with (go_at_call 14; refine (C1.out _ (by (repeat' (first | exact Ext.refl _ | assumption | refine Ext.alloc ?_ _ | refine Ext.drew ?_ | refine Ext.drewN ?_ _ | refine Ext.set ?_ (by first | exact Nat.le_refl _ | exact le1 _ | exact le2 _ | exact le3 _ | exact le4 _ | exact le5 _ | exact le6 _) _ | refine Ext.trans ?_ (by assumption))))).mono ?_; rintro e w2 ⟨⟨va, rfl, ha⟩, hb2⟩; obtain ⟨Aa, capa, rfl, _, _⟩ := ha.shape)
    have E3 : Ext w1 (w2.alloc (.cells #[.slice Aa cl.length capa, .int .i64 F, .int .i64 N] 31)) := hb2.alloc _
    have ha3 := ha.ext RCond.stable ((Ext.refl w2).alloc (.cells #[.slice Aa cl.length capa, .int .i64 F, .int .i64 N] 31))
    have a0 : (w2.alloc (.cells #[.slice Aa cl.length capa, .int .i64 F, .int .i64 N] 31)).cell? ⟨w2.heap.size, 0, none⟩ = some (.slice Aa cl.length capa) := World.cell?_alloc_new _ _ _ _
    have a1 : (w2.alloc (.cells #[.slice Aa cl.length capa, .int .i64 F, .int .i64 N] 31)).cell? ⟨w2.heap.size, 1, none⟩ = some (.int .i64 F) := World.cell?_alloc_new _ _ _ _
    have a2 : (w2.alloc (.cells #[.slice Aa cl.length capa, .int .i64 F, .int .i64 N] 31)).cell? ⟨w2.heap.size, 2, none⟩ = some (.int .i64 N) := World.cell?_alloc_new _ _ _ _
    generalize (w2.alloc (.cells #[.slice Aa cl.length capa, .int .i64 F, .int .i64 N] 31)) = W3 at *
    have T3 : TripAt w.heap.size t (.slice Ap t.passages.length capp) W3 := TripAt.ext ⟨t0, t1, t2, t3, t4, t5, t6⟩ E3
    have E03 := E1.trans E3
    have HPA3 := Lib.hid ha3
    clear t0 t1 t2 t3 t4 t5 t6 ha ha3
    obtain ⟨t0, t1, t2, t3, t4, t5, t6⟩ := T3
    go_upto_region 5 with (go_at_call 15; refine (C2.out _ E03).mono ?_; rintro e w4 ⟨vb, rfl, hb, hb4⟩; obtain ⟨Ab, capb, rfl, _, _⟩ := hb.shape)
    have E5 : Ext W3 (w4.alloc (.cells #[.slice Ab cl.length capb, .int .i64 F, .int .i64 N] 31)) := hb4.alloc _
    have hb5 := hb.ext RCond.stable ((Ext.refl w4).alloc (.cells #[.slice Ab cl.length capb, .int .i64 F, .int .i64 N] 31))
    have b0 : (w4.alloc (.cells #[.slice Ab cl.length capb, .int .i64 F, .int .i64 N] 31)).cell? ⟨w4.heap.size, 0, none⟩ = some (.slice Ab cl.length capb) := World.cell?_alloc_new _ _ _ _
    have b1 : (w4.alloc (.cells #[.slice Ab cl.length capb, .int .i64 F, .int .i64 N] 31)).cell? ⟨w4.heap.size, 1, none⟩ = some (.int .i64 F) := World.cell?_alloc_new _ _ _ _
    have b2 : (w4.alloc (.cells #[.slice Ab cl.length capb, .int .i64 F, .int .i64 N] 31)).cell? ⟨w4.heap.size, 2, none⟩ = some (.int .i64 N) := World.cell?_alloc_new _ _ _ _
    generalize (w4.alloc (.cells #[.slice Ab cl.length capb, .int .i64 F, .int .i64 N] 31)) = W5 at *
    replace a0 := E5.cell a0
    replace a1 := E5.cell a1
    replace a2 := E5.cell a2
    replace t0 := E5.cell t0
    replace t1 := E5.cell t1
    replace t2 := E5.cell t2
    replace t3 := E5.cell t3
    replace t4 := E5.cell t4
    replace t5 := E5.cell t5
    replace t6 := E5.cell t6
    have HPA := Lib.hid (HPA3.out.ext RCond.stable E5)
    have HPB := Lib.hid hb5
    have E05 := E03.trans E5
    clear hb hb5 hb4 hb2 E5 E3 E03 E1 E0 hb1
    go_region_held3 (fun w' => w'.cell? ⟨w.heap.size, 0, none⟩ = some (.int .i64 t.z0) ∧ w'.cell? ⟨w.heap.size, 1, none⟩ = some (.int .i64 t.z1) ∧ w'.cell? ⟨w.heap.size, 2, none⟩ = some (.int .i64 t.z2) ∧ w'.cell? ⟨w.heap.size, 3, none⟩ = some (.int .i64 t.z3) ∧ w'.cell? ⟨w.heap.size, 4, none⟩ = some (.int .i64 t.z4) ∧ w'.cell? ⟨w.heap.size, 5, none⟩ = some (.int .i64 t.z5) ∧ w'.cell? ⟨w.heap.size, 6, none⟩ = some (.slice Ap t.passages.length capp) ∧ w'.cell? ⟨w2.heap.size, 0, none⟩ = some (.slice Aa cl.length capa) ∧ w'.cell? ⟨w2.heap.size, 1, none⟩ = some (.int .i64 F) ∧ w'.cell? ⟨w2.heap.size, 2, none⟩ = some (.int .i64 N) ∧ w'.cell? ⟨w4.heap.size, 0, none⟩ = some (.slice Ab cl.length capb) ∧ w'.cell? ⟨w4.heap.size, 1, none⟩ = some (.int .i64 F) ∧ w'.cell? ⟨w4.heap.size, 2, none⟩ = some (.int .i64 N)) (refine ⟨?_, ?_, ?_, ?_, ?_, ?_, ?_, ?_, ?_, ?_, ?_, ?_, ?_⟩ <;> (repeat' (with_reducible (first | assumption | refine Ext.cell hbd6 ?_ | refine Ext.cell hbd5 ?_ | refine Ext.cell hbd4 ?_ | refine Ext.cell hbd3 ?_ | refine Ext.cell hbd2 ?_ | refine Ext.cell hbd1 ?_ | refine Ext.cell (Ext.refl _).drew ?_)))) (first
      | (go_at_call 16; refine (D1.out _ (by (repeat' (first | exact Ext.refl _ | assumption | refine Ext.alloc ?_ _ | refine Ext.drew ?_ | refine Ext.drewN ?_ _ | refine Ext.set ?_ (by first | exact Nat.le_refl _ | exact le1 _ | exact le2 _ | exact le3 _ | exact le4 _ | exact le5 _ | exact le6 _) _ | refine Ext.trans ?_ (by assumption))))).mono ?_; rintro e wd1 ⟨rfl, hbd1⟩)
      | (go_at_call 17; refine (D2.out _ (by (repeat' (first | exact Ext.refl _ | assumption | refine Ext.alloc ?_ _ | refine Ext.drew ?_ | refine Ext.drewN ?_ _ | refine Ext.set ?_ (by first | exact Nat.le_refl _ | exact le1 _ | exact le2 _ | exact le3 _ | exact le4 _ | exact le5 _ | exact le6 _) _ | refine Ext.trans ?_ (by assumption))))).mono ?_; rintro e wd2 ⟨rfl, hbd2⟩)
      | (go_at_call 18; refine (D3.out _ (by (repeat' (first | exact Ext.refl _ | assumption | refine Ext.alloc ?_ _ | refine Ext.drew ?_ | refine Ext.drewN ?_ _ | refine Ext.set ?_ (by first | exact Nat.le_refl _ | exact le1 _ | exact le2 _ | exact le3 _ | exact le4 _ | exact le5 _ | exact le6 _) _ | refine Ext.trans ?_ (by assumption))))).mono ?_; rintro e wd3 ⟨rfl, hbd3⟩)
      | (go_at_call 19; refine (D4.out _ (by (repeat' (first | exact Ext.refl _ | assumption | refine Ext.alloc ?_ _ | refine Ext.drew ?_ | refine Ext.drewN ?_ _ | refine Ext.set ?_ (by first | exact Nat.le_refl _ | exact le1 _ | exact le2 _ | exact le3 _ | exact le4 _ | exact le5 _ | exact le6 _) _ | refine Ext.trans ?_ (by assumption))))).mono ?_; rintro e wd4 ⟨rfl, hbd4⟩)
      | (go_at_call 20; refine (SP.out _ _ cl F N _ (HPA.out.ext RCond.stable (by (repeat' (first | exact Ext.refl _ | assumption | refine Ext.alloc ?_ _ | refine Ext.drew ?_ | refine Ext.drewN ?_ _ | refine Ext.set ?_ (by first | exact Nat.le_refl _ | exact le1 _ | exact le2 _ | exact le3 _ | exact le4 _ | exact le5 _ | exact le6 _) _ | refine Ext.trans ?_ (by assumption))))) (HPB.out.ext RCond.stable (by (repeat' (first | exact Ext.refl _ | assumption | refine Ext.alloc ?_ _ | refine Ext.drew ?_ | refine Ext.drewN ?_ _ | refine Ext.set ?_ (by first | exact Nat.le_refl _ | exact le1 _ | exact le2 _ | exact le3 _ | exact le4 _ | exact le5 _ | exact le6 _) _ | refine Ext.trans ?_ (by assumption)))))).mono ?_; rintro e wd5 ⟨rfl, hbd5⟩)
      | (go_at_call 13; refine (KN.out _).mono ?_; rintro e wd6 ⟨rfl, hbd6⟩))
    all_goals
      go_wp2_with fail
      go_ret
      exact ⟨rfl, by (repeat' (first | exact Ext.refl _ | assumption | refine Ext.alloc ?_ _ | refine Ext.drew ?_ | refine Ext.drewN ?_ _ | refine Ext.set ?_ (by first | exact Nat.le_refl _ | exact le1 _ | exact le2 _ | exact le3 _ | exact le4 _ | exact le5 _ | exact le6 _) _ | refine Ext.trans ?_ (by assumption)))⟩
  · go_wp2_with (go_at_call 13; refine (KN.out _).mono ?_; rintro e w2 ⟨rfl, hb2⟩)
    go_ret
    exact ⟨rfl, E1.trans hb2⟩
end Go.Proofs.Ytaomlmkcifpfkaa
