/- Contracts: Allowed and Next, the definitions. -/
import Derived.Test.YtaomlmkcifpfkaaPNext
namespace Go.Proofs.Ytaomlmkcifpfkaa
open Go.RowKit Go.Shelf Go.Maps
attribute [local go_sem ↓] Go.wp_at_zero Go.wp_at_succ

/-- a trip in its box -/
def TripAt (B : Nat) (t : PTrip) (vp : Value) (W : World) : Prop := W.cell? ⟨B, 0, none⟩ = some (.int .i64 t.z0) ∧ W.cell? ⟨B, 1, none⟩ = some (.int .i64 t.z1) ∧ W.cell? ⟨B, 2, none⟩ = some (.int .i64 t.z2) ∧ W.cell? ⟨B, 3, none⟩ = some (.int .i64 t.z3) ∧ W.cell? ⟨B, 4, none⟩ = some (.int .i64 t.z4) ∧ W.cell? ⟨B, 5, none⟩ = some (.int .i64 t.z5) ∧ W.cell? ⟨B, 6, none⟩ = some vp
theorem TripAt.ext {B : Nat} {t : PTrip} {vp : Value} {W W' : World} (h : TripAt B t vp W) (he : Ext W W') : TripAt B t vp W' := by
  obtain ⟨h0, h1, h2, h3, h4, h5, h6⟩ := h
  exact ⟨he.cell h0, he.cell h1, he.cell h2, he.cell h3, he.cell h4, he.cell h5, he.cell h6⟩
theorem TripAt.new (t : PTrip) (vp : Value) (w : World) : TripAt w.heap.size t vp (w.alloc (.cells #[.int .i64 t.z0, .int .i64 t.z1, .int .i64 t.z2, .int .i64 t.z3, .int .i64 t.z4, .int .i64 t.z5, vp] 26)) :=
  ⟨World.cell?_alloc_new _ _ _ _, World.cell?_alloc_new _ _ _ _, World.cell?_alloc_new _ _ _ _, World.cell?_alloc_new _ _ _ _, World.cell?_alloc_new _ _ _ _, World.cell?_alloc_new _ _ _ _, World.cell?_alloc_new _ _ _ _⟩
theorem ofAt_c (v vp : Value) (l : List PAuth) (t : PTrip) (k : Int) (w : World) (hs : Sl 4 RAuth w v l) (hp : Sl 3 RPass w vp t.passages) (h0 : someE l t k = 0) :
    Calls Try.prog 23 #[v, tripV t vp, .int .i64 k] w fun e w' => (∃ vn vr, e = .returned (.tuple #[vn, vr]) ∧ Sl 1 RInt w' vn (numsAt l t k) ∧ Sl 11 RRule w' vr (rsAt l t k)) ∧ Ext w w' := by
  have hPO := passOk h0
  obtain ⟨n, rfl⟩ : ∃ n : Nat, k = (n : Int) := ⟨k.toNat, by have := hPO.nat; omega⟩
  have hn := hPO.lt
  obtain ⟨p, hpn⟩ := some_of_lt (l := t.passages) (k := n) (by omega)
  have e1 : rsAt l t (n : Int) = rsOf l t p := by unfold rsAt; rw [Int.toNat_natCast, hpn]
  have e2 : numsAt l t (n : Int) = numsOf l t n p := by unfold numsAt; rw [Int.toNat_natCast, hpn]
  rw [e1, e2]
  refine (Of_c v vp l t n p w hs hp hPO.valid hpn).mono ?_
  rintro e w1 ⟨vn, vr, rfl, h1, h2, h3⟩
  exact ⟨⟨vn, vr, rfl, h1, h2⟩, h3⟩

set_option maxRecDepth 100000 in
set_option maxHeartbeats 1600000 in
theorem RAllowedP_c (v vp : Value) (l : List PAuth) (t : PTrip) (k m : Int) (w : World) (hs : Sl 4 RAuth w v l) (hp : Sl 3 RPass w vp t.passages) :
    Calls Try.prog 37 #[v, tripV t vp, .int .i64 k, .int .i64 m] w (AllowR l t k m w) := by
  have C1 := fun w' (h : Ext w w') => some_c v vp l t k w' (hs.ext RAuth.stable h) (hp.ext RPass.stable h)
  have C2 := fun w' (h : Ext w w') h0 => ofAt_c v vp l t k w' (hs.ext RAuth.stable h) (hp.ext RPass.stable h) h0
  have C3 := fun w' => within_c m 0 1099511627776 w'
  obtain ⟨A, cap, rfl, hl, hcap⟩ := hs.shape
  obtain ⟨Ap, capp, rfl, hpl, hpcap⟩ := hp.shape
  unfold tripV at *
  replace C1 := Lib.hid C1
  replace C2 := Lib.hid C2
  clear hs hp
  obtain ⟨Post, hPost⟩ : ∃ Post, AllowR l t k m w = Post := ⟨_, rfl⟩
  rw [hPost]
  replace hPost := Lib.hid hPost
  by_cases hne : someE l t k = 0
  · have hPO := passOk hne
    rw [hne] at C1
    have C2' := fun w' h => C2.out w' h hne
    replace C2' := Lib.hid C2'
    cases hm : inB m 0 1099511627776
    · have HA := Lib.hid (allowS_range hne hm)
      rw [hm] at C3
      replace C3 := Lib.hid C3
      clear hm hne hPO C2
      go_enter Try.func37, Try.ntmps37
      go_wp2_with (first | (go_at_call 70; refine (C1.out _ (by (repeat' (first | exact Ext.refl _ | assumption | refine Ext.alloc ?_ _ | refine Ext.drew ?_ | refine Ext.drewN ?_ _ | refine Ext.set ?_ (by first | exact Nat.le_refl _ | exact le1 _ | exact le2 _ | exact le3 _ | exact le4 _ | exact le5 _ | exact le6 _) _ | refine Ext.trans ?_ (by assumption))))).mono ?_; rintro e w1 ⟨rfl, hb1⟩) | (go_at_call 54; refine (C3.out _).mono ?_; rintro e w2 ⟨rfl, rfl⟩))
      rw [← hPost.out]
      exact ⟨by (repeat' (first | exact Ext.refl _ | assumption | refine Ext.alloc ?_ _ | refine Ext.drew ?_ | refine Ext.drewN ?_ _ | refine Ext.set ?_ (by first | exact Nat.le_refl _ | exact le1 _ | exact le2 _ | exact le3 _ | exact le4 _ | exact le5 _ | exact le6 _) _ | refine Ext.trans ?_ (by assumption))), by rw [HA.out]; rfl⟩
    · have HA := Lib.hid (allowS_ok hne hm)
      rw [inB_iff] at hm
      rw [show inB m 0 1099511627776 = true from inB_iff.2 hm] at C3
      have C4 := fun v' w' (h : Sl 11 RRule w' v' (rsAt l t k)) => RAllowed_c v' (rsAt l t k) m w' h hPO.rules hm.1 (by omega)
      generalize allowedB (rsAt l t k) m = q at *
      replace C3 := Lib.hid C3
      replace C4 := Lib.hid C4
      clear hne hPO C2
      go_enter Try.func37, Try.ntmps37
      go_upto_region 5 with (first | (go_at_call 70; refine (C1.out _ (by (repeat' (first | exact Ext.refl _ | assumption | refine Ext.alloc ?_ _ | refine Ext.drew ?_ | refine Ext.drewN ?_ _ | refine Ext.set ?_ (by first | exact Nat.le_refl _ | exact le1 _ | exact le2 _ | exact le3 _ | exact le4 _ | exact le5 _ | exact le6 _) _ | refine Ext.trans ?_ (by assumption))))).mono ?_; rintro e w1 ⟨rfl, hb1⟩) | (go_at_call 54; refine (C3.out _).mono ?_; rintro e w2 ⟨rfl, rfl⟩))
      have E1 : Ext w w1 := by (repeat' (first | exact Ext.refl _ | assumption | refine Ext.alloc ?_ _ | refine Ext.drew ?_ | refine Ext.drewN ?_ _ | refine Ext.set ?_ (by first | exact Nat.le_refl _ | exact le1 _ | exact le2 _ | exact le3 _ | exact le4 _ | exact le5 _ | exact le6 _) _ | refine Ext.trans ?_ (by assumption)))
      have T1 := (TripAt.new t (.slice Ap t.passages.length capp) w).ext hb1
      obtain ⟨t0, t1, t2, t3, t4, t5, t6⟩ := T1
      go_wp2_with (first | (go_at_call 23; refine (C2'.out _ E1).mono ?_; rintro e w3 ⟨⟨vn, vr, rfl, hn, hr⟩, hb3⟩; obtain ⟨An, capn, rfl, _, _⟩ := hn.shape; obtain ⟨Ar, capr, rfl, _, _⟩ := hr.shape) | (go_at_call 72; refine (C4.out _ _ hr).mono ?_; rintro e w4 ⟨rfl, hb4⟩))
      rw [← hPost.out]
      exact ⟨E1.trans (hb3.trans hb4), by rw [HA.out]; rfl⟩
  · have HA := Lib.hid (allowS_bad (m := m) hne)
    have hne' : (someE l t k != 0) = true := by simp [hne]
    generalize someE l t k = E at *
    clear C2 C3
    go_enter Try.func37, Try.ntmps37
    go_upto_region 2 with (go_at_call 70; refine (C1.out _ (by (repeat' (first | exact Ext.refl _ | assumption | refine Ext.alloc ?_ _ | refine Ext.drew ?_ | refine Ext.drewN ?_ _ | refine Ext.set ?_ (by first | exact Nat.le_refl _ | exact le1 _ | exact le2 _ | exact le3 _ | exact le4 _ | exact le5 _ | exact le6 _) _ | refine Ext.trans ?_ (by assumption))))).mono ?_; rintro e w1 ⟨rfl, hb1⟩)
    have E1 : Ext w w1 := by (repeat' (first | exact Ext.refl _ | assumption | refine Ext.alloc ?_ _ | refine Ext.drew ?_ | refine Ext.drewN ?_ _ | refine Ext.set ?_ (by first | exact Nat.le_refl _ | exact le1 _ | exact le2 _ | exact le3 _ | exact le4 _ | exact le5 _ | exact le6 _) _ | refine Ext.trans ?_ (by assumption)))
    have T1 := (TripAt.new t (.slice Ap t.passages.length capp) w).ext hb1
    obtain ⟨t0, t1, t2, t3, t4, t5, t6⟩ := T1
    go_wp2_with (go_at_call 70; refine (C1.out _ E1).mono ?_; rintro e w2 ⟨rfl, hb2⟩)
    rw [← hPost.out]
    exact ⟨E1.trans hb2, by rw [HA.out]; rfl⟩
end Go.Proofs.Ytaomlmkcifpfkaa
