/- Contracts: Broken of both texts. -/
import Derived.Test.YtaomlmkcifpfkaaPCross5
namespace Go.Proofs.Ytaomlmkcifpfkaa
open Go.RowKit Go.Shelf Go.Maps
attribute [local go_sem ↓] Go.wp_at_zero Go.wp_at_succ

theorem sl_nilC {α : Type} {n : Nat} {R : World → List Value → α → Prop} {w : World} : Sl n R w (.slice none 0 0) [] := ⟨none, 0, rfl, by simp, by simp, fun i x h => by simp at h⟩
theorem crossE_zero {c : PCross} (h : crossE c = 0) : 0 ≤ c.start ∧ c.start ≤ 1099511627776 := by
  unfold crossE at h
  split at h
  · rename_i h1; exact inB_iff.1 h1
  · cases h
def brokenL (l : List PAuth) (t : PTrip) (k : Int) (c : PCross) : List Int := chosenL (numsAt l t k) (breakK (rsAt l t k) (minAt t k).toNat c)
def brokenS (l : List PAuth) (t : PTrip) (k : Int) (c : PCross) : List Int × Int := if someE l t k = 0 then (if crossE c = 0 then (brokenL l t k c, 0) else ([], crossE c)) else ([], someE l t k)
theorem brokenS_bad {l : List PAuth} {t : PTrip} {k : Int} {c : PCross} (h : someE l t k ≠ 0) : brokenS l t k c = ([], someE l t k) := by unfold brokenS; rw [if_neg h]
theorem brokenS_cross {l : List PAuth} {t : PTrip} {k : Int} {c : PCross} (h : someE l t k = 0) (h2 : crossE c ≠ 0) : brokenS l t k c = ([], crossE c) := by unfold brokenS; rw [if_pos h, if_neg h2]
theorem brokenS_ok {l : List PAuth} {t : PTrip} {k : Int} {c : PCross} (h : someE l t k = 0) (h2 : crossE c = 0) : brokenS l t k c = (brokenL l t k c, 0) := by unfold brokenS; rw [if_pos h, if_pos h2]
def BrokenR (l : List PAuth) (t : PTrip) (k : Int) (c : PCross) (w : World) (e : Ending) (w' : World) : Prop := Ext w w' ∧ ∃ v, e = .returned (.tuple #[v, .int .i64 (brokenS l t k c).2]) ∧ Sl 1 RInt w' v (brokenS l t k c).1

set_option maxRecDepth 100000 in
set_option maxHeartbeats 3200000 in
theorem Broken_c (v vp vt : Value) (l : List PAuth) (t : PTrip) (k : Int) (c : PCross) (w : World) (hk : -9223372036854775808 ≤ k) (hk2 : k ≤ 9223372036854775807) (hs : Sl 4 RAuth w v l) (hp : Sl 3 RPass w vp t.passages) (hc : Sl 3 RCount w vt c.things) :
    Calls Try.prog 41 #[v, tripV t vp, .int .i64 k, .agg #[.int .i64 c.start, vt]] w (BrokenR l t k c w) := by
  have C1 := fun w' (h : Ext w w') => findP_c v vp l t k w' hk hk2 (hs.ext RAuth.stable h) (hp.ext RPass.stable h)
  have C2 := fun w' (h : Ext w w') => crossing_c c vt w' (hc.ext RCount.stable h)
  have C3 := fun B o n vl vn rs ns w' (h : Ext w w') hl hns hv => broken_c B o n vl vn vt rs ns c w' hl hns hv (hc.ext RCount.stable h)
  obtain ⟨A, cap, rfl, hl, hcap⟩ := hs.shape
  obtain ⟨Ap, capp, rfl, hpl, hpcap⟩ := hp.shape
  obtain ⟨At, ct, rfl, lt, lt2⟩ := hc.shape
  unfold tripV at *
  replace C1 := Lib.hid C1
  replace C2 := Lib.hid C2
  replace C3 := Lib.hid C3
  clear hs hp hc
  obtain ⟨Post, hPost⟩ : ∃ Post, BrokenR l t k c w = Post := ⟨_, rfl⟩
  rw [hPost]
  replace hPost := Lib.hid hPost
  go_enter Try.func41, Try.ntmps41
  go_upto_region 1 with fail
  have T0 := TripAt.new t (.slice Ap t.passages.length capp) w
  have e0 : Ext w (w.alloc (.cells #[.int .i64 t.z0, .int .i64 t.z1, .int .i64 t.z2, .int .i64 t.z3, .int .i64 t.z4, .int .i64 t.z5, .slice Ap t.passages.length capp] 26)) := (Ext.refl w).alloc _
  have z0 : (w.alloc (.cells #[.int .i64 t.z0, .int .i64 t.z1, .int .i64 t.z2, .int .i64 t.z3, .int .i64 t.z4, .int .i64 t.z5, .slice Ap t.passages.length capp] 26)).heap.size = w.heap.size + 1 := size_alloc _ _
  generalize (w.alloc (.cells #[.int .i64 t.z0, .int .i64 t.z1, .int .i64 t.z2, .int .i64 t.z3, .int .i64 t.z4, .int .i64 t.z5, .slice Ap t.passages.length capp] 26)) = W0 at *
  have e1 : Ext W0 (W0.alloc (.cells #[.int .i64 c.start, .slice At c.things.length ct] 83)) := (Ext.refl _).alloc _
  have c0 : (W0.alloc (.cells #[.int .i64 c.start, .slice At c.things.length ct] 83)).cell? ⟨W0.heap.size, 0, none⟩ = some (.int .i64 c.start) := World.cell?_alloc_new _ _ _ _
  have c1 : (W0.alloc (.cells #[.int .i64 c.start, .slice At c.things.length ct] 83)).cell? ⟨W0.heap.size, 1, none⟩ = some (.slice At c.things.length ct) := World.cell?_alloc_new _ _ _ _
  rw [z0] at c0 c1
  generalize W0.alloc (.cells #[.int .i64 c.start, .slice At c.things.length ct] 83) = W1 at *
  have E1 := e0.trans e1
  obtain ⟨t0, t1, t2, t3, t4, t5, t6⟩ := T0.ext e1
  clear T0 e0 e1 z0
  go_wp2_with fail
  refine (C1.out _ E1).mono ?_
  rintro e w1 ⟨hb1, ⟨hne, rfl⟩ | ⟨h0, B, o, vl, vn, rfl, m0, m1, m2, hr1, hr2⟩⟩
  · have hne' : (someE l t k != 0) = true := by simp [hne]
    have HA := Lib.hid (brokenS_bad (c := c) hne)
    generalize someE l t k = E at *
    go_wp2_with fail
    rw [← hPost.out]
    exact ⟨E1.trans hb1, _, by rw [HA.out]; rfl, by rw [HA.out]; exact sl_nilC⟩
  · have E2 := E1.trans hb1
    have d0 := hb1.cell c0
    have d1 := hb1.cell c1
    by_cases hce : crossE c = 0
    · have HA := Lib.hid (brokenS_ok h0 hce)
      have hst := crossE_zero hce
      have hPO := passOk h0
      have hm2 := hPO.min2
      have hm1 := hPO.min1
      obtain ⟨n, hn⟩ : ∃ n : Nat, minAt t k = (n : Int) := ⟨(minAt t k).toNat, by omega⟩
      rw [hn] at m2 hm2
      have C4 := fun w' (h : Ext w1 w') => C3.out B o n vl vn (rsAt l t k) (numsAt l t k) w' (E2.trans h) (hr1.ext RRule.stable h) (hr2.ext RInt.stable h) hPO.rules (h.cell m0) (h.cell m1) (h.cell m2) hst.1 hst.2 (by omega) hPO.len hPO.nums
      have HB := Lib.hid (show brokenL l t k c = chosenL (numsAt l t k) (breakK (rsAt l t k) n c) by unfold brokenL; rw [hn]; rfl)
      rw [hce] at C2
      replace C4 := Lib.hid C4
      clear hr1 hr2 hce hPO hst h0 m0 m1 m2 c0 c1 t0 t1 t2 t3 t4 t5 t6 hm1 hm2 hn C3 C1
      go_upto_region 7 with (go_at_call 73; refine (C2.out _ (by (repeat' (first | exact Ext.refl _ | assumption | refine Ext.alloc ?_ _ | refine Ext.drew ?_ | refine Ext.drewN ?_ _ | refine Ext.set ?_ (by first | exact Nat.le_refl _ | exact le1 _ | exact le2 _ | exact le3 _ | exact le4 _ | exact le5 _ | exact le6 _) _ | refine Ext.trans ?_ (by assumption))))).mono ?_; rintro e w2 ⟨rfl, hb2⟩; have f0 := hb2.cell d0; have f1 := hb2.cell d1)
      go_wp2_with (go_at_call 74; refine (C4.out _ (by (repeat' (first | exact Ext.refl _ | assumption | refine Ext.alloc ?_ _ | refine Ext.drew ?_ | refine Ext.drewN ?_ _ | refine Ext.set ?_ (by first | exact Nat.le_refl _ | exact le1 _ | exact le2 _ | exact le3 _ | exact le4 _ | exact le5 _ | exact le6 _) _ | refine Ext.trans ?_ (by assumption))))).mono ?_; rintro e w3 ⟨⟨v3, rfl, ho3⟩, hb3⟩)
      rw [← hPost.out]
      exact ⟨E2.trans (hb2.trans hb3), _, by rw [HA.out]; rfl, by rw [HA.out, HB.out]; exact ho3.sl⟩
    · have HA := Lib.hid (brokenS_cross h0 hce)
      have hce' : (crossE c != 0) = true := by simp [hce]
      generalize crossE c = E at *
      clear hr1 hr2 h0 m0 m1 m2 c0 c1 t0 t1 t2 t3 t4 t5 t6 C3 C1
      go_wp2_with (go_at_call 73; refine (C2.out _ (by (repeat' (first | exact Ext.refl _ | assumption | refine Ext.alloc ?_ _ | refine Ext.drew ?_ | refine Ext.drewN ?_ _ | refine Ext.set ?_ (by first | exact Nat.le_refl _ | exact le1 _ | exact le2 _ | exact le3 _ | exact le4 _ | exact le5 _ | exact le6 _) _ | refine Ext.trans ?_ (by assumption))))).mono ?_; rintro e w2 ⟨rfl, hb2⟩)
      rw [← hPost.out]
      exact ⟨E2.trans hb2, _, by rw [HA.out]; rfl, by rw [HA.out]; exact sl_nilC⟩

set_option maxRecDepth 100000 in
set_option maxHeartbeats 3200000 in
theorem RBroken_c (v vp vt : Value) (l : List PAuth) (t : PTrip) (k : Int) (c : PCross) (w : World) (hs : Sl 4 RAuth w v l) (hp : Sl 3 RPass w vp t.passages) (hc : Sl 3 RCount w vt c.things) :
    Calls Try.prog 42 #[v, tripV t vp, .int .i64 k, .agg #[.int .i64 c.start, vt]] w (BrokenR l t k c w) := by
  have C1 := fun w' (h : Ext w w') => some_c v vp l t k w' (hs.ext RAuth.stable h) (hp.ext RPass.stable h)
  have C2 := fun w' (h : Ext w w') => Rcrossing_c c vt w' (hc.ext RCount.stable h)
  have C3 := fun w' (h : Ext w w') h0 => Rbroken_c v vp vt l t k c w' (hs.ext RAuth.stable h) (hp.ext RPass.stable h) h0 (hc.ext RCount.stable h)
  obtain ⟨A, cap, rfl, hl, hcap⟩ := hs.shape
  obtain ⟨Ap, capp, rfl, hpl, hpcap⟩ := hp.shape
  obtain ⟨At, ct, rfl, lt, lt2⟩ := hc.shape
  unfold tripV at *
  clear hs hp hc
  obtain ⟨Post, hPost⟩ : ∃ Post, BrokenR l t k c w = Post := ⟨_, rfl⟩
  rw [hPost]
  replace hPost := Lib.hid hPost
  by_cases h0 : someE l t k = 0
  · by_cases hce : crossE c = 0
    · have HA := Lib.hid (brokenS_ok h0 hce)
      have hst := crossE_zero hce
      have C4 := Lib.hid (fun w' h => C3 w' h h0 hst.1 hst.2)
      have HB := Lib.hid (show brokenL l t k c = chosenL (numsAt l t k) (breakK (rsAt l t k) (minAt t k).toNat c) from rfl)
      rw [h0] at C1
      rw [hce] at C2
      replace C1 := Lib.hid C1
      replace C2 := Lib.hid C2
      generalize chosenL (numsAt l t k) (breakK (rsAt l t k) (minAt t k).toNat c) = D at *
      clear C3 h0 hce hst
      go_enter Try.func42, Try.ntmps42
      go_upto_region 1 with fail
      have T0 := TripAt.new t (.slice Ap t.passages.length capp) w
      have e0 : Ext w (w.alloc (.cells #[.int .i64 t.z0, .int .i64 t.z1, .int .i64 t.z2, .int .i64 t.z3, .int .i64 t.z4, .int .i64 t.z5, .slice Ap t.passages.length capp] 26)) := (Ext.refl w).alloc _
      have z0 : (w.alloc (.cells #[.int .i64 t.z0, .int .i64 t.z1, .int .i64 t.z2, .int .i64 t.z3, .int .i64 t.z4, .int .i64 t.z5, .slice Ap t.passages.length capp] 26)).heap.size = w.heap.size + 1 := size_alloc _ _
      generalize (w.alloc (.cells #[.int .i64 t.z0, .int .i64 t.z1, .int .i64 t.z2, .int .i64 t.z3, .int .i64 t.z4, .int .i64 t.z5, .slice Ap t.passages.length capp] 26)) = W0 at *
      have e1 : Ext W0 (W0.alloc (.cells #[.int .i64 c.start, .slice At c.things.length ct] 83)) := (Ext.refl _).alloc _
      have c0 : (W0.alloc (.cells #[.int .i64 c.start, .slice At c.things.length ct] 83)).cell? ⟨W0.heap.size, 0, none⟩ = some (.int .i64 c.start) := World.cell?_alloc_new _ _ _ _
      have c1 : (W0.alloc (.cells #[.int .i64 c.start, .slice At c.things.length ct] 83)).cell? ⟨W0.heap.size, 1, none⟩ = some (.slice At c.things.length ct) := World.cell?_alloc_new _ _ _ _
      rw [z0] at c0 c1
      generalize W0.alloc (.cells #[.int .i64 c.start, .slice At c.things.length ct] 83) = W1 at *
      have E1 := e0.trans e1
      obtain ⟨t0, t1, t2, t3, t4, t5, t6⟩ := T0.ext e1
      have HT := Lib.hid (T0.ext e1)
      clear T0 e0 e1 z0
      go_upto_region 3 with (go_at_call 70; refine (C1.out _ E1).mono ?_; rintro e w1 ⟨rfl, hb1⟩)
      obtain ⟨t0, t1, t2, t3, t4, t5, t6⟩ := HT.out.ext hb1
      have d0 := hb1.cell c0
      have d1 := hb1.cell c1
      go_upto_region 5 with (go_at_call 75; refine (C2.out _ (by (repeat' (first | exact Ext.refl _ | assumption | refine Ext.alloc ?_ _ | refine Ext.drew ?_ | refine Ext.drewN ?_ _ | refine Ext.set ?_ (by first | exact Nat.le_refl _ | exact le1 _ | exact le2 _ | exact le3 _ | exact le4 _ | exact le5 _ | exact le6 _) _ | refine Ext.trans ?_ (by assumption))))).mono ?_; rintro e w2 ⟨rfl, hb2⟩)
      obtain ⟨s0, s1, s2, s3, s4, s5, s6⟩ := HT.out.ext (hb1.trans hb2)
      have f0 := hb2.cell d0
      have f1 := hb2.cell d1
      clear t0 t1 t2 t3 t4 t5 t6 c0 c1 d0 d1
      go_wp2_with (go_at_call 76; refine (C4.out _ (by (repeat' (first | exact Ext.refl _ | assumption | refine Ext.alloc ?_ _ | refine Ext.drew ?_ | refine Ext.drewN ?_ _ | refine Ext.set ?_ (by first | exact Nat.le_refl _ | exact le1 _ | exact le2 _ | exact le3 _ | exact le4 _ | exact le5 _ | exact le6 _) _ | refine Ext.trans ?_ (by assumption))))).mono ?_; rintro e w3 ⟨⟨v3, rfl, ho3⟩, hb3⟩)
      rw [← hPost.out]
      exact ⟨E1.trans (hb1.trans (hb2.trans hb3)), _, by rw [HA.out]; rfl, by rw [HA.out, HB.out]; exact ho3.sl⟩
    · have HA := Lib.hid (brokenS_cross h0 hce)
      have hce' : (crossE c != 0) = true := by simp [hce]
      rw [h0] at C1
      generalize crossE c = E at *
      replace C1 := Lib.hid C1
      replace C2 := Lib.hid C2
      clear C3 h0
      go_enter Try.func42, Try.ntmps42
      go_upto_region 1 with fail
      have T0 := TripAt.new t (.slice Ap t.passages.length capp) w
      have e0 : Ext w (w.alloc (.cells #[.int .i64 t.z0, .int .i64 t.z1, .int .i64 t.z2, .int .i64 t.z3, .int .i64 t.z4, .int .i64 t.z5, .slice Ap t.passages.length capp] 26)) := (Ext.refl w).alloc _
      have z0 : (w.alloc (.cells #[.int .i64 t.z0, .int .i64 t.z1, .int .i64 t.z2, .int .i64 t.z3, .int .i64 t.z4, .int .i64 t.z5, .slice Ap t.passages.length capp] 26)).heap.size = w.heap.size + 1 := size_alloc _ _
      generalize (w.alloc (.cells #[.int .i64 t.z0, .int .i64 t.z1, .int .i64 t.z2, .int .i64 t.z3, .int .i64 t.z4, .int .i64 t.z5, .slice Ap t.passages.length capp] 26)) = W0 at *
      have e1 : Ext W0 (W0.alloc (.cells #[.int .i64 c.start, .slice At c.things.length ct] 83)) := (Ext.refl _).alloc _
      have c0 : (W0.alloc (.cells #[.int .i64 c.start, .slice At c.things.length ct] 83)).cell? ⟨W0.heap.size, 0, none⟩ = some (.int .i64 c.start) := World.cell?_alloc_new _ _ _ _
      have c1 : (W0.alloc (.cells #[.int .i64 c.start, .slice At c.things.length ct] 83)).cell? ⟨W0.heap.size, 1, none⟩ = some (.slice At c.things.length ct) := World.cell?_alloc_new _ _ _ _
      rw [z0] at c0 c1
      generalize W0.alloc (.cells #[.int .i64 c.start, .slice At c.things.length ct] 83) = W1 at *
      have E1 := e0.trans e1
      obtain ⟨t0, t1, t2, t3, t4, t5, t6⟩ := T0.ext e1
      have HT := Lib.hid (T0.ext e1)
      clear T0 e0 e1 z0
      go_upto_region 3 with (go_at_call 70; refine (C1.out _ E1).mono ?_; rintro e w1 ⟨rfl, hb1⟩)
      have d0 := hb1.cell c0
      have d1 := hb1.cell c1
      clear t0 t1 t2 t3 t4 t5 t6 c0 c1
      go_upto_region 4 with (go_at_call 75; refine (C2.out _ (by (repeat' (first | exact Ext.refl _ | assumption | refine Ext.alloc ?_ _ | refine Ext.drew ?_ | refine Ext.drewN ?_ _ | refine Ext.set ?_ (by first | exact Nat.le_refl _ | exact le1 _ | exact le2 _ | exact le3 _ | exact le4 _ | exact le5 _ | exact le6 _) _ | refine Ext.trans ?_ (by assumption))))).mono ?_; rintro e w2 ⟨rfl, hb2⟩)
      have f0 := hb2.cell d0
      have f1 := hb2.cell d1
      clear d0 d1
      go_wp2_with (go_at_call 75; refine (C2.out _ (by (repeat' (first | exact Ext.refl _ | assumption | refine Ext.alloc ?_ _ | refine Ext.drew ?_ | refine Ext.drewN ?_ _ | refine Ext.set ?_ (by first | exact Nat.le_refl _ | exact le1 _ | exact le2 _ | exact le3 _ | exact le4 _ | exact le5 _ | exact le6 _) _ | refine Ext.trans ?_ (by assumption))))).mono ?_; rintro e w3 ⟨rfl, hb3⟩)
      rw [← hPost.out]
      exact ⟨E1.trans (hb1.trans (hb2.trans hb3)), _, by rw [HA.out]; rfl, by rw [HA.out]; exact sl_nilC⟩
  · have HA := Lib.hid (brokenS_bad (c := c) h0)
    have hne' : (someE l t k != 0) = true := by simp [h0]
    generalize someE l t k = E at *
    replace C1 := Lib.hid C1
    clear C2 C3
    go_enter Try.func42, Try.ntmps42
    go_upto_region 1 with fail
    have T0 := TripAt.new t (.slice Ap t.passages.length capp) w
    have e0 : Ext w (w.alloc (.cells #[.int .i64 t.z0, .int .i64 t.z1, .int .i64 t.z2, .int .i64 t.z3, .int .i64 t.z4, .int .i64 t.z5, .slice Ap t.passages.length capp] 26)) := (Ext.refl w).alloc _
    have z0 : (w.alloc (.cells #[.int .i64 t.z0, .int .i64 t.z1, .int .i64 t.z2, .int .i64 t.z3, .int .i64 t.z4, .int .i64 t.z5, .slice Ap t.passages.length capp] 26)).heap.size = w.heap.size + 1 := size_alloc _ _
    generalize (w.alloc (.cells #[.int .i64 t.z0, .int .i64 t.z1, .int .i64 t.z2, .int .i64 t.z3, .int .i64 t.z4, .int .i64 t.z5, .slice Ap t.passages.length capp] 26)) = W0 at *
    have e1 : Ext W0 (W0.alloc (.cells #[.int .i64 c.start, .slice At c.things.length ct] 83)) := (Ext.refl _).alloc _
    have c0 : (W0.alloc (.cells #[.int .i64 c.start, .slice At c.things.length ct] 83)).cell? ⟨W0.heap.size, 0, none⟩ = some (.int .i64 c.start) := World.cell?_alloc_new _ _ _ _
    have c1 : (W0.alloc (.cells #[.int .i64 c.start, .slice At c.things.length ct] 83)).cell? ⟨W0.heap.size, 1, none⟩ = some (.slice At c.things.length ct) := World.cell?_alloc_new _ _ _ _
    rw [z0] at c0 c1
    generalize W0.alloc (.cells #[.int .i64 c.start, .slice At c.things.length ct] 83) = W1 at *
    have E1 := e0.trans e1
    obtain ⟨t0, t1, t2, t3, t4, t5, t6⟩ := T0.ext e1
    have HT := Lib.hid (T0.ext e1)
    clear T0 e0 e1 z0
    go_upto_region 2 with (go_at_call 70; refine (C1.out _ E1).mono ?_; rintro e w1 ⟨rfl, hb1⟩)
    have E2 := E1.trans hb1
    clear t0 t1 t2 t3 t4 t5 t6
    obtain ⟨t0, t1, t2, t3, t4, t5, t6⟩ := HT.out.ext hb1
    go_wp2_with (go_at_call 70; refine (C1.out _ E2).mono ?_; rintro e w2 ⟨rfl, hb2⟩)
    rw [← hPost.out]
    exact ⟨E2.trans hb2, _, by rw [HA.out]; rfl, by rw [HA.out]; exact sl_nilC⟩
end Go.Proofs.Ytaomlmkcifpfkaa
