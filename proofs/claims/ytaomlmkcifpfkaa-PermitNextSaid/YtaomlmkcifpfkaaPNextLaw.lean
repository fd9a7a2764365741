/- The law PermitNext, walked. -/
import Derived.Test.YtaomlmkcifpfkaaPKnown
import Derived.Test.YtaomlmkcifpfkaaPFree
import Derived.Deep.RegionHeld3
namespace Go.Proofs.Ytaomlmkcifpfkaa
open Go.RowKit Go.Shelf Go.Maps
attribute [local go_sem ↓] Go.wp_at_zero Go.wp_at_succ

theorem nextR_lt (al : Int → Bool) (last d : Int) : ∀ (n : Nat) (m s r : Int), nextR al last d n m s = some r → r < last
  | 0, m, s, r, h => by simp [nextR] at h
  | n + 1, m, s, r, h => by
    simp only [nextR] at h
    by_cases hl : last ≤ s
    · rw [if_pos hl] at h; cases h
    · rw [if_neg hl] at h
      by_cases ha : al m = true
      · rw [if_pos ha] at h
        by_cases he : m - s + 1 = d
        · rw [if_pos he] at h
          obtain rfl : s = r := Option.some.inj h
          omega
        · rw [if_neg he] at h
          exact nextR_lt al last d n _ _ r h
      · rw [if_neg ha] at h
        exact nextR_lt al last d n _ _ r h
theorem nextS_none {l : List PAuth} {t : PTrip} {k fr : Int} (h : (nextS l t k fr).2 ≠ 0) : (nextS l t k fr).1 = 0 := by
  unfold nextS at *
  split at h
  · rw [if_pos (by assumption)]
    split at h
    · rw [if_pos (by assumption)]
      cases hn : nextO (rsAt l t k) fr (minAt t k) with
      | none => rfl
      | some s => rw [hn] at h; exact absurd rfl h
    · rw [if_neg (by assumption)]
  · rw [if_neg (by assumption)]
theorem nextS_some {l : List PAuth} {t : PTrip} {k fr : Int} (h : (nextS l t k fr).2 = 0) : someE l t k = 0 ∧ inB fr 0 1099511627776 = true ∧ nextO (rsAt l t k) fr (minAt t k) = some (nextS l t k fr).1 := by
  unfold nextS at *
  split at h
  · rename_i h0
    rw [if_pos h0]
    split at h
    · rename_i h1
      rw [if_pos h1]
      cases hn : nextO (rsAt l t k) fr (minAt t k) with
      | none => rw [hn] at h; cases h
      | some s => exact ⟨h0, h1, rfl⟩
    · cases h
  · rename_i h0
    exact absurd h h0
theorem some_begin {l : List PAuth} {t : PTrip} {k : Int} (h : someE l t k = 0) : beginE l t = 0 := by
  unfold someE at h
  by_cases h0 : beginE l t = 0
  · exact h0
  · rw [if_neg h0] at h; exact h
theorem freeP_none {rs : List PRule} {m d : Int} {b : Bool} (h : b = true ↔ freeP rs m d) (hn : ¬ freeP rs m d) : b = false := by
  cases b
  · rfl
  · exact absurd (h.1 rfl) hn
/-- what the next start is -/
theorem nextS_spec {l : List PAuth} {t : PTrip} {k fr : Int} (h : (nextS l t k fr).2 = 0) : fr ≤ (nextS l t k fr).1 ∧ (nextS l t k fr).1 ≤ fr + 576000 ∧ freeP (rsAt l t k) (nextS l t k fr).1 (minAt t k) ∧
    ∀ x, fr ≤ x → x < (nextS l t k fr).1 → ¬ freeP (rsAt l t k) x (minAt t k) := by
  obtain ⟨h0, h1, h2⟩ := nextS_some h
  have hPO := passOk h0
  obtain ⟨m1, m2⟩ := inB_iff.1 h1
  generalize (nextS l t k fr).1 = s at *
  rw [nextO_ref m1 hPO.min1] at h2
  have hd := hPO.min1
  have h3 := nextR_spec _ _ _ fr _ _ _ _ h2 (Int.le_refl _) (by omega) (fun x a b => by omega) (fun x a b => by omega)
  have h4 := nextR_lt _ _ _ _ _ _ _ h2
  unfold lastM at h4
  refine ⟨h3.1, by omega, h3.2.1, fun x a b hf => ?_⟩
  obtain ⟨y, y1, y2, y3⟩ := h3.2.2 x a b
  rw [hf y y1 y2] at y3
  cases y3

set_option maxRecDepth 100000 in
set_option maxHeartbeats 4000000 in
theorem next_law {v vp : Value} {l : List PAuth} {t : PTrip} {k fr z : Int} (w : World) (hk : -9223372036854775808 ≤ k) (hk2 : k ≤ 9223372036854775807) (hz1 : 0 ≤ z) (hz2 : z ≤ 65535) (hs : Sl 4 RAuth w v l) (hp : Sl 3 RPass w vp t.passages) :
    Calls Try.prog 4 #[v, tripV t vp, .int .i64 k, .int .i64 fr, .int .u16 z] w fun e w' => e = .returned (.bool true) ∧ Ext w w' := by
  have G := fun w' (h : Ext w w') => great_c v vp l t w' (hs.ext RAuth.stable h) (hp.ext RPass.stable h)
  have KN := fun w' => known_c w'
  have B1 := fun w' (h : Ext w w') => Next_c v vp l t k fr w' hk hk2 (hs.ext RAuth.stable h) (hp.ext RPass.stable h)
  have V1 := fun w' (h : Ext w w') => lawValid_c v vp l t w' (hs.ext RAuth.stable h) (hp.ext RPass.stable h)
  have O1 := fun w' (h : Ext w w') h0 => ofAt_c v vp l t k w' (hs.ext RAuth.stable h) (hp.ext RPass.stable h) h0
  obtain ⟨A, cap, rfl, hl, hcap⟩ := hs.shape
  obtain ⟨Ap, capp, rfl, hpl, hpcap⟩ := hp.shape
  have HPA := Lib.hid hp
  unfold tripV NextR at *
  have hN0 := nextS_none (l := l) (t := t) (k := k) (fr := fr)
  have hN1 := nextS_some (l := l) (t := t) (k := k) (fr := fr)
  have hN2 := nextS_spec (l := l) (t := t) (k := k) (fr := fr)
  obtain ⟨⟨s, ne⟩, hn⟩ : ∃ z, nextS l t k fr = z := ⟨_, rfl⟩
  rw [hn] at B1 hN0 hN1 hN2
  simp only at B1 hN0 hN1 hN2
  replace G := Lib.hid G
  replace KN := Lib.hid KN
  replace B1 := Lib.hid B1
  replace V1 := Lib.hid V1
  replace O1 := Lib.hid O1
  clear hs hp hn
  go_enter Try.func4, Try.ntmps4
  go_upto_region 1 with fail
  have T0 := TripAt.new t (.slice Ap t.passages.length capp) w
  have E0 : Ext w (w.alloc (.cells #[.int .i64 t.z0, .int .i64 t.z1, .int .i64 t.z2, .int .i64 t.z3, .int .i64 t.z4, .int .i64 t.z5, .slice Ap t.passages.length capp] 26)) := (Ext.refl w).alloc _
  generalize (w.alloc (.cells #[.int .i64 t.z0, .int .i64 t.z1, .int .i64 t.z2, .int .i64 t.z3, .int .i64 t.z4, .int .i64 t.z5, .slice Ap t.passages.length capp] 26)) = W0 at *
  have HT0 := Lib.hid T0
  obtain ⟨t0, t1, t2, t3, t4, t5, t6⟩ := T0
  go_wp2_with fail
  refine (G.out _ E0).mono ?_
  rintro e w1 ⟨⟨b, rfl⟩, hb1⟩
  have E1 := E0.trans hb1
  have T1 := HT0.out.ext hb1
  clear t0 t1 t2 t3 t4 t5 t6 HT0
  cases b
  · have HT1 := Lib.hid T1
    obtain ⟨t0, t1, t2, t3, t4, t5, t6⟩ := T1
    go_upto_region 4 with (go_at_call 21; refine (B1.out _ E1).mono ?_; rintro e w2 ⟨hb2, rfl⟩)
    have E2 := E1.trans hb2
    have HT2 := Lib.hid (HT1.out.ext hb2)
    clear t0 t1 t2 t3 t4 t5 t6 HT1 B1 E1 hb1
    by_cases hne : ne = 0
    · subst hne
      obtain ⟨h0, hm, _⟩ := hN1 rfl
      obtain ⟨s1, s2, s3, s4⟩ := hN2 rfl
      have hPO := passOk h0
      have hbg := some_begin h0
      rw [inB_iff] at hm
      obtain ⟨m1, m2⟩ := hm
      have hd1 := hPO.min1
      have hd2 := hPO.min2
      obtain ⟨n, rfl⟩ : ∃ n : Nat, k = (n : Int) := ⟨k.toNat, by have := hPO.nat; omega⟩
      obtain ⟨p, hpn, hpm⟩ := pass_at hPO
      have i1 : (0 : Int) ≤ (n : Int) := by omega
      have i2 : (n : Int) < (t.passages.length : Int) := hPO.lt
      obtain ⟨pb, po, pcs, rfl, _, hpr, hpc⟩ := HPA.out.at hpn
      obtain rfl : pcs = [.string p.auth, .string p.road, .int .i64 p.minutes] := hpr
      have P0 := Lib.hid (hpc 2 _ rfl)
      rw [hpm] at P0
      have FR := fun m v' w' (h : Sl 11 RRule w' v' (rsAt l t n)) (h1 : 0 ≤ m) (h2 : m ≤ 4398046511104) => free_c v' (rsAt l t n) m (minAt t n) w' h hPO.rules h1 h2 (by omega) (by omega)
      unfold FreeR at FR
      generalize minAt t n = d at *
      rw [decide_eq_true hbg] at V1
      have O2 := Lib.hid (fun w' h => O1.out w' h h0)
      replace FR := Lib.hid FR
      have S3 := Lib.hid s3
      have S4 := Lib.hid s4
      clear s3 s4 hN0 hN1 hN2 hPO hbg h0 hpc hpn hpm O1
      obtain ⟨t0, t1, t2, t3, t4, t5, t6⟩ := HT2.out
      go_upto_region 8 with (go_at_call 22; refine (V1.out _ E2).mono ?_; rintro e w3 ⟨rfl, hb3⟩)
      have E3 := E2.trans hb3
      have HT3 := Lib.hid (HT2.out.ext hb3)
      clear t0 t1 t2 t3 t4 t5 t6 HT2 V1 E2 hb2
      obtain ⟨t0, t1, t2, t3, t4, t5, t6⟩ := HT3.out
      go_upto_region 9 with (go_at_call 23; refine (O2.out _ E3).mono ?_; rintro e w4 ⟨⟨vn, vr, rfl, hn, hr⟩, hb4⟩; obtain ⟨An, capn, rfl, _, _⟩ := hn.shape; obtain ⟨Ar, capr, rfl, _, _⟩ := hr.shape)
      have E4 := E3.trans hb4
      have HT4 := Lib.hid (HT3.out.ext hb4)
      have HRS := Lib.hid hr
      clear t0 t1 t2 t3 t4 t5 t6 HT3 O2 E3 hb3 hn hr
      obtain ⟨t0, t1, t2, t3, t4, t5, t6⟩ := HT4.out
      have k2 := E4.cell P0.out
      go_upto_region 11 with (go_at_call 24; refine (FR.out _ _ _ (HRS.out.ext RRule.stable (by (repeat' (first | exact Ext.refl _ | assumption | refine Ext.alloc ?_ _ | refine Ext.drew ?_ | refine Ext.drewN ?_ _ | refine Ext.set ?_ (by first | exact Nat.le_refl _ | exact le1 _ | exact le2 _ | exact le3 _ | exact le4 _ | exact le5 _ | exact le6 _) _ | refine Ext.trans ?_ (by assumption))))) (by omega) (by omega)).mono ?_; rintro e w5 ⟨⟨b, rfl, hbi⟩, hb5⟩; obtain rfl : b = true := hbi.2 S3.out)
      have E5 := E4.trans hb5
      have HT5 := Lib.hid (HT4.out.ext hb5)
      replace HRS := Lib.hid (HRS.out.ext RRule.stable hb5)
      clear t0 t1 t2 t3 t4 t5 t6 HT4 E4 hb4 hb5 k2 hbi S3
      by_cases hgt : fr < s
      · obtain ⟨t0, t1, t2, t3, t4, t5, t6⟩ := HT5.out
        have k2 := E5.cell P0.out
        have pm0 : 0 ≤ (s - fr - 1) * z := Int.mul_nonneg (by omega) hz1
        have pm1 : (s - fr - 1) * z ≤ (s - fr - 1) * 65535 := Int.mul_le_mul_of_nonneg_left hz2 (by omega)
        have q1 : ((s - fr - 1) * z).tdiv 65535 = ((s - fr - 1) * z) / 65535 := Int.tdiv_eq_ediv_of_nonneg pm0
        have wx := IntWalk.i64_in ((s - fr - 1) * z) (by omega)
        have q2 : 0 ≤ ((s - fr - 1) * z) / 65535 := by omega
        have q3 : fr + ((s - fr - 1) * z) / 65535 < s := by omega
        go_upto_region 13 with fail
        generalize ((s - fr - 1) * z) / 65535 = q at *
        go_wp2_with fail
        go_at_call 24; refine (FR.out _ _ _ (HRS.out.ext RRule.stable (by (repeat' (first | exact Ext.refl _ | assumption | refine Ext.alloc ?_ _ | refine Ext.drew ?_ | refine Ext.drewN ?_ _ | refine Ext.set ?_ (by first | exact Nat.le_refl _ | exact le1 _ | exact le2 _ | exact le3 _ | exact le4 _ | exact le5 _ | exact le6 _) _ | refine Ext.trans ?_ (by assumption))))) (by omega) (by omega)).mono ?_; rintro e w6 ⟨⟨b, rfl, hbi⟩, hb6⟩; obtain rfl : b = false := freeP_none hbi (S4.out _ (by omega) (by omega)); clear hbi; have k2' := hb6.cell k2; have t6' := hb6.cell t6
        go_wp2_with fail
        go_at_call 24
        refine (FR.out _ _ _ (HRS.out.ext RRule.stable (by (repeat' (first | exact Ext.refl _ | assumption | refine Ext.alloc ?_ _ | refine Ext.drew ?_ | refine Ext.drewN ?_ _ | refine Ext.set ?_ (by first | exact Nat.le_refl _ | exact le1 _ | exact le2 _ | exact le3 _ | exact le4 _ | exact le5 _ | exact le6 _) _ | refine Ext.trans ?_ (by assumption))))) (by omega) (by omega)).mono ?_
        rintro e w7 ⟨⟨b, rfl, hbi⟩, hb7⟩
        obtain rfl : b = false := freeP_none hbi (S4.out _ (by omega) (by omega))
        clear hbi
        go_wp2_with (go_at_call 13; refine (KN.out _).mono ?_; rintro e w9 ⟨rfl, hb9⟩)
        go_ret
        exact ⟨rfl, by (repeat' (first | exact Ext.refl _ | assumption | refine Ext.alloc ?_ _ | refine Ext.drew ?_ | refine Ext.drewN ?_ _ | refine Ext.set ?_ (by first | exact Nat.le_refl _ | exact le1 _ | exact le2 _ | exact le3 _ | exact le4 _ | exact le5 _ | exact le6 _) _ | refine Ext.trans ?_ (by assumption)))⟩
      · go_wp2_with (go_at_call 13; refine (KN.out _).mono ?_; rintro e w9 ⟨rfl, hb9⟩)
        go_ret
        exact ⟨rfl, E5.trans hb9⟩
    · have hs0 := hN0 hne
      subst hs0
      clear hN0 hN1 hN2
      go_wp2_with (go_at_call 13; refine (KN.out _).mono ?_; rintro e w3 ⟨rfl, hb3⟩)
      go_ret
      exact ⟨rfl, E2.trans hb3⟩
  · go_wp2_with (go_at_call 13; refine (KN.out _).mono ?_; rintro e w2 ⟨rfl, hb2⟩)
    go_ret
    exact ⟨rfl, E1.trans hb2⟩
end Go.Proofs.Ytaomlmkcifpfkaa
