/- Contract: Next, the definition. -/
import Derived.Test.YtaomlmkcifpfkaaPRTimes
namespace Go.Proofs.Ytaomlmkcifpfkaa
open Go.RowKit Go.Shelf Go.Maps
attribute [local go_sem ↓] Go.wp_at_zero Go.wp_at_succ

theorem nextO_ref {rs : List PRule} {fr d : Int} (h0 : 0 ≤ fr) (hd : 1 ≤ d) : nextO rs fr d = nextR (allowedB rs) (lastM fr) d (lastM fr + d - fr).toNat fr fr := by
  have hl : fr < lastM fr := by unfold lastM; omega
  unfold nextO
  exact (next_eq (allowedB rs) (lastM fr) d (by omega) hd (lastM fr + d - fr).toNat fr h0 (by omega)).1
theorem nextR_stop {al : Int → Bool} {last d m s : Int} (n : Nat) (h : last ≤ s) : nextR al last d n m s = none := by
  cases n with
  | zero => rfl
  | succ n => simp only [nextR]; rw [if_pos h]
theorem pass_at {l : List PAuth} {t : PTrip} {n : Nat} (hPO : PassOk l t (n : Int)) : ∃ p, t.passages[n]? = some p ∧ p.minutes = minAt t (n : Int) := by
  have hn := hPO.lt
  obtain ⟨p, hpn⟩ := some_of_lt (l := t.passages) (k := n) (by omega)
  exact ⟨p, hpn, by unfold minAt; rw [Int.toNat_natCast, hpn]⟩

set_option maxRecDepth 100000 in
set_option maxHeartbeats 3200000 in
theorem RNext_c (v vp : Value) (l : List PAuth) (t : PTrip) (k fr : Int) (w : World) (hs : Sl 4 RAuth w v l) (hp : Sl 3 RPass w vp t.passages) :
    Calls Try.prog 38 #[v, tripV t vp, .int .i64 k, .int .i64 fr] w (NextR l t k fr w) := by
  have C1 := fun w' (h : Ext w w') => some_c v vp l t k w' (hs.ext RAuth.stable h) (hp.ext RPass.stable h)
  have C2 := fun w' (h : Ext w w') h0 => ofAt_c v vp l t k w' (hs.ext RAuth.stable h) (hp.ext RPass.stable h) h0
  have C3 := fun w' => within_c fr 0 1099511627776 w'
  obtain ⟨A, cap, rfl, hl, hcap⟩ := hs.shape
  obtain ⟨Ap, capp, rfl, hpl, hpcap⟩ := hp.shape
  unfold tripV at *
  have HP := Lib.hid hp
  replace C1 := Lib.hid C1
  replace C2 := Lib.hid C2
  clear hs hp
  obtain ⟨Post, hPost⟩ : ∃ Post, NextR l t k fr w = Post := ⟨_, rfl⟩
  rw [hPost]
  replace hPost := Lib.hid hPost
  by_cases hne : someE l t k = 0
  · have hPO := passOk hne
    rw [hne] at C1
    have C2' := fun w' h => C2.out w' h hne
    replace C2' := Lib.hid C2'
    cases hm : inB fr 0 1099511627776
    · have HA := Lib.hid (nextS_range hne hm)
      rw [hm] at C3
      replace C3 := Lib.hid C3
      clear hm hne hPO C2
      go_enter Try.func38, Try.ntmps38
      go_wp2_with (first | (go_at_call 70; refine (C1.out _ (by (repeat' (first | exact Ext.refl _ | assumption | refine Ext.alloc ?_ _ | refine Ext.drew ?_ | refine Ext.drewN ?_ _ | refine Ext.set ?_ (by first | exact Nat.le_refl _ | exact le1 _ | exact le2 _ | exact le3 _ | exact le4 _ | exact le5 _ | exact le6 _) _ | refine Ext.trans ?_ (by assumption))))).mono ?_; rintro e w1 ⟨rfl, hb1⟩) | (go_at_call 54; refine (C3.out _).mono ?_; rintro e w2 ⟨rfl, rfl⟩))
      rw [← hPost.out]
      exact ⟨by (repeat' (first | exact Ext.refl _ | assumption | refine Ext.alloc ?_ _ | refine Ext.drew ?_ | refine Ext.drewN ?_ _ | refine Ext.set ?_ (by first | exact Nat.le_refl _ | exact le1 _ | exact le2 _ | exact le3 _ | exact le4 _ | exact le5 _ | exact le6 _) _ | refine Ext.trans ?_ (by assumption))), by rw [HA.out]; rfl⟩
    · have hna := nextS_ok hne hm
      rw [inB_iff] at hm
      rw [show inB fr 0 1099511627776 = true from inB_iff.2 hm] at C3
      obtain ⟨m1, m2⟩ := hm
      have hd1 := hPO.min1
      have hd2 := hPO.min2
      obtain ⟨n, rfl⟩ : ∃ n : Nat, k = (n : Int) := ⟨k.toNat, by have := hPO.nat; omega⟩
      obtain ⟨p, hpn, hpm⟩ := pass_at hPO
      rw [nextO_ref m1 hd1] at hna
      have C4 := fun m (hm0 : 0 ≤ m) (hm9 : m ≤ 9223372036854775807) v' w' (h : Sl 11 RRule w' v' (rsAt l t n)) => RAllowed_c v' (rsAt l t n) m w' h hPO.rules hm0 hm9
      have i1 : (0 : Int) ≤ (n : Int) := by omega
      have i2 : (n : Int) < (t.passages.length : Int) := hPO.lt
      have q1 : fr.tdiv 1440 = fr / 1440 := Int.tdiv_eq_ediv_of_nonneg m1
      have q2 : (fr / 1440 + 400) * 1440 = lastM fr := rfl
      have q3 : fr < lastM fr := by unfold lastM; omega
      have q4 : lastM fr ≤ fr + 576000 := by unfold lastM; omega
      have q5 : 0 ≤ fr / 1440 := by omega
      have q6 : fr / 1440 ≤ fr := by omega
      generalize minAt t n = d at *
      generalize lastM fr = L at *
      generalize fr / 1440 = fd at *
      obtain ⟨R, hR⟩ : ∃ R, nextR (allowedB (rsAt l t n)) L d (L + d - fr).toNat fr fr = R := ⟨_, rfl⟩
      rw [hR] at hna
      have HA := Lib.hid hna
      have HR := Lib.hid hR
      have HPN := Lib.hid (And.intro hpn hpm)
      replace C3 := Lib.hid C3
      replace C4 := Lib.hid C4
      clear hne hPO C2 hna hR hpn hpm
      go_enter Try.func38, Try.ntmps38
      go_upto_region 5 with (first | (go_at_call 70; refine (C1.out _ (by (repeat' (first | exact Ext.refl _ | assumption | refine Ext.alloc ?_ _ | refine Ext.drew ?_ | refine Ext.drewN ?_ _ | refine Ext.set ?_ (by first | exact Nat.le_refl _ | exact le1 _ | exact le2 _ | exact le3 _ | exact le4 _ | exact le5 _ | exact le6 _) _ | refine Ext.trans ?_ (by assumption))))).mono ?_; rintro e w1 ⟨rfl, hb1⟩) | (go_at_call 54; refine (C3.out _).mono ?_; rintro e w2 ⟨rfl, rfl⟩))
      have E1 : Ext w w1 := by (repeat' (first | exact Ext.refl _ | assumption | refine Ext.alloc ?_ _ | refine Ext.drew ?_ | refine Ext.drewN ?_ _ | refine Ext.set ?_ (by first | exact Nat.le_refl _ | exact le1 _ | exact le2 _ | exact le3 _ | exact le4 _ | exact le5 _ | exact le6 _) _ | refine Ext.trans ?_ (by assumption)))
      have T1 := (TripAt.new t (.slice Ap t.passages.length capp) w).ext hb1
      have HT1 := Lib.hid T1
      obtain ⟨t0, t1, t2, t3, t4, t5, t6⟩ := T1
      go_upto_region 8 with (go_at_call 23; refine (C2'.out _ E1).mono ?_; rintro e w3 ⟨⟨vn, vr, rfl, hn, hr⟩, hb3⟩; obtain ⟨An, capn, rfl, _, _⟩ := hn.shape; obtain ⟨Ar, capr, rfl, _, _⟩ := hr.shape)
      have E3 := E1.trans hb3
      have HRS := Lib.hid hr
      have HT3 := Lib.hid (HT1.out.ext hb3)
      clear hn hr t0 t1 t2 t3 t4 t5 t6
      go_loopw [12, 14] (fun s i wr => ∃ (j : Nat) (m sv : Int), s = .int .i64 sv ∧ i = .int .i64 m ∧ m + j = L + d ∧ fr ≤ sv ∧ sv ≤ m ∧ m - sv < d ∧ nextR (allowedB (rsAt l t n)) L d j m sv = R ∧ Ext w3 wr) (fun _ i _ => (L + d - intOf i).toNat)
      case atStart => exact ⟨(L + d - fr).toNat, fr, fr, rfl, rfl, by omega, by omega, by omega, by omega, HR.out, Ext.refl _⟩
      case round =>
        obtain ⟨j, m, sv, rfl, rfl, hj, hs1, hs2, hs3, hnr, hE⟩ := hrel
        have HNR := Lib.hid hnr
        clear hnr
        have E4 := E3.trans hE
        by_cases hL : L ≤ sv
        · have hRn : R = none := by rw [← HNR.out]; exact nextR_stop j hL
          go_wp2
          rw [← hPost.out]
          exact ⟨E4, by rw [HA.out, hRn]; rfl⟩
        · obtain ⟨j', rfl⟩ : ∃ j', j = j' + 1 := ⟨j - 1, by omega⟩
          have hnr := HNR.out
          simp only [nextR] at hnr
          rw [if_neg hL] at hnr
          have C5 := fun w' (h : Ext wr w') => C4.out m (by omega) (by omega) _ w' (HRS.out.ext RRule.stable (hE.trans h))
          cases hal : allowedB (rsAt l t n) m
          · rw [hal] at C5 hnr
            simp only [Bool.false_eq_true, if_false] at hnr
            have HX := Lib.hid hnr
            replace C5 := Lib.hid C5
            clear hal hnr
            go_wp2_with (go_at_call 72; refine (C5.out _ (by (repeat' (first | exact Ext.refl _ | assumption | refine Ext.alloc ?_ _ | refine Ext.drew ?_ | refine Ext.drewN ?_ _ | refine Ext.set ?_ (by first | exact Nat.le_refl _ | exact le1 _ | exact le2 _ | exact le3 _ | exact le4 _ | exact le5 _ | exact le6 _) _ | refine Ext.trans ?_ (by assumption))))).mono ?_; rintro e w4 ⟨rfl, hb4⟩)
            go_roundw
            case rel => exact ⟨j', m + 1, m + 1, rfl, rfl, by omega, by omega, by omega, by omega, HX.out, hE.trans hb4⟩
            case measure => simp [intOf]; omega
          · rw [hal] at C5 hnr
            simp only [if_true] at hnr
            replace C5 := Lib.hid C5
            have T4 := HT3.out.ext hE
            obtain ⟨t0, t1, t2, t3, t4, t5, t6⟩ := T4
            obtain ⟨pb, poff, pcs, rfl, _, hpr, hpc⟩ := (HP.out.ext RPass.stable E4).at HPN.out.1
            obtain rfl : pcs = [.string p.auth, .string p.road, .int .i64 p.minutes] := hpr
            have c2 := hpc 2 _ rfl
            rw [HPN.out.2] at c2
            clear hal hpc
            by_cases hd : m - sv + 1 = d
            · rw [if_pos hd] at hnr
              have HX := Lib.hid hnr
              clear hnr
              go_wp2_with (go_at_call 72; refine (C5.out _ (by (repeat' (first | exact Ext.refl _ | assumption | refine Ext.alloc ?_ _ | refine Ext.drew ?_ | refine Ext.drewN ?_ _ | refine Ext.set ?_ (by first | exact Nat.le_refl _ | exact le1 _ | exact le2 _ | exact le3 _ | exact le4 _ | exact le5 _ | exact le6 _) _ | refine Ext.trans ?_ (by assumption))))).mono ?_; rintro e w4 ⟨rfl, hb4⟩; have t6' := hb4.cell t6; have c2' := hb4.cell c2)
              rw [← hPost.out]
              exact ⟨E4.trans hb4, by rw [HA.out, ← HX.out]; rfl⟩
            · rw [if_neg hd] at hnr
              have HX := Lib.hid hnr
              clear hnr
              have hd' : ((m - sv + 1) == d) = false := beq_false_of_ne hd
              go_wp2_with (go_at_call 72; refine (C5.out _ (by (repeat' (first | exact Ext.refl _ | assumption | refine Ext.alloc ?_ _ | refine Ext.drew ?_ | refine Ext.drewN ?_ _ | refine Ext.set ?_ (by first | exact Nat.le_refl _ | exact le1 _ | exact le2 _ | exact le3 _ | exact le4 _ | exact le5 _ | exact le6 _) _ | refine Ext.trans ?_ (by assumption))))).mono ?_; rintro e w4 ⟨rfl, hb4⟩; have t6' := hb4.cell t6; have c2' := hb4.cell c2)
              go_roundw
              case rel => exact ⟨j', m + 1, sv, rfl, rfl, by omega, by omega, by omega, by omega, HX.out, hE.trans hb4⟩
              case measure => simp [intOf]; omega
  · have HA := Lib.hid (nextS_bad (m := fr) hne)
    have hne' : (someE l t k != 0) = true := by simp [hne]
    generalize someE l t k = E at *
    clear C2 C3
    go_enter Try.func38, Try.ntmps38
    go_upto_region 2 with (go_at_call 70; refine (C1.out _ (by (repeat' (first | exact Ext.refl _ | assumption | refine Ext.alloc ?_ _ | refine Ext.drew ?_ | refine Ext.drewN ?_ _ | refine Ext.set ?_ (by first | exact Nat.le_refl _ | exact le1 _ | exact le2 _ | exact le3 _ | exact le4 _ | exact le5 _ | exact le6 _) _ | refine Ext.trans ?_ (by assumption))))).mono ?_; rintro e w1 ⟨rfl, hb1⟩)
    have E1 : Ext w w1 := by (repeat' (first | exact Ext.refl _ | assumption | refine Ext.alloc ?_ _ | refine Ext.drew ?_ | refine Ext.drewN ?_ _ | refine Ext.set ?_ (by first | exact Nat.le_refl _ | exact le1 _ | exact le2 _ | exact le3 _ | exact le4 _ | exact le5 _ | exact le6 _) _ | refine Ext.trans ?_ (by assumption)))
    have T1 := (TripAt.new t (.slice Ap t.passages.length capp) w).ext hb1
    obtain ⟨t0, t1, t2, t3, t4, t5, t6⟩ := T1
    go_wp2_with (go_at_call 70; refine (C1.out _ E1).mono ?_; rintro e w2 ⟨rfl, hb2⟩)
    rw [← hPost.out]
    exact ⟨E1.trans hb2, by rw [HA.out]; rfl⟩
end Go.Proofs.Ytaomlmkcifpfkaa
