/- The law PermitMinimal, walked. -/
import Derived.Test.YtaomlmkcifpfkaaPPoss
import Derived.Test.YtaomlmkcifpfkaaPRCures
import Derived.Test.YtaomlmkcifpfkaaPKnown
import Derived.Deep.RegionHeld3
import Derived.BigQuiet
import Derived.Deep.RegionLaw
namespace Go.Proofs.Ytaomlmkcifpfkaa
open Go.RowKit Go.Shelf Go.Maps
attribute [local go_sem ↓] Go.wp_at_zero Go.wp_at_succ

theorem begin_of {l : List PAuth} {t : PTrip} {k : Int} (h : someE l t k = 0) : beginE l t = 0 := by
  unfold someE at h
  by_cases h0 : beginE l t = 0
  · exact h0
  · rw [if_neg h0] at h; exact h
/-- the three ways of 'Conflict' -/
theorem confWays (l : List PAuth) (t : PTrip) (k : Int) : (someE l t k ≠ 0 ∧ conflictS l t k = (0, [], someE l t k)) ∨ (someE l t k = 0 ∧ kindN (rsAt l t k) = 0 ∧ conflictS l t k = (0, [], 0)) ∨
    (someE l t k = 0 ∧ kindN (rsAt l t k) ≠ 0 ∧ conflictS l t k = (((kindN (rsAt l t k) : Nat) : Int), chosenL (numsAt l t k) (confK (rsAt l t k)), 0)) := by
  by_cases h : someE l t k = 0
  · by_cases h2 : kindN (rsAt l t k) = 0
    · exact .inr (.inl ⟨h, h2, conflictS_none h h2⟩)
    · refine .inr (.inr ⟨h, h2, ?_⟩)
      rw [conflictS_some h h2, confN_eq (passOk h).nums]
  · exact .inl ⟨h, conflictS_bad h⟩

set_option maxRecDepth 100000 in
set_option maxHeartbeats 6400000 in
theorem min_law {v vp : Value} {l : List PAuth} {t : PTrip} {k : Int} (w : World) (hk : -9223372036854775808 ≤ k) (hk2 : k ≤ 9223372036854775807) (hs : Sl 4 RAuth w v l) (hp : Sl 3 RPass w vp t.passages) :
    Calls Try.prog 5 #[v, tripV t vp, .int .i64 k] w fun e w' => e = .returned (.bool true) ∧ Ext w w' := by
  have G := fun w' (h : Ext w w') => great_c v vp l t w' (hs.ext RAuth.stable h) (hp.ext RPass.stable h)
  have KN := fun w' => known_c w'
  have A1 := fun w' (h : Ext w w') => Conflict_c v vp l t k w' hk hk2 (hs.ext RAuth.stable h) (hp.ext RPass.stable h)
  have V1 := fun w' (h : Ext w w') => lawValid_c v vp l t w' (hs.ext RAuth.stable h) (hp.ext RPass.stable h)
  have O1 := fun w' (h : Ext w w') h0 => ofAt_c v vp l t k w' (hs.ext RAuth.stable h) (hp.ext RPass.stable h) h0
  obtain ⟨i1, hi1, hi10, hi11, hi12⟩ := info_parts infoRule
  obtain ⟨A, cap, rfl, hl, hcap⟩ := hs.shape
  obtain ⟨Ap, capp, rfl, hpl, hpcap⟩ := hp.shape
  unfold tripV ConflictR at *
  have h3 := confWays l t k
  obtain ⟨⟨ck, cs, ce⟩, ha⟩ : ∃ z, conflictS l t k = z := ⟨_, rfl⟩
  rw [ha] at A1 h3
  simp only at A1
  replace G := Lib.hid G
  replace KN := Lib.hid KN
  replace A1 := Lib.hid A1
  replace V1 := Lib.hid V1
  replace O1 := Lib.hid O1
  replace h3 := Lib.hid h3
  clear hs hp ha
  go_enter Try.func5, Try.ntmps5
  go_upto_region 1 with fail
  have T0 := TripAt.new t (.slice Ap t.passages.length capp) w
  have E0 : Ext w (w.alloc (.cells #[.int .i64 t.z0, .int .i64 t.z1, .int .i64 t.z2, .int .i64 t.z3, .int .i64 t.z4, .int .i64 t.z5, .slice Ap t.passages.length capp] 26)) := (Ext.refl w).alloc _
  generalize (w.alloc (.cells #[.int .i64 t.z0, .int .i64 t.z1, .int .i64 t.z2, .int .i64 t.z3, .int .i64 t.z4, .int .i64 t.z5, .slice Ap t.passages.length capp] 26)) = W0 at *
  have HT0 := Lib.hid T0
  obtain ⟨t0, t1, t2, t3, t4, t5, t6⟩ := T0
  go_wp2_with fail
  refine (G.out _ E0).mono ?_
  rintro e w1 ⟨⟨b, rfl⟩, hb1⟩
  have E1 := E0.trans hb1
  have T1 := HT0.out.ext hb1
  clear t0 t1 t2 t3 t4 t5 t6 HT0
  cases b
  · have HT1 := Lib.hid T1
    obtain ⟨t0, t1, t2, t3, t4, t5, t6⟩ := T1
    go_upto_region 4 with (go_at_call 25; refine (A1.out _ E1).mono ?_; rintro e w3 ⟨hb3, v2, rfl, h2⟩; obtain ⟨X2, x2, rfl, _, _⟩ := h2.shape)
    have E3 := E1.trans hb3
    have HT3 := Lib.hid (HT1.out.ext hb3)
    have HC := Lib.hid h2
    clear t0 t1 t2 t3 t4 t5 t6 HT1 A1 E1 hb1 h2
    rcases h3.out with ⟨hE, hq⟩ | ⟨h0, hkn, hq⟩ | ⟨h0, hkn, hq⟩
    · simp only [Prod.mk.injEq] at hq
      obtain ⟨rfl, rfl, rfl⟩ := hq
      have hE' : (someE l t k != 0) = true := by simp [hE]
      generalize someE l t k = E at *
      clear HC h3 V1 O1
      go_wp2_with (go_at_call 13; refine (KN.out _).mono ?_; rintro e w8 ⟨rfl, hb8⟩)
      go_ret
      exact ⟨rfl, E3.trans hb8⟩
    · simp only [Prod.mk.injEq] at hq
      obtain ⟨rfl, rfl, rfl⟩ := hq
      have hPO := passOk h0
      have V2 := Lib.hid (fun w' h => V1.out w' h)
      have hbg := begin_of h0
      rw [hbg] at V2
      have O2 := Lib.hid (fun w' h => O1.out w' h h0)
      have hr := hPO.rules
      have hlen := hPO.len
      have hcl := counts_ok hr
      clear V1 O1 h3 hbg h0 hPO HC
      generalize rsAt l t k = rs at *
      generalize numsAt l t k = ns at *
      have TH := Lib.hid (fun v' w' (h : Sl 11 RRule w' v' rs) => RThings_c v' rs w' h (by omega) hcl)
      have PO := Lib.hid (fun v' vt w' (h : Sl 11 RRule w' v' rs) (ht : Sl 1 RStr w' vt (thingsL rs)) => possible_c v' vt rs (thingsL rs) w' h ht rfl hkn hr)
      generalize thingsL rs = ts at *
      clear hr hcl hkn
      obtain ⟨t0, t1, t2, t3, t4, t5, t6⟩ := HT3.out
      go_upto_region 8 with (go_at_call 22; refine (V2.out _ E3).mono ?_; rintro e w4 ⟨rfl, hb4⟩)
      have E4 := E3.trans hb4
      have HT4 := Lib.hid (HT3.out.ext hb4)
      clear t0 t1 t2 t3 t4 t5 t6 HT3
      obtain ⟨t0, t1, t2, t3, t4, t5, t6⟩ := HT4.out
      go_upto_region 9 with (go_at_call 23; refine (O2.out _ E4).mono ?_; rintro e w5 ⟨⟨vn, vr, rfl, hn, hr⟩, hb5⟩; obtain ⟨An, capn, rfl, _, _⟩ := hn.shape; obtain ⟨Ar, capr, rfl, _, _⟩ := hr.shape)
      have E5 := E4.trans hb5
      have HR := Lib.hid hr
      clear t0 t1 t2 t3 t4 t5 t6 HT4 hn hr V2 O2 E4 hb4 hb5 E3 hb3
      go_upto_region 10 with (go_at_call 26; refine (TH.out _ _ HR.out).mono ?_; rintro e w6 ⟨vt, rfl, ho6, hb6⟩; obtain ⟨At, capt, rfl, _, _⟩ := ho6.sl.shape)
      have HTS := Lib.hid ho6.sl
      have HR6 := Lib.hid (HR.out.ext RRule.stable hb6)
      have E6 := E5.trans hb6
      clear ho6
      go_wp2_with (first | (go_at_call 27; refine (PO.out _ _ _ HR6.out HTS.out).mono ?_; rintro e w7 ⟨rfl, hb7⟩) | (go_at_call 13; refine (KN.out _).mono ?_; rintro e w8 ⟨rfl, hb8⟩))
      go_ret
      exact ⟨rfl, E6.trans (hb7.trans hb8)⟩
    · simp only [Prod.mk.injEq] at hq
      obtain ⟨rfl, rfl, rfl⟩ := hq
      have hPO := passOk h0
      have V2 := Lib.hid (fun w' h => V1.out w' h)
      have hbg := begin_of h0
      rw [hbg] at V2
      have O2 := Lib.hid (fun w' h => O1.out w' h h0)
      have hrun : RunN (numsAt l t k) := nums_at l t k
      have hr := hPO.rules
      have hdays : ∀ r ∈ rsAt l t k, 0 ≤ r.days ∧ r.days ≤ 127 := fun r h => (ruleB_parts (hr r h)).1
      have hlen := hPO.len
      have hnum := hPO.nums
      have hcl := counts_ok hr
      clear V1 O1 h3 hbg h0 hPO hr
      generalize rsAt l t k = rs at *
      generalize numsAt l t k = ns at *
      have htl := thingsL_len rs hcl
      have htl2 : (thingsL rs).length ≤ 144 := by omega
      have hklt := kindN_lt rs
      have hk1 : 1 ≤ kindN rs := by omega
      have TH := Lib.hid (fun v' w' (h : Sl 11 RRule w' v' rs) => RThings_c v' rs w' h (by omega) hcl)
      have CO := Lib.hid (fun v' vt l' w' (h : Sl 11 RRule w' v' l') (ht : Sl 1 RStr w' vt (thingsL rs)) => contra_c v' vt l' (thingsL rs) (kindN rs) w' h ht (by omega) hk1 hklt)
      have HY := Lib.hid (conf_yes hkn)
      have HD := Lib.hid (fun i => conf_drop (rs := rs) hdays (i := i))
      have hsome := conf_some hkn
      have hslen := chosen_same_len rs ns (confK rs) hnum.symm
      have hckl : (confK rs).length = ns.length := by rw [confK_len, hnum]
      have hkl := chosenL_len rs (confK rs)
      have hkn2 : ¬ ((kindN rs : Nat) : Int) = 0 := by omega
      have hkn3 : ¬ ((kindN rs : Nat) : Int) < 0 := by omega
      have hklt2 : ¬ (5 + ((thingsL rs).length : Int)) ≤ ((kindN rs : Nat) : Int) := by omega
      have HAN := Lib.hid (fun i p c x => at_next (ns := ns) (ks := confK rs) hrun hckl (i := i) (p := p) (c := c) (x := x))
      have HAL := Lib.hid (fun p => chosen_all_of (l := ns) (m := rs) (k := confK rs) (p := p) hnum)
      clear hcl hkn htl hrun hdays
      generalize thingsL rs = ts at *
      generalize kindN rs = K at *
      generalize confK rs = ks at *
      have hkept : 0 < (chosenL ns ks).length := by omega
      obtain ⟨kept, hke⟩ : ∃ z, chosenL ns ks = z := ⟨_, rfl⟩
      rw [hke] at HC hslen hkept HAN HAL ⊢
      have HKE := Lib.hid hke
      clear hke
      obtain ⟨som, hso⟩ : ∃ z, chosenL rs ks = z := ⟨_, rfl⟩
      rw [hso] at HY HD hslen hsome hkl HAL
      have hkl24 : kept.length ≤ 24 := by omega
      have hsl24 : som.length ≤ 24 := by omega
      clear hso hslen
      obtain ⟨t0, t1, t2, t3, t4, t5, t6⟩ := HT3.out
      go_upto_region 8 with (go_at_call 22; refine (V2.out _ E3).mono ?_; rintro e w4 ⟨rfl, hb4⟩)
      have E4 := E3.trans hb4
      have HT4 := Lib.hid (HT3.out.ext hb4)
      clear t0 t1 t2 t3 t4 t5 t6 HT3
      obtain ⟨t0, t1, t2, t3, t4, t5, t6⟩ := HT4.out
      go_upto_region 9 with (go_at_call 23; refine (O2.out _ E4).mono ?_; rintro e w5 ⟨⟨vn, vr, rfl, hn, hr⟩, hb5⟩; obtain ⟨An, capn, rfl, _, _⟩ := hn.shape; obtain ⟨Ar, capr, rfl, _, _⟩ := hr.shape)
      have E5 := E4.trans hb5
      have HR := Lib.hid hr
      have HN := Lib.hid hn
      replace HC := Lib.hid (HC.out.ext RInt.stable (hb4.trans hb5))
      clear t0 t1 t2 t3 t4 t5 t6 HT4 hn hr V2 O2 E4 hb4 hb5 E3 hb3
      go_upto_region 10 with (go_at_call 26; refine (TH.out _ _ HR.out).mono ?_; rintro e w6 ⟨vt, rfl, ho6, hb6⟩; obtain ⟨At, capt, rfl, _, _⟩ := ho6.sl.shape)
      have HTS := Lib.hid ho6.sl
      replace HR := Lib.hid (HR.out.ext RRule.stable hb6)
      replace HN := Lib.hid (HN.out.ext RInt.stable hb6)
      replace HC := Lib.hid (HC.out.ext RInt.stable hb6)
      have E6 := E5.trans hb6
      have hkp : ¬ ((kept.length : Nat) : Int) = 0 := by omega
      have hwl := IntWalk.i64_in (5 + (ts.length : Int)) (by omega)
      have hkg : ((K : Nat) : Int) < 5 + (ts.length : Int) := by omega
      have hd0 : (((K : Nat) : Int) == 0) = false := beq_eq_false_iff_ne.2 hkn2
      have hd1 : decide (((K : Nat) : Int) < 0) = false := decide_eq_false (by omega)
      have hd2 : decide (5 + (ts.length : Int) ≤ ((K : Nat) : Int)) = false := decide_eq_false (by omega)
      have hd3 : (((kept.length : Nat) : Int) == 0) = false := beq_eq_false_iff_ne.2 hkp
      clear ho6 TH hb6 E5
      go_wp2_with fail
      go_loopw [13, 14, 15] (fun o a i wr => ∃ (j p : Nat) (vo : Value), j ≤ kept.length ∧ p ≤ ns.length ∧ i = .int .i64 j ∧ a = .int .i64 p ∧ o = vo ∧ (chosenL (ns.take p) (ks.take p)).length = j ∧ OwnL 11 58 (fun _ => RRule w6) w6.heap.size wr vo (chosenL (rs.take p) (ks.take p)) ∧ Ext w6 wr) (fun _ _ i _ => kept.length - (intOf i).toNat)
      case atStart => exact ⟨0, 0, _, by omega, by omega, rfl, rfl, rfl, by simp [chosenL], by simpa [chosenL] using OwnL.nil, Ext.refl _⟩
      case round =>
        obtain ⟨j, p, vo, hj, hp, rfl, rfl, rfl, hjl, hown, hE⟩ := hrel
        obtain ⟨wA, hwwA⟩ : ∃ z : World, z = wr := ⟨_, rfl⟩
        subst hwwA
        obtain ⟨Ao, co, rfl, _, _⟩ := hown.sl.shape
        have HO := Lib.hid hown
        have HJL := Lib.hid hjl
        clear hown hjl
        by_cases hlt : j < kept.length
        · obtain ⟨c, hc⟩ := some_of_lt hlt
          obtain ⟨b3, off3, cs3, rfl, _, hcs3, hc3⟩ := (HC.out.ext RInt.stable hE).at hc
          obtain rfl : cs3 = [.int .i64 c] := hcs3
          have y1 := hc3 0 _ rfl
          simp only [Nat.add_zero, Nat.mul_one] at y1
          have HAC := Lib.hid hc
          have i1k : (0 : Int) ≤ (j : Int) := by omega
          have i2k : (j : Int) < (kept.length : Int) := by omega
          obtain ⟨D, hD⟩ : ∃ D, chosenL (rs.take p) (ks.take p) = D := ⟨_, rfl⟩
          have HDD := Lib.hid hD
          rw [hD] at HO ⊢
          clear hc hc3 hD
          go_wp2_with fail
          go_loopw [14] (fun a ws => ∃ q : Nat, q ≤ ns.length ∧ a = .int .i64 q ∧ (chosenL (ns.take q) (ks.take q)).length = j ∧ chosenL (rs.take q) (ks.take q) = D ∧ Ext wA ws) (fun a _ => ns.length - (intOf a).toNat)
          case atStart => exact ⟨p, hp, rfl, HJL.out, HDD.out, Ext.refl _⟩
          case round =>
            obtain ⟨q, hq, rfl, hql, hqd, hE2⟩ := hrel
            obtain ⟨wB, hwwB⟩ : ∃ z : World, z = wr := ⟨_, rfl⟩
            subst hwwB
            have y2 := hE2.cell y1
            have HQL := Lib.hid hql
            have HQD := Lib.hid hqd
            clear hql hqd
            by_cases hltq : q < ns.length
            · obtain ⟨n, hn⟩ := some_of_lt hltq
              obtain ⟨hy, hno⟩ := HAN.out j q c n HAC.out HQL.out hn
              have HYY := Lib.hid hy
              have HNO := Lib.hid hno
              obtain ⟨x, hx⟩ := some_of_lt (l := rs) (k := q) (by omega)
              obtain ⟨b2, off2, cs2, rfl, hn2, hcs2, hc2⟩ := (HN.out.ext RInt.stable hE).at hn
              obtain rfl : cs2 = [.int .i64 n] := hcs2
              have y0 := hE2.cell (hc2 0 _ rfl)
              simp only [Nat.add_zero, Nat.mul_one] at y0
              have j1 : (0 : Int) ≤ (q : Int) := by omega
              have j2 : (q : Int) < (ns.length : Int) := by omega
              have j3 : (q : Int) < (rs.length : Int) := by omega
              have jne : ¬ (q : Int) = (ns.length : Int) := by omega
              by_cases hxc : n = c
              · subst hxc
                have hkq := HYY.out rfl
                have E62 := hE.trans hE2
                obtain ⟨b, off, cs, rfl, hnn, ⟨vr, vw, vc, rfl, hr⟩, hc⟩ := HR.out.at hx
                have HRR := Lib.hid hr
                obtain ⟨hr1, hw1, hc1⟩ := hr
                obtain ⟨Ar2, cr, rfl, lr, lr2⟩ := hr1.shape
                obtain ⟨Aw, cw, rfl, lw, lw2⟩ := hw1.shape
                obtain ⟨Ac, cc, rfl, lc, lc2⟩ := hc1.shape
                have HNX := Lib.hid (chosenL_snoc rs ks q x _ hx hkq)
                have HNN := Lib.hid (chosenL_snoc ns ks q n _ hn hkq)
                have hcl := chosenL_len (rs.take q) (ks.take q)
                rw [List.length_take, HQD.out] at hcl
                have hcl2 : D.length ≤ 24 := by omega
                have k0 := E62.cell (hc 0 _ rfl)
                have k1 := E62.cell (hc 1 _ rfl)
                have k2 := E62.cell (hc 2 _ rfl)
                have k3 := E62.cell (hc 3 _ rfl)
                have k4 := E62.cell (hc 4 _ rfl)
                have k5 := E62.cell (hc 5 _ rfl)
                have k6 := E62.cell (hc 6 _ rfl)
                have k7 := E62.cell (hc 7 _ rfl)
                have k8 := E62.cell (hc 8 _ rfl)
                have k9 := E62.cell (hc 9 _ rfl)
                have k10 := E62.cell (hc 10 _ rfl)
                simp only [Nat.add_zero] at k0
                clear hc hn hx hr1 hw1 hc1 hc2 hcl hnn hn2 hkq hy hno
                go_wp2_with fail
                go_quiet (fail)
                have E3 : Ext wB (wB.drewN nq) := (Ext.refl wB).drewN _
                replace k0 := E3.cell k0
                replace k1 := E3.cell k1
                replace k2 := E3.cell k2
                replace k3 := E3.cell k3
                replace k4 := E3.cell k4
                replace k5 := E3.cell k5
                replace k6 := E3.cell k6
                replace k7 := E3.cell k7
                replace k8 := E3.cell k8
                replace k9 := E3.cell k9
                replace k10 := E3.cell k10
                replace E62 := E62.trans E3
                obtain ⟨css, hcs, hown, hcx⟩ := HO.out.ext (fun _ _ _ _ _ h => h) (hE2.trans E3)
                generalize wB.drewN nq = wZ at *
                have HCX := Lib.hid hcx
                have hz2 := E62.size
                clear hcx HO y0 y2 E3 hE2
                go_wp2_with (at_builtin; refine wpList_append_lies _ rfl _ _ 42 rfl (w6.heap.size) 58 i1 _ 11 144 Try.underlying42 hi1 hi10 hi11 hi12 rfl (by omega) (.slice Ao D.length co) (D.length) (css).flatten rfl ((hown).alloc _) ⟨wZ.heap.size, 0, none⟩ 1 1 [.string x.name, .slice Ar2 x.roads.length cr, .slice Aw x.whens.length cw, .int .i64 x.h0, .int .i64 x.h1, .int .i64 x.days, .int .i64 x.s0, .int .i64 x.s1, .bool x.forbid, .slice Ac x.counts.length cc, .int .i64 x.cost] rfl rfl (World.news_of_block (cs := #[.string x.name, .slice Ar2 x.roads.length cr, .slice Aw x.whens.length cw, .int .i64 x.h0, .int .i64 x.h1, .int .i64 x.days, .int .i64 x.s0, .int .i64 x.s1, .bool x.forbid, .slice Ac x.counts.length cc, .int .i64 x.cost]) (t := 58) (fr := (0, 0)) (heap_alloc_new wZ _)) (by simp [Value.oneCell']) (by omega) (by unfold maxLen; omega) (by omega) (by simp; omega) (wZ.heap.size + 1) (by simp) ?_; intro g cap4 w4 hown4 hgrow4 hat4 hlt4)
                have E4 : Ext w6 w4 := Ext.grown (E62.alloc _) hgrow4 (fun j hj => own_ge hown j hj)
                have hO4 := OwnL.snoc (R := fun _ => RRule w6) (w' := w4) (x := x) hcs HCX.out hown4 rfl ⟨_, _, _, rfl, HRR.out⟩
                have HO4 := Lib.hid hO4
                clear hO4 hown hown4 hgrow4 hat4 hlt4 hcs HCX
                go_roundw
                case rel => exact ⟨j + 1, q + 1, _, by omega, by omega, by go_num, by go_num, rfl, by rw [HNN.out, List.length_append, HQL.out]; rfl, by rw [HNX.out, HQD.out]; exact HO4.out, E4⟩
                case measure => simp [intOf]; omega
              · have hkq := HNO.out hxc
                have HNX := Lib.hid (chosenL_snoc rs ks q x _ hx hkq)
                have HNN := Lib.hid (chosenL_snoc ns ks q n _ hn hkq)
                clear hn hx hc2 hn2 hkq hy hno
                go_wp2_with fail
                go_quiet (fail)
                go_wp2_with fail
                go_roundw
                case rel => exact ⟨q + 1, by omega, by go_num, by rw [HNN.out]; simpa using HQL.out, by rw [HNX.out]; simpa using HQD.out, hE2.drewN _⟩
                case measure => simp [intOf]; omega
            · exfalso
              obtain rfl : q = ns.length := by omega
              have h1 := HQL.out
              have h2 := HKE.out
              rw [List.take_length, List.take_of_length_le (Nat.le_of_eq hckl), h2] at h1
              omega
        · obtain rfl : j = kept.length := by omega
          have hso := HAL.out p HJL.out
          rw [hso] at HO ⊢
          have HSO := Lib.hid ((HO.out.to (fun cs x h => RRule.stable _ _ _ _ hE h)).sl)
          have HTR := Lib.hid (HTS.out.ext RStr.stable hE)
          have CO1 := Lib.hid (CO.out (.slice Ao som.length co) (.slice At ts.length capt) som wA HSO.out HTR.out)
          rw [HY.out] at CO1
          clear HO hso
          go_upto_region 27 with (go_at_call 28; refine CO1.out.mono ?_; rintro e w7 ⟨rfl, hb7⟩)
          have HSO7 := Lib.hid (HSO.out.ext RRule.stable hb7)
          have HTR7 := Lib.hid (HTR.out.ext RStr.stable hb7)
          have E7 := E6.trans (hE.trans hb7)
          clear HSO HTR CO1 hb7
          go_wp2_with fail
          go_loopw [16] (fun i ws => ∃ m : Nat, m ≤ som.length ∧ i = .int .i64 m ∧ Ext w7 ws) (fun i _ => som.length - (intOf i).toNat)
          case atStart => exact ⟨0, by omega, rfl, Ext.refl _⟩
          case round =>
            obtain ⟨m, hm, rfl, hE3⟩ := hrel
            obtain ⟨wC, hwwC⟩ : ∃ z : World, z = wr := ⟨_, rfl⟩
            subst hwwC
            by_cases hltm : m < som.length
            · obtain ⟨x, hx⟩ := some_of_lt hltm
              have hS := HSO7.out.ext RRule.stable hE3
              obtain ⟨rb, ro, rcs, rfl, _, _, _⟩ := hS.at hx
              have i1m : (0 : Int) ≤ (m : Int) := by omega
              have i2m : (m : Int) < (som.length : Int) := by omega
              obtain ⟨_, _, hreq, _, hrc⟩ := hS.shape
              cases hreq
              have j1 : (m : Int) ≤ (co : Int) := by omega
              have j2 : (m : Int) + 1 ≤ (som.length : Int) := by omega
              have j3 : (som.length : Int) ≤ (co : Int) := by omega
              have j4 : (0 : Int) ≤ (m : Int) + 1 := by omega
              have j5 := IntWalk.i64_in ((m : Int) + 1) (by omega)
              have j6 := IntWalk.i64_in (m : Int) (by omega)
              have j7 : (m : Int) + 1 ≤ (co : Int) := by omega
              obtain ⟨css, ad, ⟨hcss, hcsx⟩, ⟨hta, htb, htc⟩, had, hda, hdb, hdc⟩ := two_rows (by omega) hS (fun cs x h => one_rule h) hltm
              have HCX := Lib.hid hcsx
              have HTB := Lib.hid htb
              have HTC := Lib.hid htc
              have HDB := Lib.hid hdb
              have HDC := Lib.hid hdc
              have own0 : (wC.alloc (.cells #[] 58)).ownsRow wC.heap.size 58 11 (.slice (some ⟨wC.heap.size, 0, none⟩) 0 0) 0 [] := ⟨rfl, .inr ⟨wC.heap.size, 0, #[], rfl, Nat.le_refl _, heap_alloc_new wC _, Nat.le_refl _, Nat.zero_le _, rfl, rfl⟩⟩
              clear hcsx htb htc hdb hdc hx hS
              go_upto_region 30 with fail
              go_region_law (first
                | (refine step_append_any (by rfl) _ _ _ (by rfl) wC.heap.size 58 i1 _ 11 144 Try.underlying42 hi1 hi10 hi11 hi12 rfl (by omega) (.slice (some ⟨wC.heap.size, 0, none⟩) 0 0) 0 [] (by rfl) (by first | exact own0 | exact own0.drew) ⟨rb, ro, none⟩ m co (css.take m).flatten (by rfl) hta (fun i u h => Ext.cell (w := wC) (by (repeat' (first | exact Ext.refl _ | assumption | refine Ext.alloc ?_ _ | refine Ext.drew ?_ | refine Ext.drewN ?_ _ | refine Ext.set ?_ (by first | exact Nat.le_refl _ | exact le1 _ | exact le2 _ | exact le3 _ | exact le4 _ | exact le5 _ | exact le6 _) _ | refine Ext.trans ?_ (by assumption)))) (HTB.out i u h)) HTC.out (by unfold maxLen; omega) (by omega) (by simp) ?_; intro vA wF hoA hgA hvA; have EA : Ext wC wF := Ext.grown (w := wC) (by (repeat' (first | exact Ext.refl _ | assumption | refine Ext.alloc ?_ _ | refine Ext.drew ?_ | refine Ext.drewN ?_ _ | refine Ext.set ?_ (by first | exact Nat.le_refl _ | exact le1 _ | exact le2 _ | exact le3 _ | exact le4 _ | exact le5 _ | exact le6 _) _ | refine Ext.trans ?_ (by assumption)))) hgA (fun k e => Nat.le_of_eq (Option.some.inj e)); have zA := EA.size; simp only [Nat.zero_add, List.nil_append] at hoA; clear hvA)
                | (refine step_append_any (by rfl) _ _ _ (by rfl) wC.heap.size 58 i1 _ 11 144 Try.underlying42 hi1 hi10 hi11 hi12 rfl (by omega) vA m (css.take m).flatten (by rfl) (by first | exact hoA | exact hoA.drew) ad (som.length - (m + 1)) (co - (m + 1)) (css.drop (m + 1)).flatten (by first | rfl | exact congrArg (fun z => Value.slice z (som.length - (m + 1)) (co - (m + 1))) had) hda (fun i u h => EA.cell (HDB.out i u h)) HDC.out (by unfold maxLen; omega) (by omega) (by omega) ?_; intro vB wG hoB hgB hvB; clear hvB))
              have EB : Ext wC wG := Ext.grown EA hgB (fun k e => own_ge hoA k e)
              have hOB := own_erase (R := fun _ => RRule wC) hcss HCX.out hltm (by omega) hoB
              obtain ⟨Ab, capb, rfl, _, _⟩ := hOB.sl.shape
              have HS6 := Lib.hid ((hOB.to (fun cs x h => RRule.stable _ _ _ _ EB h)).sl)
              have hdr := HD.out m hltm
              have CO2 := CO.out (.slice Ab (som.eraseIdx m).length capb) (.slice At ts.length capt) (som.eraseIdx m) wG HS6.out (HTR7.out.ext RStr.stable (hE3.trans EB))
              rw [hdr] at CO2
              replace CO2 := Lib.hid CO2
              clear hOB hoB hgB hoA hgA HCX HTB HTC HDB HDC had own0 hcss hta hda hdr
              generalize som.eraseIdx m = rest at *
              go_wp2_with (go_at_call 28; refine CO2.out.mono ?_; rintro e w9 ⟨rfl, hb9⟩)
              go_roundw
              case rel => exact ⟨m + 1, by omega, by go_num, hE3.trans (EB.trans hb9)⟩
              case measure => simp [intOf]; omega
            · go_wp2_with (go_at_call 13; refine (KN.out _).mono ?_; rintro e w8 ⟨rfl, hb8⟩)
              go_ret
              exact ⟨rfl, E7.trans (hE3.trans hb8)⟩
  · go_wp2_with (go_at_call 13; refine (KN.out _).mono ?_; rintro e w2 ⟨rfl, hb2⟩)
    go_ret
    exact ⟨rfl, E1.trans hb2⟩
end Go.Proofs.Ytaomlmkcifpfkaa
