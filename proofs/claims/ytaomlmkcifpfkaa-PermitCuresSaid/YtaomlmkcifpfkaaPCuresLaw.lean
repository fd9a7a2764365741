/- The law PermitCures, walked. -/
import Derived.Test.YtaomlmkcifpfkaaPCureMath
import Derived.Test.YtaomlmkcifpfkaaPKnown
import Derived.Test.YtaomlmkcifpfkaaPFree
import Derived.Deep.RegionHeld3
import Derived.BigQuiet
namespace Go.Proofs.Ytaomlmkcifpfkaa
open Go.RowKit Go.Shelf Go.Maps
attribute [local go_sem ↓] Go.wp_at_zero Go.wp_at_succ

theorem begin_some {l : List PAuth} {t : PTrip} {k : Int} (h : someE l t k = 0) : beginE l t = 0 := by
  unfold someE at h
  by_cases h0 : beginE l t = 0
  · exact h0
  · rw [if_neg h0] at h; exact h
/-- the three ways of 'Cures' and 'Conflict' -/
theorem cures3 (l : List PAuth) (t : PTrip) (k : Int) : (someE l t k ≠ 0 ∧ curesS l t k = ([], someE l t k) ∧ conflictS l t k = (0, [], someE l t k)) ∨ (curesS l t k = ([], 5) ∧ conflictS l t k = (0, [], 0)) ∨
    (someE l t k = 0 ∧ kindN (rsAt l t k) ≠ 0 ∧ curesS l t k = (chosenL (numsAt l t k) (curesK (rsAt l t k)), 0) ∧ conflictS l t k = (((kindN (rsAt l t k) : Nat) : Int), chosenL (numsAt l t k) (confK (rsAt l t k)), 0)) := by
  by_cases h : someE l t k = 0
  · by_cases h2 : kindN (rsAt l t k) = 0
    · exact .inr (.inl ⟨curesS_none h h2, conflictS_none h h2⟩)
    · refine .inr (.inr ⟨h, h2, curesS_some h h2, ?_⟩)
      rw [conflictS_some h h2, confN_eq (passOk h).nums]
  · exact .inl ⟨h, curesS_bad h, conflictS_bad h⟩
theorem any_kept {ns : List Int} {ks : List Bool} {c : Int} {j : Nat} (h1 : ns[j]? = some c) (h2 : ks[j]? = some true) : (chosenL ns ks).any (fun x => decide (x = c)) = true := by
  rw [List.any_eq_true]
  exact ⟨c, mem_chosen.2 ⟨j, h1, h2⟩, by simp⟩

set_option maxRecDepth 100000 in
set_option maxHeartbeats 6400000 in
theorem cures_law {v vp : Value} {l : List PAuth} {t : PTrip} {k : Int} (w : World) (hk : -9223372036854775808 ≤ k) (hk2 : k ≤ 9223372036854775807) (hs : Sl 4 RAuth w v l) (hp : Sl 3 RPass w vp t.passages) :
    Calls Try.prog 8 #[v, tripV t vp, .int .i64 k] w fun e w' => e = .returned (.bool true) ∧ Ext w w' := by
  have G := fun w' (h : Ext w w') => great_c v vp l t w' (hs.ext RAuth.stable h) (hp.ext RPass.stable h)
  have KN := fun w' => known_c w'
  have A1 := fun w' (h : Ext w w') => Conflict_c v vp l t k w' hk hk2 (hs.ext RAuth.stable h) (hp.ext RPass.stable h)
  have B1 := fun w' (h : Ext w w') => Cures_c v vp l t k w' hk hk2 (hs.ext RAuth.stable h) (hp.ext RPass.stable h)
  have V1 := fun w' (h : Ext w w') => lawValid_c v vp l t w' (hs.ext RAuth.stable h) (hp.ext RPass.stable h)
  have O1 := fun w' (h : Ext w w') h0 => ofAt_c v vp l t k w' (hs.ext RAuth.stable h) (hp.ext RPass.stable h) h0
  obtain ⟨i1, hi1, hi10, hi11, hi12⟩ := info_parts infoRule
  obtain ⟨A, cap, rfl, hl, hcap⟩ := hs.shape
  obtain ⟨Ap, capp, rfl, hpl, hpcap⟩ := hp.shape
  unfold tripV ConflictR CuresR at *
  have h3 := cures3 l t k
  obtain ⟨⟨ck, cs, ce⟩, ha⟩ : ∃ z, conflictS l t k = z := ⟨_, rfl⟩
  obtain ⟨⟨us, ue⟩, hu⟩ : ∃ z, curesS l t k = z := ⟨_, rfl⟩
  rw [ha] at A1 h3
  rw [hu] at B1 h3
  simp only at A1 B1
  replace G := Lib.hid G
  replace KN := Lib.hid KN
  replace A1 := Lib.hid A1
  replace B1 := Lib.hid B1
  replace V1 := Lib.hid V1
  replace O1 := Lib.hid O1
  replace h3 := Lib.hid h3
  clear hs hp ha hu
  go_enter Try.func8, Try.ntmps8
  go_upto_region 1 with fail
  have T0 := TripAt.new t (.slice Ap t.passages.length capp) w
  have E0 : Ext w (w.alloc (.cells #[.int .i64 t.z0, .int .i64 t.z1, .int .i64 t.z2, .int .i64 t.z3, .int .i64 t.z4, .int .i64 t.z5, .slice Ap t.passages.length capp] 26)) := (Ext.refl w).alloc _
  generalize (w.alloc (.cells #[.int .i64 t.z0, .int .i64 t.z1, .int .i64 t.z2, .int .i64 t.z3, .int .i64 t.z4, .int .i64 t.z5, .slice Ap t.passages.length capp] 26)) = W0 at *
  have HT0 := Lib.hid T0
  obtain ⟨t0, t1, t2, t3, t4, t5, t6⟩ := T0
  go_wp2_with fail
  refine (G.out _ E0).mono ?_
  rintro e w1 ⟨⟨b, rfl⟩, hb1⟩
  have E1 := E0.trans hb1
  have T1 := HT0.out.ext hb1
  clear t0 t1 t2 t3 t4 t5 t6 HT0
  cases b
  · have HT1 := Lib.hid T1
    obtain ⟨t0, t1, t2, t3, t4, t5, t6⟩ := T1
    go_upto_region 4 with (go_at_call 32; refine (B1.out _ E1).mono ?_; rintro e w2 ⟨hb2, v1, rfl, h1⟩; obtain ⟨X1, x1, rfl, _, _⟩ := h1.shape)
    have E2 := E1.trans hb2
    have HT2 := Lib.hid (HT1.out.ext hb2)
    have HU := Lib.hid h1
    clear t0 t1 t2 t3 t4 t5 t6 HT1 B1 E1 hb1 h1
    obtain ⟨t0, t1, t2, t3, t4, t5, t6⟩ := HT2.out
    go_upto_region 5 with (go_at_call 25; refine (A1.out _ E2).mono ?_; rintro e w3 ⟨hb3, v2, rfl, h2⟩; obtain ⟨X2, x2, rfl, _, _⟩ := h2.shape)
    have E3 := E2.trans hb3
    have HT3 := Lib.hid (HT2.out.ext hb3)
    have HC := Lib.hid h2
    replace HU := Lib.hid (HU.out.ext RInt.stable hb3)
    clear t0 t1 t2 t3 t4 t5 t6 HT2 A1 E2 hb2 h2
    rcases h3.out with ⟨hE, hq1, hq2⟩ | ⟨hq1, hq2⟩ | ⟨h0, hkn, hq1, hq2⟩
    · simp only [Prod.mk.injEq] at hq1 hq2
      obtain ⟨rfl, rfl⟩ := hq1
      obtain ⟨rfl, rfl, rfl⟩ := hq2
      have hE' : (someE l t k != 0) = true := by simp [hE]
      generalize someE l t k = E at *
      clear HC HU h3 V1 O1
      go_wp2_with (go_at_call 13; refine (KN.out _).mono ?_; rintro e w8 ⟨rfl, hb8⟩)
      go_ret
      exact ⟨rfl, E3.trans hb8⟩
    · simp only [Prod.mk.injEq] at hq1 hq2
      obtain ⟨rfl, rfl⟩ := hq1
      obtain ⟨rfl, rfl, rfl⟩ := hq2
      clear HC HU h3 V1 O1
      go_wp2_with (go_at_call 13; refine (KN.out _).mono ?_; rintro e w8 ⟨rfl, hb8⟩)
      go_ret
      exact ⟨rfl, E3.trans hb8⟩
    · simp only [Prod.mk.injEq] at hq1 hq2
      obtain ⟨rfl, rfl⟩ := hq1
      obtain ⟨rfl, rfl, rfl⟩ := hq2
      have hPO := passOk h0
      have V2 := Lib.hid (fun w' h => V1.out w' h)
      have hbg := begin_some h0
      rw [hbg] at V2
      have O2 := Lib.hid (fun w' h => O1.out w' h h0)
      have hrun : RunN (numsAt l t k) := nums_at l t k
      have hr := hPO.rules
      have hdays : ∀ r ∈ rsAt l t k, 0 ≤ r.days ∧ r.days ≤ 127 := fun r h => (ruleB_parts (hr r h)).1
      have hlen := hPO.len
      have hnum := hPO.nums
      have hcl := counts_ok hr
      clear V1 O1 h3 hbg h0 hPO hr
      generalize rsAt l t k = rs at *
      generalize numsAt l t k = ns at *
      have K1 := fun v' j w' (h : Sl 11 RRule w' v' (rs.eraseIdx j)) => RKind_c v' (rs.eraseIdx j) w' h (by have := List.length_eraseIdx_le rs j; omega) (fun r hr => hcl r (List.mem_of_mem_eraseIdx hr))
      have HAT := Lib.hid (fun i c => cure_at (rs := rs) (ns := ns) (i := i) (c := c) hnum)
      have HKE := Lib.hid (fun j => cure_kept (rs := rs) hdays hkn (j := j))
      have HOT := Lib.hid (fun j c => chosen_other (rs := rs) (ns := ns) hnum hrun (j := j) (c := c))
      have hul := chosenL_len ns (curesK rs)
      have hkl := chosenL_len ns (confK rs)
      have hkn2 : ¬ ((kindN rs : Nat) : Int) = 0 := by omega
      replace K1 := Lib.hid K1
      generalize hus : chosenL ns (curesK rs) = us at *
      have HUS := Lib.hid hus
      generalize hks : chosenL ns (confK rs) = kept at *
      have HKS := Lib.hid hks
      generalize kindN rs = K at *
      clear hus hks hrun hdays hcl
      obtain ⟨t0, t1, t2, t3, t4, t5, t6⟩ := HT3.out
      go_upto_region 9 with (go_at_call 22; refine (V2.out _ E3).mono ?_; rintro e w4 ⟨rfl, hb4⟩)
      have E4 := E3.trans hb4
      have HT4 := Lib.hid (HT3.out.ext hb4)
      clear t0 t1 t2 t3 t4 t5 t6 HT3
      obtain ⟨t0, t1, t2, t3, t4, t5, t6⟩ := HT4.out
      go_upto_region 10 with (go_at_call 23; refine (O2.out _ E4).mono ?_; rintro e w5 ⟨⟨vn, vr, rfl, hn, hr⟩, hb5⟩; obtain ⟨An, capn, rfl, _, _⟩ := hn.shape; obtain ⟨Ar, capr, rfl, _, _⟩ := hr.shape)
      have E5 := E4.trans hb5
      have HN := Lib.hid hn
      have HR := Lib.hid hr
      replace HC := Lib.hid (HC.out.ext RInt.stable (hb4.trans hb5))
      replace HU := Lib.hid (HU.out.ext RInt.stable (hb4.trans hb5))
      clear t0 t1 t2 t3 t4 t5 t6 HT4 hn hr V2 O2 E4 hb4 hb5 E3 hb3
      go_wp2_with fail
      go_loopw [14] (fun i wr => ∃ m : Nat, m ≤ us.length ∧ i = .int .i64 m ∧ Ext w5 wr) (fun i _ => us.length - (intOf i).toNat)
      case atStart => exact ⟨0, by omega, rfl, Ext.refl _⟩
      case round =>
        obtain ⟨m, hm, rfl, hE⟩ := hrel
        obtain ⟨wA, hwA⟩ : ∃ z : World, z = wr := ⟨_, rfl⟩
        subst hwA
        by_cases hlt : m < us.length
        · obtain ⟨c, hc⟩ := some_of_lt hlt
          obtain ⟨j0, hj0, hj1, hj2⟩ := HAT.out m c hc
          have hkeep := HKE.out j0 hj1 hj2
          have hfound := any_kept hj0 hkeep
          rw [HKS.out] at hfound
          have hoth := HOT.out j0 c hj0
          obtain ⟨b3, off3, cs3, rfl, _, hcs3, hc3⟩ := (HU.out.ext RInt.stable hE).at hc
          obtain rfl : cs3 = [.int .i64 c] := hcs3
          have y1 := hc3 0 _ rfl
          simp only [Nat.add_zero, Nat.mul_one] at y1
          have hel : (rs.eraseIdx j0).length = rs.length - 1 := List.length_eraseIdx_of_lt hj1
          have K2 := fun v' w' h => K1.out v' j0 w' h
          rw [hj2] at K2
          replace K2 := Lib.hid K2
          have i1k : (0 : Int) ≤ (m : Int) := by omega
          have i2k : (m : Int) < (us.length : Int) := by omega
          have HFO := Lib.hid hfound
          have HOH := Lib.hid hoth
          have HEL := Lib.hid hel
          have hol := otherK_len ns c
          have HOA := Lib.hid (fun i x => otherK_at (ns := ns) (c := c) (i := i) (x := x))
          clear hc hj0 hj2 hkeep hfound hoth hc3 hel
          generalize otherK ns c = oks at *
          generalize rs.eraseIdx j0 = rest at *
          go_wp2_with fail
          go_loopw [15, 17] (fun o i ws => ∃ (q : Nat) (vo : Value), q ≤ ns.length ∧ i = .int .i64 q ∧ o = vo ∧ OwnL 11 58 (fun _ => RRule wA) wA.heap.size ws vo (chosenL (rs.take q) (oks.take q)) ∧ Ext wA ws) (fun _ i _ => ns.length - (intOf i).toNat)
          case atStart => exact ⟨0, _, by omega, rfl, rfl, by simpa [chosenL] using OwnL.nil, Ext.refl _⟩
          case round =>
            obtain ⟨q, vo, hq2, rfl, rfl, hown, hE2⟩ := hrel
            obtain ⟨wB, hwB⟩ : ∃ z : World, z = wr := ⟨_, rfl⟩
            subst hwB
            obtain ⟨Ao, co, rfl, _, _⟩ := hown.sl.shape
            have HO := Lib.hid hown
            clear hown
            have y2 := hE2.cell y1
            by_cases hltq : q < ns.length
            · obtain ⟨x, hx⟩ := some_of_lt (l := rs) (k := q) (by omega)
              obtain ⟨n, hn⟩ := some_of_lt hltq
              have hob := HOA.out q n hn
              obtain ⟨b, off, cs, rfl, hnn, ⟨vr, vw, vc, rfl, hr⟩, hc⟩ := (HR.out.ext RRule.stable hE).at hx
              obtain ⟨b2, off2, cs2, rfl, hn2, hcs2, hc2⟩ := (HN.out.ext RInt.stable hE).at hn
              obtain rfl : cs2 = [.int .i64 n] := hcs2
              have y0 := hE2.cell (hc2 0 _ rfl)
              simp only [Nat.add_zero, Nat.mul_one] at y0
              have HRR := Lib.hid hr
              obtain ⟨hr1, hw1, hc1⟩ := hr
              obtain ⟨Ar2, cr, rfl, lr, lr2⟩ := hr1.shape
              obtain ⟨Aw, cw, rfl, lw, lw2⟩ := hw1.shape
              obtain ⟨Ac, cc, rfl, lc, lc2⟩ := hc1.shape
              have HNX := Lib.hid (chosenL_snoc rs oks q x _ hx hob)
              have hcl := chosenL_len (rs.take q) (oks.take q)
              rw [List.length_take] at hcl
              have hcl2 : (chosenL (rs.take q) (oks.take q)).length ≤ 24 := by omega
              have j1 : (0 : Int) ≤ (q : Int) := by omega
              have j2 : (q : Int) < (ns.length : Int) := by omega
              have j3 : (q : Int) < (rs.length : Int) := by omega
              have k0 := hE2.cell (hc 0 _ rfl)
              have k1 := hE2.cell (hc 1 _ rfl)
              have k2 := hE2.cell (hc 2 _ rfl)
              have k3 := hE2.cell (hc 3 _ rfl)
              have k4 := hE2.cell (hc 4 _ rfl)
              have k5 := hE2.cell (hc 5 _ rfl)
              have k6 := hE2.cell (hc 6 _ rfl)
              have k7 := hE2.cell (hc 7 _ rfl)
              have k8 := hE2.cell (hc 8 _ rfl)
              have k9 := hE2.cell (hc 9 _ rfl)
              have k10 := hE2.cell (hc 10 _ rfl)
              simp only [Nat.add_zero] at k0
              clear hc hn hx hr1 hw1 hc1 hc2 hcl hob hnn hn2
              generalize chosenL (rs.take q) (oks.take q) = D at *
              by_cases hxc : n = c
              · subst hxc
                go_wp2_with fail
                go_quiet (fail)
                go_wp2_with fail
                go_roundw
                case rel => exact ⟨q + 1, _, by omega, by go_num, rfl, by rw [HNX.out]; simpa using HO.out.ext (fun _ _ _ _ _ h => h) ((Ext.refl wB).drewN _), hE2.drewN _⟩
                case measure => simp [intOf]; omega
              · have HXC := Lib.hid hxc
                go_wp2_with fail
                go_quiet (fail)
                have E3 : Ext wB (wB.drewN nq) := (Ext.refl wB).drewN _
                replace k0 := E3.cell k0
                replace k1 := E3.cell k1
                replace k2 := E3.cell k2
                replace k3 := E3.cell k3
                replace k4 := E3.cell k4
                replace k5 := E3.cell k5
                replace k6 := E3.cell k6
                replace k7 := E3.cell k7
                replace k8 := E3.cell k8
                replace k9 := E3.cell k9
                replace k10 := E3.cell k10
                replace hE2 := hE2.trans E3
                obtain ⟨css, hcs, hown, hcx⟩ := HO.out.ext (fun _ _ _ _ _ h => h) E3
                generalize wB.drewN nq = wZ at *
                have HCX := Lib.hid hcx
                have hz2 := hE2.size
                clear hcx HO y0 y2 E3
                go_wp2_with (at_builtin; refine wpList_append_lies _ rfl _ _ 42 rfl (wA.heap.size) 58 i1 _ 11 144 Try.underlying42 hi1 hi10 hi11 hi12 rfl (by omega) (.slice Ao D.length co) (D.length) (css).flatten rfl ((hown).alloc _) ⟨wZ.heap.size, 0, none⟩ 1 1 [.string x.name, .slice Ar2 x.roads.length cr, .slice Aw x.whens.length cw, .int .i64 x.h0, .int .i64 x.h1, .int .i64 x.days, .int .i64 x.s0, .int .i64 x.s1, .bool x.forbid, .slice Ac x.counts.length cc, .int .i64 x.cost] rfl rfl (World.news_of_block (cs := #[.string x.name, .slice Ar2 x.roads.length cr, .slice Aw x.whens.length cw, .int .i64 x.h0, .int .i64 x.h1, .int .i64 x.days, .int .i64 x.s0, .int .i64 x.s1, .bool x.forbid, .slice Ac x.counts.length cc, .int .i64 x.cost]) (t := 58) (fr := (0, 0)) (heap_alloc_new wZ _)) (by simp [Value.oneCell']) (by omega) (by unfold maxLen; omega) (by omega) (by simp; omega) (wZ.heap.size + 1) (by simp) ?_; intro g cap4 w4 hown4 hgrow4 hat4 hlt4)
                have E4 : Ext wA w4 := Ext.grown (hE2.alloc _) hgrow4 (fun j hj => own_ge hown j hj)
                have hO4 := OwnL.snoc (R := fun _ => RRule wA) (w' := w4) (x := x) hcs HCX.out hown4 rfl ⟨_, _, _, rfl, HRR.out⟩
                have HO4 := Lib.hid hO4
                clear hO4 hown hown4 hgrow4 hat4 hlt4 hcs HCX
                go_roundw
                case rel => exact ⟨q + 1, _, by omega, by go_num, rfl, by rw [HNX.out]; simpa [HXC.out] using HO4.out, E4⟩
                case measure => simp [intOf]; omega
            · obtain rfl : q = ns.length := by omega
              have e1 : chosenL (rs.take ns.length) (oks.take ns.length) = rest := by rw [hnum, List.take_length, List.take_of_length_le (by omega)]; exact HOH.out
              rw [e1] at HO ⊢
              have HRE := Lib.hid ((HO.out.to (fun cs x h => RRule.stable _ _ _ _ hE2 h)).sl)
              have HC2 := Lib.hid (HC.out.ext RInt.stable (hE.trans hE2))
              clear e1 HO
              go_wp2_with fail
              go_loopw [16, 18] (fun f i wt => ∃ q : Nat, q ≤ kept.length ∧ i = .int .i64 q ∧ f = .bool ((kept.take q).any (fun x => decide (x = c))) ∧ Ext wB wt) (fun _ i _ => kept.length - (intOf i).toNat)
              case atStart => exact ⟨0, by omega, rfl, rfl, Ext.refl _⟩
              case round =>
                obtain ⟨q, hq, rfl, rfl, hE3⟩ := hrel
                have y3 := hE3.cell y2
                by_cases hlt3 : q < kept.length
                · obtain ⟨x, hx⟩ := some_of_lt hlt3
                  obtain ⟨b4, off4, cs4, rfl, _, hcs4, hc4⟩ := (HC2.out.ext RInt.stable hE3).at hx
                  obtain rfl : cs4 = [.int .i64 x] := hcs4
                  have y4 := hc4 0 _ rfl
                  simp only [Nat.add_zero, Nat.mul_one] at y4
                  have HNX := Lib.hid (any_succ (fun x => decide (x = c)) hx)
                  have j1 : (0 : Int) ≤ (q : Int) := by omega
                  have j2 : (q : Int) < (kept.length : Int) := by omega
                  clear hx hc4
                  generalize ((kept.take q).any (fun x => decide (x = c))) = B at *
                  cases B
                  · go_wp2_with fail
                    go_quiet (fail)
                    go_wp2_with fail
                    go_roundw
                    case rel => exact ⟨q + 1, by omega, by go_num, by rw [HNX.out]; exact congrArg Value.bool (by rw [Bool.eq_iff_iff]; simp), hE3.drewN _⟩
                    case measure => simp [intOf]; omega
                  · go_wp2_with fail
                    go_quiet (fail)
                    go_wp2_with fail
                    go_roundw
                    case rel => exact ⟨q + 1, by omega, by go_num, by rw [HNX.out]; rfl, hE3.drewN _⟩
                    case measure => simp [intOf]; omega
                · obtain rfl : q = kept.length := by omega
                  rw [List.take_length, HFO.out]
                  have hel2 := HEL.out
                  have hw5 := IntWalk.i64_in ((rs.length : Int) - 1) (by omega)
                  have hel3 : ((rest.length : Nat) : Int) = (rs.length : Int) - 1 := by omega
                  have HRE3 := Lib.hid (HRE.out.ext RRule.stable hE3)
                  clear hel2
                  go_wp2_with (go_at_call 35; refine (K2.out _ _ HRE3.out).mono ?_; rintro e w7 ⟨rfl, hb7⟩)
                  go_roundw
                  case rel => exact ⟨m + 1, by omega, by go_num, hE.trans (hE2.trans (hE3.trans hb7))⟩
                  case measure => simp [intOf]; omega
        · go_wp2_with (go_at_call 13; refine (KN.out _).mono ?_; rintro e w8 ⟨rfl, hb8⟩)
          go_ret
          exact ⟨rfl, E5.trans (hE.trans hb8)⟩
  · go_wp2_with (go_at_call 13; refine (KN.out _).mono ?_; rintro e w2 ⟨rfl, hb2⟩)
    go_ret
    exact ⟨rfl, E1.trans hb2⟩
end Go.Proofs.Ytaomlmkcifpfkaa
