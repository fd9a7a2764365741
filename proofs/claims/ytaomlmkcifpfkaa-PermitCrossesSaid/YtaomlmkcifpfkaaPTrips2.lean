/- Trips of the definition: contract. -/
import Derived.Test.YtaomlmkcifpfkaaPTrips1
namespace Go.Proofs.Ytaomlmkcifpfkaa
open Go.RowKit Go.Shelf Go.Maps
attribute [local go_sem ↓] Go.wp_at_zero Go.wp_at_succ

/-- where the next crossing may begin -/
def FromF (t : PTrip) (cl : List PCross) (N0 : Int) (k : Nat) (F : Int) : Prop :=
  (k = 0 ∧ F = N0) ∨ ∃ (m : Nat) (c0 : PCross), k = m + 1 ∧ cl[m]? = some c0 ∧ F = c0.start + minAt t (m : Int) ∧ N0 ≤ F ∧ (0 ≤ c0.start ∧ c0.start ≤ 1099511627776)
theorem min_at {t : PTrip} {m : Nat} {p : PPass} (h : t.passages[m]? = some p) : minAt t (m : Int) = p.minutes := by
  unfold minAt; rw [Int.toNat_natCast, h]

set_option maxRecDepth 100000 in
set_option maxHeartbeats 6400000 in
theorem RTrips_c (v vp vc : Value) (l : List PAuth) (t : PTrip) (asked : Int) (cl : List PCross) (w : World) (hs : Sl 4 RAuth w v l) (hp : Sl 3 RPass w vp t.passages) (hcl : Sl 2 RCross w vc cl) :
    Calls Try.prog 44 #[v, tripV t vp, .int .i64 asked, vc] w (TripsR l t asked cl w) := by
  have C1 := fun w' (h : Ext w w') => begin_c v vp l t w' (hs.ext RAuth.stable h) (hp.ext RPass.stable h)
  have C2 := fun w' => within_c asked 0 1099511627776 w'
  have C3 := fun w' (h : Ext w w') hV => compile_c v vp l t w' (hs.ext RAuth.stable h) (hp.ext RPass.stable h) hV
  have C5 := fun vt (k : Nat) c w' (h : Ext w w') hso hc h0 h1 => Rbroken_c v vp vt l t (k : Int) c w' (hs.ext RAuth.stable h) (hp.ext RPass.stable h) hso hc h0 h1
  obtain ⟨A, cap, rfl, hl, hcap⟩ := hs.shape
  obtain ⟨Ap, capp, rfl, hpl, hpcap⟩ := hp.shape
  obtain ⟨Ac, capc, rfl, hcll, hclc⟩ := hcl.shape
  have HCL := Lib.hid hcl
  have HPA := Lib.hid hp
  unfold tripV at *
  clear hs hp hcl
  obtain ⟨Post, hPost⟩ : ∃ Post, TripsR l t asked cl w = Post := ⟨_, rfl⟩
  rw [hPost]
  replace hPost := Lib.hid hPost
  obtain ⟨R, hR⟩ : ∃ z, tripsS l t asked cl = z := ⟨_, rfl⟩
  have HRR := Lib.hid hR
  unfold tripsS at hR
  have HR := Lib.hid hR
  clear hR
  replace C5 := Lib.hid C5
  by_cases h0 : beginE l t = 0
  · have HR1 := Lib.hid (show (if inB asked 0 1099511627776 = true then (if cl.length = t.passages.length then goT l t cl 0 (asked + noticeS l t) else (0, 17)) else (0, 3)) = R by rw [← HR.out, if_pos h0])
    have hV := valid_of_begin h0
    have HB := Lib.hid (fun (k : Nat) hk => some_of_begin (l := l) (t := t) (k := k) h0 hk)
    have hnb := notice_bd h0
    have hpl24 := hV.plen
    have C4 := Lib.hid (fun w' h => C3 w' h hV)
    have HMB := Lib.hid (fun (m : Nat) (p : PPass) (hp : t.passages[m]? = some p) => pass_ok hV hp)
    rw [h0] at C1
    replace C1 := Lib.hid C1
    clear C3 hV HR h0
    go_enter Try.func44, Try.ntmps44
    go_upto_region 1 with fail
    have T0 := TripAt.new t (.slice Ap t.passages.length capp) w
    have E0 : Ext w (w.alloc (.cells #[.int .i64 t.z0, .int .i64 t.z1, .int .i64 t.z2, .int .i64 t.z3, .int .i64 t.z4, .int .i64 t.z5, .slice Ap t.passages.length capp] 26)) := (Ext.refl w).alloc _
    generalize (w.alloc (.cells #[.int .i64 t.z0, .int .i64 t.z1, .int .i64 t.z2, .int .i64 t.z3, .int .i64 t.z4, .int .i64 t.z5, .slice Ap t.passages.length capp] 26)) = W0 at *
    have HT0 := Lib.hid T0
    obtain ⟨t0, t1, t2, t3, t4, t5, t6⟩ := T0
    go_upto_region 3 with (go_at_call 48; refine (C1.out _ E0).mono ?_; rintro e w1 ⟨rfl, hb1⟩)
    have E1 := E0.trans hb1
    have HT1 := Lib.hid (HT0.out.ext hb1)
    clear t0 t1 t2 t3 t4 t5 t6 HT0 hb1
    obtain ⟨t0, t1, t2, t3, t4, t5, t6⟩ := HT1.out
    cases hq : inB asked 0 1099511627776 with
    | false =>
      rw [hq] at C2
      obtain rfl : R = (0, 3) := by rw [← HR1.out, hq]; rfl
      replace C2 := Lib.hid C2
      clear HR1
      go_wp2_with (go_at_call 54; refine (C2.out _).mono ?_; rintro e w2 ⟨rfl, rfl⟩)
      rw [← hPost.out]
      exact ⟨by rw [HRR.out] <;> rfl, E1⟩
    | true =>
      rw [hq] at C2
      have hask := inB_iff.1 hq
      have HR2 := Lib.hid (show (if cl.length = t.passages.length then goT l t cl 0 (asked + noticeS l t) else (0, 17)) = R by rw [← HR1.out, if_pos hq])
      replace C2 := Lib.hid C2
      clear hq HR1
      by_cases hln : cl.length = t.passages.length
      · have HR3 := Lib.hid (show goT l t cl 0 (asked + noticeS l t) = R by rw [← HR2.out, if_pos hln])
        have hw1 := IntWalk.i64_in (asked + noticeS l t) (by omega)
        have hle : ((cl.length : Nat) : Int) = (t.passages.length : Int) := by omega
        generalize noticeS l t = N at *
        generalize feeS l t = FE at *
        clear HR2
        go_upto_region 7 with (go_at_call 54; refine (C2.out _).mono ?_; rintro e w2 ⟨rfl, rfl⟩)
        clear hle
        go_upto_region 8 with (go_at_call 49; refine (C4.out _ E1).mono ?_; rintro e w3 ⟨vco, rfl, hvo, hb3⟩; obtain ⟨Aq, cq, rfl, _, _⟩ := hvo.sl.shape)
        have E3 := E1.trans hb3
        have e4 : Ext w3 (w3.alloc (.cells #[.slice Aq (conds l t).length cq, .int .i64 FE, .int .i64 N] 31)) := (Ext.refl _).alloc _
        have n2 : (w3.alloc (.cells #[.slice Aq (conds l t).length cq, .int .i64 FE, .int .i64 N] 31)).cell? ⟨w3.heap.size, 2, none⟩ = some (.int .i64 N) := World.cell?_alloc_new _ _ _ _
        have HT4 := Lib.hid (HT1.out.ext (hb3.trans e4))
        generalize (w3.alloc (.cells #[.slice Aq (conds l t).length cq, .int .i64 FE, .int .i64 N] 31)) = W4 at *
        have E4 := E3.trans e4
        clear t0 t1 t2 t3 t4 t5 t6 HT1 C4 C1 e4 hb3
        obtain ⟨t0, t1, t2, t3, t4, t5, t6⟩ := HT4.out
        go_wp2_with fail
        go_loopw [11] (fun i wr => ∃ (k : Nat) (F : Int), k ≤ cl.length ∧ i = .int .i64 k ∧ FromF t cl (asked + N) k F ∧ goT l t (cl.drop k) k F = R ∧ Ext W4 wr) (fun i _ => cl.length - (intOf i).toNat)
        case atStart => exact ⟨0, _, by omega, rfl, .inl ⟨rfl, rfl⟩, by rw [List.drop_zero]; exact HR3.out, Ext.refl _⟩
        case round =>
          obtain ⟨k, F, hk, rfl, hF, hg, hE⟩ := hrel
          obtain ⟨wA, hwA⟩ : ∃ z : World, z = wr := ⟨_, rfl⟩
          subst hwA
          have HG := Lib.hid hg
          have HF := Lib.hid hF
          clear hg hF
          by_cases hlt : k < cl.length
          · obtain ⟨c, hc⟩ := some_of_lt hlt
            obtain ⟨cb, co, ccs, rfl, _, ⟨vt, rfl, hct⟩, hcc⟩ := (HCL.out.ext RCross.stable (E4.trans hE)).at hc
            obtain ⟨At, ct, rfl, lt, lt2⟩ := hct.shape
            have HCT := Lib.hid hct
            have EW := Ext.refl wA
            have k0 := hcc 0 _ rfl
            have k1 := hcc 1 _ rfl
            simp only [Nat.add_zero] at k0
            have i1 : (0 : Int) ≤ (k : Int) := by omega
            have i2 : (k : Int) < (cl.length : Int) := by omega
            have i3 : (k : Int) < (t.passages.length : Int) := by omega
            have HX := Lib.hid hc
            have X1 := Lib.hid (fun w' (h : Ext wA w') => Rcrossing_c c _ w' (hct.ext RCount.stable h))
            clear hcc hc hct
            by_cases hce : crossE c = 0
            · have hst := crossE_zero hce
              rw [hce] at X1
              go_upto_region 13 with (go_at_call 75; refine (X1.out _ (Ext.refl _)).mono ?_; rintro e w5 ⟨rfl, hb5⟩)
              have E5 := hE.trans hb5
              replace EW := EW.trans hb5
              have d0 := hb5.cell k0
              have d1 := hb5.cell k1
              have q2 := E5.cell n2
              have q6 := E5.cell t6
              by_cases hla : c.start < asked + N
              · obtain rfl : R = ((k : Int), 22) := by
                  have hlf : c.start < F := by
                    rcases HF.out with ⟨_, rfl⟩ | ⟨m, c0, _, _, _, h, _⟩
                    · exact hla
                    · omega
                  have h := goT_no HX.out HG.out (by rw [stepE_late hce hlf]; decide)
                  rw [stepE_late hce hlf] at h
                  exact h
                have hd := decide_eq_true hla
                go_quiet (fail)
                go_wp2_with fail
                rw [← hPost.out]
                exact ⟨by rw [HRR.out] <;> rfl, E4.trans (E5.drewN _)⟩
              · have hd := decide_eq_false hla
                rcases HF.out with ⟨hk0, hF0⟩ | ⟨m, c0, hkm, hm, hFm, hNF, hs0⟩
                · have hz : ¬ 0 < k := by omega
                  have hdz := decide_eq_false hz
                  have hlf : ¬ c.start < F := by omega
                  clear hk0 hF0
                  go_quiet (fail)
                  have E6 : Ext w5 (w5.drewN nq) := (Ext.refl w5).drewN _
                  replace d0 := E6.cell d0
                  replace d1 := E6.cell d1
                  have E7 := E5.trans E6
                  replace EW := EW.trans E6
                  have T6 := HT4.out.ext E7
                  generalize w5.drewN nq = w6 at *
                  clear t0 t1 t2 t3 t4 t5 t6 k0 k1 q2 q6 E6 hb5 hE E5
                  obtain ⟨t0, t1, t2, t3, t4, t5, t6⟩ := T6
                  have hso := HB.out k (by omega)
                  obtain ⟨BL, hBL⟩ : ∃ z, brokenL l t (k : Int) c = z := ⟨_, rfl⟩
                  have X5 : ∀ w', Ext w6 w' → Calls Try.prog 76 #[.slice A l.length cap, .agg #[.int .i64 t.z0, .int .i64 t.z1, .int .i64 t.z2, .int .i64 t.z3, .int .i64 t.z4, .int .i64 t.z5, .slice Ap t.passages.length capp], .int .i64 (k : Int), .agg #[.int .i64 c.start, .slice At c.things.length ct]] w' fun e w'' => (∃ v', e = .returned v' ∧ OwnL 1 3 RInt w'.heap.size w'' v' BL) ∧ Ext w' w'' := fun w' h => by
                    rw [← hBL]
                    exact C5.out (.slice At c.things.length ct) k c w' (E4.trans (E7.trans h)) hso (HCT.out.ext RCount.stable (EW.trans h)) hst.1 hst.2
                  have HBE := Lib.hid hBL
                  replace X5 := Lib.hid X5
                  clear hBL hso
                  go_upto_region 15 with fail
                  go_region_held3 (fun w' => w'.cell? ⟨w.heap.size, 0, none⟩ = some (.int .i64 t.z0) ∧ w'.cell? ⟨w.heap.size, 1, none⟩ = some (.int .i64 t.z1) ∧ w'.cell? ⟨w.heap.size, 2, none⟩ = some (.int .i64 t.z2) ∧ w'.cell? ⟨w.heap.size, 3, none⟩ = some (.int .i64 t.z3) ∧ w'.cell? ⟨w.heap.size, 4, none⟩ = some (.int .i64 t.z4) ∧ w'.cell? ⟨w.heap.size, 5, none⟩ = some (.int .i64 t.z5) ∧ w'.cell? ⟨w.heap.size, 6, none⟩ = some (.slice Ap t.passages.length capp) ∧ w'.cell? ⟨cb, co + k * 2, none⟩ = some (.int .i64 c.start) ∧ w'.cell? ⟨cb, co + k * 2 + 1, none⟩ = some (.slice At c.things.length ct)) (refine ⟨?_, ?_, ?_, ?_, ?_, ?_, ?_, ?_, ?_⟩ <;> (repeat' (with_reducible (first | assumption | refine Ext.cell hb8 ?_ | refine Ext.cell (Ext.refl _).drew ?_)))) ((go_at_call 76; (with_reducible refine (X5.out _ (by (repeat' (first | exact Ext.refl _ | assumption | refine Ext.alloc ?_ _ | refine Ext.drew ?_ | refine Ext.drewN ?_ _ | refine Ext.set ?_ (by first | exact Nat.le_refl _ | exact le1 _ | exact le2 _ | exact le3 _ | exact le4 _ | exact le5 _ | exact le6 _) _ | refine Ext.trans ?_ (by assumption))))).mono ?_); rintro e w8 ⟨⟨v8, rfl, ho8⟩, hb8⟩; obtain ⟨A8, cap8, rfl, _, _⟩ := ho8.sl.shape))
                  have E8 : Ext w6 w8 := by (repeat' (first | exact Ext.refl _ | assumption | refine Ext.alloc ?_ _ | refine Ext.drew ?_ | refine Ext.drewN ?_ _ | refine Ext.set ?_ (by first | exact Nat.le_refl _ | exact le1 _ | exact le2 _ | exact le3 _ | exact le4 _ | exact le5 _ | exact le6 _) _ | refine Ext.trans ?_ (by assumption)))
                  clear ho8 t0 t1 t2 t3 t4 t5 t6 X5
                  by_cases hbl : BL.length = 0
                  · have hst2 := stepE_ok (l := l) (t := t) (k := k) hce (Int.not_lt.2 hlf) (by rw [HBE.out]; exact hbl)
                    have HGN := Lib.hid (goT_go HX.out HG.out hst2)
                    have hb0 : ¬ (0 : Int) < (BL.length : Int) := by omega
                    obtain ⟨p9, hp9⟩ := some_of_lt (l := t.passages) (k := k) (by omega)
                    have hm9 := min_at hp9
                    have hpb9 := HMB.out k p9 hp9
                    have HFN := Lib.hid (show FromF t cl (asked + N) (k + 1) (c.start + minAt t (k : Int)) from .inr ⟨k, c, rfl, HX.out, rfl, by omega, hst⟩)
                    clear hst2 hp9 hm9
                    go_wp2_with fail
                    go_roundw
                    case rel => exact ⟨k + 1, _, by omega, by go_num, HFN.out, HGN.out, E7.trans E8⟩
                    case measure => simp [intOf]; omega
                  · have hbp : (0 : Int) < (BL.length : Int) := by omega
                    have hst2 := stepE_rule (l := l) (t := t) (k := k) hce (Int.not_lt.2 hlf) (by rw [HBE.out]; exact hbl)
                    obtain rfl : R = ((k : Int), 21) := by
                      have h := goT_no HX.out HG.out (by rw [hst2]; decide)
                      rw [hst2] at h
                      exact h
                    go_wp2_with fail
                    rw [← hPost.out]
                    exact ⟨by rw [HRR.out] <;> rfl, E4.trans (E7.trans E8)⟩
                · obtain ⟨p, hpm⟩ := some_of_lt (l := t.passages) (k := m) (by omega)
                  have hmn := min_at hpm
                  have hpb := HMB.out m p hpm
                  obtain ⟨pb, po, pcs, rfl, _, hpr, hpc⟩ := (HPA.out.ext RPass.stable (E4.trans E5)).at hpm
                  obtain rfl : pcs = [.string p.auth, .string p.road, .int .i64 p.minutes] := hpr
                  have P2 := hpc 2 _ rfl
                  obtain ⟨cb2, co2, ccs2, hcb, _, ⟨vt2, rfl, _⟩, hcc2⟩ := (HCL.out.ext RCross.stable (E4.trans E5)).at hm
                  cases hcb
                  have M0 := hcc2 0 _ rfl
                  simp only [Nat.add_zero] at M0
                  have g1 : (0 : Int) < (k : Int) := by omega
                  have g2 : (k : Int) - 1 = (m : Int) := by omega
                  have g3 : (0 : Int) ≤ (m : Int) := by omega
                  have g4 : (m : Int) < (cl.length : Int) := by omega
                  have g5 : (m : Int) < (t.passages.length : Int) := by omega
                  have g6 := IntWalk.i64_in (c0.start + p.minutes) (by omega)
                  have g8 : 0 < k := by omega
                  have g7 := decide_eq_true g8
                  rw [hmn] at hFm
                  clear hpc hcc2 hpm hm hmn hkm
                  by_cases hlq : c.start < c0.start + p.minutes
                  · obtain rfl : R = ((k : Int), 22) := by
                      have hlt9 : c.start < F := by omega
                      have h := goT_no HX.out HG.out (by rw [stepE_late hce hlt9]; decide)
                      rw [stepE_late hce hlt9] at h
                      exact h
                    have hd2 := decide_eq_true hlq
                    go_quiet (fail)
                    go_wp2_with fail
                    rw [← hPost.out]
                    exact ⟨by rw [HRR.out] <;> rfl, E4.trans (E5.drewN _)⟩
                  · have hd2 := decide_eq_false hlq
                    have hlf : ¬ c.start < F := by omega
                    go_quiet (fail)
                    have E6 : Ext w5 (w5.drewN nq) := (Ext.refl w5).drewN _
                    replace d0 := E6.cell d0
                    replace d1 := E6.cell d1
                    have E7 := E5.trans E6
                    replace EW := EW.trans E6
                    have T6 := HT4.out.ext E7
                    clear P2 M0
                    generalize w5.drewN nq = w6 at *
                    clear t0 t1 t2 t3 t4 t5 t6 k0 k1 q2 q6 E6 hb5 hE E5
                    obtain ⟨t0, t1, t2, t3, t4, t5, t6⟩ := T6
                    have hso := HB.out k (by omega)
                    obtain ⟨BL, hBL⟩ : ∃ z, brokenL l t (k : Int) c = z := ⟨_, rfl⟩
                    have X5 : ∀ w', Ext w6 w' → Calls Try.prog 76 #[.slice A l.length cap, .agg #[.int .i64 t.z0, .int .i64 t.z1, .int .i64 t.z2, .int .i64 t.z3, .int .i64 t.z4, .int .i64 t.z5, .slice (some ⟨pb, po, none⟩) t.passages.length capp], .int .i64 (k : Int), .agg #[.int .i64 c.start, .slice At c.things.length ct]] w' fun e w'' => (∃ v', e = .returned v' ∧ OwnL 1 3 RInt w'.heap.size w'' v' BL) ∧ Ext w' w'' := fun w' h => by
                      rw [← hBL]
                      exact C5.out (.slice At c.things.length ct) k c w' (E4.trans (E7.trans h)) hso (HCT.out.ext RCount.stable (EW.trans h)) hst.1 hst.2
                    have HBE := Lib.hid hBL
                    replace X5 := Lib.hid X5
                    clear hBL hso
                    go_upto_region 15 with fail
                    go_region_held3 (fun w' => w'.cell? ⟨w.heap.size, 0, none⟩ = some (.int .i64 t.z0) ∧ w'.cell? ⟨w.heap.size, 1, none⟩ = some (.int .i64 t.z1) ∧ w'.cell? ⟨w.heap.size, 2, none⟩ = some (.int .i64 t.z2) ∧ w'.cell? ⟨w.heap.size, 3, none⟩ = some (.int .i64 t.z3) ∧ w'.cell? ⟨w.heap.size, 4, none⟩ = some (.int .i64 t.z4) ∧ w'.cell? ⟨w.heap.size, 5, none⟩ = some (.int .i64 t.z5) ∧ w'.cell? ⟨w.heap.size, 6, none⟩ = some (.slice (some ⟨pb, po, none⟩) t.passages.length capp) ∧ w'.cell? ⟨cb, co + k * 2, none⟩ = some (.int .i64 c.start) ∧ w'.cell? ⟨cb, co + k * 2 + 1, none⟩ = some (.slice At c.things.length ct)) (refine ⟨?_, ?_, ?_, ?_, ?_, ?_, ?_, ?_, ?_⟩ <;> (repeat' (with_reducible (first | assumption | refine Ext.cell hb8 ?_ | refine Ext.cell (Ext.refl _).drew ?_)))) ((go_at_call 76; (with_reducible refine (X5.out _ (by (repeat' (first | exact Ext.refl _ | assumption | refine Ext.alloc ?_ _ | refine Ext.drew ?_ | refine Ext.drewN ?_ _ | refine Ext.set ?_ (by first | exact Nat.le_refl _ | exact le1 _ | exact le2 _ | exact le3 _ | exact le4 _ | exact le5 _ | exact le6 _) _ | refine Ext.trans ?_ (by assumption))))).mono ?_); rintro e w8 ⟨⟨v8, rfl, ho8⟩, hb8⟩; obtain ⟨A8, cap8, rfl, _, _⟩ := ho8.sl.shape))
                    have E8 : Ext w6 w8 := by (repeat' (first | exact Ext.refl _ | assumption | refine Ext.alloc ?_ _ | refine Ext.drew ?_ | refine Ext.drewN ?_ _ | refine Ext.set ?_ (by first | exact Nat.le_refl _ | exact le1 _ | exact le2 _ | exact le3 _ | exact le4 _ | exact le5 _ | exact le6 _) _ | refine Ext.trans ?_ (by assumption)))
                    clear ho8 t0 t1 t2 t3 t4 t5 t6 X5
                    by_cases hbl : BL.length = 0
                    · have hst2 := stepE_ok (l := l) (t := t) (k := k) hce (Int.not_lt.2 hlf) (by rw [HBE.out]; exact hbl)
                      have HGN := Lib.hid (goT_go HX.out HG.out hst2)
                      have hb0 : ¬ (0 : Int) < (BL.length : Int) := by omega
                      obtain ⟨p9, hp9⟩ := some_of_lt (l := t.passages) (k := k) (by omega)
                      have hm9 := min_at hp9
                      have hpb9 := HMB.out k p9 hp9
                      have HFN := Lib.hid (show FromF t cl (asked + N) (k + 1) (c.start + minAt t (k : Int)) from .inr ⟨k, c, rfl, HX.out, rfl, by omega, hst⟩)
                      clear hst2 hp9 hm9
                      go_wp2_with fail
                      go_roundw
                      case rel => exact ⟨k + 1, _, by omega, by go_num, HFN.out, HGN.out, E7.trans E8⟩
                      case measure => simp [intOf]; omega
                    · have hbp : (0 : Int) < (BL.length : Int) := by omega
                      have hst2 := stepE_rule (l := l) (t := t) (k := k) hce (Int.not_lt.2 hlf) (by rw [HBE.out]; exact hbl)
                      obtain rfl : R = ((k : Int), 21) := by
                        have h := goT_no HX.out HG.out (by rw [hst2]; decide)
                        rw [hst2] at h
                        exact h
                      go_wp2_with fail
                      rw [← hPost.out]
                      exact ⟨by rw [HRR.out] <;> rfl, E4.trans (E7.trans E8)⟩
            · have hst := stepE_cross (l := l) (t := t) (k := k) (F := F) hce
              have hce' : (crossE c != 0) = true := by simp [hce]
              obtain rfl : R = ((k : Int), crossE c) := by
                have h := goT_no HX.out HG.out (by rw [hst]; exact hce)
                rw [hst] at h
                exact h
              clear hst
              generalize crossE c = E at *
              go_upto_region 12 with (go_at_call 75; refine (X1.out _ (Ext.refl _)).mono ?_; rintro e w5 ⟨rfl, hb5⟩)
              have d0 := hb5.cell k0
              have d1 := hb5.cell k1
              go_wp2_with (go_at_call 75; refine (X1.out _ hb5).mono ?_; rintro e w6 ⟨rfl, hb6⟩)
              rw [← hPost.out]
              exact ⟨by rw [HRR.out] <;> rfl, E4.trans (hE.trans (hb5.trans hb6))⟩
          · obtain rfl : k = cl.length := by omega
            obtain rfl := goT_end HG.out
            go_wp2_with fail
            rw [← hPost.out]
            exact ⟨by rw [HRR.out, hln]; rfl, E4.trans hE⟩
      · have hle : ¬ ((cl.length : Nat) : Int) = (t.passages.length : Int) := by omega
        obtain rfl : R = (0, 17) := by rw [← HR2.out, if_neg hln]
        clear HR2
        go_wp2_with (go_at_call 54; refine (C2.out _).mono ?_; rintro e w2 ⟨rfl, rfl⟩)
        rw [← hPost.out]
        exact ⟨by rw [HRR.out] <;> rfl, E1⟩
  · obtain rfl : R = (0, beginE l t) := by rw [← HR.out, if_neg h0]
    have hne' : (beginE l t != 0) = true := by simp [h0]
    generalize beginE l t = E at *
    replace C1 := Lib.hid C1
    clear C2 C3
    go_enter Try.func44, Try.ntmps44
    go_upto_region 1 with fail
    have T0 := TripAt.new t (.slice Ap t.passages.length capp) w
    have E0 : Ext w (w.alloc (.cells #[.int .i64 t.z0, .int .i64 t.z1, .int .i64 t.z2, .int .i64 t.z3, .int .i64 t.z4, .int .i64 t.z5, .slice Ap t.passages.length capp] 26)) := (Ext.refl w).alloc _
    generalize (w.alloc (.cells #[.int .i64 t.z0, .int .i64 t.z1, .int .i64 t.z2, .int .i64 t.z3, .int .i64 t.z4, .int .i64 t.z5, .slice Ap t.passages.length capp] 26)) = W0 at *
    have HT0 := Lib.hid T0
    obtain ⟨t0, t1, t2, t3, t4, t5, t6⟩ := T0
    go_upto_region 2 with (go_at_call 48; refine (C1.out _ E0).mono ?_; rintro e w1 ⟨rfl, hb1⟩)
    have E1 := E0.trans hb1
    have T1 := HT0.out.ext hb1
    clear t0 t1 t2 t3 t4 t5 t6
    obtain ⟨t0, t1, t2, t3, t4, t5, t6⟩ := T1
    go_wp2_with (go_at_call 48; refine (C1.out _ E1).mono ?_; rintro e w2 ⟨rfl, hb2⟩)
    rw [← hPost.out]
    exact ⟨by rw [HRR.out] <;> rfl, E1.trans hb2⟩
end Go.Proofs.Ytaomlmkcifpfkaa
