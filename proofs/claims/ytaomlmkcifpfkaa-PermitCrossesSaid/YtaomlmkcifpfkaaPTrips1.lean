/- Trips of the program: contract. -/
import Derived.Test.YtaomlmkcifpfkaaPCross6
namespace Go.Proofs.Ytaomlmkcifpfkaa
open Go.RowKit Go.Shelf Go.Maps
attribute [local go_sem ↓] Go.wp_at_zero Go.wp_at_succ

def stepE (l : List PAuth) (t : PTrip) (k : Nat) (c : PCross) (F : Int) : Int := if crossE c = 0 then (if c.start < F then 22 else if (brokenL l t (k : Int) c).length = 0 then 0 else 21) else crossE c
def goT (l : List PAuth) (t : PTrip) : List PCross → Nat → Int → Int × Int
  | [], k, _ => ((k : Int), 0)
  | c :: cs, k, F => if stepE l t k c F = 0 then goT l t cs (k + 1) (c.start + minAt t (k : Int)) else ((k : Int), stepE l t k c F)
def tripsS (l : List PAuth) (t : PTrip) (asked : Int) (cl : List PCross) : Int × Int := if beginE l t = 0 then (if inB asked 0 1099511627776 = true then (if cl.length = t.passages.length then goT l t cl 0 (asked + noticeS l t) else (0, 17)) else (0, 3)) else (0, beginE l t)
def TripsR (l : List PAuth) (t : PTrip) (asked : Int) (cl : List PCross) (w : World) (e : Ending) (w' : World) : Prop := e = .returned (.tuple #[.int .i64 (tripsS l t asked cl).1, .int .i64 (tripsS l t asked cl).2]) ∧ Ext w w'
theorem goT_at {l : List PAuth} {t : PTrip} {cl : List PCross} {k : Nat} {c : PCross} {F : Int} (h : cl[k]? = some c) : goT l t (cl.drop k) k F = if stepE l t k c F = 0 then goT l t (cl.drop (k + 1)) (k + 1) (c.start + minAt t (k : Int)) else ((k : Int), stepE l t k c F) := by
  obtain ⟨hk, rfl⟩ := List.getElem?_eq_some_iff.1 h
  rw [List.drop_eq_getElem_cons hk]
  rfl
theorem goT_go {l : List PAuth} {t : PTrip} {cl : List PCross} {k : Nat} {c : PCross} {F : Int} {R : Int × Int} (h : cl[k]? = some c) (hg : goT l t (cl.drop k) k F = R) (hs : stepE l t k c F = 0) : goT l t (cl.drop (k + 1)) (k + 1) (c.start + minAt t (k : Int)) = R := by
  rw [goT_at h, if_pos hs] at hg; exact hg
theorem goT_no {l : List PAuth} {t : PTrip} {cl : List PCross} {k : Nat} {c : PCross} {F : Int} {R : Int × Int} (h : cl[k]? = some c) (hg : goT l t (cl.drop k) k F = R) (hs : stepE l t k c F ≠ 0) : R = ((k : Int), stepE l t k c F) := by
  rw [goT_at h, if_neg hs] at hg; exact hg.symm
theorem goT_end {l : List PAuth} {t : PTrip} {cl : List PCross} {F : Int} {R : Int × Int} (hg : goT l t (cl.drop cl.length) cl.length F = R) : R = ((cl.length : Int), 0) := by
  rw [List.drop_length] at hg; exact hg.symm
theorem stepE_cross {l : List PAuth} {t : PTrip} {k : Nat} {c : PCross} {F : Int} (h : crossE c ≠ 0) : stepE l t k c F = crossE c := by unfold stepE; rw [if_neg h]
theorem stepE_late {l : List PAuth} {t : PTrip} {k : Nat} {c : PCross} {F : Int} (h : crossE c = 0) (h2 : c.start < F) : stepE l t k c F = 22 := by unfold stepE; rw [if_pos h, if_pos h2]
theorem stepE_rule {l : List PAuth} {t : PTrip} {k : Nat} {c : PCross} {F : Int} (h : crossE c = 0) (h2 : ¬ c.start < F) (h3 : (brokenL l t (k : Int) c).length ≠ 0) : stepE l t k c F = 21 := by unfold stepE; rw [if_pos h, if_neg h2, if_neg h3]
theorem stepE_ok {l : List PAuth} {t : PTrip} {k : Nat} {c : PCross} {F : Int} (h : crossE c = 0) (h2 : ¬ c.start < F) (h3 : (brokenL l t (k : Int) c).length = 0) : stepE l t k c F = 0 := by unfold stepE; rw [if_pos h, if_neg h2, if_pos h3]
theorem some_of_begin {l : List PAuth} {t : PTrip} {k : Nat} (h : beginE l t = 0) (hk : k < t.passages.length) : someE l t (k : Int) = 0 := by
  unfold someE
  rw [if_pos h, if_neg (by omega)]
theorem desk_row {l : List PAuth} {t : PTrip} {k : Nat} (hk : k < t.passages.length) : (desk l t)[k]? = some ⟨rsAt l t (k : Int), numsAt l t (k : Int), minAt t (k : Int)⟩ := by
  obtain ⟨p, hp⟩ := some_of_lt hk
  unfold desk
  rw [deskN_at hp _ hk (Nat.le_refl _)]
  unfold atDesk rsAt numsAt minAt
  rw [Int.toNat_natCast, hp]
theorem notice_bd {l : List PAuth} {t : PTrip} (h : beginE l t = 0) : 0 ≤ noticeS l t ∧ noticeS l t ≤ 1048576 := noticeN_bd (valid_of_begin h) _ (Nat.le_refl _)

set_option maxRecDepth 100000 in
set_option maxHeartbeats 6400000 in
theorem Trips_c (v vp vc : Value) (l : List PAuth) (t : PTrip) (asked : Int) (cl : List PCross) (w : World) (hs : Sl 4 RAuth w v l) (hp : Sl 3 RPass w vp t.passages) (hcl : Sl 2 RCross w vc cl) :
    Calls Try.prog 43 #[v, tripV t vp, .int .i64 asked, vc] w (TripsR l t asked cl w) := by
  have C1 := fun w' (h : Ext w w') => newDesk_c v vp l t w' (hs.ext RAuth.stable h) (hp.ext RPass.stable h)
  have C2 := fun w' => validMinute_c asked w'
  have hmx : ∀ (x y : Int) (W : World), (Builtin.max_ #[2, 2] 2 #[.int .i64 x, .int .i64 y]).run Try.prog W = .ok (.int .i64 (max x y)) W := fun x y W => by
    have : (if y > x then y else x) = max x y := by split <;> omega
    rw [← this]; rfl
  have hdlen : (desk l t).length = t.passages.length := deskN_len _ (Nat.le_refl _)
  obtain ⟨A, cap, rfl, hl, hcap⟩ := hs.shape
  obtain ⟨Ap, capp, rfl, hpl, hpcap⟩ := hp.shape
  obtain ⟨Ac, capc, rfl, hcll, hclc⟩ := hcl.shape
  have HCL := Lib.hid hcl
  unfold tripV at *
  replace C1 := Lib.hid C1
  clear hs hp hcl
  obtain ⟨Post, hPost⟩ : ∃ Post, TripsR l t asked cl w = Post := ⟨_, rfl⟩
  rw [hPost]
  replace hPost := Lib.hid hPost
  obtain ⟨R, hR⟩ : ∃ z, tripsS l t asked cl = z := ⟨_, rfl⟩
  have HRR := Lib.hid hR
  unfold tripsS at hR
  have HR := Lib.hid hR
  clear hR
  go_enter Try.func43, Try.ntmps43
  go_upto_region 1 with fail
  have T0 := TripAt.new t (.slice Ap t.passages.length capp) w
  have E0 : Ext w (w.alloc (.cells #[.int .i64 t.z0, .int .i64 t.z1, .int .i64 t.z2, .int .i64 t.z3, .int .i64 t.z4, .int .i64 t.z5, .slice Ap t.passages.length capp] 26)) := (Ext.refl w).alloc _
  generalize (w.alloc (.cells #[.int .i64 t.z0, .int .i64 t.z1, .int .i64 t.z2, .int .i64 t.z3, .int .i64 t.z4, .int .i64 t.z5, .slice Ap t.passages.length capp] 26)) = W0 at *
  have HT := Lib.hid T0
  obtain ⟨t0, t1, t2, t3, t4, t5, t6⟩ := T0
  go_wp2_with fail
  refine (C1.out _ E0).mono ?_
  rintro e w1 ⟨hb1, ⟨hne, rfl⟩ | ⟨h0, D, vco, vd, rfl, d0, d1, d2, d3, hC, hRw, hD⟩⟩
  · have hne' : (beginE l t != 0) = true := by simp [hne]
    obtain rfl : R = (0, beginE l t) := by rw [← HR.out, if_neg hne]
    clear t0 t1 t2 t3 t4 t5 t6
    generalize beginE l t = E at *
    go_wp2_with fail
    rw [← hPost.out]
    exact ⟨by rw [HRR.out]; rfl, E0.trans hb1⟩
  · have E1 := E0.trans hb1
    have HR1 := Lib.hid (show (if inB asked 0 1099511627776 = true then (if cl.length = t.passages.length then goT l t cl 0 (asked + noticeS l t) else (0, 17)) else (0, 3)) = R by rw [← HR.out, if_pos h0])
    clear t0 t1 t2 t3 t4 t5
    have s6 := hb1.cell t6
    clear t6
    cases hq : inB asked 0 1099511627776 with
    | false =>
      rw [hq] at C2 HR1
      obtain rfl : R = (0, 3) := HR1.out.symm
      replace C2 := Lib.hid C2
      clear hC hRw HR
      go_wp2_with (go_at_call 57; refine (C2.out _).mono ?_; rintro e w2 ⟨rfl, rfl⟩)
      rw [← hPost.out]
      exact ⟨by rw [HRR.out]; rfl, E1⟩
    | true =>
      rw [hq] at C2
      have hask := inB_iff.1 hq
      have HR2 := Lib.hid (show (if cl.length = t.passages.length then goT l t cl 0 (asked + noticeS l t) else (0, 17)) = R by rw [← HR1.out, if_pos hq])
      replace C2 := Lib.hid C2
      clear hq HR1 HR
      by_cases hln : cl.length = t.passages.length
      · have HR3 := Lib.hid (show goT l t cl 0 (asked + noticeS l t) = R by rw [← HR2.out, if_pos hln])
        have hnb := notice_bd h0
        have hV := valid_of_begin h0
        have hpl24 := hV.plen
        have hS := (hRw.to (R' := RRules) (fun cs x h => h.rules hb1)).sl
        obtain ⟨Ad, capd, rfl, _, _⟩ := hS.shape
        have HS := Lib.hid hS
        have HB := Lib.hid (fun (k : Nat) hk => some_of_begin (l := l) (t := t) (k := k) h0 hk)
        have hw1 := IntWalk.i64_in (asked + noticeS l t) (by omega)
        have hle : ((cl.length : Nat) : Int) = (t.passages.length : Int) := by omega
        generalize noticeS l t = N at *
        clear hC hRw hS h0 hV HR2 d0 d1
        go_upto_region 8 with (go_at_call 57; refine (C2.out _).mono ?_; rintro e w2 ⟨rfl, rfl⟩)
        clear hle
        go_wp2_with fail
        go_loopw [12, 13, 14, 15, 43] (fun f _ _ _ i wr => ∃ (k : Nat) (F : Int), k ≤ cl.length ∧ i = .int .i64 k ∧ f = .int .i64 F ∧ (0 ≤ F ∧ F ≤ 2199023255552) ∧ goT l t (cl.drop k) k F = R ∧ Ext w2 wr) (fun _ _ _ _ i _ => cl.length - (intOf i).toNat)
        case atStart => exact ⟨0, _, by omega, rfl, rfl, by omega, by rw [List.drop_zero]; exact HR3.out, Ext.refl _⟩
        case round =>
          obtain ⟨k, F, hk, rfl, rfl, hF, hg, hE⟩ := hrel
          obtain ⟨wA, hwA⟩ : ∃ z : World, z = wr := ⟨_, rfl⟩
          subst hwA
          have HG := Lib.hid hg
          clear hg
          by_cases hlt : k < cl.length
          · obtain ⟨c, hc⟩ := some_of_lt hlt
            obtain ⟨cb, co, ccs, rfl, _, ⟨vt, rfl, hct⟩, hcc⟩ := (HCL.out.ext RCross.stable (E1.trans hE)).at hc
            obtain ⟨At, ct, rfl, lt, lt2⟩ := hct.shape
            have HCT := Lib.hid hct
            have k0 := hcc 0 _ rfl
            have k1 := hcc 1 _ rfl
            simp only [Nat.add_zero] at k0
            have i1 : (0 : Int) ≤ (k : Int) := by omega
            have i2 : (k : Int) < (cl.length : Int) := by omega
            have HX := Lib.hid hc
            have X1 := Lib.hid (fun w' (h : Ext wA w') => crossing_c c _ w' (hct.ext RCount.stable h))
            have q3 := hE.cell d3
            have q2 := hE.cell d2
            clear hcc hc hct
            go_upto_region 12 with fail
            have e1 : Ext wA (wA.alloc (.cells #[.int .i64 c.start, .slice At c.things.length ct] 83)) := (Ext.refl _).alloc _
            have c0 : (wA.alloc (.cells #[.int .i64 c.start, .slice At c.things.length ct] 83)).cell? ⟨wA.heap.size, 0, none⟩ = some (.int .i64 c.start) := World.cell?_alloc_new _ _ _ _
            have c1 : (wA.alloc (.cells #[.int .i64 c.start, .slice At c.things.length ct] 83)).cell? ⟨wA.heap.size, 1, none⟩ = some (.slice At c.things.length ct) := World.cell?_alloc_new _ _ _ _
            generalize wA.alloc (.cells #[.int .i64 c.start, .slice At c.things.length ct] 83) = WB at *
            clear k0 k1
            by_cases hce : crossE c = 0
            · have hst := crossE_zero hce
              rw [hce] at X1
              go_upto_region 13 with (go_at_call 73; refine (X1.out _ e1).mono ?_; rintro e w3 ⟨rfl, hb3⟩)
              have E3 : Ext wA w3 := e1.trans hb3
              replace c0 := hb3.cell c0
              replace c1 := hb3.cell c1
              replace q3 := E3.cell q3
              clear e1 hb3 X1 q2
              by_cases hla : c.start < F
              · obtain rfl : R = ((k : Int), 22) := by
                  have h := goT_no HX.out HG.out (by rw [stepE_late hce hla]; decide)
                  rw [stepE_late hce hla] at h
                  exact h
                go_wp2_with fail
                rw [← hPost.out]
                exact ⟨by rw [HRR.out]; rfl, E1.trans (hE.trans E3)⟩
              · have hkp : k < t.passages.length := by omega
                have hrow := desk_row (l := l) hkp
                have hso := HB.out k hkp
                have hPO := passOk hso
                obtain ⟨b, off, rcs, rfl, _, ⟨vl, vn, rfl, hr1, hr2⟩, hrc⟩ := (HS.out.ext RRules.stable (hE.trans E3)).at hrow
                simp only at hr1 hr2 hrc
                have m0 := hrc 0 _ rfl
                have m1 := hrc 1 _ rfl
                have m2 := hrc 2 _ rfl
                simp only [Nat.add_zero] at m0
                have hmm1 := hPO.min1
                have hmm2 := hPO.min2
                obtain ⟨n, hn⟩ : ∃ n : Nat, minAt t (k : Int) = (n : Int) := ⟨(minAt t (k : Int)).toNat, by omega⟩
                have HBL := Lib.hid (show brokenL l t (k : Int) c = chosenL (numsAt l t (k : Int)) (breakK (rsAt l t (k : Int)) n c) by unfold brokenL; rw [hn]; rfl)
                have C4 := fun w' (h : Ext w3 w') => broken_c b (off + k * 3) n vl vn (.slice At c.things.length ct) (rsAt l t (k : Int)) (numsAt l t (k : Int)) c w' (hr1.ext RRule.stable h) (hr2.ext RInt.stable h) hPO.rules (HCT.out.ext RCount.stable (E3.trans h)) (h.cell m0) (h.cell m1) (by rw [hn] at m2; exact h.cell m2) hst.1 hst.2 (by omega) hPO.len hPO.nums
                rw [← HBL.out] at C4
                have HM := Lib.hid hn
                rw [hn] at m2 hmm1 hmm2
                have hpk : (k : Int) < (t.passages.length : Int) := by omega
                rw [hdlen] at q3
                generalize hBL : brokenL l t (k : Int) c = BL at *
                have HBE := Lib.hid hBL
                replace C4 := Lib.hid C4
                clear hrc hr1 hr2 hPO hso hrow hn m0 m1 hBL HBL
                go_upto_region 17 with fail
                go_region_held3 (fun w' => w'.cell? ⟨D, 3, none⟩ = some (.slice (some ⟨b, off, none⟩) t.passages.length capd) ∧ w'.cell? ⟨wA.heap.size, 0, none⟩ = some (.int .i64 c.start) ∧ w'.cell? ⟨wA.heap.size, 1, none⟩ = some (.slice At c.things.length ct)) (refine ⟨?_, ?_, ?_⟩ <;> (repeat' (with_reducible (first | assumption | refine Ext.cell hb7 ?_ | refine Ext.cell (Ext.refl _).drew ?_)))) ((go_at_call 74; (with_reducible refine (C4.out _ (by (repeat' (first | exact Ext.refl _ | assumption | refine Ext.alloc ?_ _ | refine Ext.drew ?_ | refine Ext.drewN ?_ _ | refine Ext.set ?_ (by first | exact Nat.le_refl _ | exact le1 _ | exact le2 _ | exact le3 _ | exact le4 _ | exact le5 _ | exact le6 _) _ | refine Ext.trans ?_ (by assumption))))).mono ?_); rintro e w7 ⟨⟨v7, rfl, ho7⟩, hb7⟩; obtain ⟨A7, cap7, rfl, _, _⟩ := ho7.sl.shape))
                have E7 : Ext w3 w7 := by (repeat' (first | exact Ext.refl _ | assumption | refine Ext.alloc ?_ _ | refine Ext.drew ?_ | refine Ext.drewN ?_ _ | refine Ext.set ?_ (by first | exact Nat.le_refl _ | exact le1 _ | exact le2 _ | exact le3 _ | exact le4 _ | exact le5 _ | exact le6 _) _ | refine Ext.trans ?_ (by assumption)))
                clear ho7
                by_cases hbl : BL.length = 0
                · have hst2 := stepE_ok (l := l) (t := t) (k := k) hce (Int.not_lt.2 hla) (by rw [HBE.out]; exact hbl)
                  have HGN := Lib.hid (goT_go HX.out HG.out hst2)
                  rw [HM.out] at HGN
                  have hb0 : ¬ (0 : Int) < (BL.length : Int) := by omega
                  have r0 := E7.cell c0
                  have r3 := E7.cell q3
                  have r2 := E7.cell m2
                  have hw2 := IntWalk.i64_in (c.start + (n : Int)) (by omega)
                  have hmax : max F (c.start + (n : Int)) = c.start + (n : Int) := by omega
                  have hmr : ∀ W, (Builtin.max_ #[2, 2] 2 #[.int .i64 F, .int .i64 (c.start + (n : Int))]).run Try.prog W = .ok (.int .i64 (c.start + (n : Int))) W := fun W => by rw [hmx, hmax]
                  clear c0 c1 q3 m2 hmx hst2 hmax
                  go_wp2_with fail
                  go_region
                  go_wp2_with fail
                  go_roundw
                  case rel => exact ⟨k + 1, _, by omega, by go_num, rfl, by omega, HGN.out, hE.trans (E3.trans (E7.drewN _))⟩
                  case measure => simp [intOf]; omega
                · have hbp : (0 : Int) < (BL.length : Int) := by omega
                  have hst2 := stepE_rule (l := l) (t := t) (k := k) hce (Int.not_lt.2 hla) (by rw [HBE.out]; exact hbl)
                  obtain rfl : R = ((k : Int), 21) := by
                    have h := goT_no HX.out HG.out (by rw [hst2]; decide)
                    rw [hst2] at h
                    exact h
                  go_wp2_with fail
                  rw [← hPost.out]
                  exact ⟨by rw [HRR.out]; rfl, E1.trans (hE.trans (E3.trans E7))⟩
            · have hst := stepE_cross (l := l) (t := t) (k := k) (F := F) hce
              have hce' : (crossE c != 0) = true := by simp [hce]
              obtain rfl : R = ((k : Int), crossE c) := by
                have h := goT_no HX.out HG.out (by rw [hst]; exact hce)
                rw [hst] at h
                exact h
              clear hst
              generalize crossE c = E at *
              go_wp2_with (go_at_call 73; refine (X1.out _ e1).mono ?_; rintro e w3 ⟨rfl, hb3⟩)
              rw [← hPost.out]
              exact ⟨by rw [HRR.out]; rfl, E1.trans (hE.trans (e1.trans hb3))⟩
          · obtain rfl : k = cl.length := by omega
            obtain rfl := goT_end HG.out
            go_wp2_with fail
            rw [← hPost.out]
            exact ⟨by rw [HRR.out, hln]; rfl, E1.trans hE⟩
      · have hle : ¬ ((cl.length : Nat) : Int) = (t.passages.length : Int) := by omega
        obtain rfl : R = (0, 17) := by rw [← HR2.out, if_neg hln]
        clear hC hRw HR2 d0 d1
        go_wp2_with (go_at_call 57; refine (C2.out _).mono ?_; rintro e w2 ⟨rfl, rfl⟩)
        rw [← hPost.out]
        exact ⟨by rw [HRR.out]; rfl, E1⟩
end Go.Proofs.Ytaomlmkcifpfkaa
