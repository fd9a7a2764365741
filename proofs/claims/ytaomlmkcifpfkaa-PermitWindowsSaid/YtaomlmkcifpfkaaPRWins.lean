/- Contract: Windows, the definition. -/
import Derived.Test.YtaomlmkcifpfkaaPRNext
import Derived.Test.YtaomlmkcifpfkaaPThings
namespace Go.Proofs.Ytaomlmkcifpfkaa
open Go.RowKit Go.Shelf Go.Maps
attribute [local go_sem ↓] Go.wp_at_zero Go.wp_at_succ

def RWin (_ : World) (cs : List Value) (x : Int × Int) : Prop := cs = [.int .i64 x.1, .int .i64 x.2]
theorem RWin.stable : Stable RWin := fun _ _ _ _ _ h => h
theorem infoWin : (Try.prog.info? 76).map (fun i => (i.zero, i.size, i.bytes)) = some (some (.agg #[.int .i64 0, .int .i64 0]), 2, 16) := by kernel_rfl
theorem sl_nil' {α : Type} {n : Nat} {R : World → List Value → α → Prop} {w : World} : Sl n R w (.slice none 0 0) [] := ⟨none, 0, rfl, by simp, by simp, fun i x h => by simp at h⟩
/-- the windows of a passage -/
def winsAt (l : List PAuth) (t : PTrip) (k fr to' : Int) : List (Int × Int) := winsR (allowedB (rsAt l t k)) (minAt t k) (to' - fr).toNat fr fr
def windowsS (l : List PAuth) (t : PTrip) (k fr to' : Int) : List (Int × Int) × Int :=
  if someE l t k = 0 then (if inB fr 0 1099511627776 = true ∧ inB to' 0 1099511627776 = true then (if fr < to' ∧ to' - fr ≤ 14400 then (if (winsAt l t k fr to').length ≤ 32 then (winsAt l t k fr to', 0) else ([], 6)) else ([], 2)) else ([], 3)) else ([], someE l t k)
section
variable {l : List PAuth} {t : PTrip} {k fr to' : Int}
theorem windowsS_bad (h : someE l t k ≠ 0) : windowsS l t k fr to' = ([], someE l t k) := by unfold windowsS; rw [if_neg h]
theorem windowsS_range (h : someE l t k = 0) (h2 : ¬ (inB fr 0 1099511627776 = true ∧ inB to' 0 1099511627776 = true)) : windowsS l t k fr to' = ([], 3) := by unfold windowsS; rw [if_pos h, if_neg h2]
theorem windowsS_arg (h : someE l t k = 0) (h2 : inB fr 0 1099511627776 = true ∧ inB to' 0 1099511627776 = true) (h3 : ¬ (fr < to' ∧ to' - fr ≤ 14400)) : windowsS l t k fr to' = ([], 2) := by unfold windowsS; rw [if_pos h, if_pos h2, if_neg h3]
theorem windowsS_many (h : someE l t k = 0) (h2 : inB fr 0 1099511627776 = true ∧ inB to' 0 1099511627776 = true) (h3 : fr < to' ∧ to' - fr ≤ 14400) (h4 : ¬ (winsAt l t k fr to').length ≤ 32) : windowsS l t k fr to' = ([], 6) := by unfold windowsS; rw [if_pos h, if_pos h2, if_pos h3, if_neg h4]
theorem windowsS_ok (h : someE l t k = 0) (h2 : inB fr 0 1099511627776 = true ∧ inB to' 0 1099511627776 = true) (h3 : fr < to' ∧ to' - fr ≤ 14400) (h4 : (winsAt l t k fr to').length ≤ 32) : windowsS l t k fr to' = (winsAt l t k fr to', 0) := by unfold windowsS; rw [if_pos h, if_pos h2, if_pos h3, if_pos h4]
end
theorem wr_yes {al : Int → Bool} {d m sv T : Int} {pre R : List (Int × Int)} (hlt : m < T) (ha : al m = true) (h : pre ++ winsR al d (T - m).toNat m sv = R) : pre ++ winsR al d (T - (m + 1)).toNat (m + 1) sv = R := by
  rw [show (T - m).toNat = (T - (m + 1)).toNat + 1 by omega] at h
  simp only [winsR, ha, if_true] at h
  exact h
theorem wr_no {al : Int → Bool} {d m sv T : Int} {pre R : List (Int × Int)} (hlt : m < T) (ha : al m = false) (h : pre ++ winsR al d (T - m).toNat m sv = R) : (pre ++ if d ≤ m - sv then [(sv, m)] else []) ++ winsR al d (T - (m + 1)).toNat (m + 1) (m + 1) = R := by
  rw [show (T - m).toNat = (T - (m + 1)).toNat + 1 by omega] at h
  simp only [winsR, ha, Bool.false_eq_true, if_false] at h
  rw [List.append_assoc]
  exact h
theorem wr_end {al : Int → Bool} {d m sv T : Int} {pre R : List (Int × Int)} (he : m = T) (h : pre ++ winsR al d (T - m).toNat m sv = R) : (pre ++ if d ≤ m - sv then [(sv, m)] else []) = R := by
  subst he
  rw [show (m - m).toNat = 0 by omega] at h
  exact h
def WinR (l : List PAuth) (t : PTrip) (k fr to' : Int) (w : World) (e : Ending) (w' : World) : Prop := Ext w w' ∧ ∃ v, e = .returned (.tuple #[v, .int .i64 (windowsS l t k fr to').2]) ∧ Sl 2 RWin w' v (windowsS l t k fr to').1

set_option maxRecDepth 100000 in
set_option maxHeartbeats 3200000 in
theorem RWindows_c (v vp : Value) (l : List PAuth) (t : PTrip) (k fr to' : Int) (w : World) (hs : Sl 4 RAuth w v l) (hp : Sl 3 RPass w vp t.passages) :
    Calls Try.prog 39 #[v, tripV t vp, .int .i64 k, .int .i64 fr, .int .i64 to'] w (WinR l t k fr to' w) := by
  have C1 := fun w' (h : Ext w w') => some_c v vp l t k w' (hs.ext RAuth.stable h) (hp.ext RPass.stable h)
  have C2 := fun w' (h : Ext w w') h0 => ofAt_c v vp l t k w' (hs.ext RAuth.stable h) (hp.ext RPass.stable h) h0
  have C3 := fun w' => within_c fr 0 1099511627776 w'
  have C3' := fun w' => within_c to' 0 1099511627776 w'
  obtain ⟨A, cap, rfl, hl, hcap⟩ := hs.shape
  obtain ⟨Ap, capp, rfl, hpl, hpcap⟩ := hp.shape
  obtain ⟨i1, hi1, hi10, hi11, hi12⟩ := info_parts infoWin
  unfold tripV at *
  have HP := Lib.hid hp
  replace C1 := Lib.hid C1
  replace C2 := Lib.hid C2
  clear hs hp
  obtain ⟨Post, hPost⟩ : ∃ Post, WinR l t k fr to' w = Post := ⟨_, rfl⟩
  rw [hPost]
  replace hPost := Lib.hid hPost
  by_cases hne : someE l t k = 0
  · have hPO := passOk hne
    rw [hne] at C1
    have C2' := fun w' h => C2.out w' h hne
    replace C2' := Lib.hid C2'
    cases hm : inB fr 0 1099511627776
    · have HA := Lib.hid (windowsS_range (fr := fr) (to' := to') hne (by rw [hm]; simp))
      rw [hm] at C3
      replace C3 := Lib.hid C3
      clear hm hne hPO C2 C3'
      go_enter Try.func39, Try.ntmps39
      go_wp2_with (first | (go_at_call 70; refine (C1.out _ (by (repeat' (first | exact Ext.refl _ | assumption | refine Ext.alloc ?_ _ | refine Ext.drew ?_ | refine Ext.drewN ?_ _ | refine Ext.set ?_ (by first | exact Nat.le_refl _ | exact le1 _ | exact le2 _ | exact le3 _ | exact le4 _ | exact le5 _ | exact le6 _) _ | refine Ext.trans ?_ (by assumption))))).mono ?_; rintro e w1 ⟨rfl, hb1⟩) | (go_at_call 54; refine (C3.out _).mono ?_; rintro e w2 ⟨rfl, rfl⟩))
      rw [← hPost.out]
      exact ⟨by (repeat' (first | exact Ext.refl _ | assumption | refine Ext.alloc ?_ _ | refine Ext.drew ?_ | refine Ext.drewN ?_ _ | refine Ext.set ?_ (by first | exact Nat.le_refl _ | exact le1 _ | exact le2 _ | exact le3 _ | exact le4 _ | exact le5 _ | exact le6 _) _ | refine Ext.trans ?_ (by assumption))), _, by rw [HA.out]; rfl, by rw [HA.out]; exact sl_nil'⟩
    · cases hm' : inB to' 0 1099511627776
      · have HA := Lib.hid (windowsS_range (fr := fr) (to' := to') hne (by rw [hm']; simp))
        rw [hm] at C3
        rw [hm'] at C3'
        have hff : ¬ fr = to' := by rintro rfl; rw [hm] at hm'; cases hm'
        replace C3 := Lib.hid C3
        replace C3' := Lib.hid C3'
        clear hm hm' hne hPO C2
        go_enter Try.func39, Try.ntmps39
        go_wp2_with (first | (go_at_call 70; refine (C1.out _ (by (repeat' (first | exact Ext.refl _ | assumption | refine Ext.alloc ?_ _ | refine Ext.drew ?_ | refine Ext.drewN ?_ _ | refine Ext.set ?_ (by first | exact Nat.le_refl _ | exact le1 _ | exact le2 _ | exact le3 _ | exact le4 _ | exact le5 _ | exact le6 _) _ | refine Ext.trans ?_ (by assumption))))).mono ?_; rintro e w1 ⟨rfl, hb1⟩) | (go_at_call 54; refine (C3.out _).mono ?_; rintro e w2 ⟨rfl, rfl⟩; clear C3) | (go_at_call 54; refine (C3'.out _).mono ?_; rintro e w2 ⟨rfl, rfl⟩))
        rw [← hPost.out]
        exact ⟨by (repeat' (first | exact Ext.refl _ | assumption | refine Ext.alloc ?_ _ | refine Ext.drew ?_ | refine Ext.drewN ?_ _ | refine Ext.set ?_ (by first | exact Nat.le_refl _ | exact le1 _ | exact le2 _ | exact le3 _ | exact le4 _ | exact le5 _ | exact le6 _) _ | refine Ext.trans ?_ (by assumption))), _, by rw [HA.out]; rfl, by rw [HA.out]; exact sl_nil'⟩
      · have hmm : inB fr 0 1099511627776 = true ∧ inB to' 0 1099511627776 = true := ⟨hm, hm'⟩
        have hfr := inB_iff.1 hm
        have hto := inB_iff.1 hm'
        rw [hm] at C3
        rw [hm'] at C3'
        replace C3 := Lib.hid C3
        replace C3' := Lib.hid C3'
        obtain ⟨m1, m2⟩ := hfr
        obtain ⟨m3, m4⟩ := hto
        clear hm hm' C2
        by_cases hft : fr < to' ∧ to' - fr ≤ 14400
        · obtain ⟨n, rfl⟩ : ∃ n : Nat, k = (n : Int) := ⟨k.toNat, by have := hPO.nat; omega⟩
          obtain ⟨p, hpn, hpm⟩ := pass_at hPO
          have hd1 := hPO.min1
          have hd2 := hPO.min2
          have hwa : winsAt l t n fr to' = winsR (allowedB (rsAt l t n)) (minAt t n) (to' - fr).toNat fr fr := rfl
          have hmany := fun h4 => windowsS_many (k := (n : Int)) hne hmm hft h4
          have hok := fun h4 => windowsS_ok (k := (n : Int)) hne hmm hft h4
          have C4 := fun m (hm0 : 0 ≤ m) (hm9 : m ≤ 9223372036854775807) v' w' (h : Sl 11 RRule w' v' (rsAt l t n)) => RAllowed_c v' (rsAt l t n) m w' h hPO.rules hm0 hm9
          have i1n : (0 : Int) ≤ (n : Int) := by omega
          have i2n : (n : Int) < (t.passages.length : Int) := hPO.lt
          obtain ⟨R, hR⟩ : ∃ R, winsAt l t n fr to' = R := ⟨_, rfl⟩
          rw [hR] at hwa hmany hok
          generalize minAt t n = d at *
          have HR := Lib.hid hwa.symm
          have HPN := Lib.hid (And.intro hpn hpm)
          have HMO := Lib.hid (And.intro hmany hok)
          obtain ⟨f1, f2⟩ := hft
          replace C4 := Lib.hid C4
          clear hne hPO hwa hR hpn hpm hmany hok hmm
          go_enter Try.func39, Try.ntmps39
          go_upto_region 7 with (first | (go_at_call 70; refine (C1.out _ (by (repeat' (first | exact Ext.refl _ | assumption | refine Ext.alloc ?_ _ | refine Ext.drew ?_ | refine Ext.drewN ?_ _ | refine Ext.set ?_ (by first | exact Nat.le_refl _ | exact le1 _ | exact le2 _ | exact le3 _ | exact le4 _ | exact le5 _ | exact le6 _) _ | refine Ext.trans ?_ (by assumption))))).mono ?_; rintro e w1 ⟨rfl, hb1⟩) | (go_at_call 54; refine (C3.out _).mono ?_; rintro e w2 ⟨rfl, rfl⟩; clear C3) | (go_at_call 54; refine (C3'.out _).mono ?_; rintro e w2 ⟨rfl, rfl⟩))
          have E1 : Ext w w1 := by (repeat' (first | exact Ext.refl _ | assumption | refine Ext.alloc ?_ _ | refine Ext.drew ?_ | refine Ext.drewN ?_ _ | refine Ext.set ?_ (by first | exact Nat.le_refl _ | exact le1 _ | exact le2 _ | exact le3 _ | exact le4 _ | exact le5 _ | exact le6 _) _ | refine Ext.trans ?_ (by assumption)))
          have T1 := (TripAt.new t (.slice Ap t.passages.length capp) w).ext hb1
          have HT1 := Lib.hid T1
          obtain ⟨t0, t1, t2, t3, t4, t5, t6⟩ := T1
          go_upto_region 11 with (go_at_call 23; refine (C2'.out _ E1).mono ?_; rintro e w3 ⟨⟨vn, vr, rfl, hn, hr⟩, hb3⟩; obtain ⟨An, capn, rfl, _, _⟩ := hn.shape; obtain ⟨Ar, capr, rfl, _, _⟩ := hr.shape)
          have E3 := E1.trans hb3
          have HRS := Lib.hid hr
          have HT3 := Lib.hid (HT1.out.ext hb3)
          clear hn hr t0 t1 t2 t3 t4 t5 t6
          go_loopw [14, 15, 16] (fun o s i wr => ∃ (m sv : Int) (pre : List (Int × Int)) (vo : Value), s = .int .i64 sv ∧ i = .int .i64 m ∧ o = vo ∧ fr ≤ sv ∧ sv ≤ m ∧ m ≤ to' + 1 ∧ (m ≤ to' → pre ++ winsR (allowedB (rsAt l t n)) d (to' - m).toNat m sv = R) ∧ (m = to' + 1 → pre = R) ∧ OwnL 2 76 RWin w3.heap.size wr vo pre ∧ (pre.length : Int) ≤ m - fr ∧ Ext w3 wr) (fun _ _ i _ => (to' + 1 - intOf i).toNat)
          case atStart => exact ⟨fr, fr, [], _, rfl, rfl, rfl, by omega, by omega, by omega, fun _ => HR.out, fun h => by omega, OwnL.nil, by simp, Ext.refl _⟩
          case round =>
            obtain ⟨m, sv, pre, vo, rfl, rfl, rfl, hs1, hs2, hs3, hq1, hq2, hown, hpl2, hE⟩ := hrel
            have HQ1 := Lib.hid hq1
            have HQ2 := Lib.hid hq2
            have HO := Lib.hid hown
            have E4 := E3.trans hE
            clear hq1 hq2 hown
            by_cases hend : m = to' + 1
            · have hpR := HQ2.out hend
              subst hend
              obtain ⟨Ao, co, hoeq, _, _⟩ := HO.out.sl.shape
              subst hoeq
              have hgt : to' < to' + 1 := by omega
              by_cases h32 : R.length ≤ 32
              · have HA := Lib.hid (HMO.out.2 h32)
                rw [hpR] at HO
                have h32' : (R.length : Int) ≤ 32 := by omega
                rw [hpR]
                go_wp2_with fail
                rw [← hPost.out]
                exact ⟨E4, _, by rw [HA.out], by rw [HA.out]; exact HO.out.sl⟩
              · have HA := Lib.hid (HMO.out.1 h32)
                rw [hpR]
                have h32' : (32 : Int) < (R.length : Int) := by omega
                go_wp2_with fail
                rw [← hPost.out]
                exact ⟨E4, _, by rw [HA.out], by rw [HA.out]; exact sl_nil'⟩
            · have hmt : m ≤ to' := by omega
              have C5 := fun w' (h : Ext wr w') => C4.out m (by omega) (by omega) _ w' (HRS.out.ext RRule.stable (hE.trans h))
              have T4 := HT3.out.ext hE
              obtain ⟨t0, t1, t2, t3, t4, t5, t6⟩ := T4
              obtain ⟨pb, poff, pcs, rfl, _, hpr, hpc⟩ := (HP.out.ext RPass.stable E4).at HPN.out.1
              obtain rfl : pcs = [.string p.auth, .string p.road, .int .i64 p.minutes] := hpr
              have c2 := hpc 2 _ rfl
              rw [HPN.out.2] at c2
              clear hpc
              by_cases hlt : m < to'
              · cases hal : allowedB (rsAt l t n) m
                · have hX := wr_no hlt hal (HQ1.out hmt)
                  rw [hal] at C5
                  replace C5 := Lib.hid C5
                  clear hal
                  by_cases hd : d ≤ m - sv
                  · rw [if_pos hd] at hX
                    have HX := Lib.hid hX
                    clear hX
                    go_upto_region 15 with (go_at_call 72; refine (C5.out _ (by (repeat' (first | exact Ext.refl _ | assumption | refine Ext.alloc ?_ _ | refine Ext.drew ?_ | refine Ext.drewN ?_ _ | refine Ext.set ?_ (by first | exact Nat.le_refl _ | exact le1 _ | exact le2 _ | exact le3 _ | exact le4 _ | exact le5 _ | exact le6 _) _ | refine Ext.trans ?_ (by assumption))))).mono ?_; rintro e w4 ⟨rfl, hb4⟩; have t6' := hb4.cell t6; have c2' := hb4.cell c2)
                    obtain ⟨css, hcs, hown, hcx⟩ := (HO.out.ext RWin.stable (hb4 : Ext wr w4))
                    have HCX := Lib.hid hcx
                    have hzw : w3.heap.size ≤ w4.heap.size := Ext.sz (hE.trans hb4)
                    clear hcx
                    go_wp2_with (at_builtin; refine wpList_append_lies _ rfl _ _ 72 rfl (w3.heap.size) 76 i1 _ 2 16 Try.underlying72 hi1 hi10 hi11 hi12 rfl (by omega) (u14) (pre.length) (css).flatten rfl ((hown).alloc _) ⟨w4.heap.size, 0, none⟩ 1 1 [.int .i64 sv, .int .i64 m] rfl rfl (World.news_of_block (cs := #[.int .i64 sv, .int .i64 m]) (t := 76) (fr := (0, 0)) (heap_alloc_new w4 _)) (by simp [Value.oneCell']) (by omega) (by unfold maxLen; omega) (by omega) (by simp; omega) (w4.heap.size + 1) (by simp) ?_; intro g cap4 w9 hown4 hgrow4 hat4 hlt4)
                    have E6 : Ext w3 w9 := Ext.grown ((hE.trans hb4 : Ext w3 w4).alloc _) hgrow4 (fun j hj => own_ge hown j hj)
                    have hO4 := OwnL.snoc (R := RWin) (w' := w9) (x := (sv, m)) hcs HCX.out hown4 rfl rfl
                    have HO4 := Lib.hid hO4
                    clear hO4 hown hown4 hgrow4 hat4 hlt4 hcs HCX
                    go_roundw
                    case rel => exact ⟨m + 1, m + 1, _, _, rfl, rfl, rfl, by omega, by omega, by omega, fun _ => HX.out, fun h => by omega, HO4.out, by simp only [List.length_append, List.length_cons, List.length_nil]; omega, E6⟩
                    case measure => simp [intOf]; omega
                  · rw [if_neg hd, List.append_nil] at hX
                    have HX := Lib.hid hX
                    clear hX
                    go_wp2_with (go_at_call 72; refine (C5.out _ (by (repeat' (first | exact Ext.refl _ | assumption | refine Ext.alloc ?_ _ | refine Ext.drew ?_ | refine Ext.drewN ?_ _ | refine Ext.set ?_ (by first | exact Nat.le_refl _ | exact le1 _ | exact le2 _ | exact le3 _ | exact le4 _ | exact le5 _ | exact le6 _) _ | refine Ext.trans ?_ (by assumption))))).mono ?_; rintro e w4 ⟨rfl, hb4⟩; have t6' := hb4.cell t6; have c2' := hb4.cell c2)
                    go_roundw
                    case rel => exact ⟨m + 1, m + 1, _, _, rfl, rfl, rfl, by omega, by omega, by omega, fun _ => HX.out, fun h => by omega, HO.out.ext RWin.stable hb4, by omega, hE.trans hb4⟩
                    case measure => simp [intOf]; omega
                · have hX := wr_yes hlt hal (HQ1.out hmt)
                  have HX := Lib.hid hX
                  rw [hal] at C5
                  replace C5 := Lib.hid C5
                  clear hal hX
                  go_wp2_with (go_at_call 72; refine (C5.out _ (by (repeat' (first | exact Ext.refl _ | assumption | refine Ext.alloc ?_ _ | refine Ext.drew ?_ | refine Ext.drewN ?_ _ | refine Ext.set ?_ (by first | exact Nat.le_refl _ | exact le1 _ | exact le2 _ | exact le3 _ | exact le4 _ | exact le5 _ | exact le6 _) _ | refine Ext.trans ?_ (by assumption))))).mono ?_; rintro e w4 ⟨rfl, hb4⟩; have t6' := hb4.cell t6; have c2' := hb4.cell c2)
                  go_roundw
                  case rel => exact ⟨m + 1, sv, _, _, rfl, rfl, rfl, by omega, by omega, by omega, fun _ => HX.out, fun h => by omega, HO.out.ext RWin.stable hb4, by omega, hE.trans hb4⟩
                  case measure => simp [intOf]; omega
              · have hX := wr_end (by omega) (HQ1.out hmt)
                have hme : m = to' := by omega
                subst hme
                clear C5
                by_cases hd : d ≤ m - sv
                · rw [if_pos hd] at hX
                  have HX := Lib.hid hX
                  clear hX
                  go_upto_region 15 with fail
                  obtain ⟨css, hcs, hown, hcx⟩ := (HO.out.ext RWin.stable (Ext.refl _ : Ext wr wr))
                  have HCX := Lib.hid hcx
                  have hzw : w3.heap.size ≤ wr.heap.size := Ext.sz (hE)
                  clear hcx
                  go_wp2_with (at_builtin; refine wpList_append_lies _ rfl _ _ 72 rfl (w3.heap.size) 76 i1 _ 2 16 Try.underlying72 hi1 hi10 hi11 hi12 rfl (by omega) (u14) (pre.length) (css).flatten rfl ((hown).alloc _) ⟨wr.heap.size, 0, none⟩ 1 1 [.int .i64 sv, .int .i64 m] rfl rfl (World.news_of_block (cs := #[.int .i64 sv, .int .i64 m]) (t := 76) (fr := (0, 0)) (heap_alloc_new wr _)) (by simp [Value.oneCell']) (by omega) (by unfold maxLen; omega) (by omega) (by simp; omega) (wr.heap.size + 1) (by simp) ?_; intro g cap4 w9 hown4 hgrow4 hat4 hlt4)
                  have E6 : Ext w3 w9 := Ext.grown ((hE : Ext w3 wr).alloc _) hgrow4 (fun j hj => own_ge hown j hj)
                  have hO4 := OwnL.snoc (R := RWin) (w' := w9) (x := (sv, m)) hcs HCX.out hown4 rfl rfl
                  have HO4 := Lib.hid hO4
                  clear hO4 hown hown4 hgrow4 hat4 hlt4 hcs HCX
                  go_roundw
                  case rel => exact ⟨m + 1, m + 1, _, _, rfl, rfl, rfl, by omega, by omega, by omega, fun h => by omega, fun _ => HX.out, HO4.out, by simp only [List.length_append, List.length_cons, List.length_nil]; omega, E6⟩
                  case measure => simp [intOf]; omega
                · rw [if_neg hd, List.append_nil] at hX
                  have HX := Lib.hid hX
                  clear hX
                  go_wp2_with fail
                  go_roundw
                  case rel => exact ⟨m + 1, m + 1, _, _, rfl, rfl, rfl, by omega, by omega, by omega, fun h => by omega, fun _ => HX.out, HO.out, by omega, hE⟩
                  case measure => simp [intOf]; omega
        · have HA := Lib.hid (windowsS_arg (k := k) hne hmm hft)
          clear hne hPO hmm
          by_cases hge : to' ≤ fr
          · clear hft
            go_enter Try.func39, Try.ntmps39
            go_wp2_with (first | (go_at_call 70; refine (C1.out _ (by (repeat' (first | exact Ext.refl _ | assumption | refine Ext.alloc ?_ _ | refine Ext.drew ?_ | refine Ext.drewN ?_ _ | refine Ext.set ?_ (by first | exact Nat.le_refl _ | exact le1 _ | exact le2 _ | exact le3 _ | exact le4 _ | exact le5 _ | exact le6 _) _ | refine Ext.trans ?_ (by assumption))))).mono ?_; rintro e w1 ⟨rfl, hb1⟩) | (go_at_call 54; refine (C3.out _).mono ?_; rintro e w2 ⟨rfl, rfl⟩; clear C3) | (go_at_call 54; refine (C3'.out _).mono ?_; rintro e w2 ⟨rfl, rfl⟩))
            rw [← hPost.out]
            exact ⟨by (repeat' (first | exact Ext.refl _ | assumption | refine Ext.alloc ?_ _ | refine Ext.drew ?_ | refine Ext.drewN ?_ _ | refine Ext.set ?_ (by first | exact Nat.le_refl _ | exact le1 _ | exact le2 _ | exact le3 _ | exact le4 _ | exact le5 _ | exact le6 _) _ | refine Ext.trans ?_ (by assumption))), _, by rw [HA.out]; rfl, by rw [HA.out]; exact sl_nil'⟩
          · have hfar : 14400 < to' - fr := by omega
            clear hft
            go_enter Try.func39, Try.ntmps39
            go_wp2_with (first | (go_at_call 70; refine (C1.out _ (by (repeat' (first | exact Ext.refl _ | assumption | refine Ext.alloc ?_ _ | refine Ext.drew ?_ | refine Ext.drewN ?_ _ | refine Ext.set ?_ (by first | exact Nat.le_refl _ | exact le1 _ | exact le2 _ | exact le3 _ | exact le4 _ | exact le5 _ | exact le6 _) _ | refine Ext.trans ?_ (by assumption))))).mono ?_; rintro e w1 ⟨rfl, hb1⟩) | (go_at_call 54; refine (C3.out _).mono ?_; rintro e w2 ⟨rfl, rfl⟩; clear C3) | (go_at_call 54; refine (C3'.out _).mono ?_; rintro e w2 ⟨rfl, rfl⟩))
            rw [← hPost.out]
            exact ⟨by (repeat' (first | exact Ext.refl _ | assumption | refine Ext.alloc ?_ _ | refine Ext.drew ?_ | refine Ext.drewN ?_ _ | refine Ext.set ?_ (by first | exact Nat.le_refl _ | exact le1 _ | exact le2 _ | exact le3 _ | exact le4 _ | exact le5 _ | exact le6 _) _ | refine Ext.trans ?_ (by assumption))), _, by rw [HA.out]; rfl, by rw [HA.out]; exact sl_nil'⟩
  · have HA := Lib.hid (windowsS_bad (fr := fr) (to' := to') hne)
    have hne' : (someE l t k != 0) = true := by simp [hne]
    generalize someE l t k = E at *
    clear C2 C3 C3'
    go_enter Try.func39, Try.ntmps39
    go_upto_region 2 with (go_at_call 70; refine (C1.out _ (by (repeat' (first | exact Ext.refl _ | assumption | refine Ext.alloc ?_ _ | refine Ext.drew ?_ | refine Ext.drewN ?_ _ | refine Ext.set ?_ (by first | exact Nat.le_refl _ | exact le1 _ | exact le2 _ | exact le3 _ | exact le4 _ | exact le5 _ | exact le6 _) _ | refine Ext.trans ?_ (by assumption))))).mono ?_; rintro e w1 ⟨rfl, hb1⟩)
    have E1 : Ext w w1 := by (repeat' (first | exact Ext.refl _ | assumption | refine Ext.alloc ?_ _ | refine Ext.drew ?_ | refine Ext.drewN ?_ _ | refine Ext.set ?_ (by first | exact Nat.le_refl _ | exact le1 _ | exact le2 _ | exact le3 _ | exact le4 _ | exact le5 _ | exact le6 _) _ | refine Ext.trans ?_ (by assumption)))
    have T1 := (TripAt.new t (.slice Ap t.passages.length capp) w).ext hb1
    obtain ⟨t0, t1, t2, t3, t4, t5, t6⟩ := T1
    go_wp2_with (go_at_call 70; refine (C1.out _ E1).mono ?_; rintro e w2 ⟨rfl, hb2⟩)
    rw [← hPost.out]
    exact ⟨E1.trans hb2, _, by rw [HA.out]; rfl, by rw [HA.out]; exact sl_nil'⟩
end Go.Proofs.Ytaomlmkcifpfkaa
