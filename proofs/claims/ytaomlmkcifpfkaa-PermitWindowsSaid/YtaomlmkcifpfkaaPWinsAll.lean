/- PWinsAll: several texts in one. -/
import Derived.Test.YtaomlmkcifpfkaaPRNext
import Derived.Test.YtaomlmkcifpfkaaPKnown
import Derived.Test.YtaomlmkcifpfkaaPWins
import Derived.Deep.RegionHeld3
/- Contracts: whether lists are valid, and whether a span is allowed (both of the law's). -/
namespace Go.Proofs.Ytaomlmkcifpfkaa
open Go.RowKit Go.Shelf
attribute [local go_sem ↓] Go.wp_at_zero Go.wp_at_succ

set_option maxRecDepth 100000 in
set_option maxHeartbeats 1600000 in
theorem lawValid_c (v vp : Value) (l : List PAuth) (t : PTrip) (w : World) (hs : Sl 4 RAuth w v l) (hp : Sl 3 RPass w vp t.passages) :
    Calls Try.prog 22 #[v, tripV t vp] w fun e w' => e = .returned (.bool (decide (beginE l t = 0))) ∧ Ext w w' := by
  have C2 := fun w' (h : Ext w w') => RCompile_c v vp l t w' (hs.ext RAuth.stable h) (hp.ext RPass.stable h)
  obtain ⟨A, cap, rfl, hl, hcap⟩ := hs.shape
  obtain ⟨Ap, capp, rfl, hpl, hpcap⟩ := hp.shape
  unfold tripV at *
  generalize beginE l t = E at *
  generalize (compS l t).1 = cl at *
  generalize (compS l t).2.1 = F at *
  generalize (compS l t).2.2 = N at *
  replace C2 := Lib.hid C2
  clear hs hp
  go_enter Try.func22, Try.ntmps22
  go_wp2_with (go_at_call 15; refine (C2.out _ (by (repeat' (first | exact Ext.refl _ | assumption | refine Ext.alloc ?_ _ | refine Ext.drew ?_ | refine Ext.drewN ?_ _ | refine Ext.set ?_ (by first | exact Nat.le_refl _ | exact le1 _ | exact le2 _ | exact le3 _ | exact le4 _ | exact le5 _ | exact le6 _) _ | refine Ext.trans ?_ (by assumption))))).mono ?_; rintro e w4 ⟨vb, rfl, hb, hb4⟩; obtain ⟨Ab, capb, rfl, _, _⟩ := hb.shape)
  go_ret
  exact ⟨rfl, by (repeat' (first | exact Ext.refl _ | assumption | refine Ext.alloc ?_ _ | refine Ext.drew ?_ | refine Ext.drewN ?_ _ | refine Ext.set ?_ (by first | exact Nat.le_refl _ | exact le1 _ | exact le2 _ | exact le3 _ | exact le4 _ | exact le5 _ | exact le6 _) _ | refine Ext.trans ?_ (by assumption)))⟩

/-- allowed all along -/
def freeP (rs : List PRule) (m d : Int) : Prop := ∀ x, m ≤ x → x < m + d → allowedB rs x = true
def FreeR (l : List PRule) (m d : Int) (w : World) (e : Ending) (w' : World) : Prop := (∃ b, e = .returned (.bool b) ∧ (b = true ↔ freeP l m d)) ∧ Ext w w'
theorem freeP_no {rs : List PRule} {m d y : Int} (h1 : m ≤ y) (h2 : y < m + d) (h3 : allowedB rs y = false) : (false = true) ↔ freeP rs m d := by
  constructor
  · intro h; cases h
  · intro h; have := h y h1 h2; rw [h3] at this; cases this

set_option maxRecDepth 100000 in
set_option maxHeartbeats 1600000 in
theorem free_c (v : Value) (l : List PRule) (m d : Int) (w : World) (hs : Sl 11 RRule w v l) (hv : ∀ r ∈ l, ruleB r = true) (h0 : 0 ≤ m) (hm : m ≤ 4398046511104) (hd : 0 ≤ d) (hd2 : d ≤ 100000000) :
    Calls Try.prog 24 #[v, .int .i64 m, .int .i64 d] w (FreeR l m d w) := by
  obtain ⟨A, cap, rfl, hl, hl2⟩ := hs.shape
  have HS := Lib.hid hs
  have HV := Lib.hid hv
  clear hs hv
  have hwx := IntWalk.i64_in (m + d) (by omega)
  go_enter Try.func24, Try.ntmps24
  go_wp2_with fail
  go_loopw [7] (fun i wr => ∃ y : Int, m ≤ y ∧ y ≤ m + d ∧ i = .int .i64 y ∧ (∀ x, m ≤ x → x < y → allowedB l x = true) ∧ Ext w wr) (fun i _ => (m + d - intOf i).toNat)
  case atStart => exact ⟨m, by omega, by omega, rfl, fun x h1 h2 => by omega, Ext.refl _⟩
  case round =>
    obtain ⟨y, hy1, hy2, rfl, ha0, hb0⟩ := hrel
    have HA0 := Lib.hid ha0
    clear ha0
    by_cases hlt0 : y < m + d
    · go_wp2_with fail
      go_loopw [8] (fun i wr => ∃ k : Nat, k ≤ l.length ∧ i = .int .i64 k ∧ (l.take k).all (fun r => allowsB r y) = true ∧ Ext w wr) (fun i _ => l.length - (intOf i).toNat)
      case atStart => exact ⟨0, by omega, rfl, by simp, hb0⟩
      case round =>
        obtain ⟨k, hk, rfl, ha, hb⟩ := hrel
        have HA := Lib.hid ha
        clear ha
        by_cases hlt : k < l.length
        · obtain ⟨x, hx⟩ := some_of_lt hlt
          obtain ⟨b, off, cs, rfl, hn, ⟨vr, vw, vc, rfl, hr⟩, hc⟩ := (HS.out.ext RRule.stable hb).at hx
          have HR := fun w' h => Allows_c vr vw vc x y w' (hr.ext h) (HV.out x (List.mem_of_getElem? hx)) (by omega) (by omega)
          have k0 := hc 0 _ rfl
          have k1 := hc 1 _ rfl
          have k2 := hc 2 _ rfl
          have k3 := hc 3 _ rfl
          have k4 := hc 4 _ rfl
          have k5 := hc 5 _ rfl
          have k6 := hc 6 _ rfl
          have k7 := hc 7 _ rfl
          have k8 := hc 8 _ rfl
          have k9 := hc 9 _ rfl
          have k10 := hc 10 _ rfl
          simp only [Nat.add_zero] at k0
          have HX := Lib.hid hx
          obtain ⟨z, hz⟩ : ∃ z, allowsB x y = z := ⟨_, rfl⟩
          rw [hz] at HR
          have HZ := Lib.hid hz
          replace HR := Lib.hid HR
          clear hc hn hx hz hr
          cases z
          · go_wp2_with (go_at_call 59; refine (HR.out _ (by (repeat' (first | exact Ext.refl _ | assumption | refine Ext.alloc ?_ _ | refine Ext.drew ?_ | refine Ext.drewN ?_ _ | refine Ext.set ?_ (by first | exact Nat.le_refl _ | exact le1 _ | exact le2 _ | exact le3 _ | exact le4 _ | exact le5 _ | exact le6 _) _ | refine Ext.trans ?_ (by assumption))))).mono ?_; rintro e w2 ⟨rfl, hb2⟩)
            go_ret
            exact ⟨⟨_, rfl, freeP_no hy1 hlt0 (all_no HX.out HZ.out)⟩, by (repeat' (first | exact Ext.refl _ | assumption | refine Ext.alloc ?_ _ | refine Ext.drew ?_ | refine Ext.drewN ?_ _ | refine Ext.set ?_ (by first | exact Nat.le_refl _ | exact le1 _ | exact le2 _ | exact le3 _ | exact le4 _ | exact le5 _ | exact le6 _) _ | refine Ext.trans ?_ (by assumption)))⟩
          · go_wp2_with (go_at_call 59; refine (HR.out _ (by (repeat' (first | exact Ext.refl _ | assumption | refine Ext.alloc ?_ _ | refine Ext.drew ?_ | refine Ext.drewN ?_ _ | refine Ext.set ?_ (by first | exact Nat.le_refl _ | exact le1 _ | exact le2 _ | exact le3 _ | exact le4 _ | exact le5 _ | exact le6 _) _ | refine Ext.trans ?_ (by assumption))))).mono ?_; rintro e w2 ⟨rfl, hb2⟩)
            go_roundw
            case rel => exact ⟨k + 1, by omega, by go_num, all_take HX.out HA.out HZ.out, by (repeat' (first | exact Ext.refl _ | assumption | refine Ext.alloc ?_ _ | refine Ext.drew ?_ | refine Ext.drewN ?_ _ | refine Ext.set ?_ (by first | exact Nat.le_refl _ | exact le1 _ | exact le2 _ | exact le3 _ | exact le4 _ | exact le5 _ | exact le6 _) _ | refine Ext.trans ?_ (by assumption)))⟩
            case measure => simp [intOf]; omega
        · have hra : allowedB l y = true := all_end HA.out (by omega)
          go_wp2
          go_roundw
          case rel => exact ⟨y + 1, by omega, by omega, by go_num, fun x h1 h2 => by
            by_cases h : x < y
            · exact HA0.out x h1 h
            · obtain rfl : x = y := by omega
              exact hra, hb⟩
          case measure => simp [intOf]; omega
    · go_wp2_with fail
      go_ret
      exact ⟨⟨_, rfl, ⟨fun _ x h1 h2 => HA0.out x h1 (by omega), fun _ => rfl⟩⟩, hb0⟩
end Go.Proofs.Ytaomlmkcifpfkaa
/- The law PermitWindows, walked. -/
namespace Go.Proofs.Ytaomlmkcifpfkaa
open Go.RowKit Go.Shelf Go.Maps
attribute [local go_sem ↓] Go.wp_at_zero Go.wp_at_succ

theorem windowsS_none {l : List PAuth} {t : PTrip} {k fr to' : Int} (h : (windowsS l t k fr to').2 ≠ 0) : (windowsS l t k fr to').1 = [] := by
  unfold windowsS at *
  split at h
  · rw [if_pos (by assumption)]
    split at h
    · rw [if_pos (by assumption)]
      split at h
      · rw [if_pos (by assumption)]
        split at h
        · exact absurd rfl h
        · rw [if_neg (by assumption)]
      · rw [if_neg (by assumption)]
    · rw [if_neg (by assumption)]
  · rw [if_neg (by assumption)]
theorem windowsS_some {l : List PAuth} {t : PTrip} {k fr to' : Int} (h : (windowsS l t k fr to').2 = 0) : someE l t k = 0 ∧ 0 ≤ fr ∧ fr < to' ∧ to' ≤ fr + 14400 ∧ to' ≤ 1099511627776 ∧ (windowsS l t k fr to').1 = winsAt l t k fr to' := by
  unfold windowsS at *
  split at h
  · rename_i h0
    rw [if_pos h0]
    split at h
    · rename_i h1
      rw [if_pos h1]
      split at h
      · rename_i h2
        rw [if_pos h2]
        split at h
        · rename_i h3
          rw [if_pos h3]
          have a := inB_iff.1 h1.1
          have b := inB_iff.1 h1.2
          exact ⟨h0, a.1, h2.1, by omega, b.2, rfl⟩
        · cases h
      · cases h
    · cases h
  · rename_i h0
    exact absurd h h0
theorem windowsS_spec {l : List PAuth} {t : PTrip} {k fr to' : Int} (h : (windowsS l t k fr to').2 = 0) : okW (allowedB (rsAt l t k)) (minAt t k) fr to' (fr - 1) (windowsS l t k fr to').1 ∧
    ∀ a, fr ≤ a → a + minAt t k ≤ to' → freeP (rsAt l t k) a (minAt t k) → ∃ w ∈ (windowsS l t k fr to').1, w.1 ≤ a ∧ a + minAt t k ≤ w.2 := by
  obtain ⟨h0, h1, h2, h3, h4, h5⟩ := windowsS_some h
  rw [h5]
  have hPO := passOk h0
  refine ⟨winsR_ok _ _ fr to' _ _ _ _ (by omega) (Int.le_refl _) (by omega) (fun x a b => by omega) (fun a => by omega), fun a ha hb hf => ?_⟩
  exact winsR_all _ _ to' a hPO.min1 hb hf _ _ _ (by omega) (Int.le_refl _) ha
theorem some_begin {l : List PAuth} {t : PTrip} {k : Int} (h : someE l t k = 0) : beginE l t = 0 := by
  unfold someE at h
  by_cases h0 : beginE l t = 0
  · exact h0
  · rw [if_neg h0] at h; exact h
theorem freeP_none {rs : List PRule} {m d : Int} {b : Bool} (h : b = true ↔ freeP rs m d) (hn : ¬ freeP rs m d) : b = false := by
  cases b
  · rfl
  · exact absurd (h.1 rfl) hn
theorem freeP_one {rs : List PRule} {m : Int} (h : allowedB rs m = false) : ¬ freeP rs m 1 := fun hf => by
  rw [hf m (Int.le_refl _) (by omega)] at h; cases h
theorem no_take {α : Type} {l : List α} {P : α → Prop} {j : Nat} {x : α} (h : l[j]? = some x) (h1 : ∀ y ∈ l.take j, ¬ P y) (h2 : ¬ P x) : ∀ y ∈ l.take (j + 1), ¬ P y := by
  intro y hy
  rw [List.take_add_one, h] at hy
  rcases List.mem_append.1 hy with hy | hy
  · exact h1 y hy
  · obtain rfl : y = x := by simpa using hy
    exact h2
theorem drop_cons {α : Type} {l : List α} {j : Nat} {x : α} (h : l[j]? = some x) : l.drop j = x :: l.drop (j + 1) := by
  obtain ⟨hl, rfl⟩ := List.getElem?_eq_some_iff.1 h
  exact List.drop_eq_getElem_cons hl

set_option maxRecDepth 100000 in
set_option maxHeartbeats 4000000 in
theorem wins_law {v vp : Value} {l : List PAuth} {t : PTrip} {k fr to' z : Int} (w : World) (hk : -9223372036854775808 ≤ k) (hk2 : k ≤ 9223372036854775807) (hz1 : 0 ≤ z) (hz2 : z ≤ 65535) (hs : Sl 4 RAuth w v l) (hp : Sl 3 RPass w vp t.passages) :
    Calls Try.prog 9 #[v, tripV t vp, .int .i64 k, .int .i64 fr, .int .i64 to', .int .u16 z] w fun e w' => e = .returned (.bool true) ∧ Ext w w' := by
  have G := fun w' (h : Ext w w') => great_c v vp l t w' (hs.ext RAuth.stable h) (hp.ext RPass.stable h)
  have KN := fun w' => known_c w'
  have B1 := fun w' (h : Ext w w') => Windows_c v vp l t k fr to' w' hk hk2 (hs.ext RAuth.stable h) (hp.ext RPass.stable h)
  have V1 := fun w' (h : Ext w w') => lawValid_c v vp l t w' (hs.ext RAuth.stable h) (hp.ext RPass.stable h)
  have O1 := fun w' (h : Ext w w') h0 => ofAt_c v vp l t k w' (hs.ext RAuth.stable h) (hp.ext RPass.stable h) h0
  obtain ⟨A, cap, rfl, hl, hcap⟩ := hs.shape
  obtain ⟨Ap, capp, rfl, hpl, hpcap⟩ := hp.shape
  have HPA := Lib.hid hp
  unfold tripV WinR at *
  have hN0 := windowsS_none (l := l) (t := t) (k := k) (fr := fr) (to' := to')
  have hN1 := windowsS_some (l := l) (t := t) (k := k) (fr := fr) (to' := to')
  have hN2 := windowsS_spec (l := l) (t := t) (k := k) (fr := fr) (to' := to')
  obtain ⟨⟨ws, ne⟩, hn⟩ : ∃ z, windowsS l t k fr to' = z := ⟨_, rfl⟩
  rw [hn] at B1 hN0 hN1 hN2
  simp only at B1 hN0 hN1 hN2
  replace G := Lib.hid G
  replace KN := Lib.hid KN
  replace B1 := Lib.hid B1
  replace V1 := Lib.hid V1
  replace O1 := Lib.hid O1
  clear hs hp hn
  go_enter Try.func9, Try.ntmps9
  go_upto_region 1 with fail
  have T0 := TripAt.new t (.slice Ap t.passages.length capp) w
  have E0 : Ext w (w.alloc (.cells #[.int .i64 t.z0, .int .i64 t.z1, .int .i64 t.z2, .int .i64 t.z3, .int .i64 t.z4, .int .i64 t.z5, .slice Ap t.passages.length capp] 26)) := (Ext.refl w).alloc _
  generalize (w.alloc (.cells #[.int .i64 t.z0, .int .i64 t.z1, .int .i64 t.z2, .int .i64 t.z3, .int .i64 t.z4, .int .i64 t.z5, .slice Ap t.passages.length capp] 26)) = W0 at *
  have HT0 := Lib.hid T0
  obtain ⟨t0, t1, t2, t3, t4, t5, t6⟩ := T0
  go_wp2_with fail
  refine (G.out _ E0).mono ?_
  rintro e w1 ⟨⟨b, rfl⟩, hb1⟩
  have E1 := E0.trans hb1
  have T1 := HT0.out.ext hb1
  clear t0 t1 t2 t3 t4 t5 t6 HT0
  cases b
  · have HT1 := Lib.hid T1
    obtain ⟨t0, t1, t2, t3, t4, t5, t6⟩ := T1
    go_upto_region 4 with (go_at_call 36; refine (B1.out _ E1).mono ?_; rintro e w2 ⟨hb2, vx, rfl, hX⟩; obtain ⟨Ax, capx, rfl, hxl, _⟩ := hX.shape)
    have E2 := E1.trans hb2
    have HT2 := Lib.hid (HT1.out.ext hb2)
    have HX := Lib.hid hX
    clear t0 t1 t2 t3 t4 t5 t6 HT1 B1 E1 hb1 hX
    by_cases hne : ne = 0
    · subst hne
      obtain ⟨h0, m1, m2, m3, m4, h5⟩ := hN1 rfl
      clear h5
      obtain ⟨s3, s4⟩ := hN2 rfl
      have hPO := passOk h0
      have hbg := some_begin h0
      have hd1 := hPO.min1
      have hd2 := hPO.min2
      obtain ⟨n, rfl⟩ : ∃ n : Nat, k = (n : Int) := ⟨k.toNat, by have := hPO.nat; omega⟩
      obtain ⟨p, hpn, hpm⟩ := pass_at hPO
      have i1 : (0 : Int) ≤ (n : Int) := by omega
      have i2 : (n : Int) < (t.passages.length : Int) := hPO.lt
      obtain ⟨pb, po, pcs, rfl, _, hpr, hpc⟩ := HPA.out.at hpn
      obtain rfl : pcs = [.string p.auth, .string p.road, .int .i64 p.minutes] := hpr
      have P0 := Lib.hid (hpc 2 _ rfl)
      rw [hpm] at P0
      have FR := fun m d v' w' (h : Sl 11 RRule w' v' (rsAt l t n)) (h1 : 0 ≤ m) (h2 : m ≤ 4398046511104) (h3 : 0 ≤ d) (h4 : d ≤ 100000000) => free_c v' (rsAt l t n) m d w' h hPO.rules h1 h2 h3 h4
      unfold FreeR at FR
      generalize minAt t n = d at *
      rw [decide_eq_true hbg] at V1
      have O2 := Lib.hid (fun w' h => O1.out w' h h0)
      replace FR := Lib.hid FR
      have S3 := Lib.hid s3
      have S4 := Lib.hid s4
      clear s3 s4 hN0 hN1 hN2 hPO hbg h0 hpc hpn hpm O1
      obtain ⟨t0, t1, t2, t3, t4, t5, t6⟩ := HT2.out
      go_upto_region 8 with (go_at_call 22; refine (V1.out _ E2).mono ?_; rintro e w3 ⟨rfl, hb3⟩)
      have E3 := E2.trans hb3
      have HT3 := Lib.hid (HT2.out.ext hb3)
      clear t0 t1 t2 t3 t4 t5 t6 HT2 V1
      obtain ⟨t0, t1, t2, t3, t4, t5, t6⟩ := HT3.out
      go_upto_region 9 with (go_at_call 23; refine (O2.out _ E3).mono ?_; rintro e w4 ⟨⟨vn, vr, rfl, hn, hr⟩, hb4⟩; obtain ⟨An, capn, rfl, _, _⟩ := hn.shape; obtain ⟨Ar, capr, rfl, _, _⟩ := hr.shape)
      have E4 := E3.trans hb4
      have HT4 := Lib.hid (HT3.out.ext hb4)
      have HRS := Lib.hid hr
      replace HX := Lib.hid (HX.out.ext RWin.stable (hb3.trans hb4))
      clear t0 t1 t2 t3 t4 t5 t6 HT3 O2 E3 hb3 hn hr hb2 E2
      obtain ⟨t0, t1, t2, t3, t4, t5, t6⟩ := HT4.out
      have k2 := E4.cell P0.out
      go_wp2_with fail
      clear t0 t1 t2 t3 t4 t5 t6 k2 HT4
      go_loopw [18, 19] (fun lst i wr => ∃ (j : Nat) (lv : Int), j ≤ ws.length ∧ i = .int .i64 j ∧ lst = .int .i64 lv ∧ fr - 1 ≤ lv ∧ okW (allowedB (rsAt l t n)) d fr to' lv (ws.drop j) ∧ Ext w4 wr) (fun _ i _ => ws.length - (intOf i).toNat)
      case atStart => exact ⟨0, fr - 1, by omega, rfl, rfl, by omega, by simpa using S3.out, Ext.refl _⟩
      case round =>
        obtain ⟨j, lv, hj, rfl, rfl, hlv, hok, hE⟩ := hrel
        have E5 := E4.trans hE
        by_cases hlt : j < ws.length
        · obtain ⟨x, hx⟩ := some_of_lt hlt
          rw [drop_cons hx] at hok
          obtain ⟨o1, o2, o3, o4, o5, o6, o7⟩ := hok
          obtain ⟨xb1, xo1, cs1, rfl, _, hr1, hc1⟩ := (HX.out.ext RWin.stable hE).at hx
          obtain rfl : cs1 = [.int .i64 x.1, .int .i64 x.2] := hr1
          have k0 := hc1 0 _ rfl
          have k1 := hc1 1 _ rfl
          simp only [Nat.add_zero] at k0
          have j1 : (0 : Int) ≤ (j : Int) := by omega
          have j2 : (j : Int) < (ws.length : Int) := by omega
          obtain ⟨xa, xb⟩ := x
          simp only at *
          have F4 : freeP (rsAt l t n) xa (xb - xa) := fun y h1 h2 => o4 y h1 (by omega)
          have F5 := Lib.hid o5
          have F6 := Lib.hid o6
          have O7 := Lib.hid o7
          replace F4 := Lib.hid F4
          have wx := IntWalk.i64_in (xb - xa) (by omega)
          clear o4 o5 o6 o7 hc1 hx S4 HX
          have g1 : decide (xa ≤ lv) = false := decide_eq_false (by omega)
          have g2 : decide (to' < xb) = false := decide_eq_false (by omega)
          have g3 : decide (xb - xa < d) = false := decide_eq_false (by omega)
          go_upto_region 14 with fail
          go_region_held3 (fun w' => w'.cell? ⟨xb1, xo1 + j * 2, none⟩ = some (.int .i64 xa) ∧ w'.cell? ⟨xb1, xo1 + j * 2 + 1, none⟩ = some (.int .i64 xb)) (refine ⟨?_, ?_⟩ <;> (repeat' (with_reducible (first | assumption | refine Ext.cell hbd5 ?_ | refine Ext.cell (Ext.refl _).drew ?_)))) (first
            | (go_at_call 24; refine (FR.out _ _ _ _ (HRS.out.ext RRule.stable (by (repeat' (first | exact Ext.refl _ | assumption | refine Ext.alloc ?_ _ | refine Ext.drew ?_ | refine Ext.drewN ?_ _ | refine Ext.set ?_ (by first | exact Nat.le_refl _ | exact le1 _ | exact le2 _ | exact le3 _ | exact le4 _ | exact le5 _ | exact le6 _) _ | refine Ext.trans ?_ (by assumption))))) (by omega) (by omega) (by omega) (by omega)).mono ?_; rintro e wd5 ⟨⟨b, rfl, hbi⟩, hbd5⟩; obtain rfl : b = true := hbi.2 F4.out; clear hbi))
          all_goals
            have E6 : Ext wr wd5 := by (repeat' (first | exact Ext.refl _ | assumption | refine Ext.alloc ?_ _ | refine Ext.drew ?_ | refine Ext.drewN ?_ _ | refine Ext.set ?_ (by first | exact Nat.le_refl _ | exact le1 _ | exact le2 _ | exact le3 _ | exact le4 _ | exact le5 _ | exact le6 _) _ | refine Ext.trans ?_ (by assumption)))
            have k0' := E6.cell k0
            have k1' := E6.cell k1
            clear k0 k1
            by_cases c1 : fr < xa
            · by_cases c2 : xb < to'
              · go_upto_region 16 with fail
                go_wp2_with fail
                go_at_call 24
                refine (FR.out _ _ _ _ (HRS.out.ext RRule.stable (by (repeat' (first | exact Ext.refl _ | assumption | refine Ext.alloc ?_ _ | refine Ext.drew ?_ | refine Ext.drewN ?_ _ | refine Ext.set ?_ (by first | exact Nat.le_refl _ | exact le1 _ | exact le2 _ | exact le3 _ | exact le4 _ | exact le5 _ | exact le6 _) _ | refine Ext.trans ?_ (by assumption))))) (by omega) (by omega) (by omega) (by omega)).mono ?_
                rintro e w6 ⟨⟨b, rfl, hbi⟩, hb6⟩
                obtain rfl : b = false := freeP_none hbi (freeP_one (F5.out c1))
                clear hbi
                have k0b := hb6.cell k0'
                have k1b := hb6.cell k1'
                go_wp2_with fail
                go_at_call 24
                refine (FR.out _ _ _ _ (HRS.out.ext RRule.stable (by (repeat' (first | exact Ext.refl _ | assumption | refine Ext.alloc ?_ _ | refine Ext.drew ?_ | refine Ext.drewN ?_ _ | refine Ext.set ?_ (by first | exact Nat.le_refl _ | exact le1 _ | exact le2 _ | exact le3 _ | exact le4 _ | exact le5 _ | exact le6 _) _ | refine Ext.trans ?_ (by assumption))))) (by omega) (by omega) (by omega) (by omega)).mono ?_
                rintro e w7 ⟨⟨b, rfl, hbi⟩, hb7⟩
                obtain rfl : b = false := freeP_none hbi (freeP_one (F6.out c2))
                clear hbi
                have k0c := hb7.cell k0b
                have k1c := hb7.cell k1b
                go_wp2_with fail
                go_roundw
                case rel => exact ⟨j + 1, xb, by omega, by go_num, rfl, by omega, O7.out, by (repeat' (first | exact Ext.refl _ | assumption | refine Ext.alloc ?_ _ | refine Ext.drew ?_ | refine Ext.drewN ?_ _ | refine Ext.set ?_ (by first | exact Nat.le_refl _ | exact le1 _ | exact le2 _ | exact le3 _ | exact le4 _ | exact le5 _ | exact le6 _) _ | refine Ext.trans ?_ (by assumption)))⟩
                case measure => simp [intOf]; omega
              · go_upto_region 16 with fail
                go_wp2_with fail
                go_at_call 24
                refine (FR.out _ _ _ _ (HRS.out.ext RRule.stable (by (repeat' (first | exact Ext.refl _ | assumption | refine Ext.alloc ?_ _ | refine Ext.drew ?_ | refine Ext.drewN ?_ _ | refine Ext.set ?_ (by first | exact Nat.le_refl _ | exact le1 _ | exact le2 _ | exact le3 _ | exact le4 _ | exact le5 _ | exact le6 _) _ | refine Ext.trans ?_ (by assumption))))) (by omega) (by omega) (by omega) (by omega)).mono ?_
                rintro e w6 ⟨⟨b, rfl, hbi⟩, hb6⟩
                obtain rfl : b = false := freeP_none hbi (freeP_one (F5.out c1))
                clear hbi
                have k0b := hb6.cell k0'
                have k1b := hb6.cell k1'
                go_wp2_with fail
                go_roundw
                case rel => exact ⟨j + 1, xb, by omega, by go_num, rfl, by omega, O7.out, by (repeat' (first | exact Ext.refl _ | assumption | refine Ext.alloc ?_ _ | refine Ext.drew ?_ | refine Ext.drewN ?_ _ | refine Ext.set ?_ (by first | exact Nat.le_refl _ | exact le1 _ | exact le2 _ | exact le3 _ | exact le4 _ | exact le5 _ | exact le6 _) _ | refine Ext.trans ?_ (by assumption)))⟩
                case measure => simp [intOf]; omega
            · by_cases c2 : xb < to'
              · go_upto_region 16 with fail
                go_wp2_with fail
                go_at_call 24
                refine (FR.out _ _ _ _ (HRS.out.ext RRule.stable (by (repeat' (first | exact Ext.refl _ | assumption | refine Ext.alloc ?_ _ | refine Ext.drew ?_ | refine Ext.drewN ?_ _ | refine Ext.set ?_ (by first | exact Nat.le_refl _ | exact le1 _ | exact le2 _ | exact le3 _ | exact le4 _ | exact le5 _ | exact le6 _) _ | refine Ext.trans ?_ (by assumption))))) (by omega) (by omega) (by omega) (by omega)).mono ?_
                rintro e w6 ⟨⟨b, rfl, hbi⟩, hb6⟩
                obtain rfl : b = false := freeP_none hbi (freeP_one (F6.out c2))
                clear hbi
                have k0b := hb6.cell k0'
                have k1b := hb6.cell k1'
                go_wp2_with fail
                go_roundw
                case rel => exact ⟨j + 1, xb, by omega, by go_num, rfl, by omega, O7.out, by (repeat' (first | exact Ext.refl _ | assumption | refine Ext.alloc ?_ _ | refine Ext.drew ?_ | refine Ext.drewN ?_ _ | refine Ext.set ?_ (by first | exact Nat.le_refl _ | exact le1 _ | exact le2 _ | exact le3 _ | exact le4 _ | exact le5 _ | exact le6 _) _ | refine Ext.trans ?_ (by assumption)))⟩
                case measure => simp [intOf]; omega
              · go_upto_region 16 with fail
                go_wp2_with fail
                go_roundw
                case rel => exact ⟨j + 1, xb, by omega, by go_num, rfl, by omega, O7.out, by (repeat' (first | exact Ext.refl _ | assumption | refine Ext.alloc ?_ _ | refine Ext.drew ?_ | refine Ext.drewN ?_ _ | refine Ext.set ?_ (by first | exact Nat.le_refl _ | exact le1 _ | exact le2 _ | exact le3 _ | exact le4 _ | exact le5 _ | exact le6 _) _ | refine Ext.trans ?_ (by assumption)))⟩
                case measure => simp [intOf]; omega
        · clear hok S3
          have pm0 : 0 ≤ (to' - fr) * z := Int.mul_nonneg (by omega) hz1
          have pm1 : (to' - fr) * z ≤ (to' - fr) * 65535 := Int.mul_le_mul_of_nonneg_left hz2 (by omega)
          have q1 : ((to' - fr) * z).tdiv 65535 = ((to' - fr) * z) / 65535 := Int.tdiv_eq_ediv_of_nonneg pm0
          have wx := IntWalk.i64_in ((to' - fr) * z) (by omega)
          have q2 : 0 ≤ ((to' - fr) * z) / 65535 := by omega
          have q3 : ((to' - fr) * z) / 65535 ≤ to' - fr := by omega
          go_upto_region 20 with fail
          generalize ((to' - fr) * z) / 65535 = q at *
          clear wx pm0 pm1 q1
          by_cases c1 : to' < fr + q + d
          · go_wp2_with (go_at_call 13; refine (KN.out _).mono ?_; rintro e w9 ⟨rfl, hb9⟩)
            go_ret
            exact ⟨rfl, E5.trans hb9⟩
          · go_wp2_with fail
            go_at_call 24
            refine (FR.out _ _ _ _ (HRS.out.ext RRule.stable (by (repeat' (first | exact Ext.refl _ | assumption | refine Ext.alloc ?_ _ | refine Ext.drew ?_ | refine Ext.drewN ?_ _ | refine Ext.set ?_ (by first | exact Nat.le_refl _ | exact le1 _ | exact le2 _ | exact le3 _ | exact le4 _ | exact le5 _ | exact le6 _) _ | refine Ext.trans ?_ (by assumption))))) (by omega) (by omega) (by omega) (by omega)).mono ?_
            rintro e w6 ⟨⟨b, rfl, hbi⟩, hb6⟩
            have E6 := E5.trans hb6
            cases b
            · clear hbi
              go_wp2_with (go_at_call 13; refine (KN.out _).mono ?_; rintro e w9 ⟨rfl, hb9⟩)
              go_ret
              exact ⟨rfl, E6.trans hb9⟩
            · have hex := Lib.hid (S4.out (fr + q) (by omega) (by omega) (hbi.1 rfl))
              clear hbi S4
              go_wp2_with fail
              go_loopw [21] (fun i wr => ∃ j : Nat, j ≤ ws.length ∧ i = .int .i64 j ∧ (∀ y ∈ ws.take j, ¬ (y.1 ≤ fr + q ∧ fr + q + d ≤ y.2)) ∧ Ext w6 wr) (fun i _ => ws.length - (intOf i).toNat)
              case atStart => exact ⟨0, by omega, rfl, by simp, Ext.refl _⟩
              case round =>
                obtain ⟨j, hj, rfl, hno, hE2⟩ := hrel
                have E7 := E6.trans hE2
                have HNO := Lib.hid hno
                clear hno
                by_cases hlt2 : j < ws.length
                · obtain ⟨x, hx⟩ := some_of_lt hlt2
                  obtain ⟨xb1, xo1, cs1, rfl, _, hr1, hc1⟩ := (HX.out.ext RWin.stable ((hE.trans hb6).trans hE2)).at hx
                  obtain rfl : cs1 = [.int .i64 x.1, .int .i64 x.2] := hr1
                  have k0 := hc1 0 _ rfl
                  have k1 := hc1 1 _ rfl
                  simp only [Nat.add_zero] at k0
                  have j1 : (0 : Int) ≤ (j : Int) := by omega
                  have j2 : (j : Int) < (ws.length : Int) := by omega
                  have HXJ := Lib.hid hx
                  clear hc1 hx
                  by_cases c2 : x.1 ≤ fr + q
                  · by_cases c3 : fr + q + d ≤ x.2
                    · go_wp2_with (go_at_call 13; refine (KN.out _).mono ?_; rintro e w9 ⟨rfl, hb9⟩)
                      go_ret
                      exact ⟨rfl, E7.trans hb9⟩
                    · go_wp2_with fail
                      go_roundw
                      case rel => exact ⟨j + 1, by omega, by go_num, no_take HXJ.out HNO.out (fun h => c3 h.2), hE2⟩
                      case measure => simp [intOf]; omega
                  · go_wp2_with fail
                    go_roundw
                    case rel => exact ⟨j + 1, by omega, by go_num, no_take HXJ.out HNO.out (fun h => c2 h.1), hE2⟩
                    case measure => simp [intOf]; omega
                · exfalso
                  obtain rfl : j = ws.length := by omega
                  obtain ⟨y, y1, y2⟩ := hex.out
                  exact HNO.out y (by rw [List.take_length]; exact y1) y2
    · have hs0 := hN0 hne
      subst hs0
      clear hN0 hN1 hN2
      go_wp2_with (go_at_call 13; refine (KN.out _).mono ?_; rintro e w3 ⟨rfl, hb3⟩)
      go_ret
      exact ⟨rfl, E2.trans hb3⟩
  · go_wp2_with (go_at_call 13; refine (KN.out _).mono ?_; rintro e w2 ⟨rfl, hb2⟩)
    go_ret
    exact ⟨rfl, E1.trans hb2⟩
end Go.Proofs.Ytaomlmkcifpfkaa
