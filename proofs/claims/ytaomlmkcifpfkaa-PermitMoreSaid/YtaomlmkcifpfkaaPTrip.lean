/- Contracts: when a trip is valid. -/
import Derived.Test.YtaomlmkcifpfkaaPAll
namespace Go.Proofs.Ytaomlmkcifpfkaa
open Go.RowKit

structure PTrip where
  z0 : Int
  z1 : Int
  z2 : Int
  z3 : Int
  z4 : Int
  z5 : Int
  passages : List PPass
def sizesB (t : PTrip) : Bool := inB t.z0 0 1073741824 && inB t.z1 0 1073741824 && inB t.z2 0 1073741824 && inB t.z3 0 1073741824 && inB t.z4 0 1073741824 && inB t.z5 0 1073741824
def passB (p : PPass) : Bool := nameB p.auth && nameB p.road && inB p.minutes 1 10080
def tripE (t : PTrip) : Int := if t.passages.length < 1 ∨ 24 < t.passages.length then 6 else if (sizesB t && t.passages.all passB) = true then 0 else 2
theorem tripE_many {t : PTrip} (h : t.passages.length < 1 ∨ 24 < t.passages.length) : tripE t = 6 := by simp only [tripE, h, if_true]
theorem tripE_few {t : PTrip} (h : ¬ (t.passages.length < 1 ∨ 24 < t.passages.length)) : tripE t = if (sizesB t && t.passages.all passB) = true then 0 else 2 := by simp only [tripE, h, if_false]

set_option maxRecDepth 100000 in
set_option maxHeartbeats 4000000 in
theorem CheckTrip_c (v : Value) (t : PTrip) (w : World) (hs : Sl 3 RPass w v t.passages) :
    Calls Try.prog 18 #[.agg #[.int .i64 t.z0, .int .i64 t.z1, .int .i64 t.z2, .int .i64 t.z3, .int .i64 t.z4, .int .i64 t.z5, v]] w fun e w' => e = .returned (.int .i64 (tripE t)) ∧ Ext w w' := by
  obtain ⟨A, cap, rfl, hl, hcap⟩ := hs.shape
  by_cases h1 : t.passages.length < 1
  · rw [tripE_many (.inl h1)]
    have h1' : (t.passages.length : Int) < 1 := by omega
    clear hs
    go_enter Try.func18, Try.ntmps18
    go_wp2
    go_ret
    exact ⟨rfl, by (repeat' (first | exact Ext.refl _ | assumption | refine Ext.alloc ?_ _ | refine Ext.drew ?_ | refine Ext.drewN ?_ _ | refine Ext.set ?_ (by first | exact Nat.le_refl _ | exact le1 _ | exact le2 _ | exact le3 _ | exact le4 _ | exact le5 _ | exact le6 _) _ | refine Ext.trans ?_ (by assumption)))⟩
  by_cases h2 : 24 < t.passages.length
  · rw [tripE_many (.inr h2)]
    have h1' : ¬ (t.passages.length : Int) < 1 := by omega
    have h2' : 24 < (t.passages.length : Int) := by omega
    clear hs
    go_enter Try.func18, Try.ntmps18
    go_wp2
    go_ret
    exact ⟨rfl, by (repeat' (first | exact Ext.refl _ | assumption | refine Ext.alloc ?_ _ | refine Ext.drew ?_ | refine Ext.drewN ?_ _ | refine Ext.set ?_ (by first | exact Nat.le_refl _ | exact le1 _ | exact le2 _ | exact le3 _ | exact le4 _ | exact le5 _ | exact le6 _) _ | refine Ext.trans ?_ (by assumption)))⟩
  have h1' : ¬ (t.passages.length : Int) < 1 := by omega
  have h2' : ¬ 24 < (t.passages.length : Int) := by omega
  rw [tripE_few (by omega)]
  clear h1 h2
  obtain ⟨z0, z1, z2, z3, z4, z5, passages⟩ := t
  unfold sizesB
  simp only at *
  have B0 := fun w => between_c z0 0 1073741824 w
  have B1 := fun w => between_c z1 0 1073741824 w
  have B2 := fun w => between_c z2 0 1073741824 w
  have B3 := fun w => between_c z3 0 1073741824 w
  have B4 := fun w => between_c z4 0 1073741824 w
  have B5 := fun w => between_c z5 0 1073741824 w
  obtain ⟨q0, hq0⟩ : ∃ q, inB z0 0 1073741824 = q := ⟨_, rfl⟩
  rw [hq0] at B0
  rw [hq0]
  replace B0 := Lib.hid B0
  obtain ⟨q1, hq1⟩ : ∃ q, inB z1 0 1073741824 = q := ⟨_, rfl⟩
  rw [hq1] at B1
  rw [hq1]
  replace B1 := Lib.hid B1
  obtain ⟨q2, hq2⟩ : ∃ q, inB z2 0 1073741824 = q := ⟨_, rfl⟩
  rw [hq2] at B2
  rw [hq2]
  replace B2 := Lib.hid B2
  obtain ⟨q3, hq3⟩ : ∃ q, inB z3 0 1073741824 = q := ⟨_, rfl⟩
  rw [hq3] at B3
  rw [hq3]
  replace B3 := Lib.hid B3
  obtain ⟨q4, hq4⟩ : ∃ q, inB z4 0 1073741824 = q := ⟨_, rfl⟩
  rw [hq4] at B4
  rw [hq4]
  replace B4 := Lib.hid B4
  obtain ⟨q5, hq5⟩ : ∃ q, inB z5 0 1073741824 = q := ⟨_, rfl⟩
  rw [hq5] at B5
  rw [hq5]
  replace B5 := Lib.hid B5
  clear hq0 hq1 hq2 hq3 hq4 hq5
  have ix0 : ∀ w, (Instr.index 23 (.agg #[.int .i64 z0, .int .i64 z1, .int .i64 z2, .int .i64 z3, .int .i64 z4, .int .i64 z5]) (.int .i64 0)).run Try.prog w = .ok (.int .i64 z0) w := fun _ => by rfl
  have ix1 : ∀ w, (Instr.index 23 (.agg #[.int .i64 z0, .int .i64 z1, .int .i64 z2, .int .i64 z3, .int .i64 z4, .int .i64 z5]) (.int .i64 1)).run Try.prog w = .ok (.int .i64 z1) w := fun _ => by rfl
  have ix2 : ∀ w, (Instr.index 23 (.agg #[.int .i64 z0, .int .i64 z1, .int .i64 z2, .int .i64 z3, .int .i64 z4, .int .i64 z5]) (.int .i64 2)).run Try.prog w = .ok (.int .i64 z2) w := fun _ => by rfl
  have ix3 : ∀ w, (Instr.index 23 (.agg #[.int .i64 z0, .int .i64 z1, .int .i64 z2, .int .i64 z3, .int .i64 z4, .int .i64 z5]) (.int .i64 3)).run Try.prog w = .ok (.int .i64 z3) w := fun _ => by rfl
  have ix4 : ∀ w, (Instr.index 23 (.agg #[.int .i64 z0, .int .i64 z1, .int .i64 z2, .int .i64 z3, .int .i64 z4, .int .i64 z5]) (.int .i64 4)).run Try.prog w = .ok (.int .i64 z4) w := fun _ => by rfl
  have ix5 : ∀ w, (Instr.index 23 (.agg #[.int .i64 z0, .int .i64 z1, .int .i64 z2, .int .i64 z3, .int .i64 z4, .int .i64 z5]) (.int .i64 5)).run Try.prog w = .ok (.int .i64 z5) w := fun _ => by rfl
  obtain ⟨ra, hra⟩ : ∃ b, passages.all passB = b := ⟨_, rfl⟩
  rw [hra]
  have HRA := Lib.hid hra
  have HS := Lib.hid hs
  clear hra hs
  go_enter Try.func18, Try.ntmps18
  go_wp2
  go_loop [4, 19] (fun _ i => i = .int .i64 0 ∨ (i = .int .i64 1 ∧ q0 = true) ∨ (i = .int .i64 2 ∧ q0 = true ∧ q1 = true) ∨ (i = .int .i64 3 ∧ q0 = true ∧ q1 = true ∧ q2 = true) ∨ (i = .int .i64 4 ∧ q0 = true ∧ q1 = true ∧ q2 = true ∧ q3 = true) ∨ (i = .int .i64 5 ∧ q0 = true ∧ q1 = true ∧ q2 = true ∧ q3 = true ∧ q4 = true) ∨ (i = .int .i64 6 ∧ q0 = true ∧ q1 = true ∧ q2 = true ∧ q3 = true ∧ q4 = true ∧ q5 = true)) (fun _ i => 7 - (intOf i).toNat)
  case atStart => exact .inl rfl
  case round =>
    rcases hrel with rfl | ⟨rfl, rfl⟩ | ⟨rfl, rfl, rfl⟩ | ⟨rfl, rfl, rfl, rfl⟩ | ⟨rfl, rfl, rfl, rfl, rfl⟩ | ⟨rfl, rfl, rfl, rfl, rfl, rfl⟩ | ⟨rfl, rfl, rfl, rfl, rfl, rfl, rfl⟩
    · cases q0
      · go_wp2_with (go_at_call 52; (with_reducible refine (B0.out _).mono ?_); rintro e w2 ⟨rfl, rfl⟩)
        go_ret
        exact ⟨by simp, by (repeat' (first | exact Ext.refl _ | assumption | refine Ext.alloc ?_ _ | refine Ext.drew ?_ | refine Ext.drewN ?_ _ | refine Ext.set ?_ (by first | exact Nat.le_refl _ | exact le1 _ | exact le2 _ | exact le3 _ | exact le4 _ | exact le5 _ | exact le6 _) _ | refine Ext.trans ?_ (by assumption)))⟩
      · go_wp2_with (go_at_call 52; (with_reducible refine (B0.out _).mono ?_); rintro e w2 ⟨rfl, rfl⟩)
        go_round
        case rel => exact .inr (.inl ⟨rfl, by trivial⟩)
        case measure => simp [intOf]
    · cases q1
      · go_wp2_with (go_at_call 52; (with_reducible refine (B1.out _).mono ?_); rintro e w2 ⟨rfl, rfl⟩)
        go_ret
        exact ⟨by simp, by (repeat' (first | exact Ext.refl _ | assumption | refine Ext.alloc ?_ _ | refine Ext.drew ?_ | refine Ext.drewN ?_ _ | refine Ext.set ?_ (by first | exact Nat.le_refl _ | exact le1 _ | exact le2 _ | exact le3 _ | exact le4 _ | exact le5 _ | exact le6 _) _ | refine Ext.trans ?_ (by assumption)))⟩
      · go_wp2_with (go_at_call 52; (with_reducible refine (B1.out _).mono ?_); rintro e w2 ⟨rfl, rfl⟩)
        go_round
        case rel => exact .inr (.inr (.inl ⟨rfl, by trivial, by trivial⟩))
        case measure => simp [intOf]
    · cases q2
      · go_wp2_with (go_at_call 52; (with_reducible refine (B2.out _).mono ?_); rintro e w2 ⟨rfl, rfl⟩)
        go_ret
        exact ⟨by simp, by (repeat' (first | exact Ext.refl _ | assumption | refine Ext.alloc ?_ _ | refine Ext.drew ?_ | refine Ext.drewN ?_ _ | refine Ext.set ?_ (by first | exact Nat.le_refl _ | exact le1 _ | exact le2 _ | exact le3 _ | exact le4 _ | exact le5 _ | exact le6 _) _ | refine Ext.trans ?_ (by assumption)))⟩
      · go_wp2_with (go_at_call 52; (with_reducible refine (B2.out _).mono ?_); rintro e w2 ⟨rfl, rfl⟩)
        go_round
        case rel => exact .inr (.inr (.inr (.inl ⟨rfl, by trivial, by trivial, by trivial⟩)))
        case measure => simp [intOf]
    · cases q3
      · go_wp2_with (go_at_call 52; (with_reducible refine (B3.out _).mono ?_); rintro e w2 ⟨rfl, rfl⟩)
        go_ret
        exact ⟨by simp, by (repeat' (first | exact Ext.refl _ | assumption | refine Ext.alloc ?_ _ | refine Ext.drew ?_ | refine Ext.drewN ?_ _ | refine Ext.set ?_ (by first | exact Nat.le_refl _ | exact le1 _ | exact le2 _ | exact le3 _ | exact le4 _ | exact le5 _ | exact le6 _) _ | refine Ext.trans ?_ (by assumption)))⟩
      · go_wp2_with (go_at_call 52; (with_reducible refine (B3.out _).mono ?_); rintro e w2 ⟨rfl, rfl⟩)
        go_round
        case rel => exact .inr (.inr (.inr (.inr (.inl ⟨rfl, by trivial, by trivial, by trivial, by trivial⟩))))
        case measure => simp [intOf]
    · cases q4
      · go_wp2_with (go_at_call 52; (with_reducible refine (B4.out _).mono ?_); rintro e w2 ⟨rfl, rfl⟩)
        go_ret
        exact ⟨by simp, by (repeat' (first | exact Ext.refl _ | assumption | refine Ext.alloc ?_ _ | refine Ext.drew ?_ | refine Ext.drewN ?_ _ | refine Ext.set ?_ (by first | exact Nat.le_refl _ | exact le1 _ | exact le2 _ | exact le3 _ | exact le4 _ | exact le5 _ | exact le6 _) _ | refine Ext.trans ?_ (by assumption)))⟩
      · go_wp2_with (go_at_call 52; (with_reducible refine (B4.out _).mono ?_); rintro e w2 ⟨rfl, rfl⟩)
        go_round
        case rel => exact .inr (.inr (.inr (.inr (.inr (.inl ⟨rfl, by trivial, by trivial, by trivial, by trivial, by trivial⟩)))))
        case measure => simp [intOf]
    · cases q5
      · go_wp2_with (go_at_call 52; (with_reducible refine (B5.out _).mono ?_); rintro e w2 ⟨rfl, rfl⟩)
        go_ret
        exact ⟨by simp, by (repeat' (first | exact Ext.refl _ | assumption | refine Ext.alloc ?_ _ | refine Ext.drew ?_ | refine Ext.drewN ?_ _ | refine Ext.set ?_ (by first | exact Nat.le_refl _ | exact le1 _ | exact le2 _ | exact le3 _ | exact le4 _ | exact le5 _ | exact le6 _) _ | refine Ext.trans ?_ (by assumption)))⟩
      · go_wp2_with (go_at_call 52; (with_reducible refine (B5.out _).mono ?_); rintro e w2 ⟨rfl, rfl⟩)
        go_round
        case rel => exact .inr (.inr (.inr (.inr (.inr (.inr (⟨rfl, by trivial, by trivial, by trivial, by trivial, by trivial, by trivial⟩))))))
        case measure => simp [intOf]
    · clear B0 B1 B2 B3 B4 B5 ix0 ix1 ix2 ix3 ix4 ix5
      go_wp2
      have E1 : Ext w (w.alloc (.cells #[.int .i64 z0, .int .i64 z1, .int .i64 z2, .int .i64 z3, .int .i64 z4, .int .i64 z5, .slice A passages.length cap] 26)) := by (repeat' (first | exact Ext.refl _ | assumption | refine Ext.alloc ?_ _ | refine Ext.drew ?_ | refine Ext.drewN ?_ _ | refine Ext.set ?_ (by first | exact Nat.le_refl _ | exact le1 _ | exact le2 _ | exact le3 _ | exact le4 _ | exact le5 _ | exact le6 _) _ | refine Ext.trans ?_ (by assumption)))
      generalize w.alloc (.cells #[.int .i64 z0, .int .i64 z1, .int .i64 z2, .int .i64 z3, .int .i64 z4, .int .i64 z5, .slice A passages.length cap] 26) = W at *
      go_loopw [6, 29] (fun _ i wr => ∃ k : Nat, k ≤ passages.length ∧ i = .int .i64 k ∧ (passages.take k).all passB = true ∧ Ext W wr) (fun _ i _ => passages.length - (intOf i).toNat)
      case atStart => exact ⟨0, by omega, rfl, by simp, Ext.refl _⟩
      case round =>
        obtain ⟨k, hk, rfl, ha, hb⟩ := hrel
        have HA := Lib.hid ha
        clear ha
        by_cases hlt : k < passages.length
        · obtain ⟨x, hx⟩ := some_of_lt hlt
          obtain ⟨b, off, cs, rfl, hn, hr, hc⟩ := (HS.out.ext RPass.stable (E1.trans hb)).at hx
          obtain rfl : cs = [.string x.auth, .string x.road, .int .i64 x.minutes] := hr
          have k0 := hc 0 _ rfl
          have k1 := hc 1 _ rfl
          have k2 := hc 2 _ rfl
          simp only [Nat.add_zero] at k0
          have HX := Lib.hid hx
          have hbl := lt_of_cell k0
          have N1 := fun w => validName_c x.auth w
          have N2 := fun w => validName_c x.road w
          have M1 := fun w => between_c x.minutes 1 10080 w
          obtain ⟨z, hz⟩ : ∃ z, passB x = z := ⟨_, rfl⟩
          have HZ := Lib.hid hz
          unfold passB at hz
          generalize nameB x.auth = n1 at *
          generalize nameB x.road = n2 at *
          generalize inB x.minutes 1 10080 = m1 at *
          generalize x.auth = xa at *
          generalize x.road = xr at *
          generalize x.minutes = xm at *
          replace N1 := Lib.hid N1
          replace N2 := Lib.hid N2
          replace M1 := Lib.hid M1
          clear hc hn hx
          by_cases hbad : z = false
          · subst hbad
            obtain rfl : ra = false := (HRA.out).symm.trans (all_no HX.out HZ.out)
            cases n1
            · clear hz
              go_wp2_with (first | (go_at_call 53; (with_reducible refine (N1.out _).mono ?_); rintro e w2 ⟨rfl, hb2⟩; obtain ⟨hc2, hf2⟩ := bcell hb2) | (go_at_call 53; (with_reducible refine (N2.out _).mono ?_); rintro e w3 ⟨rfl, hb3⟩; obtain ⟨hc3, hf3⟩ := bcell hb3; have hz3 := Ext.sz hb2; rw [size_alloc] at hz3; have hz4 := Nat.lt_of_succ_le hz3) | (go_at_call 52; (with_reducible refine (M1.out _).mono ?_); rintro e w4 ⟨rfl, rfl⟩))
              go_ret
              exact ⟨by simp, by (repeat' (first | exact Ext.refl _ | assumption | refine Ext.alloc ?_ _ | refine Ext.drew ?_ | refine Ext.drewN ?_ _ | refine Ext.set ?_ (by first | exact Nat.le_refl _ | exact le1 _ | exact le2 _ | exact le3 _ | exact le4 _ | exact le5 _ | exact le6 _) _ | refine Ext.trans ?_ (by assumption)))⟩
            cases n2
            · clear hz
              go_wp2_with (first | (go_at_call 53; (with_reducible refine (N1.out _).mono ?_); rintro e w2 ⟨rfl, hb2⟩; obtain ⟨hc2, hf2⟩ := bcell hb2) | (go_at_call 53; (with_reducible refine (N2.out _).mono ?_); rintro e w3 ⟨rfl, hb3⟩; obtain ⟨hc3, hf3⟩ := bcell hb3; have hz3 := Ext.sz hb2; rw [size_alloc] at hz3; have hz4 := Nat.lt_of_succ_le hz3) | (go_at_call 52; (with_reducible refine (M1.out _).mono ?_); rintro e w4 ⟨rfl, rfl⟩))
              go_ret
              exact ⟨by simp, by (repeat' (first | exact Ext.refl _ | assumption | refine Ext.alloc ?_ _ | refine Ext.drew ?_ | refine Ext.drewN ?_ _ | refine Ext.set ?_ (by first | exact Nat.le_refl _ | exact le1 _ | exact le2 _ | exact le3 _ | exact le4 _ | exact le5 _ | exact le6 _) _ | refine Ext.trans ?_ (by assumption)))⟩
            obtain rfl : m1 = false := by simpa using hz
            clear hz
            go_wp2_with (first | (go_at_call 53; (with_reducible refine (N1.out _).mono ?_); rintro e w2 ⟨rfl, hb2⟩; obtain ⟨hc2, hf2⟩ := bcell hb2) | (go_at_call 53; (with_reducible refine (N2.out _).mono ?_); rintro e w3 ⟨rfl, hb3⟩; obtain ⟨hc3, hf3⟩ := bcell hb3; have hz3 := Ext.sz hb2; rw [size_alloc] at hz3; have hz4 := Nat.lt_of_succ_le hz3) | (go_at_call 52; (with_reducible refine (M1.out _).mono ?_); rintro e w4 ⟨rfl, rfl⟩))
            go_ret
            exact ⟨by simp, by (repeat' (first | exact Ext.refl _ | assumption | refine Ext.alloc ?_ _ | refine Ext.drew ?_ | refine Ext.drewN ?_ _ | refine Ext.set ?_ (by first | exact Nat.le_refl _ | exact le1 _ | exact le2 _ | exact le3 _ | exact le4 _ | exact le5 _ | exact le6 _) _ | refine Ext.trans ?_ (by assumption)))⟩
          · obtain rfl : z = true := by simpa using hbad
            rw [Bool.and_eq_true, Bool.and_eq_true] at hz
            obtain ⟨⟨rfl, rfl⟩, rfl⟩ := hz
            clear hbad
            go_wp2_with (first | (go_at_call 53; (with_reducible refine (N1.out _).mono ?_); rintro e w2 ⟨rfl, hb2⟩; obtain ⟨hc2, hf2⟩ := bcell hb2) | (go_at_call 53; (with_reducible refine (N2.out _).mono ?_); rintro e w3 ⟨rfl, hb3⟩; obtain ⟨hc3, hf3⟩ := bcell hb3; have hz3 := Ext.sz hb2; rw [size_alloc] at hz3; have hz4 := Nat.lt_of_succ_le hz3) | (go_at_call 52; (with_reducible refine (M1.out _).mono ?_); rintro e w4 ⟨rfl, rfl⟩))
            go_roundw
            case rel => exact ⟨k + 1, by omega, by go_num, all_take HX.out HA.out HZ.out, by (repeat' (first | exact Ext.refl _ | assumption | refine Ext.alloc ?_ _ | refine Ext.drew ?_ | refine Ext.drewN ?_ _ | refine Ext.set ?_ (by first | exact Nat.le_refl _ | exact le1 _ | exact le2 _ | exact le3 _ | exact le4 _ | exact le5 _ | exact le6 _) _ | refine Ext.trans ?_ (by assumption)))⟩
            case measure => simp [intOf]; omega
        · have hra : ra = true := HRA.out.symm.trans (all_end HA.out (by omega))
          subst hra
          go_wp2
          go_ret
          exact ⟨by simp, E1.trans hb⟩

set_option maxRecDepth 100000 in
set_option maxHeartbeats 4000000 in
theorem RCheckTrip_c (v : Value) (t : PTrip) (w : World) (hs : Sl 3 RPass w v t.passages) :
    Calls Try.prog 19 #[.agg #[.int .i64 t.z0, .int .i64 t.z1, .int .i64 t.z2, .int .i64 t.z3, .int .i64 t.z4, .int .i64 t.z5, v]] w fun e w' => e = .returned (.int .i64 (tripE t)) ∧ Ext w w' := by
  obtain ⟨A, cap, rfl, hl, hcap⟩ := hs.shape
  by_cases h1 : t.passages.length < 1
  · rw [tripE_many (.inl h1)]
    have h1' : (t.passages.length : Int) < 1 := by omega
    clear hs
    go_enter Try.func19, Try.ntmps19
    go_wp2
    go_ret
    exact ⟨rfl, by (repeat' (first | exact Ext.refl _ | assumption | refine Ext.alloc ?_ _ | refine Ext.drew ?_ | refine Ext.drewN ?_ _ | refine Ext.set ?_ (by first | exact Nat.le_refl _ | exact le1 _ | exact le2 _ | exact le3 _ | exact le4 _ | exact le5 _ | exact le6 _) _ | refine Ext.trans ?_ (by assumption)))⟩
  by_cases h2 : 24 < t.passages.length
  · rw [tripE_many (.inr h2)]
    have h1' : ¬ (t.passages.length : Int) < 1 := by omega
    have h2' : 24 < (t.passages.length : Int) := by omega
    clear hs
    go_enter Try.func19, Try.ntmps19
    go_wp2
    go_ret
    exact ⟨rfl, by (repeat' (first | exact Ext.refl _ | assumption | refine Ext.alloc ?_ _ | refine Ext.drew ?_ | refine Ext.drewN ?_ _ | refine Ext.set ?_ (by first | exact Nat.le_refl _ | exact le1 _ | exact le2 _ | exact le3 _ | exact le4 _ | exact le5 _ | exact le6 _) _ | refine Ext.trans ?_ (by assumption)))⟩
  have h1' : ¬ (t.passages.length : Int) < 1 := by omega
  have h2' : ¬ 24 < (t.passages.length : Int) := by omega
  rw [tripE_few (by omega)]
  clear h1 h2
  obtain ⟨z0, z1, z2, z3, z4, z5, passages⟩ := t
  unfold sizesB
  simp only at *
  have B0 := fun w => within_c z0 0 1073741824 w
  have B1 := fun w => within_c z1 0 1073741824 w
  have B2 := fun w => within_c z2 0 1073741824 w
  have B3 := fun w => within_c z3 0 1073741824 w
  have B4 := fun w => within_c z4 0 1073741824 w
  have B5 := fun w => within_c z5 0 1073741824 w
  obtain ⟨q0, hq0⟩ : ∃ q, inB z0 0 1073741824 = q := ⟨_, rfl⟩
  rw [hq0] at B0
  rw [hq0]
  replace B0 := Lib.hid B0
  obtain ⟨q1, hq1⟩ : ∃ q, inB z1 0 1073741824 = q := ⟨_, rfl⟩
  rw [hq1] at B1
  rw [hq1]
  replace B1 := Lib.hid B1
  obtain ⟨q2, hq2⟩ : ∃ q, inB z2 0 1073741824 = q := ⟨_, rfl⟩
  rw [hq2] at B2
  rw [hq2]
  replace B2 := Lib.hid B2
  obtain ⟨q3, hq3⟩ : ∃ q, inB z3 0 1073741824 = q := ⟨_, rfl⟩
  rw [hq3] at B3
  rw [hq3]
  replace B3 := Lib.hid B3
  obtain ⟨q4, hq4⟩ : ∃ q, inB z4 0 1073741824 = q := ⟨_, rfl⟩
  rw [hq4] at B4
  rw [hq4]
  replace B4 := Lib.hid B4
  obtain ⟨q5, hq5⟩ : ∃ q, inB z5 0 1073741824 = q := ⟨_, rfl⟩
  rw [hq5] at B5
  rw [hq5]
  replace B5 := Lib.hid B5
  clear hq0 hq1 hq2 hq3 hq4 hq5
  obtain ⟨ra, hra⟩ : ∃ b, passages.all passB = b := ⟨_, rfl⟩
  rw [hra]
  have HRA := Lib.hid hra
  have HS := Lib.hid hs
  clear hra hs
  go_enter Try.func19, Try.ntmps19
  go_wp2
  go_loop [3] (fun i => i = .int .i64 0 ∨ (i = .int .i64 1 ∧ q0 = true) ∨ (i = .int .i64 2 ∧ q0 = true ∧ q1 = true) ∨ (i = .int .i64 3 ∧ q0 = true ∧ q1 = true ∧ q2 = true) ∨ (i = .int .i64 4 ∧ q0 = true ∧ q1 = true ∧ q2 = true ∧ q3 = true) ∨ (i = .int .i64 5 ∧ q0 = true ∧ q1 = true ∧ q2 = true ∧ q3 = true ∧ q4 = true) ∨ (i = .int .i64 6 ∧ q0 = true ∧ q1 = true ∧ q2 = true ∧ q3 = true ∧ q4 = true ∧ q5 = true)) (fun i => 7 - (intOf i).toNat)
  case atStart => exact .inl rfl
  case round =>
    rcases hrel with rfl | ⟨rfl, rfl⟩ | ⟨rfl, rfl, rfl⟩ | ⟨rfl, rfl, rfl, rfl⟩ | ⟨rfl, rfl, rfl, rfl, rfl⟩ | ⟨rfl, rfl, rfl, rfl, rfl, rfl⟩ | ⟨rfl, rfl, rfl, rfl, rfl, rfl, rfl⟩
    · cases q0
      · go_wp2_with (go_at_call 54; (with_reducible refine (B0.out _).mono ?_); rintro e w2 ⟨rfl, rfl⟩)
        go_ret
        exact ⟨by simp, by (repeat' (first | exact Ext.refl _ | assumption | refine Ext.alloc ?_ _ | refine Ext.drew ?_ | refine Ext.drewN ?_ _ | refine Ext.set ?_ (by first | exact Nat.le_refl _ | exact le1 _ | exact le2 _ | exact le3 _ | exact le4 _ | exact le5 _ | exact le6 _) _ | refine Ext.trans ?_ (by assumption)))⟩
      · go_wp2_with (go_at_call 54; (with_reducible refine (B0.out _).mono ?_); rintro e w2 ⟨rfl, rfl⟩)
        go_round
        case rel => exact .inr (.inl ⟨rfl, by trivial⟩)
        case measure => simp [intOf]
    · cases q1
      · go_wp2_with (go_at_call 54; (with_reducible refine (B1.out _).mono ?_); rintro e w2 ⟨rfl, rfl⟩)
        go_ret
        exact ⟨by simp, by (repeat' (first | exact Ext.refl _ | assumption | refine Ext.alloc ?_ _ | refine Ext.drew ?_ | refine Ext.drewN ?_ _ | refine Ext.set ?_ (by first | exact Nat.le_refl _ | exact le1 _ | exact le2 _ | exact le3 _ | exact le4 _ | exact le5 _ | exact le6 _) _ | refine Ext.trans ?_ (by assumption)))⟩
      · go_wp2_with (go_at_call 54; (with_reducible refine (B1.out _).mono ?_); rintro e w2 ⟨rfl, rfl⟩)
        go_round
        case rel => exact .inr (.inr (.inl ⟨rfl, by trivial, by trivial⟩))
        case measure => simp [intOf]
    · cases q2
      · go_wp2_with (go_at_call 54; (with_reducible refine (B2.out _).mono ?_); rintro e w2 ⟨rfl, rfl⟩)
        go_ret
        exact ⟨by simp, by (repeat' (first | exact Ext.refl _ | assumption | refine Ext.alloc ?_ _ | refine Ext.drew ?_ | refine Ext.drewN ?_ _ | refine Ext.set ?_ (by first | exact Nat.le_refl _ | exact le1 _ | exact le2 _ | exact le3 _ | exact le4 _ | exact le5 _ | exact le6 _) _ | refine Ext.trans ?_ (by assumption)))⟩
      · go_wp2_with (go_at_call 54; (with_reducible refine (B2.out _).mono ?_); rintro e w2 ⟨rfl, rfl⟩)
        go_round
        case rel => exact .inr (.inr (.inr (.inl ⟨rfl, by trivial, by trivial, by trivial⟩)))
        case measure => simp [intOf]
    · cases q3
      · go_wp2_with (go_at_call 54; (with_reducible refine (B3.out _).mono ?_); rintro e w2 ⟨rfl, rfl⟩)
        go_ret
        exact ⟨by simp, by (repeat' (first | exact Ext.refl _ | assumption | refine Ext.alloc ?_ _ | refine Ext.drew ?_ | refine Ext.drewN ?_ _ | refine Ext.set ?_ (by first | exact Nat.le_refl _ | exact le1 _ | exact le2 _ | exact le3 _ | exact le4 _ | exact le5 _ | exact le6 _) _ | refine Ext.trans ?_ (by assumption)))⟩
      · go_wp2_with (go_at_call 54; (with_reducible refine (B3.out _).mono ?_); rintro e w2 ⟨rfl, rfl⟩)
        go_round
        case rel => exact .inr (.inr (.inr (.inr (.inl ⟨rfl, by trivial, by trivial, by trivial, by trivial⟩))))
        case measure => simp [intOf]
    · cases q4
      · go_wp2_with (go_at_call 54; (with_reducible refine (B4.out _).mono ?_); rintro e w2 ⟨rfl, rfl⟩)
        go_ret
        exact ⟨by simp, by (repeat' (first | exact Ext.refl _ | assumption | refine Ext.alloc ?_ _ | refine Ext.drew ?_ | refine Ext.drewN ?_ _ | refine Ext.set ?_ (by first | exact Nat.le_refl _ | exact le1 _ | exact le2 _ | exact le3 _ | exact le4 _ | exact le5 _ | exact le6 _) _ | refine Ext.trans ?_ (by assumption)))⟩
      · go_wp2_with (go_at_call 54; (with_reducible refine (B4.out _).mono ?_); rintro e w2 ⟨rfl, rfl⟩)
        go_round
        case rel => exact .inr (.inr (.inr (.inr (.inr (.inl ⟨rfl, by trivial, by trivial, by trivial, by trivial, by trivial⟩)))))
        case measure => simp [intOf]
    · cases q5
      · go_wp2_with (go_at_call 54; (with_reducible refine (B5.out _).mono ?_); rintro e w2 ⟨rfl, rfl⟩)
        go_ret
        exact ⟨by simp, by (repeat' (first | exact Ext.refl _ | assumption | refine Ext.alloc ?_ _ | refine Ext.drew ?_ | refine Ext.drewN ?_ _ | refine Ext.set ?_ (by first | exact Nat.le_refl _ | exact le1 _ | exact le2 _ | exact le3 _ | exact le4 _ | exact le5 _ | exact le6 _) _ | refine Ext.trans ?_ (by assumption)))⟩
      · go_wp2_with (go_at_call 54; (with_reducible refine (B5.out _).mono ?_); rintro e w2 ⟨rfl, rfl⟩)
        go_round
        case rel => exact .inr (.inr (.inr (.inr (.inr (.inr (⟨rfl, by trivial, by trivial, by trivial, by trivial, by trivial, by trivial⟩))))))
        case measure => simp [intOf]
    · clear B0 B1 B2 B3 B4 B5
      go_wp2
      have E1 : Ext w (w.alloc (.cells #[.int .i64 z0, .int .i64 z1, .int .i64 z2, .int .i64 z3, .int .i64 z4, .int .i64 z5, .slice A passages.length cap] 26)) := by (repeat' (first | exact Ext.refl _ | assumption | refine Ext.alloc ?_ _ | refine Ext.drew ?_ | refine Ext.drewN ?_ _ | refine Ext.set ?_ (by first | exact Nat.le_refl _ | exact le1 _ | exact le2 _ | exact le3 _ | exact le4 _ | exact le5 _ | exact le6 _) _ | refine Ext.trans ?_ (by assumption)))
      have D6 : (w.alloc (.cells #[.int .i64 z0, .int .i64 z1, .int .i64 z2, .int .i64 z3, .int .i64 z4, .int .i64 z5, .slice A passages.length cap] 26)).cell? ⟨w.heap.size, 6, none⟩ = some (.slice A passages.length cap) := by go_simp
      generalize w.alloc (.cells #[.int .i64 z0, .int .i64 z1, .int .i64 z2, .int .i64 z3, .int .i64 z4, .int .i64 z5, .slice A passages.length cap] 26) = W at *
      have HD := Lib.hid D6
      clear D6
      go_loopw [4, 5] (fun i _ wr => ∃ k : Nat, k ≤ passages.length ∧ i = .int .i64 k ∧ (passages.take k).all passB = true ∧ Ext W wr) (fun i _ _ => passages.length - (intOf i).toNat)
      case atStart => exact ⟨0, by omega, rfl, by simp, Ext.refl _⟩
      case round =>
        obtain ⟨k, hk, rfl, ha, hb⟩ := hrel
        have HA := Lib.hid ha
        clear ha
        have d6 := Ext.cell hb HD.out
        by_cases hlt : k < passages.length
        · obtain ⟨x, hx⟩ := some_of_lt hlt
          obtain ⟨b, off, cs, rfl, hn, hr, hc⟩ := (HS.out.ext RPass.stable (E1.trans hb)).at hx
          obtain rfl : cs = [.string x.auth, .string x.road, .int .i64 x.minutes] := hr
          have k0 := hc 0 _ rfl
          have k1 := hc 1 _ rfl
          have k2 := hc 2 _ rfl
          simp only [Nat.add_zero] at k0
          have HX := Lib.hid hx
          have hbl := lt_of_cell k0
          have N1 := fun w => Named_c x.auth w
          have N2 := fun w => Named_c x.road w
          have M1 := fun w => within_c x.minutes 1 10080 w
          obtain ⟨z, hz⟩ : ∃ z, passB x = z := ⟨_, rfl⟩
          have HZ := Lib.hid hz
          unfold passB at hz
          generalize nameB x.auth = n1 at *
          generalize nameB x.road = n2 at *
          generalize inB x.minutes 1 10080 = m1 at *
          generalize x.auth = xa at *
          generalize x.road = xr at *
          generalize x.minutes = xm at *
          replace N1 := Lib.hid N1
          replace N2 := Lib.hid N2
          replace M1 := Lib.hid M1
          clear hc hn hx
          by_cases hbad : z = false
          · subst hbad
            obtain rfl : ra = false := (HRA.out).symm.trans (all_no HX.out HZ.out)
            cases n1
            · clear hz
              go_wp2_with (first | (go_at_call 55; (with_reducible refine (N1.out _).mono ?_); rintro e w2 ⟨rfl, rfl⟩) | (go_at_call 55; (with_reducible refine (N2.out _).mono ?_); rintro e w3 ⟨rfl, rfl⟩) | (go_at_call 54; (with_reducible refine (M1.out _).mono ?_); rintro e w4 ⟨rfl, rfl⟩))
              go_ret
              exact ⟨by simp, by (repeat' (first | exact Ext.refl _ | assumption | refine Ext.alloc ?_ _ | refine Ext.drew ?_ | refine Ext.drewN ?_ _ | refine Ext.set ?_ (by first | exact Nat.le_refl _ | exact le1 _ | exact le2 _ | exact le3 _ | exact le4 _ | exact le5 _ | exact le6 _) _ | refine Ext.trans ?_ (by assumption)))⟩
            cases n2
            · clear hz
              go_wp2_with (first | (go_at_call 55; (with_reducible refine (N1.out _).mono ?_); rintro e w2 ⟨rfl, rfl⟩) | (go_at_call 55; (with_reducible refine (N2.out _).mono ?_); rintro e w3 ⟨rfl, rfl⟩) | (go_at_call 54; (with_reducible refine (M1.out _).mono ?_); rintro e w4 ⟨rfl, rfl⟩))
              go_ret
              exact ⟨by simp, by (repeat' (first | exact Ext.refl _ | assumption | refine Ext.alloc ?_ _ | refine Ext.drew ?_ | refine Ext.drewN ?_ _ | refine Ext.set ?_ (by first | exact Nat.le_refl _ | exact le1 _ | exact le2 _ | exact le3 _ | exact le4 _ | exact le5 _ | exact le6 _) _ | refine Ext.trans ?_ (by assumption)))⟩
            obtain rfl : m1 = false := by simpa using hz
            clear hz
            go_wp2_with (first | (go_at_call 55; (with_reducible refine (N1.out _).mono ?_); rintro e w2 ⟨rfl, rfl⟩) | (go_at_call 55; (with_reducible refine (N2.out _).mono ?_); rintro e w3 ⟨rfl, rfl⟩) | (go_at_call 54; (with_reducible refine (M1.out _).mono ?_); rintro e w4 ⟨rfl, rfl⟩))
            go_ret
            exact ⟨by simp, by (repeat' (first | exact Ext.refl _ | assumption | refine Ext.alloc ?_ _ | refine Ext.drew ?_ | refine Ext.drewN ?_ _ | refine Ext.set ?_ (by first | exact Nat.le_refl _ | exact le1 _ | exact le2 _ | exact le3 _ | exact le4 _ | exact le5 _ | exact le6 _) _ | refine Ext.trans ?_ (by assumption)))⟩
          · obtain rfl : z = true := by simpa using hbad
            rw [Bool.and_eq_true, Bool.and_eq_true] at hz
            obtain ⟨⟨rfl, rfl⟩, rfl⟩ := hz
            clear hbad
            go_wp2_with (first | (go_at_call 55; (with_reducible refine (N1.out _).mono ?_); rintro e w2 ⟨rfl, rfl⟩) | (go_at_call 55; (with_reducible refine (N2.out _).mono ?_); rintro e w3 ⟨rfl, rfl⟩) | (go_at_call 54; (with_reducible refine (M1.out _).mono ?_); rintro e w4 ⟨rfl, rfl⟩))
            go_roundw
            case rel => exact ⟨k + 1, by omega, by go_num, all_take HX.out HA.out HZ.out, by (repeat' (first | exact Ext.refl _ | assumption | refine Ext.alloc ?_ _ | refine Ext.drew ?_ | refine Ext.drewN ?_ _ | refine Ext.set ?_ (by first | exact Nat.le_refl _ | exact le1 _ | exact le2 _ | exact le3 _ | exact le4 _ | exact le5 _ | exact le6 _) _ | refine Ext.trans ?_ (by assumption)))⟩
            case measure => simp [intOf]; omega
        · have hra : ra = true := HRA.out.symm.trans (all_end HA.out (by omega))
          subst hra
          go_wp2
          go_ret
          exact ⟨by simp, E1.trans hb⟩

end Go.Proofs.Ytaomlmkcifpfkaa