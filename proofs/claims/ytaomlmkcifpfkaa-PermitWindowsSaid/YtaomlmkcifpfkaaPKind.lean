/- Contracts: set.of and set.kind. -/
import Derived.Test.YtaomlmkcifpfkaaPThings
namespace Go.Proofs.Ytaomlmkcifpfkaa
open Go.RowKit

theorem selok_hours {l : List PRule} (h : ∀ r ∈ l, ruleB r = true) : SelOk l hoursSel := fun r hr => by
  have := ruleB_parts (h r hr)
  unfold hoursSel; simp only; omega
theorem selok_season {l : List PRule} (h : ∀ r ∈ l, ruleB r = true) : SelOk l seasonSel := fun r hr => by
  have := ruleB_parts (h r hr)
  unfold seasonSel; simp only; omega
set_option maxRecDepth 100000 in
set_option maxHeartbeats 1600000 in
theorem of_c (v vt : Value) (l : List PRule) (ts : List ByteArray) (k : Nat) (w : World) (hs : Sl 11 RRule w v l) (ht : Sl 1 RStr w vt ts) (hv : ∀ r ∈ l, ruleB r = true) (hk1 : 1 ≤ k) (hk2 : k < 5 + ts.length) :
    Calls Try.prog 66 #[v, .int .i64 k, vt] w fun e w' => e = .returned (.bool (ofB l ts k)) ∧ Ext w w' := by
  have C1 := fun w' (h : Ext w w') => forbid_c v l w' (hs.ext RRule.stable h)
  have C2 := fun w' (h : Ext w w') => hours_c v l w' (hs.ext RRule.stable h) (selok_hours hv)
  have C3 := fun w' (h : Ext w w') => days_c v l w' (hs.ext RRule.stable h)
  have C4 := fun w' (h : Ext w w') => season_c v l w' (hs.ext RRule.stable h) (selok_season hv)
  have C5 := fun nm w' (h : Ext w w') => thing_c nm v l w' (hs.ext RRule.stable h)
  obtain ⟨A, cap, rfl, hl, hl2⟩ := hs.shape
  obtain ⟨At, capt, rfl, htl, htl2⟩ := ht.shape
  have hst0 : ∀ a m W, (store a .nilFunc m).run Try.prog W = stored Try.prog W a .nilFunc m := fun a m W => run_store Try.prog W a _ m rfl
  have hst1 : ∀ f g e a m W, (store a (.func f g e) m).run Try.prog W = stored Try.prog W a (.func f g e) m := fun f g e a m W => run_store Try.prog W a _ m rfl
  match k, hk1 with
  | 1, _ =>
    rw [show ofB l ts 1 = (l.any fun r => r.forbid) from rfl]
    replace C1 : ∀ w', Ext w w' → Calls Try.prog 93 #[.slice A l.length cap] w' fun e w'' => e = .returned (.bool (l.any fun r => r.forbid)) ∧ Ext w' w'' := C1
    generalize (l.any fun r => r.forbid) = q at *
    replace C1 := Lib.hid C1
    clear C2 C3 C4 C5 hs ht hv
    go_enter Try.func66, Try.ntmps66
    go_wp2_with (go_at_call 93; refine (C1.out _ (by (repeat' (first | exact Ext.refl _ | assumption | refine Ext.alloc ?_ _ | refine Ext.drew ?_ | refine Ext.drewN ?_ _ | refine Ext.set ?_ (by first | exact Nat.le_refl _ | exact le1 _ | exact le2 _ | exact le3 _ | exact le4 _ | exact le5 _ | exact le6 _) _ | refine Ext.trans ?_ (by assumption))))).mono ?_; rintro e w2 ⟨rfl, hb2⟩)
    go_ret
    exact ⟨rfl, by (repeat' (first | exact Ext.refl _ | assumption | refine Ext.alloc ?_ _ | refine Ext.drew ?_ | refine Ext.drewN ?_ _ | refine Ext.set ?_ (by first | exact Nat.le_refl _ | exact le1 _ | exact le2 _ | exact le3 _ | exact le4 _ | exact le5 _ | exact le6 _) _ | refine Ext.trans ?_ (by assumption)))⟩
  | 2, _ =>
    rw [show ofB l ts 2 = (emptyB l 1440 hoursSel) from rfl]
    replace C2 : ∀ w', Ext w w' → Calls Try.prog 94 #[.slice A l.length cap] w' fun e w'' => e = .returned (.bool (emptyB l 1440 hoursSel)) ∧ Ext w' w'' := C2
    generalize (emptyB l 1440 hoursSel) = q at *
    replace C2 := Lib.hid C2
    clear C1 C3 C4 C5 hs ht hv
    go_enter Try.func66, Try.ntmps66
    go_wp2_with (go_at_call 94; refine (C2.out _ (by (repeat' (first | exact Ext.refl _ | assumption | refine Ext.alloc ?_ _ | refine Ext.drew ?_ | refine Ext.drewN ?_ _ | refine Ext.set ?_ (by first | exact Nat.le_refl _ | exact le1 _ | exact le2 _ | exact le3 _ | exact le4 _ | exact le5 _ | exact le6 _) _ | refine Ext.trans ?_ (by assumption))))).mono ?_; rintro e w2 ⟨rfl, hb2⟩)
    go_ret
    exact ⟨rfl, by (repeat' (first | exact Ext.refl _ | assumption | refine Ext.alloc ?_ _ | refine Ext.drew ?_ | refine Ext.drewN ?_ _ | refine Ext.set ?_ (by first | exact Nat.le_refl _ | exact le1 _ | exact le2 _ | exact le3 _ | exact le4 _ | exact le5 _ | exact le6 _) _ | refine Ext.trans ?_ (by assumption)))⟩
  | 3, _ =>
    rw [show ofB l ts 3 = (daysN l == 0) from rfl]
    replace C3 : ∀ w', Ext w w' → Calls Try.prog 95 #[.slice A l.length cap] w' fun e w'' => e = .returned (.bool (daysN l == 0)) ∧ Ext w' w'' := C3
    generalize (daysN l == 0) = q at *
    replace C3 := Lib.hid C3
    clear C1 C2 C4 C5 hs ht hv
    go_enter Try.func66, Try.ntmps66
    go_wp2_with (go_at_call 95; refine (C3.out _ (by (repeat' (first | exact Ext.refl _ | assumption | refine Ext.alloc ?_ _ | refine Ext.drew ?_ | refine Ext.drewN ?_ _ | refine Ext.set ?_ (by first | exact Nat.le_refl _ | exact le1 _ | exact le2 _ | exact le3 _ | exact le4 _ | exact le5 _ | exact le6 _) _ | refine Ext.trans ?_ (by assumption))))).mono ?_; rintro e w2 ⟨rfl, hb2⟩)
    go_ret
    exact ⟨rfl, by (repeat' (first | exact Ext.refl _ | assumption | refine Ext.alloc ?_ _ | refine Ext.drew ?_ | refine Ext.drewN ?_ _ | refine Ext.set ?_ (by first | exact Nat.le_refl _ | exact le1 _ | exact le2 _ | exact le3 _ | exact le4 _ | exact le5 _ | exact le6 _) _ | refine Ext.trans ?_ (by assumption)))⟩
  | 4, _ =>
    rw [show ofB l ts 4 = (emptyB l 365 seasonSel) from rfl]
    replace C4 : ∀ w', Ext w w' → Calls Try.prog 96 #[.slice A l.length cap] w' fun e w'' => e = .returned (.bool (emptyB l 365 seasonSel)) ∧ Ext w' w'' := C4
    generalize (emptyB l 365 seasonSel) = q at *
    replace C4 := Lib.hid C4
    clear C1 C2 C3 C5 hs ht hv
    go_enter Try.func66, Try.ntmps66
    go_wp2_with (go_at_call 96; refine (C4.out _ (by (repeat' (first | exact Ext.refl _ | assumption | refine Ext.alloc ?_ _ | refine Ext.drew ?_ | refine Ext.drewN ?_ _ | refine Ext.set ?_ (by first | exact Nat.le_refl _ | exact le1 _ | exact le2 _ | exact le3 _ | exact le4 _ | exact le5 _ | exact le6 _) _ | refine Ext.trans ?_ (by assumption))))).mono ?_; rintro e w2 ⟨rfl, hb2⟩)
    go_ret
    exact ⟨rfl, by (repeat' (first | exact Ext.refl _ | assumption | refine Ext.alloc ?_ _ | refine Ext.drew ?_ | refine Ext.drewN ?_ _ | refine Ext.set ?_ (by first | exact Nat.le_refl _ | exact le1 _ | exact le2 _ | exact le3 _ | exact le4 _ | exact le5 _ | exact le6 _) _ | refine Ext.trans ?_ (by assumption)))⟩
  | j + 5, _ =>
    obtain ⟨x, hx⟩ := some_of_lt (l := ts) (k := j) (by omega)
    obtain ⟨b, off, cs, rfl, hn, rfl, hc⟩ := ht.at hx
    rw [show ofB l ts (j + 5) = thingB l x by simp only [ofB, hx]]
    have c0 := hc 0 _ rfl
    replace C5 := C5 x
    generalize thingB l x = q at *
    replace C5 := Lib.hid C5
    clear C1 C2 C3 C4 hs ht hv hc hn
    simp only [Nat.mul_one, Nat.add_zero] at c0
    have hbl := lt_of_cell c0
    have j0 : (0 : Int) ≤ (j : Int) := by omega
    have j1 : (j : Int) + 5 - 5 = j := by omega
    have j2 : (j : Int) < (ts.length : Int) := by omega
    rw [show ((j + 5 : Nat) : Int) = (j : Int) + 5 by omega]
    go_enter Try.func66, Try.ntmps66
    go_wp2_with (go_at_call 97; refine (C5.out _ (by (repeat' (first | exact Ext.refl _ | assumption | refine Ext.alloc ?_ _ | refine Ext.drew ?_ | refine Ext.drewN ?_ _ | refine Ext.set ?_ (by first | exact Nat.le_refl _ | exact le1 _ | exact le2 _ | exact le3 _ | exact le4 _ | exact le5 _ | exact le6 _) _ | refine Ext.trans ?_ (by assumption))))).mono ?_; rintro e w2 ⟨rfl, hb2⟩)
    go_ret
    exact ⟨rfl, by (repeat' (first | exact Ext.refl _ | assumption | refine Ext.alloc ?_ _ | refine Ext.drew ?_ | refine Ext.drewN ?_ _ | refine Ext.set ?_ (by first | exact Nat.le_refl _ | exact le1 _ | exact le2 _ | exact le3 _ | exact le4 _ | exact le5 _ | exact le6 _) _ | refine Ext.trans ?_ (by assumption)))⟩

theorem kindF_stop {f : Nat → Bool} {n k : Nat} (h : f k = true) : kindF f (n + 1) k = k := by simp only [kindF]; rw [if_pos h]
theorem kindF_next {f : Nat → Bool} {n k : Nat} (h : f k = false) : kindF f (n + 1) k = kindF f n (k + 1) := by simp only [kindF]; rw [if_neg (by rw [h]; simp)]
theorem counts_ok {l : List PRule} (h : ∀ r ∈ l, ruleB r = true) : ∀ r ∈ l, r.counts.length ≤ 6 := fun r hr => (ruleB_parts (h r hr)).2.2.2.2.2.2.2.2.1
set_option maxRecDepth 100000 in
set_option maxHeartbeats 1600000 in
theorem kind_c (v : Value) (l : List PRule) (w : World) (hs : Sl 11 RRule w v l) (hv : ∀ r ∈ l, ruleB r = true) (hlen : l.length ≤ 1000) :
    Calls Try.prog 60 #[v] w fun e w' => e = .returned (.int .i64 (kindN l)) ∧ Ext w w' := by
  have C1 := fun w' (h : Ext w w') => things_c v l w' (hs.ext RRule.stable h) hlen (counts_ok hv)
  have C2 := fun vt ts k w' (h : Ext w w') => of_c v vt l ts k w' (hs.ext RRule.stable h)
  obtain ⟨A, cap, rfl, hl, hl2⟩ := hs.shape
  have htl := thingsL_len l (counts_ok hv)
  obtain ⟨ts, hts⟩ : ∃ ts, thingsL l = ts := ⟨_, rfl⟩
  obtain ⟨R, hR⟩ : ∃ R, kindN l = R := ⟨_, rfl⟩
  have HR : kindF (ofB l ts) (4 + ts.length) 1 = R := by rw [← hR, ← hts]; rfl
  have HV := Lib.hid hv
  rw [hR]
  rw [hts] at C1 htl
  have HR0 := Lib.hid HR
  replace C1 := Lib.hid C1
  replace C2 := Lib.hid C2
  clear hs hts hR HR hv
  go_enter Try.func60, Try.ntmps60
  go_wp2_with (go_at_call 61; refine (C1.out _ (by (repeat' (first | exact Ext.refl _ | assumption | refine Ext.alloc ?_ _ | refine Ext.drew ?_ | refine Ext.drewN ?_ _ | refine Ext.set ?_ (by first | exact Nat.le_refl _ | exact le1 _ | exact le2 _ | exact le3 _ | exact le4 _ | exact le5 _ | exact le6 _) _ | refine Ext.trans ?_ (by assumption))))).mono ?_; rintro e w1 ⟨vt, rfl, hown, hb1⟩; obtain ⟨At, capt, rfl, htl1, htl2⟩ := hown.sl.shape)
  have HT := Lib.hid hown.sl
  clear hown
  go_loopw [4] (fun i wr => ∃ k : Nat, 1 ≤ k ∧ k ≤ 5 + ts.length ∧ i = .int .i64 k ∧ kindF (ofB l ts) (5 + ts.length - k) k = R ∧ Ext w1 wr) (fun i _ => 5 + ts.length - (intOf i).toNat)
  case atStart => exact ⟨1, by omega, by omega, rfl, by rw [show 5 + ts.length - 1 = 4 + ts.length by omega]; exact HR0.out, Ext.refl _⟩
  case round =>
    obtain ⟨k, hk1, hk, rfl, hkf, hb⟩ := hrel
    have HKF := Lib.hid hkf
    clear hkf
    by_cases hlt : k < 5 + ts.length
    · have hbw := hb1.trans hb
      have C3 := fun w' (h : Ext wr w') => C2.out (.slice At ts.length capt) ts k w' (hbw.trans h) (HT.out.ext RStr.stable (hb.trans h)) HV.out hk1 hlt
      cases ho : ofB l ts k
      · rw [ho] at C3
        have hX : kindF (ofB l ts) (5 + ts.length - (k + 1)) (k + 1) = R := by
          rw [← HKF.out, show 5 + ts.length - k = (5 + ts.length - (k + 1)) + 1 by omega, kindF_next ho]
        have HX := Lib.hid hX
        replace C3 := Lib.hid C3
        clear ho hX
        go_wp2_with (go_at_call 66; refine (C3.out _ (by (repeat' (first | exact Ext.refl _ | assumption | refine Ext.alloc ?_ _ | refine Ext.drew ?_ | refine Ext.drewN ?_ _ | refine Ext.set ?_ (by first | exact Nat.le_refl _ | exact le1 _ | exact le2 _ | exact le3 _ | exact le4 _ | exact le5 _ | exact le6 _) _ | refine Ext.trans ?_ (by assumption))))).mono ?_; rintro e w2 ⟨rfl, hb2⟩)
        go_roundw
        case rel => exact ⟨k + 1, by omega, by omega, by go_num, HX.out, by (repeat' (first | exact Ext.refl _ | assumption | refine Ext.alloc ?_ _ | refine Ext.drew ?_ | refine Ext.drewN ?_ _ | refine Ext.set ?_ (by first | exact Nat.le_refl _ | exact le1 _ | exact le2 _ | exact le3 _ | exact le4 _ | exact le5 _ | exact le6 _) _ | refine Ext.trans ?_ (by assumption)))⟩
        case measure => simp [intOf]; omega
      · rw [ho] at C3
        have hX : k = R := by
          rw [← HKF.out, show 5 + ts.length - k = (5 + ts.length - (k + 1)) + 1 by omega, kindF_stop ho]
        have HX := Lib.hid hX
        replace C3 := Lib.hid C3
        clear ho hX
        go_wp2_with (go_at_call 66; refine (C3.out _ (by (repeat' (first | exact Ext.refl _ | assumption | refine Ext.alloc ?_ _ | refine Ext.drew ?_ | refine Ext.drewN ?_ _ | refine Ext.set ?_ (by first | exact Nat.le_refl _ | exact le1 _ | exact le2 _ | exact le3 _ | exact le4 _ | exact le5 _ | exact le6 _) _ | refine Ext.trans ?_ (by assumption))))).mono ?_; rintro e w2 ⟨rfl, hb2⟩)
        go_ret
        exact ⟨by have h := HX.out; subst h; rfl, by (repeat' (first | exact Ext.refl _ | assumption | refine Ext.alloc ?_ _ | refine Ext.drew ?_ | refine Ext.drewN ?_ _ | refine Ext.set ?_ (by first | exact Nat.le_refl _ | exact le1 _ | exact le2 _ | exact le3 _ | exact le4 _ | exact le5 _ | exact le6 _) _ | refine Ext.trans ?_ (by assumption)))⟩
    · have hX : 0 = R := by
        rw [← HKF.out, show 5 + ts.length - k = 0 by omega]; rfl
      have HX := Lib.hid hX
      clear hX
      go_wp2
      go_ret
      exact ⟨by rw [← HX.out]; rfl, hb1.trans hb⟩
end Go.Proofs.Ytaomlmkcifpfkaa
