/- Contracts: whether lists are valid, and whether a span is allowed (both of the law's). -/
import Derived.Test.YtaomlmkcifpfkaaPRNext
namespace Go.Proofs.Ytaomlmkcifpfkaa
open Go.RowKit Go.Shelf
attribute [local go_sem ↓] Go.wp_at_zero Go.wp_at_succ

set_option maxRecDepth 100000 in
set_option maxHeartbeats 1600000 in
theorem lawValid_c (v vp : Value) (l : List PAuth) (t : PTrip) (w : World) (hs : Sl 4 RAuth w v l) (hp : Sl 3 RPass w vp t.passages) :
    Calls Try.prog 22 #[v, tripV t vp] w fun e w' => e = .returned (.bool (decide (beginE l t = 0))) ∧ Ext w w' := by
  have C2 := fun w' (h : Ext w w') => RCompile_c v vp l t w' (hs.ext RAuth.stable h) (hp.ext RPass.stable h)
  obtain ⟨A, cap, rfl, hl, hcap⟩ := hs.shape
  obtain ⟨Ap, capp, rfl, hpl, hpcap⟩ := hp.shape
  unfold tripV at *
  generalize beginE l t = E at *
  generalize (compS l t).1 = cl at *
  generalize (compS l t).2.1 = F at *
  generalize (compS l t).2.2 = N at *
  replace C2 := Lib.hid C2
  clear hs hp
  go_enter Try.func22, Try.ntmps22
  go_wp2_with (go_at_call 15; refine (C2.out _ (by (repeat' (first | exact Ext.refl _ | assumption | refine Ext.alloc ?_ _ | refine Ext.drew ?_ | refine Ext.drewN ?_ _ | refine Ext.set ?_ (by first | exact Nat.le_refl _ | exact le1 _ | exact le2 _ | exact le3 _ | exact le4 _ | exact le5 _ | exact le6 _) _ | refine Ext.trans ?_ (by assumption))))).mono ?_; rintro e w4 ⟨vb, rfl, hb, hb4⟩; obtain ⟨Ab, capb, rfl, _, _⟩ := hb.shape)
  go_ret
  exact ⟨rfl, by (repeat' (first | exact Ext.refl _ | assumption | refine Ext.alloc ?_ _ | refine Ext.drew ?_ | refine Ext.drewN ?_ _ | refine Ext.set ?_ (by first | exact Nat.le_refl _ | exact le1 _ | exact le2 _ | exact le3 _ | exact le4 _ | exact le5 _ | exact le6 _) _ | refine Ext.trans ?_ (by assumption)))⟩

/-- allowed all along -/
def freeP (rs : List PRule) (m d : Int) : Prop := ∀ x, m ≤ x → x < m + d → allowedB rs x = true
def FreeR (l : List PRule) (m d : Int) (w : World) (e : Ending) (w' : World) : Prop := (∃ b, e = .returned (.bool b) ∧ (b = true ↔ freeP l m d)) ∧ Ext w w'
theorem freeP_no {rs : List PRule} {m d y : Int} (h1 : m ≤ y) (h2 : y < m + d) (h3 : allowedB rs y = false) : (false = true) ↔ freeP rs m d := by
  constructor
  · intro h; cases h
  · intro h; have := h y h1 h2; rw [h3] at this; cases this

set_option maxRecDepth 100000 in
set_option maxHeartbeats 1600000 in
theorem free_c (v : Value) (l : List PRule) (m d : Int) (w : World) (hs : Sl 11 RRule w v l) (hv : ∀ r ∈ l, ruleB r = true) (h0 : 0 ≤ m) (hm : m ≤ 4398046511104) (hd : 0 ≤ d) (hd2 : d ≤ 100000000) :
    Calls Try.prog 24 #[v, .int .i64 m, .int .i64 d] w (FreeR l m d w) := by
  obtain ⟨A, cap, rfl, hl, hl2⟩ := hs.shape
  have HS := Lib.hid hs
  have HV := Lib.hid hv
  clear hs hv
  have hwx := IntWalk.i64_in (m + d) (by omega)
  go_enter Try.func24, Try.ntmps24
  go_wp2_with fail
  go_loopw [7] (fun i wr => ∃ y : Int, m ≤ y ∧ y ≤ m + d ∧ i = .int .i64 y ∧ (∀ x, m ≤ x → x < y → allowedB l x = true) ∧ Ext w wr) (fun i _ => (m + d - intOf i).toNat)
  case atStart => exact ⟨m, by omega, by omega, rfl, fun x h1 h2 => by omega, Ext.refl _⟩
  case round =>
    obtain ⟨y, hy1, hy2, rfl, ha0, hb0⟩ := hrel
    have HA0 := Lib.hid ha0
    clear ha0
    by_cases hlt0 : y < m + d
    · go_wp2_with fail
      go_loopw [8] (fun i wr => ∃ k : Nat, k ≤ l.length ∧ i = .int .i64 k ∧ (l.take k).all (fun r => allowsB r y) = true ∧ Ext w wr) (fun i _ => l.length - (intOf i).toNat)
      case atStart => exact ⟨0, by omega, rfl, by simp, hb0⟩
      case round =>
        obtain ⟨k, hk, rfl, ha, hb⟩ := hrel
        have HA := Lib.hid ha
        clear ha
        by_cases hlt : k < l.length
        · obtain ⟨x, hx⟩ := some_of_lt hlt
          obtain ⟨b, off, cs, rfl, hn, ⟨vr, vw, vc, rfl, hr⟩, hc⟩ := (HS.out.ext RRule.stable hb).at hx
          have HR := fun w' h => Allows_c vr vw vc x y w' (hr.ext h) (HV.out x (List.mem_of_getElem? hx)) (by omega) (by omega)
          have k0 := hc 0 _ rfl
          have k1 := hc 1 _ rfl
          have k2 := hc 2 _ rfl
          have k3 := hc 3 _ rfl
          have k4 := hc 4 _ rfl
          have k5 := hc 5 _ rfl
          have k6 := hc 6 _ rfl
          have k7 := hc 7 _ rfl
          have k8 := hc 8 _ rfl
          have k9 := hc 9 _ rfl
          have k10 := hc 10 _ rfl
          simp only [Nat.add_zero] at k0
          have HX := Lib.hid hx
          obtain ⟨z, hz⟩ : ∃ z, allowsB x y = z := ⟨_, rfl⟩
          rw [hz] at HR
          have HZ := Lib.hid hz
          replace HR := Lib.hid HR
          clear hc hn hx hz hr
          cases z
          · go_wp2_with (go_at_call 59; refine (HR.out _ (by (repeat' (first | exact Ext.refl _ | assumption | refine Ext.alloc ?_ _ | refine Ext.drew ?_ | refine Ext.drewN ?_ _ | refine Ext.set ?_ (by first | exact Nat.le_refl _ | exact le1 _ | exact le2 _ | exact le3 _ | exact le4 _ | exact le5 _ | exact le6 _) _ | refine Ext.trans ?_ (by assumption))))).mono ?_; rintro e w2 ⟨rfl, hb2⟩)
            go_ret
            exact ⟨⟨_, rfl, freeP_no hy1 hlt0 (all_no HX.out HZ.out)⟩, by (repeat' (first | exact Ext.refl _ | assumption | refine Ext.alloc ?_ _ | refine Ext.drew ?_ | refine Ext.drewN ?_ _ | refine Ext.set ?_ (by first | exact Nat.le_refl _ | exact le1 _ | exact le2 _ | exact le3 _ | exact le4 _ | exact le5 _ | exact le6 _) _ | refine Ext.trans ?_ (by assumption)))⟩
          · go_wp2_with (go_at_call 59; refine (HR.out _ (by (repeat' (first | exact Ext.refl _ | assumption | refine Ext.alloc ?_ _ | refine Ext.drew ?_ | refine Ext.drewN ?_ _ | refine Ext.set ?_ (by first | exact Nat.le_refl _ | exact le1 _ | exact le2 _ | exact le3 _ | exact le4 _ | exact le5 _ | exact le6 _) _ | refine Ext.trans ?_ (by assumption))))).mono ?_; rintro e w2 ⟨rfl, hb2⟩)
            go_roundw
            case rel => exact ⟨k + 1, by omega, by go_num, all_take HX.out HA.out HZ.out, by (repeat' (first | exact Ext.refl _ | assumption | refine Ext.alloc ?_ _ | refine Ext.drew ?_ | refine Ext.drewN ?_ _ | refine Ext.set ?_ (by first | exact Nat.le_refl _ | exact le1 _ | exact le2 _ | exact le3 _ | exact le4 _ | exact le5 _ | exact le6 _) _ | refine Ext.trans ?_ (by assumption)))⟩
            case measure => simp [intOf]; omega
        · have hra : allowedB l y = true := all_end HA.out (by omega)
          go_wp2
          go_roundw
          case rel => exact ⟨y + 1, by omega, by omega, by go_num, fun x h1 h2 => by
            by_cases h : x < y
            · exact HA0.out x h1 h
            · obtain rfl : x = y := by omega
              exact hra, hb⟩
          case measure => simp [intOf]; omega
    · go_wp2_with fail
      go_ret
      exact ⟨⟨_, rfl, ⟨fun _ x h1 h2 => HA0.out x h1 (by omega), fun _ => rfl⟩⟩, hb0⟩
end Go.Proofs.Ytaomlmkcifpfkaa
