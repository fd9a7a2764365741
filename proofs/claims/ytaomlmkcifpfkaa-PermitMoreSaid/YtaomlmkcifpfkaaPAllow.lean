/- Contracts: 'find', the passage named; 'Allowed'. -/
import Derived.Test.YtaomlmkcifpfkaaPDayAll
import Derived.Test.YtaomlmkcifpfkaaPFind
namespace Go.Proofs.Ytaomlmkcifpfkaa
open Go.RowKit Go.Maps
attribute [local go_sem ↓] Go.wp_at_zero Go.wp_at_succ

theorem rsOf_ok {l : List PAuth} {t : PTrip} (hV : Valid l t) {k : Nat} {p : PPass} (hp : t.passages[k]? = some p) : (∀ r ∈ rsOf l t p, ruleB r = true) ∧ (rsOf l t p).length ≤ 24 := by
  obtain ⟨a, x, h1, h2, h3, h4, h5, h6, h7⟩ := hV.auth hp
  constructor
  · intro r hr
    unfold rsOf selOf at hr
    obtain ⟨q, hq, rfl⟩ := List.mem_map.1 hr
    have := (ruleSel_mem hq).1
    rw [h6] at this
    exact (authE_zero h7).2.2.2.2 _ this
  · unfold rsOf selOf
    rw [List.length_map, h6]
    exact Nat.le_trans (ruleSel_len _ _ _ _) (authE_zero h7).1
theorem pass_ok {l : List PAuth} {t : PTrip} (hV : Valid l t) {k : Nat} {p : PPass} (hp : t.passages[k]? = some p) : 1 ≤ p.minutes ∧ p.minutes ≤ 10080 := by
  have h := hV.passes p (mem_of_some hp)
  unfold passB at h
  simp only [Bool.and_eq_true, inB_iff] at h
  omega
/-! ### a passage's rules, their conditions' numbers, its minutes -/
def rsAt (l : List PAuth) (t : PTrip) (k : Int) : List PRule := match t.passages[k.toNat]? with | some p => rsOf l t p | none => []
def numsAt (l : List PAuth) (t : PTrip) (k : Int) : List Int := match t.passages[k.toNat]? with | some p => numsOf l t k.toNat p | none => []
def minAt (t : PTrip) (k : Int) : Int := match t.passages[k.toNat]? with | some p => p.minutes | none => 0
structure PassOk (l : List PAuth) (t : PTrip) (k : Int) : Prop where
  valid : Valid l t
  nat : 0 ≤ k
  lt : k < t.passages.length
  rules : ∀ r ∈ rsAt l t k, ruleB r = true
  len : (rsAt l t k).length ≤ 24
  nums : (numsAt l t k).length = (rsAt l t k).length
  min1 : 1 ≤ minAt t k
  min2 : minAt t k ≤ 10080
theorem passOk {l : List PAuth} {t : PTrip} {k : Int} (h : someE l t k = 0) : PassOk l t k := by
  unfold someE at h
  by_cases h0 : beginE l t = 0
  · rw [if_pos h0] at h
    by_cases h1 : k < 0 ∨ (t.passages.length : Int) ≤ k
    · rw [if_pos h1] at h; cases h
    · have hV := valid_of_begin h0
      obtain ⟨p, hp⟩ := some_of_lt (l := t.passages) (k := k.toNat) (by omega)
      have e1 : rsAt l t k = rsOf l t p := by unfold rsAt; rw [hp]
      have e2 : numsAt l t k = numsOf l t k.toNat p := by unfold numsAt; rw [hp]
      have e3 : minAt t k = p.minutes := by unfold minAt; rw [hp]
      have h2 := rsOf_ok hV hp
      have h3 := pass_ok hV hp
      exact ⟨hV, by omega, by omega, by rw [e1]; exact h2.1, by rw [e1]; exact h2.2, by rw [e1, e2]; unfold numsOf rsOf; simp, by omega, by omega⟩
  · rw [if_neg h0] at h; exact absurd h h0
/-- what 'find' answers, the passage named -/
def FindP (l : List PAuth) (t : PTrip) (k : Int) (w : World) (e : Ending) (w' : World) : Prop :=
  Ext w w' ∧ ((someE l t k ≠ 0 ∧ e = .returned (.tuple #[.pointer none, .int .i64 (someE l t k)])) ∨
    (someE l t k = 0 ∧ ∃ (B o : Nat) (vl vn : Value), e = .returned (.tuple #[.pointer (some ⟨B, o, none⟩), .int .i64 0]) ∧ w'.cell? ⟨B, o, none⟩ = some vl ∧ w'.cell? ⟨B, o + 1, none⟩ = some vn ∧ w'.cell? ⟨B, o + 2, none⟩ = some (.int .i64 (minAt t k)) ∧ Sl 11 RRule w' vl (rsAt l t k) ∧ Sl 1 RInt w' vn (numsAt l t k)))
theorem findP_c (v vp : Value) (l : List PAuth) (t : PTrip) (k : Int) (w : World) (hk : -9223372036854775808 ≤ k) (hk2 : k ≤ 9223372036854775807) (hs : Sl 4 RAuth w v l) (hp : Sl 3 RPass w vp t.passages) :
    Calls Try.prog 56 #[v, tripV t vp, .int .i64 k] w (FindP l t k w) := by
  refine (find_c v vp l t k w hk hk2 hs hp).mono ?_
  rintro e w1 ⟨hb, ⟨h0, rfl⟩ | ⟨h0, h1, rfl⟩ | ⟨h0, r, B, o, vl, vn, h1, h2, rfl, c0, c1, c2, hr1, hr2⟩⟩
  · have hE : someE l t k = beginE l t := by unfold someE; rw [if_neg h0]
    exact ⟨hb, .inl ⟨by rw [hE]; exact h0, by rw [hE]⟩⟩
  · have hE : someE l t k = 3 := by unfold someE; rw [if_pos h0, if_pos h1]
    exact ⟨hb, .inl ⟨by rw [hE]; decide, by rw [hE]⟩⟩
  · have hlt : k.toNat < t.passages.length := by
      have := lt_of_some h2
      unfold desk at this
      rwa [deskN_len _ (Nat.le_refl _)] at this
    obtain ⟨p, hp⟩ := some_of_lt hlt
    have h3 := deskN_at (l := l) hp t.passages.length hlt (Nat.le_refl _)
    unfold desk at h2
    rw [h3] at h2
    obtain rfl := Option.some.inj h2
    have hE : someE l t k = 0 := by unfold someE; rw [if_pos h0, if_neg (by omega)]
    have e1 : rsAt l t k = rsOf l t p := by unfold rsAt; rw [hp]
    have e2 : numsAt l t k = numsOf l t k.toNat p := by unfold numsAt; rw [hp]
    have e3 : minAt t k = p.minutes := by unfold minAt; rw [hp]
    exact ⟨hb, .inr ⟨hE, B, o, vl, vn, rfl, c0, c1, by rw [e3]; exact c2, by rw [e1]; exact hr1, by rw [e2]; exact hr2⟩⟩

def allowS (l : List PAuth) (t : PTrip) (k m : Int) : Bool × Int := if someE l t k = 0 then (if inB m 0 1099511627776 = true then (allowedB (rsAt l t k) m, 0) else (false, 3)) else (false, someE l t k)
theorem allowS_bad {l : List PAuth} {t : PTrip} {k m : Int} (h : someE l t k ≠ 0) : allowS l t k m = (false, someE l t k) := by unfold allowS; rw [if_neg h]
theorem allowS_range {l : List PAuth} {t : PTrip} {k m : Int} (h : someE l t k = 0) (h2 : inB m 0 1099511627776 = false) : allowS l t k m = (false, 3) := by unfold allowS; rw [if_pos h, if_neg (by rw [h2]; simp)]
theorem allowS_ok {l : List PAuth} {t : PTrip} {k m : Int} (h : someE l t k = 0) (h2 : inB m 0 1099511627776 = true) : allowS l t k m = (allowedB (rsAt l t k) m, 0) := by unfold allowS; rw [if_pos h, if_pos h2]
/-- what 'Allowed' answers -/
def AllowR (l : List PAuth) (t : PTrip) (k m : Int) (w : World) (e : Ending) (w' : World) : Prop := Ext w w' ∧ e = .returned (.tuple #[.bool (allowS l t k m).1, .int .i64 (allowS l t k m).2])
set_option maxRecDepth 100000 in
set_option maxHeartbeats 1600000 in
theorem Allowed_c (v vp : Value) (l : List PAuth) (t : PTrip) (k m : Int) (w : World) (hk : -9223372036854775808 ≤ k) (hk2 : k ≤ 9223372036854775807) (hs : Sl 4 RAuth w v l) (hp : Sl 3 RPass w vp t.passages) :
    Calls Try.prog 30 #[v, tripV t vp, .int .i64 k, .int .i64 m] w (AllowR l t k m w) := by
  have C1 := fun w' (h : Ext w w') => findP_c v vp l t k w' hk hk2 (hs.ext RAuth.stable h) (hp.ext RPass.stable h)
  obtain ⟨A, cap, rfl, hl, hcap⟩ := hs.shape
  obtain ⟨Ap, capp, rfl, hpl, hpcap⟩ := hp.shape
  have C2 := fun w' => validMinute_c m w'
  unfold tripV at *
  replace C1 := Lib.hid C1
  clear hs hp
  obtain ⟨Post, hPost⟩ : ∃ Post, AllowR l t k m w = Post := ⟨_, rfl⟩
  rw [hPost]
  replace hPost := Lib.hid hPost
  go_enter Try.func30, Try.ntmps30
  go_wp2_with fail
  refine (C1.out _ (by (repeat' (first | exact Ext.refl _ | assumption | refine Ext.alloc ?_ _ | refine Ext.drew ?_ | refine Ext.drewN ?_ _ | refine Ext.set ?_ (by first | exact Nat.le_refl _ | exact le1 _ | exact le2 _ | exact le3 _ | exact le4 _ | exact le5 _ | exact le6 _) _ | refine Ext.trans ?_ (by assumption))))).mono ?_
  rintro e w1 ⟨hb1, ⟨hne, rfl⟩ | ⟨h0, B, o, vl, vn, rfl, c0, c1, c2, hr1, hr2⟩⟩
  · have hne' : (someE l t k != 0) = true := by simp [hne]
    have E1 : Ext w w1 := by (repeat' (first | exact Ext.refl _ | assumption | refine Ext.alloc ?_ _ | refine Ext.drew ?_ | refine Ext.drewN ?_ _ | refine Ext.set ?_ (by first | exact Nat.le_refl _ | exact le1 _ | exact le2 _ | exact le3 _ | exact le4 _ | exact le5 _ | exact le6 _) _ | refine Ext.trans ?_ (by assumption)))
    have HA := Lib.hid (allowS_bad (m := m) hne)
    generalize someE l t k = E at *
    go_wp2_with fail
    rw [← hPost.out]
    exact ⟨E1, by rw [HA.out]; rfl⟩
  · have E1 : Ext w w1 := by (repeat' (first | exact Ext.refl _ | assumption | refine Ext.alloc ?_ _ | refine Ext.drew ?_ | refine Ext.drewN ?_ _ | refine Ext.set ?_ (by first | exact Nat.le_refl _ | exact le1 _ | exact le2 _ | exact le3 _ | exact le4 _ | exact le5 _ | exact le6 _) _ | refine Ext.trans ?_ (by assumption)))
    have hPO := passOk h0
    cases hm : inB m 0 1099511627776
    · have HA := Lib.hid (allowS_range h0 hm)
      rw [hm] at C2
      clear hm h0 hr1 hr2 hPO
      replace C2 := Lib.hid C2
      go_wp2_with (go_at_call 57; refine (C2.out _).mono ?_; rintro e w2 ⟨rfl, rfl⟩)
      rw [← hPost.out]
      exact ⟨E1, by rw [HA.out]; rfl⟩
    · have HA := Lib.hid (allowS_ok h0 hm)
      rw [inB_iff] at hm
      have C3 := fun w' (h : Ext w1 w') => allowedAt_c B o vl (rsAt l t k) m w' (hr1.ext RRule.stable h) hPO.rules hm.1 (by omega) (h.cell c0)
      rw [show inB m 0 1099511627776 = true from inB_iff.2 hm] at C2
      generalize allowedB (rsAt l t k) m = q at *
      replace C3 := Lib.hid C3
      replace C2 := Lib.hid C2
      clear hr1 hr2 hPO h0
      go_wp2_with (first | (go_at_call 57; refine (C2.out _).mono ?_; rintro e w2 ⟨rfl, rfl⟩) | (go_at_call 69; refine (C3.out _ (by (repeat' (first | exact Ext.refl _ | assumption | refine Ext.alloc ?_ _ | refine Ext.drew ?_ | refine Ext.drewN ?_ _ | refine Ext.set ?_ (by first | exact Nat.le_refl _ | exact le1 _ | exact le2 _ | exact le3 _ | exact le4 _ | exact le5 _ | exact le6 _) _ | refine Ext.trans ?_ (by assumption))))).mono ?_; rintro e w3 ⟨rfl, hb3⟩))
      rw [← hPost.out]
      exact ⟨E1.trans hb3, by rw [HA.out]; rfl⟩
end Go.Proofs.Ytaomlmkcifpfkaa
