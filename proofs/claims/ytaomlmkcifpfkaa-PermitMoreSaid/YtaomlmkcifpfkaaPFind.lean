/- Contracts: 'find'. -/
import Derived.Test.YtaomlmkcifpfkaaPComp3
namespace Go.Proofs.Ytaomlmkcifpfkaa
open Go.RowKit Go.Maps
attribute [local go_sem ↓] Go.wp_at_zero Go.wp_at_succ

/-- what 'find' answers -/
def FindR (l : List PAuth) (t : PTrip) (k : Int) (w : World) (e : Ending) (w' : World) : Prop :=
  Ext w w' ∧ ((beginE l t ≠ 0 ∧ e = .returned (.tuple #[.pointer none, .int .i64 (beginE l t)])) ∨
    (beginE l t = 0 ∧ (k < 0 ∨ (t.passages.length : Int) ≤ k) ∧ e = .returned (.tuple #[.pointer none, .int .i64 3])) ∨
    (beginE l t = 0 ∧ ∃ (r : PRules) (B o : Nat) (vl vn : Value), 0 ≤ k ∧ (desk l t)[k.toNat]? = some r ∧ e = .returned (.tuple #[.pointer (some ⟨B, o, none⟩), .int .i64 0]) ∧ w'.cell? ⟨B, o, none⟩ = some vl ∧ w'.cell? ⟨B, o + 1, none⟩ = some vn ∧ w'.cell? ⟨B, o + 2, none⟩ = some (.int .i64 r.minutes) ∧ Sl 11 RRule w' vl r.list ∧ Sl 1 RInt w' vn r.numbers))

set_option maxRecDepth 100000 in
set_option maxHeartbeats 1600000 in
theorem find_c (v vp : Value) (l : List PAuth) (t : PTrip) (k : Int) (w : World) (hk : -9223372036854775808 ≤ k) (hk2 : k ≤ 9223372036854775807) (hs : Sl 4 RAuth w v l) (hp : Sl 3 RPass w vp t.passages) :
    Calls Try.prog 56 #[v, tripV t vp, .int .i64 k] w (FindR l t k w) := by
  have C1 := fun w' (h : Ext w w') => newDesk_c v vp l t w' (hs.ext RAuth.stable h) (hp.ext RPass.stable h)
  have hlen : (desk l t).length = t.passages.length := deskN_len _ (Nat.le_refl _)
  unfold tripV at *
  obtain ⟨A, cap, rfl, hl, hcap⟩ := hs.shape
  obtain ⟨Ap, capp, rfl, hpl, hcapp⟩ := hp.shape
  clear hs hp
  replace C1 := Lib.hid C1
  obtain ⟨Post, hPost⟩ : ∃ Post, FindR l t k w = Post := ⟨_, rfl⟩
  rw [hPost]
  replace hPost := Lib.hid hPost
  go_enter Try.func56, Try.ntmps56
  go_wp2_with fail
  refine (C1.out _ (by (repeat' (first | exact Ext.refl _ | assumption | refine Ext.alloc ?_ _ | refine Ext.drew ?_ | refine Ext.drewN ?_ _ | refine Ext.set ?_ (by first | exact Nat.le_refl _ | exact le1 _ | exact le2 _ | exact le3 _ | exact le4 _ | exact le5 _ | exact le6 _) _ | refine Ext.trans ?_ (by assumption))))).mono ?_
  rintro e w1 ⟨hb1, ⟨hne, rfl⟩ | ⟨h0, D, vc, vd, rfl, d0, d1, d2, d3, hC, hR, hD⟩⟩ <;> obtain ⟨hc1, hf1⟩ := bcell hb1
  · have hne' : (beginE l t != 0) = true := by simp [hne]
    have E1 : Ext w w1 := by (repeat' (first | exact Ext.refl _ | assumption | refine Ext.alloc ?_ _ | refine Ext.drew ?_ | refine Ext.drewN ?_ _ | refine Ext.set ?_ (by first | exact Nat.le_refl _ | exact le1 _ | exact le2 _ | exact le3 _ | exact le4 _ | exact le5 _ | exact le6 _) _ | refine Ext.trans ?_ (by assumption)))
    go_wp2_with fail
    rw [← hPost.out]
    exact ⟨by (repeat' (first | exact Ext.refl _ | assumption | refine Ext.alloc ?_ _ | refine Ext.drew ?_ | refine Ext.drewN ?_ _ | refine Ext.set ?_ (by first | exact Nat.le_refl _ | exact le1 _ | exact le2 _ | exact le3 _ | exact le4 _ | exact le5 _ | exact le6 _) _ | refine Ext.trans ?_ (by assumption))), .inl ⟨hne, rfl⟩⟩
  · have E1 : Ext w w1 := by (repeat' (first | exact Ext.refl _ | assumption | refine Ext.alloc ?_ _ | refine Ext.drew ?_ | refine Ext.drewN ?_ _ | refine Ext.set ?_ (by first | exact Nat.le_refl _ | exact le1 _ | exact le2 _ | exact le3 _ | exact le4 _ | exact le5 _ | exact le6 _) _ | refine Ext.trans ?_ (by assumption)))
    have hDD := hD
    have hS := hR.to (R' := RRules) (fun cs x h => h.rules hb1) |>.sl
    obtain ⟨vA, vcap, rfl, hvl, hvcap⟩ := hS.shape
    have hRR := Lib.hid hS
    clear hC hR hS
    rw [hlen] at *
    by_cases q1 : k < 0
    · have q2 := decide_eq_true q1
      go_wp2_with fail
      rw [← hPost.out]
      exact ⟨by (repeat' (first | exact Ext.refl _ | assumption | refine Ext.alloc ?_ _ | refine Ext.drew ?_ | refine Ext.drewN ?_ _ | refine Ext.set ?_ (by first | exact Nat.le_refl _ | exact le1 _ | exact le2 _ | exact le3 _ | exact le4 _ | exact le5 _ | exact le6 _) _ | refine Ext.trans ?_ (by assumption))), .inr (.inl ⟨h0, .inl q1, rfl⟩)⟩
    · have q2 := decide_eq_false q1
      by_cases q3 : (t.passages.length : Int) ≤ k
      · have q4 := decide_eq_true q3
        go_wp2_with fail
        rw [← hPost.out]
        exact ⟨by (repeat' (first | exact Ext.refl _ | assumption | refine Ext.alloc ?_ _ | refine Ext.drew ?_ | refine Ext.drewN ?_ _ | refine Ext.set ?_ (by first | exact Nat.le_refl _ | exact le1 _ | exact le2 _ | exact le3 _ | exact le4 _ | exact le5 _ | exact le6 _) _ | refine Ext.trans ?_ (by assumption))), .inr (.inl ⟨h0, .inr q3, rfl⟩)⟩
      · have q4 := decide_eq_false q3
        obtain ⟨n, rfl⟩ : ∃ n : Nat, k = (n : Int) := ⟨k.toNat, by omega⟩
        have hn1 : n < t.passages.length := by omega
        have hn2 : (n : Int) < (t.passages.length : Int) := by omega
        obtain ⟨x, hx⟩ := some_of_lt (l := desk l t) (k := n) (by unfold desk; rw [deskN_len _ (Nat.le_refl _)]; exact hn1)
        obtain ⟨b, off, cs, rfl, hn, ⟨vl, vn, rfl, hr1, hr2⟩, hc⟩ := hRR.out.at hx
        have c0 := hc 0 vl rfl
        have c1 := hc 1 vn rfl
        have c2 := hc 2 (.int .i64 x.minutes) rfl
        clear hc
        have hq0 : decide ((0 : Int) ≤ (n : Int) ∧ (n : Int) < (t.passages.length : Int)) = true := decide_eq_true ⟨by omega, hn2⟩
        have hR1 := Lib.hid hr1
        have hR2 := Lib.hid hr2
        clear hr1 hr2 hRR
        go_wp2_with fail
        all_goals try omega
        rw [← hPost.out]
        exact ⟨by (repeat' (first | exact Ext.refl _ | assumption | refine Ext.alloc ?_ _ | refine Ext.drew ?_ | refine Ext.drewN ?_ _ | refine Ext.set ?_ (by first | exact Nat.le_refl _ | exact le1 _ | exact le2 _ | exact le3 _ | exact le4 _ | exact le5 _ | exact le6 _) _ | refine Ext.trans ?_ (by assumption))), .inr (.inr ⟨h0, x, b, off + n * 3, vl, vn, by omega, by simpa using hx, rfl, c0, c1, c2, hR1.out, hR2.out⟩)⟩
end Go.Proofs.Ytaomlmkcifpfkaa
