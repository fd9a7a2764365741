/- Crossings: whether they are valid, and what breaks a rule (contracts, both texts). -/
import Derived.Test.YtaomlmkcifpfkaaPAllow
import Derived.BigQuiet
namespace Go.Proofs.Ytaomlmkcifpfkaa
open Go.RowKit

structure PCross where
  start : Int
  things : List PCount
def RCross (w : World) (cs : List Value) (c : PCross) : Prop := ∃ v, cs = [.int .i64 c.start, v] ∧ Sl 3 RCount w v c.things
theorem RCross.stable : Stable RCross := fun _ _ _ _ he ⟨v, hcs, h⟩ => ⟨v, hcs, h.ext RCount.stable he⟩
theorem all_snoc {α : Type} {l : List α} {k : Nat} {x : α} (f : α → Bool) (h : l[k]? = some x) : (l.take (k + 1)).all f = ((l.take k).all f && f x) := by
  rw [List.take_add_one, h, List.all_append]
  simp
def hasB (x : PCount) : Bool := nameB x.thing && inB x.least 0 1000
def crossE (c : PCross) : Int := if inB c.start 0 1099511627776 = true then (if 6 < c.things.length then 6 else if c.things.all hasB = true then 0 else 2) else 3
def isT (nm : ByteArray) (y : PCount) : Bool := decide (y.thing = nm)
def manyN (l : List PCount) (nm : ByteArray) : Int := match l[(idxL (isT nm) l).toNat]? with | some y => if 0 ≤ idxL (isT nm) l then y.least else 0 | none => 0
theorem manyN_hit {l : List PCount} {nm : ByteArray} {k : Nat} {x : PCount} (h0 : (l.take k).any (isT nm) = false) (h : l[k]? = some x) (hp : isT nm x = true) : manyN l nm = x.least := by
  unfold manyN
  rw [← idxL_hit h0 h hp, Int.toNat_natCast, h]
  simp
theorem manyN_miss {l : List PCount} {nm : ByteArray} (h0 : l.any (isT nm) = false) : manyN l nm = 0 := by
  unfold manyN
  rw [← idxL_miss h0]
  split <;> simp
theorem manyN_at {l : List PCount} {nm : ByteArray} {k : Nat} {x : PCount} (h : idxL (isT nm) l = (k : Int)) (hx : l[k]? = some x) : manyN l nm = x.least := by
  unfold manyN
  rw [h, Int.toNat_natCast, hx]
  simp
theorem manyN_none {l : List PCount} {nm : ByteArray} (h : idxL (isT nm) l < 0) : manyN l nm = 0 := by
  unfold manyN
  split
  · rw [if_neg (by omega)]
  · rfl
def cntBad (c : PCross) (x : PCount) : Bool := !inB (manyN c.things x.thing) x.least x.most
def runB (r : PRule) (s : Int) (n : Nat) : Bool := (List.range n).all fun i => allowsB r (s + (i : Int))
def breaksB (r : PRule) (n : Nat) (c : PCross) : Bool := !runB r c.start n || r.counts.any (cntBad c)

set_option maxHeartbeats 800000 in
theorem crossing1_c (c : PCount) (w : World) :
    Calls Try.prog 101 #[.agg #[.string c.thing, .int .i64 c.least, .int .i64 c.most]] w fun e w' => e = .returned (.bool (!hasB c)) ∧ Ext w w' := by
  have HN := fun w => validName_c c.thing w
  have HB := fun w => between_c c.least 0 1000 w
  unfold hasB
  generalize nameB c.thing = n at *
  generalize inB c.least 0 1000 = b at *
  replace HN := Lib.hid HN
  replace HB := Lib.hid HB
  cases n
  · go_enter Try.func101, Try.ntmps101
    go_wp2_with (go_at_call 53; refine (HN.out _).mono ?_; rintro e w1 ⟨rfl, hb1⟩; obtain ⟨hc, hf⟩ := bcell hb1)
    go_ret
    exact ⟨by simp, by (repeat' (first | exact Ext.refl _ | assumption | refine Ext.alloc ?_ _ | refine Ext.drew ?_ | refine Ext.drewN ?_ _ | refine Ext.set ?_ (by first | exact Nat.le_refl _ | exact le1 _ | exact le2 _ | exact le3 _ | exact le4 _ | exact le5 _ | exact le6 _) _ | refine Ext.trans ?_ (by assumption)))⟩
  · go_enter Try.func101, Try.ntmps101
    go_wp2_with (first | (go_at_call 53; refine (HN.out _).mono ?_; rintro e w1 ⟨rfl, hb1⟩; obtain ⟨hc, hf⟩ := bcell hb1) | (go_at_call 52; refine (HB.out _).mono ?_; rintro e w2 ⟨rfl, rfl⟩))
    go_ret
    exact ⟨by simp, by (repeat' (first | exact Ext.refl _ | assumption | refine Ext.alloc ?_ _ | refine Ext.drew ?_ | refine Ext.drewN ?_ _ | refine Ext.set ?_ (by first | exact Nat.le_refl _ | exact le1 _ | exact le2 _ | exact le3 _ | exact le4 _ | exact le5 _ | exact le6 _) _ | refine Ext.trans ?_ (by assumption)))⟩
theorem hasAll_c (v : Value) (l : List PCount) (w : World) (hs : Sl 3 RCount w v l) :
    Calls Try.prog 100 #[v, .func (.func 101) #[] #[]] w fun e w' => e = .returned (.bool (!l.all hasB)) ∧ Ext w w' := by
  rw [← any_not]
  refine ContainsFuncCount_c RCount.stable 101 #[] (enters_of Try.func101 (by kernel_rfl) rfl) _ v l w hs ?_
  rintro W cs x _ rfl _
  exact crossing1_c x W
set_option maxRecDepth 100000 in
set_option maxHeartbeats 1600000 in
theorem crossing_c (c : PCross) (v : Value) (w : World) (hs : Sl 3 RCount w v c.things) :
    Calls Try.prog 73 #[.agg #[.int .i64 c.start, v]] w fun e w' => e = .returned (.int .i64 (crossE c)) ∧ Ext w w' := by
  have C1 := fun w' => validMinute_c c.start w'
  have C2 := fun w' (h : Ext w w') => hasAll_c v c.things w' (hs.ext RCount.stable h)
  obtain ⟨A, cap, rfl, hl, hl2⟩ := hs.shape
  unfold crossE
  generalize inB c.start 0 1099511627776 = q at *
  generalize c.things.all hasB = z at *
  replace C1 := Lib.hid C1
  replace C2 := Lib.hid C2
  clear hs
  cases q
  · clear C2
    go_enter Try.func73, Try.ntmps73
    go_wp2_with (go_at_call 57; refine (C1.out _).mono ?_; rintro e w1 ⟨rfl, rfl⟩)
    go_ret
    exact ⟨rfl, by (repeat' (first | exact Ext.refl _ | assumption | refine Ext.alloc ?_ _ | refine Ext.drew ?_ | refine Ext.drewN ?_ _ | refine Ext.set ?_ (by first | exact Nat.le_refl _ | exact le1 _ | exact le2 _ | exact le3 _ | exact le4 _ | exact le5 _ | exact le6 _) _ | refine Ext.trans ?_ (by assumption)))⟩
  · by_cases h6 : 6 < c.things.length
    · have h6' : (6 : Int) < (c.things.length : Int) := by omega
      clear C2
      go_enter Try.func73, Try.ntmps73
      go_wp2_with (go_at_call 57; refine (C1.out _).mono ?_; rintro e w1 ⟨rfl, rfl⟩)
      go_ret
      exact ⟨by simp, by (repeat' (first | exact Ext.refl _ | assumption | refine Ext.alloc ?_ _ | refine Ext.drew ?_ | refine Ext.drewN ?_ _ | refine Ext.set ?_ (by first | exact Nat.le_refl _ | exact le1 _ | exact le2 _ | exact le3 _ | exact le4 _ | exact le5 _ | exact le6 _) _ | refine Ext.trans ?_ (by assumption)))⟩
    · have h6' : ¬ (6 : Int) < (c.things.length : Int) := by omega
      cases z
      all_goals
        go_enter Try.func73, Try.ntmps73
        go_wp2_with (first | (go_at_call 57; refine (C1.out _).mono ?_; rintro e w1 ⟨rfl, rfl⟩) | (go_at_call 100; refine (C2.out _ (by (repeat' (first | exact Ext.refl _ | assumption | refine Ext.alloc ?_ _ | refine Ext.drew ?_ | refine Ext.drewN ?_ _ | refine Ext.set ?_ (by first | exact Nat.le_refl _ | exact le1 _ | exact le2 _ | exact le3 _ | exact le4 _ | exact le5 _ | exact le6 _) _ | refine Ext.trans ?_ (by assumption))))).mono ?_; rintro e w2 ⟨rfl, hb2⟩))
        go_ret
        exact ⟨by simp, by (repeat' (first | exact Ext.refl _ | assumption | refine Ext.alloc ?_ _ | refine Ext.drew ?_ | refine Ext.drewN ?_ _ | refine Ext.set ?_ (by first | exact Nat.le_refl _ | exact le1 _ | exact le2 _ | exact le3 _ | exact le4 _ | exact le5 _ | exact le6 _) _ | refine Ext.trans ?_ (by assumption)))⟩

set_option maxRecDepth 100000 in
set_option maxHeartbeats 1600000 in
theorem Rcrossing_c (c : PCross) (v : Value) (w : World) (hs : Sl 3 RCount w v c.things) :
    Calls Try.prog 75 #[.agg #[.int .i64 c.start, v]] w fun e w' => e = .returned (.int .i64 (crossE c)) ∧ Ext w w' := by
  have C1 := fun w' => within_c c.start 0 1099511627776 w'
  obtain ⟨A, cap, rfl, hl, hl2⟩ := hs.shape
  have HS := Lib.hid hs
  clear hs
  obtain ⟨E, hE⟩ : ∃ z, crossE c = z := ⟨_, rfl⟩
  rw [hE]
  unfold crossE at hE
  generalize inB c.start 0 1099511627776 = q at *
  replace C1 := Lib.hid C1
  cases q
  · obtain rfl : E = 3 := hE.symm
    go_enter Try.func75, Try.ntmps75
    go_wp2_with (go_at_call 54; refine (C1.out _).mono ?_; rintro e w1 ⟨rfl, rfl⟩)
    go_ret
    exact ⟨rfl, by (repeat' (first | exact Ext.refl _ | assumption | refine Ext.alloc ?_ _ | refine Ext.drew ?_ | refine Ext.drewN ?_ _ | refine Ext.set ?_ (by first | exact Nat.le_refl _ | exact le1 _ | exact le2 _ | exact le3 _ | exact le4 _ | exact le5 _ | exact le6 _) _ | refine Ext.trans ?_ (by assumption)))⟩
  · rw [if_pos rfl] at hE
    by_cases h6 : 6 < c.things.length
    · have h6' : (6 : Int) < (c.things.length : Int) := by omega
      rw [if_pos h6] at hE
      obtain rfl : E = 6 := hE.symm
      go_enter Try.func75, Try.ntmps75
      go_wp2_with (go_at_call 54; refine (C1.out _).mono ?_; rintro e w1 ⟨rfl, rfl⟩)
      go_ret
      exact ⟨rfl, by (repeat' (first | exact Ext.refl _ | assumption | refine Ext.alloc ?_ _ | refine Ext.drew ?_ | refine Ext.drewN ?_ _ | refine Ext.set ?_ (by first | exact Nat.le_refl _ | exact le1 _ | exact le2 _ | exact le3 _ | exact le4 _ | exact le5 _ | exact le6 _) _ | refine Ext.trans ?_ (by assumption)))⟩
    · have h6' : ¬ (6 : Int) < (c.things.length : Int) := by omega
      rw [if_neg h6] at hE
      have HE := Lib.hid hE
      clear hE
      go_enter Try.func75, Try.ntmps75
      go_wp2_with (go_at_call 54; refine (C1.out _).mono ?_; rintro e w1 ⟨rfl, rfl⟩)
      have hE0 : Ext w (w.alloc (.cells #[.int .i64 c.start, .slice A c.things.length cap] 83)) := by (repeat' (first | exact Ext.refl _ | assumption | refine Ext.alloc ?_ _ | refine Ext.drew ?_ | refine Ext.drewN ?_ _ | refine Ext.set ?_ (by first | exact Nat.le_refl _ | exact le1 _ | exact le2 _ | exact le3 _ | exact le4 _ | exact le5 _ | exact le6 _) _ | refine Ext.trans ?_ (by assumption)))
      have f1 : (w.alloc (.cells #[.int .i64 c.start, .slice A c.things.length cap] 83)).cell? ⟨w.heap.size, 1, none⟩ = some (.slice A c.things.length cap) := World.cell?_alloc_new _ _ _ _
      generalize w.alloc (.cells #[.int .i64 c.start, .slice A c.things.length cap] 83) = W at *
      go_loopw [3] (fun i wr => ∃ k : Nat, k ≤ c.things.length ∧ i = .int .i64 k ∧ (c.things.take k).all hasB = true ∧ Ext W wr) (fun i _ => c.things.length - (intOf i).toNat)
      case atStart => exact ⟨0, by omega, rfl, by simp, Ext.refl _⟩
      case round =>
        obtain ⟨k, hk, rfl, ha, hb⟩ := hrel
        have HA := Lib.hid ha
        have f2 := hb.cell f1
        clear ha
        by_cases hlt : k < c.things.length
        · obtain ⟨x, hx⟩ := some_of_lt hlt
          obtain ⟨b, off, cs, rfl, hn, rfl, hc⟩ := (HS.out.ext RCount.stable (hE0.trans hb)).at hx
          have k0 := hc 0 _ rfl
          have k1 := hc 1 _ rfl
          simp only [Nat.add_zero] at k0
          have C2 := fun w' => Named_c x.thing w'
          have C3 := fun w' => within_c x.least 0 1000 w'
          have HN := Lib.hid (all_snoc hasB hx)
          have HNO := Lib.hid (fun h => all_no (p := hasB) hx h)
          have HX := Lib.hid (show hasB x = (nameB x.thing && inB x.least 0 1000) from rfl)
          have i1 : (0 : Int) ≤ (k : Int) := by omega
          have i2 : (k : Int) < (c.things.length : Int) := by omega
          clear hc hn hx
          generalize nameB x.thing = n at *
          generalize inB x.least 0 1000 = m at *
          replace C2 := Lib.hid C2
          replace C3 := Lib.hid C3
          cases n
          · obtain rfl : E = 2 := by rw [← HE.out, HNO.out (by rw [HX.out]; rfl)]; rfl
            go_wp2_with (go_at_call 55; refine (C2.out _).mono ?_; rintro e w2 ⟨rfl, rfl⟩)
            go_ret
            exact ⟨rfl, by (repeat' (first | exact Ext.refl _ | assumption | refine Ext.alloc ?_ _ | refine Ext.drew ?_ | refine Ext.drewN ?_ _ | refine Ext.set ?_ (by first | exact Nat.le_refl _ | exact le1 _ | exact le2 _ | exact le3 _ | exact le4 _ | exact le5 _ | exact le6 _) _ | refine Ext.trans ?_ (by assumption)))⟩
          · cases m
            · obtain rfl : E = 2 := by rw [← HE.out, HNO.out (by rw [HX.out]; rfl)]; rfl
              go_wp2_with (first | (go_at_call 55; refine (C2.out _).mono ?_; rintro e w2 ⟨rfl, rfl⟩) | (go_at_call 54; refine (C3.out _).mono ?_; rintro e w3 ⟨rfl, rfl⟩))
              go_ret
              exact ⟨rfl, by (repeat' (first | exact Ext.refl _ | assumption | refine Ext.alloc ?_ _ | refine Ext.drew ?_ | refine Ext.drewN ?_ _ | refine Ext.set ?_ (by first | exact Nat.le_refl _ | exact le1 _ | exact le2 _ | exact le3 _ | exact le4 _ | exact le5 _ | exact le6 _) _ | refine Ext.trans ?_ (by assumption)))⟩
            · go_wp2_with (first | (go_at_call 55; refine (C2.out _).mono ?_; rintro e w2 ⟨rfl, rfl⟩) | (go_at_call 54; refine (C3.out _).mono ?_; rintro e w3 ⟨rfl, rfl⟩))
              go_roundw
              case rel => exact ⟨k + 1, by omega, by go_num, by rw [HN.out, HA.out, HX.out]; rfl, hb⟩
              case measure => simp [intOf]; omega
        · obtain rfl : k = c.things.length := by omega
          obtain rfl : E = 0 := by have h := HA.out; rw [List.take_length] at h; rw [← HE.out, if_pos h]
          go_wp2_with fail
          go_ret
          exact ⟨rfl, hE0.trans hb⟩

set_option maxRecDepth 100000 in
set_option maxHeartbeats 1600000 in
theorem many_c (c : PCross) (v : Value) (nm : ByteArray) (w : World) (hs : Sl 3 RCount w v c.things) :
    Calls Try.prog 120 #[.agg #[.int .i64 c.start, v], .string nm] w fun e w' => e = .returned (.int .i64 (manyN c.things nm)) ∧ Ext w w' := by
  obtain ⟨A, cap, rfl, hl, hl2⟩ := hs.shape
  have HS := Lib.hid hs
  clear hs
  obtain ⟨E, hE⟩ : ∃ z, manyN c.things nm = z := ⟨_, rfl⟩
  rw [hE]
  have HE := Lib.hid hE
  clear hE
  go_enter Try.func120, Try.ntmps120
  go_wp2_with fail
  have hE0 : Ext w (w.alloc (.cells #[.int .i64 c.start, .slice A c.things.length cap] 83)) := by (repeat' (first | exact Ext.refl _ | assumption | refine Ext.alloc ?_ _ | refine Ext.drew ?_ | refine Ext.drewN ?_ _ | refine Ext.set ?_ (by first | exact Nat.le_refl _ | exact le1 _ | exact le2 _ | exact le3 _ | exact le4 _ | exact le5 _ | exact le6 _) _ | refine Ext.trans ?_ (by assumption)))
  have f1 : (w.alloc (.cells #[.int .i64 c.start, .slice A c.things.length cap] 83)).cell? ⟨w.heap.size, 1, none⟩ = some (.slice A c.things.length cap) := World.cell?_alloc_new _ _ _ _
  generalize w.alloc (.cells #[.int .i64 c.start, .slice A c.things.length cap] 83) = W at *
  go_loopw [5] (fun i wr => ∃ k : Nat, k ≤ c.things.length ∧ i = .int .i64 k ∧ (c.things.take k).any (isT nm) = false ∧ Ext W wr) (fun i _ => c.things.length - (intOf i).toNat)
  case atStart => exact ⟨0, by omega, rfl, by simp, Ext.refl _⟩
  case round =>
    obtain ⟨k, hk, rfl, ha, hb⟩ := hrel
    have HA := Lib.hid ha
    have f2 := hb.cell f1
    clear ha
    by_cases hlt : k < c.things.length
    · obtain ⟨x, hx⟩ := some_of_lt hlt
      obtain ⟨b, off, cs, rfl, hn, rfl, hc⟩ := (HS.out.ext RCount.stable (hE0.trans hb)).at hx
      have k0 := hc 0 _ rfl
      have k1 := hc 1 _ rfl
      simp only [Nat.add_zero] at k0
      have HX := Lib.hid hx
      have i1 : (0 : Int) ≤ (k : Int) := by omega
      have i2 : (k : Int) < (c.things.length : Int) := by omega
      clear hc hn hx
      by_cases heq : x.thing = nm
      · have t1 : (x.thing.toList == nm.toList) = true := by rw [heq]; simp
        obtain rfl : E = x.least := by rw [← HE.out]; exact manyN_hit HA.out HX.out (by simp [isT, heq])
        clear heq
        go_wp2_with fail
        go_ret
        exact ⟨rfl, hE0.trans hb⟩
      · have t1 := beq_toList heq
        have HQ := Lib.hid (show isT nm x = false from by simp [isT, heq])
        clear heq
        go_wp2_with fail
        go_roundw
        case rel => exact ⟨k + 1, by omega, by go_num, any_take HX.out HA.out HQ.out, hb⟩
        case measure => simp [intOf]; omega
    · obtain rfl : E = 0 := by rw [← HE.out]; exact manyN_miss (any_end HA.out (by omega))
      go_wp2_with fail
      go_ret
      exact ⟨rfl, hE0.trans hb⟩
end Go.Proofs.Ytaomlmkcifpfkaa
