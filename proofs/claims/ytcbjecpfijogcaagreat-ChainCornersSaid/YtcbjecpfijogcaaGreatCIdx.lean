
/- Contracts: slices.IndexFunc and slices.ContainsFunc at structs, slices.Index and slices.Contains at strings. -/
import Derived.Test.YtcbjecpfijogcaaGreatCBase
import Derived.Shelf.Abstract
namespace Go.Proofs.YtcbjecpfijogcaaGreat
open Go.RowKit

section
variable {α : Type}
/-- where the first one is for which p holds; -1 if there is none -/
def idxL (p : α → Bool) (l : List α) : Int := match l.findIdx? p with | some i => (i : Int) | none => -1
theorem idxL_hit {p : α → Bool} {l : List α} {k : Nat} {x : α} (h0 : (l.take k).any p = false) (h : l[k]? = some x) (hp : p x = true) : (k : Int) = idxL p l := by
  have hk := lt_of_some h
  have : l.findIdx? p = some k := by
    rw [List.findIdx?_eq_some_iff_getElem]
    refine ⟨hk, by rw [List.getElem?_eq_getElem hk] at h; injection h with h; rw [h]; exact hp, fun j hj => ?_⟩
    have h1 := List.any_eq_false.1 h0 (l[j]'(by omega)) (by rw [List.mem_take_iff_getElem]; exact ⟨j, by omega, rfl⟩)
    simpa using h1
  unfold idxL; rw [this]
theorem idxL_miss {p : α → Bool} {l : List α} (h0 : l.any p = false) : (-1 : Int) = idxL p l := by
  have : l.findIdx? p = none := by
    rw [List.findIdx?_eq_none_iff]
    intro x hx
    have := List.any_eq_false.1 h0 x hx
    simpa using this
  unfold idxL; rw [this]
theorem idxL_nonneg {p : α → Bool} {l : List α} : decide (0 ≤ idxL p l) = l.any p := by
  unfold idxL
  cases h : l.findIdx? p with
  | none =>
    rw [List.findIdx?_eq_none_iff] at h
    have : l.any p = false := by rw [List.any_eq_false]; intro x hx; simpa using h x hx
    rw [this]; rfl
  | some i =>
    rw [List.findIdx?_eq_some_iff_getElem] at h
    obtain ⟨hi, hp, _⟩ := h
    have : l.any p = true := by rw [List.any_eq_true]; exact ⟨_, List.getElem_mem hi, hp⟩
    rw [this]; simp
theorem idxL_bd {p : α → Bool} {l : List α} : -1 ≤ idxL p l ∧ (idxL p l < l.length ∨ l.length = 0) := by
  unfold idxL
  cases h : l.findIdx? p with
  | none => simp only; omega
  | some i =>
    rw [List.findIdx?_eq_some_iff_getElem] at h
    obtain ⟨hi, _⟩ := h
    simp only; omega
theorem idxL_some {p : α → Bool} {l : List α} {k : Nat} (h : idxL p l = k) : ∃ x, l[k]? = some x ∧ p x = true := by
  unfold idxL at h
  cases hf : l.findIdx? p with
  | none => rw [hf] at h; simp only at h; omega
  | some i =>
    rw [hf] at h
    simp only at h
    have : i = k := by omega
    subst this
    rw [List.findIdx?_eq_some_iff_getElem] at hf
    obtain ⟨hi, hp, _⟩ := hf
    exact ⟨_, List.getElem?_eq_getElem hi, hp⟩
/-- a function value holds of just those for which p does -/
def PredR (R : World → List Value → α → Prop) (g : Nat) (lb : Array Value) (p : α → Bool) (l : List α) (w : World) : Prop :=
  ∀ W cs x, Ext w W → R W cs x → x ∈ l → Calls Tryz.prog g (#[.agg cs.toArray] ++ lb) W fun e w' => e = .returned (.bool (p x)) ∧ Ext W w'
end

set_option maxRecDepth 100000 in
set_option maxHeartbeats 1600000 in
theorem IndexFuncUnit_c {α : Type} {R : World → List Value → α → Prop} (hR : Stable R) (g : Nat) (lb : Array Value) (eg : ∀ args w, (callFunc g args).run Tryz.prog w = .ok (.enter g args) w) (p : α → Bool) (v : Value) (l : List α) (w : World) (hs : Sl 11 R w v l) (hp : PredR R g lb p l w) :
    Calls Tryz.prog 83 #[v, .func (.func g) #[] lb] w fun e w' => e = .returned (.int .i64 (idxL p l)) ∧ Ext w w' := by
  obtain ⟨A, cap, rfl, hl, hcap⟩ := hs.shape
  have HS := Lib.hid hs
  have HP := Lib.hid hp
  clear hs hp
  go_enter Tryz.func83, Tryz.ntmps83
  go_wp2
  go_loopw [5, 8] (fun _ i wr => ∃ k : Nat, k ≤ l.length ∧ i = .int .i64 k ∧ (l.take k).any p = false ∧ Ext w wr) (fun _ i _ => l.length - (intOf i).toNat)
  case atStart => exact ⟨0, by omega, rfl, by simp, Ext.refl _⟩
  case round =>
    obtain ⟨k, hk, rfl, ha, hb⟩ := hrel
    have HA := Lib.hid ha
    clear ha
    by_cases hlt : k < l.length
    · obtain ⟨x, hx⟩ := some_of_lt hlt
      obtain ⟨b, off, cs, rfl, hn, hr, hc⟩ := (HS.out.ext hR hb).at hx
      obtain ⟨c0, c1, c2, c3, c4, c5, c6, c7, c8, c9, c10, rfl⟩ : ∃ c0 c1 c2 c3 c4 c5 c6 c7 c8 c9 c10, cs = [c0, c1, c2, c3, c4, c5, c6, c7, c8, c9, c10] := by
        match cs, hn with
        | [c0, c1, c2, c3, c4, c5, c6, c7, c8, c9, c10], _ => exact ⟨c0, c1, c2, c3, c4, c5, c6, c7, c8, c9, c10, rfl⟩
      have HC := Lib.hid (HP.out wr _ x hb hr (mem_of_some hx))

      have k0 := hc 0 _ rfl
      have k1 := hc 1 _ rfl
      have k2 := hc 2 _ rfl
      have k3 := hc 3 _ rfl
      have k4 := hc 4 _ rfl
      have k5 := hc 5 _ rfl
      have k6 := hc 6 _ rfl
      have k7 := hc 7 _ rfl
      have k8 := hc 8 _ rfl
      have k9 := hc 9 _ rfl
      have k10 := hc 10 _ rfl
      simp only [Nat.add_zero] at k0
      have HX := Lib.hid hx
      clear hc hr hn hx
      cases hpx : p x
      · rw [hpx] at HC
        have HPX := Lib.hid hpx
        clear hpx
        go_wp2_with (go_at_fn g; refine HC.out.mono ?_; rintro e w1 ⟨rfl, hb1⟩)
        go_roundw
        case rel => exact ⟨k + 1, by omega, by go_num, any_take HX.out HA.out HPX.out, hb.trans hb1⟩
        case measure => simp [intOf]; omega
      · rw [hpx] at HC
        have HPX := Lib.hid hpx
        clear hpx
        go_wp2_with (go_at_fn g; refine HC.out.mono ?_; rintro e w1 ⟨rfl, hb1⟩)
        go_ret
        exact ⟨ret_int (idxL_hit HA.out HX.out HPX.out), hb.trans hb1⟩
    · have HE := Lib.hid (any_end HA.out (by omega))
      go_wp2
      go_ret
      exact ⟨ret_int (idxL_miss HE.out), hb⟩

set_option maxHeartbeats 400000 in
theorem ContainsFuncUnit_c {α : Type} {R : World → List Value → α → Prop} (hR : Stable R) (g : Nat) (lb : Array Value) (eg : ∀ args w, (callFunc g args).run Tryz.prog w = .ok (.enter g args) w) (p : α → Bool) (v : Value) (l : List α) (w : World) (hs : Sl 11 R w v l) (hp : PredR R g lb p l w) :
    Calls Tryz.prog 60 #[v, .func (.func g) #[] lb] w fun e w' => e = .returned (.bool (l.any p)) ∧ Ext w w' := by
  have H := Lib.hid (IndexFuncUnit_c hR g lb eg p v l w hs hp)
  rw [← idxL_nonneg]
  clear hs hp
  generalize idxL p l = z at *
  go_enter Tryz.func60, Tryz.ntmps60
  go_wp2_with (go_at_call 83; refine H.out.mono ?_; rintro e w1 ⟨rfl, hb1⟩)
  go_ret
  exact ⟨rfl, hb1⟩

def RInt (_ : World) (cs : List Value) (x : Int) : Prop := cs = [.int .i64 x]
theorem RInt.stable : Stable RInt := fun _ _ _ _ _ h => h
/-- a function value holds of just those numbers for which p does -/
def PredI (g : Nat) (lb : Array Value) (p : Int → Bool) (w : World) : Prop :=
  ∀ W x, Ext w W → Calls Tryz.prog g (#[.int .i64 x] ++ lb) W fun e w' => e = .returned (.bool (p x)) ∧ Ext W w'
set_option maxHeartbeats 800000 in
theorem IndexFuncInt_c (g : Nat) (lb : Array Value) (eg : ∀ args w, (callFunc g args).run Tryz.prog w = .ok (.enter g args) w) (p : Int → Bool) (v : Value) (l : List Int) (w : World) (hs : Sl 1 RInt w v l) (hp : PredI g lb p w) :
    Calls Tryz.prog 97 #[v, .func (.func g) #[] lb] w fun e w' => e = .returned (.int .i64 (idxL p l)) ∧ Ext w w' := by
  obtain ⟨A, cap, rfl, hl, hcap⟩ := hs.shape
  have HS := Lib.hid hs
  have HP := Lib.hid hp
  clear hs hp
  go_enter Tryz.func97, Tryz.ntmps97
  go_wp2
  go_loopw [5, 8] (fun _ i wr => ∃ k : Nat, k ≤ l.length ∧ i = .int .i64 k ∧ (l.take k).any p = false ∧ Ext w wr) (fun _ i _ => l.length - (intOf i).toNat)
  case atStart => exact ⟨0, by omega, rfl, by simp, Ext.refl _⟩
  case round =>
    obtain ⟨k, hk, rfl, ha, hb⟩ := hrel
    have HA := Lib.hid ha
    clear ha
    by_cases hlt : k < l.length
    · obtain ⟨x, hx⟩ := some_of_lt hlt
      obtain ⟨b, off, cs, rfl, hn, hr, hc⟩ := (HS.out.ext RInt.stable hb).at hx
      obtain rfl : cs = [.int .i64 x] := hr
      have HC := Lib.hid (HP.out wr x hb)
      have k0 := hc 0 _ rfl
      simp only [Nat.add_zero, Nat.mul_one] at k0
      have HX := Lib.hid hx
      clear hc hn hx
      cases hpx : p x
      · rw [hpx] at HC
        have HPX := Lib.hid hpx
        clear hpx
        go_wp2_with (go_at_fn g; refine HC.out.mono ?_; rintro e w1 ⟨rfl, hb1⟩)
        go_roundw
        case rel => exact ⟨k + 1, by omega, by go_num, any_take HX.out HA.out HPX.out, hb.trans hb1⟩
        case measure => simp [intOf]; omega
      · rw [hpx] at HC
        have HPX := Lib.hid hpx
        clear hpx
        go_wp2_with (go_at_fn g; refine HC.out.mono ?_; rintro e w1 ⟨rfl, hb1⟩)
        go_ret
        exact ⟨ret_int (idxL_hit HA.out HX.out HPX.out), hb.trans hb1⟩
    · have HE := Lib.hid (any_end HA.out (by omega))
      go_wp2
      go_ret
      exact ⟨ret_int (idxL_miss HE.out), hb⟩
set_option maxHeartbeats 400000 in
theorem ContainsFuncInt_c (g : Nat) (lb : Array Value) (eg : ∀ args w, (callFunc g args).run Tryz.prog w = .ok (.enter g args) w) (p : Int → Bool) (v : Value) (l : List Int) (w : World) (hs : Sl 1 RInt w v l) (hp : PredI g lb p w) :
    Calls Tryz.prog 86 #[v, .func (.func g) #[] lb] w fun e w' => e = .returned (.bool (l.any p)) ∧ Ext w w' := by
  have H := Lib.hid (IndexFuncInt_c g lb eg p v l w hs hp)
  rw [← idxL_nonneg]
  clear hs hp
  generalize idxL p l = z at *
  go_enter Tryz.func86, Tryz.ntmps86
  go_wp2_with (go_at_call 97; refine H.out.mono ?_; rintro e w1 ⟨rfl, hb1⟩)
  go_ret
  exact ⟨rfl, hb1⟩
end Go.Proofs.YtcbjecpfijogcaaGreat