
/- Contracts: the errors of lists of points and of hulls, by the program and by the definition. -/
import Derived.Test.YtlndcpjaeoppmaaHIs
namespace Go.Proofs.Ytlndcpjaeoppmaa
open Go.RowKit Go.Shelf

/-- the lists that a slice of slices holds -/
structure Lists (w : World) (b : Nat) (vs : List Value) (L : List (List HPt)) : Prop where
  len : vs.length = L.length
  cell : ∀ (i : Nat) (v : Value), vs[i]? = some v → w.cell? ⟨b, i, none⟩ = some v
  pts : ∀ (i : Nat) (v : Value) (l : List HPt), vs[i]? = some v → L[i]? = some l → Pts w v l
theorem Lists.ext {w w' : World} {b : Nat} {vs : List Value} {L : List (List HPt)} (h : Lists w b vs L) (he : Ext w w') : Lists w' b vs L :=
  ⟨h.len, fun i v hv => he.cell (h.cell i v hv), fun i v l hv hl => (h.pts i v l hv hl).ext he⟩
theorem Lists.at {w : World} {b : Nat} {vs : List Value} {L : List (List HPt)} (h : Lists w b vs L) {i : Nat} (hi : i < L.length) :
    ∃ v l, L[i]? = some l ∧ w.cell? ⟨b, i, none⟩ = some v ∧ Pts w v l := by
  have h1 : vs[i]? = some (vs[i]'(by have := h.len; omega)) := List.getElem?_eq_getElem (by have := h.len; omega)
  have h2 : L[i]? = some L[i] := List.getElem?_eq_getElem hi
  exact ⟨_, _, h2, h.cell _ _ h1, h.pts _ _ _ h1 h2⟩
def manyL (l : List HPt) : Bool := decide (256 < l.length)
def errLs (L : List (List HPt)) : Int := if L.any manyL = true then 6 else if L.all (fun l => l.all okPt) = true then 0 else 2
theorem any_take_succ {α : Type} {p : α → Bool} {L : List α} {k : Nat} {x : α} (hx : L[k]? = some x) : (L.take (k + 1)).any p = ((L.take k).any p || p x) := by
  rw [List.take_add_one, hx, List.any_append]
  simp
theorem all_take_succ' {α : Type} {p : α → Bool} {L : List α} {k : Nat} {x : α} (hx : L[k]? = some x) : (L.take (k + 1)).all p = ((L.take k).all p && p x) := by
  rw [List.take_add_one, hx, List.all_append]
  simp
theorem any_of_at {α : Type} {p : α → Bool} {L : List α} {k : Nat} {x : α} (hx : L[k]? = some x) (h : p x = true) : L.any p = true := List.any_eq_true.2 ⟨x, List.mem_of_getElem? hx, h⟩
theorem all_of_at {α : Type} {p : α → Bool} {L : List α} {k : Nat} {x : α} (hx : L[k]? = some x) (h : p x = false) : L.all p = false := by
  rw [List.all_eq_false]
  exact ⟨x, List.mem_of_getElem? hx, by simp [h]⟩
set_option maxRecDepth 100000 in
set_option maxHeartbeats 1600000 in
theorem checkPoints_g (b cap : Nat) (vs : List Value) (L : List (List HPt)) (w : World) (hL : Lists w b vs L) (hn : L.length ≤ 1000) :
    Calls Try.prog 30 #[.slice (some ⟨b, 0, none⟩) L.length cap] w fun e w' => e = .returned (.int .i64 (errLs L)) ∧ Ext w w' := by
  have HL := Lib.hid hL
  clear hL
  go_enter Try.func30, Try.ntmps30
  go_wp2
  go_loopw [9] (fun i wr => ∃ k : Nat, k ≤ L.length ∧ i = .int .i64 k ∧ (L.take k).any manyL = false ∧ Ext w wr) (fun i _ => L.length - (intOf i).toNat)
  case atStart => exact ⟨0, by omega, rfl, by simp, Ext.refl _⟩
  case round =>
    obtain ⟨k, hk, rfl, hm, hE⟩ := hrel
    have HM := Lib.hid hm
    clear hm
    by_cases hlt : k < L.length
    · obtain ⟨v, l, hl, hc, hp⟩ := (HL.out.ext hE).at hlt
      obtain ⟨A, c, rfl, _⟩ := hp.shapeH
      have HLL := Lib.hid hl
      clear hl hp
      by_cases h256 : 256 < l.length
      · have h2 : (256 : Int) < (l.length : Int) := by omega
        have HB := Lib.hid (show manyL l = true by unfold manyL; exact decide_eq_true h256)
        go_wp2
        go_ret
        refine ⟨?_, hE⟩
        have : errLs L = 6 := by unfold errLs; rw [if_pos (any_of_at HLL.out HB.out)]
        rw [this]
        rfl
      · have h2 : ¬ (256 : Int) < (l.length : Int) := by omega
        have HB := Lib.hid (show manyL l = false by unfold manyL; exact decide_eq_false h256)
        go_wp2
        refine ⟨⟨k + 1, by omega, by go_num, ?_, hE⟩, by simp [intOf]; omega⟩
        rw [any_take_succ HLL.out, HM.out, HB.out]; rfl
    · have HM2 := Lib.hid (show L.any manyL = false by have h := HM.out; rwa [List.take_of_length_le (by omega)] at h)
      clear HM
      go_wp2
      obtain ⟨wA, hwA⟩ : ∃ z : World, z = wr := ⟨_, rfl⟩
      subst hwA
      have hE0 := Lib.hid hE
      clear hE
      go_loopw [19] (fun i wr2 => ∃ k : Nat, k ≤ L.length ∧ i = .int .i64 k ∧ (L.take k).all (fun l => l.all okPt) = true ∧ Ext w wr2) (fun i _ => L.length - (intOf i).toNat)
      case atStart => exact ⟨0, by omega, rfl, by simp, hE0.out⟩
      case round =>
        obtain ⟨j, hj, rfl, hm, hE⟩ := hrel
        have HM := Lib.hid hm
        clear hm
        by_cases hlt2 : j < L.length
        · obtain ⟨v, l, hl, hc, hp⟩ := (HL.out.ext hE).at hlt2
          obtain ⟨A, c, rfl, _⟩ := hp.shapeH
          have HLL := Lib.hid hl
          have CV := fun w' (h : Ext wr w') => valid_c _ l w' (hp.ext h)
          clear hl hp
          cases hv : l.all okPt
          · rw [hv] at CV
            have CV := Lib.hid CV
            have HV := Lib.hid hv
            clear hv
            go_wp2_with (go_at_call 37; refine (CV.out _ (by (repeat' (first | exact Ext.refl _ | assumption | refine Ext.alloc ?_ _ | refine Ext.drew ?_ | refine Ext.drewN ?_ _ | refine Ext.set ?_ (by first | exact Nat.le_refl _ | exact le1 _ | exact le2 _ | exact le3 _ | exact le4 _ | exact le5 _ | exact le6 _) _ | refine Ext.trans ?_ (by assumption))))).mono ?_; rintro e w1 ⟨rfl, hb1⟩)
            go_ret
            refine ⟨?_, by (repeat' (first | exact Ext.refl _ | assumption | refine Ext.alloc ?_ _ | refine Ext.drew ?_ | refine Ext.drewN ?_ _ | refine Ext.set ?_ (by first | exact Nat.le_refl _ | exact le1 _ | exact le2 _ | exact le3 _ | exact le4 _ | exact le5 _ | exact le6 _) _ | refine Ext.trans ?_ (by assumption)))⟩
            have : errLs L = 2 := by unfold errLs; rw [HM2.out, if_neg (by simp), all_of_at HLL.out HV.out, if_neg (by simp)]
            rw [this]
            rfl
          · rw [hv] at CV
            have CV := Lib.hid CV
            have HV := Lib.hid hv
            clear hv
            go_wp2_with (go_at_call 37; refine (CV.out _ (by (repeat' (first | exact Ext.refl _ | assumption | refine Ext.alloc ?_ _ | refine Ext.drew ?_ | refine Ext.drewN ?_ _ | refine Ext.set ?_ (by first | exact Nat.le_refl _ | exact le1 _ | exact le2 _ | exact le3 _ | exact le4 _ | exact le5 _ | exact le6 _) _ | refine Ext.trans ?_ (by assumption))))).mono ?_; rintro e w1 ⟨rfl, hb1⟩)
            refine ⟨⟨j + 1, by omega, by go_num, ?_, by (repeat' (first | exact Ext.refl _ | assumption | refine Ext.alloc ?_ _ | refine Ext.drew ?_ | refine Ext.drewN ?_ _ | refine Ext.set ?_ (by first | exact Nat.le_refl _ | exact le1 _ | exact le2 _ | exact le3 _ | exact le4 _ | exact le5 _ | exact le6 _) _ | refine Ext.trans ?_ (by assumption)))⟩, by simp [intOf]; omega⟩
            rw [all_take_succ' HLL.out, HM.out, HV.out]; rfl
        · go_wp2
          go_ret
          refine ⟨?_, hE⟩
          have h := HM.out
          rw [List.take_of_length_le (by omega)] at h
          have : errLs L = 0 := by unfold errLs; rw [HM2.out, if_neg (by simp), if_pos h]
          rw [this]
          rfl

/-- the errors of hulls -/
def errHs (L : List (List HPt)) : Int := if errLs L = 0 then (if L.all isHullB = true then 0 else 2) else errLs L
theorem checkHulls1_c (v : Value) (l : List HPt) (w : World) (hp : Pts w v l) :
    Calls Try.prog 66 #[v] w fun e w' => e = .returned (.bool (!isHullB l)) ∧ Ext w w' := by
  have C := Lib.hid (fun w' (h : Ext w w') => IsHull_c v l w' (hp.ext h))
  obtain ⟨A, c, rfl, _⟩ := hp.shapeH
  generalize isHullB l = B at *
  clear hp
  go_enter Try.func66, Try.ntmps66
  go_wp2_with (go_at_call 11; refine (C.out _ (by (repeat' (first | exact Ext.refl _ | assumption | refine Ext.alloc ?_ _ | refine Ext.drew ?_ | refine Ext.drewN ?_ _ | refine Ext.set ?_ (by first | exact Nat.le_refl _ | exact le1 _ | exact le2 _ | exact le3 _ | exact le4 _ | exact le5 _ | exact le6 _) _ | refine Ext.trans ?_ (by assumption))))).mono ?_; rintro e w1 ⟨rfl, hb1⟩)
  go_ret
  exact ⟨rfl, by (repeat' (first | exact Ext.refl _ | assumption | refine Ext.alloc ?_ _ | refine Ext.drew ?_ | refine Ext.drewN ?_ _ | refine Ext.set ?_ (by first | exact Nat.le_refl _ | exact le1 _ | exact le2 _ | exact le3 _ | exact le4 _ | exact le5 _ | exact le6 _) _ | refine Ext.trans ?_ (by assumption)))⟩
set_option maxRecDepth 100000 in
set_option maxHeartbeats 1600000 in
theorem IndexFunc_c (b cap : Nat) (vs : List Value) (L : List (List HPt)) (w : World) (hL : Lists w b vs L) (hn : L.length ≤ 1000) :
    Calls Try.prog 80 #[.slice (some ⟨b, 0, none⟩) L.length cap, .func (.func 66) #[] #[]] w fun e w' => ∃ i : Int, e = .returned (.int .i64 i) ∧ (L.all isHullB = decide (i < 0)) ∧ Ext w w' := by
  have HL := Lib.hid hL
  clear hL
  go_enter Try.func80, Try.ntmps80
  go_wp2
  go_loopw [8] (fun i wr => ∃ k : Nat, k ≤ L.length ∧ i = .int .i64 k ∧ (L.take k).all isHullB = true ∧ Ext w wr) (fun i _ => L.length - (intOf i).toNat)
  case atStart => exact ⟨0, by omega, rfl, by simp, Ext.refl _⟩
  case round =>
    obtain ⟨k, hk, rfl, hm, hE⟩ := hrel
    have HM := Lib.hid hm
    clear hm
    by_cases hlt : k < L.length
    · obtain ⟨v, l, hl, hc, hp⟩ := (HL.out.ext hE).at hlt
      have CH := fun w' (h : Ext wr w') => checkHulls1_c v l w' (hp.ext h)
      obtain ⟨A, c, rfl, _⟩ := hp.shapeH
      have HLL := Lib.hid hl
      clear hl hp
      cases hv : isHullB l
      · rw [hv] at CH
        have CH := Lib.hid CH
        have HV := Lib.hid hv
        clear hv
        go_wp2_with (go_at_call 66; refine (CH.out _ (by (repeat' (first | exact Ext.refl _ | assumption | refine Ext.alloc ?_ _ | refine Ext.drew ?_ | refine Ext.drewN ?_ _ | refine Ext.set ?_ (by first | exact Nat.le_refl _ | exact le1 _ | exact le2 _ | exact le3 _ | exact le4 _ | exact le5 _ | exact le6 _) _ | refine Ext.trans ?_ (by assumption))))).mono ?_; rintro e w1 ⟨rfl, hb1⟩)
        go_ret
        exact ⟨k, rfl, by rw [all_of_at HLL.out HV.out, decide_eq_false (by omega)], by (repeat' (first | exact Ext.refl _ | assumption | refine Ext.alloc ?_ _ | refine Ext.drew ?_ | refine Ext.drewN ?_ _ | refine Ext.set ?_ (by first | exact Nat.le_refl _ | exact le1 _ | exact le2 _ | exact le3 _ | exact le4 _ | exact le5 _ | exact le6 _) _ | refine Ext.trans ?_ (by assumption)))⟩
      · rw [hv] at CH
        have CH := Lib.hid CH
        have HV := Lib.hid hv
        clear hv
        go_wp2_with (go_at_call 66; refine (CH.out _ (by (repeat' (first | exact Ext.refl _ | assumption | refine Ext.alloc ?_ _ | refine Ext.drew ?_ | refine Ext.drewN ?_ _ | refine Ext.set ?_ (by first | exact Nat.le_refl _ | exact le1 _ | exact le2 _ | exact le3 _ | exact le4 _ | exact le5 _ | exact le6 _) _ | refine Ext.trans ?_ (by assumption))))).mono ?_; rintro e w1 ⟨rfl, hb1⟩)
        refine ⟨⟨k + 1, by omega, by go_num, ?_, by (repeat' (first | exact Ext.refl _ | assumption | refine Ext.alloc ?_ _ | refine Ext.drew ?_ | refine Ext.drewN ?_ _ | refine Ext.set ?_ (by first | exact Nat.le_refl _ | exact le1 _ | exact le2 _ | exact le3 _ | exact le4 _ | exact le5 _ | exact le6 _) _ | refine Ext.trans ?_ (by assumption)))⟩, by simp [intOf]; omega⟩
        rw [all_take_succ' HLL.out, HM.out, HV.out]; rfl
    · go_wp2
      go_ret
      refine ⟨-1, rfl, ?_, hE⟩
      have h := HM.out
      rw [List.take_of_length_le (by omega)] at h
      rw [h]; rfl
set_option maxHeartbeats 800000 in
theorem ContainsFunc_c (b cap : Nat) (vs : List Value) (L : List (List HPt)) (w : World) (hL : Lists w b vs L) (hn : L.length ≤ 1000) :
    Calls Try.prog 65 #[.slice (some ⟨b, 0, none⟩) L.length cap, .func (.func 66) #[] #[]] w fun e w' => e = .returned (.bool (!L.all isHullB)) ∧ Ext w w' := by
  have C := Lib.hid (fun w' (h : Ext w w') => IndexFunc_c b cap vs L w' (hL.ext h) hn)
  generalize L.all isHullB = B at *
  clear hL
  go_enter Try.func65, Try.ntmps65
  go_wp2_with (go_at_call 80; refine (C.out _ (by (repeat' (first | exact Ext.refl _ | assumption | refine Ext.alloc ?_ _ | refine Ext.drew ?_ | refine Ext.drewN ?_ _ | refine Ext.set ?_ (by first | exact Nat.le_refl _ | exact le1 _ | exact le2 _ | exact le3 _ | exact le4 _ | exact le5 _ | exact le6 _) _ | refine Ext.trans ?_ (by assumption))))).mono ?_; rintro e w1 ⟨i, rfl, hi, hb1⟩; replace hi := Lib.hid hi)
  go_ret
  exact ⟨ret_bool (by rw [hi.out, Bool.eq_iff_iff]; simp), by (repeat' (first | exact Ext.refl _ | assumption | refine Ext.alloc ?_ _ | refine Ext.drew ?_ | refine Ext.drewN ?_ _ | refine Ext.set ?_ (by first | exact Nat.le_refl _ | exact le1 _ | exact le2 _ | exact le3 _ | exact le4 _ | exact le5 _ | exact le6 _) _ | refine Ext.trans ?_ (by assumption)))⟩
set_option maxHeartbeats 800000 in
theorem checkHulls_c (b cap : Nat) (vs : List Value) (L : List (List HPt)) (w : World) (hL : Lists w b vs L) (hn : L.length ≤ 1000) :
    Calls Try.prog 36 #[.slice (some ⟨b, 0, none⟩) L.length cap] w fun e w' => e = .returned (.int .i64 (errHs L)) ∧ Ext w w' := by
  have CP := Lib.hid (fun w' (h : Ext w w') => checkPoints_g b cap vs L w' (hL.ext h) hn)
  have CF := Lib.hid (fun w' (h : Ext w w') => ContainsFunc_c b cap vs L w' (hL.ext h) hn)
  unfold errHs
  generalize errLs L = E at *
  generalize L.all isHullB = B at *
  generalize L.length = n at *
  clear hL
  by_cases he : E = 0
  · subst he
    rw [if_pos rfl]
    cases B
    all_goals
      go_enter Try.func36, Try.ntmps36
      go_wp2_with (first
        | (go_at_call 30; refine (CP.out _ (by (repeat' (first | exact Ext.refl _ | assumption | refine Ext.alloc ?_ _ | refine Ext.drew ?_ | refine Ext.drewN ?_ _ | refine Ext.set ?_ (by first | exact Nat.le_refl _ | exact le1 _ | exact le2 _ | exact le3 _ | exact le4 _ | exact le5 _ | exact le6 _) _ | refine Ext.trans ?_ (by assumption))))).mono ?_; rintro e w1 ⟨rfl, hb1⟩)
        | (go_at_call 65; refine (CF.out _ (by (repeat' (first | exact Ext.refl _ | assumption | refine Ext.alloc ?_ _ | refine Ext.drew ?_ | refine Ext.drewN ?_ _ | refine Ext.set ?_ (by first | exact Nat.le_refl _ | exact le1 _ | exact le2 _ | exact le3 _ | exact le4 _ | exact le5 _ | exact le6 _) _ | refine Ext.trans ?_ (by assumption))))).mono ?_; rintro e w2 ⟨rfl, hb2⟩))
      go_ret
      exact ⟨rfl, by (repeat' (first | exact Ext.refl _ | assumption | refine Ext.alloc ?_ _ | refine Ext.drew ?_ | refine Ext.drewN ?_ _ | refine Ext.set ?_ (by first | exact Nat.le_refl _ | exact le1 _ | exact le2 _ | exact le3 _ | exact le4 _ | exact le5 _ | exact le6 _) _ | refine Ext.trans ?_ (by assumption)))⟩
  · rw [if_neg he]
    have he2 : (E != 0) = true := by simpa using he
    have he3 : (E == 0) = false := by simpa using he
    clear CF he
    go_enter Try.func36, Try.ntmps36
    go_wp2_with (go_at_call 30; refine (CP.out _ (by (repeat' (first | exact Ext.refl _ | assumption | refine Ext.alloc ?_ _ | refine Ext.drew ?_ | refine Ext.drewN ?_ _ | refine Ext.set ?_ (by first | exact Nat.le_refl _ | exact le1 _ | exact le2 _ | exact le3 _ | exact le4 _ | exact le5 _ | exact le6 _) _ | refine Ext.trans ?_ (by assumption))))).mono ?_; rintro e w1 ⟨rfl, hb1⟩)
    go_ret
    exact ⟨rfl, by (repeat' (first | exact Ext.refl _ | assumption | refine Ext.alloc ?_ _ | refine Ext.drew ?_ | refine Ext.drewN ?_ _ | refine Ext.set ?_ (by first | exact Nat.le_refl _ | exact le1 _ | exact le2 _ | exact le3 _ | exact le4 _ | exact le5 _ | exact le6 _) _ | refine Ext.trans ?_ (by assumption)))⟩
end Go.Proofs.Ytlndcpjaeoppmaa
