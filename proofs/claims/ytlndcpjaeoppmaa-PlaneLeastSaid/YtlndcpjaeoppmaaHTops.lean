
/- Contracts: Meet, Part and CheckPart, the definition. -/
import Derived.Test.YtlndcpjaeoppmaaHMeets
namespace Go.Proofs.Ytlndcpjaeoppmaa
open Go.RowKit Go.Shelf

theorem errHs_ok {a b : List HPt} (h : errHs [a, b] = 0) : isHullB a = true ∧ isHullB b = true := by
  rw [errHs_two] at h
  by_cases h1 : 256 < a.length ∨ 256 < b.length
  · rw [if_pos h1] at h; cases h
  · rw [if_neg h1] at h
    by_cases h2 : isHullB a = true ∧ isHullB b = true
    · exact h2
    · rw [if_neg h2] at h; cases h
theorem isHull_facts {a : List HPt} (h : isHullB a = true) : 0 < a.length ∧ a.length ≤ 256 ∧ (∀ p ∈ a, okPt p = true) ∧ (∀ p ∈ a, wideB p) ∧ cornersP a = a := by
  have he := isHullB_err h
  obtain ⟨h1, h2, h3⟩ := errPts_wide he
  unfold isHullB at h
  simp only [Bool.and_eq_true, decide_eq_true_eq] at h
  exact ⟨h.1, h1, h2, h3, h.2.2⟩
def meetE (a b : List HPt) : Bool × Int := if errHs [a, b] = 0 then (meetB a b, 0) else (false, errHs [a, b])
set_option maxRecDepth 100000 in
set_option maxHeartbeats 1600000 in
theorem RMeet_c (va vb : Value) (a b : List HPt) (w : World) (ha : Pts w va a) (hb : Pts w vb b) :
    Calls Try.prog 23 #[va, vb] w fun e w' => e = .returned (.tuple #[.bool (meetE a b).1, .int .i64 (meetE a b).2]) ∧ Ext w w' := by
  have HC := Lib.hid (fun W (h : Ext w W) => Rhulls_c va vb a b W (ha.ext h) (hb.ext h))
  by_cases he : errHs [a, b] = 0
  · obtain ⟨h1, h2⟩ := errHs_ok he
    obtain ⟨ha0, hal, _, hwa, _⟩ := isHull_facts h1
    obtain ⟨hb0, hbl, _, hwb, _⟩ := isHull_facts h2
    have MC := Lib.hid (fun W (h : Ext w W) => Meets_c va vb a b W (ha.ext h) (hb.ext h) ha0 hb0 hwa hwb (by omega) (by omega))
    unfold meetE
    rw [if_pos he]
    rw [he] at HC
    obtain ⟨A, ca, rfl, _⟩ := ha.shapeH
    obtain ⟨B, cb, rfl, _⟩ := hb.shapeH
    generalize meetB a b = M at *
    clear he h1 h2 ha hb hwa hwb
    go_enter Try.func23, Try.ntmps23
    go_wp2_with (first
      | (go_at_call 41; refine (HC.out _ (by (repeat' (first | exact Ext.refl _ | assumption | refine Ext.alloc ?_ _ | refine Ext.drew ?_ | refine Ext.drewN ?_ _ | refine Ext.set ?_ (by first | exact Nat.le_refl _ | exact le1 _ | exact le2 _ | exact le3 _ | exact le4 _ | exact le5 _ | exact le6 _) _ | refine Ext.trans ?_ (by assumption))))).mono ?_; rintro e w1 ⟨rfl, hb1⟩)
      | (go_at_call 50; refine (MC.out _ (by (repeat' (first | exact Ext.refl _ | assumption | refine Ext.alloc ?_ _ | refine Ext.drew ?_ | refine Ext.drewN ?_ _ | refine Ext.set ?_ (by first | exact Nat.le_refl _ | exact le1 _ | exact le2 _ | exact le3 _ | exact le4 _ | exact le5 _ | exact le6 _) _ | refine Ext.trans ?_ (by assumption))))).mono ?_; rintro e w2 ⟨rfl, hb2⟩))
    exact bodyPost_ret (v := .tuple #[.bool M, .int .i64 0]) (by simp [results, Try.results23, go_sem]) rfl ⟨rfl, by (repeat' (first | exact Ext.refl _ | assumption | refine Ext.alloc ?_ _ | refine Ext.drew ?_ | refine Ext.drewN ?_ _ | refine Ext.set ?_ (by first | exact Nat.le_refl _ | exact le1 _ | exact le2 _ | exact le3 _ | exact le4 _ | exact le5 _ | exact le6 _) _ | refine Ext.trans ?_ (by assumption)))⟩
  · unfold meetE
    rw [if_neg he]
    have he2 : (errHs [a, b] != 0) = true := by simpa using he
    have he3 : (errHs [a, b] == 0) = false := by simpa using he
    obtain ⟨A, ca, rfl, _⟩ := ha.shapeH
    obtain ⟨B, cb, rfl, _⟩ := hb.shapeH
    generalize errHs [a, b] = E at *
    clear he ha hb
    go_enter Try.func23, Try.ntmps23
    go_wp2_with (go_at_call 41; refine (HC.out _ (by (repeat' (first | exact Ext.refl _ | assumption | refine Ext.alloc ?_ _ | refine Ext.drew ?_ | refine Ext.drewN ?_ _ | refine Ext.set ?_ (by first | exact Nat.le_refl _ | exact le1 _ | exact le2 _ | exact le3 _ | exact le4 _ | exact le5 _ | exact le6 _) _ | refine Ext.trans ?_ (by assumption))))).mono ?_; rintro e w1 ⟨rfl, hb1⟩)
    exact bodyPost_ret (v := .tuple #[.bool false, .int .i64 E]) (by simp [results, Try.results23, go_sem]) rfl ⟨rfl, by (repeat' (first | exact Ext.refl _ | assumption | refine Ext.alloc ?_ _ | refine Ext.drew ?_ | refine Ext.drewN ?_ _ | refine Ext.set ?_ (by first | exact Nat.le_refl _ | exact le1 _ | exact le2 _ | exact le3 _ | exact le4 _ | exact le5 _ | exact le6 _) _ | refine Ext.trans ?_ (by assumption)))⟩
def partE (a b : List HPt) : Int := if errHs [a, b] = 0 then (if meetB a b = true then 5 else 0) else errHs [a, b]
set_option maxRecDepth 100000 in
set_option maxHeartbeats 1600000 in
theorem RPart_c (va vb : Value) (a b : List HPt) (w : World) (ha : Pts w va a) (hb : Pts w vb b) :
    Calls Try.prog 29 #[va, vb] w fun e w' => e = .returned (.int .i64 (partE a b)) ∧ Ext w w' := by
  have HC := Lib.hid (fun W (h : Ext w W) => Rhulls_c va vb a b W (ha.ext h) (hb.ext h))
  by_cases he : errHs [a, b] = 0
  · obtain ⟨h1, h2⟩ := errHs_ok he
    obtain ⟨ha0, hal, _, hwa, _⟩ := isHull_facts h1
    obtain ⟨hb0, hbl, _, hwb, _⟩ := isHull_facts h2
    have MC := Lib.hid (fun W (h : Ext w W) => Meets_c va vb a b W (ha.ext h) (hb.ext h) ha0 hb0 hwa hwb (by omega) (by omega))
    unfold partE
    rw [if_pos he]
    rw [he] at HC
    obtain ⟨A, ca, rfl, _⟩ := ha.shapeH
    obtain ⟨B, cb, rfl, _⟩ := hb.shapeH
    generalize meetB a b = M at *
    clear he h1 h2 ha hb hwa hwb
    cases M
    all_goals
      go_enter Try.func29, Try.ntmps29
      go_wp2_with (first
        | (go_at_call 41; refine (HC.out _ (by (repeat' (first | exact Ext.refl _ | assumption | refine Ext.alloc ?_ _ | refine Ext.drew ?_ | refine Ext.drewN ?_ _ | refine Ext.set ?_ (by first | exact Nat.le_refl _ | exact le1 _ | exact le2 _ | exact le3 _ | exact le4 _ | exact le5 _ | exact le6 _) _ | refine Ext.trans ?_ (by assumption))))).mono ?_; rintro e w1 ⟨rfl, hb1⟩)
        | (go_at_call 50; refine (MC.out _ (by (repeat' (first | exact Ext.refl _ | assumption | refine Ext.alloc ?_ _ | refine Ext.drew ?_ | refine Ext.drewN ?_ _ | refine Ext.set ?_ (by first | exact Nat.le_refl _ | exact le1 _ | exact le2 _ | exact le3 _ | exact le4 _ | exact le5 _ | exact le6 _) _ | refine Ext.trans ?_ (by assumption))))).mono ?_; rintro e w2 ⟨rfl, hb2⟩))
      go_ret
      exact ⟨rfl, by (repeat' (first | exact Ext.refl _ | assumption | refine Ext.alloc ?_ _ | refine Ext.drew ?_ | refine Ext.drewN ?_ _ | refine Ext.set ?_ (by first | exact Nat.le_refl _ | exact le1 _ | exact le2 _ | exact le3 _ | exact le4 _ | exact le5 _ | exact le6 _) _ | refine Ext.trans ?_ (by assumption)))⟩
  · unfold partE
    rw [if_neg he]
    have he2 : (errHs [a, b] != 0) = true := by simpa using he
    have he3 : (errHs [a, b] == 0) = false := by simpa using he
    obtain ⟨A, ca, rfl, _⟩ := ha.shapeH
    obtain ⟨B, cb, rfl, _⟩ := hb.shapeH
    generalize errHs [a, b] = E at *
    clear he ha hb
    go_enter Try.func29, Try.ntmps29
    go_wp2_with (go_at_call 41; refine (HC.out _ (by (repeat' (first | exact Ext.refl _ | assumption | refine Ext.alloc ?_ _ | refine Ext.drew ?_ | refine Ext.drewN ?_ _ | refine Ext.set ?_ (by first | exact Nat.le_refl _ | exact le1 _ | exact le2 _ | exact le3 _ | exact le4 _ | exact le5 _ | exact le6 _) _ | refine Ext.trans ?_ (by assumption))))).mono ?_; rintro e w1 ⟨rfl, hb1⟩)
    go_ret
    exact ⟨rfl, by (repeat' (first | exact Ext.refl _ | assumption | refine Ext.alloc ?_ _ | refine Ext.drew ?_ | refine Ext.drewN ?_ _ | refine Ext.set ?_ (by first | exact Nat.le_refl _ | exact le1 _ | exact le2 _ | exact le3 _ | exact le4 _ | exact le5 _ | exact le6 _) _ | refine Ext.trans ?_ (by assumption)))⟩
/-- whether a line's numbers are in range -/
def lineB (x y k : Int) : Bool := inB x (-67108864) 67108864 && (inB y (-67108864) 67108864 && inB k (-4503599627370496) 4503599627370496)
def checkE (a b : List HPt) (x y k : Int) : Int := if errHs [a, b] = 0 then (if lineB x y k = true then (if partsB a b (x, y) k = true then 0 else 16) else 3) else errHs [a, b]
theorem line_wide {x y k : Int} (h : lineB x y k = true) : wideD (x, y) := by
  unfold lineB inB at h
  simp only [Bool.and_eq_true, decide_eq_true_eq] at h
  unfold wideD
  simp only
  omega
set_option maxRecDepth 100000 in
set_option maxHeartbeats 3200000 in
theorem RCheckPart_c (va vb : Value) (a b : List HPt) (x y k : Int) (w : World) (ha : Pts w va a) (hb : Pts w vb b) :
    Calls Try.prog 27 #[va, vb, lnV x y k] w fun e w' => e = .returned (.int .i64 (checkE a b x y k)) ∧ Ext w w' := by
  have HC := Lib.hid (fun W (h : Ext w W) => Rhulls_c va vb a b W (ha.ext h) (hb.ext h))
  by_cases he : errHs [a, b] = 0
  · obtain ⟨h1, h2⟩ := errHs_ok he
    obtain ⟨ha0, hal, _, hwa, _⟩ := isHull_facts h1
    obtain ⟨hb0, hbl, _, hwb, _⟩ := isHull_facts h2
    have PC := fun (hl : lineB x y k = true) W (h : Ext w W) => parts_c x y k va vb a b W (ha.ext h) (hb.ext h) (line_wide hl) hwa hwb
    unfold checkE
    rw [if_pos he]
    rw [he] at HC
    obtain ⟨A, ca, rfl, _⟩ := ha.shapeH
    obtain ⟨B, cb, rfl, _⟩ := hb.shapeH
    generalize partsB a b (x, y) k = M at *
    clear he h1 h2 ha hb hwa hwb
    have IX := fun w => In_c x (-67108864) 67108864 w
    have IY := fun w => In_c y (-67108864) 67108864 w
    have IK := fun w => In_c k (-4503599627370496) 4503599627370496 w
    unfold lineB at *
    unfold lnV at *
    generalize inB x (-67108864) 67108864 = bx at *
    generalize inB y (-67108864) 67108864 = by' at *
    generalize inB k (-4503599627370496) 4503599627370496 = bk at *
    replace PC := Lib.hid PC
    replace IX := Lib.hid IX
    replace IY := Lib.hid IY
    replace IK := Lib.hid IK
    cases bx <;> cases by' <;> cases bk <;> cases M
    all_goals
      go_enter Try.func27, Try.ntmps27
      go_wp2_with (first
        | (go_at_call 41; refine (HC.out _ (by (repeat' (first | exact Ext.refl _ | assumption | refine Ext.alloc ?_ _ | refine Ext.drew ?_ | refine Ext.drewN ?_ _ | refine Ext.set ?_ (by first | exact Nat.le_refl _ | exact le1 _ | exact le2 _ | exact le3 _ | exact le4 _ | exact le5 _ | exact le6 _) _ | refine Ext.trans ?_ (by assumption))))).mono ?_; rintro e w1 ⟨rfl, hb1⟩; have y0 := Ext.cell hb1 (p := ⟨w.heap.size, 0, none⟩) (v := .int .i64 x) (by go_simp); have y1 := Ext.cell hb1 (p := ⟨w.heap.size, 1, none⟩) (v := .int .i64 y) (by go_simp); have y2 := Ext.cell hb1 (p := ⟨w.heap.size, 2, none⟩) (v := .int .i64 k) (by go_simp))
        | (go_at_call 48; refine (IX.out _).mono ?_; rintro e w2 ⟨rfl, rfl⟩; clear IX)
        | (go_at_call 48; refine (IY.out _).mono ?_; rintro e w2 ⟨rfl, rfl⟩; clear IY)
        | (go_at_call 48; refine (IK.out _).mono ?_; rintro e w2 ⟨rfl, rfl⟩; clear IK)
        | (go_at_call 53; refine (PC.out rfl _ (by (repeat' (first | exact Ext.refl _ | assumption | refine Ext.alloc ?_ _ | refine Ext.drew ?_ | refine Ext.drewN ?_ _ | refine Ext.set ?_ (by first | exact Nat.le_refl _ | exact le1 _ | exact le2 _ | exact le3 _ | exact le4 _ | exact le5 _ | exact le6 _) _ | refine Ext.trans ?_ (by assumption))))).mono ?_; rintro e w3 ⟨rfl, hb3⟩))
      go_ret
      exact ⟨rfl, by (repeat' (first | exact Ext.refl _ | assumption | refine Ext.alloc ?_ _ | refine Ext.drew ?_ | refine Ext.drewN ?_ _ | refine Ext.set ?_ (by first | exact Nat.le_refl _ | exact le1 _ | exact le2 _ | exact le3 _ | exact le4 _ | exact le5 _ | exact le6 _) _ | refine Ext.trans ?_ (by assumption)))⟩
  · unfold checkE
    rw [if_neg he]
    have he2 : (errHs [a, b] != 0) = true := by simpa using he
    have he3 : (errHs [a, b] == 0) = false := by simpa using he
    obtain ⟨A, ca, rfl, _⟩ := ha.shapeH
    obtain ⟨B, cb, rfl, _⟩ := hb.shapeH
    generalize errHs [a, b] = E at *
    unfold lnV
    clear he ha hb
    go_enter Try.func27, Try.ntmps27
    go_wp2_with (go_at_call 41; refine (HC.out _ (by (repeat' (first | exact Ext.refl _ | assumption | refine Ext.alloc ?_ _ | refine Ext.drew ?_ | refine Ext.drewN ?_ _ | refine Ext.set ?_ (by first | exact Nat.le_refl _ | exact le1 _ | exact le2 _ | exact le3 _ | exact le4 _ | exact le5 _ | exact le6 _) _ | refine Ext.trans ?_ (by assumption))))).mono ?_; rintro e w1 ⟨rfl, hb1⟩)
    go_ret
    exact ⟨rfl, by (repeat' (first | exact Ext.refl _ | assumption | refine Ext.alloc ?_ _ | refine Ext.drew ?_ | refine Ext.drewN ?_ _ | refine Ext.set ?_ (by first | exact Nat.le_refl _ | exact le1 _ | exact le2 _ | exact le3 _ | exact le4 _ | exact le5 _ | exact le6 _) _ | refine Ext.trans ?_ (by assumption)))⟩
end Go.Proofs.Ytlndcpjaeoppmaa
