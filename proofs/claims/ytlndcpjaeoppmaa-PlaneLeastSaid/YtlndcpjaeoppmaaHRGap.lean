
/- Contract: Gap, the definition. -/
import Derived.Test.YtlndcpjaeoppmaaHApart
namespace Go.Proofs.Ytlndcpjaeoppmaa
open Go.RowKit Go.Shelf

def gapE (a b : List HPt) : Int × Int := if errHs [a, b] = 0 then (gapP a b, 0) else (0, errHs [a, b])
set_option maxRecDepth 100000 in
set_option maxHeartbeats 1600000 in
theorem RGap_c (va vb : Value) (a b : List HPt) (w : World) (ha : Pts w va a) (hb : Pts w vb b) :
    Calls Try.prog 25 #[va, vb] w fun e w' => e = .returned (.tuple #[.int .i64 (gapE a b).1, .int .i64 (gapE a b).2]) ∧ Ext w w' := by
  have HC := Lib.hid (fun W (h : Ext w W) => Rhulls_c va vb a b W (ha.ext h) (hb.ext h))
  by_cases he : errHs [a, b] = 0
  · obtain ⟨h1, h2⟩ := errHs_ok he
    obtain ⟨ha0, hal, hoa, _, _⟩ := isHull_facts h1
    obtain ⟨hb0, hbl, _, hwb, _⟩ := isHull_facts h2
    have MC := Lib.hid (fun W (h : Ext w W) => Apart_c va vb a b W (ha.ext h) (hb.ext h) ha0 hb0 hoa hwb hal hbl)
    unfold gapE
    rw [if_pos he]
    rw [he] at HC
    obtain ⟨A, ca, rfl, _⟩ := ha.shapeH
    obtain ⟨B, cb, rfl, _⟩ := hb.shapeH
    generalize gapP a b = M at *
    clear he h1 h2 ha hb hoa hwb
    go_enter Try.func25, Try.ntmps25
    go_wp2_with (first
      | (go_at_call 41; refine (HC.out _ (by (repeat' (first | exact Ext.refl _ | assumption | refine Ext.alloc ?_ _ | refine Ext.drew ?_ | refine Ext.drewN ?_ _ | refine Ext.set ?_ (by first | exact Nat.le_refl _ | exact le1 _ | exact le2 _ | exact le3 _ | exact le4 _ | exact le5 _ | exact le6 _) _ | refine Ext.trans ?_ (by assumption))))).mono ?_; rintro e w1 ⟨rfl, hb1⟩)
      | (go_at_call 51; refine (MC.out _ (by (repeat' (first | exact Ext.refl _ | assumption | refine Ext.alloc ?_ _ | refine Ext.drew ?_ | refine Ext.drewN ?_ _ | refine Ext.set ?_ (by first | exact Nat.le_refl _ | exact le1 _ | exact le2 _ | exact le3 _ | exact le4 _ | exact le5 _ | exact le6 _) _ | refine Ext.trans ?_ (by assumption))))).mono ?_; rintro e w2 ⟨rfl, hb2⟩))
    exact bodyPost_ret (v := .tuple #[.int .i64 M, .int .i64 0]) (by simp [results, Try.results25, go_sem]) rfl ⟨rfl, by (repeat' (first | exact Ext.refl _ | assumption | refine Ext.alloc ?_ _ | refine Ext.drew ?_ | refine Ext.drewN ?_ _ | refine Ext.set ?_ (by first | exact Nat.le_refl _ | exact le1 _ | exact le2 _ | exact le3 _ | exact le4 _ | exact le5 _ | exact le6 _) _ | refine Ext.trans ?_ (by assumption)))⟩
  · unfold gapE
    rw [if_neg he]
    have he2 : (errHs [a, b] != 0) = true := by simpa using he
    have he3 : (errHs [a, b] == 0) = false := by simpa using he
    obtain ⟨A, ca, rfl, _⟩ := ha.shapeH
    obtain ⟨B, cb, rfl, _⟩ := hb.shapeH
    generalize errHs [a, b] = E at *
    clear he ha hb
    go_enter Try.func25, Try.ntmps25
    go_wp2_with (go_at_call 41; refine (HC.out _ (by (repeat' (first | exact Ext.refl _ | assumption | refine Ext.alloc ?_ _ | refine Ext.drew ?_ | refine Ext.drewN ?_ _ | refine Ext.set ?_ (by first | exact Nat.le_refl _ | exact le1 _ | exact le2 _ | exact le3 _ | exact le4 _ | exact le5 _ | exact le6 _) _ | refine Ext.trans ?_ (by assumption))))).mono ?_; rintro e w1 ⟨rfl, hb1⟩)
    exact bodyPost_ret (v := .tuple #[.int .i64 0, .int .i64 E]) (by simp [results, Try.results25, go_sem]) rfl ⟨rfl, by (repeat' (first | exact Ext.refl _ | assumption | refine Ext.alloc ?_ _ | refine Ext.drew ?_ | refine Ext.drewN ?_ _ | refine Ext.set ?_ (by first | exact Nat.le_refl _ | exact le1 _ | exact le2 _ | exact le3 _ | exact le4 _ | exact le5 _ | exact le6 _) _ | refine Ext.trans ?_ (by assumption)))⟩
end Go.Proofs.Ytlndcpjaeoppmaa
