
/- Contracts: whether hulls meet, and whether there is a line, the definition. -/
import Derived.Test.YtlndcpjaeoppmaaHParting
namespace Go.Proofs.Ytlndcpjaeoppmaa
open Go.RowKit Go.Shelf

/-- whether two hulls meet -/
def meetB (a b : List HPt) : Bool := !((adirs a b).any (sepB a b))
theorem tryV_shape (a : List HPt) (o : Option HPt) : ∃ x y k, tryV a o = .tuple #[lnV x y k, .bool o.isSome] := by
  cases o with
  | none => exact ⟨0, 0, 0, rfl⟩
  | some d => exact ⟨_, _, _, rfl⟩
theorem find_any (a b : List HPt) (l : List HPt) : (l.find? (sepB a b)).isSome = l.any (sepB a b) := by
  rw [Bool.eq_iff_iff, List.find?_isSome, List.any_eq_true]
set_option maxRecDepth 100000 in
set_option maxHeartbeats 1600000 in
theorem Meets_c (va vb : Value) (a b : List HPt) (w : World) (ha : Pts w va a) (hb : Pts w vb b) (ha0 : 0 < a.length) (hb0 : 0 < b.length) (hwa : ∀ p ∈ a, wideB p) (hwb : ∀ p ∈ b, wideB p) (hna : a.length ≤ 10000) (hnb : b.length ≤ 10000) :
    Calls Try.prog 50 #[va, vb] w fun e w' => e = .returned (.bool (meetB a b)) ∧ Ext w w' := by
  have PC := Lib.hid (fun W (h : Ext w W) => Parting_c va vb a b W (ha.ext h) (hb.ext h) ha0 hb0 hwa hwb hna hnb)
  obtain ⟨A, ca, rfl, _⟩ := ha.shapeH
  obtain ⟨B, cb, rfl, _⟩ := hb.shapeH
  obtain ⟨x, y, k, ht⟩ := tryV_shape a ((adirs a b).find? (sepB a b))
  rw [find_any] at ht
  rw [ht] at PC
  unfold meetB lnV at *
  generalize (adirs a b).any (sepB a b) = M at *
  clear ht ha hb hwa hwb
  cases M
  all_goals
    go_enter Try.func50, Try.ntmps50
    go_wp2_with (go_at_call 70; refine (PC.out _ (by (repeat' (first | exact Ext.refl _ | assumption | refine Ext.alloc ?_ _ | refine Ext.drew ?_ | refine Ext.drewN ?_ _ | refine Ext.set ?_ (by first | exact Nat.le_refl _ | exact le1 _ | exact le2 _ | exact le3 _ | exact le4 _ | exact le5 _ | exact le6 _) _ | refine Ext.trans ?_ (by assumption))))).mono ?_; rintro e w1 ⟨rfl, hb1⟩)
    go_ret
    exact ⟨rfl, by (repeat' (first | exact Ext.refl _ | assumption | refine Ext.alloc ?_ _ | refine Ext.drew ?_ | refine Ext.drewN ?_ _ | refine Ext.set ?_ (by first | exact Nat.le_refl _ | exact le1 _ | exact le2 _ | exact le3 _ | exact le4 _ | exact le5 _ | exact le6 _) _ | refine Ext.trans ?_ (by assumption)))⟩
end Go.Proofs.Ytlndcpjaeoppmaa
