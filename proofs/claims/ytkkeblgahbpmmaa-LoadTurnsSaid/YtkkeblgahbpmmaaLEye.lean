
/- Contracts: between, validEye, the law's great. -/
import Derived.Test.YtkkeblgahbpmmaaLNames
namespace Go.Proofs.Ytkkeblgahbpmmaa
open Go.RowKit

theorem between_c (x lo hi : Int) (w : World) :
    Calls Try.prog 34 #[.int .i64 x, .int .i64 lo, .int .i64 hi] w fun e w' => e = .returned (.bool (inB x lo hi)) ∧ w = w' := by
  by_cases h1 : lo ≤ x
  · by_cases h2 : x ≤ hi
    · go_enter Try.func34, Try.ntmps34
      go_wp2
      go_ret
      exact ⟨ret_bool (inB_yes (by omega) (by omega)), rfl⟩
    · go_enter Try.func34, Try.ntmps34
      go_wp2
      go_ret
      exact ⟨ret_bool (inB_no2 (by omega)), rfl⟩
  · go_enter Try.func34, Try.ntmps34
    go_wp2
    go_ret
    exact ⟨ret_bool (inB_no1 (by omega)), rfl⟩
set_option maxRecDepth 100000 in
set_option maxHeartbeats 1600000 in
theorem validEye_c (e : LEye) (w : World) :
    Calls Try.prog 47 #[.agg #[.int .i64 e.x, .int .i64 e.y, .int .i64 e.z, .int .i64 e.strength]] w fun r w' => r = .returned (.bool (eyeB e)) ∧ Ext w w' := by
  unfold eyeB
  have B1 := Lib.hid (fun w => between_c e.x (-131072) 131072 w)
  have B2 := Lib.hid (fun w => between_c e.y (-131072) 131072 w)
  have B3 := Lib.hid (fun w => between_c e.z 0 131072 w)
  have B4 := Lib.hid (fun w => between_c e.strength 0 4194304 w)
  generalize inB e.x (-131072) 131072 = b1 at *
  generalize inB e.y (-131072) 131072 = b2 at *
  generalize inB e.z 0 131072 = b3 at *
  generalize inB e.strength 0 4194304 = b4 at *
  cases b1 <;> cases b2 <;> cases b3
  all_goals
    go_enter Try.func47, Try.ntmps47
    go_wp2_with (first
      | (go_at_call 34; refine (B1.out _).mono ?_; rintro r w1 ⟨rfl, rfl⟩; clear B1)
      | (go_at_call 34; refine (B2.out _).mono ?_; rintro r w1 ⟨rfl, rfl⟩; clear B2)
      | (go_at_call 34; refine (B3.out _).mono ?_; rintro r w1 ⟨rfl, rfl⟩; clear B3)
      | (go_at_call 34; refine (B4.out _).mono ?_; rintro r w1 ⟨rfl, rfl⟩; clear B4))
    go_ret
    exact ⟨ret_bool (by simp), by (repeat' (first | exact Ext.refl _ | assumption | refine Ext.alloc ?_ _ | refine Ext.drew ?_ | refine Ext.drewN ?_ _ | refine Ext.set ?_ (by first | exact Nat.le_refl _ | exact le1 _ | exact le2 _ | exact le3 _ | exact le4 _ | exact le5 _ | exact le6 _) _ | refine Ext.trans ?_ (by assumption)))⟩
end Go.Proofs.Ytkkeblgahbpmmaa
