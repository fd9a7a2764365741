
/- Contracts of the number functions of both texts. -/
import Derived.Test.YtgikfliibimkdaaRows
import Derived.Test.YtgikfliibimkdaaPlain
import Derived.WalkKit
import Derived.WalkSpells
import Derived.WalkLawsBesides
import Derived.Lib.Hide
namespace Go.Proofs.Ytgikfliibimkdaa
open Go.RowKit

theorem ret_bool {a b : Bool} (h : a = b) : Ending.returned (.bool a) = .returned (.bool b) := by rw [h]
theorem ret_int {k : IntKind} {a b : Int} (h : a = b) : Ending.returned (.int k a) = .returned (.int k b) := by rw [h]

def inB (x lo hi : Int) : Bool := decide (lo ≤ x ∧ x ≤ hi)
theorem inB_yes {x lo hi : Int} (h1 : lo ≤ x) (h2 : x ≤ hi) : true = inB x lo hi := by simp [inB, h1, h2]
theorem inB_no1 {x lo hi : Int} (h1 : x < lo) : false = inB x lo hi := by simp [inB]; omega
theorem inB_no2 {x lo hi : Int} (h1 : hi < x) : false = inB x lo hi := by simp [inB]; omega

set_option maxHeartbeats 400000 in
theorem within_c (x lo hi : Int) (w : World) :
    Calls Try.prog 72 #[.int .i64 x, .int .i64 lo, .int .i64 hi] w fun e w' => e = .returned (.bool (inB x lo hi)) ∧ w = w' := by
  by_cases h1 : lo ≤ x
  · by_cases h2 : x ≤ hi
    · go_enter Try.func72, Try.ntmps72
      go_wp2
      go_ret
      exact ⟨ret_bool (inB_yes (by omega) (by omega)), rfl⟩
    · go_enter Try.func72, Try.ntmps72
      go_wp2
      go_ret
      exact ⟨ret_bool (inB_no2 (by omega)), rfl⟩
  · go_enter Try.func72, Try.ntmps72
    go_wp2
    go_ret
    exact ⟨ret_bool (inB_no1 (by omega)), rfl⟩

set_option maxHeartbeats 400000 in
theorem In_c (x lo hi : Int) (w : World) :
    Calls Try.prog 81 #[.int .i64 x, .int .i64 lo, .int .i64 hi] w fun e w' => e = .returned (.bool (inB x lo hi)) ∧ w = w' := by
  by_cases h1 : lo ≤ x
  · by_cases h2 : x ≤ hi
    · go_enter Try.func81, Try.ntmps81
      go_wp2
      go_ret
      exact ⟨ret_bool (inB_yes (by omega) (by omega)), rfl⟩
    · go_enter Try.func81, Try.ntmps81
      go_wp2
      go_ret
      exact ⟨ret_bool (inB_no2 (by omega)), rfl⟩
  · go_enter Try.func81, Try.ntmps81
    go_wp2
    go_ret
    exact ⟨ret_bool (inB_no1 (by omega)), rfl⟩

set_option maxHeartbeats 400000 in
theorem down_c (n d : Int) (w : World) (h1 : -9000000000000000000 ≤ n) (h2 : n ≤ 9000000000000000000) (h3 : 1 ≤ d) (h4 : d ≤ 9000000000000000000) :
    Calls Try.prog 95 #[.int .i64 n, .int .i64 d] w fun e w' => e = .returned (.int .i64 (n / d)) ∧ w = w' := by
  have a := (Pl.tdiv_bd n d 9000000000000000000 h3 (by omega) (by omega) (by omega)).1
  have b := (Pl.tdiv_bd n d 9000000000000000000 h3 (by omega) (by omega) (by omega)).2
  go_enter Try.func95, Try.ntmps95
  go_wp2
  · go_ret
    exact ⟨ret_int (Pl.tdiv_of_tmod_neg n d h3 (by omega)), rfl⟩
  · go_ret
    exact ⟨ret_int (Pl.tdiv_of_tmod_nonneg n d h3 (by omega)), rfl⟩

set_option maxHeartbeats 400000 in
theorem Down_c (n d : Int) (w : World) (h1 : -9000000000000000000 ≤ n) (h2 : n ≤ 9000000000000000000) (h3 : 1 ≤ d) (h4 : d ≤ 9000000000000000000) :
    Calls Try.prog 110 #[.int .i64 n, .int .i64 d] w fun e w' => e = .returned (.int .i64 (n / d)) ∧ w = w' := by
  have a := (Pl.tdiv_bd n d 9000000000000000000 h3 (by omega) (by omega) (by omega)).1
  have b := (Pl.tdiv_bd n d 9000000000000000000 h3 (by omega) (by omega) (by omega)).2
  go_enter Try.func110, Try.ntmps110
  go_wp2
  · go_ret
    exact ⟨ret_int (Pl.tdiv_of_tmod_neg n d h3 (by omega)), rfl⟩
  · go_ret
    exact ⟨ret_int (Pl.tdiv_of_tmod_nonneg n d h3 (by omega)), rfl⟩

theorem near_yes {n d : Int} (h : d - (n - n / d * d) ≤ n - n / d * d) : n / d + 1 = Pl.near n d := by unfold Pl.near; rw [if_pos (by omega)]
theorem near_no {n d : Int} (h : n - n / d * d < d - (n - n / d * d)) : n / d = Pl.near n d := by unfold Pl.near; rw [if_neg (by omega)]
theorem near_yes2 {n d : Int} (h : d ≤ 2 * (n - n / d * d)) : n / d + 1 = Pl.near n d := by unfold Pl.near; rw [if_pos (by omega)]
theorem near_no2 {n d : Int} (h : 2 * (n - n / d * d) < d) : n / d = Pl.near n d := by unfold Pl.near; rw [if_neg (by omega)]

set_option maxHeartbeats 400000 in
theorem near_c (n d : Int) (w : World) (h1 : -4000000000000000000 ≤ n) (h2 : n ≤ 4000000000000000000) (h3 : 1 ≤ d) (h4 : d ≤ 4000000000000000000) :
    Calls Try.prog 73 #[.int .i64 n, .int .i64 d] w fun e w' => e = .returned (.int .i64 (Pl.near n d)) ∧ w = w' := by
  have a := (Pl.ediv_bd n d h3).1
  have b := (Pl.ediv_bd n d h3).2
  have c := Pl.ediv_le n d 4000000000000000000 h3 (by omega) h2
  have c' := Pl.le_ediv n d 4000000000000000000 h3 (by omega) (by omega)
  go_enter Try.func73, Try.ntmps73
  go_wp2_with (go_at_call 95; refine (down_c _ _ _ (by omega) (by omega) (by omega) (by omega)).mono ?_; rintro e w' ⟨rfl, rfl⟩)
  · go_ret
    exact ⟨ret_int (near_yes (by assumption)), rfl⟩
  · go_ret
    exact ⟨ret_int (near_no (by assumption)), rfl⟩

set_option maxHeartbeats 400000 in
theorem Near_c (n d : Int) (w : World) (h1 : -4000000000000000000 ≤ n) (h2 : n ≤ 4000000000000000000) (h3 : 1 ≤ d) (h4 : d ≤ 4000000000000000000) :
    Calls Try.prog 102 #[.int .i64 n, .int .i64 d] w fun e w' => e = .returned (.int .i64 (Pl.near n d)) ∧ w = w' := by
  have a := (Pl.ediv_bd n d h3).1
  have b := (Pl.ediv_bd n d h3).2
  have c := Pl.ediv_le n d 4000000000000000000 h3 (by omega) h2
  have c' := Pl.le_ediv n d 4000000000000000000 h3 (by omega) (by omega)
  go_enter Try.func102, Try.ntmps102
  go_wp2_with (go_at_call 110; refine (Down_c _ _ _ (by omega) (by omega) (by omega) (by omega)).mono ?_; rintro e w' ⟨rfl, rfl⟩)
  · go_ret
    exact ⟨ret_int (near_yes2 (by assumption)), rfl⟩
  · go_ret
    exact ⟨ret_int (near_no2 (by assumption)), rfl⟩

end Go.Proofs.Ytgikfliibimkdaa
