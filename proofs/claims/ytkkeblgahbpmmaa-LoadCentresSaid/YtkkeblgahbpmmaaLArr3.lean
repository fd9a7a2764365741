
/- [3]int64 compared. -/
import Derived.Test.YtkkeblgahbpmmaaLSpec
namespace Go.Proofs.Ytkkeblgahbpmmaa
open Go.RowKit Instr

theorem is_shape {w : World} {l : LLoad} {vp ve : Value} (h : IsLoad w l vp ve) : ∃ (A B : Option Addr) (c d : Nat), vp = .slice A l.pieces.length c ∧ ve = .slice B l.eyes.length d := by
  obtain ⟨A, c, rfl, _, _⟩ := h.pieces.shape
  obtain ⟨B, d, rfl, _, _⟩ := h.eyes.shape
  exact ⟨A, B, c, d, rfl, rfl⟩
theorem eq3_in (x y z a b c : Int) (w : World) : (Op.equalIn 10000 40 (.agg #[.int .i64 x, .int .i64 y, .int .i64 z]) (.agg #[.int .i64 a, .int .i64 b, .int .i64 c])).run Try.prog w = .ok (x == a && (y == b && z == c)) w := by
  have u2 := Try.underlying2
  have hsz : ∀ w, (sizeOf 2).run Try.prog w = .ok 1 w := fun w => by kernel_rfl
  have hS : Try.prog.underlying 40 = some (.array 3 2) := by kernel_rfl
  rw [show (10000 : Nat) = 9998 + 1 + 1 from rfl, Op.equalIn]
  simp only [Sem.run_bind, run_underlying hS, Result.andThen_ok, hsz, Std.Legacy.Range.forIn_eq_forIn_range', Std.Legacy.Range.size, Nat.sub_zero, Nat.add_sub_cancel, Nat.div_one]
  have pe : ∀ u v : Int, (Op.equalIn (9998 + 1) 2 (.int .i64 u) (.int .i64 v)).run Try.prog w = .ok (u == v) w := fun u v => run_equalIn_int w 9998 2 .i64 .i64 u v u2
  have h3 : List.range' 0 3 1 = [0, 1, 2] := rfl
  rw [h3]
  simp only [List.forIn_cons, List.forIn_nil, Sem.run_bind, Nat.mul_one]
  by_cases h1 : x = a <;> by_cases h2 : y = b <;> by_cases h3 : z = c <;> simp [part, isAgg, run_underlying u2, pe, h1, h2, h3]
theorem neq3_c (x y z a b c : Int) (w : World) : (binOp .neq 40 (.agg #[.int .i64 x, .int .i64 y, .int .i64 z]) (.agg #[.int .i64 a, .int .i64 b, .int .i64 c])).run Try.prog w = .ok (.bool (!(x == a && (y == b && z == c)))) w := by
  rw [run_neq_struct, eq3_in]
  rfl
theorem eql3_c (x y z a b c : Int) (w : World) : (binOp .eql 40 (.agg #[.int .i64 x, .int .i64 y, .int .i64 z]) (.agg #[.int .i64 a, .int .i64 b, .int .i64 c])).run Try.prog w = .ok (.bool (x == a && (y == b && z == c))) w := by
  rw [run_eql_struct, eq3_in]
  rfl
theorem neq3_same (x y z : Int) (w : World) : (binOp .neq 40 (.agg #[.int .i64 x, .int .i64 y, .int .i64 z]) (.agg #[.int .i64 x, .int .i64 y, .int .i64 z])).run Try.prog w = .ok (.bool false) w := by
  rw [neq3_c]; simp
end Go.Proofs.Ytkkeblgahbpmmaa
