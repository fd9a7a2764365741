
/- LExAll: several texts in one. -/
import Derived.Test.YtkkeblgahbpmmaaLRow
import Derived.Test.YtkkeblgahbpmmaaLProvAll
import Derived.Test.YtkkeblgahbpmmaaLSpec
/- Contract: the Example of the chapter. -/
namespace Go.Proofs.Ytkkeblgahbpmmaa
open Go.RowKit

def exampleL : LLoad := ⟨⟨#[98, 111, 120]⟩, [⟨0, 0, 0, 2000, 1000, 1000, 4000⟩, ⟨0, 0, 1000, 1000, 1000, 500, 1000⟩], [⟨0, 0, 500, 10000⟩, ⟨2000, 1000, 500, 10000⟩], 300⟩
theorem OwnR.blk {α : Type} {enc : α → List Value} {k : Nat} {e : TypeId} {base g : Nat} {w : World} {l : List α} {cs : Array Value} (hb : base ≤ g) (hg : w.heap[g]? = some (.cells cs e (0, 0))) (hl : (l.map enc).flatten.length = l.length * k) (hm : l.length ≤ maxLen) (hcs : cs.toList = (l.map enc).flatten) :
    OwnR enc k e base w (.slice (some ⟨g, 0, none⟩) l.length l.length) l :=
  ⟨hl, .inr ⟨g, l.length, cs, rfl, hb, hg, Nat.le_refl _, hm, by rw [← hl, ← hcs]; simp, by rw [hcs, ← hl, List.take_length]⟩⟩
set_option maxRecDepth 100000 in
set_option maxHeartbeats 3200000 in
theorem Example_c (w : World) : Calls Try.prog 25 #[] w fun e w' => ∃ vp ve, e = .returned (loadV exampleL vp ve) ∧ IsLoad w' exampleL vp ve ∧ Ext w w' := by
  go_enter Try.func25, Try.ntmps25
  go_wp2
  have bp := lb_alloc (lb_new (w.alloc (.cells #[.string ⟨#[98, 111, 120]⟩, .slice (some ⟨w.heap.size + 1, 0, none⟩) 2 2, .slice (some ⟨w.heap.size + 1 + 1, 0, none⟩) 2 2, .int .i64 300] 25)) (.cells #[.int .i64 0, .int .i64 0, .int .i64 0, .int .i64 2000, .int .i64 1000, .int .i64 1000, .int .i64 4000, .int .i64 0, .int .i64 0, .int .i64 1000, .int .i64 1000, .int .i64 1000, .int .i64 500, .int .i64 1000] 64)) (.cells #[.int .i64 0, .int .i64 0, .int .i64 500, .int .i64 10000, .int .i64 2000, .int .i64 1000, .int .i64 500, .int .i64 10000] 66)
  have be := lb_new ((w.alloc (.cells #[.string ⟨#[98, 111, 120]⟩, .slice (some ⟨w.heap.size + 1, 0, none⟩) 2 2, .slice (some ⟨w.heap.size + 1 + 1, 0, none⟩) 2 2, .int .i64 300] 25)).alloc (.cells #[.int .i64 0, .int .i64 0, .int .i64 0, .int .i64 2000, .int .i64 1000, .int .i64 1000, .int .i64 4000, .int .i64 0, .int .i64 0, .int .i64 1000, .int .i64 1000, .int .i64 1000, .int .i64 500, .int .i64 1000] 64)) (.cells #[.int .i64 0, .int .i64 0, .int .i64 500, .int .i64 10000, .int .i64 2000, .int .i64 1000, .int .i64 500, .int .i64 10000] 66)
  simp only [size_alloc] at bp be
  refine bodyPost_ret (v := .agg #[.string ⟨#[98, 111, 120]⟩, .slice (some ⟨w.heap.size + 1, 0, none⟩) 2 2, .slice (some ⟨w.heap.size + 1 + 1, 0, none⟩) 2 2, .int .i64 300]) (by simp [results, Try.results25, go_sem]) rfl ?_
  have op : OwnR pieceCs 7 64 w.heap.size _ (.slice (some ⟨w.heap.size + 1, 0, none⟩) exampleL.pieces.length exampleL.pieces.length) exampleL.pieces := OwnR.blk (by omega) bp rfl (by decide) rfl
  have oe : OwnR eyeCs 4 66 w.heap.size _ (.slice (some ⟨w.heap.size + 1 + 1, 0, none⟩) exampleL.eyes.length exampleL.eyes.length) exampleL.eyes := OwnR.blk (by omega) be rfl (by decide) rfl
  exact ⟨_, _, rfl, ⟨op.sl pieceCs_len (fun _ _ => rfl), oe.sl eyeCs_len (fun _ _ => rfl)⟩, (((Ext.refl w).alloc _).alloc _).alloc _⟩
end Go.Proofs.Ytkkeblgahbpmmaa
/- The numbers of the Example: its reach, what is needed, and what proves it. -/
namespace Go.Proofs.Ytkkeblgahbpmmaa
open Go.RowKit

def exHull : List HPt := [(-1500, 0), (-1060, -1060), (0, -1500), (1060, -1060), (1500, 0), (1060, 1060), (0, 1500), (-1060, 1060)]
theorem ex_fric : fricL 5000 300 0 0 = [(1500, 0), (1060, 1060), (0, 1500), (-1060, 1060), (-1500, 0), (-1060, -1060), (0, -1500), (1060, -1060)] := by decide
set_option maxRecDepth 100000 in
theorem ex_hull : cornersP (fricL 5000 300 0 0) = exHull := by rw [ex_fric]; decide
theorem ex_mass : massN exampleL.pieces = 5000 := by decide
theorem ex_force : (5000 * 1000 : Int).tdiv 1000 = 5000 := by decide
theorem ex_need : needP 5000 301 0 = (1505, 0) ∧ needP 5000 300 0 = (1500, 0) := by decide
theorem ex_out : containsB exHull 1505 0 1 = false := by decide
theorem ex_in : containsB exHull 1500 0 1 = true := by decide
theorem ex_idx : idxP (fun n => provesB exHull (1505, 0) n) (nrmL (edgesP exHull)) = 3 ∧ (nrmL (edgesP exHull))[3]? = some (1060, -440) := by decide
theorem ex_ok : loadE exampleL = 0 := by decide
theorem ex_cen : cenI 5000 (momX exampleL.pieces) = 900 ∧ cenI 5000 (momY exampleL.pieces) = 500 ∧ cenI 5000 (momZ exampleL.pieces) = 650 := by decide
end Go.Proofs.Ytkkeblgahbpmmaa
/- [3]int64 compared. -/
namespace Go.Proofs.Ytkkeblgahbpmmaa
open Go.RowKit Instr

theorem is_shape {w : World} {l : LLoad} {vp ve : Value} (h : IsLoad w l vp ve) : ∃ (A B : Option Addr) (c d : Nat), vp = .slice A l.pieces.length c ∧ ve = .slice B l.eyes.length d := by
  obtain ⟨A, c, rfl, _, _⟩ := h.pieces.shape
  obtain ⟨B, d, rfl, _, _⟩ := h.eyes.shape
  exact ⟨A, B, c, d, rfl, rfl⟩
theorem eq3_in (x y z a b c : Int) (w : World) : (Op.equalIn 10000 40 (.agg #[.int .i64 x, .int .i64 y, .int .i64 z]) (.agg #[.int .i64 a, .int .i64 b, .int .i64 c])).run Try.prog w = .ok (x == a && (y == b && z == c)) w := by
  have u2 := Try.underlying2
  have hsz : ∀ w, (sizeOf 2).run Try.prog w = .ok 1 w := fun w => by kernel_rfl
  have hS : Try.prog.underlying 40 = some (.array 3 2) := by kernel_rfl
  rw [show (10000 : Nat) = 9998 + 1 + 1 from rfl, Op.equalIn]
  simp only [Sem.run_bind, run_underlying hS, Result.andThen_ok, hsz, Std.Legacy.Range.forIn_eq_forIn_range', Std.Legacy.Range.size, Nat.sub_zero, Nat.add_sub_cancel, Nat.div_one]
  have pe : ∀ u v : Int, (Op.equalIn (9998 + 1) 2 (.int .i64 u) (.int .i64 v)).run Try.prog w = .ok (u == v) w := fun u v => run_equalIn_int w 9998 2 .i64 .i64 u v u2
  have h3 : List.range' 0 3 1 = [0, 1, 2] := rfl
  rw [h3]
  simp only [List.forIn_cons, List.forIn_nil, Sem.run_bind, Nat.mul_one]
  by_cases h1 : x = a <;> by_cases h2 : y = b <;> by_cases h3 : z = c <;> simp [part, isAgg, run_underlying u2, pe, h1, h2, h3]
theorem neq3_c (x y z a b c : Int) (w : World) : (binOp .neq 40 (.agg #[.int .i64 x, .int .i64 y, .int .i64 z]) (.agg #[.int .i64 a, .int .i64 b, .int .i64 c])).run Try.prog w = .ok (.bool (!(x == a && (y == b && z == c)))) w := by
  rw [run_neq_struct, eq3_in]
  rfl
theorem eql3_c (x y z a b c : Int) (w : World) : (binOp .eql 40 (.agg #[.int .i64 x, .int .i64 y, .int .i64 z]) (.agg #[.int .i64 a, .int .i64 b, .int .i64 c])).run Try.prog w = .ok (.bool (x == a && (y == b && z == c))) w := by
  rw [run_eql_struct, eq3_in]
  rfl
theorem neq3_same (x y z : Int) (w : World) : (binOp .neq 40 (.agg #[.int .i64 x, .int .i64 y, .int .i64 z]) (.agg #[.int .i64 x, .int .i64 y, .int .i64 z])).run Try.prog w = .ok (.bool false) w := by
  rw [neq3_c]; simp
end Go.Proofs.Ytkkeblgahbpmmaa
