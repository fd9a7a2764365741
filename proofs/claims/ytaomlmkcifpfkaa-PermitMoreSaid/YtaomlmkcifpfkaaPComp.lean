/- Contracts: 'compile': the permit of a trip, by the definition. -/
import Derived.Test.YtaomlmkcifpfkaaPBegin
import Derived.StillTailTactics
import Derived.OwnWalk
import Derived.Laws.MakeOwn
namespace Go.Proofs.Ytaomlmkcifpfkaa
open Go.RowKit

theorem infoBool : (Try.prog.info? 4).map (fun i => (i.zero, i.size, i.bytes)) = some (some (.bool false), 1, 1) := by kernel_rfl
theorem infoCond : (Try.prog.info? 102).map (fun i => (i.zero, i.size, i.bytes)) = some (some (.agg #[.int .i64 0, .int .i64 0, .int .i64 0]), 3, 24) := by kernel_rfl
theorem make_bools (n : Nat) (h : n ≤ 100) : ∃ M : Array Value, (∀ j, j < n → M[j]? = some (.bool false)) ∧ ∀ W : World, (Instr.makeSlice 125 (.int .i64 (n : Int)) (.int .i64 (n : Int))).run Try.prog W = .ok (.slice (some ⟨W.heap.size, 0, none⟩) n n) (W.alloc (.cells M 4)) := by
  obtain ⟨i0, hi, hz0, hz1, hz2⟩ := info_parts infoBool
  refine ⟨madeCells (Value.bool false).cells (n * i0.size), fun j hj => ?_, fun W => ?_⟩
  · rw [hz1]
    simp [madeCells, Value.cells, hj, Nat.mod_one]
  · have := run_makeSlice (P := Try.prog) (w := W) 125 4 i0 (.bool false) Try.underlying125 hi hz0 .i64 .i64 (n : Int) (n : Int) (by omega) (Int.le_refl _) (by rw [hz1]; omega) (by rw [hz2]; omega) (by omega)
    simpa using this

/-- the state of the loop over the passages -/
structure CSt (H : Nat) (l : List PAuth) (W : World) (us : Nat → Bool) (vc : Value) (cl : List PCond) (fee notice : Int) : Prop where
  p0 : W.cell? ⟨H + 1 + 1, 0, none⟩ = some vc
  p1 : W.cell? ⟨H + 1 + 1, 1, none⟩ = some (.int .i64 fee)
  p2 : W.cell? ⟨H + 1 + 1, 2, none⟩ = some (.int .i64 notice)
  f0 : W.frozen? ⟨H + 1 + 1, 0, none⟩ = false
  f1 : W.frozen? ⟨H + 1 + 1, 1, none⟩ = false
  f2 : W.frozen? ⟨H + 1 + 1, 2, none⟩ = false
  own : OwnL 3 102 RCond (H + 1 + 1 + 1 + 1) W vc cl
  used : ∀ j, j < l.length → W.cell? ⟨H + 1 + 1 + 1, j, none⟩ = some (.bool (us j)) ∧ W.frozen? ⟨H + 1 + 1 + 1, j, none⟩ = false
theorem CSt.ext {H : Nat} {l : List PAuth} {W W' : World} {us : Nat → Bool} {vc : Value} {cl : List PCond} {fee notice : Int} (h : CSt H l W us vc cl fee notice) (he : Ext W W') : CSt H l W' us vc cl fee notice := by
  have hP := lt_of_cell h.p0
  exact ⟨he.cell h.p0, he.cell h.p1, he.cell h.p2, he.frz hP h.f0, he.frz hP h.f1, he.frz hP h.f2, h.own.ext RCond.stable he, fun j hj => ⟨he.cell (h.used j hj).1, he.frz (lt_of_cell (h.used j hj).1) (h.used j hj).2⟩⟩
theorem OwnL.set {α : Type} {n : Nat} {e : TypeId} {R : World → List Value → α → Prop} {base : Nat} {w : World} {v : Value} {l : List α} {p : Addr} {u : Value} (h : OwnL n e R base w v l) (hR : ∀ cs x, R w cs x → R (w.setCell p u) cs x) (hp : p.block < base) : OwnL n e R base (w.setCell p u) v l := by
  obtain ⟨css, hl, hown, hx⟩ := h
  exact ⟨css, hl, ownsRow_set hown hp u, fun i cs x h1 h2 => ⟨(hx i cs x h1 h2).1, hR _ _ (hx i cs x h1 h2).2⟩⟩
theorem cell_set {w : World} {b o : Nat} {u v : Value} (h : w.cell? ⟨b, o, none⟩ = some v) : (w.setCell ⟨b, o, none⟩ u).cell? ⟨b, o, none⟩ = some u := World.cell?_setCell_same' _ _ _ (by rw [h]; rfl)
theorem cell_off {w : World} {b o o' : Nat} {u v : Value} (hne : o ≠ o') (h : w.cell? ⟨b, o, none⟩ = some v) : (w.setCell ⟨b, o', none⟩ u).cell? ⟨b, o, none⟩ = some v := by
  rw [World.cell?_setCell_other _ _ _ _ (by intro hh; simp only [Addr.mk.injEq] at hh; omega)]; exact h
theorem cell_blk {w : World} {b b' o o' : Nat} {u v : Value} (hne : b ≠ b') (h : w.cell? ⟨b, o, none⟩ = some v) : (w.setCell ⟨b', o', none⟩ u).cell? ⟨b, o, none⟩ = some v := cell_set_ne hne h
theorem frz_set {w : World} {a p : Addr} {u : Value} (h : w.frozen? a = false) : (w.setCell p u).frozen? a = false := by rw [World.frozen?_setCell]; exact h
theorem CSt.fee' {H : Nat} {l : List PAuth} {W : World} {us : Nat → Bool} {vc : Value} {cl : List PCond} {fee notice : Int} (h : CSt H l W us vc cl fee notice) (x : Int) : CSt H l (W.setCell ⟨H + 1 + 1, 1, none⟩ (.int .i64 x)) us vc cl x notice :=
  ⟨cell_off (by omega) h.p0, cell_set h.p1, cell_off (by omega) h.p2, frz_set h.f0, frz_set h.f1, frz_set h.f2, h.own.set (fun _ _ k => k) (show (_ : Nat) < H + 1 + 1 + 1 + 1 by simp only; omega), fun j hj => ⟨cell_blk (by omega) (h.used j hj).1, frz_set (h.used j hj).2⟩⟩
theorem CSt.notice' {H : Nat} {l : List PAuth} {W : World} {us : Nat → Bool} {vc : Value} {cl : List PCond} {fee notice : Int} (h : CSt H l W us vc cl fee notice) (x : Int) : CSt H l (W.setCell ⟨H + 1 + 1, 2, none⟩ (.int .i64 x)) us vc cl fee x :=
  ⟨cell_off (by omega) h.p0, cell_off (by omega) h.p1, cell_set h.p2, frz_set h.f0, frz_set h.f1, frz_set h.f2, h.own.set (fun _ _ k => k) (show (_ : Nat) < H + 1 + 1 + 1 + 1 by simp only; omega), fun j hj => ⟨cell_blk (by omega) (h.used j hj).1, frz_set (h.used j hj).2⟩⟩
theorem CSt.used' {H : Nat} {l : List PAuth} {W : World} {us : Nat → Bool} {vc : Value} {cl : List PCond} {fee notice : Int} (h : CSt H l W us vc cl fee notice) (a : Nat) : CSt H l (W.setCell ⟨H + 1 + 1 + 1, a, none⟩ (.bool true)) (fun j => decide (j = a) || us j) vc cl fee notice := by
  refine ⟨cell_blk (by omega) h.p0, cell_blk (by omega) h.p1, cell_blk (by omega) h.p2, frz_set h.f0, frz_set h.f1, frz_set h.f2, h.own.set (fun _ _ k => k) (show (_ : Nat) < H + 1 + 1 + 1 + 1 by simp only; omega), fun j hj => ⟨?_, frz_set (h.used j hj).2⟩⟩
  by_cases hja : j = a
  · subst hja
    rw [cell_set (h.used j hj).1]; simp
  · rw [cell_off hja (h.used j hj).1]; simp [hja]
theorem CSt.drew {H : Nat} {l : List PAuth} {W : World} {us : Nat → Bool} {vc : Value} {cl : List PCond} {fee notice : Int} (h : CSt H l W us vc cl fee notice) : CSt H l W.drew us vc cl fee notice := h.ext (Ext.refl W).drew
/-- a condition is appended -/
theorem CSt.app {H : Nat} {l : List PAuth} {W W1 : World} {us : Nat → Bool} {vc : Value} {cl : List PCond} {fee notice : Int} (h : CSt H l W us vc cl fee notice) {css : List (List Value)} (hl : css.length = cl.length) (hx : ∀ (i : Nat) (cs : List Value) (x : PCond), css[i]? = some cs → cl[i]? = some x → cs.length = 3 ∧ RCond W cs x) (o : Obj) {g cap : Nat} {c : PCond}
    (hown : W.ownsRow (H + 1 + 1 + 1 + 1) 102 3 vc cl.length css.flatten)
    (h1 : W1.ownsRow (H + 1 + 1 + 1 + 1) 102 3 (.slice (some ⟨g, 0, none⟩) (cl.length + 1) cap) (cl.length + 1) (css.flatten ++ condCs c)) (hg : (W.alloc o).grownBy W1 vc.ownBlock) :
    CSt H l (W1.setCell ⟨H + 1 + 1, 0, none⟩ (.slice (some ⟨g, 0, none⟩) (cl.length + 1) cap)) us (.slice (some ⟨g, 0, none⟩) (cl.length + 1) cap) (cl ++ [c]) fee notice := by
  have hP := lt_of_cell h.p0
  have cl' : ∀ b o' v, b < H + 1 + 1 + 1 + 1 → W.cell? ⟨b, o', none⟩ = some v → W1.cell? ⟨b, o', none⟩ = some v := fun b o' v hb hv => by
    have hlt := lt_of_cell hv
    rw [hg.cell_far ⟨b, o', none⟩ (by simp; omega) (fun e => own_ne hown hb e.symm)]
    exact Ext.cell ((Ext.refl W).alloc o) hv
  have fl' : ∀ b o', b < H + 1 + 1 + 1 + 1 → b < W.heap.size → W.frozen? ⟨b, o', none⟩ = false → W1.frozen? ⟨b, o', none⟩ = false := fun b o' hb hlt hv => by
    rw [hg.frozen_far ⟨b, o', none⟩ (by simp; omega) (fun e => own_ne hown hb e.symm)]
    exact Ext.frz ((Ext.refl W).alloc o) hlt hv
  refine ⟨cell_set (cl' _ _ _ (by omega) h.p0), cell_off (by omega) (cl' _ _ _ (by omega) h.p1), cell_off (by omega) (cl' _ _ _ (by omega) h.p2), frz_set (fl' _ _ (by omega) hP h.f0), frz_set (fl' _ _ (by omega) hP h.f1), frz_set (fl' _ _ (by omega) hP h.f2), ?_, fun j hj => ⟨cell_blk (by omega) (cl' _ _ _ (by omega) (h.used j hj).1), frz_set (fl' _ _ (by omega) (lt_of_cell (h.used j hj).1) (h.used j hj).2)⟩⟩
  have hx' : ∀ (i : Nat) (cs : List Value) (x : PCond), css[i]? = some cs → cl[i]? = some x → cs.length = 3 ∧ RCond W1 cs x := hx
  have h2 : OwnL 3 102 RCond (H + 1 + 1 + 1 + 1) W1 (.slice (some ⟨g, 0, none⟩) (cl.length + 1) cap) (cl ++ [c]) := OwnL.snoc hl hx' h1 rfl rfl
  exact h2.set (fun _ _ k => k) (show H + 1 + 1 < H + 1 + 1 + 1 + 1 by omega)
end Go.Proofs.Ytaomlmkcifpfkaa
