
/- How slices of points read; facts on worlds that grow. -/
import Derived.Test.YtgikfliibimkdaaRoots
namespace Go.Proofs.Ytgikfliibimkdaa
open Go.RowKit

/-- from a world on, memory that was there is as it was -/
def Ext (w w' : World) : Prop := Below w.heap.size w w'
theorem Ext.refl (w : World) : Ext w w := Below.refl _ _
theorem Ext.trans {a b c : World} (h : Ext a b) (k : Ext b c) : Ext a c := Below.trans h (Below.mono k (Below.size h))
theorem Ext.cell {w w' : World} (h : Ext w w') {p : Addr} {v : Value} (hp : w.cell? p = some v) : w'.cell? p = some v := by
  have hlt : p.block < w.heap.size := by
    rcases Nat.lt_or_ge p.block w.heap.size with h | h
    · exact h
    · unfold World.cell? at hp
      simp [Array.getElem?_eq_none h] at hp
  rw [Below.cell h hlt]; exact hp
theorem Ext.alloc {w W : World} (h : Ext w W) (o : Obj) : Ext w (W.alloc o) := Below.alloc h (Below.size h) o
theorem Ext.set {w W : World} (h : Ext w W) {p : Addr} (hp : w.heap.size ≤ p.block) (u : Value) : Ext w (W.setCell p u) := Below.setCell h hp u
theorem Ext.drew {w W : World} (h : Ext w W) : Ext w W.drew := Below.drew h
theorem Ext.trans' {w W W' : World} (h : Ext w W) {row : Option Nat} (hg : W.grownBy W' row) (hr : ∀ k, row = some k → w.heap.size ≤ k) : Ext w W' := Below.grown h hg (Below.size h) hr
theorem Ext.sz {w W : World} (h : Ext w W) : w.heap.size ≤ W.heap.size := Below.size h
theorem le1 (n : Nat) : n ≤ n + 1 := by omega
theorem le2 (n : Nat) : n ≤ n + 1 + 1 := by omega
theorem le3 (n : Nat) : n ≤ n + 1 + 1 + 1 := by omega
theorem le5 (n : Nat) : n ≤ n + 1 + 1 + 1 + 1 + 1 := by omega
theorem le6 (n : Nat) : n ≤ n + 1 + 1 + 1 + 1 + 1 + 1 := by omega
theorem le4 (n : Nat) : n ≤ n + 1 + 1 + 1 + 1 := by omega
theorem cell_set_ne {w : World} {p a : Addr} {u v : Value} (h : p.block ≠ a.block) (hc : w.cell? p = some v) : (w.setCell a u).cell? p = some v := by
  rw [World.cell?_of_block (w := w) (Below.heap_setCell w a u p.block h)]; exact hc
theorem size_alloc (w : World) (o : Obj) : (w.alloc o).heap.size = w.heap.size + 1 := by simp
theorem size_drew (w : World) : w.drew.heap.size = w.heap.size := rfl
theorem size_drewN (w : World) (n : Nat) : (w.drewN n).heap.size = w.heap.size := rfl
theorem size_setCell (w : World) (a : Addr) (u : Value) : (w.setCell a u).heap.size = w.heap.size := by simp [World.setCell]
theorem bcell {W w1 : World} (hb : Ext W w1) : (∀ b o, b < W.heap.size → w1.cell? ⟨b, o, none⟩ = W.cell? ⟨b, o, none⟩) ∧ (∀ b o, b < W.heap.size → w1.frozen? ⟨b, o, none⟩ = W.frozen? ⟨b, o, none⟩) :=
  ⟨fun b o h => Below.cell hb (p := ⟨b, o, none⟩) h, fun b o h => Below.frozen hb (p := ⟨b, o, none⟩) h⟩
theorem Ext.drewN {w W : World} (h : Ext w W) (n : Nat) : Ext w (W.drewN n) := ⟨h.os, h.tape, h.output, h.size, h.block⟩

/-- the cells of a list of points -/
def PtCells (w : World) (b off : Nat) (l : List (Int × Int)) : Prop :=
  ∀ i, i < l.length → w.cell? ⟨b, off + i * 2, none⟩ = some (.int .i64 (l.getD i (0, 0)).1) ∧ w.cell? ⟨b, off + i * 2 + 1, none⟩ = some (.int .i64 (l.getD i (0, 0)).2)
/-- a slice value reads as a list of points -/
def Pts (w : World) (v : Value) (l : List (Int × Int)) : Prop :=
  (∃ (a : Option Addr) (c : Nat), v = .slice a 0 c ∧ l = []) ∨ ∃ b off cap : Nat, v = .slice (some ⟨b, off, none⟩) l.length cap ∧ l.length ≤ 9223372036854775807 ∧ l.length ≤ cap ∧ PtCells w b off l
theorem Pts.ext {w w' : World} {v : Value} {l : List (Int × Int)} (h : Pts w v l) (he : Ext w w') : Pts w' v l := by
  rcases h with h | ⟨b, off, cap, hv, hl, hc, hp⟩
  · exact .inl h
  · exact .inr ⟨b, off, cap, hv, hl, hc, fun i hi => ⟨he.cell (hp i hi).1, he.cell (hp i hi).2⟩⟩

end Go.Proofs.Ytgikfliibimkdaa
