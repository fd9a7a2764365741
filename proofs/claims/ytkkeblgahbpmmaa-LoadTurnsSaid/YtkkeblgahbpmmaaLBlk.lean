
/- Whole blocks of memory: what a store, an older block and an extension leave. -/
import Derived.Test.YtkkeblgahbpmmaaLGreat
import Derived.Test.YtkkeblgahbpmmaaQTail
namespace Go.Proofs.Ytkkeblgahbpmmaa
open Go.RowKit

theorem lb_set {W : World} {b : Nat} {t : TypeId} {cs : Array Value} (i : Nat) (u : Value) (h : W.heap[b]? = some (.cells cs t (0, 0))) : (W.setCell ⟨b, i, none⟩ u).heap[b]? = some (.cells (cs.setIfInBounds i u) t (0, 0)) := by
  obtain ⟨hlt, hk⟩ := Array.getElem?_eq_some_iff.1 h
  show (W.heap.modify b _)[b]? = _
  rw [Array.getElem?_eq_getElem (by rw [Array.size_modify]; exact hlt), Array.getElem_modify_self, hk]
  rfl
theorem lb_old {W : World} {b c : Nat} {i : Nat} {u : Value} {o : Obj} (h : W.heap[b]? = some o) (hne : b ≠ c) : (W.setCell ⟨c, i, none⟩ u).heap[b]? = some o := (Below.heap_setCell W ⟨c, i, none⟩ u b hne).trans h
theorem lb_ext {W W' : World} {b : Nat} {o : Obj} (h : W.heap[b]? = some o) (he : Ext W W') : W'.heap[b]? = some o := (he.block b (Array.getElem?_eq_some_iff.1 h).1).trans h
theorem lb_frz {W : World} {b : Nat} {cs : Array Value} {t : TypeId} (h : W.heap[b]? = some (.cells cs t (0, 0))) (i : Nat) : W.frozen? ⟨b, i, none⟩ = false := by
  unfold World.frozen?
  simp [h]
theorem lb_lt {W : World} {b : Nat} {o : Obj} (h : W.heap[b]? = some o) : b < W.heap.size := (Array.getElem?_eq_some_iff.1 h).1
theorem lb_new (W : World) (o : Obj) : (W.alloc o).heap[W.heap.size]? = some o := World.alloc_heap_new W o
theorem lb_alloc {W : World} {b : Nat} {o : Obj} (h : W.heap[b]? = some o) (o' : Obj) : (W.alloc o').heap[b]? = some o := lb_ext h ((Ext.refl W).alloc o')
theorem lb_cell {W : World} {b : Nat} {t : TypeId} {cs : Array Value} (h : W.heap[b]? = some (.cells cs t (0, 0))) (i : Nat) (v : Value) (hi : cs[i]? = some v) : W.cell? ⟨b, i, none⟩ = some v := by
  have := World.news_of_block h i v (by rw [Array.getElem?_toList]; exact hi)
  rwa [add_none, Nat.zero_add] at this
end Go.Proofs.Ytkkeblgahbpmmaa
