
/- Own rows, and how slices read as lists (beside Mem). -/
import Derived.Test.YtkkeblgahbpmmaaPlaneA
import Derived.WalkSpells
import Derived.WalkLawsBesides
import Derived.Lib.Hide
import Derived.Lib.SmallJoins
import Derived.Deep.Slices
import Derived.Deep.Fields
import Derived.Deep.AppendLies
import Derived.OpenShut
import Derived.IntWalk
import Derived.ChangeSame
namespace Go.Proofs.Ytkkeblgahbpmmaa
open Go.RowKit

theorem Ext.grown {w W W' : World} (h : Ext w W) {row : Option Nat} (hg : W.grownBy W' row) (hr : ∀ k, row = some k → w.heap.size ≤ k) : Ext w W' := Below.grown h hg (Below.size h) hr
theorem own_ge {w : World} {base : Nat} {e : TypeId} {size n : Nat} {v : Value} {xs : List Value} (h : w.ownsRow base e size v n xs) : ∀ k, v.ownBlock = some k → base ≤ k := by
  intro k hk
  rcases h.2 with ⟨rfl, _⟩ | ⟨g, cap, cur, rfl, hb, _⟩
  · simp [Value.ownBlock] at hk
  · simp [Value.ownBlock] at hk; omega
theorem own_ne {w : World} {base : Nat} {e : TypeId} {size n : Nat} {v : Value} {xs : List Value} (h : w.ownsRow base e size v n xs) {b : Nat} (hb : b < base) : v.ownBlock ≠ some b := fun hk => by
  have := own_ge h b hk
  omega
theorem lt_of_cell {w : World} {b o : Nat} {v : Value} (h : w.cell? ⟨b, o, none⟩ = some v) : b < w.heap.size := by
  have := World.block_lt_of_cell? w _ h
  simpa using this

/-! ### lists of data in memory -/
section
variable {α : Type}
def Stable (R : World → List Value → α → Prop) : Prop := ∀ w w' cs x, Ext w w' → R w cs x → R w' cs x
/-- a slice value reads as a list: n cells an element, which read by R -/
def Sl (n : Nat) (R : World → List Value → α → Prop) (w : World) (v : Value) (l : List α) : Prop :=
  ∃ (A : Option Addr) (cap : Nat), v = .slice A l.length cap ∧ l.length ≤ 9223372036854775807 ∧ l.length ≤ cap ∧
    ∀ i x, l[i]? = some x → ∃ (b off : Nat) (cs : List Value), A = some ⟨b, off, none⟩ ∧ cs.length = n ∧ R w cs x ∧ ∀ j c, cs[j]? = some c → w.cell? ⟨b, off + i * n + j, none⟩ = some c
theorem Sl.ext {n : Nat} {R : World → List Value → α → Prop} (hR : Stable R) {w w' : World} {v : Value} {l : List α} (h : Sl n R w v l) (he : Ext w w') : Sl n R w' v l := by
  obtain ⟨A, cap, hv, hl, hc, hx⟩ := h
  refine ⟨A, cap, hv, hl, hc, fun i x hi => ?_⟩
  obtain ⟨b, off, cs, hA, hn, hr, hcell⟩ := hx i x hi
  exact ⟨b, off, cs, hA, hn, hR _ _ _ _ he hr, fun j c hj => he.cell (hcell j c hj)⟩
theorem Stable.sl {n : Nat} {R : World → List Value → α → Prop} (hR : Stable R) {w w' : World} {v : Value} {l : List α} (he : Ext w w') (h : Sl n R w v l) : Sl n R w' v l := h.ext hR he
theorem Sl.shape {n : Nat} {R : World → List Value → α → Prop} {w : World} {v : Value} {l : List α} (h : Sl n R w v l) : ∃ (A : Option Addr) (cap : Nat), v = .slice A l.length cap ∧ l.length ≤ 9223372036854775807 ∧ l.length ≤ cap := by
  obtain ⟨A, cap, hv, hl, hc, _⟩ := h
  exact ⟨A, cap, hv, hl, hc⟩
theorem Sl.at {n : Nat} {R : World → List Value → α → Prop} {w : World} {A : Option Addr} {len cap : Nat} {l : List α} (h : Sl n R w (.slice A len cap) l) {i : Nat} {x : α} (hi : l[i]? = some x) :
    ∃ (b off : Nat) (cs : List Value), A = some ⟨b, off, none⟩ ∧ cs.length = n ∧ R w cs x ∧ ∀ j c, cs[j]? = some c → w.cell? ⟨b, off + i * n + j, none⟩ = some c := by
  obtain ⟨A', cap', hv, hl, hc, hx⟩ := h
  simp only [Value.slice.injEq] at hv
  obtain ⟨rfl, _, _⟩ := hv
  exact hx i x hi
theorem some_of_lt {l : List α} {k : Nat} (h : k < l.length) : ∃ x, l[k]? = some x := ⟨_, List.getElem?_eq_getElem h⟩
theorem lt_of_some {l : List α} {k : Nat} {x : α} (h : l[k]? = some x) : k < l.length := (List.getElem?_eq_some_iff.1 h).1
theorem mem_of_some {l : List α} {k : Nat} {x : α} (h : l[k]? = some x) : x ∈ l := List.mem_of_getElem? h
theorem take_some {l : List α} {k : Nat} {x : α} (h : l[k]? = some x) : l.take (k + 1) = l.take k ++ [x] := by
  obtain ⟨hk, rfl⟩ := List.getElem?_eq_some_iff.1 h
  exact List.take_succ_eq_append_getElem hk
theorem all_take {p : α → Bool} {l : List α} {k : Nat} {x : α} (h : l[k]? = some x) (h0 : (l.take k).all p = true) (hp : p x = true) : (l.take (k + 1)).all p = true := by
  rw [take_some h, List.all_append, h0]; simp [hp]
theorem all_no {p : α → Bool} {l : List α} {k : Nat} {x : α} (h : l[k]? = some x) (hp : p x = false) : l.all p = false := by
  rw [List.all_eq_false]; exact ⟨x, mem_of_some h, by simp [hp]⟩
theorem all_end {p : α → Bool} {l : List α} {k : Nat} (h0 : (l.take k).all p = true) (hk : l.length ≤ k) : l.all p = true := by
  rw [List.take_of_length_le hk] at h0; exact h0
theorem any_take {p : α → Bool} {l : List α} {k : Nat} {x : α} (h : l[k]? = some x) (h0 : (l.take k).any p = false) (hp : p x = false) : (l.take (k + 1)).any p = false := by
  rw [take_some h, List.any_append, h0]; simp [hp]
theorem any_yes {p : α → Bool} {l : List α} {k : Nat} {x : α} (h : l[k]? = some x) (hp : p x = true) : l.any p = true := by
  rw [List.any_eq_true]; exact ⟨x, mem_of_some h, hp⟩
theorem any_end {p : α → Bool} {l : List α} {k : Nat} (h0 : (l.take k).any p = false) (hk : l.length ≤ k) : l.any p = false := by
  rw [List.take_of_length_le hk] at h0; exact h0
end

/-! ### arguments -/
section
open Go.ChangeShapes Go.WideShapes Go.ChangeAt Go.Joins Go.Deep
variable {H : Type} {enc : TypeId × Value → H} {P : Program} {w : World} {base : Nat} {spare : Nat → Bool} {held : Bool} {α : Type}
theorem spot_none {a : Addr} {v : Value} (h : w.cell? a = some v) : ∃ b o, a = ⟨b, o, none⟩ := by
  obtain ⟨b, o, sp⟩ := a
  cases sp with
  | none => exact ⟨b, o, rfl⟩
  | some k =>
    exfalso
    unfold World.cell? at h
    split at h <;> simp at h
theorem add_none (b o n : Nat) : (⟨b, o, none⟩ : Addr).add n = ⟨b, o + n, none⟩ := by unfold Addr.add; split <;> simp_all
/-- what is read at a type reads by R -/
def Opens (enc : TypeId × Value → H) (P : Program) (w : World) (base : Nat) (spare : Nat → Bool) (held : Bool) (t : TypeId) (R : World → List Value → α → Prop) : Prop :=
  ∀ fuel cs x, DataW.trod enc P w base spare held fuel t cs = some x → ∃ a, R w cs a
theorem opens_slice {t e : TypeId} {n : Nat} {R : World → List Value → α → Prop} (ht : P.underlying t = some (.slice e)) (hC : P.cellsOf e = n) (hn : 0 < n) (he : Opens enc P w base spare held e R) :
    Opens enc P w base spare held t (fun w cs (l : List α) => ∃ v, cs = [v] ∧ Sl n R w v l) := by
  intro fuel cs x hx
  rcases open_slice ht hx with ⟨h2, _⟩ | ⟨a', len, cap, m, k, D, Pl, hcs, hb, hl, hmx, hmm, hx', hi⟩
  · exact ⟨[], .slice none 0 0, h2, none, 0, rfl, by simp, by simp, fun i x h => by simp at h⟩
  · have hlm : len ≤ m := by rw [hmm]; split <;> omega
    have key : ∀ i, i < len → ∃ (x : α) (cs : List Value), cs.length = n ∧ R w cs x ∧ ∀ j c, cs[j]? = some c → w.cell? ((a'.add (i * n)).add j) = some c := by
      intro i hil
      obtain ⟨cs', hc, ht'⟩ := hi i (by omega)
      rw [hC] at hc
      obtain ⟨_, hcl, hat⟩ := World.cells?_some hc
      obtain ⟨y, hy⟩ := he _ _ _ ht'
      exact ⟨y, cs', hcl, hy, fun j c hj => by rw [hat j (by have := (List.getElem?_eq_some_iff.1 hj).1; omega)]; exact hj⟩
    rcases Nat.eq_zero_or_pos len with hz | hz
    · subst hz
      exact ⟨[], _, hcs, some a', cap, rfl, by simp, by simp, fun i x h => by simp at h⟩
    · obtain ⟨y0, cs0, hl0, _, hc0⟩ := key 0 hz
      obtain ⟨b, off, rfl⟩ : ∃ b off, a' = ⟨b, off, none⟩ := by
        have h1 := hc0 0 (cs0[0]'(by omega)) (List.getElem?_eq_getElem _)
        exact spot_none (by simpa [Addr.add] using h1)
      let g : Nat → α := fun i => if hil : i < len then Classical.choose (key i hil) else y0
      have hg : ∀ i, (hil : i < len) → ∃ cs, cs.length = n ∧ R w cs (g i) ∧ ∀ j c, cs[j]? = some c → w.cell? (((⟨b, off, none⟩ : Addr).add (i * n)).add j) = some c := by
        intro i hil
        have h1 : g i = Classical.choose (key i hil) := dif_pos hil
        rw [h1]
        exact Classical.choose_spec (key i hil)
      have hlen : ((List.range len).map g).length = len := by simp
      refine ⟨(List.range len).map g, _, hcs, some ⟨b, off, none⟩, cap, by rw [hlen], by rw [hlen]; unfold maxLen at hmx; omega, by rw [hlen]; exact hl, fun i x hx => ?_⟩
      have hil : i < len := by have := lt_of_some hx; omega
      have hx' : g i = x := by simpa [hil] using hx
      obtain ⟨cs', h1, h2, h3⟩ := hg i hil
      rw [hx'] at h2
      refine ⟨b, off, cs', rfl, h1, h2, fun j c hj => ?_⟩
      have := h3 j c hj
      rw [add_none, add_none] at this
      exact this
end
end Go.Proofs.Ytkkeblgahbpmmaa
