
/- Contracts on turns: the divisor of some numbers, Both, Rotate (both texts). -/
import Derived.Test.YtgikfliibimkdaaRot
import Derived.Deep.DeepCutAuto
namespace Go.Proofs.Ytgikfliibimkdaa
open Go.RowKit

theorem Ext.frz {w w' : World} (h : Ext w w') {p : Addr} (hp : p.block < w.heap.size) (hf : w.frozen? p = false) : w'.frozen? p = false := (Below.frozen h hp).trans hf

def gcdL (l : List Int) : Int := l.foldl (fun g x => gcdI g (max x (-x))) 0
theorem gcdL_snoc (l : List Int) (x : Int) : gcdL (l ++ [x]) = gcdI (gcdL l) (max x (-x)) := by simp [gcdL]
theorem gcdL_take {l : List Int} {k : Nat} (h : k < l.length) : gcdL (l.take (k + 1)) = gcdI (gcdL (l.take k)) (max (l.getD k 0) (-(l.getD k 0))) := by
  rw [List.take_succ_eq_append_getElem h, gcdL_snoc, getD_lt h]
theorem gcdI_zero_left (a : Int) (h : 0 ≤ a) : gcdI 0 a = a := by simp only [gcdI, Int.natAbs_zero, Nat.gcd_zero_left]; omega
theorem gcdI_le (a b B : Int) (ha : 0 ≤ a) (hb : 0 ≤ b) (h1 : a ≤ B) (h2 : b ≤ B) : gcdI a b ≤ B := by
  by_cases h0 : b = 0
  · subst h0; rw [gcdI_zero a ha]; exact h1
  · have := Nat.le_of_dvd (by omega) (Nat.gcd_dvd_right a.natAbs b.natAbs)
    unfold gcdI; omega
theorem gcdL_bd (l : List Int) (B : Int) (hB : 0 ≤ B) (h : ∀ x ∈ l, -B ≤ x ∧ x ≤ B) : 0 ≤ gcdL l ∧ gcdL l ≤ B := by
  have : ∀ (l : List Int) (g : Int), 0 ≤ g → g ≤ B → (∀ x ∈ l, -B ≤ x ∧ x ≤ B) → 0 ≤ l.foldl (fun g x => gcdI g (max x (-x))) g ∧ l.foldl (fun g x => gcdI g (max x (-x))) g ≤ B := by
    intro l
    induction l with
    | nil => intro g h1 h2 _; exact ⟨h1, h2⟩
    | cons x l ih =>
      intro g h1 h2 h3
      have hx := h3 x (by simp)
      exact ih _ (gcdI_nonneg _ _) (gcdI_le _ _ _ h1 (by omega) h2 (by omega)) (fun y hy => h3 y (by simp [hy]))
  exact this l 0 (by omega) hB h

end Go.Proofs.Ytgikfliibimkdaa
