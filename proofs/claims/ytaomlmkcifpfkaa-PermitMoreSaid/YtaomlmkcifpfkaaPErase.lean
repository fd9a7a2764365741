/- What two appends leave: a row without one of its elements (for the definition's Cures). -/
import Derived.Test.YtaomlmkcifpfkaaPCures
namespace Go.Proofs.Ytaomlmkcifpfkaa
open Go.RowKit

theorem erase_flat {α : Type} (css : List (List α)) (i : Nat) : (css.take i).flatten ++ (css.drop (i + 1)).flatten = (css.eraseIdx i).flatten := by
  rw [List.eraseIdx_eq_take_drop_succ, List.flatten_append]
theorem own_erase {α : Type} {n : Nat} {e : TypeId} {R : World → List Value → α → Prop} {base : Nat} {w : World} {v : Value} {l : List α} {css : List (List Value)} {i m : Nat}
    (hcl : css.length = l.length) (hx : ∀ (i : Nat) (cs : List Value) (x : α), css[i]? = some cs → l[i]? = some x → cs.length = n ∧ R w cs x) (hi : i < l.length) (hm : m = l.length - 1)
    (hown : w.ownsRow base e n v m ((css.take i).flatten ++ (css.drop (i + 1)).flatten)) : OwnL n e R base w v (l.eraseIdx i) := by
  have e1 : (l.eraseIdx i).length = m := by rw [List.length_eraseIdx, if_pos hi, hm]
  refine ⟨css.eraseIdx i, by rw [List.length_eraseIdx, List.length_eraseIdx, hcl], ?_, fun j cs x h1 h2 => ?_⟩
  · rw [e1, ← erase_flat]; exact hown
  · rw [List.getElem?_eraseIdx] at h1 h2
    by_cases hj : j < i
    · rw [if_pos hj] at h1 h2; exact hx j cs x h1 h2
    · rw [if_neg hj] at h1 h2; exact hx (j + 1) cs x h1 h2
end Go.Proofs.Ytaomlmkcifpfkaa
