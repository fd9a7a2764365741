
/- What Compact leaves, in plain words. -/
import Derived.Test.YtkkeblgahbpmmaaHull3
namespace Go.Proofs.Ytkkeblgahbpmmaa
open Go.RowKit Go.Shelf Go.Lib Go.Sort

theorem compactP_snoc : ∀ (l : List HPt) (x : HPt), compactP (l ++ [x]) = compactP l ++ (if l.getLast? = some x then [] else [x])
  | [], x => by simp [compactP]
  | [a], x => by
    by_cases h : a = x
    · subst h; simp [compactP]
    · simp [compactP, h]
  | a :: b :: l, x => by
    have ih := compactP_snoc (b :: l) x
    simp only [List.cons_append] at ih ⊢
    unfold compactP
    rw [ih, List.getLast?_cons_cons]
    by_cases h : a = b
    · rw [if_pos h, if_pos h]
    · rw [if_neg h, if_neg h]; rfl
theorem compactUpTo_take (l : List HPt) : ∀ m, m ≤ l.length → compactUpTo l.toArray m = compactP (l.take m)
  | 0, _ => by simp [compactUpTo, compactP]
  | m + 1, h => by
    have ih := compactUpTo_take l m (by omega)
    have hm : l[m]? = some l[m] := List.getElem?_eq_getElem (by omega)
    have hg : l.toArray[m]! = l[m] := by rw [getElem!_def, List.getElem?_toArray, hm]
    rw [compactUpTo_succ, ih, List.take_add_one, hm, Option.toList_some, compactP_snoc, hg]
    congr 1
    rcases Nat.eq_zero_or_pos m with h0 | h0
    · subst h0
      rw [keeps_lt_one _ 0 (by omega)]
      simp
    · have hm1 : l[m - 1]? = some l[m - 1] := List.getElem?_eq_getElem (by omega)
      have hg1 : l.toArray[m - 1]! = l[m - 1] := by rw [getElem!_def, List.getElem?_toArray, hm1]
      have hl : (l.take m).getLast? = some l[m - 1] := by
        rw [List.getLast?_eq_getElem?, List.length_take, Nat.min_eq_left (by omega), List.getElem?_take_of_lt (by omega), hm1]
      rw [hl]
      by_cases e : l[m] = l[m - 1]
      · rw [keeps_neg h0 (by rw [hg, hg1, e]), if_neg (by simp), if_pos (by rw [e])]
      · rw [keeps_pos (by rw [hg, hg1]; exact e), if_pos rfl, if_neg (by intro h2; exact e (Option.some.inj h2).symm)]
theorem compactUpTo_eq (l : List HPt) : compactUpTo l.toArray l.length = compactP l := by
  rw [compactUpTo_take l l.length (Nat.le_refl _), List.take_length]
theorem compact_sorted (l : List HPt) : compactUpTo (srtD l).toArray (srtD l).toArray.size = sortP l := by
  rw [List.size_toArray, compactUpTo_eq, compact_srtD]
end Go.Proofs.Ytkkeblgahbpmmaa
