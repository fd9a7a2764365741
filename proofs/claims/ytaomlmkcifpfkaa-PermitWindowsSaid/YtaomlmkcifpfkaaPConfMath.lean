/- Conflicts, plainly: the program drops conditions from the end, the definition marks them. -/
import Derived.Test.YtaomlmkcifpfkaaPSet5
namespace Go.Proofs.Ytaomlmkcifpfkaa

section
variable {α β : Type}
/-- those that are kept -/
def chosenL : List α → List Bool → List α
  | x :: l, b :: k => if b = true then x :: chosenL l k else chosenL l k
  | _, _ => []
theorem chosenL_set : ∀ (l : List α) (k : List Bool) (i : Nat), l.length = k.length → i < k.length → (∀ j, j ≤ i → k[j]? = some true) → chosenL l (k.set i false) = (chosenL l k).eraseIdx i
  | [], [], i, _, h, _ => by simp at h
  | x :: l, b :: k, 0, hl, h, hk => by
    have hb : b = true := by simpa using hk 0 (Nat.le_refl _)
    subst hb
    simp [chosenL]
  | x :: l, b :: k, i + 1, hl, h, hk => by
    have hb : b = true := by simpa using hk 0 (by omega)
    subst hb
    have ih := chosenL_set l k i (by simpa using hl) (by simpa using h) (fun j hj => by simpa using hk (j + 1) (by omega))
    simp [chosenL, ih]
theorem chosenL_all : ∀ (l : List α), chosenL l (List.replicate l.length true) = l
  | [] => rfl
  | x :: l => by simp [chosenL, List.replicate_succ, chosenL_all l]
theorem chosenL_len : ∀ (l : List α) (k : List Bool), (chosenL l k).length ≤ l.length
  | [], _ => by simp [chosenL]
  | _ :: _, [] => by simp [chosenL]
  | x :: l, b :: k => by
    have := chosenL_len l k
    simp only [chosenL]; split <;> simp <;> omega
theorem chosenL_long : ∀ (l : List α) (k : List Bool) (i : Nat), l.length = k.length → (∀ j, j < i → k[j]? = some true) → i ≤ (chosenL l k).length
  | _, _, 0, _, _ => by omega
  | [], [], i + 1, _, h => by have := h 0 (by omega); simp at this
  | x :: l, b :: k, i + 1, hl, hk => by
    have hb : b = true := by simpa using hk 0 (by omega)
    subst hb
    have ih := chosenL_long l k i (by simpa using hl) (fun j hj => by simpa using hk (j + 1) (by omega))
    simp [chosenL]; omega
theorem chosenL_mem : ∀ (l : List α) (k : List Bool) (x : α), x ∈ chosenL l k → x ∈ l
  | [], _, x, h => by simp [chosenL] at h
  | _ :: _, [], x, h => by simp [chosenL] at h
  | y :: l, b :: k, x, h => by
    simp only [chosenL] at h
    split at h
    · rcases List.mem_cons.1 h with rfl | h
      · exact List.mem_cons_self
      · exact List.mem_cons_of_mem _ (chosenL_mem l k x h)
    · exact List.mem_cons_of_mem _ (chosenL_mem l k x h)
theorem chosenL_snoc : ∀ (l : List α) (k : List Bool) (i : Nat) (x : α) (b : Bool), l[i]? = some x → k[i]? = some b → chosenL (l.take (i + 1)) (k.take (i + 1)) = chosenL (l.take i) (k.take i) ++ if b = true then [x] else []
  | [], _, i, x, b, h, _ => by simp at h
  | _ :: _, [], i, x, b, _, h => by simp at h
  | y :: l, c :: k, 0, x, b, h1, h2 => by
    simp only [List.getElem?_cons_zero, Option.some.injEq] at h1 h2
    subst h1 h2
    cases c <;> simp [chosenL]
  | y :: l, c :: k, i + 1, x, b, h1, h2 => by
    have ih := chosenL_snoc l k i x b (by simpa using h1) (by simpa using h2)
    simp only [List.take_succ_cons, chosenL]
    rw [ih]
    cases c <;> simp

/-- the program's way: from the end, what still contradicts without it is dropped -/
def dropP (f : List α → Bool) : Nat → List α × List β → List α × List β
  | 0, s => s
  | i + 1, s => dropP f i (if f (s.1.eraseIdx i) = true then (s.1.eraseIdx i, s.2.eraseIdx i) else s)
/-- the definition's way -/
def keepR (f : List α → Bool) (l : List α) : Nat → List Bool → List Bool
  | 0, k => k
  | i + 1, k => keepR f l i (if f (chosenL l (k.set i false)) = true then k.set i false else k)
theorem keepR_len (f : List α → Bool) (l : List α) : ∀ (i : Nat) (k : List Bool), (keepR f l i k).length = k.length
  | 0, k => rfl
  | i + 1, k => by
    simp only [keepR]
    rw [keepR_len f l i]
    split <;> simp
theorem drop_keep (f : List α → Bool) (l : List α) (ns : List β) : ∀ (i : Nat) (k : List Bool), l.length = k.length → ns.length = k.length → i ≤ k.length → (∀ j, j < i → k[j]? = some true) →
    dropP f i (chosenL l k, chosenL ns k) = (chosenL l (keepR f l i k), chosenL ns (keepR f l i k))
  | 0, k, _, _, _, _ => rfl
  | i + 1, k, h1, h2, h3, h4 => by
    have e1 := chosenL_set l k i h1 (by omega) (fun j hj => h4 j (by omega))
    have e2 := chosenL_set ns k i h2 (by omega) (fun j hj => h4 j (by omega))
    simp only [dropP, keepR]
    rw [← e1, ← e2]
    by_cases hf : f (chosenL l (k.set i false)) = true
    · rw [if_pos hf, if_pos hf]
      refine drop_keep f l ns i _ (by simpa using h1) (by simpa using h2) (by simp; omega) (fun j hj => ?_)
      rw [List.getElem?_set_ne (by omega)]
      exact h4 j (by omega)
    · rw [if_neg hf, if_neg hf]
      exact drop_keep f l ns i k h1 h2 (by omega) (fun j hj => h4 j (by omega))
/-- both ways keep the same -/
theorem drop_all (f : List α → Bool) (l : List α) (ns : List β) (h : ns.length = l.length) :
    dropP f l.length (l, ns) = (chosenL l (keepR f l l.length (List.replicate l.length true)), chosenL ns (keepR f l l.length (List.replicate l.length true))) := by
  have := drop_keep f l ns l.length (List.replicate l.length true) (by simp) (by simp [h]) (by simp) (fun j hj => by simp [hj])
  rw [chosenL_all] at this
  have h2 := chosenL_all ns
  rw [h] at h2
  rw [h2] at this
  exact this
end
end Go.Proofs.Ytaomlmkcifpfkaa
