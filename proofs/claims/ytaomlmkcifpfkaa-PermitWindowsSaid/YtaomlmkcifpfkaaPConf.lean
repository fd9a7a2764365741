/- What contradicts, plainly: the things of rules, the kinds, the least kind. -/
import Derived.Test.YtaomlmkcifpfkaaPConfMath
import Derived.Test.YtaomlmkcifpfkaaPSet5
namespace Go.Proofs.Ytaomlmkcifpfkaa

def thStep (o : List ByteArray) (c : PCount) : List ByteArray := if (o.any fun t => decide (c.thing = t)) = true then o else o ++ [c.thing]
def thRule (o : List ByteArray) (r : PRule) : List ByteArray := r.counts.foldl thStep o
def thingsL (rs : List PRule) : List ByteArray := rs.foldl thRule []
theorem thRule_succ {o : List ByteArray} {l : List PCount} {k : Nat} {x : PCount} (h : l[k]? = some x) : (l.take (k + 1)).foldl thStep o = thStep ((l.take k).foldl thStep o) x := by
  rw [List.take_add_one, h]
  simp
theorem thingsL_succ {l : List PRule} {k : Nat} {x : PRule} (h : l[k]? = some x) : thingsL (l.take (k + 1)) = thRule (thingsL (l.take k)) x := by
  unfold thingsL
  rw [List.take_add_one, h]
  simp
theorem thStep_len (o : List ByteArray) (c : PCount) : (thStep o c).length ≤ o.length + 1 := by
  unfold thStep; split <;> simp
theorem thFold_len : ∀ (l : List PCount) (o : List ByteArray), (l.foldl thStep o).length ≤ o.length + l.length
  | [], o => by simp
  | c :: l, o => by
    have h1 := thFold_len l (thStep o c)
    have h2 := thStep_len o c
    simp only [List.foldl_cons, List.length_cons]; omega
theorem thRule_len (o : List ByteArray) (r : PRule) (h : r.counts.length ≤ 6) : (thRule o r).length ≤ o.length + 6 := by
  have := thFold_len r.counts o
  unfold thRule; omega
theorem thFoldR_len : ∀ (l : List PRule) (o : List ByteArray), (∀ r ∈ l, r.counts.length ≤ 6) → (l.foldl thRule o).length ≤ o.length + 6 * l.length
  | [], o, _ => by simp
  | r :: l, o, h => by
    have h1 := thFoldR_len l (thRule o r) (fun r hr => h r (List.mem_cons_of_mem _ hr))
    have h2 := thRule_len o r (h r List.mem_cons_self)
    simp only [List.foldl_cons, List.length_cons]; omega
theorem thingsL_len (l : List PRule) (h : ∀ r ∈ l, r.counts.length ≤ 6) : (thingsL l).length ≤ 6 * l.length := by
  have := thFoldR_len l [] h
  simpa [thingsL] using this

def hoursSel (r : PRule) : Int × Int := (r.h0, r.h1)
def seasonSel (r : PRule) : Int × Int := (r.s0, r.s1)
/-- rules contradict each other, of a kind -/
def ofB (rs : List PRule) (ts : List ByteArray) : Nat → Bool
  | 0 => false
  | 1 => rs.any fun r => r.forbid
  | 2 => emptyB rs 1440 hoursSel
  | 3 => daysN rs == 0
  | 4 => emptyB rs 365 seasonSel
  | k + 5 => match ts[k]? with | some nm => thingB rs nm | none => false
/-- the first of n numbers from k on for which f holds; 0: there is none -/
def kindF (f : Nat → Bool) : Nat → Nat → Nat
  | 0, _ => 0
  | n + 1, k => if f k = true then k else kindF f n (k + 1)
def kindN (rs : List PRule) : Nat := kindF (ofB rs (thingsL rs)) (4 + (thingsL rs).length) 1
theorem kindF_spec (f : Nat → Bool) : ∀ (n k : Nat), kindF f n k ≠ 0 → k ≤ kindF f n k ∧ kindF f n k < k + n ∧ f (kindF f n k) = true ∧ ∀ j, k ≤ j → j < kindF f n k → f j = false
  | 0, k, h => absurd rfl h
  | n + 1, k, h => by
    simp only [kindF] at h ⊢
    by_cases hf : f k = true
    · rw [if_pos hf]
      exact ⟨Nat.le_refl _, by omega, hf, fun j h1 h2 => by omega⟩
    · rw [if_neg hf] at h ⊢
      obtain ⟨h1, h2, h3, h4⟩ := kindF_spec f n (k + 1) h
      refine ⟨by omega, by omega, h3, fun j h5 h6 => ?_⟩
      by_cases he : j = k
      · subst he; simpa using hf
      · exact h4 j (by omega) h6
theorem kindF_none (f : Nat → Bool) : ∀ (n k : Nat), 1 ≤ k → kindF f n k = 0 → ∀ j, k ≤ j → j < k + n → f j = false
  | 0, k, _, h, j, h1, h2 => by omega
  | n + 1, k, hk, h, j, h1, h2 => by
    simp only [kindF] at h
    by_cases hf : f k = true
    · rw [if_pos hf] at h; omega
    · rw [if_neg hf] at h
      by_cases he : j = k
      · subst he; simpa using hf
      · exact kindF_none f n (k + 1) (by omega) h j (by omega) (by omega)
theorem kindF_zero (f : Nat → Bool) : ∀ (n k : Nat), 1 ≤ k → (∀ j, k ≤ j → j < k + n → f j = false) → kindF f n k = 0
  | 0, k, _, _ => rfl
  | n + 1, k, hk, h => by
    simp only [kindF]
    rw [if_neg (by rw [h k (by omega) (by omega)]; simp)]
    exact kindF_zero f n (k + 1) (by omega) (fun j h1 h2 => h j (by omega) (by omega))
theorem kindN_lt (rs : List PRule) : kindN rs < 5 + (thingsL rs).length := by
  by_cases h : kindN rs = 0
  · omega
  · have := (kindF_spec _ _ _ h).2.1
    unfold kindN
    omega
end Go.Proofs.Ytaomlmkcifpfkaa
