/- Windows of minutes, plainly: the program's windows, and those of the definition. -/
import Derived.Test.YtaomlmkcifpfkaaPSpec
namespace Go.Proofs.Ytaomlmkcifpfkaa

/-- the windows of the minutes m .. m + n, s: where the open one began (-1: none is open) -/
def winsF (al : Int → Bool) : Nat → Int → Int → List (Int × Int)
  | 0, m, s => if 0 ≤ s then [(s, m)] else []
  | n + 1, m, s => if al m = true then winsF al n (m + 1) (if s < 0 then m else s) else (if 0 ≤ s then [(s, m)] else []) ++ winsF al n (m + 1) (-1)
/-- the windows that are at least d long, as the definition finds them -/
def winsR (al : Int → Bool) (d : Int) : Nat → Int → Int → List (Int × Int)
  | 0, m, s => if d ≤ m - s then [(s, m)] else []
  | n + 1, m, s => if al m = true then winsR al d n (m + 1) s else (if d ≤ m - s then [(s, m)] else []) ++ winsR al d n (m + 1) (m + 1)
theorem winsF_bd (al : Int → Bool) : ∀ (n : Nat) (m s : Int), 0 ≤ m → s ≤ m → ∀ w ∈ winsF al n m s, 0 ≤ w.1 ∧ w.1 ≤ w.2 ∧ w.2 ≤ m + n
  | 0, m, s, h1, h2, w, hw => by
    simp only [winsF] at hw
    by_cases h : 0 ≤ s
    · rw [if_pos h] at hw
      obtain rfl := List.mem_singleton.1 hw
      simp only; omega
    · rw [if_neg h] at hw; cases hw
  | n + 1, m, s, h1, h2, w, hw => by
    simp only [winsF] at hw
    by_cases ha : al m = true
    · rw [if_pos ha] at hw
      have := winsF_bd al n (m + 1) _ (by omega) (by split <;> omega) w hw
      omega
    · rw [if_neg ha, List.mem_append] at hw
      rcases hw with hw | hw
      · by_cases h : 0 ≤ s
        · rw [if_pos h] at hw
          obtain rfl := List.mem_singleton.1 hw
          simp only; omega
        · rw [if_neg h] at hw; cases hw
      · have := winsF_bd al n (m + 1) (-1) (by omega) (by omega) w hw
        omega
def wide (d : Int) (w : Int × Int) : Bool := decide (d ≤ w.2 - w.1)
theorem winsF_skip (al : Int → Bool) (n : Nat) : ∀ (k : Nat) (m : Int), (∀ x, m ≤ x → x < m + k → al x = false) → winsF al (n + k) m (-1) = winsF al n (m + k) (-1)
  | 0, m, _ => by simp
  | k + 1, m, h => by
    have h0 : al m = false := h m (by omega) (by omega)
    rw [show n + (k + 1) = (n + k) + 1 by omega]
    simp only [winsF, h0, Bool.false_eq_true, if_false]
    rw [if_neg (by omega), List.nil_append, winsF_skip al n k (m + 1) (fun x h1 h2 => h x (by omega) (by omega))]
    congr 1
    omega
theorem winsF_wide (al : Int → Bool) (d : Int) (hd : 1 ≤ d) : ∀ (n : Nat) (m : Int), 0 ≤ m →
    (winsF al n m (-1)).filter (wide d) = winsR al d n m m ∧ ∀ s, 0 ≤ s → s ≤ m → (winsF al n m s).filter (wide d) = winsR al d n m s
  | 0, m, hm => by
    constructor
    · simp only [winsF, winsR]
      rw [if_neg (by omega), if_neg (by omega)]
      rfl
    · intro s h1 h2
      simp only [winsF, winsR]
      rw [if_pos h1]
      by_cases h : d ≤ m - s
      · rw [if_pos h]; simp [wide, h]
      · rw [if_neg h]; simp [wide, h]
  | n + 1, m, hm => by
    obtain ⟨i1, i2⟩ := winsF_wide al d hd n (m + 1) (by omega)
    constructor
    · simp only [winsF, winsR]
      by_cases ha : al m = true
      · rw [if_pos ha, if_pos ha, if_pos (by omega)]
        exact i2 m hm (by omega)
      · rw [if_neg ha, if_neg ha, if_neg (by omega), if_neg (by omega), List.nil_append, List.nil_append]
        exact i1
    · intro s h1 h2
      simp only [winsF, winsR]
      by_cases ha : al m = true
      · rw [if_pos ha, if_pos ha, if_neg (by omega)]
        exact i2 s h1 (by omega)
      · rw [if_neg ha, if_neg ha, if_pos h1, List.filter_append, i1]
        congr 1
        by_cases h : d ≤ m - s
        · rw [if_pos h]; simp [wide, h]
        · rw [if_neg h]; simp [wide, h]

/-- the first window that begins before 'last' and is at least d long, as the program looks for it -/
def nextP (last d : Int) : List (Int × Int) → Option Int
  | [] => none
  | w :: ws => if last ≤ w.1 then none else if d ≤ w.2 - w.1 then some w.1 else nextP last d ws
/-- the next start, as the definition finds it -/
def nextR (al : Int → Bool) (last d : Int) : Nat → Int → Int → Option Int
  | 0, _, _ => none
  | n + 1, m, s => if last ≤ s then none else if al m = true then (if m - s + 1 = d then some s else nextR al last d n (m + 1) s) else nextR al last d n (m + 1) (m + 1)
theorem nextP_late (al : Int → Bool) (last d : Int) (hl : 0 ≤ last) : ∀ (n : Nat) (m s : Int), last ≤ m → (s < 0 ∨ last ≤ s) → nextP last d (winsF al n m s) = none
  | 0, m, s, hm, hs => by
    simp only [winsF]
    by_cases h : 0 ≤ s
    · rw [if_pos h]; simp only [nextP]; rw [if_pos (by omega)]
    · rw [if_neg h]; rfl
  | n + 1, m, s, hm, hs => by
    simp only [winsF]
    by_cases ha : al m = true
    · rw [if_pos ha]
      refine nextP_late al last d hl n (m + 1) _ (by omega) ?_
      by_cases h : s < 0
      · rw [if_pos h]; omega
      · rw [if_neg h]; omega
    · rw [if_neg ha]
      by_cases h : 0 ≤ s
      · rw [if_pos h]; simp only [List.cons_append, nextP]; rw [if_pos (by omega)]
      · rw [if_neg h]; exact nextP_late al last d hl n (m + 1) _ (by omega) (by omega)
theorem nextP_found (al : Int → Bool) (last d s : Int) (h0 : 0 ≤ s) (hs : s < last) : ∀ (n : Nat) (m : Int), d ≤ m - s → nextP last d (winsF al n m s) = some s
  | 0, m, hm => by
    simp only [winsF]
    rw [if_pos h0]; simp only [nextP]; rw [if_neg (by omega), if_pos (by omega)]
  | n + 1, m, hm => by
    simp only [winsF]
    by_cases ha : al m = true
    · rw [if_pos ha, if_neg (by omega)]
      exact nextP_found al last d s h0 hs n (m + 1) (by omega)
    · rw [if_neg ha, if_pos h0]; simp only [List.cons_append, nextP]; rw [if_neg (by omega), if_pos (by omega)]
theorem next_eq (al : Int → Bool) (last d : Int) (hl : 0 ≤ last) (hd : 1 ≤ d) : ∀ (n : Nat) (m : Int), 0 ≤ m → m + n = last + d →
    nextP last d (winsF al n m (-1)) = nextR al last d n m m ∧ ∀ s, 0 ≤ s → s < m → m - s < d → nextP last d (winsF al n m s) = nextR al last d n m s
  | 0, m, hm, he => by
    constructor
    · simp only [winsF, nextR]
      rw [if_neg (by omega)]; rfl
    · intro s h1 h2 h3
      simp only [winsF, nextR]
      rw [if_pos h1]; simp only [nextP]; rw [if_pos (by omega)]
  | n + 1, m, hm, he => by
    obtain ⟨i1, i2⟩ := next_eq al last d hl hd n (m + 1) (by omega) (by omega)
    constructor
    · by_cases h5 : last ≤ m
      · rw [nextP_late al last d hl (n + 1) m (-1) h5 (by omega)]
        simp only [nextR]
        rw [if_pos h5]
      · simp only [winsF, nextR]
        rw [if_neg h5]
        by_cases ha : al m = true
        · rw [if_pos ha, if_pos ha, if_pos (by omega)]
          by_cases h6 : m - m + 1 = d
          · rw [if_pos h6]
            exact nextP_found al last d m hm (by omega) n (m + 1) (by omega)
          · rw [if_neg h6]
            exact i2 m hm (by omega) (by omega)
        · rw [if_neg ha, if_neg ha, if_neg (by omega), List.nil_append]
          exact i1
    · intro s h1 h2 h3
      by_cases h5 : last ≤ s
      · rw [nextP_late al last d hl (n + 1) m s (by omega) (by omega)]
        simp only [nextR]
        rw [if_pos h5]
      · simp only [winsF, nextR]
        rw [if_neg h5]
        by_cases ha : al m = true
        · rw [if_pos ha, if_pos ha, if_neg (by omega)]
          by_cases h6 : m - s + 1 = d
          · rw [if_pos h6]
            exact nextP_found al last d s h1 (by omega) n (m + 1) (by omega)
          · rw [if_neg h6]
            exact i2 s h1 (by omega) (by omega)
        · rw [if_neg ha, if_neg ha, if_pos h1]
          simp only [List.cons_append, List.nil_append, nextP]
          rw [if_neg h5, if_neg (by omega)]
          exact i1

/-! ### what the next start and the windows are -/
theorem nextR_spec (al : Int → Bool) (last d fr : Int) : ∀ (n : Nat) (m s r : Int), nextR al last d n m s = some r → s ≤ m → m - s < d →
    (∀ x, s ≤ x → x < m → al x = true) → (∀ x, fr ≤ x → x < s → ∃ y, x ≤ y ∧ y < x + d ∧ al y = false) →
    s ≤ r ∧ (∀ x, r ≤ x → x < r + d → al x = true) ∧ (∀ x, fr ≤ x → x < r → ∃ y, x ≤ y ∧ y < x + d ∧ al y = false)
  | 0, m, s, r, h, _, _, _, _ => by simp [nextR] at h
  | n + 1, m, s, r, h, h1, h2, h3, h4 => by
    simp only [nextR] at h
    by_cases hl : last ≤ s
    · rw [if_pos hl] at h; cases h
    · rw [if_neg hl] at h
      by_cases ha : al m = true
      · rw [if_pos ha] at h
        have h3' : ∀ x, s ≤ x → x < m + 1 → al x = true := fun x hx1 hx2 => by
          by_cases hm : x < m
          · exact h3 x hx1 hm
          · obtain rfl : x = m := by omega
            exact ha
        by_cases he : m - s + 1 = d
        · rw [if_pos he] at h
          obtain rfl : s = r := Option.some.inj h
          exact ⟨Int.le_refl _, fun x hx1 hx2 => h3' x hx1 (by omega), h4⟩
        · rw [if_neg he] at h
          exact nextR_spec al last d fr n (m + 1) s r h (by omega) (by omega) h3' h4
      · rw [if_neg ha] at h
        obtain ⟨i1, i2, i3⟩ := nextR_spec al last d fr n (m + 1) (m + 1) r h (by omega) (by omega) (fun x hx1 hx2 => by omega) (fun x hx1 hx2 => by
          by_cases hs : x < s
          · exact h4 x hx1 hs
          · exact ⟨m, by omega, by omega, by simpa using ha⟩)
        exact ⟨by omega, i2, i3⟩
/-- windows one behind another, as long as can be -/
def okW (al : Int → Bool) (d fr to' : Int) : Int → List (Int × Int) → Prop
  | _, [] => True
  | last, w :: ws => last < w.1 ∧ w.2 ≤ to' ∧ d ≤ w.2 - w.1 ∧ (∀ x, w.1 ≤ x → x < w.2 → al x = true) ∧ (fr < w.1 → al (w.1 - 1) = false) ∧ (w.2 < to' → al w.2 = false) ∧ okW al d fr to' w.2 ws
theorem winsR_ok (al : Int → Bool) (d fr to' : Int) : ∀ (n : Nat) (m s last : Int), to' = m + n → s ≤ m → last < s → (∀ x, s ≤ x → x < m → al x = true) → (fr < s → al (s - 1) = false) →
    okW al d fr to' last (winsR al d n m s)
  | 0, m, s, last, h1, h2, h3, h4, h5 => by
    simp only [winsR]
    by_cases h : d ≤ m - s
    · rw [if_pos h]
      exact ⟨h3, by simp only; omega, h, h4, h5, fun h => by simp only at h; omega, trivial⟩
    · rw [if_neg h]; trivial
  | n + 1, m, s, last, h1, h2, h3, h4, h5 => by
    simp only [winsR]
    by_cases ha : al m = true
    · rw [if_pos ha]
      refine winsR_ok al d fr to' n (m + 1) s last (by omega) (by omega) h3 (fun x hx1 hx2 => ?_) h5
      by_cases hm : x < m
      · exact h4 x hx1 hm
      · obtain rfl : x = m := by omega
        exact ha
    · rw [if_neg ha]
      have ha' : al m = false := by simpa using ha
      have e : m + 1 - 1 = m := by omega
      have ih := fun last' (hl : last' < m + 1) => winsR_ok al d fr to' n (m + 1) (m + 1) last' (by omega) (by omega) hl (fun x hx1 hx2 => by omega) (fun _ => by rw [e]; exact ha')
      by_cases h : d ≤ m - s
      · rw [if_pos h]
        exact ⟨h3, by simp only; omega, h, h4, h5, fun _ => ha', ih m (by omega)⟩
      · rw [if_neg h]
        exact ih last (by omega)
theorem winsR_all (al : Int → Bool) (d to' a : Int) (hd : 1 ≤ d) (hto : a + d ≤ to') (hal : ∀ x, a ≤ x → x < a + d → al x = true) : ∀ (n : Nat) (m s : Int), to' = m + n → s ≤ m → s ≤ a →
    ∃ w ∈ winsR al d n m s, w.1 ≤ a ∧ a + d ≤ w.2
  | 0, m, s, h1, h2, h3 => by
    simp only [winsR]
    rw [if_pos (by omega)]
    exact ⟨_, List.mem_singleton.2 rfl, h3, by simp only; omega⟩
  | n + 1, m, s, h1, h2, h3 => by
    simp only [winsR]
    by_cases ha : al m = true
    · rw [if_pos ha]
      exact winsR_all al d to' a hd hto hal n (m + 1) s (by omega) (by omega) h3
    · rw [if_neg ha]
      by_cases hm : m < a
      · obtain ⟨w, hw, h4, h5⟩ := winsR_all al d to' a hd hto hal n (m + 1) (m + 1) (by omega) (by omega) (by omega)
        exact ⟨w, List.mem_append.2 (.inr hw), h4, h5⟩
      · have hb : a + d ≤ m := by
          rcases Int.lt_or_le m (a + d) with h | h
          · exact absurd (hal m (by omega) h) ha
          · exact h
        rw [if_pos (by omega)]
        exact ⟨(s, m), by simp, h3, hb⟩
end Go.Proofs.Ytaomlmkcifpfkaa
