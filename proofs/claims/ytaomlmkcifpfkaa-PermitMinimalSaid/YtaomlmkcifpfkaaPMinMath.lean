/- What the law on least conflicts says, plainly: rules that do not contradict each other allow a time, and a number of each thing. -/
import Derived.Test.YtaomlmkcifpfkaaPCureMath
namespace Go.Proofs.Ytaomlmkcifpfkaa

/-- a number of a thing breaks no count -/
def okN (l : List PRule) (nm : ByteArray) (n : Int) : Bool := l.all fun r => r.counts.all fun c => !(decide (c.thing = nm) && (decide (n < c.least) || decide (c.most < n)))
theorem okN_iff {l : List PRule} {nm : ByteArray} {n : Int} : okN l nm n = true ↔ ∀ r ∈ l, ∀ c ∈ r.counts, c.thing = nm → c.least ≤ n ∧ n ≤ c.most := by
  unfold okN
  rw [List.all_eq_true]
  constructor
  · intro h r hr c hc e
    have := List.all_eq_true.1 (h r hr) c hc
    simp [e] at this
    omega
  · intro h r hr
    rw [List.all_eq_true]
    intro c hc
    by_cases e : c.thing = nm
    · have := h r hr c hc e
      simp [e]; omega
    · simp [e]
theorem okN_some {l : List PRule} (h : kindN l = 0) {nm : ByteArray} (hn : nm ∈ thingsL l) : ∃ n : Nat, n ≤ 1000 ∧ okN l nm (n : Int) = true := by
  obtain ⟨i, hi⟩ := List.getElem?_of_mem hn
  have h1 := kindN_zero.1 h (i + 5)
  rw [ofB_5, hi] at h1
  simp only at h1
  obtain ⟨x, h0, hx⟩ := thingB_no.1 h1
  refine ⟨x.toNat, by omega, okN_iff.2 ?_⟩
  rw [Int.toNat_of_nonneg h0.1]
  exact hx
theorem minute_some {l : List PRule} (h : kindN l = 0) : ∃ m : Nat, m < 1440 ∧ holdB l hoursSel m = false := by
  have h1 := kindN_zero.1 h 2
  rw [ofB_2] at h1
  unfold emptyB at h1
  rw [List.all_eq_false] at h1
  obtain ⟨m, hm, hx⟩ := h1
  exact ⟨m, List.mem_range.1 hm, by simpa using hx⟩
theorem holdB_no {l : List PRule} {sel : PRule → Int × Int} {m : Nat} (h : holdB l sel m = false) : ∀ r ∈ l, liesB (m : Int) (sel r).1 (sel r).2 = true := by
  unfold holdB at h
  rw [List.any_eq_false] at h
  intro r hr
  simpa using h r hr
theorem possible_day {l : List PRule} (hr : ∀ r ∈ l, 0 ≤ r.days ∧ r.days ≤ 127) (h : kindN l = 0) {m : Nat} (hm : m < 1440) (hh : holdB l hoursSel m = false) : ∃ d : Nat, d < 2555 ∧ allowedB l (1440 * (d : Int) + (m : Int)) = true := by
  have hz := kindN_zero.1 h
  have h1 := hz 1
  have h3 := hz 3
  have h4 := hz 4
  rw [ofB_1] at h1
  rw [ofB_3] at h3
  rw [ofB_4] at h4
  rw [List.any_eq_false] at h1
  obtain ⟨k, hk, hkb⟩ := (days_no hr).1 h3
  unfold emptyB at h4
  rw [List.all_eq_false] at h4
  obtain ⟨s, hs, hsx⟩ := h4
  rw [List.mem_range] at hs
  have hsl := holdB_no (l := l) (sel := seasonSel) (m := s) (by simpa using hsx)
  have hhl := holdB_no hh
  refine ⟨s + 365 * ((k + 7 - s % 7) % 7), by omega, ?_⟩
  unfold allowedB
  rw [List.all_eq_true]
  intro r hrm
  have e1 : (1440 * ((s + 365 * ((k + 7 - s % 7) % 7) : Nat) : Int) + (m : Int)) / 1440 = ((s + 365 * ((k + 7 - s % 7) % 7) : Nat) : Int) := by omega
  have e2 : (1440 * ((s + 365 * ((k + 7 - s % 7) % 7) : Nat) : Int) + (m : Int)) % 1440 = (m : Int) := by omega
  have e3 : (((s + 365 * ((k + 7 - s % 7) % 7) : Nat) : Int) % 7).toNat = k := by omega
  have e4 : ((s + 365 * ((k + 7 - s % 7) % 7) : Nat) : Int) % 365 = (s : Int) := by omega
  unfold allowsB dayB
  rw [e1, e2, e3, e4, hkb r hrm]
  have a1 := h1 r hrm
  have a2 := hsl r hrm
  have a3 := hhl r hrm
  unfold seasonSel at a2
  unfold hoursSel at a3
  simp only at a2 a3
  rw [a2, a3]
  simpa using a1

section
variable {α β : Type}
theorem chosen_nil (k : List Bool) : chosenL ([] : List α) k = [] := by simp [chosenL]
theorem chosen_split : ∀ (l : List α) (k : List Bool) (p : Nat), chosenL l k = chosenL (l.take p) (k.take p) ++ chosenL (l.drop p) (k.drop p)
  | [], k, p => by simp [chosen_nil]
  | y :: l, [], p => by cases p <;> simp [chosenL]
  | y :: l, b :: k, 0 => by simp [chosenL]
  | y :: l, b :: k, p + 1 => by
    simp only [List.take_succ_cons, List.drop_succ_cons, chosenL]
    rw [chosen_split l k p]
    split <;> simp
theorem chosen_same_len : ∀ (l : List α) (m : List β) (k : List Bool), l.length = m.length → (chosenL l k).length = (chosenL m k).length
  | [], [], k, _ => by simp [chosen_nil]
  | [], _ :: _, k, h => by simp at h
  | _ :: _, [], k, h => by simp at h
  | x :: l, y :: m, [], _ => by simp [chosenL]
  | x :: l, y :: m, b :: k, h => by
    have ih := chosen_same_len l m k (by simpa using h)
    simp only [chosenL]
    split <;> simp [ih]
/-- all that is chosen lies ahead -/
theorem chosen_all_of {l : List α} {m : List β} {k : List Bool} {p : Nat} (hl : l.length = m.length) (h : (chosenL (l.take p) (k.take p)).length = (chosenL l k).length) : chosenL (m.take p) (k.take p) = chosenL m k := by
  have h1 := congrArg List.length (chosen_split l k p)
  rw [List.length_append, h] at h1
  have h2 := chosen_same_len (l.drop p) (m.drop p) (k.drop p) (by simp [hl])
  have h3 : chosenL (m.drop p) (k.drop p) = [] := List.eq_nil_of_length_eq_zero (by omega)
  have h4 := chosen_split m k p
  rw [h3, List.append_nil] at h4
  exact h4.symm
end
theorem ofB_nil (ts : List ByteArray) (k : Nat) : ofB [] ts k = false := by
  have he : ∀ (n : Nat) (sel : PRule → Int × Int), emptyB [] (n + 1) sel = false := fun n sel => by
    unfold emptyB
    rw [List.all_eq_false]
    exact ⟨0, List.mem_range.2 (Nat.succ_pos n), by simp [holdB]⟩
  rcases kind6 k with rfl | rfl | rfl | rfl | rfl | ⟨k, rfl⟩
  · rfl
  · rfl
  · rw [ofB_2]; exact he 1439 hoursSel
  · rfl
  · rw [ofB_4]; exact he 364 seasonSel
  · rw [ofB_5]
    cases ts[k]? <;> rfl
theorem conf_some {rs : List PRule} (hk : kindN rs ≠ 0) : 0 < (chosenL rs (confK rs)).length := by
  rcases Nat.eq_zero_or_pos (chosenL rs (confK rs)).length with h | h
  · have h1 := conf_yes hk
    rw [List.eq_nil_of_length_eq_zero h, ofB_nil] at h1
    cases h1
  · exact h
/-- the walk along the numbers: what stands at a number -/
theorem at_next {ns : List Int} {ks : List Bool} (hrun : RunN ns) (hk : ks.length = ns.length) {i p : Nat} {c x : Int} (hc : (chosenL ns ks)[i]? = some c) (hp : (chosenL (ns.take p) (ks.take p)).length = i) (hx : ns[p]? = some x) :
    (x = c → ks[p]? = some true) ∧ (x ≠ c → ks[p]? = some false) := by
  obtain ⟨q, h1, h2⟩ := mem_chosen.1 (List.mem_of_getElem? hc)
  constructor
  · rintro rfl
    rw [hrun.inj hx h1]; exact h2
  · intro hne
    have hpl := (List.getElem?_eq_some_iff.1 hx).1
    obtain ⟨b, hb⟩ := some_of_lt (l := ks) (k := p) (by omega)
    cases b with
    | false => exact hb
    | true =>
      have h3 := chosen_next hx hb
      rw [hp, hc] at h3
      exact absurd (Option.some.inj h3).symm hne
end Go.Proofs.Ytaomlmkcifpfkaa
