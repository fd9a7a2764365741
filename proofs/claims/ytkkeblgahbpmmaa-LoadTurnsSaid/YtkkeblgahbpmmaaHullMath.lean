
/- The corners of points, plainly: sorted each one once, and the chain below and above; that a sorted list without its doubles is the one of the definition. -/
import Derived.Test.YtkkeblgahbpmmaaPlaneA
namespace Go.Proofs.Ytkkeblgahbpmmaa
open Go.RowKit

abbrev HPt := Int × Int
def ltP (a b : HPt) : Prop := a.1 < b.1 ∨ (a.1 = b.1 ∧ a.2 < b.2)
instance (a b : HPt) : Decidable (ltP a b) := by unfold ltP; exact inferInstance
theorem ltP_irrefl (a : HPt) : ¬ ltP a a := by unfold ltP; omega
theorem ltP_trans {a b c : HPt} (h : ltP a b) (k : ltP b c) : ltP a c := by unfold ltP at *; omega
theorem ltP_total {a b : HPt} (h : ¬ ltP a b) (k : ¬ a = b) : ltP b a := by
  unfold ltP at *
  have : ¬ (a.1 = b.1 ∧ a.2 = b.2) := fun e => k (Prod.ext e.1 e.2)
  omega
def crossP (a b c : HPt) : Int := (b.1 - a.1) * (c.2 - a.2) - (b.2 - a.2) * (c.1 - a.1)
/-- how many points of a list come before a point, at its beginning -/
def atP (l : List HPt) (x : HPt) : Nat := (l.takeWhile (fun y => decide (ltP y x))).length
def insP (l : List HPt) (x : HPt) : List HPt := if l[atP l x]? = some x then l else l.take (atP l x) ++ x :: l.drop (atP l x)
/-- points in order, each one once -/
def sortP (l : List HPt) : List HPt := l.foldl insP []
/-- a stack, its top first, without what a new point drops -/
def popP : List HPt → HPt → List HPt
  | b :: a :: r, x => if crossP a b x ≤ 0 then popP (a :: r) x else b :: a :: r
  | l, _ => l
def pushP (st : List HPt) (x : HPt) : List HPt := x :: popP st x
def sideP (l : List HPt) : List HPt := (l.foldl pushP []).reverse
def cornersP (l : List HPt) : List HPt := if (sortP l).length < 2 then sortP l else (sideP (sortP l)).dropLast ++ (sideP (sortP l).reverse).dropLast

theorem popP_short {st : List HPt} (h : st.length < 2) (x y : Int) : popP st (x, y) = st := by
  rcases st with _ | ⟨b, _ | ⟨a, r⟩⟩
  · rfl
  · rfl
  · simp at h; omega
theorem popP_len : ∀ (st : List HPt) (x : HPt), (popP st x).length ≤ st.length
  | [], _ => Nat.le_refl _
  | [_], _ => Nat.le_refl _
  | b :: a :: r, x => by
    unfold popP
    split
    · exact Nat.le_succ_of_le (popP_len (a :: r) x)
    · exact Nat.le_refl _
theorem foldP_len : ∀ (l st : List HPt), (l.foldl pushP st).length ≤ st.length + l.length
  | [], st => Nat.le_refl _
  | x :: l, st => by
    have h1 := foldP_len l (pushP st x)
    have h2 := popP_len st x
    simp only [List.foldl_cons, List.length_cons, pushP] at *
    omega
theorem popP_mem : ∀ (st : List HPt) (x : HPt) {y : HPt}, y ∈ popP st x → y ∈ st
  | [], _, _, h => h
  | [_], _, _, h => h
  | b :: a :: r, x, y, h => by
    unfold popP at h
    split at h
    · exact List.mem_cons_of_mem _ (popP_mem (a :: r) x h)
    · exact h
theorem foldP_mem : ∀ (l st : List HPt) {y : HPt}, y ∈ l.foldl pushP st → y ∈ st ∨ y ∈ l
  | [], _, _, h => .inl h
  | x :: l, st, y, h => by
    rcases foldP_mem l (pushP st x) h with h | h
    · rcases List.mem_cons.1 h with rfl | h
      · exact .inr (by simp)
      · exact .inl (popP_mem st x h)
    · exact .inr (List.mem_cons_of_mem _ h)
theorem popP_keep {a b x : HPt} {r : List HPt} (h : ¬ crossP a b x ≤ 0) : popP (b :: a :: r) x = b :: a :: r := by
  unfold popP
  rw [if_neg h]
theorem popP_drop {a b x : HPt} {r : List HPt} (h : crossP a b x ≤ 0) : popP (b :: a :: r) x = popP (a :: r) x := by
  rw [popP, if_pos h]

/-! ### sorted -/
def Srt (l : List HPt) : Prop := l.Pairwise ltP
theorem atP_le (l : List HPt) (x : HPt) : atP l x ≤ l.length := by
  unfold atP
  exact (List.takeWhile_prefix _).length_le
theorem take_atP (l : List HPt) (x : HPt) : l.take (atP l x) = l.takeWhile (fun y => decide (ltP y x)) := by
  unfold atP
  exact (List.prefix_iff_eq_take.1 (List.takeWhile_prefix _)).symm
theorem drop_atP (l : List HPt) (x : HPt) : l.drop (atP l x) = l.dropWhile (fun y => decide (ltP y x)) := by
  have h := List.takeWhile_append_dropWhile (p := fun y => decide (ltP y x)) (l := l)
  have h2 := List.take_append_drop (atP l x) l
  rw [take_atP] at h2
  have := h2.trans h.symm
  exact List.append_cancel_left this
theorem ins_mem (l : List HPt) (x y : HPt) : y ∈ insP l x ↔ y = x ∨ y ∈ l := by
  unfold insP
  split
  · rename_i h
    have := List.mem_of_getElem? h
    constructor
    · exact .inr
    · rintro (rfl | h)
      · exact this
      · exact h
  · have h2 : y ∈ l ↔ y ∈ l.take (atP l x) ++ l.drop (atP l x) := by rw [List.take_append_drop]
    rw [h2]
    simp only [List.mem_append, List.mem_cons]
    constructor
    · rintro (h | h | h)
      · exact .inr (.inl h)
      · exact .inl h
      · exact .inr (.inr h)
    · rintro (h | h | h)
      · exact .inr (.inl h)
      · exact .inl h
      · exact .inr (.inr h)
theorem ins_srt {l : List HPt} (h : Srt l) (x : HPt) : Srt (insP l x) := by
  unfold insP
  split
  · exact h
  · rename_i hne
    have hsplit : Srt (l.take (atP l x) ++ l.drop (atP l x)) := by rw [List.take_append_drop]; exact h
    have hs := List.pairwise_append.1 hsplit
    have ht : ∀ y ∈ l.take (atP l x), ltP y x := by
      rw [take_atP]
      intro y hy
      have := List.all_eq_true.1 (List.all_takeWhile (p := fun y => decide (ltP y x)) (l := l)) y hy
      simpa using this
    have hd : ∀ y ∈ l.drop (atP l x), ltP x y := by
      cases hdl : l.drop (atP l x) with
      | nil => simp
      | cons z r =>
        have hz : l[atP l x]? = some z := by
          have : (l.drop (atP l x))[0]? = some z := by rw [hdl]; rfl
          rwa [List.getElem?_drop, Nat.add_zero] at this
        have hzx : ltP x z := by
          have h1 : ¬ ltP z x := by
            have h2 := drop_atP l x
            rw [hdl] at h2
            have h3 := List.head?_dropWhile_not (p := fun y => decide (ltP y x)) (l := l)
            rw [← h2] at h3
            simpa using h3
          have h4 : ¬ z = x := fun e => hne (by rw [hz, e])
          exact ltP_total h1 h4
        intro y hy
        rcases List.mem_cons.1 hy with rfl | hy
        · exact hzx
        · have := hs.2.1
          rw [hdl] at this
          exact ltP_trans hzx ((List.pairwise_cons.1 this).1 y hy)
    refine List.pairwise_append.2 ⟨hs.1, List.pairwise_cons.2 ⟨hd, hs.2.1⟩, fun a ha b hb => ?_⟩
    rcases List.mem_cons.1 hb with rfl | hb
    · exact ht a ha
    · exact hs.2.2 a ha b hb
theorem sort_srt (l : List HPt) : Srt (sortP l) := by
  have key : ∀ (l acc : List HPt), Srt acc → Srt (l.foldl insP acc) := by
    intro l
    induction l with
    | nil => intro acc h; exact h
    | cons x l ih => intro acc h; exact ih _ (ins_srt h x)
  exact key l [] List.Pairwise.nil
theorem sort_mem (l : List HPt) (y : HPt) : y ∈ sortP l ↔ y ∈ l := by
  have key : ∀ (l acc : List HPt), y ∈ l.foldl insP acc ↔ y ∈ acc ∨ y ∈ l := by
    intro l
    induction l with
    | nil => intro acc; simp
    | cons x l ih =>
      intro acc
      rw [List.foldl_cons, ih, ins_mem, List.mem_cons]
      constructor
      · rintro ((h | h) | h)
        · exact .inr (.inl h)
        · exact .inl h
        · exact .inr (.inr h)
      · rintro (h | h | h)
        · exact .inl (.inr h)
        · exact .inl (.inl h)
        · exact .inr h
  have := key l []
  simpa [sortP] using this
/-- a strictly sorted list is what its members say -/
theorem srt_unique : ∀ {l m : List HPt}, Srt l → Srt m → (∀ y, y ∈ l ↔ y ∈ m) → l = m
  | [], [], _, _, _ => rfl
  | [], b :: m, _, _, h => by have := (h b).2 (by simp); simp at this
  | a :: l, [], _, _, h => by have := (h a).1 (by simp); simp at this
  | a :: l, b :: m, hl, hm, h => by
    obtain ⟨ha, hl'⟩ := List.pairwise_cons.1 hl
    obtain ⟨hb, hm'⟩ := List.pairwise_cons.1 hm
    have hab : a = b := by
      rcases List.mem_cons.1 ((h a).1 (by simp)) with h1 | h1
      · exact h1
      · rcases List.mem_cons.1 ((h b).2 (by simp)) with h2 | h2
        · exact h2.symm
        · exact absurd (ltP_trans (ha b h2) (hb a h1)) (ltP_irrefl a)
    subst hab
    have : l = m := srt_unique hl' hm' (fun y => by
      constructor
      · intro hy
        rcases List.mem_cons.1 ((h y).1 (by simp [hy])) with h1 | h1
        · subst h1; exact absurd (ha y hy) (ltP_irrefl y)
        · exact h1
      · intro hy
        rcases List.mem_cons.1 ((h y).2 (by simp [hy])) with h1 | h1
        · subst h1; exact absurd (hb y hy) (ltP_irrefl y)
        · exact h1)
    rw [this]

/-! ### without doubles -/
def compactP : List HPt → List HPt
  | a :: b :: l => if a = b then compactP (b :: l) else a :: compactP (b :: l)
  | l => l
def SrtLe (l : List HPt) : Prop := l.Pairwise (fun a b => ¬ ltP b a)
theorem compact_head : ∀ (b : HPt) (l : List HPt), ∃ r, compactP (b :: l) = b :: r
  | b, [] => ⟨[], rfl⟩
  | b, c :: l => by
    unfold compactP
    by_cases h : b = c
    · subst h
      rw [if_pos rfl]
      exact compact_head b l
    · rw [if_neg h]
      exact ⟨_, rfl⟩
theorem compact_mem : ∀ (l : List HPt) (y : HPt), y ∈ compactP l ↔ y ∈ l
  | [], _ => Iff.rfl
  | [_], _ => Iff.rfl
  | a :: b :: l, y => by
    unfold compactP
    by_cases h : a = b
    · subst h
      rw [if_pos rfl, compact_mem (a :: l) y]
      simp
    · rw [if_neg h, List.mem_cons, compact_mem (b :: l) y, List.mem_cons (l := b :: l)]
theorem compact_srt : ∀ {l : List HPt}, SrtLe l → Srt (compactP l)
  | [], _ => List.Pairwise.nil
  | [_], _ => List.pairwise_singleton _ _
  | a :: b :: l, h => by
    obtain ⟨ha, hl⟩ := List.pairwise_cons.1 h
    have ih := compact_srt (l := b :: l) hl
    unfold compactP
    by_cases hab : a = b
    · rw [if_pos hab]; exact ih
    · rw [if_neg hab]
      refine List.pairwise_cons.2 ⟨fun y hy => ?_, ih⟩
      rw [compact_mem] at hy
      have h1 : ltP a b := ltP_total (ha b (by simp)) (fun e => hab e.symm)
      rcases List.mem_cons.1 hy with rfl | hy
      · exact h1
      · have h2 := (List.pairwise_cons.1 hl).1 y hy
        by_cases e : b = y
        · subst e; exact h1
        · exact ltP_trans h1 (ltP_total h2 (fun e2 => e e2.symm))
/-- sorted and without doubles: the list of the definition -/
theorem compact_sort {l d : List HPt} (hs : SrtLe d) (hp : ∀ y, y ∈ d ↔ y ∈ l) : compactP d = sortP l :=
  srt_unique (compact_srt hs) (sort_srt l) (fun y => by rw [compact_mem, sort_mem, hp])
end Go.Proofs.Ytkkeblgahbpmmaa
