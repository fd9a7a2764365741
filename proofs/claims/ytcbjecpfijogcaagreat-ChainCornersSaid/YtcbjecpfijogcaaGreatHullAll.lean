
/- HullAll: several texts in one. -/
import Derived.Test.YtcbjecpfijogcaaGreatPlaneA
import Derived.Test.YtcbjecpfijogcaaGreatShelf
import Derived.Test.YtcbjecpfijogcaaGreatLib
import Derived.Lib.SlicesCompact
import Derived.Laws.StructEq
import Derived.Shelf.SlicesE.Kit
import Derived.Shelf.SlicesQ.Load
import Derived.Deep.LoopGhost
import Derived.Deep.Draws
import Derived.Sort.WalkB12
import Derived.Shelf.RegionOpenPlain
/- The corners of points, plainly: sorted each one once, and the chain below and above; that a sorted list without its doubles is the one of the definition. -/
namespace Go.Proofs.YtcbjecpfijogcaaGreat
open Go.RowKit

abbrev HPt := Int × Int
def ltP (a b : HPt) : Prop := a.1 < b.1 ∨ (a.1 = b.1 ∧ a.2 < b.2)
instance (a b : HPt) : Decidable (ltP a b) := by unfold ltP; exact inferInstance
theorem ltP_irrefl (a : HPt) : ¬ ltP a a := by unfold ltP; omega
theorem ltP_trans {a b c : HPt} (h : ltP a b) (k : ltP b c) : ltP a c := by unfold ltP at *; omega
theorem ltP_total {a b : HPt} (h : ¬ ltP a b) (k : ¬ a = b) : ltP b a := by
  unfold ltP at *
  have : ¬ (a.1 = b.1 ∧ a.2 = b.2) := fun e => k (Prod.ext e.1 e.2)
  omega
def crossP (a b c : HPt) : Int := (b.1 - a.1) * (c.2 - a.2) - (b.2 - a.2) * (c.1 - a.1)
/-- how many points of a list come before a point, at its beginning -/
def atP (l : List HPt) (x : HPt) : Nat := (l.takeWhile (fun y => decide (ltP y x))).length
def insP (l : List HPt) (x : HPt) : List HPt := if l[atP l x]? = some x then l else l.take (atP l x) ++ x :: l.drop (atP l x)
/-- points in order, each one once -/
def sortP (l : List HPt) : List HPt := l.foldl insP []
/-- a stack, its top first, without what a new point drops -/
def popP : List HPt → HPt → List HPt
  | b :: a :: r, x => if crossP a b x ≤ 0 then popP (a :: r) x else b :: a :: r
  | l, _ => l
def pushP (st : List HPt) (x : HPt) : List HPt := x :: popP st x
def sideP (l : List HPt) : List HPt := (l.foldl pushP []).reverse
def cornersP (l : List HPt) : List HPt := if (sortP l).length < 2 then sortP l else (sideP (sortP l)).dropLast ++ (sideP (sortP l).reverse).dropLast

theorem popP_short {st : List HPt} (h : st.length < 2) (x y : Int) : popP st (x, y) = st := by
  rcases st with _ | ⟨b, _ | ⟨a, r⟩⟩
  · rfl
  · rfl
  · simp at h; omega
theorem popP_len : ∀ (st : List HPt) (x : HPt), (popP st x).length ≤ st.length
  | [], _ => Nat.le_refl _
  | [_], _ => Nat.le_refl _
  | b :: a :: r, x => by
    unfold popP
    split
    · exact Nat.le_succ_of_le (popP_len (a :: r) x)
    · exact Nat.le_refl _
theorem foldP_len : ∀ (l st : List HPt), (l.foldl pushP st).length ≤ st.length + l.length
  | [], st => Nat.le_refl _
  | x :: l, st => by
    have h1 := foldP_len l (pushP st x)
    have h2 := popP_len st x
    simp only [List.foldl_cons, List.length_cons, pushP] at *
    omega
theorem popP_mem : ∀ (st : List HPt) (x : HPt) {y : HPt}, y ∈ popP st x → y ∈ st
  | [], _, _, h => h
  | [_], _, _, h => h
  | b :: a :: r, x, y, h => by
    unfold popP at h
    split at h
    · exact List.mem_cons_of_mem _ (popP_mem (a :: r) x h)
    · exact h
theorem foldP_mem : ∀ (l st : List HPt) {y : HPt}, y ∈ l.foldl pushP st → y ∈ st ∨ y ∈ l
  | [], _, _, h => .inl h
  | x :: l, st, y, h => by
    rcases foldP_mem l (pushP st x) h with h | h
    · rcases List.mem_cons.1 h with rfl | h
      · exact .inr (by simp)
      · exact .inl (popP_mem st x h)
    · exact .inr (List.mem_cons_of_mem _ h)
theorem popP_keep {a b x : HPt} {r : List HPt} (h : ¬ crossP a b x ≤ 0) : popP (b :: a :: r) x = b :: a :: r := by
  unfold popP
  rw [if_neg h]
theorem popP_drop {a b x : HPt} {r : List HPt} (h : crossP a b x ≤ 0) : popP (b :: a :: r) x = popP (a :: r) x := by
  rw [popP, if_pos h]

/-! ### sorted -/
def Srt (l : List HPt) : Prop := l.Pairwise ltP
theorem atP_le (l : List HPt) (x : HPt) : atP l x ≤ l.length := by
  unfold atP
  exact (List.takeWhile_prefix _).length_le
theorem take_atP (l : List HPt) (x : HPt) : l.take (atP l x) = l.takeWhile (fun y => decide (ltP y x)) := by
  unfold atP
  exact (List.prefix_iff_eq_take.1 (List.takeWhile_prefix _)).symm
theorem drop_atP (l : List HPt) (x : HPt) : l.drop (atP l x) = l.dropWhile (fun y => decide (ltP y x)) := by
  have h := List.takeWhile_append_dropWhile (p := fun y => decide (ltP y x)) (l := l)
  have h2 := List.take_append_drop (atP l x) l
  rw [take_atP] at h2
  have := h2.trans h.symm
  exact List.append_cancel_left this
theorem ins_mem (l : List HPt) (x y : HPt) : y ∈ insP l x ↔ y = x ∨ y ∈ l := by
  unfold insP
  split
  · rename_i h
    have := List.mem_of_getElem? h
    constructor
    · exact .inr
    · rintro (rfl | h)
      · exact this
      · exact h
  · have h2 : y ∈ l ↔ y ∈ l.take (atP l x) ++ l.drop (atP l x) := by rw [List.take_append_drop]
    rw [h2]
    simp only [List.mem_append, List.mem_cons]
    constructor
    · rintro (h | h | h)
      · exact .inr (.inl h)
      · exact .inl h
      · exact .inr (.inr h)
    · rintro (h | h | h)
      · exact .inr (.inl h)
      · exact .inl h
      · exact .inr (.inr h)
theorem ins_srt {l : List HPt} (h : Srt l) (x : HPt) : Srt (insP l x) := by
  unfold insP
  split
  · exact h
  · rename_i hne
    have hsplit : Srt (l.take (atP l x) ++ l.drop (atP l x)) := by rw [List.take_append_drop]; exact h
    have hs := List.pairwise_append.1 hsplit
    have ht : ∀ y ∈ l.take (atP l x), ltP y x := by
      rw [take_atP]
      intro y hy
      have := List.all_eq_true.1 (List.all_takeWhile (p := fun y => decide (ltP y x)) (l := l)) y hy
      simpa using this
    have hd : ∀ y ∈ l.drop (atP l x), ltP x y := by
      cases hdl : l.drop (atP l x) with
      | nil => simp
      | cons z r =>
        have hz : l[atP l x]? = some z := by
          have : (l.drop (atP l x))[0]? = some z := by rw [hdl]; rfl
          rwa [List.getElem?_drop, Nat.add_zero] at this
        have hzx : ltP x z := by
          have h1 : ¬ ltP z x := by
            have h2 := drop_atP l x
            rw [hdl] at h2
            have h3 := List.head?_dropWhile_not (p := fun y => decide (ltP y x)) (l := l)
            rw [← h2] at h3
            simpa using h3
          have h4 : ¬ z = x := fun e => hne (by rw [hz, e])
          exact ltP_total h1 h4
        intro y hy
        rcases List.mem_cons.1 hy with rfl | hy
        · exact hzx
        · have := hs.2.1
          rw [hdl] at this
          exact ltP_trans hzx ((List.pairwise_cons.1 this).1 y hy)
    refine List.pairwise_append.2 ⟨hs.1, List.pairwise_cons.2 ⟨hd, hs.2.1⟩, fun a ha b hb => ?_⟩
    rcases List.mem_cons.1 hb with rfl | hb
    · exact ht a ha
    · exact hs.2.2 a ha b hb
theorem sort_srt (l : List HPt) : Srt (sortP l) := by
  have key : ∀ (l acc : List HPt), Srt acc → Srt (l.foldl insP acc) := by
    intro l
    induction l with
    | nil => intro acc h; exact h
    | cons x l ih => intro acc h; exact ih _ (ins_srt h x)
  exact key l [] List.Pairwise.nil
theorem sort_mem (l : List HPt) (y : HPt) : y ∈ sortP l ↔ y ∈ l := by
  have key : ∀ (l acc : List HPt), y ∈ l.foldl insP acc ↔ y ∈ acc ∨ y ∈ l := by
    intro l
    induction l with
    | nil => intro acc; simp
    | cons x l ih =>
      intro acc
      rw [List.foldl_cons, ih, ins_mem, List.mem_cons]
      constructor
      · rintro ((h | h) | h)
        · exact .inr (.inl h)
        · exact .inl h
        · exact .inr (.inr h)
      · rintro (h | h | h)
        · exact .inl (.inr h)
        · exact .inl (.inl h)
        · exact .inr h
  have := key l []
  simpa [sortP] using this
/-- a strictly sorted list is what its members say -/
theorem srt_unique : ∀ {l m : List HPt}, Srt l → Srt m → (∀ y, y ∈ l ↔ y ∈ m) → l = m
  | [], [], _, _, _ => rfl
  | [], b :: m, _, _, h => by have := (h b).2 (by simp); simp at this
  | a :: l, [], _, _, h => by have := (h a).1 (by simp); simp at this
  | a :: l, b :: m, hl, hm, h => by
    obtain ⟨ha, hl'⟩ := List.pairwise_cons.1 hl
    obtain ⟨hb, hm'⟩ := List.pairwise_cons.1 hm
    have hab : a = b := by
      rcases List.mem_cons.1 ((h a).1 (by simp)) with h1 | h1
      · exact h1
      · rcases List.mem_cons.1 ((h b).2 (by simp)) with h2 | h2
        · exact h2.symm
        · exact absurd (ltP_trans (ha b h2) (hb a h1)) (ltP_irrefl a)
    subst hab
    have : l = m := srt_unique hl' hm' (fun y => by
      constructor
      · intro hy
        rcases List.mem_cons.1 ((h y).1 (by simp [hy])) with h1 | h1
        · subst h1; exact absurd (ha y hy) (ltP_irrefl y)
        · exact h1
      · intro hy
        rcases List.mem_cons.1 ((h y).2 (by simp [hy])) with h1 | h1
        · subst h1; exact absurd (hb y hy) (ltP_irrefl y)
        · exact h1)
    rw [this]

/-! ### without doubles -/
def compactP : List HPt → List HPt
  | a :: b :: l => if a = b then compactP (b :: l) else a :: compactP (b :: l)
  | l => l
def SrtLe (l : List HPt) : Prop := l.Pairwise (fun a b => ¬ ltP b a)
theorem compact_head : ∀ (b : HPt) (l : List HPt), ∃ r, compactP (b :: l) = b :: r
  | b, [] => ⟨[], rfl⟩
  | b, c :: l => by
    unfold compactP
    by_cases h : b = c
    · subst h
      rw [if_pos rfl]
      exact compact_head b l
    · rw [if_neg h]
      exact ⟨_, rfl⟩
theorem compact_mem : ∀ (l : List HPt) (y : HPt), y ∈ compactP l ↔ y ∈ l
  | [], _ => Iff.rfl
  | [_], _ => Iff.rfl
  | a :: b :: l, y => by
    unfold compactP
    by_cases h : a = b
    · subst h
      rw [if_pos rfl, compact_mem (a :: l) y]
      simp
    · rw [if_neg h, List.mem_cons, compact_mem (b :: l) y, List.mem_cons (l := b :: l)]
theorem compact_srt : ∀ {l : List HPt}, SrtLe l → Srt (compactP l)
  | [], _ => List.Pairwise.nil
  | [_], _ => List.pairwise_singleton _ _
  | a :: b :: l, h => by
    obtain ⟨ha, hl⟩ := List.pairwise_cons.1 h
    have ih := compact_srt (l := b :: l) hl
    unfold compactP
    by_cases hab : a = b
    · rw [if_pos hab]; exact ih
    · rw [if_neg hab]
      refine List.pairwise_cons.2 ⟨fun y hy => ?_, ih⟩
      rw [compact_mem] at hy
      have h1 : ltP a b := ltP_total (ha b (by simp)) (fun e => hab e.symm)
      rcases List.mem_cons.1 hy with rfl | hy
      · exact h1
      · have h2 := (List.pairwise_cons.1 hl).1 y hy
        by_cases e : b = y
        · subst e; exact h1
        · exact ltP_trans h1 (ltP_total h2 (fun e2 => e e2.symm))
/-- sorted and without doubles: the list of the definition -/
theorem compact_sort {l d : List HPt} (hs : SrtLe d) (hp : ∀ y, y ∈ d ↔ y ∈ l) : compactP d = sortP l :=
  srt_unique (compact_srt hs) (sort_srt l) (fun y => by rw [compact_mem, sort_mem, hp])
end Go.Proofs.YtcbjecpfijogcaaGreat
/- Contracts: the order of points, and how they turn, also beyond a plane's limit. -/
namespace Go.Proofs.YtcbjecpfijogcaaGreat
open Go.RowKit Go.Shelf

/-- coordinates for which the cross product is right -/
def wideB (p : HPt) : Prop := (-536870912 ≤ p.1 ∧ p.1 ≤ 536870912) ∧ (-536870912 ≤ p.2 ∧ p.2 ≤ 536870912)
theorem cross_wide {a b c : HPt} (ha : wideB a) (hb : wideB b) (hc : wideB c) :
    IntKind.i64.wrap (b.1 - a.1) = b.1 - a.1 ∧ IntKind.i64.wrap (c.2 - a.2) = c.2 - a.2 ∧ IntKind.i64.wrap (b.2 - a.2) = b.2 - a.2 ∧ IntKind.i64.wrap (c.1 - a.1) = c.1 - a.1 ∧
    IntKind.i64.wrap ((b.1 - a.1) * (c.2 - a.2)) = (b.1 - a.1) * (c.2 - a.2) ∧ IntKind.i64.wrap ((b.2 - a.2) * (c.1 - a.1)) = (b.2 - a.2) * (c.1 - a.1) ∧
    IntKind.i64.wrap ((b.1 - a.1) * (c.2 - a.2) - (b.2 - a.2) * (c.1 - a.1)) = (b.1 - a.1) * (c.2 - a.2) - (b.2 - a.2) * (c.1 - a.1) := by
  have key : ∀ u v : Int, -1073741824 ≤ u → u ≤ 1073741824 → -1073741824 ≤ v → v ≤ 1073741824 → -1152921504606846976 ≤ u * v ∧ u * v ≤ 1152921504606846976 := by
    intro u v h1 h2 h3 h4
    have a1 : (1073741824 - u) * (1073741824 + v) ≥ 0 := Int.mul_nonneg (by omega) (by omega)
    have a2 : (1073741824 + u) * (1073741824 - v) ≥ 0 := Int.mul_nonneg (by omega) (by omega)
    have a3 : (1073741824 - u) * (1073741824 - v) ≥ 0 := Int.mul_nonneg (by omega) (by omega)
    have a4 : (1073741824 + u) * (1073741824 + v) ≥ 0 := Int.mul_nonneg (by omega) (by omega)
    simp only [Int.sub_mul, Int.add_mul, Int.mul_sub, Int.mul_add] at a1 a2 a3 a4
    omega
  unfold wideB at *
  have k1 := key (b.1 - a.1) (c.2 - a.2) (by omega) (by omega) (by omega) (by omega)
  have k2 := key (b.2 - a.2) (c.1 - a.1) (by omega) (by omega) (by omega) (by omega)
  refine ⟨IntWalk.i64_in _ (by omega), IntWalk.i64_in _ (by omega), IntWalk.i64_in _ (by omega), IntWalk.i64_in _ (by omega), IntWalk.i64_in _ (by omega), IntWalk.i64_in _ (by omega), IntWalk.i64_in _ (by omega)⟩
set_option maxHeartbeats 800000 in
theorem crossW_c (a1 a2 b1 b2 c1 c2 : Int) (w : World) (ha : wideB (a1, a2)) (hb : wideB (b1, b2)) (hc : wideB (c1, c2)) :
    Calls Tryz.prog 73 #[.agg #[.int .i64 a1, .int .i64 a2], .agg #[.int .i64 b1, .int .i64 b2], .agg #[.int .i64 c1, .int .i64 c2]] w fun e w' => e = .returned (.int .i64 (crossP (a1, a2) (b1, b2) (c1, c2))) ∧ Ext w w' := by
  obtain ⟨e1, e2, e3, e4, e5, e6, e7⟩ := cross_wide ha hb hc
  simp only at e1 e2 e3 e4 e5 e6 e7
  unfold crossP
  clear ha hb hc
  go_enter Tryz.func73, Tryz.ntmps73
  go_wp2
  go_ret
  exact ⟨rfl, by (repeat' (first | exact Ext.refl _ | assumption | refine Ext.alloc ?_ _ | refine Ext.drew ?_ | refine Ext.drewN ?_ _ | refine Ext.set ?_ (by first | exact Nat.le_refl _ | exact le1 _ | exact le2 _ | exact le3 _ | exact le4 _ | exact le5 _ | exact le6 _) _ | refine Ext.trans ?_ (by assumption)))⟩
set_option maxHeartbeats 800000 in
theorem right_c (a1 a2 b1 b2 c1 c2 : Int) (w : World) (ha : wideB (a1, a2)) (hb : wideB (b1, b2)) (hc : wideB (c1, c2)) :
    Calls Tryz.prog 72 #[.agg #[.int .i64 a1, .int .i64 a2], .agg #[.int .i64 b1, .int .i64 b2], .agg #[.int .i64 c1, .int .i64 c2]] w fun e w' => e = .returned (.bool (decide (crossP (a1, a2) (b1, b2) (c1, c2) ≤ 0))) ∧ Ext w w' := by
  have C := Lib.hid (fun w => crossW_c a1 a2 b1 b2 c1 c2 w ha hb hc)
  generalize crossP (a1, a2) (b1, b2) (c1, c2) = X at *
  clear ha hb hc
  go_enter Tryz.func72, Tryz.ntmps72
  go_wp2_with (go_at_call 73; refine (C.out _).mono ?_; rintro e w1 ⟨rfl, hb1⟩)
  go_ret
  exact ⟨by simp, by (repeat' (first | exact Ext.refl _ | assumption | refine Ext.alloc ?_ _ | refine Ext.drew ?_ | refine Ext.drewN ?_ _ | refine Ext.set ?_ (by first | exact Nat.le_refl _ | exact le1 _ | exact le2 _ | exact le3 _ | exact le4 _ | exact le5 _ | exact le6 _) _ | refine Ext.trans ?_ (by assumption)))⟩
theorem before_iff (a b : HPt) : decide (ltP a b) = (decide (a.1 < b.1) || (decide (a.1 = b.1) && decide (a.2 < b.2))) := by
  rw [Bool.eq_iff_iff]
  simp only [decide_eq_true_eq, Bool.or_eq_true, Bool.and_eq_true]
  exact Iff.rfl
set_option maxHeartbeats 800000 in
theorem before_c (a1 a2 b1 b2 : Int) (w : World) :
    Calls Tryz.prog 78 #[.agg #[.int .i64 a1, .int .i64 a2], .agg #[.int .i64 b1, .int .i64 b2]] w fun e w' => e = .returned (.bool (decide (ltP (a1, a2) (b1, b2)))) ∧ Ext w w' := by
  rw [before_iff]
  simp only
  rcases (show a1 < b1 ∨ (¬ a1 < b1 ∧ ¬ a1 = b1) ∨ (¬ a1 < b1 ∧ a1 = b1 ∧ a2 < b2) ∨ (¬ a1 < b1 ∧ a1 = b1 ∧ ¬ a2 < b2) by omega) with h | ⟨h, h2⟩ | ⟨h, h2, h3⟩ | ⟨h, h2, h3⟩
  · go_enter Tryz.func78, Tryz.ntmps78
    go_wp2
    go_ret
    exact ⟨ret_bool (by simp [h]), by (repeat' (first | exact Ext.refl _ | assumption | refine Ext.alloc ?_ _ | refine Ext.drew ?_ | refine Ext.drewN ?_ _ | refine Ext.set ?_ (by first | exact Nat.le_refl _ | exact le1 _ | exact le2 _ | exact le3 _ | exact le4 _ | exact le5 _ | exact le6 _) _ | refine Ext.trans ?_ (by assumption)))⟩
  · go_enter Tryz.func78, Tryz.ntmps78
    go_wp2
    go_ret
    exact ⟨ret_bool (by simp [h]), by (repeat' (first | exact Ext.refl _ | assumption | refine Ext.alloc ?_ _ | refine Ext.drew ?_ | refine Ext.drewN ?_ _ | refine Ext.set ?_ (by first | exact Nat.le_refl _ | exact le1 _ | exact le2 _ | exact le3 _ | exact le4 _ | exact le5 _ | exact le6 _) _ | refine Ext.trans ?_ (by assumption)))⟩
  · subst h2
    go_enter Tryz.func78, Tryz.ntmps78
    go_wp2
    go_ret
    exact ⟨ret_bool (by simp), by (repeat' (first | exact Ext.refl _ | assumption | refine Ext.alloc ?_ _ | refine Ext.drew ?_ | refine Ext.drewN ?_ _ | refine Ext.set ?_ (by first | exact Nat.le_refl _ | exact le1 _ | exact le2 _ | exact le3 _ | exact le4 _ | exact le5 _ | exact le6 _) _ | refine Ext.trans ?_ (by assumption)))⟩
  · subst h2
    go_enter Tryz.func78, Tryz.ntmps78
    go_wp2
    go_ret
    exact ⟨ret_bool (by simp [h3]), by (repeat' (first | exact Ext.refl _ | assumption | refine Ext.alloc ?_ _ | refine Ext.drew ?_ | refine Ext.drewN ?_ _ | refine Ext.set ?_ (by first | exact Nat.le_refl _ | exact le1 _ | exact le2 _ | exact le3 _ | exact le4 _ | exact le5 _ | exact le6 _) _ | refine Ext.trans ?_ (by assumption)))⟩
def signP (x : Int) : Int := if 0 < x then 1 else if x < 0 then -1 else 0
set_option maxHeartbeats 800000 in
theorem SignW_c (a1 a2 b1 b2 c1 c2 : Int) (w : World) (ha : wideB (a1, a2)) (hb : wideB (b1, b2)) (hc : wideB (c1, c2)) :
    Calls Tryz.prog 79 #[.agg #[.int .i64 a1, .int .i64 a2], .agg #[.int .i64 b1, .int .i64 b2], .agg #[.int .i64 c1, .int .i64 c2]] w fun e w' => e = .returned (.int .i64 (signP (crossP (a1, a2) (b1, b2) (c1, c2)))) ∧ Ext w w' := by
  obtain ⟨e1, e2, e3, e4, e5, e6, e7⟩ := cross_wide ha hb hc
  simp only at e1 e2 e3 e4 e5 e6 e7
  unfold signP crossP
  simp only
  obtain ⟨X, hX⟩ : ∃ X, (b1 - a1) * (c2 - a2) - (b2 - a2) * (c1 - a1) = X := ⟨_, rfl⟩
  rw [hX] at e7 ⊢
  clear ha hb hc
  rcases (show 0 < X ∨ (¬ 0 < X ∧ X < 0) ∨ (¬ 0 < X ∧ ¬ X < 0) by omega) with h | ⟨h, h2⟩ | ⟨h, h2⟩
  · rw [if_pos h]
    go_enter Tryz.func79, Tryz.ntmps79
    go_wp2
    go_ret
    exact ⟨rfl, by (repeat' (first | exact Ext.refl _ | assumption | refine Ext.alloc ?_ _ | refine Ext.drew ?_ | refine Ext.drewN ?_ _ | refine Ext.set ?_ (by first | exact Nat.le_refl _ | exact le1 _ | exact le2 _ | exact le3 _ | exact le4 _ | exact le5 _ | exact le6 _) _ | refine Ext.trans ?_ (by assumption)))⟩
  · rw [if_neg h, if_pos h2]
    go_enter Tryz.func79, Tryz.ntmps79
    go_wp2
    go_ret
    exact ⟨rfl, by (repeat' (first | exact Ext.refl _ | assumption | refine Ext.alloc ?_ _ | refine Ext.drew ?_ | refine Ext.drewN ?_ _ | refine Ext.set ?_ (by first | exact Nat.le_refl _ | exact le1 _ | exact le2 _ | exact le3 _ | exact le4 _ | exact le5 _ | exact le6 _) _ | refine Ext.trans ?_ (by assumption)))⟩
  · rw [if_neg h, if_neg h2]
    go_enter Tryz.func79, Tryz.ntmps79
    go_wp2
    go_ret
    exact ⟨rfl, by (repeat' (first | exact Ext.refl _ | assumption | refine Ext.alloc ?_ _ | refine Ext.drew ?_ | refine Ext.drewN ?_ _ | refine Ext.set ?_ (by first | exact Nat.le_refl _ | exact le1 _ | exact le2 _ | exact le3 _ | exact le4 _ | exact le5 _ | exact le6 _) _ | refine Ext.trans ?_ (by assumption)))⟩
end Go.Proofs.YtcbjecpfijogcaaGreat
/- Contracts: how the program compares two points, and slices.SortFunc, Clone, Reverse at points. -/
namespace Go.Proofs.YtcbjecpfijogcaaGreat
open Go.RowKit Go.Shelf Go.Lib Go.Sort

/-- A point's two cells. -/
def encP (x : HPt) : List Value := [.int .i64 x.1, .int .i64 x.2]
/-- What compare says of two points. -/
def cmpP (a b : HPt) : Int := if a.1 = b.1 then Lib.compareInt a.2 b.2 else Lib.compareInt a.1 b.1
theorem lt_cmpP (a b : HPt) : ltOf cmpP a b = decide (ltP a b) := by
  unfold ltOf cmpP ltP Lib.compareInt
  rw [Bool.eq_iff_iff]
  simp only [decide_eq_true_eq]
  by_cases h : a.1 = b.1
  · rw [if_pos h]
    by_cases h2 : a.2 < b.2
    · simp [h2, h]
    · by_cases h3 : b.2 < a.2 <;> simp [h2, h3, h]
  · rw [if_neg h]
    by_cases h2 : a.1 < b.1
    · simp [h2]
    · by_cases h3 : b.1 < a.1 <;> simp [h2, h3, h]
theorem swo_cmpP : SWO (ltOf cmpP) where
  irrefl x := by rw [lt_cmpP]; simp [ltP_irrefl]
  trans x y z h1 h2 := by rw [lt_cmpP] at *; simp only [decide_eq_true_eq] at *; exact ltP_trans h1 h2
  ntrans x y z h1 h2 := by rw [lt_cmpP] at *; simp only [decide_eq_false_iff_not] at *; unfold ltP at *; omega
theorem tot_cmpP (x y : HPt) (h1 : ltOf cmpP x y = false) (h2 : ltOf cmpP y x = false) : x = y := by
  rw [lt_cmpP] at *
  simp only [decide_eq_false_iff_not] at *
  by_cases h : x = y
  · exact h
  · exact absurd (ltP_total h1 h) h2

set_option maxHeartbeats 1000000 in
theorem compare_c (x y : HPt) (W : World) : Calls Tryz.prog 70 #[.agg #[.int .i64 x.1, .int .i64 x.2], .agg #[.int .i64 y.1, .int .i64 y.2]] W fun e w' => e = .returned (.int .i64 (cmpP x y)) ∧ ∃ q os', w' = grow (W.drewN q) os' := by
  have c1 := fun W' => AnyG.cmp_Compare_int Tryz.lCmp x.1 y.1 W'
  have c2 := fun W' => AnyG.cmp_Compare_int Tryz.lCmp x.2 y.2 W'
  change ∀ W', Calls Tryz.prog 93 _ _ _ at c1
  change ∀ W', Calls Tryz.prog 93 _ _ _ at c2
  unfold cmpP
  generalize Lib.compareInt x.1 y.1 = r1 at c1 ⊢
  generalize Lib.compareInt x.2 y.2 = r2 at c2 ⊢
  by_cases h : x.1 = y.1
  · rw [if_pos h]
    clear c1
    go_enter Tryz.func70, Tryz.ntmps70
    go_wp2_with (go_at_call 93; refine (c2 _).mono ?_; rintro e w' ⟨rfl, rfl⟩)
    go_ret
    exact ⟨rfl, 0, _, by rw [alloc_eq_grow, alloc_eq_grow, grow_grow]; rfl⟩
  · rw [if_neg h]
    clear c2
    go_enter Tryz.func70, Tryz.ntmps70
    go_wp2_with (go_at_call 93; refine (c1 _).mono ?_; rintro e w' ⟨rfl, rfl⟩)
    go_ret
    exact ⟨rfl, 0, _, by rw [alloc_eq_grow, alloc_eq_grow, grow_grow]; rfl⟩

theorem cmpLays_c (blk off size : Nat) (w : World) : CmpLays Tryz.prog 70 #[] encP 2 cmpP blk off size w :=
  fun _ _ _ _ x y => compare_c x y _

/-- the points in order, doubles too -/
def srtD (l : List HPt) : List HPt := l.mergeSort fun x y => !(ltOf cmpP) y x
theorem srtD_mem (l : List HPt) (y : HPt) : y ∈ srtD l ↔ y ∈ l := List.mem_mergeSort
theorem srtD_len (l : List HPt) : (srtD l).length = l.length := List.length_mergeSort l
theorem srtD_srt (l : List HPt) : SrtLe (srtD l) := by
  have h := List.pairwise_mergeSort (le := fun x y => !(ltOf cmpP) y x) (by
    intro a b c h1 h2
    simp only [Bool.not_eq_true'] at *
    exact swo_cmpP.ntrans c b a h2 h1) (by
    intro a b
    simp only [lt_cmpP, Bool.or_eq_true, Bool.not_eq_true', decide_eq_false_iff_not]
    unfold ltP
    omega) l
  refine h.imp ?_
  intro a b h
  simpa [lt_cmpP] using h
/-- sorted by the library, then without doubles: the list of the definition -/
theorem compact_srtD (l : List HPt) : compactP (srtD l) = sortP l := compact_sort (srtD_srt l) (srtD_mem l)

theorem encP_len (x : HPt) : (encP x).length = 2 := rfl
theorem encP_one (x : HPt) : ∀ v ∈ encP x, v.oneCell' = true := by
  intro v hv
  simp [encP] at hv
  rcases hv with rfl | rfl <;> rfl
theorem compare_enters : ∀ args w, (callFunc 70 args).run Tryz.prog w = .ok (.enter 70 args) w := enters_of Tryz.func70 (by kernel_rfl) rfl
theorem sort_c (blk off cap : Nat) (l : List HPt) (w : World) (hH : HoldsK encP 2 w blk off l.toArray) (hblk : blk < w.heap.size) (hsz : l.length < 4611686018427387904) :
    Calls Tryz.prog 69 #[.slice (some ⟨blk, off, none⟩) l.length cap, .func (.func 70) #[] #[]] w fun e w' => e = .returned (.tuple #[]) ∧ ∃ n os, w' = sortWorldK encP 2 w blk off n (srtD l).toArray os := by
  have h := AnyQ.slices_SortFunc_total Tryz.lSort 2 Tryz.isAgg26 Tryz.sizeOf26 encP encP_len encP_one cmpP swo_cmpP 70 #[] blk off cap l.toArray w compare_enters (cmpLays_c blk off l.toArray.size w) hH hblk (by simpa using hsz) tot_cmpP
  exact h
theorem sort_none_c (p : Option Addr) (cap : Nat) (fv : Value) (w : World) :
    Calls Tryz.prog 69 #[.slice p 0 cap, fv] w fun e w' => e = .returned (.tuple #[]) ∧ w' = w := AnyF.slices_SortFunc_none Tryz.lSort p cap fv w
theorem rev_c (blk off cap : Nat) (l : List HPt) (w : World) (hH : HoldsK encP 2 w blk off l.toArray) (hsz : l.length ≤ 9223372036854775807) :
    Calls Tryz.prog 76 #[.slice (some ⟨blk, off, none⟩) l.length cap] w fun e w' => e = .returned (.tuple #[]) ∧ ∃ n, w' = putRowK encP 2 (Sort.ahead w n) blk off l.reverse.toArray := by
  have h := AnyQ.slices_Reverse Tryz.lRev 2 Tryz.isAgg26 Tryz.sizeOf26 encP encP_len encP_one blk off cap l.toArray w hH (by simpa using hsz)
  simp only [List.size_toArray, List.reverse_toArray] at h
  exact h
theorem clone_none_c (n c : Nat) (w : World) :
    Calls Tryz.prog 68 #[.slice none n c] w fun e w' => e = .returned (.slice none 0 0) ∧ w' = w := AnyE.slices_Clone_nil Tryz.lClone n c w
end Go.Proofs.YtcbjecpfijogcaaGreat
/- slices.Compact at points: its two loops, walked. -/
namespace Go.Proofs.YtcbjecpfijogcaaGreat
open Go.RowKit Go.Shelf Go.Lib Go.Sort

theorem set_flatP (dk : Array HPt) (i : Nat) (hi : i < dk.size) (x : HPt) : setMany (flatK encP 2 dk) (i * 2) (encP x) = flatK encP 2 (dk.setIfInBounds i x) := by
  apply Array.ext
  · simp
  · intro t h1 h2
    have h3 : t < (flatK encP 2 dk).size := by simpa using h1
    have h4 : t < dk.size * 2 := by simpa using h3
    rw [← getElem!_pos _ t h1, ← getElem!_pos _ t h2, get_setMany _ _ _ t h3, get_flatK _ _ _ _ h4, get_flatK _ _ _ _ (by simpa using h4), encP_len]
    by_cases e : t / 2 = i
    · rw [if_pos (by omega), e, getElem!_set_same _ _ _ hi, show t - i * 2 = t % 2 by omega]
    · rw [if_neg (by omega), getElem!_set_other _ _ _ _ e]
theorem store_world_p {w wr : World} {n blk off : Nat} {dk : Array HPt} {i : Nat} (hi : i < dk.size) (hwr : wr = putRowK encP 2 (Sort.ahead w n) blk off dk) (x y : Int) :
    ((wr.setCell ⟨blk, off + i * 2, none⟩ (.int .i64 x)).setCell ⟨blk, off + i * 2 + 1, none⟩ (.int .i64 y)).drew = putRowK encP 2 (Sort.ahead w (n + 1)) blk off (dk.setIfInBounds i (x, y)) := by
  subst hwr
  have h := setCells_putRow (Sort.ahead w n) blk off (encP (x, y)) (i * 2) (flatK encP 2 dk) (by rw [encP_len, size_flatK]; omega)
  rw [set_flatP dk i hi] at h
  unfold putRowK
  have h2 : ((putRow id (Sort.ahead w n) blk off (flatK encP 2 dk)).setCell ⟨blk, off + i * 2, none⟩ (.int .i64 x)).setCell ⟨blk, off + i * 2 + 1, none⟩ (.int .i64 y) = putRow id (Sort.ahead w n) blk off (flatK encP 2 (dk.setIfInBounds i (x, y))) := h
  rw [h2, ← ahead_drew]
  rfl
def zeroP (n : Nat) : List Value := (Builtin.zeroCells (Value.agg #[.int .i64 0, .int .i64 0]).cells n).toList
theorem zeroP_len (n : Nat) : (zeroP n).length = n * 2 := by simp [zeroP, Builtin.zeroCells, Value.cells]
theorem run_clear_points (w : World) (ty : TypeId) (b o n c : Nat) (hn : 0 < n)
    (hc : ∀ j, j < n * 2 → (w.cell? ⟨b, o + j, none⟩).isSome = true) (hf : ∀ j, j < n * 2 → w.frozen? ⟨b, o + j, none⟩ = false) :
    (Builtin.clear_ #[27] ty #[.slice (some ⟨b, o, none⟩) n c]).run Tryz.prog w = .ok (.tuple #[]) (w.setCells b o (zeroP n)) := by
  unfold zeroP
  have hl : (Builtin.zeroCells (Value.agg #[.int .i64 0, .int .i64 0]).cells n).toList.length = n * 2 := by simp [Builtin.zeroCells, Value.cells]
  have h1 : ∀ v ∈ (Builtin.zeroCells (Value.agg #[.int .i64 0, .int .i64 0]).cells n).toList, v.oneCell' = true := by
    intro v hv
    simp only [Builtin.zeroCells, Value.cells, Array.toList_map, List.mem_map] at hv
    obtain ⟨i, _, rfl⟩ := hv
    have : i % 2 = 0 ∨ i % 2 = 1 := by omega
    rcases this with h | h <;> simp [h, Value.oneCell']
  have hst := run_storeCells_cells (P := Tryz.prog) b o (Builtin.zeroCells (Value.agg #[.int .i64 0, .int .i64 0]).cells n).toList 0 w (by rw [hl]; simpa using hc) (by rw [hl]; simpa using hf) h1
  simp only [Nat.add_zero] at hst
  obtain ⟨m, rfl⟩ : ∃ m, n = m + 1 := ⟨n - 1, by omega⟩
  simp [Builtin.clear_, run_underlying Tryz.underlying27, Tryz.zeroValue26, hst]

def CEnd (w w' : World) (blk off : Nat) (d : Array HPt) : Prop :=
  ∃ (q : Nat) (F : Array Value), F.size = d.size * 2 ∧ w' = putRow id (Sort.ahead w q) blk off F ∧ HoldsK encP 2 w' blk off (compactUpTo d d.size).toArray

theorem eqlP_c (x1 x2 y1 y2 : Int) (w : World) : (binOp .eql 26 (.agg #[.int .i64 x1, .int .i64 x2]) (.agg #[.int .i64 y1, .int .i64 y2])).run Tryz.prog w = .ok (.bool (decide (((x1, x2) : HPt) = (y1, y2)))) w := by
  have u2 := Tryz.underlying2
  have a2 := Tryz.isAgg2
  have z2 := Tryz.sizeOf2
  have hS : Tryz.prog.underlying 26 = some (.struct (Tryz.prog.fieldsOf 26)) := by kernel_rfl
  have hp : Tryz.prog.stoodInHeld 26 = false := by kernel_rfl
  rw [run_eql_struct, show (10000 : Nat) = 9999 + 1 from rfl, run_equalIn_agg w 9999 26 _ _ hS hp]
  simp only [Program.fieldsOf, Tryz.underlying26]
  go_simp
  by_cases h1 : x1 = y1 <;> by_cases h2 : x2 = y2 <;> simp [h1, h2]
theorem neqP_c (x1 x2 y1 y2 : Int) (w : World) : (binOp .neq 26 (.agg #[.int .i64 x1, .int .i64 x2]) (.agg #[.int .i64 y1, .int .i64 y2])).run Tryz.prog w = .ok (.bool (!decide (((x1, x2) : HPt) = (y1, y2)))) w := by
  have u2 := Tryz.underlying2
  have a2 := Tryz.isAgg2
  have z2 := Tryz.sizeOf2
  have hS : Tryz.prog.underlying 26 = some (.struct (Tryz.prog.fieldsOf 26)) := by kernel_rfl
  have hp : Tryz.prog.stoodInHeld 26 = false := by kernel_rfl
  rw [run_neq_struct, show (10000 : Nat) = 9999 + 1 from rfl, run_equalIn_agg w 9999 26 _ _ hS hp]
  simp only [Program.fieldsOf, Tryz.underlying26]
  go_simp
  by_cases h1 : x1 = y1 <;> by_cases h2 : x2 = y2 <;> simp [h1, h2]

theorem cellsP {w : World} {blk off : Nat} {d : Array HPt} (h : HoldsK encP 2 w blk off d) {i : Nat} (hi : i < d.size) :
    (w.cell? ⟨blk, off + i * 2, none⟩ = some (.int .i64 (d[i]!).1) ∧ w.frozen? ⟨blk, off + i * 2, none⟩ = false) ∧ w.cell? ⟨blk, off + i * 2 + 1, none⟩ = some (.int .i64 (d[i]!).2) ∧ w.frozen? ⟨blk, off + i * 2 + 1, none⟩ = false :=
  ⟨HoldsK.cell h hi (c := 0) (by omega), HoldsK.cell h hi (c := 1) (by omega)⟩

theorem comp_end {w wr : World} {blk off cap q2 k kk : Nat} {d dk : Array HPt} (W2 : wr = putRowK encP 2 (Sort.ahead w q2) blk off dk) (HH : HoldsK encP 2 w blk off d) (I2 : CompInv d k kk dk) (hend : k = d.size) (hlt : kk < d.size) :
    Ending.returned (.slice (some ⟨blk, off, none⟩) kk cap) = .returned (.slice (some ⟨blk, off, none⟩) (compactUpTo d d.size).length cap) ∧ CEnd w (wr.setCells blk (off + kk * 2) (zeroP (d.size - kk))) blk off d := by
  subst hend
  have hlen := I2.len
  have hds := I2.size
  refine ⟨by rw [hlen], q2, setMany (flatK encP 2 dk) (kk * 2) (zeroP (d.size - kk)), by rw [size_setMany, size_flatK, hds], ?_, ?_⟩
  · rw [W2]
    exact setCells_putRow (Sort.ahead w q2) blk off (zeroP (d.size - kk)) (kk * 2) (flatK encP 2 dk) (by rw [zeroP_len, size_flatK]; omega)
  · have e : wr.setCells blk (off + kk * 2) (zeroP (d.size - kk)) = putRow id (Sort.ahead w q2) blk off (setMany (flatK encP 2 dk) (kk * 2) (zeroP (d.size - kk))) := by
      rw [W2]
      exact setCells_putRow (Sort.ahead w q2) blk off (zeroP (d.size - kk)) (kk * 2) (flatK encP 2 dk) (by rw [zeroP_len, size_flatK]; omega)
    rw [e]
    have hh := holds_putRow id (Sort.ahead w q2) blk off (flatK encP 2 d) (setMany (flatK encP 2 dk) (kk * 2) (zeroP (d.size - kk))) HH (by simp [hds])
    intro t ht
    rw [size_flatK, List.size_toArray, hlen] at ht
    have h1 := hh t (by rw [size_setMany, size_flatK]; omega)
    rw [get_setMany _ _ _ _ (by rw [size_flatK]; omega), if_neg (by omega), get_flatK _ _ _ _ (by omega)] at h1
    rw [get_flatK _ _ _ _ (by rw [List.size_toArray, hlen]; exact ht)]
    have h2 := I2.low (t / 2) (by omega)
    have h3 : (compactUpTo d d.size).toArray[t / 2]! = dk[t / 2]! := by
      rw [getElem!_def, List.getElem?_toArray, h2]
    rw [h3]
    exact h1

set_option maxHeartbeats 4000000 in
set_option maxRecDepth 1000000 in
theorem compact_c (blk off cap : Nat) (d : Array HPt) (w : World) (hH : HoldsK encP 2 w blk off d) (hsz : d.size ≤ 4611686018427387903) (hcap : d.size ≤ cap) :
    Calls Tryz.prog 71 #[.slice (some ⟨blk, off, none⟩) d.size cap] w fun e w' => e = .returned (.slice (some ⟨blk, off, none⟩) (compactUpTo d d.size).length cap) ∧ CEnd w w' blk off d := by
  have same : ∀ q, (∀ j, j < d.size → keeps d j = true) → (compactUpTo d d.size).length = d.size ∧ CEnd w (w.drewN q) blk off d := by
    intro q hall
    have e : compactUpTo d d.size = d.toList := by rw [compactUpTo_all d _ hall, range_map_get]
    refine ⟨by rw [e]; simp, q, flatK encP 2 d, by simp, ?_, ?_⟩
    · exact (putRowK_self encP 2 (Sort.ahead w q) blk off d hH).symm
    · rw [e]; exact hH
  have HS : Aside (∀ q, (∀ j, j < d.size → keeps d j = true) → (compactUpTo d d.size).length = d.size ∧ CEnd w (w.drewN q) blk off d) := same
  clear same
  have mixed : Tryz.prog.follows .mixedOrders = true := by kernel_rfl
  have heq' := eqlP_c
  have hne' := neqP_c
  by_cases h2 : d.size < 2
  · have HH : Aside (HoldsK encP 2 w blk off d) := hH
    clear hH
    go_enter Tryz.func71, Tryz.ntmps71
    go_wp2
    go_ret
    obtain ⟨e1, e2⟩ := HS.out 0 (fun j hj => keeps_lt_one d j (by omega))
    exact ⟨by rw [e1]; rfl, e2⟩
  · go_enter Tryz.func71, Tryz.ntmps71
    go_wp2
    go_loopg [3] d.size (fun g s3 wr => ∃ k q : Nat, 1 ≤ k ∧ k ≤ d.size ∧ d.size - k ≤ g ∧ s3 = .int .i64 k ∧ wr = w.drewN q ∧ ∀ j, j < k → keeps d j = true)
    case atStart => exact ⟨1, 0, Nat.le_refl _, by omega, by omega, rfl, rfl, keeps_lt_one d⟩
    case round =>
      obtain ⟨k, q, hk1, hk, hg, rfl, rfl, hall⟩ := hrel
      by_cases hlt : k < d.size
      · obtain ⟨⟨c1, f1⟩, c1', f1'⟩ := cellsP hH hlt
        obtain ⟨⟨c0, f0⟩, c0', f0'⟩ := cellsP (i := k - 1) hH (by omega)
        have A : Aside (∀ j, j < k → keeps d j = true) := hall
        have HH : Aside (HoldsK encP 2 w blk off d) := hH
        clear hall hH f1 f1' f0 f0'
        generalize hx : d[k]! = x at c1 c1'
        generalize hy : d[k - 1]! = y at c0 c0'
        obtain ⟨x1, x2⟩ := x
        obtain ⟨y1, y2⟩ := y
        simp only at c1 c1' c0 c0'
        have B : Aside (d[k]! = (x1, x2) ∧ d[k - 1]! = (y1, y2)) := ⟨hx, hy⟩
        clear hx hy
        by_cases hdup : ((x1, x2) : HPt) = (y1, y2)
        · obtain ⟨rfl, rfl⟩ := Prod.mk.inj hdup
          clear hdup
          go_wp2_with fail
          go_region_o
          go_wp2
          clear c0 c1 c0' c1'
          go_loopg [3, 5] d.size (fun g s3 s5 wr => ∃ (kk k2 q2 : Nat) (dk : Array HPt), s3 = .int .i64 kk ∧ s5 = .int .i64 k2 ∧ 1 ≤ k2 ∧ k + k2 ≤ d.size ∧ d.size - (k + k2) ≤ g ∧ wr = putRowK encP 2 (Sort.ahead w q2) blk off dk ∧ CompInv d (k + k2) kk dk)
          case atStart => exact ⟨k, 1, q + 1, d, rfl, rfl, Nat.le_refl _, by omega, by omega, (putRowK_self encP 2 (Sort.ahead w (q + 1)) blk off d (holdsK_ahead encP 2 w (q + 1) blk off d HH.out)).symm, CompInv.start A.out (keeps_neg (by omega) (by rw [B.out.1, B.out.2]))⟩
          case round =>
            obtain ⟨kk, k2, q2, dk, rfl, rfl, h1, hle, hg2, hwr, hI⟩ := hrel
            have hkk := hI.lt
            have hds := hI.size
            have hHk : HoldsK encP 2 wr blk off dk := by rw [hwr]; exact holdsK_putRowK encP 2 _ blk off d dk (holdsK_ahead encP 2 w q2 blk off d HH.out) hds
            have W2 : Aside (wr = putRowK encP 2 (Sort.ahead w q2) blk off dk) := hwr
            have I2 : Aside (CompInv d (k + k2) kk dk) := hI
            clear hwr
            by_cases hlt2 : k + k2 < d.size
            · obtain ⟨⟨cm, _⟩, cm', _⟩ := cellsP (i := k + k2) hHk (by omega)
              obtain ⟨⟨cp, _⟩, cp', _⟩ := cellsP (i := k + k2 - 1) hHk (by omega)
              obtain ⟨⟨ck, fk⟩, ck', fk'⟩ := cellsP (i := kk) hHk (by omega)
              rw [hI.high (k + k2) (by omega), show off + (k + k2) * 2 = off + k * 2 + k2 * 2 by omega] at cm cm'
              rw [hI.high (k + k2 - 1) (by omega), show off + (k + k2 - 1) * 2 = off + k * 2 + (k2 - 1) * 2 by omega] at cp cp'
              clear hHk hI
              generalize hu : d[k + k2]! = u at cm cm'
              generalize hv : d[k + k2 - 1]! = v at cp cp'
              generalize dk[kk]! = old at ck ck'
              obtain ⟨u1, u2⟩ := u
              obtain ⟨v1, v2⟩ := v
              simp only at cm cm' cp cp'
              have C : Aside (d[k + k2]! = (u1, u2) ∧ d[k + k2 - 1]! = (v1, v2)) := ⟨hu, hv⟩
              clear hu hv
              by_cases huv : ((u1, u2) : HPt) = (v1, v2)
              · obtain ⟨rfl, rfl⟩ := Prod.mk.inj huv
                clear huv
                go_wp2_with fail
                go_region_o
                go_wp2
                go_roundg (d.size - (k + (k2 + 1)))
                case measure => omega
                case rel => exact ⟨kk, k2 + 1, q2 + 1, dk, rfl, by go_num, by omega, by omega, Nat.le_refl _, by rw [W2.out]; rfl, I2.out.skip (keeps_neg (by omega) (by rw [C.out.1, C.out.2]))⟩
              · go_wp2_with fail
                go_region_o
                go_wp2
                go_roundg (d.size - (k + (k2 + 1)))
                case measure => omega
                case rel => exact ⟨kk + 1, k2 + 1, q2 + 1, dk.setIfInBounds kk (u1, u2), by go_num, by go_num, by omega, by omega, Nat.le_refl _, store_world_p (by omega) W2.out u1 u2, by have := I2.out.keep hlt2 (keeps_pos (by rw [C.out.1, C.out.2]; exact huv)); rwa [C.out.1] at this⟩
            · have hend : k + k2 = d.size := by omega
              have hcc : ∀ j, j < (d.size - kk) * 2 → wr.cell? ⟨blk, off + kk * 2 + j, none⟩ ≠ none ∧ wr.frozen? ⟨blk, off + kk * 2 + j, none⟩ = false := by
                intro j hj
                have := hHk (kk * 2 + j) (by rw [size_flatK]; omega)
                rw [show off + kk * 2 + j = off + (kk * 2 + j) by omega, this.1]
                exact ⟨by simp, this.2⟩
              have hcl := fun ty => run_clear_points wr ty blk (off + kk * 2) (d.size - kk) (cap - kk) (by omega) (fun j hj => by have := (hcc j hj).1; exact Option.isSome_iff_ne_none.2 this) (fun j hj => (hcc j hj).2)
              clear hHk hI hcc
              go_wp2
              go_ret
              exact comp_end W2.out HH.out I2.out hend (by omega)
        · go_wp2_with fail
          go_region_o
          go_wp2
          go_roundg (d.size - (k + 1))
          case measure => omega
          case rel =>
            refine ⟨k + 1, q + 1, by omega, by omega, Nat.le_refl _, by go_num, rfl, fun j hj => ?_⟩
            by_cases e : j = k
            · subst e
              exact keeps_pos (by rw [B.out.1, B.out.2]; exact hdup)
            · exact A.out j (by omega)
      · have : k = d.size := by omega
        subst this
        have HH : Aside (HoldsK encP 2 w blk off d) := hH
        clear hH
        go_wp2
        go_ret
        obtain ⟨e1, e2⟩ := HS.out q hall
        exact ⟨by rw [e1]; rfl, e2⟩
end Go.Proofs.YtcbjecpfijogcaaGreat
/- What Compact leaves, in plain words. -/
namespace Go.Proofs.YtcbjecpfijogcaaGreat
open Go.RowKit Go.Shelf Go.Lib Go.Sort

theorem compactP_snoc : ∀ (l : List HPt) (x : HPt), compactP (l ++ [x]) = compactP l ++ (if l.getLast? = some x then [] else [x])
  | [], x => by simp [compactP]
  | [a], x => by
    by_cases h : a = x
    · subst h; simp [compactP]
    · simp [compactP, h]
  | a :: b :: l, x => by
    have ih := compactP_snoc (b :: l) x
    simp only [List.cons_append] at ih ⊢
    unfold compactP
    rw [ih, List.getLast?_cons_cons]
    by_cases h : a = b
    · rw [if_pos h, if_pos h]
    · rw [if_neg h, if_neg h]; rfl
theorem compactUpTo_take (l : List HPt) : ∀ m, m ≤ l.length → compactUpTo l.toArray m = compactP (l.take m)
  | 0, _ => by simp [compactUpTo, compactP]
  | m + 1, h => by
    have ih := compactUpTo_take l m (by omega)
    have hm : l[m]? = some l[m] := List.getElem?_eq_getElem (by omega)
    have hg : l.toArray[m]! = l[m] := by rw [getElem!_def, List.getElem?_toArray, hm]
    rw [compactUpTo_succ, ih, List.take_add_one, hm, Option.toList_some, compactP_snoc, hg]
    congr 1
    rcases Nat.eq_zero_or_pos m with h0 | h0
    · subst h0
      rw [keeps_lt_one _ 0 (by omega)]
      simp
    · have hm1 : l[m - 1]? = some l[m - 1] := List.getElem?_eq_getElem (by omega)
      have hg1 : l.toArray[m - 1]! = l[m - 1] := by rw [getElem!_def, List.getElem?_toArray, hm1]
      have hl : (l.take m).getLast? = some l[m - 1] := by
        rw [List.getLast?_eq_getElem?, List.length_take, Nat.min_eq_left (by omega), List.getElem?_take_of_lt (by omega), hm1]
      rw [hl]
      by_cases e : l[m] = l[m - 1]
      · rw [keeps_neg h0 (by rw [hg, hg1, e]), if_neg (by simp), if_pos (by rw [e])]
      · rw [keeps_pos (by rw [hg, hg1]; exact e), if_pos rfl, if_neg (by intro h2; exact e (Option.some.inj h2).symm)]
theorem compactUpTo_eq (l : List HPt) : compactUpTo l.toArray l.length = compactP l := by
  rw [compactUpTo_take l l.length (Nat.le_refl _), List.take_length]
theorem compact_sorted (l : List HPt) : compactUpTo (srtD l).toArray (srtD l).toArray.size = sortP l := by
  rw [List.size_toArray, compactUpTo_eq, compact_srtD]
end Go.Proofs.YtcbjecpfijogcaaGreat
