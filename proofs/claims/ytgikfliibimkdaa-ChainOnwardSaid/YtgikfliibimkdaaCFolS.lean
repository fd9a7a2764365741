/- What Follow answers, plainly; poses and steering in memory. -/
import Derived.Test.YtgikfliibimkdaaCStepS
import Derived.Test.YtgikfliibimkdaaPlaneB
namespace Go.Proofs.Ytgikfliibimkdaa
open Go.RowKit Go.Shelf

abbrev CPos := Pt × List Pt
/-- how a pose lies in memory, its points in a block from b on -/
def RPose (b : Nat) (w : World) (cs : List Value) (q : CPos) : Prop := ∃ v, cs = [.int .i64 q.1.1, .int .i64 q.1.2, v] ∧ Pts w v q.2 ∧ ∀ g, v.ownBlock = some g → b ≤ g
theorem RPose.stable {b : Nat} : Stable (RPose b) := fun _ _ _ _ he ⟨v, hcs, h, hb⟩ => ⟨v, hcs, h.ext he, hb⟩
def RNums (w : World) (cs : List Value) (l : List Int) : Prop := ∃ v, cs = [v] ∧ Sl 1 RNum w v l
theorem RNums.stable : Stable RNums := fun _ _ _ _ he ⟨v, hcs, h⟩ => ⟨v, hcs, h.ext RNum.stable he⟩

/-- what a step makes of a pose -/
def stepP (v : CVeh) (p : CPos) (q : Pt) (st : List Int) : CPos := ((stepS v p.1 p.2 q st).1, (stepS v p.1 p.2 q st).2.1)
def stepE (v : CVeh) (p : CPos) (q : Pt) (st : List Int) : Int := (stepS v p.1 p.2 q st).2.2
/-- the pose and the poses so far, behind k steps; or the error that stopped it -/
def folK (v : CVeh) (old : CPos) (f : Nat → Pt) (g : Nat → List Int) : Nat → Sum (CPos × List CPos) Int
  | 0 => .inl (old, [])
  | k + 1 => match folK v old f g k with
    | .inl s => if stepE v s.1 (f k) (g k) = 0 then .inl (stepP v s.1 (f k) (g k), s.2 ++ [stepP v s.1 (f k) (g k)]) else .inr (stepE v s.1 (f k) (g k))
    | .inr e => .inr e
section
variable {v : CVeh} {old : CPos} {f : Nat → Pt} {g : Nat → List Int}
theorem folK_ok {k : Nat} {s : CPos × List CPos} (h : folK v old f g k = .inl s) (he : stepE v s.1 (f k) (g k) = 0) : folK v old f g (k + 1) = .inl (stepP v s.1 (f k) (g k), s.2 ++ [stepP v s.1 (f k) (g k)]) := by
  simp only [folK, h]; rw [if_pos he]
theorem folK_bad {k : Nat} {s : CPos × List CPos} (h : folK v old f g k = .inl s) (he : ¬ stepE v s.1 (f k) (g k) = 0) : folK v old f g (k + 1) = .inr (stepE v s.1 (f k) (g k)) := by
  simp only [folK, h]; rw [if_neg he]
theorem folK_err {k : Nat} {e : Int} (h : folK v old f g k = .inr e) : ∀ j, folK v old f g (k + j) = .inr e
  | 0 => h
  | j + 1 => by
    show folK v old f g (k + j + 1) = .inr e
    simp only [folK, folK_err h j]
theorem folK_stop {k n : Nat} {s : CPos × List CPos} (h : folK v old f g k = .inl s) (he : ¬ stepE v s.1 (f k) (g k) = 0) (hk : k < n) : folK v old f g n = .inr (stepE v s.1 (f k) (g k)) := by
  have := folK_err (folK_bad h he) (n - (k + 1))
  rwa [show k + 1 + (n - (k + 1)) = n by omega] at this
theorem folK_len : ∀ {k : Nat} {s : CPos × List CPos}, folK v old f g k = .inl s → s.2.length = k
  | 0, s, h => by
    simp only [folK, Sum.inl.injEq] at h
    subst h
    rfl
  | k + 1, s, h => by
    cases hk : folK v old f g k with
    | inr e => simp only [folK, hk] at h; cases h
    | inl t =>
      by_cases he : stepE v t.1 (f k) (g k) = 0
      · rw [folK_ok hk he, Sum.inl.injEq] at h
        subst h
        simp [folK_len hk]
      · rw [folK_bad hk he] at h; cases h
/-- it hangs on the leads and the steering of its rounds alone -/
theorem folK_congr {f' : Nat → Pt} {g' : Nat → List Int} : ∀ (k : Nat), (∀ i, i < k → f i = f' i ∧ g i = g' i) → folK v old f g k = folK v old f' g' k
  | 0, _ => rfl
  | k + 1, h => by
    have ih := folK_congr k (fun i hi => h i (by omega))
    obtain ⟨h1, h2⟩ := h k (by omega)
    simp only [folK, ih, h1, h2]
end
def folR : Sum (CPos × List CPos) Int → List CPos × Int
  | .inl s => (s.2, 0)
  | .inr e => ([], e)
/-- how many steps -/
def stepsI (n s d : Int) : Int := (n - s + d - 1) / d + 1
/-- the lead of a step; its steering -/
def leadF (guide : List Pt) (s d n : Int) (k : Nat) : Pt := (atS guide (min (s + (k : Int) * d) n)).1
def steerF (m : Nat) (steer : List (List Int)) (k : Nat) : List Int := if steer = [] then List.replicate m 0 else steer.getD k []
/-- what Follow answers -/
def followS (v : CVeh) (old : CPos) (guide : List Pt) (s d : Int) (steer : List (List Int)) : List CPos × Int :=
  if poseE v old.1 old.2 = 0 then
    (if (lenS guide).2 = 0 then
      (if inB d 1 16777216 = true ∧ inB s 0 (lenS guide).1 = true then
        (if 2000 < stepsI (lenS guide).1 s d then ([], 6)
        else if steer ≠ [] ∧ (steer.length : Int) ≠ stepsI (lenS guide).1 s d then ([], 17)
        else folR (folK v old (leadF guide s d (lenS guide).1) (steerF v.units.length steer) (stepsI (lenS guide).1 s d).toNat))
      else ([], 3))
    else ([], (lenS guide).2))
  else ([], poseE v old.1 old.2)
section
variable {v : CVeh} {old : CPos} {guide : List Pt} {s d : Int} {steer : List (List Int)}
theorem followS_pose (h : ¬ poseE v old.1 old.2 = 0) : followS v old guide s d steer = ([], poseE v old.1 old.2) := by unfold followS; rw [if_neg h]
theorem followS_len (h : poseE v old.1 old.2 = 0) (h2 : ¬ (lenS guide).2 = 0) : followS v old guide s d steer = ([], (lenS guide).2) := by unfold followS; rw [if_pos h, if_neg h2]
theorem followS_range (h : poseE v old.1 old.2 = 0) (h2 : (lenS guide).2 = 0) (h3 : inB d 1 16777216 = false ∨ inB s 0 (lenS guide).1 = false) : followS v old guide s d steer = ([], 3) := by
  unfold followS; rw [if_pos h, if_pos h2, if_neg (by rcases h3 with h3 | h3 <;> simp [h3])]
theorem followS_many (h : poseE v old.1 old.2 = 0) (h2 : (lenS guide).2 = 0) (h3 : inB d 1 16777216 = true) (h4 : inB s 0 (lenS guide).1 = true) (h5 : 2000 < stepsI (lenS guide).1 s d) : followS v old guide s d steer = ([], 6) := by
  unfold followS; rw [if_pos h, if_pos h2, if_pos ⟨h3, h4⟩, if_pos h5]
theorem followS_equal (h : poseE v old.1 old.2 = 0) (h2 : (lenS guide).2 = 0) (h3 : inB d 1 16777216 = true) (h4 : inB s 0 (lenS guide).1 = true) (h5 : ¬ 2000 < stepsI (lenS guide).1 s d) (h6 : steer ≠ [] ∧ (steer.length : Int) ≠ stepsI (lenS guide).1 s d) : followS v old guide s d steer = ([], 17) := by
  unfold followS; rw [if_pos h, if_pos h2, if_pos ⟨h3, h4⟩, if_neg h5, if_pos h6]
theorem followS_go (h : poseE v old.1 old.2 = 0) (h2 : (lenS guide).2 = 0) (h3 : inB d 1 16777216 = true) (h4 : inB s 0 (lenS guide).1 = true) (h5 : ¬ 2000 < stepsI (lenS guide).1 s d) (h6 : ¬ (steer ≠ [] ∧ (steer.length : Int) ≠ stepsI (lenS guide).1 s d)) :
    followS v old guide s d steer = folR (folK v old (leadF guide s d (lenS guide).1) (steerF v.units.length steer) (stepsI (lenS guide).1 s d).toNat) := by
  unfold followS; rw [if_pos h, if_pos h2, if_pos ⟨h3, h4⟩, if_neg h5, if_neg h6]
theorem stepsI_bd {n s d : Int} (h1 : 1 ≤ d) (h3 : s ≤ n) : 1 ≤ stepsI n s d := by
  unfold stepsI
  have : 0 ≤ (n - s + d - 1) / d := Int.ediv_nonneg (by omega) (by omega)
  omega
theorem lead_arg {n s d : Int} (h1 : 1 ≤ d) (h2 : 0 ≤ s) (h3 : s ≤ n) (k : Nat) : inB (min (s + (k : Int) * d) n) 0 n = true := by
  have : 0 ≤ (k : Int) * d := Int.mul_nonneg (by omega) (by omega)
  rw [inB_iff]
  omega
end
/-- what comes out of Follow -/
def FolR (v : CVeh) (old : CPos) (guide : List Pt) (s d : Int) (steer : List (List Int)) (w : World) (e : Ending) (w' : World) : Prop :=
  ∃ va, e = .returned (.tuple #[va, .int .i64 (followS v old guide s d steer).2]) ∧ Sl 3 (RPose w.heap.size) w' va (followS v old guide s d steer).1 ∧ (∀ g, va.ownBlock = some g → w.heap.size ≤ g) ∧ Ext w w'

/-! ### own rows of poses -/
def flatQ (l : List (CPos × Value)) : List Value := l.flatMap (fun q => [.int .i64 q.1.1.1, .int .i64 q.1.1.2, q.2])
theorem flatQ_at : ∀ (l : List (CPos × Value)) (i : Nat) (p : CPos × Value), l[i]? = some p → (flatQ l)[i * 3]? = some (.int .i64 p.1.1.1) ∧ (flatQ l)[i * 3 + 1]? = some (.int .i64 p.1.1.2) ∧ (flatQ l)[i * 3 + 2]? = some p.2
  | [], i, p, h => by simp at h
  | a :: l, 0, p, h => by
    simp only [List.getElem?_cons_zero, Option.some.injEq] at h
    subst h
    exact ⟨rfl, rfl, rfl⟩
  | a :: l, i + 1, p, h => by
    have h2 := flatQ_at l i p (by simpa using h)
    have e : flatQ (a :: l) = [.int .i64 a.1.1.1, .int .i64 a.1.1.2, a.2] ++ flatQ l := rfl
    rw [e, List.getElem?_append_right (by simp; omega), List.getElem?_append_right (by simp; omega), List.getElem?_append_right (by simp; omega)]
    simp only [List.length_cons, List.length_nil]
    rw [show (i + 1) * 3 - (0 + 1 + 1 + 1) = i * 3 by omega, show (i + 1) * 3 + 1 - (0 + 1 + 1 + 1) = i * 3 + 1 by omega, show (i + 1) * 3 + 2 - (0 + 1 + 1 + 1) = i * 3 + 2 by omega]
    exact h2
theorem flatQ_snoc (l : List (CPos × Value)) (q : CPos × Value) : flatQ (l ++ [q]) = flatQ l ++ [.int .i64 q.1.1.1, .int .i64 q.1.1.2, q.2] := by simp [flatQ]
/-- a row of the call's own that reads as poses, with the slices of their points -/
def OwnQ (base : Nat) (w : World) (v : Value) (l : List (CPos × Value)) : Prop := w.ownsRow base 29 3 v l.length (flatQ l)
theorem OwnQ.ext {w w' : World} {base : Nat} {v : Value} {l : List (CPos × Value)} (h : OwnQ base w v l) (he : Ext w w') : OwnQ base w' v l := ownsRow_ext' he h
theorem OwnQ.sl {w : World} {base b0 : Nat} {v : Value} {l : List (CPos × Value)} (h : OwnQ base w v l) (hp : ∀ q ∈ l, Pts w q.2 q.1.2) (hf : ∀ q ∈ l, ∀ g, q.2.ownBlock = some g → b0 ≤ g) (hl : l.length ≤ 9223372036854775807) : Sl 3 (RPose b0) w v (l.map (·.1)) := by
  rcases h.2 with ⟨rfl, h0⟩ | ⟨g, cap, cur, rfl, _, hb, hc1, hc2, hcs, ht⟩
  · exact ⟨none, 0, by simp [h0], by simpa using hl, by simp [h0], fun i x hi => by
      have := lt_of_some hi
      simp [h0] at this⟩
  · refine ⟨some ⟨g, 0, none⟩, cap, by simp, by simpa using hl, by simpa using hc1, fun i x hi => ?_⟩
    rw [List.getElem?_map] at hi
    cases hq : l[i]? with
    | none => rw [hq] at hi; cases hi
    | some q =>
      rw [hq] at hi
      simp only [Option.map_some, Option.some.injEq] at hi
      subst hi
      refine ⟨g, 0, [.int .i64 q.1.1.1, .int .i64 q.1.1.2, q.2], rfl, rfl, ⟨q.2, rfl, hp q (mem_of_some hq), hf q (mem_of_some hq)⟩, fun j c hj => ?_⟩
      have key : ∀ j u, (flatQ l)[j]? = some u → w.cell? ⟨g, j, none⟩ = some u := fun j u hj => by
        rw [← ht, List.getElem?_take] at hj
        split at hj
        · have := World.news_of_block hb j u hj
          rwa [add_none, Nat.zero_add] at this
        · simp at hj
      obtain ⟨k0, k1, k2⟩ := flatQ_at l i q hq
      rw [Nat.zero_add]
      match j, hj with
      | 0, hj =>
        simp only [List.getElem?_cons_zero, Option.some.injEq] at hj
        subst hj
        exact key _ _ k0
      | 1, hj =>
        simp only [List.getElem?_cons_succ, List.getElem?_cons_zero, Option.some.injEq] at hj
        subst hj
        exact key _ _ k1
      | 2, hj =>
        simp only [List.getElem?_cons_succ, List.getElem?_cons_zero, Option.some.injEq] at hj
        subst hj
        exact key _ _ k2
      | j + 3, hj => simp at hj
end Go.Proofs.Ytgikfliibimkdaa
