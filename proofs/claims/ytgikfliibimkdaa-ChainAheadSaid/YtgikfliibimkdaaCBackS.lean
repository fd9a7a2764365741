/- What Back answers, plainly. -/
import Derived.Test.YtgikfliibimkdaaCStepS
import Derived.Laws.MakeOwn
namespace Go.Proofs.Ytgikfliibimkdaa
open Go.RowKit Go.Shelf

/-- the points that are pulled, from the last one on, the last joint, and the error that stopped it -/
def backK (us : List CUnit) (ps : List Pt) (ss : List Int) : Nat → Pt → List Pt → List Pt × Pt × Int
  | 0, jt, acc => (acc, jt, 0)
  | k + 1, jt, acc =>
    match us[k]?, ps[k]?, ss[k]? with
    | some u, some a, some s =>
      if (pullTS jt a u.behind s).2 = 0 then
        (if (placeS (pullTS jt a u.behind s).1 jt (-u.length) 0).2 = 0 then backK us ps ss k (placeS (pullTS jt a u.behind s).1 jt (-u.length) 0).1 ((pullTS jt a u.behind s).1 :: acc)
        else ([], (0, 0), (placeS (pullTS jt a u.behind s).1 jt (-u.length) 0).2))
      else ([], (0, 0), (pullTS jt a u.behind s).2)
    | _, _, _ => (acc, jt, 0)
theorem backK_zero (us : List CUnit) (ps : List Pt) (ss : List Int) (jt : Pt) (acc : List Pt) : backK us ps ss 0 jt acc = (acc, jt, 0) := rfl
theorem backK_step {us : List CUnit} {ps : List Pt} {ss : List Int} {k : Nat} {jt a : Pt} {u : CUnit} {s : Int} {acc : List Pt} {p j : Pt × Int} (hu : us[k]? = some u) (ha : ps[k]? = some a) (hs : ss[k]? = some s)
    (hp : pullTS jt a u.behind s = p) (hj : placeS p.1 jt (-u.length) 0 = j) :
    backK us ps ss (k + 1) jt acc = if p.2 = 0 then (if j.2 = 0 then backK us ps ss k j.1 (p.1 :: acc) else ([], (0, 0), j.2)) else ([], (0, 0), p.2) := by
  simp only [backK, hu, ha, hs, hp, hj]
/-- a unit that can be led back -/
def backU (u : CUnit) : Bool := !(decide (u.behind < 100) || !decide (u.steer = 0))
def backB (us : List CUnit) : Bool := us.all backU
theorem backU_iff {u : CUnit} : backU u = true ↔ ¬ u.behind < 100 ∧ u.steer = 0 := by
  unfold backU
  by_cases h1 : u.behind < 100 <;> by_cases h2 : u.steer = 0 <;> simp [h1, h2]
theorem backB_at {us : List CUnit} (h : backB us = true) {k : Nat} {u : CUnit} (hu : us[k]? = some u) : ¬ u.behind < 100 ∧ u.steer = 0 := by
  obtain ⟨hk, rfl⟩ := List.getElem?_eq_some_iff.1 hu
  unfold backB at h
  rw [List.all_eq_true] at h
  exact backU_iff.1 (h _ (List.getElem_mem hk))
theorem backB_bad {us : List CUnit} {k : Nat} {u : CUnit} (hu : us[k]? = some u) (h : u.behind < 100 ∨ ¬ u.steer = 0) : backB us = false := by
  cases hb : backB us
  · rfl
  · have := backB_at hb hu
    rcases h with h | h
    · exact absurd h this.1
    · exact absurd this.2 h
/-- the pose behind a step back: its lead, its points, and the error -/
def backS (v : CVeh) (old : Pt) (ps : List Pt) (tail : Pt) (st : List Int) : Pt × List Pt × Int :=
  if poseE v old ps = 0 then
    (if okPt tail = true then
      (if backB v.units = true then
        (if steerE v st = 0 then
          (if (backK v.units ps st v.units.length tail []).2.2 = 0 then
            (if poseE v (backK v.units ps st v.units.length tail []).2.1 (backK v.units ps st v.units.length tail []).1 = 0 then
              ((backK v.units ps st v.units.length tail []).2.1, (backK v.units ps st v.units.length tail []).1, 0) else ((0, 0), [], 9))
          else ((0, 0), [], (backK v.units ps st v.units.length tail []).2.2))
        else ((0, 0), [], steerE v st))
      else ((0, 0), [], 10))
    else ((0, 0), [], 2))
  else ((0, 0), [], poseE v old ps)
section
variable {v : CVeh} {old tail : Pt} {ps : List Pt} {st : List Int}
theorem backS_pose (h : ¬ poseE v old ps = 0) : backS v old ps tail st = ((0, 0), [], poseE v old ps) := by unfold backS; rw [if_neg h]
theorem backS_tail (h : poseE v old ps = 0) (h2 : okPt tail = false) : backS v old ps tail st = ((0, 0), [], 2) := by unfold backS; rw [if_pos h, if_neg (by rw [h2]; decide)]
theorem backS_state (h : poseE v old ps = 0) (h2 : okPt tail = true) (h3 : backB v.units = false) : backS v old ps tail st = ((0, 0), [], 10) := by unfold backS; rw [if_pos h, if_pos h2, if_neg (by rw [h3]; decide)]
theorem backS_steer (h : poseE v old ps = 0) (h2 : okPt tail = true) (h3 : backB v.units = true) (h4 : ¬ steerE v st = 0) : backS v old ps tail st = ((0, 0), [], steerE v st) := by unfold backS; rw [if_pos h, if_pos h2, if_pos h3, if_neg h4]
theorem backS_go {r : List Pt × Pt × Int} (h : poseE v old ps = 0) (h2 : okPt tail = true) (h3 : backB v.units = true) (h4 : steerE v st = 0) (hr : backK v.units ps st v.units.length tail [] = r) :
    backS v old ps tail st = if r.2.2 = 0 then (if poseE v r.2.1 r.1 = 0 then (r.2.1, r.1, 0) else ((0, 0), [], 9)) else ((0, 0), [], r.2.2) := by
  unfold backS; rw [if_pos h, if_pos h2, if_pos h3, if_pos h4, hr]
end
/-- what comes out of Back -/
def BackR (v : CVeh) (old : Pt) (ps : List Pt) (tail : Pt) (st : List Int) (w : World) (e : Ending) (w' : World) : Prop :=
  ∃ vp, e = .returned (poseEV (backS v old ps tail st).1 vp (backS v old ps tail st).2.2) ∧ Pts w' vp (backS v old ps tail st).2.1 ∧ Ext w w'

/-! ### a row of points that was made -/
/-- the block b is a row of points -/
def BlkP (W : World) (b : Nat) (l : List Pt) : Prop := W.heap[b]? = some (.cells (flatP l).toArray 26 (0, 0))
theorem flatP_app (l m : List Pt) : flatP (l ++ m) = flatP l ++ flatP m := by unfold flatP; simp
theorem BlkP.ext {W W' : World} {b : Nat} {l : List Pt} (h : BlkP W b l) (he : Ext W W') : BlkP W' b l := he.blk h
theorem BlkP.pts {W : World} {b : Nat} {l : List Pt} (h : BlkP W b l) (hl : l.length ≤ 9223372036854775807) : Pts W (.slice (some ⟨b, 0, none⟩) l.length l.length) l := by
  refine .inr ⟨b, 0, l.length, rfl, by omega, Nat.le_refl _, fun i hi => ?_⟩
  obtain ⟨p, hp⟩ := some_of_lt hi
  have h2 := flatP_at l i p hp
  have key : ∀ j u, (flatP l)[j]? = some u → W.cell? ⟨b, j, none⟩ = some u := fun j u hj => by
    have h9 := World.news_of_block h j u (by simpa using hj)
    rwa [add_none, Nat.zero_add] at h9
  have hg : l.getD i (0, 0) = p := by simp [List.getD, hp]
  rw [hg]
  simp only [Nat.zero_add]
  exact ⟨key _ _ h2.1, key _ _ h2.2⟩
theorem BlkP.lt {W : World} {b : Nat} {l : List Pt} (h : BlkP W b l) : b < W.heap.size := (Array.getElem?_eq_some_iff.1 h).1
theorem set_app {α : Type} (A C : List α) (x y u : α) : ((A ++ [x, y] ++ C).set A.length u) = A ++ [u, y] ++ C := by simp
theorem set_app2 {α : Type} (A C : List α) (x y u : α) : ((A ++ [x, y] ++ C).set (A.length + 1) u) = A ++ [x, u] ++ C := by simp
/-- a point that is stored into the row -/
theorem BlkP.put {W : World} {b k : Nat} {acc : List Pt} (h : BlkP W b (List.replicate (k + 1) (0, 0) ++ acc)) (x y : Int) :
    BlkP ((W.setCell ⟨b, k * 2, none⟩ (.int .i64 x)).setCell ⟨b, k * 2 + 1, none⟩ (.int .i64 y)) b (List.replicate k (0, 0) ++ (x, y) :: acc) := by
  unfold BlkP at *
  have h1 := blk_set (k * 2 + 1) (.int .i64 y) (blk_set (k * 2) (.int .i64 x) h)
  have e0 : flatP (List.replicate (k + 1) (0, 0) ++ acc) = flatP (List.replicate k (0, 0)) ++ [.int .i64 0, .int .i64 0] ++ flatP acc := by
    rw [List.replicate_succ', flatP_app, flatP_app]
    simp [flatP]
  have e1 : flatP (List.replicate k (0, 0) ++ (x, y) :: acc) = flatP (List.replicate k (0, 0)) ++ [.int .i64 x, .int .i64 y] ++ flatP acc := by
    rw [flatP_app]; simp [flatP]
  have hk : (flatP (List.replicate k (0, 0))).length = k * 2 := by rw [flatP_len, List.length_replicate]
  rw [h1, e0, e1]
  simp only [List.setIfInBounds_toArray]
  rw [← hk, set_app, set_app2]
theorem made_zero (a : Value) (N : Nat) : madeCells #[a, a] N = Array.replicate N a := by
  apply Array.ext_getElem?
  intro i
  unfold madeCells
  by_cases hi : i < N
  · have h2 : i % 2 = 0 ∨ i % 2 = 1 := by omega
    rcases h2 with h2 | h2 <;> simp [hi, h2]
  · simp [hi]
theorem flatP_zero (n : Nat) : flatP (List.replicate n (0, 0)) = List.replicate (n * 2) (.int .i64 0) := by
  induction n with
  | zero => rfl
  | succ n ih =>
    rw [List.replicate_succ]
    have e : flatP ((0, 0) :: List.replicate n (0, 0)) = [.int .i64 0, .int .i64 0] ++ flatP (List.replicate n (0, 0)) := rfl
    rw [e, ih, show (n + 1) * 2 = n * 2 + 1 + 1 by omega, List.replicate_succ, List.replicate_succ]
    rfl
theorem make_pts (n : Nat) (hn : n ≤ 1000) (w : World) : (Instr.makeSlice 27 (.int .i64 (n : Int)) (.int .i64 (n : Int))).run Try.prog w = .ok (.slice (some ⟨w.heap.size, 0, none⟩) n n) (w.alloc (.cells (flatP (List.replicate n (0, 0))).toArray 26)) := by
  obtain ⟨ip, hip, hz0, hz1, hz2⟩ := info_parts infoPoint
  have hr := run_make (P := Try.prog) w 27 26 ip _ Try.underlying27 hip hz0 .i64 .i64 (n : Int) (n : Int) (by omega) (Int.le_refl _) (by rw [hz2]; omega) (by omega)
  rw [hr]
  simp only [Int.toNat_natCast, hz1]
  have e : madeCells (Value.agg #[.int .i64 0, .int .i64 0]).cells (n * 2) = (flatP (List.replicate n (0, 0))).toArray := by
    rw [flatP_zero]
    have h1 : (Value.agg #[.int .i64 0, .int .i64 0]).cells = #[.int .i64 0, .int .i64 0] := rfl
    rw [h1, made_zero]
    simp
  rw [e]
theorem BlkP.cell {W : World} {b k : Nat} {l : List Pt} {p : Pt} (h : BlkP W b l) (hk : l[k]? = some p) : W.cell? ⟨b, k * 2, none⟩ = some (.int .i64 p.1) ∧ W.cell? ⟨b, k * 2 + 1, none⟩ = some (.int .i64 p.2) := by
  have h2 := flatP_at l k p hk
  have key : ∀ j u, (flatP l)[j]? = some u → W.cell? ⟨b, j, none⟩ = some u := fun j u hj => by
    have h9 := World.news_of_block h j u (by simpa using hj)
    rwa [add_none, Nat.zero_add] at h9
  exact ⟨key _ _ h2.1, key _ _ h2.2⟩
theorem mid_at (k : Nat) (acc : List Pt) : (List.replicate (k + 1) ((0, 0) : Pt) ++ acc)[k]? = some (0, 0) := by
  rw [List.getElem?_append_left (by simp)]
  simp
theorem pts_put {w : World} {x : Value} {l : List Pt} (h : Pts w x l) {b o : Nat} {u : Value} (hne : x.ownBlock ≠ some b) : Pts (w.setCell ⟨b, o, none⟩ u) x l := by
  rcases h with h | ⟨g, off, cap, rfl, h1, h2, hc⟩
  · exact .inl h
  · have hgb : g ≠ b := fun e => hne (by rw [e]; rfl)
    exact .inr ⟨g, off, cap, rfl, h1, h2, fun i hi => ⟨cell_set_ne hgb (hc i hi).1, cell_set_ne hgb (hc i hi).2⟩⟩
theorem BlkP.other {W : World} {b c o : Nat} {u : Value} {l : List Pt} (h : BlkP W b l) (hne : b ≠ c) : BlkP (W.setCell ⟨c, o, none⟩ u) b l := (heap_ne hne).trans h
end Go.Proofs.Ytgikfliibimkdaa
