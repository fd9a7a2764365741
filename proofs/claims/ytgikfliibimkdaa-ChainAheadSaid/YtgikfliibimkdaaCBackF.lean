/- Back, round by round: what has been pulled, whatever unit comes; and that it comes to what backK says. -/
import Derived.RangeFuncBox
import Derived.Test.YtgikfliibimkdaaCBackI
import Derived.Test.YtgikfliibimkdaaRound
namespace Go.Proofs.Ytgikfliibimkdaa
open Go.RowKit Go.Shelf

section
variable {us : List CUnit} {ps : List Pt} {ss : List Int}
/-- one round: the next joint, the row with the axle; or the error -/
def bst1 (us : List CUnit) (ps : List Pt) (ss : List Int) (jt : Pt) (l : List Pt) (x : Fin us.length) : Sum (Pt × List Pt) Int :=
  if (pullTS jt (ps.getD x.1 (0, 0)) (us.get x).behind (ss.getD x.1 0)).2 = 0 then
    (if (placeS (pullTS jt (ps.getD x.1 (0, 0)) (us.get x).behind (ss.getD x.1 0)).1 jt (-(us.get x).length) 0).2 = 0 then
      .inl ((placeS (pullTS jt (ps.getD x.1 (0, 0)) (us.get x).behind (ss.getD x.1 0)).1 jt (-(us.get x).length) 0).1, l.set x.1 (pullTS jt (ps.getD x.1 (0, 0)) (us.get x).behind (ss.getD x.1 0)).1)
    else .inr (placeS (pullTS jt (ps.getD x.1 (0, 0)) (us.get x).behind (ss.getD x.1 0)).1 jt (-(us.get x).length) 0).2)
  else .inr (pullTS jt (ps.getD x.1 (0, 0)) (us.get x).behind (ss.getD x.1 0)).2
def bnext (us : List CUnit) (ps : List Pt) (ss : List Int) : Sum (Pt × List Pt) Int → Fin us.length → Sum (Pt × List Pt) Int
  | .inl q, x => bst1 us ps ss q.1 q.2 x
  | .inr e, _ => .inr e
def bst (us : List CUnit) (ps : List Pt) (ss : List Int) (tail : Pt) (pre : List (Fin us.length)) : Sum (Pt × List Pt) Int := pre.foldl (bnext us ps ss) (.inl (tail, List.replicate us.length (0, 0)))
theorem bst1_eq {jt : Pt} {l : List Pt} {x : Fin us.length} {u : CUnit} {a : Pt} {s : Int} {p j : Pt × Int} (hu : us.get x = u) (ha : ps[x.1]? = some a) (hs : ss[x.1]? = some s) (hp : pullTS jt a u.behind s = p) (hj : placeS p.1 jt (-u.length) 0 = j) :
    bst1 us ps ss jt l x = if p.2 = 0 then (if j.2 = 0 then .inl (j.1, l.set x.1 p.1) else .inr j.2) else .inr p.2 := by
  have e1 : ps.getD x.1 (0, 0) = a := by simp [List.getD, ha]
  have e2 : ss.getD x.1 0 = s := by simp [List.getD, hs]
  unfold bst1
  rw [e1, e2, hu, hp, hj]
theorem bst_snoc {tail : Pt} {pre : List (Fin us.length)} {x : Fin us.length} : bst us ps ss tail (pre ++ [x]) = bnext us ps ss (bst us ps ss tail pre) x := by unfold bst; rw [List.foldl_append]; rfl
theorem bfold_inr (e : Int) : ∀ xs : List (Fin us.length), xs.foldl (bnext us ps ss) (.inr e) = .inr e
  | [] => rfl
  | _ :: xs => bfold_inr e xs
theorem set_mid (k : Nat) (acc : List Pt) (p : Pt) : (List.replicate (k + 1) (0, 0) ++ acc).set k p = List.replicate k (0, 0) ++ p :: acc := by
  induction k with
  | zero => rfl
  | succ k ih =>
    rw [List.replicate_succ, List.cons_append, List.set_cons_succ, ih, List.replicate_succ]
    rfl
theorem bfold_all (hps : ps.length = us.length) (hss : ss.length = us.length) : ∀ (k : Nat) (h : k ≤ us.length) (jt : Pt) (acc : List Pt),
    (dnk us.length k h).foldl (bnext us ps ss) (.inl (jt, List.replicate k (0, 0) ++ acc)) =
      if (backK us ps ss k jt acc).2.2 = 0 then .inl ((backK us ps ss k jt acc).2.1, (backK us ps ss k jt acc).1) else .inr (backK us ps ss k jt acc).2.2
  | 0, _, jt, acc => by rw [backK_zero]; rfl
  | k + 1, h, jt, acc => by
    obtain ⟨u, hu⟩ := some_of_lt (show k < us.length by omega)
    obtain ⟨a, ha⟩ := some_of_lt (show k < ps.length by omega)
    obtain ⟨s, hs⟩ := some_of_lt (show k < ss.length by omega)
    have hget : us.get ⟨k, by omega⟩ = u := by
      obtain ⟨h1, h2⟩ := List.getElem?_eq_some_iff.1 hu
      exact h2
    obtain ⟨p, hp⟩ : ∃ p, pullTS jt a u.behind s = p := ⟨_, rfl⟩
    obtain ⟨j, hj⟩ : ∃ j, placeS p.1 jt (-u.length) 0 = j := ⟨_, rfl⟩
    have e1 := bst1_eq (us := us) (ps := ps) (ss := ss) (jt := jt) (l := List.replicate (k + 1) (0, 0) ++ acc) (x := ⟨k, by omega⟩) hget ha hs hp hj
    rw [backK_step hu ha hs hp hj, dnk, List.foldl_cons]
    show List.foldl (bnext us ps ss) (bst1 us ps ss jt (List.replicate (k + 1) (0, 0) ++ acc) ⟨k, by omega⟩) _ = _
    rw [e1]
    by_cases hp0 : p.2 = 0
    · rw [if_pos hp0, if_pos hp0]
      by_cases hj0 : j.2 = 0
      · rw [if_pos hj0, if_pos hj0, set_mid]
        exact bfold_all hps hss k (by omega) j.1 (p.1 :: acc)
      · rw [if_neg hj0, if_neg hj0, bfold_inr, if_neg (by simpa using hj0)]
    · rw [if_neg hp0, if_neg hp0, bfold_inr, if_neg (by simpa using hp0)]
theorem bst_done (hps : ps.length = us.length) (hss : ss.length = us.length) {tail jt : Pt} {l : List Pt} {r : List Pt × Pt × Int} (hr : backK us ps ss us.length tail [] = r)
    (h : bst us ps ss tail (dnk us.length us.length (Nat.le_refl _)) = .inl (jt, l)) : r = (l, jt, 0) := by
  have h1 := bfold_all hps hss us.length (Nat.le_refl _) tail []
  rw [List.append_nil, hr] at h1
  unfold bst at h
  rw [h] at h1
  split at h1
  · rename_i h2
    obtain ⟨r1, r2, r3⟩ := r
    simp only [Sum.inl.injEq, Prod.mk.injEq] at h1 h2
    obtain ⟨rfl, rfl⟩ := h1
    rw [h2]
  · cases h1
theorem bst_stop (hps : ps.length = us.length) (hss : ss.length = us.length) {tail : Pt} {e : Int} {pre : List (Fin us.length)} {r : List Pt × Pt × Int} (hr : backK us ps ss us.length tail [] = r)
    (hpre : pre <+: dnk us.length us.length (Nat.le_refl _)) (h : bst us ps ss tail pre = .inr e) : ¬ r.2.2 = 0 ∧ r.2.2 = e := by
  have h1 := bfold_all hps hss us.length (Nat.le_refl _) tail []
  rw [List.append_nil, hr] at h1
  obtain ⟨suf, hsuf⟩ := hpre
  rw [← hsuf, List.foldl_append] at h1
  unfold bst at h
  rw [h, bfold_inr] at h1
  split at h1
  · cases h1
  · rename_i h2
    simp only [Sum.inr.injEq] at h1
    exact ⟨h2, h1.symm⟩
end
theorem one_set {W : World} {b : Nat} {t : TypeId} {x : Value} (u : Value) (h : W.heap[b]? = some (.cells #[x] t (0, 0))) : (W.setCell ⟨b, 0, none⟩ u).heap[b]? = some (.cells #[u] t (0, 0)) := by
  have := blk_set 0 u h
  simpa using this
theorem BlkP.set {W : World} {b k : Nat} {l : List Pt} (h : BlkP W b l) (hk : k < l.length) (x y : Int) :
    BlkP ((W.setCell ⟨b, k * 2, none⟩ (.int .i64 x)).setCell ⟨b, k * 2 + 1, none⟩ (.int .i64 y)) b (l.set k (x, y)) := by
  unfold BlkP at *
  have h1 := blk_set (k * 2 + 1) (.int .i64 y) (blk_set (k * 2) (.int .i64 x) h)
  obtain ⟨z, hz⟩ := some_of_lt hk
  have e0 : l = l.take k ++ (z :: l.drop (k + 1)) := by
    have h2 := drop_some hz
    rw [← h2, List.take_append_drop]
  have e1 : l.set k (x, y) = l.take k ++ ((x, y) :: l.drop (k + 1)) := List.set_eq_take_append_cons_drop.trans (if_pos hk)
  have hl : (flatP (l.take k)).length = k * 2 := by rw [flatP_len, List.length_take]; congr 1; omega
  have f0 : flatP l = flatP (l.take k) ++ [.int .i64 z.1, .int .i64 z.2] ++ flatP (l.drop (k + 1)) := by
    rw [List.append_assoc]
    exact (congrArg flatP e0).trans (flatP_app _ _)
  have f1 : flatP (l.set k (x, y)) = flatP (l.take k) ++ [.int .i64 x, .int .i64 y] ++ flatP (l.drop (k + 1)) := by
    rw [e1, List.append_assoc]
    exact flatP_app _ _
  rw [h1, f0, f1]
  simp only [List.setIfInBounds_toArray]
  rw [← hl, set_app, set_app2]
/-- a block of cells lies as it lay where another kind of block turns -/
theorem kept_blk {W W' : World} {row : Option Nat} {b : Nat} {cs : Array Value} {t : TypeId} {fr : Nat × Nat} (h : W.heap[b]? = some (.cells cs t fr)) (hg : W.grownBy W' row) (hr : ∀ r, row = some r → ∃ o : Obj, W.heap[r]? = some o ∧ o.isCells = false) : W'.heap[b]? = some (.cells cs t fr) := by
  refine (hg.block b (Array.getElem?_eq_some_iff.1 h).1 (fun e => ?_)).trans h
  obtain ⟨o, ho, hc⟩ := hr b e.symm
  rw [h] at ho
  cases ho
  cases hc
theorem Ext.from {W W' : World} (h : Ext W W') (B : Nat) : KeepsFrom B W W' := ⟨h.sz, fun k _ _ hk _ => (h.block k (Array.getElem?_eq_some_iff.1 hk).1).trans hk⟩
theorem keeps_set (B : Nat) (W : World) (a : Addr) (v : Value) : KeepsFrom B W (W.setCell a v) := (KeepsOthers.setCell W a v).from B
theorem KpW.set {n₀ Bs : Nat} {A W : World} (h : KpW n₀ Bs A W) {a : Addr} (h1 : n₀ ≤ a.block) (h2 : Bs ≠ a.block) (v : Value) : KpW n₀ Bs A (W.setCell a v) :=
  ⟨Below.setCell h.1 h1 v, (Below.heap_setCell W a v Bs h2).trans h.2⟩
section
variable {F : Fence} {n : Nat} {P : Program} {Q : Exit → Act → World → Prop} {w : World}
theorem tmps_gen {c : Code} {T : Array Value} {D : List Deferred} (h : ∀ T0, T = T0 → c.wpIn F n P Q { tmps := T0, defers := D } w) : c.wpIn F n P Q { tmps := T, defers := D } w := h T rfl
end
section
variable {P : Program} {ops : Array Oper} {Q : Exit → Act → World → Prop} {md : Region.Mode} {S : World → Prop}
/-- the one operation that may come up now -/
theorem held_one {i : Nat} {o : Oper} {rest : List Oper} {n : Nat} {listed : Array Bool} {a : Act} {w : World} (hi : ops.toList.drop i = o :: rest) (hr : Region.ready md ops listed = [i])
    (h : ∀ K' : Act → World → Prop, Shut (∀ a w, S w → (S w → wpAnyH P md ops Q S n (listed.setIfInBounds i true) a w) → K' a w) → if Region.wanted o (yielded ops a.tmps) = true then Oper.wp P o a w K' Q else K' (a.put o.dst undef) w) : wpAnyH P md ops Q S (n + 1) listed a w :=
  ⟨fun h0 => (by rw [hr] at h0; cases h0), fun j hj => by
    rw [hr] at hj
    obtain rfl : j = i := by simpa using hj
    exact wpOp_step (udrop_get hi) (fun K' hK => h K' (fun a w hS hW => hK a w ⟨hS, hW hS⟩))⟩
/-- two operations that may come up now -/
theorem held_two {i i2 : Nat} {o o2 : Oper} {rest rest2 : List Oper} {n : Nat} {listed : Array Bool} {a : Act} {w : World} (hi : ops.toList.drop i = o :: rest) (hi2 : ops.toList.drop i2 = o2 :: rest2) (hr : Region.ready md ops listed = [i, i2])
    (h : ∀ K' : Act → World → Prop, Shut (∀ a w, S w → (S w → wpAnyH P md ops Q S n (listed.setIfInBounds i true) a w) → K' a w) → if Region.wanted o (yielded ops a.tmps) = true then Oper.wp P o a w K' Q else K' (a.put o.dst undef) w)
    (h2 : ∀ K' : Act → World → Prop, Shut (∀ a w, S w → (S w → wpAnyH P md ops Q S n (listed.setIfInBounds i2 true) a w) → K' a w) → if Region.wanted o2 (yielded ops a.tmps) = true then Oper.wp P o2 a w K' Q else K' (a.put o2.dst undef) w) : wpAnyH P md ops Q S (n + 1) listed a w :=
  ⟨fun h0 => (by rw [hr] at h0; cases h0), fun j hj => by
    rw [hr] at hj
    rcases (show j = i ∨ j = i2 by simpa using hj) with rfl | rfl
    · exact wpOp_step (udrop_get hi) (fun K' hK => h K' (fun a w hS hW => hK a w ⟨hS, hW hS⟩))
    · exact wpOp_step (udrop_get hi2) (fun K' hK => h2 K' (fun a w hS hW => hK a w ⟨hS, hW hS⟩))⟩
end
end Go.Proofs.Ytgikfliibimkdaa
