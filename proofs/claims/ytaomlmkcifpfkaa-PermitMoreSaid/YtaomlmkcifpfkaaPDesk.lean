/- What 'newDesk' makes: the desk's state in memory, and what it holds, plainly. -/
import Derived.Test.YtaomlmkcifpfkaaPOf2
namespace Go.Proofs.Ytaomlmkcifpfkaa
open Go.RowKit Go.Maps

/-! ### valid, as far as the passages' authorities were found -/
structure Valid1 (l : List PAuth) (t : PTrip) (K : Nat) : Prop where
  len : 1 ≤ l.length ∧ l.length ≤ 8
  auths : ∀ a ∈ l, authE a = 0
  plen : 1 ≤ t.passages.length ∧ t.passages.length ≤ 24
  found : ∀ k p, k < K → t.passages[k]? = some p → 0 ≤ idxA l p.auth
theorem first_bad {α : Type} (p : α → Bool) : ∀ l : List α, ∃ K, K ≤ l.length ∧ (∀ k x, k < K → l[k]? = some x → p x = true) ∧ ((K = l.length ∧ l.all p = true) ∨ ∃ x, l[K]? = some x ∧ p x = false ∧ l.all p = false)
  | [] => ⟨0, by simp, fun k x h => by omega, .inl ⟨rfl, rfl⟩⟩
  | a :: l => by
    by_cases ha : p a = true
    · obtain ⟨K, hK, h1, h2⟩ := first_bad p l
      refine ⟨K + 1, by simp; omega, fun k x hk hx => ?_, ?_⟩
      · cases k with
        | zero => simp only [List.getElem?_cons_zero, Option.some.injEq] at hx; subst hx; exact ha
        | succ k => exact h1 k x (by omega) (by simpa using hx)
      · rcases h2 with ⟨e, h2⟩ | ⟨x, hx, h2, h3⟩
        · exact .inl ⟨by simp [e], by simp [ha, h2]⟩
        · exact .inr ⟨x, by simpa using hx, h2, by simp [h3]⟩
    · have ha' : p a = false := by simpa using ha
      exact ⟨0, by simp, fun k x h => by omega, .inr ⟨a, by simp, ha', by simp [ha']⟩⟩
theorem Valid1.auth {l : List PAuth} {t : PTrip} {K : Nat} (h : Valid1 l t K) {k : Nat} {p : PPass} (hk : k < K) (hp : t.passages[k]? = some p) : ∃ (a : Nat) (x : PAuth), idxA l p.auth = (a : Int) ∧ a < l.length ∧ l[a]? = some x ∧ authAt l p = some x ∧ x.name = p.auth ∧ rulesOf l p = x.rules ∧ authE x = 0 := by
  have h0 := h.found k p hk hp
  obtain ⟨a, ha⟩ : ∃ a : Nat, idxA l p.auth = (a : Int) := ⟨(idxA l p.auth).toNat, by omega⟩
  obtain ⟨x, hx, hn⟩ := idxL_some ha
  have hat : authAt l p = some x := by unfold authAt; rw [ha]; exact hx
  exact ⟨a, x, ha, lt_of_some hx, hx, hat, by simpa using hn, by unfold rulesOf; rw [hat], h.auths x (mem_of_some hx)⟩
theorem feeN_bd1 {l : List PAuth} {t : PTrip} {K : Nat} (hV : Valid1 l t K) (hK : K ≤ t.passages.length) : ∀ k, k ≤ K → 0 ≤ feeN l t k ∧ feeN l t k ≤ 26843545600 * k
  | 0, _ => by simp [feeN]
  | k + 1, hk => by
    obtain ⟨p, hp⟩ := some_of_lt (show k < t.passages.length by omega)
    obtain ⟨a, x, ha, hal, hx, hat, hnm, hru, he⟩ := hV.auth (show k < K by omega) hp
    have ih := feeN_bd1 hV hK k (by omega)
    have h1 := authE_zero he
    rw [feeN_succ hp hat]
    have h2 : 0 ≤ costs (selOf l t p) ∧ costs (selOf l t p) ≤ 25769803776 := by
      unfold selOf; rw [hru]
      exact sel_cost he p.road _ (Nat.le_refl _)
    split <;> omega
theorem noticeN_bd1 {l : List PAuth} {t : PTrip} {K : Nat} (hV : Valid1 l t K) (hK : K ≤ t.passages.length) : ∀ k, k ≤ K → 0 ≤ noticeN l t k ∧ noticeN l t k ≤ 1048576
  | 0, _ => by simp [noticeN]
  | k + 1, hk => by
    obtain ⟨p, hp⟩ := some_of_lt (show k < t.passages.length by omega)
    obtain ⟨a, x, ha, hal, hx, hat, hnm, hru, he⟩ := hV.auth (show k < K by omega) hp
    have ih := noticeN_bd1 hV hK k (by omega)
    have h1 := authE_zero he
    rw [noticeN_succ hp hat]
    split <;> omega
theorem condsN_len1 {l : List PAuth} {t : PTrip} {K : Nat} (hV : Valid1 l t K) (hK : K ≤ t.passages.length) : ∀ k, k ≤ K → (condsN l t k).length ≤ 24 * k
  | 0, _ => by simp [condsN]
  | k + 1, hk => by
    obtain ⟨p, hp⟩ := some_of_lt (show k < t.passages.length by omega)
    obtain ⟨a, x, ha, hal, hx, hat, hnm, hru, he⟩ := hV.auth (show k < K by omega) hp
    have ih := condsN_len1 hV hK k (by omega)
    have h1 := authE_zero he
    rw [condsN_succ hp, List.length_append, List.length_map]
    have h2 : (selOf l t p).length ≤ 24 := by
      unfold selOf; rw [hru]
      exact Nat.le_trans (ruleSel_len _ _ _ _) h1.1
    omega

/-! ### what a desk holds of each passage -/
structure PRules where
  list : List PRule
  numbers : List Int
  minutes : Int
/-- three cells read as the rules of a passage -/
def RRules (w : World) (cs : List Value) (p : PRules) : Prop := ∃ vl vn, cs = [vl, vn, .int .i64 p.minutes] ∧ Sl 11 RRule w vl p.list ∧ Sl 1 RInt w vn p.numbers
theorem RRules.stable : Stable RRules := fun _ _ _ _ he ⟨vl, vn, h, h1, h2⟩ => ⟨vl, vn, h, h1.ext RRule.stable he, h2.ext RInt.stable he⟩
/-- .. in rows of the call's own -/
def RRow (w0 : World) (B : Nat) (w : World) (cs : List Value) (p : PRules) : Prop := ∃ vl vn, cs = [vl, vn, .int .i64 p.minutes] ∧ OwnL 11 58 (fun _ => RRule w0) B w vl p.list ∧ OwnL 1 3 RInt B w vn p.numbers
def atDesk (l : List PAuth) (t : PTrip) (k : Nat) (p : PPass) : PRules := ⟨rsOf l t p, numsOf l t k p, p.minutes⟩
def deskN (l : List PAuth) (t : PTrip) : Nat → List PRules
  | 0 => []
  | k + 1 => deskN l t k ++ (match t.passages[k]? with | some p => [atDesk l t k p] | none => [])
theorem deskN_succ {l : List PAuth} {t : PTrip} {k : Nat} {p : PPass} (hp : t.passages[k]? = some p) : deskN l t (k + 1) = deskN l t k ++ [atDesk l t k p] := by simp only [deskN, hp]
theorem deskN_len {l : List PAuth} {t : PTrip} : ∀ k, k ≤ t.passages.length → (deskN l t k).length = k
  | 0, _ => rfl
  | k + 1, hk => by
    obtain ⟨p, hp⟩ := some_of_lt (show k < t.passages.length by omega)
    rw [deskN_succ hp, List.length_append, deskN_len k (by omega)]; rfl
theorem deskN_at {l : List PAuth} {t : PTrip} {k : Nat} {p : PPass} (hp : t.passages[k]? = some p) : ∀ K, k < K → K ≤ t.passages.length → (deskN l t K)[k]? = some (atDesk l t k p)
  | 0, h, _ => by omega
  | K + 1, hk, hK => by
    obtain ⟨q, hq⟩ := some_of_lt (show K < t.passages.length by omega)
    have hl := deskN_len (l := l) (t := t) K (by omega)
    rw [deskN_succ hq]
    rcases Nat.lt_or_ge k K with h | h
    · rw [List.getElem?_append_left (by omega)]
      exact deskN_at hp K h (by omega)
    · obtain rfl : k = K := by omega
      rw [hp] at hq
      obtain rfl := Option.some.inj hq
      rw [List.getElem?_append_right (by omega), hl, Nat.sub_self]; rfl
def desk (l : List PAuth) (t : PTrip) : List PRules := deskN l t t.passages.length

/-! ### what a round leaves alone -/
/-- blocks that were there, but the desk, the map, and rows of conditions, are as they were -/
def KT (D : Nat) (w W : World) : Prop := w.heap.size ≤ W.heap.size ∧ ∀ b, b < w.heap.size → b ≠ D → b ≠ D + 1 → (∀ cs fr, w.heap[b]? ≠ some (.cells cs 102 fr)) → W.heap[b]? = w.heap[b]?
theorem KT.refl (D : Nat) (w : World) : KT D w w := ⟨Nat.le_refl _, fun _ _ _ _ _ => rfl⟩
theorem KT.ext {D : Nat} {w W W' : World} (h : KT D w W) (he : Ext W W') : KT D w W' :=
  ⟨Nat.le_trans h.1 he.sz, fun b hb h1 h2 h3 => (he.block b (Nat.lt_of_lt_of_le hb h.1)).trans (h.2 b hb h1 h2 h3)⟩
theorem KT.alloc {D : Nat} {w W : World} (h : KT D w W) (o : Obj) : KT D w (W.alloc o) := h.ext ((Ext.refl W).alloc o)
theorem KT.drew {D : Nat} {w W : World} (h : KT D w W) : KT D w W.drew := h
theorem KT.set {D : Nat} {w W : World} (h : KT D w W) {p : Addr} (hp : p.block = D ∨ w.heap.size ≤ p.block) (u : Value) : KT D w (W.setCell p u) :=
  ⟨by rw [size_setCell]; exact h.1, fun b hb h1 h2 h3 => (Below.heap_setCell W p u b (by omega)).trans (h.2 b hb h1 h2 h3)⟩
theorem KT.grown {D : Nat} {w W W' : World} (h : KT D w W) {row : Option Nat} (hg : W.grownBy W' row) (hr : ∀ g, row = some g → w.heap.size ≤ g ∨ g = D + 1 ∨ ∃ cs fr, W.heap[g]? = some (.cells cs 102 fr)) : KT D w W' := by
  refine ⟨Nat.le_trans h.1 hg.size, fun b hb h1 h2 h3 => ?_⟩
  have hk := h.2 b hb h1 h2 h3
  refine (hg.block b (Nat.lt_of_lt_of_le hb h.1) (fun e => ?_)).trans hk
  rcases hr b e.symm with h4 | h4 | ⟨cs, fr, h4⟩
  · omega
  · exact h2 h4
  · rw [hk] at h4; exact h3 cs fr h4
theorem KT.cell {D : Nat} {w W : World} (h : KT D w W) {b o : Nat} {v : Value} (hb : b ≠ D) (hb' : b ≠ D + 1) (hc : ∀ cs fr, w.heap[b]? ≠ some (.cells cs 102 fr)) (hv : w.cell? ⟨b, o, none⟩ = some v) : W.cell? ⟨b, o, none⟩ = some v := by
  rw [World.cell?_of_block (w := w) (h.2 b (lt_of_cell hv) hb hb' hc)]; exact hv
theorem ownsRow_kt {D base : Nat} {w W : World} (h : KT D w W) {e : TypeId} {n m : Nat} {v : Value} {xs : List Value} (ho : w.ownsRow base e n v m xs) (hb : D + 1 + 1 ≤ base) (he : e ≠ 102) : W.ownsRow base e n v m xs := by
  refine ⟨ho.1, ?_⟩
  rcases ho.2 with h0 | ⟨g, cap, cur, hv, hg, hh, hr⟩
  · exact .inl h0
  · have hlt := own_lt ho (g := g) (by rw [hv]; rfl)
    refine .inr ⟨g, cap, cur, hv, hg, (h.2 g hlt (by omega) (by omega) (fun cs fr hc => ?_)).trans hh, hr⟩
    rw [hh] at hc
    simp only [Option.some.injEq, Obj.cells.injEq] at hc
    exact he hc.2.1
theorem OwnL.kt {α : Type} {D base n : Nat} {e : TypeId} {R : World → List Value → α → Prop} {w W : World} {v : Value} {l : List α} (h : OwnL n e R base w v l) (hk : KT D w W) (hb : D + 1 + 1 ≤ base) (he : e ≠ 102) (hR : ∀ cs x, R w cs x → R W cs x) : OwnL n e R base W v l := by
  obtain ⟨css, hl, hown, hx⟩ := h
  exact ⟨css, hl, ownsRow_kt hk hown hb he, fun i cs x h1 h2 => ⟨(hx i cs x h1 h2).1, hR _ _ (hx i cs x h1 h2).2⟩⟩
theorem RRow.kt {w0 : World} {D B : Nat} {w W : World} {cs : List Value} {p : PRules} (h : RRow w0 B w cs p) (hk : KT D w W) (hb : D + 1 + 1 ≤ B) : RRow w0 B W cs p := by
  obtain ⟨vl, vn, e, h1, h2⟩ := h
  exact ⟨vl, vn, e, h1.kt hk hb (by decide) (fun _ _ h => h), h2.kt hk hb (by decide) (fun _ _ h => h)⟩
theorem RRow.rules {w0 : World} {B : Nat} {w : World} {cs : List Value} {p : PRules} (h : RRow w0 B w cs p) (he : Ext w0 w) : RRules w cs p := by
  obtain ⟨vl, vn, e, h1, h2⟩ := h
  exact ⟨vl, vn, e, (h1.to (R' := RRule) (fun cs x h => RRule.stable _ _ _ _ he h)).sl, h2.sl⟩

/-! ### the desk's block -/
structure DSt (D : Nat) (W : World) (vc : Value) (cl : List PCond) (fee notice : Int) (vp : Value) : Prop where
  d0 : W.cell? ⟨D, 0, none⟩ = some vc
  d1 : W.cell? ⟨D, 1, none⟩ = some (.int .i64 fee)
  d2 : W.cell? ⟨D, 2, none⟩ = some (.int .i64 notice)
  d3 : W.cell? ⟨D, 3, none⟩ = some vp
  f0 : W.frozen? ⟨D, 0, none⟩ = false
  f1 : W.frozen? ⟨D, 1, none⟩ = false
  f2 : W.frozen? ⟨D, 2, none⟩ = false
  f3 : W.frozen? ⟨D, 3, none⟩ = false
  own : OwnL 3 102 RCond (D + 1 + 1) W vc cl
variable {D : Nat} {W W' : World} {vc vp : Value} {cl : List PCond} {fee notice : Int}
theorem DSt.ext (h : DSt D W vc cl fee notice vp) (he : Ext W W') : DSt D W' vc cl fee notice vp := by
  have hP := lt_of_cell h.d0
  exact ⟨he.cell h.d0, he.cell h.d1, he.cell h.d2, he.cell h.d3, he.frz hP h.f0, he.frz hP h.f1, he.frz hP h.f2, he.frz hP h.f3, h.own.ext RCond.stable he⟩
theorem DSt.alloc (h : DSt D W vc cl fee notice vp) (o : Obj) : DSt D (W.alloc o) vc cl fee notice vp := h.ext ((Ext.refl W).alloc o)
theorem DSt.drew (h : DSt D W vc cl fee notice vp) : DSt D W.drew vc cl fee notice vp := h.ext (Ext.refl W).drew
theorem DSt.fee' (h : DSt D W vc cl fee notice vp) (x : Int) : DSt D (W.setCell ⟨D, 1, none⟩ (.int .i64 x)) vc cl x notice vp :=
  ⟨cell_off (by omega) h.d0, cell_set h.d1, cell_off (by omega) h.d2, cell_off (by omega) h.d3, frz_set h.f0, frz_set h.f1, frz_set h.f2, frz_set h.f3, h.own.set (fun _ _ k => k) (show D < D + 1 + 1 by omega)⟩
theorem DSt.notice' (h : DSt D W vc cl fee notice vp) (x : Int) : DSt D (W.setCell ⟨D, 2, none⟩ (.int .i64 x)) vc cl fee x vp :=
  ⟨cell_off (by omega) h.d0, cell_off (by omega) h.d1, cell_set h.d2, cell_off (by omega) h.d3, frz_set h.f0, frz_set h.f1, frz_set h.f2, frz_set h.f3, h.own.set (fun _ _ k => k) (show D < D + 1 + 1 by omega)⟩
theorem DSt.passes' (h : DSt D W vc cl fee notice vp) (v : Value) : DSt D (W.setCell ⟨D, 3, none⟩ v) vc cl fee notice v :=
  ⟨cell_off (by omega) h.d0, cell_off (by omega) h.d1, cell_off (by omega) h.d2, cell_set h.d3, frz_set h.f0, frz_set h.f1, frz_set h.f2, frz_set h.f3, h.own.set (fun _ _ k => k) (show D < D + 1 + 1 by omega)⟩
/-- another row, or the map, or another box has turned -/
theorem DSt.grown (h : DSt D W vc cl fee notice vp) {row : Option Nat} (hg : W.grownBy W' row) (hD : row ≠ some D) (hr : ∀ g, row = some g → vc.ownBlock ≠ some g) : DSt D W' vc cl fee notice vp := by
  have hP := lt_of_cell h.d0
  have c : ∀ o v, W.cell? ⟨D, o, none⟩ = some v → W'.cell? ⟨D, o, none⟩ = some v := fun o v hv => (hg.cell_far ⟨D, o, none⟩ hP (fun e => hD e.symm)).trans hv
  have f : ∀ o, W.frozen? ⟨D, o, none⟩ = false → W'.frozen? ⟨D, o, none⟩ = false := fun o hv => (hg.frozen_far ⟨D, o, none⟩ hP (fun e => hD e.symm)).trans hv
  exact ⟨c _ _ h.d0, c _ _ h.d1, c _ _ h.d2, c _ _ h.d3, f _ h.f0, f _ h.f1, f _ h.f2, f _ h.f3, h.own.grown (fun _ _ k => k) hg hr⟩
theorem ownsRow_set' {w : World} {base : Nat} {e : TypeId} {n m : Nat} {v : Value} {xs : List Value} (h : w.ownsRow base e n v m xs) {p : Addr} (hp : v.ownBlock ≠ some p.block) (u : Value) : (w.setCell p u).ownsRow base e n v m xs := by
  refine ⟨h.1, ?_⟩
  rcases h.2 with h0 | ⟨g, cap, cur, hv, hb, hg, hr⟩
  · exact .inl h0
  · exact .inr ⟨g, cap, cur, hv, hb, (Below.heap_setCell w p u g (fun e => hp (by rw [hv, ← e]; rfl))).trans hg, hr⟩
theorem OwnL.set' {α : Type} {n : Nat} {e : TypeId} {R : World → List Value → α → Prop} {base : Nat} {w : World} {v : Value} {l : List α} {p : Addr} {u : Value} (h : OwnL n e R base w v l) (hR : ∀ cs x, R w cs x → R (w.setCell p u) cs x) (hp : v.ownBlock ≠ some p.block) : OwnL n e R base (w.setCell p u) v l := by
  obtain ⟨css, hl, hown, hx⟩ := h
  exact ⟨css, hl, ownsRow_set' hown hp u, fun i cs x h1 h2 => ⟨(hx i cs x h1 h2).1, hR _ _ (hx i cs x h1 h2).2⟩⟩
theorem DSt.box (h : DSt D W vc cl fee notice vp) {B o : Nat} (hB : B ≠ D) (hr : vc.ownBlock ≠ some B) (u : Value) : DSt D (W.setCell ⟨B, o, none⟩ u) vc cl fee notice vp :=
  ⟨cell_blk (Ne.symm hB) h.d0, cell_blk (Ne.symm hB) h.d1, cell_blk (Ne.symm hB) h.d2, cell_blk (Ne.symm hB) h.d3, frz_set h.f0, frz_set h.f1, frz_set h.f2, frz_set h.f3, h.own.set' (fun _ _ k => k) hr⟩
/-- a condition is appended -/
theorem DSt.app {W1 : World} (h : DSt D W vc cl fee notice vp) {css : List (List Value)} (hl : css.length = cl.length) (hx : ∀ (i : Nat) (cs : List Value) (x : PCond), css[i]? = some cs → cl[i]? = some x → cs.length = 3 ∧ RCond W cs x) (o : Obj) {g cap : Nat} {c : PCond}
    (hown : W.ownsRow (D + 1 + 1) 102 3 vc cl.length css.flatten)
    (h1 : W1.ownsRow (D + 1 + 1) 102 3 (.slice (some ⟨g, 0, none⟩) (cl.length + 1) cap) (cl.length + 1) (css.flatten ++ condCs c)) (hg : (W.alloc o).grownBy W1 vc.ownBlock) :
    DSt D (W1.setCell ⟨D, 0, none⟩ (.slice (some ⟨g, 0, none⟩) (cl.length + 1) cap)) (.slice (some ⟨g, 0, none⟩) (cl.length + 1) cap) (cl ++ [c]) fee notice vp := by
  have h' := h.alloc o
  have hP := lt_of_cell h'.d0
  have nD : vc.ownBlock ≠ some D := own_ne hown (by omega)
  have cc : ∀ k v, W.cell? ⟨D, k, none⟩ = some v → W1.cell? ⟨D, k, none⟩ = some v := fun k v hv => (hg.cell_far ⟨D, k, none⟩ hP (fun e => nD e.symm)).trans (Ext.cell ((Ext.refl W).alloc o) hv)
  have ff : ∀ k, W.frozen? ⟨D, k, none⟩ = false → W1.frozen? ⟨D, k, none⟩ = false := fun k hv => (hg.frozen_far ⟨D, k, none⟩ hP (fun e => nD e.symm)).trans (Ext.frz ((Ext.refl W).alloc o) (lt_of_cell h.d0) hv)
  refine ⟨cell_set (cc _ _ h.d0), cell_off (by omega) (cc _ _ h.d1), cell_off (by omega) (cc _ _ h.d2), cell_off (by omega) (cc _ _ h.d3), frz_set (ff _ h.f0), frz_set (ff _ h.f1), frz_set (ff _ h.f2), frz_set (ff _ h.f3), ?_⟩
  have hx' : ∀ (i : Nat) (cs : List Value) (x : PCond), css[i]? = some cs → cl[i]? = some x → cs.length = 3 ∧ RCond W1 cs x := hx
  exact (OwnL.snoc hl hx' h1 rfl rfl).set (fun _ _ k => k) (show D < D + 1 + 1 by omega)

/-! ### the map of the authorities that were used -/
structure USt (D : Nat) (L : Nat) (W : World) (us : Nat → Bool) (n : Nat) (M : DataW Unit) : Prop where
  own : W.ownsMap (H := Unit) Try.prog 3 (plainElem Try.prog 4) (D + 1) n M
  at' : ∀ a : Nat, a < L → M.atKey (.int .i64 (a : Int)) (.lit (.bool false)) = .lit (.bool (us a))
variable {L n : Nat} {us us' : Nat → Bool} {M : DataW Unit}
theorem USt.ext (h : USt D L W us n M) (he : Ext W W') : USt D L W' us n M := ⟨ownsMap_ext h.own he, h.at'⟩
theorem USt.kept (h : USt D L W us n M) {row : Option Nat} (hg : W.grownBy W' row) (hr : row ≠ some (D + 1)) : USt D L W' us n M := ⟨h.own.kept hg (fun e => hr e.symm), h.at'⟩
theorem USt.set (h : USt D L W us n M) {p : Addr} (hp : p.block ≠ D + 1) (u : Value) : USt D L (W.setCell p u) us n M := ⟨h.own.setCell (Ne.symm hp) u, h.at'⟩
theorem USt.alloc (h : USt D L W us n M) (o : Obj) : USt D L (W.alloc o) us n M := ⟨h.own.alloc o, h.at'⟩
theorem USt.drew (h : USt D L W us n M) : USt D L W.drew us n M := h.ext (Ext.refl W).drew
theorem USt.congr (h : USt D L W us n M) (hu : ∀ j, us j = us' j) : USt D L W us' n M := ⟨h.own, fun a ha => by rw [← hu]; exact h.at' a ha⟩
theorem USt.more (h : USt D L W us n M) {n' : Nat} (hn : n ≤ n') : USt D L W us n' M := ⟨h.own.mono hn, h.at'⟩
theorem USt.ne_row (h : USt D L W us n M) {base m k : Nat} {e : TypeId} {v : Value} {xs : List Value} (ho : W.ownsRow base e k v m xs) : v.ownBlock ≠ some (D + 1) := by
  intro hv
  obtain ⟨es, clock, hb, _⟩ := h.own
  rcases ho.2 with ⟨rfl, _⟩ | ⟨g, cap, cur, rfl, _, hh, _⟩
  · simp [Value.ownBlock] at hv
  · simp only [Value.ownBlock, Option.some.injEq] at hv
    subst hv
    rw [hh] at hb
    simp at hb
theorem USt.put {a : Nat} (h : USt D L W us n M) (hown : W'.ownsMap (H := Unit) Try.prog 3 (plainElem Try.prog 4) (D + 1) (n + 1) (M.put (.int .i64 (a : Int)) (.lit (.bool true)))) :
    USt D L W' (fun j => decide (j = a) || us j) (n + 1) (M.put (.int .i64 (a : Int)) (.lit (.bool true))) := by
  refine ⟨hown, fun b hb => ?_⟩
  by_cases e : b = a
  · subst e
    rw [atKey_put_same h.own.isMap (by simp [WideAt.IsKeyLit])]
    simp
  · rw [atKey_put_other (by simp; omega), h.at' b hb]
    simp [e]
/-- 'm[k]' at truth values, at the operation -/
theorem wpList_lookup_own_bool {H : Type} {P : Program} (w : World) {ops : Array Oper} {rest : List Oper} {o : Oper} {a : Act} {Q : Exit → Act → World → Prop}
    (hg : o.guard = none) (m x : Operand) (t : TypeId) (hop : o.op = Op.lookup t m x false)
    (k e : TypeId) (K : Keyed P k) (ht : P.underlying t = some (.map k e)) (he : P.underlying e = some .bool) (hz : (zeroValue e).run P w = .ok (.bool false) w) (b n : Nat) (D : DataW H)
    (hm : a.eval m = .map (some b)) (hown : w.ownsMap P k (plainElem P e) b n D) (key : Value) (kl : Lit) (hx : a.eval x = key) (hkey : keyOf P k key = some kl) (c : Bool) (hc : D.atKey kl (.lit (.bool false)) = .lit (.bool c))
    (hK : wpList P ops Q rest (a.put o.dst (.bool c)) w) :
    wpList P ops Q (o :: rest) a w := by
  refine wpList_plain hg fun K' hK' => ?_
  obtain ⟨v, ps, hrun, hv⟩ := hown.lookup K ht hz (plainElem_bool he false) hkey
  obtain rfl : v = .bool c := by
    unfold plainElem at hv
    rw [he, hc] at hv
    cases v <;> simp at hv
    rw [hv.1]
  unfold Oper.wp
  simp [execOp, hop, hm, hx, hrun, Result.andThen]
  exact hK' _ _ hK

/-! ### the rules of one passage, while they are gathered -/
structure OSt (w0 : World) (O base : Nat) (W : World) (vl vn : Value) (L : List PRule) (N : List Int) (m : Int) : Prop where
  o0 : W.cell? ⟨O, 0, none⟩ = some vl
  o1 : W.cell? ⟨O, 1, none⟩ = some vn
  o2 : W.cell? ⟨O, 2, none⟩ = some (.int .i64 m)
  g0 : W.frozen? ⟨O, 0, none⟩ = false
  g1 : W.frozen? ⟨O, 1, none⟩ = false
  ol : OwnL 11 58 (fun _ => RRule w0) base W vl L
  on : OwnL 1 3 RInt base W vn N
variable {w0 : World} {O base : Nat} {vl vn : Value} {Ls : List PRule} {Ns : List Int} {m : Int}
theorem OSt.ext (h : OSt w0 O base W vl vn Ls Ns m) (he : Ext W W') : OSt w0 O base W' vl vn Ls Ns m := by
  have hP := lt_of_cell h.o0
  exact ⟨he.cell h.o0, he.cell h.o1, he.cell h.o2, he.frz hP h.g0, he.frz hP h.g1, h.ol.ext (fun _ _ _ _ _ h => h) he, h.on.ext RInt.stable he⟩
theorem OSt.set (h : OSt w0 O base W vl vn Ls Ns m) {B o : Nat} (hO : B ≠ O) (hB : B < base) (u : Value) : OSt w0 O base (W.setCell ⟨B, o, none⟩ u) vl vn Ls Ns m :=
  ⟨cell_blk (Ne.symm hO) h.o0, cell_blk (Ne.symm hO) h.o1, cell_blk (Ne.symm hO) h.o2, frz_set h.g0, frz_set h.g1, h.ol.set (fun _ _ k => k) hB, h.on.set (fun _ _ k => k) hB⟩
theorem OSt.grown (h : OSt w0 O base W vl vn Ls Ns m) {row : Option Nat} (hg : W.grownBy W' row) (hO : row ≠ some O) (h1 : ∀ g, row = some g → vl.ownBlock ≠ some g) (h2 : ∀ g, row = some g → vn.ownBlock ≠ some g) : OSt w0 O base W' vl vn Ls Ns m := by
  have hP := lt_of_cell h.o0
  have c : ∀ o v, W.cell? ⟨O, o, none⟩ = some v → W'.cell? ⟨O, o, none⟩ = some v := fun o v hv => (hg.cell_far ⟨O, o, none⟩ hP (fun e => hO e.symm)).trans hv
  have f : ∀ o, W.frozen? ⟨O, o, none⟩ = false → W'.frozen? ⟨O, o, none⟩ = false := fun o hv => (hg.frozen_far ⟨O, o, none⟩ hP (fun e => hO e.symm)).trans hv
  exact ⟨c _ _ h.o0, c _ _ h.o1, c _ _ h.o2, f _ h.g0, f _ h.g1, h.ol.grown (fun _ _ k => k) hg h1, h.on.grown (fun _ _ k => k) hg h2⟩

/-! ### one rule is gathered: two rows are appended to, then both are stored -/
structure St24 (D Ln B R O : Nat) (wo w2 w0 W : World) (vc : Value) (cl : List PCond) (fee notice : Int) (vp : Value) (us : Nat → Bool) (n : Nat) (M : DataW Unit) (road : ByteArray) (cost : Int) (vl vn rl rn : Value) (L : List PRule) (N : List Int) (m : Int) : Prop where
  d : DSt D W vc cl fee notice vp
  u : USt D Ln W us n M
  k : KT D wo W
  e : Ext w2 W
  b1 : W.cell? ⟨B, 1, none⟩ = some (.string road)
  rc : W.cell? ⟨R, 10, none⟩ = some (.int .i64 cost)
  o0 : W.cell? ⟨O, 0, none⟩ = some vl
  o1 : W.cell? ⟨O, 1, none⟩ = some vn
  o2 : W.cell? ⟨O, 2, none⟩ = some (.int .i64 m)
  g0 : W.frozen? ⟨O, 0, none⟩ = false
  g1 : W.frozen? ⟨O, 1, none⟩ = false
  ol : OwnL 11 58 (fun _ => RRule w0) (O + 1) W rl L
  on : OwnL 1 3 RInt (O + 1) W rn N
variable {Ln B R : Nat} {wo w2 : World} {road : ByteArray} {cost : Int} {rl rn : Value}
theorem St24.ext (h : St24 D Ln B R O wo w2 w0 W vc cl fee notice vp us n M road cost vl vn rl rn Ls Ns m) (he : Ext W W') : St24 D Ln B R O wo w2 w0 W' vc cl fee notice vp us n M road cost vl vn rl rn Ls Ns m := by
  have hP := lt_of_cell h.o0
  exact ⟨h.d.ext he, h.u.ext he, h.k.ext he, h.e.trans he, he.cell h.b1, he.cell h.rc, he.cell h.o0, he.cell h.o1, he.cell h.o2, he.frz hP h.g0, he.frz hP h.g1, h.ol.ext (fun _ _ _ _ _ h => h) he, h.on.ext RInt.stable he⟩
theorem St24.alloc (h : St24 D Ln B R O wo w2 w0 W vc cl fee notice vp us n M road cost vl vn rl rn Ls Ns m) (o : Obj) : St24 D Ln B R O wo w2 w0 (W.alloc o) vc cl fee notice vp us n M road cost vl vn rl rn Ls Ns m := h.ext ((Ext.refl W).alloc o)
theorem St24.drew (h : St24 D Ln B R O wo w2 w0 W vc cl fee notice vp us n M road cost vl vn rl rn Ls Ns m) : St24 D Ln B R O wo w2 w0 W.drew vc cl fee notice vp us n M road cost vl vn rl rn Ls Ns m := h.ext (Ext.refl W).drew
/-- what is known where the blocks lie -/
structure Lie (D B R O : Nat) (wo w2 : World) (rl rn : Value) : Prop where
  w2D : w2.heap.size = D
  DB : D + 1 < B
  Bo : wo.heap.size = B
  BO : B < O
  rR : rl.ownBlock ≠ some R
  nR : rn.ownBlock ≠ some R
theorem St24.far (h : St24 D Ln B R O wo w2 w0 W vc cl fee notice vp us n M road cost vl vn rl rn Ls Ns m) (hL : Lie D B R O wo w2 rl rn) {row : Option Nat} (hg : W.grownBy W' row) (hr : ∀ g, row = some g → O + 1 ≤ g) (hR : row ≠ some R) (hc : ∀ g, row = some g → vc.ownBlock ≠ some g) :
    DSt D W' vc cl fee notice vp ∧ USt D Ln W' us n M ∧ KT D wo W' ∧ Ext w2 W' ∧ W'.cell? ⟨B, 1, none⟩ = some (.string road) ∧ W'.cell? ⟨R, 10, none⟩ = some (.int .i64 cost) ∧
    W'.cell? ⟨O, 0, none⟩ = some vl ∧ W'.cell? ⟨O, 1, none⟩ = some vn ∧ W'.cell? ⟨O, 2, none⟩ = some (.int .i64 m) ∧ W'.frozen? ⟨O, 0, none⟩ = false ∧ W'.frozen? ⟨O, 1, none⟩ = false := by
  obtain ⟨h1, h2, h3, h4, _, _⟩ := hL
  have hP := lt_of_cell h.o0
  have c : ∀ b o v, row ≠ some b → W.cell? ⟨b, o, none⟩ = some v → W'.cell? ⟨b, o, none⟩ = some v := fun b o v hb hv => (hg.cell_far ⟨b, o, none⟩ (lt_of_cell hv) (fun e => hb e.symm)).trans hv
  have nO : row ≠ some O := fun e => by have := hr O e; omega
  have nB : row ≠ some B := fun e => by have := hr B e; omega
  have nD : row ≠ some D := fun e => by have := hr D e; omega
  have nD1 : row ≠ some (D + 1) := fun e => by have := hr _ e; omega
  exact ⟨h.d.grown hg nD hc, h.u.kept hg nD1, h.k.grown hg (fun g e => .inl (by have := hr g e; omega)), h.e.grown hg (fun g e => by have := hr g e; omega), c _ _ _ nB h.b1, c _ _ _ hR h.rc, c _ _ _ nO h.o0, c _ _ _ nO h.o1, c _ _ _ nO h.o2,
    (hg.frozen_far ⟨O, 0, none⟩ hP (fun e => nO e.symm)).trans h.g0, (hg.frozen_far ⟨O, 1, none⟩ hP (fun e => nO e.symm)).trans h.g1⟩
theorem St24.appL (h : St24 D Ln B R O wo w2 w0 W vc cl fee notice vp us n M road cost vl vn rl rn Ls Ns m) (hL : Lie D B R O wo w2 rl rn) {css : List (List Value)} {cs : List Value} {r : PRule} {v' : Value} (hl : css.length = Ls.length) (hx : ∀ (i : Nat) (cs : List Value) (x : PRule), css[i]? = some cs → Ls[i]? = some x → cs.length = 11 ∧ RRule w0 cs x)
    (hown : W'.ownsRow (O + 1) 58 11 v' (Ls.length + 1) (css.flatten ++ cs)) (hn : cs.length = 11) (hr : RRule w0 cs r) (hg : W.grownBy W' rl.ownBlock) :
    St24 D Ln B R O wo w2 w0 W' vc cl fee notice vp us n M road cost vl vn v' rn (Ls ++ [r]) Ns m := by
  obtain ⟨_, _, ho, _⟩ := h.ol
  obtain ⟨_, _, hoc, _⟩ := h.d.own
  obtain ⟨_, _, hon, _⟩ := h.on
  obtain ⟨q1, q2, q3, q4, q5, q6, q7, q8, q9, q10, q11⟩ := h.far hL hg (fun g e => own_ge ho g e) hL.rR (fun g e => own_types hoc ho (by decide) e)
  exact ⟨q1, q2, q3, q4, q5, q6, q7, q8, q9, q10, q11, OwnL.snoc (R := fun _ => RRule w0) hl hx hown hn hr, h.on.grown (fun _ _ k => k) hg (fun g e => own_types hon ho (by decide) e)⟩
theorem St24.appN (h : St24 D Ln B R O wo w2 w0 W vc cl fee notice vp us n M road cost vl vn rl rn Ls Ns m) (hL : Lie D B R O wo w2 rl rn) {css : List (List Value)} {x : Int} {v' : Value} (hl : css.length = Ns.length) (hx : ∀ (i : Nat) (cs : List Value) (x : Int), css[i]? = some cs → Ns[i]? = some x → cs.length = 1 ∧ RInt w0 cs x)
    (hown : W'.ownsRow (O + 1) 3 1 v' (Ns.length + 1) (css.flatten ++ [.int .i64 x])) (hg : W.grownBy W' rn.ownBlock) :
    St24 D Ln B R O wo w2 w0 W' vc cl fee notice vp us n M road cost vl vn rl v' Ls (Ns ++ [x]) m := by
  obtain ⟨_, _, ho, _⟩ := h.on
  obtain ⟨_, _, hoc, _⟩ := h.d.own
  obtain ⟨_, _, hol, _⟩ := h.ol
  obtain ⟨q1, q2, q3, q4, q5, q6, q7, q8, q9, q10, q11⟩ := h.far hL hg (fun g e => own_ge ho g e) hL.nR (fun g e => own_types hoc ho (by decide) e)
  exact ⟨q1, q2, q3, q4, q5, q6, q7, q8, q9, q10, q11, h.ol.grown (fun _ _ k => k) hg (fun g e => own_types hol ho (by decide) e), OwnL.snoc (R := RInt) hl hx hown rfl rfl⟩
theorem St24.store (h : St24 D Ln B R O wo w2 w0 W vc cl fee notice vp us n M road cost vl vn rl rn Ls Ns m) (hL : Lie D B R O wo w2 vl vn) (hRO : O < R) (hvc : ∀ g, vc.ownBlock = some g → g < B ∨ O < g) :
    St24 D Ln B R O wo w2 w0 ((W.setCell ⟨O, 0, none⟩ rl).setCell ⟨O, 1, none⟩ rn) vc cl fee notice vp us n M road cost rl rn rl rn Ls Ns m := by
  obtain ⟨h1, h2, h3, h4, _, _⟩ := hL
  have nO : vc.ownBlock ≠ some O := fun e => by have := hvc O e; omega
  exact ⟨(h.d.box (by omega) nO _).box (by omega) nO _, (h.u.set (show O ≠ D + 1 by omega) _).set (show O ≠ D + 1 by omega) _, (h.k.set (p := ⟨O, 0, none⟩) (.inr (show wo.heap.size ≤ O by omega)) _).set (p := ⟨O, 1, none⟩) (.inr (show wo.heap.size ≤ O by omega)) _, (h.e.set (p := ⟨O, 0, none⟩) (show w2.heap.size ≤ O by omega) _).set (p := ⟨O, 1, none⟩) (show w2.heap.size ≤ O by omega) _,
    cell_blk (by omega) (cell_blk (by omega) h.b1), cell_blk (by omega) (cell_blk (by omega) h.rc), cell_off (by omega) (cell_set h.o0), cell_set (cell_off (by omega) h.o1), cell_off (by omega) (cell_off (by omega) h.o2), frz_set (frz_set h.g0), frz_set (frz_set h.g1),
    (h.ol.set (fun _ _ k => k) (show O < O + 1 by omega)).set (fun _ _ k => k) (show O < O + 1 by omega), (h.on.set (fun _ _ k => k) (show O < O + 1 by omega)).set (fun _ _ k => k) (show O < O + 1 by omega)⟩
end Go.Proofs.Ytaomlmkcifpfkaa
