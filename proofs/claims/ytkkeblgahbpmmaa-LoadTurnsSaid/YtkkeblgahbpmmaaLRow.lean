
/- Rows of the call's own whose elements are a few cells each: what a store changes, how they read; slices.Clone at pieces and at eyes. -/
import Derived.Test.YtkkeblgahbpmmaaLEnv
import Derived.Deep.AppendLies
import Derived.Lib.SliceRun
namespace Go.Proofs.Ytkkeblgahbpmmaa
open Go.RowKit

section
variable {α : Type} {enc : α → List Value} {k : Nat}
def OwnR (enc : α → List Value) (k : Nat) (e : TypeId) (base : Nat) (w : World) (v : Value) (l : List α) : Prop := w.ownsRow base e k v l.length (l.map enc).flatten
theorem fl_get (hk : ∀ x, (enc x).length = k) : ∀ {l : List α} {i : Nat} {x : α}, l[i]? = some x → ∀ j c, (enc x)[j]? = some c → (l.map enc).flatten[i * k + j]? = some c
  | [], i, x, h, j, c, _ => by simp at h
  | d :: l, 0, x, h, j, c, hj => by
    simp only [List.getElem?_cons_zero, Option.some.injEq] at h
    subst h
    rw [List.map_cons, List.flatten_cons, Nat.zero_mul, Nat.zero_add, List.getElem?_append_left (lt_of_some hj)]
    exact hj
  | d :: l, i + 1, x, h, j, c, hj => by
    have hd := hk d
    rw [List.map_cons, List.flatten_cons, List.getElem?_append_right (by rw [hd, Nat.succ_mul]; omega), hd, show (i + 1) * k + j - k = i * k + j by rw [Nat.succ_mul]; omega]
    exact fl_get hk (by simpa using h) j c hj
theorem fl_len (hk : ∀ x, (enc x).length = k) (l : List α) : (l.map enc).flatten.length = l.length * k := by
  induction l with
  | nil => simp
  | cons a l ih => rw [List.map_cons, List.flatten_cons, List.length_append, hk, ih, List.length_cons, Nat.succ_mul]; omega
theorem fl_set (hk : ∀ x, (enc x).length = k) {j : Nat} (hj : j < k) {u : Value} : ∀ {l : List α} {i : Nat} {x y : α}, l[i]? = some x → enc y = (enc x).set j u → (l.map enc).flatten.set (i * k + j) u = ((l.set i y).map enc).flatten
  | [], i, x, y, h, _ => by simp at h
  | d :: l, 0, x, y, h, hy => by
    simp only [List.getElem?_cons_zero, Option.some.injEq] at h
    subst h
    rw [List.set_cons_zero, List.map_cons, List.map_cons, List.flatten_cons, List.flatten_cons, Nat.zero_mul, Nat.zero_add, List.set_append_left _ _ (by rw [hk]; exact hj), hy]
  | d :: l, i + 1, x, y, h, hy => by
    have hd := hk d
    rw [List.set_cons_succ, List.map_cons, List.map_cons, List.flatten_cons, List.flatten_cons, List.set_append_right _ _ (by rw [hd, Nat.succ_mul]; omega), hd, show (i + 1) * k + j - k = i * k + j by rw [Nat.succ_mul]; omega, fl_set hk hj (by simpa using h) hy]
variable {e : TypeId} {base : Nat} {w : World} {v : Value} {l : List α}
theorem OwnR.shape (h : OwnR enc k e base w v l) : ∃ (A : Option Addr) (c : Nat), v = .slice A l.length c ∧ l.length ≤ c ∧ c ≤ maxLen := by
  rcases h.2 with ⟨rfl, h0⟩ | ⟨g, cap, cur, rfl, _, _, hle, hm, _⟩
  · exact ⟨none, 0, by rw [h0], by omega, by omega⟩
  · exact ⟨_, _, rfl, hle, hm⟩
theorem OwnR.form (h : OwnR enc k e base w v l) (h0 : 0 < l.length) : ∃ g cap, v = .slice (some ⟨g, 0, none⟩) l.length cap ∧ base ≤ g ∧ g < w.heap.size := by
  rcases h.2 with ⟨rfl, h0'⟩ | ⟨g, cap, cur, rfl, hb, hg, hle, hm, _⟩
  · omega
  · exact ⟨_, _, rfl, hb, (Array.getElem?_eq_some_iff.1 hg).1⟩
theorem OwnR.cell (hk : ∀ x, (enc x).length = k) {g c n : Nat} (h : OwnR enc k e base w (.slice (some ⟨g, 0, none⟩) n c) l) {i : Nat} {x : α} (hi : l[i]? = some x) {j : Nat} {u : Value} (hj : (enc x)[j]? = some u) : w.cell? ⟨g, i * k + j, none⟩ = some u ∧ w.frozen? ⟨g, i * k + j, none⟩ = false := by
  obtain ⟨hl, ⟨h1, _⟩ | ⟨g', cap', cur, hv, hb, hg, hle, hm, hcs, hct⟩⟩ := h
  · cases h1
  · simp only [Value.slice.injEq, Option.some.injEq, Addr.mk.injEq, and_true] at hv
    obtain ⟨rfl, _⟩ := hv
    have h1 := fl_get hk hi j u hj
    rw [← hct, List.getElem?_take] at h1
    split at h1
    · exact ⟨by simpa [World.cell?, hg] using h1, by simp [World.frozen?, hg]⟩
    · cases h1
theorem OwnR.set (hk : ∀ x, (enc x).length = k) {g c n : Nat} (h : OwnR enc k e base w (.slice (some ⟨g, 0, none⟩) n c) l) {i : Nat} {x y : α} (hi : l[i]? = some x) {j : Nat} (hj : j < k) {u : Value} (hy : enc y = (enc x).set j u) :
    OwnR enc k e base (w.setCell ⟨g, i * k + j, none⟩ u) (.slice (some ⟨g, 0, none⟩) n c) (l.set i y) := by
  obtain ⟨hl, ⟨h1, _⟩ | ⟨g', cap', cur, hv, hb, hg, hle, hm, hcs, hct⟩⟩ := h
  · cases h1
  · simp only [Value.slice.injEq, Option.some.injEq, Addr.mk.injEq, and_true] at hv
    obtain ⟨rfl, rfl, rfl⟩ := hv
    unfold OwnR
    rw [List.length_set]
    refine ⟨by rw [fl_len hk, List.length_set], .inr ⟨g, c, cur.setIfInBounds (i * k + j) u, rfl, hb, ?_, hle, hm, by simpa using hcs, ?_⟩⟩
    · obtain ⟨hlt, hkk⟩ := Array.getElem?_eq_some_iff.1 hg
      show (w.heap.modify g _)[g]? = _
      rw [Array.getElem?_eq_getElem (by rw [Array.size_modify]; exact hlt), Array.getElem_modify_self, hkk]
      rfl
    · rw [Array.toList_setIfInBounds, List.take_set, hct]
      exact fl_set hk hj hi hy
theorem OwnR.ext {w' : World} (h : OwnR enc k e base w v l) (he : Ext w w') : OwnR enc k e base w' v l := ownsRow_ext' he h
theorem OwnR.kept {w' : World} {row : Option Nat} (h : OwnR enc k e base w v l) (hg : w.grownBy w' row) (hne : v.ownBlock = none ∨ v.ownBlock ≠ row) : OwnR enc k e base w' v l := World.ownsRow.kept h hg hne
theorem OwnR.down {base' : Nat} (h : OwnR enc k e base w v l) (hb : base' ≤ base) : OwnR enc k e base' w v l := own_down h hb
theorem OwnR.nil : OwnR enc k e base w (.slice none 0 0) [] := by
  have := World.ownsRow_nil w base e k
  simpa [OwnR] using this
theorem OwnR.sl (hk : ∀ x, (enc x).length = k) {R : World → List Value → α → Prop} (hR : ∀ w x, R w (enc x) x) (h : OwnR enc k e base w v l) : Sl k R w v l := by
  have hh := h
  rcases h.2 with ⟨rfl, h0⟩ | ⟨g, cap, cur, rfl, hb, hg, hle, hm, _⟩
  · have hl0 : l = [] := List.eq_nil_of_length_eq_zero h0
    subst hl0
    exact Sl.none _ _
  · refine ⟨some ⟨g, 0, none⟩, cap, rfl, by unfold maxLen at hm; omega, hle, fun i x hi => ⟨g, 0, enc x, rfl, hk x, hR w x, fun j c hj => ?_⟩⟩
    have := (OwnR.cell hk hh hi hj).1
    rwa [Nat.zero_add]
/-- the flat cells of a slice that reads as a list -/
theorem Sl.flat (hk0 : 0 < k) (hk : ∀ x, (enc x).length = k) {R : World → List Value → α → Prop} (hR : ∀ w cs x, R w cs x → cs = enc x) {a : Addr} {n c : Nat} (h : Sl k R w (.slice (some a) n c) l) : ∀ (j : Nat) (u : Value), (l.map enc).flatten[j]? = some u → w.cell? (a.add j) = some u := by
  intro j u hu
  have hj := lt_of_some hu
  rw [fl_len hk] at hj
  have hi : j / k < l.length := by rw [Nat.div_lt_iff_lt_mul hk0]; exact hj
  obtain ⟨x, hx⟩ := some_of_lt hi
  obtain ⟨b, off, cs, hA, h1, h2, hc⟩ := h.at hx
  obtain rfl := hR _ _ _ h2
  simp only [Option.some.injEq] at hA
  subst hA
  have hr : j % k < (enc x).length := by rw [hk]; exact Nat.mod_lt _ hk0
  have e : j / k * k + j % k = j := by rw [Nat.mul_comm]; exact Nat.div_add_mod j k
  have hf := fl_get hk hx (j % k) _ (List.getElem?_eq_getElem hr)
  rw [e, hu] at hf
  have hc' := hc (j % k) _ (List.getElem?_eq_getElem hr)
  rw [Nat.add_assoc, e] at hc'
  rw [add_none, hc', ← hf]
end
theorem pieceCs_len (x : LPiece) : (pieceCs x).length = 7 := rfl
theorem eyeCs_len (x : LEye) : (eyeCs x).length = 4 := rfl
theorem pieceCs_one (l : List LPiece) : ∀ u ∈ (l.map pieceCs).flatten, u.oneCell' = true := by
  intro u hu
  obtain ⟨c, hc, hu⟩ := List.mem_flatten.1 hu
  obtain ⟨x, _, rfl⟩ := List.mem_map.1 hc
  simp [pieceCs] at hu
  rcases hu with rfl | rfl | rfl | rfl | rfl | rfl | rfl <;> rfl
theorem eyeCs_one (l : List LEye) : ∀ u ∈ (l.map eyeCs).flatten, u.oneCell' = true := by
  intro u hu
  obtain ⟨c, hc, hu⟩ := List.mem_flatten.1 hu
  obtain ⟨x, _, rfl⟩ := List.mem_map.1 hc
  simp [eyeCs] at hu
  rcases hu with rfl | rfl | rfl | rfl <;> rfl
theorem info_partsL {p : Option TypeInfo} {z : Option Value} {n b : Nat} (h : p.map (fun i => (i.zero, i.size, i.bytes)) = some (z, n, b)) : ∃ i, p = some i ∧ i.zero = z ∧ i.size = n ∧ i.bytes = b := by
  cases p with
  | none => simp at h
  | some i =>
    simp only [Option.map_some, Option.some.injEq, Prod.mk.injEq] at h
    exact ⟨i, rfl, h.1, h.2.1, h.2.2⟩
theorem infoPiece : (Try.prog.info? 64).map (fun i => (i.zero, i.size, i.bytes)) = some (some (.agg #[.int .i64 0, .int .i64 0, .int .i64 0, .int .i64 0, .int .i64 0, .int .i64 0, .int .i64 0]), 7, 56) := by kernel_rfl
theorem infoEye : (Try.prog.info? 66).map (fun i => (i.zero, i.size, i.bytes)) = some (some (.agg #[.int .i64 0, .int .i64 0, .int .i64 0, .int .i64 0]), 4, 32) := by kernel_rfl
set_option maxRecDepth 100000 in
set_option maxHeartbeats 1600000 in
theorem clonePiece_c (v : Value) (l : List LPiece) (w : World) (hs : Sl 7 RPiece w v l) (hlen : l.length ≤ 1000) :
    Calls Try.prog 66 #[v] w fun e w' => ∃ v', e = .returned v' ∧ OwnR pieceCs 7 64 w.heap.size w' v' l ∧ Ext w w' := by
  obtain ⟨A, cap, rfl, hl, hcap⟩ := hs.shape
  have hq : ∀ (w : World) (a : Option Addr) (n c n' c' : Nat), (binOp .eql 22 (.slice a n c) (.slice none n' c')).run Try.prog w = .ok (.bool a.isNone) w := fun w a n c n' c' => Lib.run_eql_slice_nil w _ _ a n c n' c' Try.underlying22
  obtain ⟨i1, hi1, hi10, hi11, hi12⟩ := info_partsL infoPiece
  cases A with
  | none =>
    have hl0 : l = [] := by
      cases l with
      | nil => rfl
      | cons a l =>
        obtain ⟨_, _, _, h, _⟩ := hs.at (i := 0) (x := a) rfl
        cases h
    subst hl0
    clear hs
    go_enter Try.func66, Try.ntmps66
    go_wp2
    go_ret
    exact ⟨_, rfl, OwnR.nil, by (repeat' (first | exact Ext.refl _ | assumption | refine Ext.alloc ?_ _ | refine Ext.drew ?_ | refine Ext.drewN ?_ _ | refine Ext.set ?_ (by first | exact Nat.le_refl _ | exact le1 _ | exact le2 _ | exact le3 _ | exact le4 _ | exact le5 _ | exact le6 _) _ | refine Ext.trans ?_ (by assumption)))⟩
  | some a =>
    have HC := Lib.hid ((hs.ext RPiece.stable ((Ext.refl w).alloc (.cells #[] 64))).flat (by decide) pieceCs_len (fun _ _ _ h => h))
    clear hs
    go_enter Try.func66, Try.ntmps66
    go_upto_region 4 with (at_builtin; refine wpList_append_own _ rfl _ _ 22 rfl w.heap.size 64 i1 _ 7 56 Try.underlying22 hi1 hi10 hi11 hi12 rfl (by omega) _ _ _ rfl (World.ownsRow_made w #[] 0 (Nat.le_refl _) (Nat.zero_le _) (by simp)) a l.length cap (l.map pieceCs).flatten rfl (fl_len pieceCs_len l) HC.out (pieceCs_one l) (by unfold maxLen; omega) (by omega) (by simp) ?_; intro v' w4 hown4 hgrow4 hnil4)
    go_ret
    exact ⟨_, rfl, by simpa [OwnR] using hown4, Ext.grown ((Ext.refl w).alloc _) hgrow4 (fun k hk => by have h : w.heap.size = k := Option.some.inj hk; omega)⟩
set_option maxRecDepth 100000 in
set_option maxHeartbeats 1600000 in
theorem cloneEye_c (v : Value) (l : List LEye) (w : World) (hs : Sl 4 REye w v l) (hlen : l.length ≤ 1000) :
    Calls Try.prog 67 #[v] w fun e w' => ∃ v', e = .returned v' ∧ OwnR eyeCs 4 66 w.heap.size w' v' l ∧ Ext w w' := by
  obtain ⟨A, cap, rfl, hl, hcap⟩ := hs.shape
  have hq : ∀ (w : World) (a : Option Addr) (n c n' c' : Nat), (binOp .eql 23 (.slice a n c) (.slice none n' c')).run Try.prog w = .ok (.bool a.isNone) w := fun w a n c n' c' => Lib.run_eql_slice_nil w _ _ a n c n' c' Try.underlying23
  obtain ⟨i1, hi1, hi10, hi11, hi12⟩ := info_partsL infoEye
  cases A with
  | none =>
    have hl0 : l = [] := by
      cases l with
      | nil => rfl
      | cons a l =>
        obtain ⟨_, _, _, h, _⟩ := hs.at (i := 0) (x := a) rfl
        cases h
    subst hl0
    clear hs
    go_enter Try.func67, Try.ntmps67
    go_wp2
    go_ret
    exact ⟨_, rfl, OwnR.nil, by (repeat' (first | exact Ext.refl _ | assumption | refine Ext.alloc ?_ _ | refine Ext.drew ?_ | refine Ext.drewN ?_ _ | refine Ext.set ?_ (by first | exact Nat.le_refl _ | exact le1 _ | exact le2 _ | exact le3 _ | exact le4 _ | exact le5 _ | exact le6 _) _ | refine Ext.trans ?_ (by assumption)))⟩
  | some a =>
    have HC := Lib.hid ((hs.ext REye.stable ((Ext.refl w).alloc (.cells #[] 66))).flat (by decide) eyeCs_len (fun _ _ _ h => h))
    clear hs
    go_enter Try.func67, Try.ntmps67
    go_upto_region 4 with (at_builtin; refine wpList_append_own _ rfl _ _ 23 rfl w.heap.size 66 i1 _ 4 32 Try.underlying23 hi1 hi10 hi11 hi12 rfl (by omega) _ _ _ rfl (World.ownsRow_made w #[] 0 (Nat.le_refl _) (Nat.zero_le _) (by simp)) a l.length cap (l.map eyeCs).flatten rfl (fl_len eyeCs_len l) HC.out (eyeCs_one l) (by unfold maxLen; omega) (by omega) (by simp) ?_; intro v' w4 hown4 hgrow4 hnil4)
    go_ret
    exact ⟨_, rfl, by simpa [OwnR] using hown4, Ext.grown ((Ext.refl w).alloc _) hgrow4 (fun k hk => by have h : w.heap.size = k := Option.some.inj hk; omega)⟩
end Go.Proofs.Ytkkeblgahbpmmaa
