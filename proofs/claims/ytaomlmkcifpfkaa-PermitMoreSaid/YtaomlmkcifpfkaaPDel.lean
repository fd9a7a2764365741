/- Contracts: slices.Clone and slices.Delete of one element, at rules and at numbers. -/
import Derived.Test.YtaomlmkcifpfkaaPKindAll
import Derived.Deep.RegionLaw
import Derived.Lib.SliceRun
namespace Go.Proofs.Ytaomlmkcifpfkaa
open Go.RowKit

section
variable {α : Type}
/-- the rows of a slice that reads as a list -/
theorem Sl.rows {n : Nat} (hn : 0 < n) {R : World → List Value → α → Prop} {w : World} {A : Option Addr} {len cap : Nat} {l : List α} (h : Sl n R w (.slice A len cap) l) :
    ∃ css : List (List Value), css.length = l.length ∧ (∀ (i : Nat) (cs : List Value) (x : α), css[i]? = some cs → l[i]? = some x → cs.length = n ∧ R w cs x) ∧
      ∀ (j : Nat) (u : Value), css.flatten[j]? = some u → ∃ b off, A = some ⟨b, off, none⟩ ∧ w.cell? ⟨b, off + j, none⟩ = some u := by
  have key : ∀ i, ∃ cs : List Value, ∀ x, l[i]? = some x → cs.length = n ∧ R w cs x ∧ ∃ b off, A = some ⟨b, off, none⟩ ∧ ∀ j c, cs[j]? = some c → w.cell? ⟨b, off + i * n + j, none⟩ = some c := by
    intro i
    by_cases hi : i < l.length
    · obtain ⟨x, hx⟩ := some_of_lt hi
      obtain ⟨b, off, cs, hA, hl, hr, hc⟩ := h.at hx
      refine ⟨cs, fun y hy => ?_⟩
      rw [hx] at hy
      obtain rfl := Option.some.inj hy
      exact ⟨hl, hr, b, off, hA, hc⟩
    · exact ⟨[], fun x hx => absurd (lt_of_some hx) hi⟩
  have hcs : ∀ i cs, ((List.range l.length).map fun i => Classical.choose (key i))[i]? = some cs → i < l.length ∧ cs = Classical.choose (key i) := by
    intro i cs hi
    have hlt := lt_of_some hi
    rw [List.length_map, List.length_range] at hlt
    refine ⟨hlt, ?_⟩
    rw [List.getElem?_map, List.getElem?_range hlt] at hi
    exact (Option.some.inj hi).symm
  refine ⟨(List.range l.length).map fun i => Classical.choose (key i), by simp, fun i cs x hi hx => ?_, fun j u hu => ?_⟩
  · obtain ⟨_, rfl⟩ := hcs i cs hi
    have := Classical.choose_spec (key i) x hx
    exact ⟨this.1, this.2.1⟩
  · have hun : ∀ c ∈ (List.range l.length).map fun i => Classical.choose (key i), c.length = n := by
      intro c hc
      obtain ⟨i, hi, rfl⟩ := List.mem_map.1 hc
      obtain ⟨x, hx⟩ := some_of_lt (List.mem_range.1 hi)
      exact (Classical.choose_spec (key i) x hx).1
    have hlen : ((List.range l.length).map fun i => Classical.choose (key i)).flatten.length = l.length * n := by
      rw [List.length_flatten]
      have : ((List.range l.length).map fun i => Classical.choose (key i)).map List.length = List.replicate l.length n := by
        apply List.eq_replicate_iff.2
        refine ⟨by simp, fun b hb => ?_⟩
        obtain ⟨c, hc, rfl⟩ := List.mem_map.1 hb
        exact hun c hc
      rw [this]; simp
    have hj := lt_of_some hu
    rw [hlen] at hj
    have hi : j / n < l.length := by rw [Nat.div_lt_iff_lt_mul hn]; exact hj
    obtain ⟨x, hx⟩ := some_of_lt hi
    obtain ⟨h1, h2, b, off, hA, hc⟩ := Classical.choose_spec (key (j / n)) x hx
    have hr : j % n < (Classical.choose (key (j / n))).length := by rw [h1]; exact Nat.mod_lt _ hn
    have e : j / n * n + j % n = j := by rw [Nat.mul_comm]; exact Nat.div_add_mod j n
    have hf := flatten_get hun (i := j / n) (cs := Classical.choose (key (j / n))) (by simp [hi]) (j % n) _ (List.getElem?_eq_getElem hr)
    rw [e, hu] at hf
    have hc' := hc (j % n) _ (List.getElem?_eq_getElem hr)
    rw [Nat.add_assoc, e] at hc'
    exact ⟨b, off, hA, by rw [hc', ← hf]⟩
theorem flat_len' {n : Nat} : ∀ {css : List (List Value)}, (∀ c ∈ css, c.length = n) → css.flatten.length = css.length * n
  | [], _ => by simp
  | c :: css, h => by
    rw [List.flatten_cons, List.length_append, h c List.mem_cons_self, flat_len' (fun c hc => h c (List.mem_cons_of_mem _ hc)), List.length_cons, Nat.succ_mul]
    omega
theorem flat_split {n : Nat} {css : List (List Value)} (h : ∀ c ∈ css, c.length = n) (i : Nat) (hi : i ≤ css.length) : css.flatten.take (i * n) = (css.take i).flatten ∧ css.flatten.drop (i * n) = (css.drop i).flatten := by
  have e : css.flatten = (css.take i).flatten ++ (css.drop i).flatten := by rw [← List.flatten_append, List.take_append_drop]
  have hl : (css.take i).flatten.length = i * n := by
    rw [flat_len' (fun c hc => h c (List.mem_of_mem_take hc)), List.length_take, Nat.min_eq_left hi]
  rw [e]
  exact ⟨List.take_left' hl, List.drop_left' hl⟩
end

/-- a run of stores into a block -/
theorem setCells_block {g : Nat} {e : TypeId} {fr : Nat × Nat} : ∀ (vs : List Value) (o : Nat) (w : World) (cur : Array Value), w.heap[g]? = some (.cells cur e fr) → o + vs.length ≤ cur.size →
    ∃ cur' : Array Value, (w.setCells g o vs).heap[g]? = some (.cells cur' e fr) ∧ cur'.toList = cur.toList.take o ++ vs ++ cur.toList.drop (o + vs.length)
  | [], o, w, cur, h, _ => ⟨cur, h, by simp⟩
  | v :: vs, o, w, cur, h, hl => by
    simp only [List.length_cons] at hl
    have h1 : (w.setCell ⟨g, o, none⟩ v).heap[g]? = some (.cells (cur.setIfInBounds o v) e fr) := by
      obtain ⟨hlt, hk⟩ := Array.getElem?_eq_some_iff.1 h
      show (w.heap.modify g _)[g]? = _
      rw [Array.getElem?_eq_getElem (by rw [Array.size_modify]; exact hlt), Array.getElem_modify_self, hk]
      rfl
    obtain ⟨cur', h2, h3⟩ := setCells_block vs (o + 1) _ _ h1 (by simp; omega)
    refine ⟨cur', h2, ?_⟩
    rw [h3]
    apply List.ext_getElem?
    intro k
    have ho : o < cur.toList.length := by simp; omega
    simp only [Array.toList_setIfInBounds, List.length_cons]
    rw [List.drop_set_of_lt (by omega), List.take_set]
    have e1 : ((cur.toList.take (o + 1)).set o v) = cur.toList.take o ++ [v] := by
      rw [List.take_succ_eq_append_getElem ho, List.set_append_right _ _ (by rw [List.length_take]; omega)]
      have : o - (cur.toList.take o).length = 0 := by simp; omega
      rw [this]; rfl
    rw [e1]
    simp only [List.append_assoc, List.cons_append, List.nil_append]
    rw [show o + 1 + vs.length = o + (vs.length + 1) by omega]
theorem heap_setCells {g k : Nat} : ∀ (vs : List Value) (o : Nat) (w : World), k ≠ g → (w.setCells g o vs).heap[k]? = w.heap[k]?
  | [], _, _, _ => rfl
  | v :: vs, o, w, h => (heap_setCells vs (o + 1) _ h).trans (Below.heap_setCell w ⟨g, o, none⟩ v k h)
theorem size_setCells' {g : Nat} : ∀ (vs : List Value) (o : Nat) (w : World), (w.setCells g o vs).heap.size = w.heap.size
  | [], _, _ => rfl
  | v :: vs, o, w => (size_setCells' vs (o + 1) _).trans (size_setCell w _ v)
theorem below_setCells {b g : Nat} (hg : b ≤ g) {w : World} : ∀ (vs : List Value) (o : Nat) (W : World), Below b w W → Below b w (W.setCells g o vs)
  | [], _, _, h => h
  | v :: vs, o, _, h => below_setCells hg vs (o + 1) _ (h.setCell hg v)
theorem grown_setCells {g : Nat} {w : World} : ∀ (vs : List Value) (o : Nat) (W : World), w.grownBy W (some g) → w.grownBy (W.setCells g o vs) (some g)
  | [], _, _, h => h
  | v :: vs, o, W, ⟨h1, h2, h3, h4, h5⟩ => grown_setCells vs (o + 1) _ ⟨h1, h2, h3, by rw [size_setCell]; exact h4, fun k hk hne => (Below.heap_setCell W ⟨g, o, none⟩ v k (fun e => hne (by rw [e]))).trans (h5 k hk hne)⟩
theorem World.grownBy_drew (w : World) (r : Option Nat) : w.grownBy w.drew r := ⟨rfl, rfl, rfl, Nat.le_refl _, fun _ _ _ => rfl⟩
/-- a row of which one element is taken out -/
theorem own_delete {w : World} {base g cap n i : Nat} {e : TypeId} {size : Nat} {css : List (List Value)} {zs : List Value} (hu : ∀ c ∈ css, c.length = size) (hn : css.length = n)
    (h : w.ownsRow base e size (.slice (some ⟨g, 0, none⟩) n cap) n css.flatten) (hi : i < n) (hz : zs.length = size) :
    ((w.setCells g (i * size) (css.drop (i + 1)).flatten).setCells g ((n - 1) * size) zs).ownsRow base e size (.slice (some ⟨g, 0, none⟩) (n - 1) cap) (n - 1) (css.eraseIdx i).flatten := by
  obtain ⟨hlen, ⟨h1, _⟩ | ⟨g', cap', cur, hv, hb, hg, hle, hm, hcs, hct⟩⟩ := h
  · cases h1
  · simp only [Value.slice.injEq, Option.some.injEq, Addr.mk.injEq, and_true, true_and] at hv
    obtain ⟨rfl, rfl⟩ := hv
    have hdl : ((css.drop (i + 1)).flatten).length = (n - (i + 1)) * size := by rw [flat_len' (fun c hc => hu c (List.mem_of_mem_drop hc)), List.length_drop, hn]
    have hel : (css.eraseIdx i).length = n - 1 := by rw [List.length_eraseIdx_of_lt (by omega), hn]
    have s1 : i * size + (n - (i + 1)) * size = (n - 1) * size := by rw [← Nat.add_mul]; congr 1; omega
    have s2 : (n - 1) * size + size = n * size := by rw [← Nat.succ_mul]; congr 1; omega
    have s3 : n * size ≤ cap * size := Nat.mul_le_mul_right _ hle
    obtain ⟨cur1, hc1, hl1⟩ := setCells_block (css.drop (i + 1)).flatten (i * size) w cur hg (by rw [hdl]; omega)
    have hcl : cur.toList.length = cap * size := by simpa using hcs
    have hcl1 : cur1.toList.length = cap * size := by
      rw [hl1]; simp only [List.length_append, List.length_take, List.length_drop, hdl, hcl]; omega
    have hsz1 : cur1.size = cap * size := by simpa using hcl1
    obtain ⟨cur2, hc2, hl2⟩ := setCells_block zs ((n - 1) * size) _ cur1 hc1 (by rw [hz, hsz1]; omega)
    have hsz2 : cur2.size = cap * size := by
      have : cur2.toList.length = cap * size := by
        rw [hl2]; simp only [List.length_append, List.length_take, List.length_drop, hz, hcl1]; omega
      simpa using this
    refine ⟨by rw [flat_len' (fun c hc => hu c (List.mem_of_mem_eraseIdx hc)), hel], .inr ⟨g, cap, cur2, rfl, hb, hc2, by omega, hm, hsz2, ?_⟩⟩
    have t1 : (cur1.toList.take ((n - 1) * size)).length = (n - 1) * size := by rw [List.length_take, hcl1]; omega
    rw [hl2, List.append_assoc, List.take_left' t1, hl1]
    have t2 : (cur.toList.take (i * size) ++ (css.drop (i + 1)).flatten).length = (n - 1) * size := by
      simp only [List.length_append, List.length_take, hdl, hcl]; omega
    rw [List.take_left' t2, List.eraseIdx_eq_take_drop_succ, List.flatten_append]
    congr 1
    rw [← (flat_split hu i (by omega)).1, ← hct, List.take_take]
    congr 1
    have : i * size ≤ n * size := Nat.mul_le_mul_right _ (by omega)
    omega
/-- 'clear' at a slice of one element -/
theorem run_clear_one {P : Program} (w : World) (t e ty : TypeId) (z : Value) (zs : List Value) (ht : P.underlying t = some (.slice e)) (hv : ∀ w, (zeroValue e).run P w = .ok z w) (hz : (Builtin.zeroCells z.cells 1).toList = zs) (h1 : ∀ u ∈ zs, u.oneCell' = true) (b o c : Nat)
    (hc : ∀ j, j < zs.length → (w.cell? ⟨b, o + j, none⟩).isSome = true) (hf : ∀ j, j < zs.length → w.frozen? ⟨b, o + j, none⟩ = false) :
    (Builtin.clear_ #[t] ty #[.slice (some ⟨b, o, none⟩) 1 c]).run P w = .ok (.tuple #[]) (w.setCells b o zs) := by
  have hst := run_storeCells_cells (P := P) b o zs 0 w (by simpa using hc) (by simpa using hf) h1
  simp only [Nat.add_zero] at hst
  simp [Builtin.clear_, run_underlying ht, hv, hz, hst]
theorem own_cells {w : World} {base g cap n : Nat} {e : TypeId} {size : Nat} {xs : List Value} (h : w.ownsRow base e size (.slice (some ⟨g, 0, none⟩) n cap) n xs) : (∀ j, j < n * size → (w.cell? ⟨g, j, none⟩).isSome = true ∧ w.frozen? ⟨g, j, none⟩ = false) ∧ (∀ j u, xs[j]? = some u → w.cell? ⟨g, j, none⟩ = some u) ∧ base ≤ g ∧ n ≤ cap ∧ cap ≤ maxLen := by
  obtain ⟨hlen, ⟨h1, _⟩ | ⟨g', cap', cur, hv, hb, hg, hle, hm, hcs, hct⟩⟩ := h
  · cases h1
  · simp only [Value.slice.injEq, Option.some.injEq, Addr.mk.injEq, and_true, true_and] at hv
    obtain ⟨rfl, rfl⟩ := hv
    have hcell : ∀ j, w.cell? ⟨g, j, none⟩ = cur[j]? := fun j => by simp [World.cell?, hg]
    have s3 : n * size ≤ cap * size := Nat.mul_le_mul_right _ hle
    refine ⟨fun j hj => ⟨by rw [hcell, Array.getElem?_eq_getElem (by omega)]; rfl, by simp [World.frozen?, hg]⟩, fun j u hu => ?_, hb, hle, hm⟩
    rw [hcell]
    have hj := lt_of_some hu
    rw [← hct, List.getElem?_take] at hu
    split at hu
    · simpa using hu
    · cases hu

set_option maxRecDepth 100000 in
set_option maxHeartbeats 1600000 in
theorem cloneRule_c {α : Type} {R : World → List Value → α → Prop} (v : Value) (l : List α) (w : World) (hs : Sl 11 R w v l) (h1 : ∀ cs x, R w cs x → ∀ u ∈ cs, u.oneCell' = true) (hlen : l.length ≤ 1000) :
    Calls Try.prog 62 #[v] w fun e w' => ∃ v', e = .returned v' ∧ OwnL 11 58 (fun _ => R w) w.heap.size w' v' l ∧ Ext w w' := by
  obtain ⟨A, cap, rfl, hl, hcap⟩ := hs.shape
  obtain ⟨css, hcl, hcx, hcc⟩ := hs.rows (by decide)
  have hq : ∀ (w : World) (a : Option Addr) (n c n' c' : Nat), (binOp .eql 42 (.slice a n c) (.slice none n' c')).run Try.prog w = .ok (.bool a.isNone) w := fun w a n c n' c' => Lib.run_eql_slice_nil w _ _ a n c n' c' Try.underlying42
  obtain ⟨i1, hi1, hi10, hi11, hi12⟩ := info_parts infoRule
  have hun : ∀ c ∈ css, c.length = 11 := by
    intro c hc
    obtain ⟨i, hi, rfl⟩ := List.mem_iff_getElem.1 hc
    exact (hcx i _ (l[i]'(by omega)) (List.getElem?_eq_getElem hi) (List.getElem?_eq_getElem _)).1
  have hone : ∀ u ∈ css.flatten, u.oneCell' = true := by
    intro u hu
    obtain ⟨c, hc, hu⟩ := List.mem_flatten.1 hu
    obtain ⟨i, hi, rfl⟩ := List.mem_iff_getElem.1 hc
    exact h1 _ _ (hcx i _ (l[i]'(by omega)) (List.getElem?_eq_getElem hi) (List.getElem?_eq_getElem _)).2 u hu
  have hfl := flat_len' hun
  cases A with
  | none =>
    have hl0 : l = [] := by
      cases l with
      | nil => rfl
      | cons a l =>
        obtain ⟨_, _, _, h, _⟩ := hs.at (i := 0) (x := a) rfl
        cases h
    subst hl0
    clear hcx hcc hs hone hun
    go_enter Try.func62, Try.ntmps62
    go_wp2
    go_ret
    exact ⟨_, rfl, OwnL.nil, by (repeat' (first | exact Ext.refl _ | assumption | refine Ext.alloc ?_ _ | refine Ext.drew ?_ | refine Ext.drewN ?_ _ | refine Ext.set ?_ (by first | exact Nat.le_refl _ | exact le1 _ | exact le2 _ | exact le3 _ | exact le4 _ | exact le5 _ | exact le6 _) _ | refine Ext.trans ?_ (by assumption)))⟩
  | some a =>
    have hcells : ∀ (j : Nat) (u : Value), css.flatten[j]? = some u → (w.alloc (.cells #[] 58)).cell? (a.add j) = some u := by
      intro j u hu
      obtain ⟨b, off, e, hc⟩ := hcc j u hu
      simp only [Option.some.injEq] at e
      subst e
      rw [add_none]
      exact Ext.cell ((Ext.refl w).alloc _) hc
    have HC := Lib.hid hcells
    have HX := Lib.hid hcx
    have HO := Lib.hid hone
    have HF := Lib.hid (hfl.trans (by rw [hcl]))
    clear hcx hcc hs hone hun hcells hfl
    go_enter Try.func62, Try.ntmps62
    go_upto_region 4 with (at_builtin; refine wpList_append_own _ rfl _ _ 42 rfl w.heap.size 58 i1 _ 11 144 Try.underlying42 hi1 hi10 hi11 hi12 rfl (by omega) _ _ _ rfl (World.ownsRow_made w #[] 0 (Nat.le_refl _) (Nat.zero_le _) (by simp)) a l.length cap css.flatten rfl HF.out HC.out HO.out (by unfold maxLen; omega) (by omega) (by simp) ?_; intro v' w4 hown4 hgrow4 hnil4)
    go_ret
    exact ⟨_, rfl, ⟨css, hcl, by simpa using hown4, HX.out⟩, Ext.grown ((Ext.refl w).alloc _) hgrow4 (fun k hk => by have h : w.heap.size = k := Option.some.inj hk; omega)⟩

set_option maxRecDepth 100000 in
set_option maxHeartbeats 1600000 in
theorem deleteRule_c {α : Type} {R : World → List Value → α → Prop} {base g cap : Nat} (l : List α) (i : Nat) (w : World) (hs : OwnL 11 58 R base w (.slice (some ⟨g, 0, none⟩) l.length cap) l) (hR : ∀ w' cs x, R w cs x → R w' cs x) (h1 : ∀ cs x, R w cs x → ∀ u ∈ cs, u.oneCell' = true) (hlen : l.length ≤ 1000) (hi : i < l.length) :
    Calls Try.prog 65 #[.slice (some ⟨g, 0, none⟩) l.length cap, .int .i64 i, .int .i64 (i + 1)] w fun e w' => e = .returned (.slice (some ⟨g, 0, none⟩) (l.length - 1) cap) ∧ OwnL 11 58 R base w' (.slice (some ⟨g, 0, none⟩) (l.length - 1) cap) (l.eraseIdx i) ∧ w.grownBy w' (some g) := by
  obtain ⟨css, hcl, hown, hcx⟩ := hs
  obtain ⟨i1, hi1, hi10, hi11, hi12⟩ := info_parts infoRule
  have hun : ∀ c ∈ css, c.length = 11 := by
    intro c hc
    obtain ⟨i, hi, rfl⟩ := List.mem_iff_getElem.1 hc
    exact (hcx i _ (l[i]'(by omega)) (List.getElem?_eq_getElem hi) (List.getElem?_eq_getElem _)).1
  have hone : ∀ u ∈ css.flatten, u.oneCell' = true := by
    intro u hu
    obtain ⟨c, hc, hu⟩ := List.mem_flatten.1 hu
    obtain ⟨i, hi, rfl⟩ := List.mem_iff_getElem.1 hc
    exact h1 _ _ (hcx i _ (l[i]'(by omega)) (List.getElem?_eq_getElem hi) (List.getElem?_eq_getElem _)).2 u hu
  obtain ⟨oc1, oc2, oc3, oc4, oc5⟩ := own_cells hown
  obtain ⟨news, hnews⟩ : ∃ news, (css.drop (i + 1)).flatten = news := ⟨_, rfl⟩
  have hnl : news.length = (l.length - (i + 1)) * 11 := by rw [← hnews, flat_len' (fun c hc => hun c (List.mem_of_mem_drop hc)), List.length_drop, hcl]
  have hnone : ∀ u ∈ news, u.oneCell' = true := by
    intro u hu
    rw [← hnews] at hu
    obtain ⟨c, hc, hu⟩ := List.mem_flatten.1 hu
    exact hone u (List.mem_flatten.2 ⟨c, List.mem_of_mem_drop hc, hu⟩)
  have hnew : ∀ j u, news[j]? = some u → w.cell? ⟨g, (i + 1) * 11 + j, none⟩ = some u := by
    intro j u hu
    refine oc2 _ _ ?_
    rw [← hnews, ← (flat_split hun (i + 1) (by omega)).2, List.getElem?_drop] at hu
    exact hu
  have hlm : cap ≤ 9223372036854775807 := by unfold maxLen at oc5; omega
  have hun' := hun
  have HN := Lib.hid (And.intro hnl (And.intro hnone hnew))
  have HO := Lib.hid hown
  have HX := Lib.hid hcx
  have HC := Lib.hid (And.intro oc1 oc2)
  clear hnl hnone hnew hown hcx oc1 oc2 hone hun
  have j1 : i ≤ cap := by omega
  have j2 : i + 1 ≤ cap := by omega
  have j3 : ¬ i = i + 1 := by omega
  have j4 : (0 : Int) ≤ (i : Int) + 1 := by omega
  have j5 : (i : Int) + 1 ≤ (l.length : Int) := by omega
  have j6 : i + (l.length - (i + 1)) = l.length - 1 := by omega
  have j7 : l.length - (l.length - 1) = 1 := by omega
  obtain ⟨A, hA, hsrc⟩ : ∃ A : Addr, (if cap = i + 1 then some (⟨g, 0, none⟩ : Addr) else some ⟨g, (i + 1) * 11, none⟩) = some A ∧ ∀ t u, news[t]? = some u → w.drew.cell? (A.add t) = some u := by
    by_cases h : cap = i + 1
    · refine ⟨⟨g, 0, none⟩, by simp [h], fun t u hu => ?_⟩
      have h0 : news.length = 0 := by rw [HN.out.1, show l.length - (i + 1) = 0 by omega, Nat.zero_mul]
      rw [List.length_eq_zero_iff.1 h0] at hu
      simp at hu
    · refine ⟨⟨g, (i + 1) * 11, none⟩, by simp [h], fun t u hu => ?_⟩
      rw [add_none]
      have := HN.out.2.2 t u hu
      first
        | exact this
        | (rw [Nat.mul_one] at this; exact this)
  have s1 := Lib.hid HN.out.1
  have s2 := Lib.hid HN.out.2.1
  have HSRC := Lib.hid hsrc
  have s4 : (l.length - (i + 1)) * 11 + i * 11 ≤ l.length * 11 := by rw [← Nat.add_mul]; exact Nat.mul_le_mul_right _ (by omega)
  have s3 : ∀ t, t < news.length → (w.drew.cell? ⟨g, 0 + i * 11 + t, none⟩).isSome = true ∧ w.drew.frozen? ⟨g, 0 + i * 11 + t, none⟩ = false := by
    intro t ht
    rw [HN.out.1] at ht
    exact HC.out.1 (0 + i * 11 + t) (by omega)
  have HS3 := Lib.hid s3
  obtain ⟨W1, hW1⟩ : ∃ W1, W1 = w.drew.setCells g (0 + i * 11) news := ⟨_, rfl⟩
  obtain ⟨cz, hcz⟩ : ∃ cz : List Value, cz = [.string ⟨#[]⟩, .slice none 0 0, .slice none 0 0, .int .i64 0, .int .i64 0, .int .i64 0, .int .i64 0, .int .i64 0, .bool false, .slice none 0 0, .int .i64 0] := ⟨_, rfl⟩
  have hcl2 : ∀ ty, (Builtin.clear_ #[42] ty #[.slice (some ⟨g, (l.length - 1) * 11, none⟩) 1 (cap - (l.length - 1))]).run Try.prog W1 = .ok (.tuple #[]) (W1.setCells g ((l.length - 1) * 11) cz) := by
    intro ty
    have hsz : l.length * 11 = (l.length - 1) * 11 + 11 := by rw [← Nat.succ_mul]; congr 1; omega
    refine run_clear_one W1 _ 58 ty (.agg #[.string ⟨#[]⟩, .slice none 0 0, .slice none 0 0, .int .i64 0, .int .i64 0, .int .i64 0, .int .i64 0, .int .i64 0, .bool false, .slice none 0 0, .int .i64 0]) cz Try.underlying42 (fun _ => by rfl) (by rw [hcz]; kernel_rfl) (by rw [hcz]; decide) g _ _ (fun t ht => ?_) (fun t ht => ?_)
    all_goals
      rw [hcz] at ht
      simp only [List.length_cons, List.length_nil] at ht
      rw [hW1]
    · exact World.isSome_setCells g news _ _ _ (HC.out.1 _ (by omega)).1
    · rw [World.frozen?_setCells]
      exact (HC.out.1 _ (by omega)).2
  have HW1 := Lib.hid hW1
  have HCZ := Lib.hid hcz
  clear hsrc s3 hW1 hcz
  go_enter Try.func65, Try.ntmps65
  go_upto_region 5 with fail
  go_region_law (refine step_append_room rfl (.tmp 22) (.tmp 25) 42 rfl 58 i1 11 Try.underlying42 hi1 hi11 g 0 i cap (by simp [Act.eval, Act.put]) A (l.length - (i + 1)) (cap - (i + 1)) news (by simp [Act.eval, Act.put]) s1.out HSRC.out s2.out (by omega) HS3.out ?_; rw [← HW1.out])
  go_wp2_with fail
  go_ret
  have hll : (l.eraseIdx i).length = l.length - 1 := List.length_eraseIdx_of_lt hi
  have hlc : (css.eraseIdx i).length = l.length - 1 := by rw [List.length_eraseIdx_of_lt (by omega), hcl]
  have ho := own_delete (w := w.drew) hun' hcl (ownsRow_ext HO.out ((Ext.refl w).drew)) hi (zs := cz) (by rw [HCZ.out]; rfl)
  refine ⟨rfl, ⟨css.eraseIdx i, by rw [hll, hlc], ?_, fun k cs x hk hx => ?_⟩, ?_⟩
  · rw [hll, HW1.out, ← hnews, Nat.zero_add]
    exact ho
  · rw [List.getElem?_eraseIdx] at hk hx
    by_cases hki : k < i
    · rw [if_pos hki] at hk hx
      exact ⟨(HX.out k cs x hk hx).1, hR _ _ _ (HX.out k cs x hk hx).2⟩
    · rw [if_neg hki] at hk hx
      exact ⟨(HX.out (k + 1) cs x hk hx).1, hR _ _ _ (HX.out (k + 1) cs x hk hx).2⟩
  · rw [HW1.out]
    exact grown_setCells _ _ _ (grown_setCells _ _ _ (World.grownBy_drew w _))

set_option maxRecDepth 100000 in
set_option maxHeartbeats 1600000 in
theorem cloneInt_c {α : Type} {R : World → List Value → α → Prop} (v : Value) (l : List α) (w : World) (hs : Sl 1 R w v l) (h1 : ∀ cs x, R w cs x → ∀ u ∈ cs, u.oneCell' = true) (hlen : l.length ≤ 1000) :
    Calls Try.prog 63 #[v] w fun e w' => ∃ v', e = .returned v' ∧ OwnL 1 3 (fun _ => R w) w.heap.size w' v' l ∧ Ext w w' := by
  obtain ⟨A, cap, rfl, hl, hcap⟩ := hs.shape
  obtain ⟨css, hcl, hcx, hcc⟩ := hs.rows (by decide)
  have hq : ∀ (w : World) (a : Option Addr) (n c n' c' : Nat), (binOp .eql 41 (.slice a n c) (.slice none n' c')).run Try.prog w = .ok (.bool a.isNone) w := fun w a n c n' c' => Lib.run_eql_slice_nil w _ _ a n c n' c' Try.underlying41
  obtain ⟨i1, hi1, hi10, hi11, hi12⟩ := info_parts infoInt
  have hun : ∀ c ∈ css, c.length = 1 := by
    intro c hc
    obtain ⟨i, hi, rfl⟩ := List.mem_iff_getElem.1 hc
    exact (hcx i _ (l[i]'(by omega)) (List.getElem?_eq_getElem hi) (List.getElem?_eq_getElem _)).1
  have hone : ∀ u ∈ css.flatten, u.oneCell' = true := by
    intro u hu
    obtain ⟨c, hc, hu⟩ := List.mem_flatten.1 hu
    obtain ⟨i, hi, rfl⟩ := List.mem_iff_getElem.1 hc
    exact h1 _ _ (hcx i _ (l[i]'(by omega)) (List.getElem?_eq_getElem hi) (List.getElem?_eq_getElem _)).2 u hu
  have hfl := flat_len' hun
  cases A with
  | none =>
    have hl0 : l = [] := by
      cases l with
      | nil => rfl
      | cons a l =>
        obtain ⟨_, _, _, h, _⟩ := hs.at (i := 0) (x := a) rfl
        cases h
    subst hl0
    clear hcx hcc hs hone hun
    go_enter Try.func63, Try.ntmps63
    go_wp2
    go_ret
    exact ⟨_, rfl, OwnL.nil, by (repeat' (first | exact Ext.refl _ | assumption | refine Ext.alloc ?_ _ | refine Ext.drew ?_ | refine Ext.drewN ?_ _ | refine Ext.set ?_ (by first | exact Nat.le_refl _ | exact le1 _ | exact le2 _ | exact le3 _ | exact le4 _ | exact le5 _ | exact le6 _) _ | refine Ext.trans ?_ (by assumption)))⟩
  | some a =>
    have hcells : ∀ (j : Nat) (u : Value), css.flatten[j]? = some u → (w.alloc (.cells #[] 3)).cell? (a.add j) = some u := by
      intro j u hu
      obtain ⟨b, off, e, hc⟩ := hcc j u hu
      simp only [Option.some.injEq] at e
      subst e
      rw [add_none]
      exact Ext.cell ((Ext.refl w).alloc _) hc
    have HC := Lib.hid hcells
    have HX := Lib.hid hcx
    have HO := Lib.hid hone
    have HF := Lib.hid (hfl.trans (by rw [hcl]))
    clear hcx hcc hs hone hun hcells hfl
    go_enter Try.func63, Try.ntmps63
    go_upto_region 4 with (at_builtin; refine wpList_append_own _ rfl _ _ 41 rfl w.heap.size 3 i1 _ 1 8 Try.underlying41 hi1 hi10 hi11 hi12 rfl (by omega) _ _ _ rfl (World.ownsRow_made w #[] 0 (Nat.le_refl _) (Nat.zero_le _) (by simp)) a l.length cap css.flatten rfl HF.out HC.out HO.out (by unfold maxLen; omega) (by omega) (by simp) ?_; intro v' w4 hown4 hgrow4 hnil4)
    go_ret
    exact ⟨_, rfl, ⟨css, hcl, by simpa using hown4, HX.out⟩, Ext.grown ((Ext.refl w).alloc _) hgrow4 (fun k hk => by have h : w.heap.size = k := Option.some.inj hk; omega)⟩

set_option maxRecDepth 100000 in
set_option maxHeartbeats 1600000 in
theorem deleteInt_c {α : Type} {R : World → List Value → α → Prop} {base g cap : Nat} (l : List α) (i : Nat) (w : World) (hs : OwnL 1 3 R base w (.slice (some ⟨g, 0, none⟩) l.length cap) l) (hR : ∀ w' cs x, R w cs x → R w' cs x) (h1 : ∀ cs x, R w cs x → ∀ u ∈ cs, u.oneCell' = true) (hlen : l.length ≤ 1000) (hi : i < l.length) :
    Calls Try.prog 67 #[.slice (some ⟨g, 0, none⟩) l.length cap, .int .i64 i, .int .i64 (i + 1)] w fun e w' => e = .returned (.slice (some ⟨g, 0, none⟩) (l.length - 1) cap) ∧ OwnL 1 3 R base w' (.slice (some ⟨g, 0, none⟩) (l.length - 1) cap) (l.eraseIdx i) ∧ w.grownBy w' (some g) := by
  obtain ⟨css, hcl, hown, hcx⟩ := hs
  obtain ⟨i1, hi1, hi10, hi11, hi12⟩ := info_parts infoInt
  have hun : ∀ c ∈ css, c.length = 1 := by
    intro c hc
    obtain ⟨i, hi, rfl⟩ := List.mem_iff_getElem.1 hc
    exact (hcx i _ (l[i]'(by omega)) (List.getElem?_eq_getElem hi) (List.getElem?_eq_getElem _)).1
  have hone : ∀ u ∈ css.flatten, u.oneCell' = true := by
    intro u hu
    obtain ⟨c, hc, hu⟩ := List.mem_flatten.1 hu
    obtain ⟨i, hi, rfl⟩ := List.mem_iff_getElem.1 hc
    exact h1 _ _ (hcx i _ (l[i]'(by omega)) (List.getElem?_eq_getElem hi) (List.getElem?_eq_getElem _)).2 u hu
  obtain ⟨oc1, oc2, oc3, oc4, oc5⟩ := own_cells hown
  obtain ⟨news, hnews⟩ : ∃ news, (css.drop (i + 1)).flatten = news := ⟨_, rfl⟩
  have hnl : news.length = (l.length - (i + 1)) * 1 := by rw [← hnews, flat_len' (fun c hc => hun c (List.mem_of_mem_drop hc)), List.length_drop, hcl]
  have hnone : ∀ u ∈ news, u.oneCell' = true := by
    intro u hu
    rw [← hnews] at hu
    obtain ⟨c, hc, hu⟩ := List.mem_flatten.1 hu
    exact hone u (List.mem_flatten.2 ⟨c, List.mem_of_mem_drop hc, hu⟩)
  have hnew : ∀ j u, news[j]? = some u → w.cell? ⟨g, (i + 1) * 1 + j, none⟩ = some u := by
    intro j u hu
    refine oc2 _ _ ?_
    rw [← hnews, ← (flat_split hun (i + 1) (by omega)).2, List.getElem?_drop] at hu
    exact hu
  have hlm : cap ≤ 9223372036854775807 := by unfold maxLen at oc5; omega
  have hun' := hun
  have HN := Lib.hid (And.intro hnl (And.intro hnone hnew))
  have HO := Lib.hid hown
  have HX := Lib.hid hcx
  have HC := Lib.hid (And.intro oc1 oc2)
  clear hnl hnone hnew hown hcx oc1 oc2 hone hun
  have j1 : i ≤ cap := by omega
  have j2 : i + 1 ≤ cap := by omega
  have j3 : ¬ i = i + 1 := by omega
  have j4 : (0 : Int) ≤ (i : Int) + 1 := by omega
  have j5 : (i : Int) + 1 ≤ (l.length : Int) := by omega
  have j6 : i + (l.length - (i + 1)) = l.length - 1 := by omega
  have j7 : l.length - (l.length - 1) = 1 := by omega
  obtain ⟨A, hA, hsrc⟩ : ∃ A : Addr, (if cap = i + 1 then some (⟨g, 0, none⟩ : Addr) else some ⟨g, i + 1, none⟩) = some A ∧ ∀ t u, news[t]? = some u → w.drew.cell? (A.add t) = some u := by
    by_cases h : cap = i + 1
    · refine ⟨⟨g, 0, none⟩, by simp [h], fun t u hu => ?_⟩
      have h0 : news.length = 0 := by rw [HN.out.1, show l.length - (i + 1) = 0 by omega, Nat.zero_mul]
      rw [List.length_eq_zero_iff.1 h0] at hu
      simp at hu
    · refine ⟨⟨g, i + 1, none⟩, by simp [h], fun t u hu => ?_⟩
      rw [add_none]
      have := HN.out.2.2 t u hu
      first
        | exact this
        | (rw [Nat.mul_one] at this; exact this)
  have s1 := Lib.hid HN.out.1
  have s2 := Lib.hid HN.out.2.1
  have HSRC := Lib.hid hsrc
  have s4 : (l.length - (i + 1)) * 1 + i * 1 ≤ l.length * 1 := by rw [← Nat.add_mul]; exact Nat.mul_le_mul_right _ (by omega)
  have s3 : ∀ t, t < news.length → (w.drew.cell? ⟨g, 0 + i * 1 + t, none⟩).isSome = true ∧ w.drew.frozen? ⟨g, 0 + i * 1 + t, none⟩ = false := by
    intro t ht
    rw [HN.out.1] at ht
    exact HC.out.1 (0 + i * 1 + t) (by omega)
  have HS3 := Lib.hid s3
  obtain ⟨W1, hW1⟩ : ∃ W1, W1 = w.drew.setCells g (0 + i * 1) news := ⟨_, rfl⟩
  obtain ⟨cz, hcz⟩ : ∃ cz : List Value, cz = [.int .i64 0] := ⟨_, rfl⟩
  have hcl2 : ∀ ty, (Builtin.clear_ #[41] ty #[.slice (some ⟨g, l.length - 1, none⟩) 1 (cap - (l.length - 1))]).run Try.prog W1 = .ok (.tuple #[]) (W1.setCells g (l.length - 1) cz) := by
    intro ty
    have hsz : l.length * 1 = (l.length - 1) * 1 + 1 := by rw [← Nat.succ_mul]; congr 1; omega
    refine run_clear_one W1 _ 3 ty (.int .i64 0) cz Try.underlying41 (fun _ => by rfl) (by rw [hcz]; kernel_rfl) (by rw [hcz]; decide) g _ _ (fun t ht => ?_) (fun t ht => ?_)
    all_goals
      rw [hcz] at ht
      simp only [List.length_cons, List.length_nil] at ht
      rw [hW1]
    · exact World.isSome_setCells g news _ _ _ (HC.out.1 _ (by omega)).1
    · rw [World.frozen?_setCells]
      exact (HC.out.1 _ (by omega)).2
  have HW1 := Lib.hid hW1
  have HCZ := Lib.hid hcz
  clear hsrc s3 hW1 hcz
  go_enter Try.func67, Try.ntmps67
  go_upto_region 5 with fail
  go_region_law (refine step_append_room rfl (.tmp 22) (.tmp 25) 41 rfl 3 i1 1 Try.underlying41 hi1 hi11 g 0 i cap (by simp [Act.eval, Act.put]) A (l.length - (i + 1)) (cap - (i + 1)) news (by simp [Act.eval, Act.put]) s1.out HSRC.out s2.out (by omega) HS3.out ?_; rw [← HW1.out])
  go_wp2_with fail
  go_ret
  have hll : (l.eraseIdx i).length = l.length - 1 := List.length_eraseIdx_of_lt hi
  have hlc : (css.eraseIdx i).length = l.length - 1 := by rw [List.length_eraseIdx_of_lt (by omega), hcl]
  have ho := own_delete (w := w.drew) hun' hcl (ownsRow_ext HO.out ((Ext.refl w).drew)) hi (zs := cz) (by rw [HCZ.out]; rfl)
  refine ⟨rfl, ⟨css.eraseIdx i, by rw [hll, hlc], ?_, fun k cs x hk hx => ?_⟩, ?_⟩
  · rw [hll, HW1.out, ← hnews, Nat.zero_add]
    rw [Nat.mul_one, Nat.mul_one] at ho
    rw [Nat.mul_one]
    exact ho
  · rw [List.getElem?_eraseIdx] at hk hx
    by_cases hki : k < i
    · rw [if_pos hki] at hk hx
      exact ⟨(HX.out k cs x hk hx).1, hR _ _ _ (HX.out k cs x hk hx).2⟩
    · rw [if_neg hki] at hk hx
      exact ⟨(HX.out (k + 1) cs x hk hx).1, hR _ _ _ (HX.out (k + 1) cs x hk hx).2⟩
  · rw [HW1.out]
    exact grown_setCells _ _ _ (grown_setCells _ _ _ (World.grownBy_drew w _))
end Go.Proofs.Ytaomlmkcifpfkaa
