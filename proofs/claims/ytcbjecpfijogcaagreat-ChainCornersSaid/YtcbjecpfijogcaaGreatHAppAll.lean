
/- HAppAll: several texts in one. -/
import Derived.Test.YtcbjecpfijogcaaGreatHRowsAll
import Derived.Deep.RegionLaw
import Derived.Deep.QuietTactic
import Derived.Deep.Upon
/- Appends of points in a region that draws its order; a region whose calls may make memory, walked once. -/
namespace Go.Proofs.YtcbjecpfijogcaaGreat
open Go.RowKit Go.Shelf

/-- a region that draws its order, walked once, over any class of worlds -/
theorem wp_region_ext {P : Program} {id : Nat} {Q : Exit → Act → World → Prop} {a : Act} {w : World} {l : List Oper} {C : World → Prop} (hm : P.follows .mixedOrders = true) (hB : Region.lexB .any l.toArray = true) (hC : C w.drew)
    (h : wpQuiet P l.toArray C (fun a' => ∀ w', C w' → Q .normal a' w') l a) : (Code.region id l.toArray true).wp P Q a w :=
  wp_region_quiet (C := C) hm hB hC (by simpa using h)

theorem own_ge' {w : World} {base : Nat} {e : TypeId} {n m : Nat} {v : Value} {xs : List Value} (h : w.ownsRow base e n v m xs) : ∀ k, v.ownBlock = some k → base ≤ k := by
  intro k hk
  rcases h.2 with ⟨rfl, _⟩ | ⟨g, cap, cur, rfl, hb, _⟩
  · simp [Value.ownBlock] at hk
  · have : g = k := by simpa [Value.ownBlock] using hk
    omega
/-- what a slice of points holds, as an append takes it -/
theorem Pts.src {w : World} {v : Value} {l : List HPt} (h : Pts w v l) : ∃ (A : Option Addr) (c : Nat), v = .slice A l.length c ∧ ((A = none ∧ l = []) ∨ ∃ ad, A = some ad ∧ ∀ j u, (flatP l)[j]? = some u → w.cell? (ad.add j) = some u) := by
  rcases h with ⟨a, c, rfl, rfl⟩ | ⟨b, off, cap, rfl, _, _, hc⟩
  · rcases a with _ | ad
    · exact ⟨none, c, rfl, .inl ⟨rfl, rfl⟩⟩
    · exact ⟨_, c, rfl, .inr ⟨ad, rfl, fun j u h => by simp [flatP] at h⟩⟩
  · refine ⟨_, cap, rfl, .inr ⟨⟨b, off, none⟩, rfl, ?_⟩⟩
    intro j u hj
    rw [add_noneH]
    have hlt : j < l.length * 2 := by rw [← flatP_len]; exact (List.getElem?_eq_some_iff.1 hj).1
    have hp : l[j / 2]? = some l[j / 2] := List.getElem?_eq_getElem (by omega)
    have h2 := flatP_at l (j / 2) _ hp
    have h3 := hc (j / 2) (by omega)
    rw [getD_lt (show j / 2 < l.length by omega)] at h3
    generalize l[j / 2] = q at h2 h3
    rcases (show j = j / 2 * 2 ∨ j = j / 2 * 2 + 1 by omega) with e | e
    · have h4 := h2.1
      rw [← e, hj] at h4
      have h5 := h3.1
      rw [← e] at h5
      rw [h5, Option.some.inj h4]
    · have h4 := h2.2
      rw [← e, hj] at h4
      have h5 := h3.2
      rw [Nat.add_assoc, ← e] at h5
      rw [h5, Option.some.inj h4]
theorem flatP_one : ∀ (l : List HPt), ∀ u ∈ flatP l, u.oneCell' = true := by
  intro l u hu
  simp only [flatP, List.mem_flatMap] at hu
  obtain ⟨p, _, hp⟩ := hu
  simp at hp
  rcases hp with rfl | rfl <;> rfl
theorem flatP_append (l m : List HPt) : flatP (l ++ m) = flatP l ++ flatP m := by simp [flatP]
/-- an append of points to a row of the call's own -/
theorem step_append_pts {w : World} {ops : Array Oper} {o : Oper} {a : Act} {K : Act → World → Prop} {Q : Exit → Act → World → Prop} {E : Prop} (hgd : o.guard = none) (s x : Operand)
    (ho : o.op = .call { callee := .builtin .append, args := #[s, x], argTypes := #[27, 27] })
    (base : Nat) (v vx : Value) (l m : List HPt) (hs : a.eval s = v) (hown : OwnP base w v l) (hx : a.eval x = vx) (hp : Pts w vx m) (hn : l.length + m.length ≤ 8000000) (hbase : base ≤ w.heap.size)
    (h : ∀ v' w', OwnP base w' v' (l ++ m) → w.grownBy w' v.ownBlock → K (a.put o.dst v') w') :
    if Region.wanted o (yielded ops a.tmps) = true then Oper.wp Tryz.prog o a w K Q else E := by
  have hw : Region.wanted o (yielded ops a.tmps) = true := by simp [Region.wanted, hgd]
  rw [if_pos hw]
  obtain ⟨ip, hi0, hii⟩ := Option.map_eq_some_iff.1 infoPoint
  simp only [Prod.mk.injEq] at hii
  obtain ⟨hi1, hi2, hi3⟩ := hii
  have hown' : w.ownsRow base 26 2 v l.length (flatP l) := hown
  obtain ⟨A, c, rfl, hA⟩ := hp.src
  rcases hA with ⟨rfl, rfl⟩ | ⟨ad, rfl, hc⟩
  · obtain ⟨A0, c0, rfl, hle⟩ : ∃ (A0 : Option Addr) (c0 : Nat), v = .slice A0 l.length c0 ∧ l.length ≤ c0 := by
      rcases hown'.2 with ⟨rfl, h1⟩ | ⟨g, cp, _, rfl, _, _, hle, _⟩
      · exact ⟨none, 0, by rw [h1], by omega⟩
      · exact ⟨_, cp, rfl, hle⟩
    have hrun := run_append_nothing (P := Tryz.prog) w 27 27 o.type 26 ip Tryz.underlying27 hi0 A0 l.length c0 hle (.slice none 0 c) (Src.ofNil w Tryz.underlying27 c)
    have hK := h (.slice A0 l.length c0) w (by simpa using hown) ⟨rfl, rfl, rfl, Nat.le_refl _, fun _ _ _ => rfl⟩
    unfold Oper.wp
    simp only [List.length_nil] at hx
    simp [execOp, ho, resolve, invoke, builtin, hs, hx, hrun, Result.andThen]
    exact hK
  · refine wp_append_own w s x 27 ho base 26 ip _ 2 16 Tryz.underlying27 hi0 hi1 hi2 hi3 rfl (by decide) v l.length (flatP l) hs hown' ad m.length c (flatP m) hx (flatP_len m) hc (flatP_one m) (by unfold maxLen; omega) (by omega) hbase ?_
    intro v' w' h1 h2 _
    refine h v' w' ?_ h2
    unfold OwnP
    rw [List.length_append, flatP_append]
    exact h1
theorem OwnP.empty {w : World} {base b : Nat} (hb : w.heap[b]? = some (.cells #[] 26 (0, 0))) (h : base ≤ b) : OwnP base w (.slice (some ⟨b, 0, none⟩) 0 0) [] :=
  ⟨rfl, .inr ⟨b, 0, #[], rfl, h, hb, Nat.le_refl _, Nat.zero_le _, rfl, rfl⟩⟩
theorem Pts.one {w : World} {b : Nat} {x y : Int} (hb : w.heap[b]? = some (.cells #[.int .i64 x, .int .i64 y] 26 (0, 0))) : Pts w (.slice (some ⟨b, 0, none⟩) 1 1) [(x, y)] := by
  refine .inr ⟨b, 0, 1, rfl, by simp, by simp, fun i hi => ?_⟩
  have hi0 : i = 0 := by simp at hi; omega
  subst hi0
  exact ⟨World.news_of_block hb 0 _ rfl, World.news_of_block hb 1 _ rfl⟩
theorem heap2_first (W : World) (o1 o2 : Obj) : ((W.alloc o1).alloc o2).heap[W.heap.size]? = some o1 := (Below.heap_alloc (W.alloc o1) o2 W.heap.size (by rw [size_alloc]; omega)).trans (World.alloc_heap_new W o1)
theorem heap2_second (W : World) (o1 o2 : Obj) : ((W.alloc o1).alloc o2).heap[W.heap.size + 1]? = some o2 := by
  have h := World.alloc_heap_new (W.alloc o1) o2
  rwa [size_alloc] at h
theorem kept_blk' {w w' : World} {v : Value} {g k : Nat} {o : Obj} (hg : w.grownBy w' v.ownBlock) (hv : v.ownBlock = some g) (hk : w.heap[k]? = some o) (hne : k ≠ g) : w'.heap[k]? = some o := by
  have hlt := (Array.getElem?_eq_some_iff.1 hk).1
  rw [hv] at hg
  exact (hg.block k hlt (fun e => hne (Option.some.inj e))).trans hk
end Go.Proofs.YtcbjecpfijogcaaGreat
/- Append of points in a region of one order. -/
namespace Go.Proofs.YtcbjecpfijogcaaGreat
open Go.RowKit Go.Shelf

theorem wpList_append_pts {w : World} {ops : Array Oper} {rest : List Oper} {o : Oper} {a : Act} {Q : Exit → Act → World → Prop} (hgd : o.guard = none) (s x : Operand)
    (ho : o.op = .call { callee := .builtin .append, args := #[s, x], argTypes := #[27, 27] })
    (base : Nat) (v vx : Value) (l m : List HPt) (hs : a.eval s = v) (hown : OwnP base w v l) (hx : a.eval x = vx) (hp : Pts w vx m) (hn : l.length + m.length ≤ 8000000) (hbase : base ≤ w.heap.size)
    (h : ∀ v' w', OwnP base w' v' (l ++ m) → w.grownBy w' v.ownBlock → wpList Tryz.prog ops Q rest (a.put o.dst v') w') : wpList Tryz.prog ops Q (o :: rest) a w :=
  wpList_plain hgd fun K hK => by
    have h1 := step_append_pts (ops := ops) (E := True) (Q := Q) (K := K) hgd s x ho base v vx l m hs hown hx hp hn hbase fun v' w' h1 h2 => hK _ _ (h v' w' h1 h2)
    have hw : Region.wanted o (yielded ops a.tmps) = true := by simp [Region.wanted, hgd]
    rwa [if_pos hw] at h1
end Go.Proofs.YtcbjecpfijogcaaGreat
/- A region that draws its order: its head only reads and calls, its callees may make memory (a class of worlds); its tail is a chain, but for extracts: walked in the order of the text. -/
namespace Go.Proofs.YtcbjecpfijogcaaGreat
namespace Tail
variable {P : Program} {ops : Array Oper} {md : Region.Mode} {C : World → Prop}

def wpAnyLQ (P : Program) (md : Region.Mode) (ops : Array Oper) (C : World → Prop) (n : Nat) (L : Array Bool → Act → Prop) : Nat → Array Bool → Act → Prop
  | 0, listed, a => L listed a
  | f + 1, listed, a =>
    Region.ready md ops listed ≠ [] ∧ ∀ i ∈ Region.ready md ops listed, i < n ∧ qOp P ops C i (wpAnyLQ P md ops C n L f (listed.setIfInBounds i true)) a
theorem wpAny_of_headQ {n g : Nat} {L : Array Bool → Act → Prop} {Q' : Exit → Act → World → Prop} (hL : ∀ listed a w, C w → L listed a → wpAny P md ops Q' g listed a w) :
    ∀ (f : Nat) (listed : Array Bool) (a : Act) (w : World), C w → wpAnyLQ P md ops C n L f listed a → wpAny P md ops Q' (f + g) listed a w
  | 0, listed, a, w, hw, h => by rw [Nat.zero_add]; exact hL _ _ _ hw h
  | f + 1, listed, a, w, hw, h => by
    rw [show f + 1 + g = (f + g) + 1 by omega]
    exact ⟨fun h0 => absurd h0 h.1, fun i hi => wpOp_of_qOp hw (fun a' w' hw' h' => wpAny_of_headQ hL f _ a' w' hw' h') (h.2 i hi).2⟩
theorem wpAnyLQ_first {n i : Nat} {oi : Oper} {v : Value} {L : Array Bool → Act → Prop} (hi : ops[i]? = some oi) (hsel : ∀ (j : Nat) (o : Oper) cs b, ops[j]? = some o → o.op ≠ .select cs b)
    (hs : Region.sinkB md ops n = true) (hc : rootB md ops n = true) (hn : n < ops.size) (hin : i < n)
    (hdone : ∀ listed a, L listed a → ∀ j ∈ Region.ready md ops listed, n ≤ j) :
    ∀ (f : Nat) (listed : Array Bool) (a : Act), HeadInv md ops n listed →
      (∀ j oj, ops[j]? = some oj → j ≠ i → listed.getD j true = false → (∀ e ∈ oj.after, Region.binds md e = true → e.on ≠ i) → oi.apart ops oj = true) →
      i ∈ Region.ready md ops listed → YieldsIn P ops C oi v a →
      wpAnyLQ P md ops C n L f (listed.setIfInBounds i true) (a.put oi.dst v) → wpAnyLQ P md ops C n L (f + 1) listed a := by
  intro f
  induction f with
  | zero =>
    intro listed a inv _ hr hy H
    have hun := (mem_ready.1 hr).1
    refine ⟨fun h => (by rw [h] at hr; cases hr), fun j hj => ?_⟩
    have hjn : j < n := by
      rcases Nat.lt_or_ge j n with h | h
      · exact h
      · exact absurd hj (tail_waits hs hc hn inv _ i rfl hin hun j h)
    refine ⟨hjn, ?_⟩
    by_cases hji : j = i
    · subst hji; exact hy.qOp hi H
    · have := hdone _ _ H j (ready_mono hj hji)
      omega
  | succ f ih =>
    intro listed a inv hfree hr hy H
    have hun := (mem_ready.1 hr).1
    refine ⟨fun h => (by rw [h] at hr; cases hr), fun j hj => ?_⟩
    have hjn : j < n := by
      rcases Nat.lt_or_ge j n with h | h
      · exact h
      · exact absurd hj (tail_waits hs hc hn inv _ i rfl hin hun j h)
    refine ⟨hjn, ?_⟩
    by_cases hji : j = i
    · subst hji; exact hy.qOp hi H
    · have h1 := (H.2 j (ready_mono hj hji)).2
      obtain ⟨hjun, oj, hoj, hall⟩ := mem_ready.1 hj
      have hnot : ∀ e ∈ oj.after, Region.binds md e = true → e.on ≠ i := fun e he hb heq => by
        have h1 := hall e he hb
        rw [heq, getD_both hun] at h1
        cases h1
      have h2 := qOp_put hoj (hfree j oj hoj hji hjun hnot) (fun cs b => hsel i oi cs b hi) (fun cs b => hsel j oj cs b hoj) hy h1
      have hfree' : ∀ k ok, ops[k]? = some ok → k ≠ i → (listed.setIfInBounds j true).getD k true = false →
          (∀ e ∈ ok.after, Region.binds md e = true → e.on ≠ i) → oi.apart ops ok = true := fun k ok hk hki hun hno => by
        refine hfree k ok hk hki ?_ hno
        by_cases hjk : j = k
        · subst hjk; exact hjun
        · rw [getD_set_ne true hjk] at hun; exact hun
      refine qOp_mono (fun a' h3 => ih (listed.setIfInBounds j true) a' (inv.set hj hjn) hfree' (ready_mono hr (Ne.symm hji)) h3.1 ?_) h2
      rw [Array.setIfInBounds_comm _ _ hji]
      exact h3.2

theorem wpAnyLQ_lex {n g : Nat} {Lq : Act → Prop} (hsel : Region.noSelect ops = true) (hs : Region.sinkB md ops n = true) (hc : rootB md ops n = true) (hn : n < ops.size) :
    ∀ (l : List Oper) (k : Nat) (listed : Array Bool) (a : Act), (∀ j, j < l.length → l[j]? = ops[k + j]?) → k + l.length = n → HeadInv md ops n listed →
    lexHead md ops g l.length k listed = true → wpQuiet P ops C Lq l a →
    wpAnyLQ P md ops C n (fun listed' a' => (tailB md ops g n listed' = true ∧ ∀ j ∈ Region.ready md ops listed', n ≤ j) ∧ Lq a') l.length listed a
  | [], k, listed, a, _, hk, _, hB, h => by
    have : k = n := by simpa using hk
    subst this
    simp only [List.length_nil, lexHead, Bool.and_eq_true] at hB
    exact ⟨⟨hB.1, fun j hj => by have := List.all_eq_true.1 hB.2 j hj; simpa using this⟩, h⟩
  | o :: l, k, listed, a, hl, hk, inv, hB, h => by
    have h0 : ops[k]? = some o := by simpa using (hl 0 (by simp)).symm
    simp only [List.length_cons, lexHead, Bool.and_eq_true] at hB
    obtain ⟨⟨hr, hf⟩, hB'⟩ := hB
    have hkn : k < n := by simp only [List.length_cons] at hk; omega
    have hr' : k ∈ Region.ready md ops listed := by simpa using hr
    have hst : qOp P ops C k (wpQuiet P ops C Lq l) a := by unfold qOp; simp only [h0]; exact h
    obtain ⟨v, hy, hK⟩ := yieldsIn_of_qOp h0 hst
    exact wpAnyLQ_first h0 (Region.noSelect_spec hsel) hs hc hn hkn (fun listed' a' hL => hL.1.2) l.length listed a inv (Region.free_spec h0 hf) hr' hy
      (wpAnyLQ_lex hsel hs hc hn l (k + 1) _ _ (fun j hj => by have := hl (j + 1) (by simp; omega); simpa [Nat.add_assoc, Nat.add_comm 1 j] using this) (by simp only [List.length_cons] at hk; omega) (inv.set hr' hkn) hB' hK)

theorem wp_region_qtail {id : Nat} {Q : Exit → Act → World → Prop} {a : Act} {w : World} {l : List Oper} (n : Nat) (hm : P.follows .mixedOrders = true) (hB : lexTailB .any l.toArray n = true)
    (hQ : ∀ c a t v w, Q (.panic c) (a.put (some t) v) w → Q (.panic c) a w) (hC : C w.drew)
    (h : wpQuiet P l.toArray C (fun a' => ∀ w', C w' → wpList P l.toArray Q (l.drop n) a' w') (l.take n) a) : (Code.region id l.toArray true).wp P Q a w := by
  simp only [lexTailB, Bool.and_eq_true, decide_eq_true_eq] at hB
  obtain ⟨⟨⟨⟨hsel, hn⟩, hs⟩, hc⟩, hlex⟩ := hB
  have hn' : n < l.length := by simpa using hn
  have htl : (l.take n).length = n := by simp; omega
  have hdl : (l.drop n).length = l.toArray.size - n := by simp
  have inv0 : HeadInv .any l.toArray n (Array.replicate l.toArray.size false) :=
    ⟨by simp, fun j oj _ hl => (by rw [getD_replicate_false] at hl; cases hl), fun t _ ht => getD_in (by simpa using ht) (getD_replicate_false _ _)⟩
  have H := wpAnyLQ_lex (C := C) (md := .any) (g := l.toArray.size - n) hsel hs hc hn (l.take n) 0 _ a (fun j hj => by
    have hj' : j < n := by rw [htl] at hj; exact hj
    simp [hj']) (by simpa using htl) inv0 (by rw [htl]; exact hlex) h
  refine wp_region_any hm ?_
  have := wpAny_of_headQ (C := C) (Q' := Q) (g := l.toArray.size - n) (fun listed a' w' hw' hL => by
    have := wpAny_of_tail (md := .any) (Q' := Q) hsel hQ (l.drop n) n listed a' w' (fun j => by simp [List.getElem?_drop]) (by rw [hdl]; exact hL.1.1) (hL.2 w' hw')
    rwa [hdl] at this) _ _ _ _ hC H
  rw [htl, show n + (l.toArray.size - n) = l.toArray.size by omega] at this
  exact this
end Tail
end Go.Proofs.YtcbjecpfijogcaaGreat
