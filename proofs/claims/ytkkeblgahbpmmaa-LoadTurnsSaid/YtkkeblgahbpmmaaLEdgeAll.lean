
/- LEdgeAll: several texts in one. -/
import Derived.Test.YtkkeblgahbpmmaaHSeq
import Derived.Test.YtkkeblgahbpmmaaQTail
import Derived.Sort.QuietTacIn
import Derived.Test.YtkkeblgahbpmmaaLRigAll
import Derived.Deep.DeepCutAuto
/- A range over an iterator that is a method's value: its receiver is bound ahead of what yields. -/
namespace Go.Proofs.Ytkkeblgahbpmmaa
open Go.RowKit

section
variable {α : Type} {F : Fence} {n : Nat} {P : Program}
/-- an iterator that yields a list, unless it is stopped -/
def SeqT3 (F : Fence) (n : Nat) (P : Program) (g : Nat) (bd : Array Value) (enc : α → Array Value) (T : TypeId → Prop) (t : TypeId) (xs : List α) (w0 w : World) : Prop :=
  ∀ (l : Nat) (J Jx : List α → World → Prop) (W : World), Ext w W → (∀ s W', J s W' → Ext w0 W') → AbT t W.heap.size J →
    (∀ pre x suf W1, J pre W1 → xs = pre ++ x :: suf → YieldAt F (n - 1) P l (enc x) W1 fun e W' =>
      (e = .returned (.bool true) ∧ J (pre ++ [x]) W' ∧ KpT T w0.heap.size W1 W') ∨ (e = .returned (.bool false) ∧ Jx (pre ++ [x]) W')) →
    J [] W →
    CallsIn F n P g (bd ++ #[.func (.yield l) #[] #[]]) W fun e W' => (∃ v, e = .returned v) ∧ (J xs W' ∨ ∃ pre, Jx pre W')
theorem wpIn_rangeFunc_T3 {g : Operand} {ps : Array Tmp} {assign body : Code} {Q : Exit → Act → World → Prop} {a : Act} {w : World}
    (hro : F.round = none) (h1 : 1 ≤ n) {gf : Nat} {bd : Array Value} (hg : a.eval g = .func (.func gf) bd #[]) (hFg : F.fn gf) (eg : ∀ args w, (callFunc gf args).run P w = .ok (.enter gf args) w)
    {enc : α → Array Value} {T : TypeId → Prop} {t : TypeId} {xs : List α} {w0 wc : World} (hseq : SeqT3 F (n - 1) P gf bd enc T t xs w0 wc) (hb0 : Ext wc w) (hps : ∀ x, (enc x).size = ps.size)
    (I : List α → World → Prop) (Ix : Code → List α → World → Prop)
    (hIb : ∀ s W, I s W → Ext w0 W)
    (hIe : ∀ s W W', I s W → Ext W W' → I s W')
    (hIs : ∀ s W p u cs fr, I s W → W.heap[p.block]? = some (.cells cs t fr) → w.heap.size + 2 ≤ p.block → I s (W.setCell p u))
    (hIp : ∀ s W l o o', I s W → w.heap.size ≤ l → W.heap[l]? = some o → o.isCells = false → I s (W.putObj l o'))
    (hIxp : ∀ c s W l o o', Ix c s W → w.heap.size ≤ l → W.heap[l]? = some o → o.isCells = false → Ix c s (W.putObj l o'))
    (h0 : I [] w) (Ax : α → Act → World → Prop)
    (hAx : ∀ x a' W l o o', Ax x a' W → w.heap.size ≤ l → W.heap[l]? = some o → o.isCells = false → Ax x a' (W.putObj l o'))
    (hassign : ∀ (l : Nat) (x : α) (W : World) (K : Act → World → Prop), w.heap.size ≤ W.heap.size → (∀ a' W', Ext W W' → Ax x a' W' → K a' W') →
      assign.wpIn (F.inRound l) (n - 1 - 1) P (Exit.then K (fun _ _ _ => False)) { tmps := (ps.zip (enc x)).foldl (fun t (p, v) => t.setIfInBounds p v) a.tmps, defers := [] } W)
    (hbody : ∀ (l : Nat) (pre : List α) (x : α) (suf : List α) (a' : Act) (W : World), I pre W → Ax x a' W → xs = pre ++ x :: suf → w.heap.size + 2 ≤ W.heap.size →
      body.wpIn (F.inRound l) (n - 1 - 1) P (postT T w0.heap.size I Ix (pre ++ [x]) W) a' W)
    (hdone : ∀ (D : Nat) (W : World), w.heap.size ≤ D → I xs W → W.heap[D]? = some (.deferred (some [])) → Q .normal { a with defers := { target := .collected D, args := #[] } :: a.defers } W)
    (hstop : ∀ (D : Nat) (c : Code) (pre : List α) (W : World), w.heap.size ≤ D → Ix c pre W → W.heap[D]? = some (.deferred (some [])) → c.wpIn F n P Q { a with defers := { target := .collected D, args := #[] } :: a.defers } W) :
    (Code.rangeFunc g ps assign body).wpIn F n P Q a w := by
  refine wpIn_rangeFunc ?_
  intro fn hfn
  rw [hro]
  obtain ⟨rec, hrec⟩ : ∃ rec : LoopState → Option Code → Loop, rec = fun st pe => { state := st, pending := pe, fn, tmps := a.tmps, params := ps, assign, body, defers := w.heap.size } := ⟨_, rfl⟩
  obtain ⟨W1, hW1⟩ : ∃ W1, (w.alloc (.deferred (some []))).alloc (.loop (rec .ready none)) = W1 := ⟨_, rfl⟩
  have hs1 : W1.heap.size = w.heap.size + 2 := by rw [← hW1]; simp
  have hL1 : W1.heap[w.heap.size + 1]? = some (.loop (rec .ready none)) := by
    rw [← hW1]; have := World.alloc_heap_new (w.alloc (.deferred (some []))) (.loop (rec .ready none)); rwa [World.size_alloc] at this
  have hK1 : W1.heap[w.heap.size]? = some (.deferred (some [])) := by
    rw [← hW1]; exact (Below.heap_alloc _ _ _ (by simp)).trans (World.alloc_heap_new w _)
  have hE1 : Ext w W1 := by rw [← hW1]; exact ((Ext.refl w).alloc _).alloc _
  have hI1 : I [] W1 := hIe _ _ _ h0 hE1
  refine ⟨w.heap.size + 1, [{ target := .collected w.heap.size, args := #[] }], W1, { target := .fn (.func gf) #[], args := bd ++ #[.func (.yield (w.heap.size + 1)) #[] #[]] }, W1, gf,
    bd ++ #[.func (.yield (w.heap.size + 1)) #[] #[]], W1, ?_, ?_, ?_, ?_, fun _ => h1, ?_⟩
  · rw [← hW1, hrec]; exact run_enterLoop_outer _ _ _ _ _
  · simp only [resolve, hg]
    simp [go_sem]
  · intro f' hf'; simp [Target.leads] at hf'; subst hf'; exact hFg
  · simp [invoke, go_sem, eg]
  · refine (hseq (w.heap.size + 1)
      (fun pre W => I pre W ∧ W.heap[w.heap.size + 1]? = some (.loop (rec .ready none)) ∧ W.heap[w.heap.size]? = some (.deferred (some [])) ∧ w.heap.size + 2 ≤ W.heap.size)
      (fun pre W => ∃ c, Ix c pre W ∧ W.heap[w.heap.size + 1]? = some (.loop (rec .done (some c))) ∧ W.heap[w.heap.size]? = some (.deferred (some [])))
      W1 (hb0.trans hE1) (fun s A ⟨i1, _⟩ => hIb s A i1)
      ⟨fun s A B ⟨i1, i2, i3, i4⟩ he => ⟨hIe _ _ _ i1 he, (he.block _ (Array.getElem?_eq_some_iff.1 i2).1).trans i2, (he.block _ (Array.getElem?_eq_some_iff.1 i3).1).trans i3, Nat.le_trans i4 he.size⟩,
       fun s A p u cs fr ⟨i1, i2, i3, i4⟩ hp hB => ⟨hIs _ _ _ _ _ _ i1 hp (by rw [hs1] at hB; exact hB), (Below.heap_setCell A p u _ (by omega)).trans i2, (Below.heap_setCell A p u _ (by omega)).trans i3, by rw [size_setCell]; exact i4⟩⟩
      ?_ ⟨hI1, hL1, hK1, by omega⟩).mono ?_
    · rintro pre x suf W ⟨hi, hl, hk, hz⟩ hsp
      have hlt : w.heap.size + 1 < W.heap.size := (Array.getElem?_eq_some_iff.1 hl).1
      have hy := run_yield (P := P) (args := (enc x)) hl (by rw [hrec]; exact hps x)
      rw [hrec] at hy
      refine ⟨fn, _, assign, body, hy, roundIn_of_wpIn hfn (hassign _ x W _ (by omega) (fun a' Wa hea hax => ⟨_, run_beginRound ((hea.block _ hlt).trans hl) (by rw [hrec]), ?_⟩))⟩
      have hla := (hea.block _ hlt).trans hl
      have hka := (hea.block _ (by omega)).trans hk
      have hza := hea.size
      have hl2 : (Wa.putObj (w.heap.size + 1) (.loop { rec .ready none with state := .busy })).heap[w.heap.size + 1]? = some (.loop { rec .ready none with state := .busy }) := World.putObj_heap_same (by omega)
      have hk2 : (Wa.putObj (w.heap.size + 1) (.loop { rec .ready none with state := .busy })).heap[w.heap.size]? = some (.deferred (some [])) := (World.putObj_heap_other (by omega)).trans hka
      have hw2 : KpT T w0.heap.size W (Wa.putObj (w.heap.size + 1) (.loop { rec .ready none with state := .busy })) := (KpT.ext hea).trans (KpT.put _ hla rfl)
      refine wpIn_mono (hbody _ pre x suf a' _ (hIp _ _ _ _ _ (hIe _ _ _ hi hea) (by omega) hla rfl) (hAx _ _ _ _ _ _ hax (by omega) hla rfl) hsp (by simp; omega)) ?_
      have fin : ∀ (jump : Option Code) (W3 : World), KeepsOthers (Wa.putObj (w.heap.size + 1) (.loop { rec .ready none with state := .busy })) W3 →
          (Instr.endRound (w.heap.size + 1) jump).run P W3 = .ok (.bool jump.isNone) (W3.putObj (w.heap.size + 1) (.loop (rec (if jump.isNone then .ready else .done) jump))) ∧
          W3.heap[w.heap.size + 1]? = some (.loop { rec .ready none with state := .busy }) ∧
          (W3.putObj (w.heap.size + 1) (.loop (rec (if jump.isNone then .ready else .done) jump))).heap[w.heap.size + 1]? = some (.loop (rec (if jump.isNone then .ready else .done) jump)) ∧
          (W3.putObj (w.heap.size + 1) (.loop (rec (if jump.isNone then .ready else .done) jump))).heap[w.heap.size]? = some (.deferred (some [])) ∧ Wa.heap.size ≤ W3.heap.size := fun jump W3 hk3 => by
        have hl3 := hk3.same _ _ hl2 rfl
        have := run_endRound (P := P) jump hl3
        rw [hrec] at this ⊢
        exact ⟨this, by rw [hrec] at hl3; exact hl3, World.putObj_heap_same (Array.getElem?_eq_some_iff.1 hl3).1, (World.putObj_heap_other (by omega)).trans (hk3.same _ _ hk2 rfl), by simpa using hk3.size⟩
      rintro e a3 W3 hp
      cases e with
      | normal =>
        obtain ⟨hk3, hkp3, hi3⟩ := hp
        obtain ⟨hr, hl3, hl4, hk4, hz4⟩ := fin none W3 hk3
        exact ⟨_, _, hr, .inl ⟨rfl, ⟨hIp _ _ _ _ _ hi3 (by omega) hl3 rfl, hl4, hk4, by simp; omega⟩, (hw2.trans hkp3).trans (KpT.put _ hl3 rfl)⟩⟩
      | ret =>
        obtain ⟨hk3, hi3⟩ := hp
        obtain ⟨hr, hl3, hl4, hk4, hz4⟩ := fin (some .ret) W3 hk3
        exact ⟨_, _, hr, .inr ⟨rfl, .ret, hIxp _ _ _ _ _ _ hi3 (by omega) hl3 rfl, hl4, hk4⟩⟩
      | exit id =>
        obtain ⟨hk3, hi3⟩ := hp
        obtain ⟨hr, hl3, hl4, hk4, hz4⟩ := fin (some (.exit id)) W3 hk3
        exact ⟨_, _, hr, .inr ⟨rfl, .exit id, hIxp _ _ _ _ _ _ hi3 (by omega) hl3 rfl, hl4, hk4⟩⟩
      | goto c =>
        obtain ⟨hk3, hi3⟩ := hp
        obtain ⟨hr, hl3, hl4, hk4, hz4⟩ := fin (some (.goto c)) W3 hk3
        exact ⟨_, _, hr, .inr ⟨rfl, .goto c, hIxp _ _ _ _ _ _ hi3 (by omega) hl3 rfl, hl4, hk4⟩⟩
      | panic ch => exact hp.elim
      | outgrown => exact hp.elim
    · rintro e W2 ⟨⟨v, rfl⟩, (⟨hi, hl, hk, _⟩ | ⟨pre, c, hi, hl, hk⟩)⟩
      · exact ⟨none, _, by have := run_endLoop (P := P) hl (by rw [hrec]; simp); rw [hrec] at this; exact this, hdone _ _ (Nat.le_refl _) (hIp _ _ _ _ _ hi (by omega) hl rfl) ((World.putObj_heap_other (by omega)).trans hk)⟩
      · exact ⟨some c, _, by have := run_endLoop (P := P) hl (by rw [hrec]; simp); rw [hrec] at this; exact this, hstop _ c pre _ (Nat.le_refl _) (hIxp _ _ _ _ _ _ hi (by omega) hl rfl) ((World.putObj_heap_other (by omega)).trans hk)⟩
end
end Go.Proofs.Ytkkeblgahbpmmaa
/- Inside a fence: a region that draws its order, with a quiet head and a chain for a tail, walked in the order of the text. -/
namespace Go.Proofs.Ytkkeblgahbpmmaa
namespace Tail
variable {F : Fence} {r : Nat} {P : Program} {ops : Array Oper} {md : Region.Mode} {C : World → Prop}

def chainB (md : Region.Mode) (ops : Array Oper) : Nat → Nat → Array Bool → Bool
  | 0, _, listed => (Region.ready md ops listed).isEmpty
  | g + 1, k, listed => decide (Region.ready md ops listed = [k]) && chainB md ops g (k + 1) (listed.setIfInBounds k true)
def lexHead0 (md : Region.Mode) (ops : Array Oper) (g : Nat) : Nat → Nat → Array Bool → Bool
  | 0, k, listed => chainB md ops g k listed && (Region.ready md ops listed).all (fun j => decide (k ≤ j))
  | f + 1, k, listed => (Region.ready md ops listed).contains k && Region.free md ops listed k && lexHead0 md ops g f (k + 1) (listed.setIfInBounds k true)
def lexTail0 (md : Region.Mode) (ops : Array Oper) (n : Nat) : Bool :=
  Region.noSelect ops && decide (n < ops.size) && Region.sinkB md ops n && rootB md ops n && lexHead0 md ops (ops.size - n) n 0 (Array.replicate ops.size false)
theorem wpAnyIn_of_chain {Q' : Exit → Act → World → Prop} : ∀ (l : List Oper) (k : Nat) (listed : Array Bool) (a : Act) (w : World), (∀ j, l[j]? = ops[k + j]?) →
    chainB md ops l.length k listed = true → wpListIn F r P ops Q' l a w → wpAnyIn F r P md ops Q' l.length listed a w
  | [], _, _, _, _, _, hB, h => ⟨by simpa [chainB] using hB, h⟩
  | o :: l, k, listed, a, w, hl, hB, h => by
    have h0 : ops[k]? = some o := by simpa using (hl 0).symm
    have hl' : ∀ j, l[j]? = ops[k + 1 + j]? := fun j => by have := hl (j + 1); simpa [Nat.add_assoc, Nat.add_comm 1 j] using this
    simp only [List.length_cons, chainB, Bool.and_eq_true, decide_eq_true_eq] at hB
    obtain ⟨hB, hB'⟩ := hB
    have hw : wpOpIn F r P ops Q' k (wpListIn F r P ops Q' l) a w := by unfold wpOpIn; simp only [h0]; exact h
    refine ⟨fun h1 => (by rw [hB] at h1; cases h1), fun i hi => ?_⟩
    rw [hB] at hi
    have hik : i = k := by simpa using hi
    subst hik
    exact wpOpIn_mono (fun a' w' h' => wpAnyIn_of_chain l (i + 1) _ a' w' hl' hB' h') hw
def wpAnyLQIn (F : Fence) (r : Nat) (P : Program) (md : Region.Mode) (ops : Array Oper) (C : World → Prop) (n : Nat) (L : Array Bool → Act → Prop) : Nat → Array Bool → Act → Prop
  | 0, listed, a => L listed a
  | f + 1, listed, a =>
    Region.ready md ops listed ≠ [] ∧ ∀ i ∈ Region.ready md ops listed, i < n ∧ qOpIn F r P ops C i (wpAnyLQIn F r P md ops C n L f (listed.setIfInBounds i true)) a
theorem wpAnyIn_of_headQ {n g : Nat} {L : Array Bool → Act → Prop} {Q' : Exit → Act → World → Prop} (hro : F.round = none) (hL : ∀ listed a w, C w → L listed a → wpAnyIn F r P md ops Q' g listed a w) :
    ∀ (f : Nat) (listed : Array Bool) (a : Act) (w : World), C w → wpAnyLQIn F r P md ops C n L f listed a → wpAnyIn F r P md ops Q' (f + g) listed a w
  | 0, listed, a, w, hw, h => by rw [Nat.zero_add]; exact hL _ _ _ hw h
  | f + 1, listed, a, w, hw, h => by
    rw [show f + 1 + g = (f + g) + 1 by omega]
    exact ⟨fun h0 => absurd h0 h.1, fun i hi => wpOpIn_of_qOpIn hro hw (fun a' w' hw' h' => wpAnyIn_of_headQ hro hL f _ a' w' hw' h') (h.2 i hi).2⟩
theorem wpAnyLQIn_first {n i : Nat} {oi : Oper} {v : Value} {L : Array Bool → Act → Prop} (hi : ops[i]? = some oi) (hsel : ∀ (j : Nat) (o : Oper) cs b, ops[j]? = some o → o.op ≠ .select cs b)
    (hs : Region.sinkB md ops n = true) (hc : rootB md ops n = true) (hn : n < ops.size) (hin : i < n)
    (hdone : ∀ listed a, L listed a → ∀ j ∈ Region.ready md ops listed, n ≤ j) :
    ∀ (f : Nat) (listed : Array Bool) (a : Act), HeadInv md ops n listed →
      (∀ j oj, ops[j]? = some oj → j ≠ i → listed.getD j true = false → (∀ e ∈ oj.after, Region.binds md e = true → e.on ≠ i) → oi.apart ops oj = true) →
      i ∈ Region.ready md ops listed → YieldsQuiet F r P ops C oi v a →
      wpAnyLQIn F r P md ops C n L f (listed.setIfInBounds i true) (a.put oi.dst v) → wpAnyLQIn F r P md ops C n L (f + 1) listed a := by
  intro f
  induction f with
  | zero =>
    intro listed a inv _ hr hy H
    have hun := (mem_ready.1 hr).1
    refine ⟨fun h => (by rw [h] at hr; cases hr), fun j hj => ?_⟩
    have hjn : j < n := by
      rcases Nat.lt_or_ge j n with h | h
      · exact h
      · exact absurd hj (tail_waits hs hc hn inv _ i rfl hin hun j h)
    refine ⟨hjn, ?_⟩
    by_cases hji : j = i
    · subst hji; exact hy.qOpIn hi H
    · have := hdone _ _ H j (ready_mono hj hji)
      omega
  | succ f ih =>
    intro listed a inv hfree hr hy H
    have hun := (mem_ready.1 hr).1
    refine ⟨fun h => (by rw [h] at hr; cases hr), fun j hj => ?_⟩
    have hjn : j < n := by
      rcases Nat.lt_or_ge j n with h | h
      · exact h
      · exact absurd hj (tail_waits hs hc hn inv _ i rfl hin hun j h)
    refine ⟨hjn, ?_⟩
    by_cases hji : j = i
    · subst hji; exact hy.qOpIn hi H
    · have h1 := (H.2 j (ready_mono hj hji)).2
      obtain ⟨hjun, oj, hoj, hall⟩ := mem_ready.1 hj
      have hnot : ∀ e ∈ oj.after, Region.binds md e = true → e.on ≠ i := fun e he hb heq => by
        have h1 := hall e he hb
        rw [heq, getD_both hun] at h1
        cases h1
      have h2 := qOpIn_put hoj (hfree j oj hoj hji hjun hnot) (fun cs b => hsel i oi cs b hi) (fun cs b => hsel j oj cs b hoj) hy h1
      have hfree' : ∀ k ok, ops[k]? = some ok → k ≠ i → (listed.setIfInBounds j true).getD k true = false →
          (∀ e ∈ ok.after, Region.binds md e = true → e.on ≠ i) → oi.apart ops ok = true := fun k ok hk hki hun hno => by
        refine hfree k ok hk hki ?_ hno
        by_cases hjk : j = k
        · subst hjk; exact hjun
        · rw [getD_set_ne true hjk] at hun; exact hun
      refine qOpIn_mono (fun a' h3 => ih (listed.setIfInBounds j true) a' (inv.set hj hjn) hfree' (ready_mono hr (Ne.symm hji)) h3.1 ?_) h2
      rw [Array.setIfInBounds_comm _ _ hji]
      exact h3.2

theorem wpAnyLQIn_lex {n g : Nat} {Lq : Act → Prop} (hsel : Region.noSelect ops = true) (hs : Region.sinkB md ops n = true) (hc : rootB md ops n = true) (hn : n < ops.size) :
    ∀ (l : List Oper) (k : Nat) (listed : Array Bool) (a : Act), (∀ j, j < l.length → l[j]? = ops[k + j]?) → k + l.length = n → HeadInv md ops n listed →
    lexHead0 md ops g l.length k listed = true → wpQuietIn F r P ops C Lq l a →
    wpAnyLQIn F r P md ops C n (fun listed' a' => (chainB md ops g n listed' = true ∧ ∀ j ∈ Region.ready md ops listed', n ≤ j) ∧ Lq a') l.length listed a
  | [], k, listed, a, _, hk, _, hB, h => by
    have : k = n := by simpa using hk
    subst this
    simp only [List.length_nil, lexHead0, Bool.and_eq_true] at hB
    exact ⟨⟨hB.1, fun j hj => by have := List.all_eq_true.1 hB.2 j hj; simpa using this⟩, h⟩
  | o :: l, k, listed, a, hl, hk, inv, hB, h => by
    have h0 : ops[k]? = some o := by simpa using (hl 0 (by simp)).symm
    simp only [List.length_cons, lexHead0, Bool.and_eq_true] at hB
    obtain ⟨⟨hr, hf⟩, hB'⟩ := hB
    have hkn : k < n := by simp only [List.length_cons] at hk; omega
    have hr' : k ∈ Region.ready md ops listed := by simpa using hr
    have hst : qOpIn F r P ops C k (wpQuietIn F r P ops C Lq l) a := by unfold qOpIn; simp only [h0]; exact h
    obtain ⟨v, hy, hK⟩ := yieldsQuiet_of_qOpIn h0 hst
    exact wpAnyLQIn_first h0 (Region.noSelect_spec hsel) hs hc hn hkn (fun listed' a' hL => hL.1.2) l.length listed a inv (Region.free_spec h0 hf) hr' hy
      (wpAnyLQIn_lex hsel hs hc hn l (k + 1) _ _ (fun j hj => by have := hl (j + 1) (by simp; omega); simpa [Nat.add_assoc, Nat.add_comm 1 j] using this) (by simp only [List.length_cons] at hk; omega) (inv.set hr' hkn) hB' hK)

theorem wpIn_region_qtail {id : Nat} {Q : Exit → Act → World → Prop} {a : Act} {w : World} {l : List Oper} (n : Nat) (hro : F.round = none) (hm : P.follows .mixedOrders = true) (hB : lexTail0 .any l.toArray n = true) (hC : C w.drew)
    (h : wpQuietIn F r P l.toArray C (fun a' => ∀ w', C w' → wpListIn F r P l.toArray Q (l.drop n) a' w') (l.take n) a) : (Code.region id l.toArray true).wpIn F r P Q a w := by
  simp only [lexTail0, Bool.and_eq_true, decide_eq_true_eq] at hB
  obtain ⟨⟨⟨⟨hsel, hn⟩, hs⟩, hc⟩, hlex⟩ := hB
  have hn' : n < l.length := by simpa using hn
  have htl : (l.take n).length = n := by simp; omega
  have hdl : (l.drop n).length = l.toArray.size - n := by simp
  have inv0 : HeadInv .any l.toArray n (Array.replicate l.toArray.size false) :=
    ⟨by simp, fun j oj _ hl => (by rw [getD_replicate_false] at hl; cases hl), fun t _ ht => getD_in (by simpa using ht) (getD_replicate_false _ _)⟩
  have H := wpAnyLQIn_lex (F := F) (r := r) (C := C) (md := .any) (g := l.toArray.size - n) hsel hs hc hn (l.take n) 0 _ a (fun j hj => by
    have hj' : j < n := by rw [htl] at hj; exact hj
    simp [hj']) (by simpa using htl) inv0 (by rw [htl]; exact hlex) h
  refine wpIn_region_any hm ?_
  have := wpAnyIn_of_headQ (C := C) (Q' := Q) (g := l.toArray.size - n) hro (fun listed a' w' hw' hL => by
    have := wpAnyIn_of_chain (F := F) (r := r) (md := .any) (Q' := Q) (l.drop n) n listed a' w' (fun j => by simp [List.getElem?_drop]) (by rw [hdl]; exact hL.1.1) (hL.2 w' hw')
    rwa [hdl] at this) _ _ _ _ hC H
  rw [htl, show n + (l.toArray.size - n) = l.toArray.size by omega] at this
  exact this
end Tail
end Go.Proofs.Ytkkeblgahbpmmaa
/- The iterator over the edges of a hull, walked: it yields each corner with the one behind it; of one point none. -/
namespace Go.Proofs.Ytkkeblgahbpmmaa
open Go.RowKit Go.Shelf

theorem quietL_step {n : Nat} {P : Program} {ops : Array Oper} {C : World → Prop} {Q : Act → Prop} {a : Act} {o : Oper} {rest : List Oper}
    (h : ∀ K : Act → Prop, (∀ a, wpQuietIn Fence.wide n P ops C Q rest a → K a) → if Region.wanted o (yielded ops a.tmps) then o.quietIn Fence.wide n P a C K else K (a.put o.dst undef)) : wpQuietIn Fence.wide n P ops C Q (o :: rest) a :=
  wpQuietIn_step (fun _ _ _ _ => trivial) h
def encEd (x : HPt × HPt) : Array Value := #[vPt x.1, vPt x.2]
def nxtL (h : List HPt) (i : Nat) : HPt := h.getD ((i + 1) % h.length) (0, 0)
/-- the edges of a hull -/
def edgesP (h : List HPt) : List (HPt × HPt) := if 1 < h.length then (List.range h.length).map (fun i => (h.getD i (0, 0), nxtL h i)) else []
theorem edgesP_len {h : List HPt} (h1 : 1 < h.length) : (edgesP h).length = h.length := by simp [edgesP, h1]
theorem edgesP_one {h : List HPt} (h1 : ¬ 1 < h.length) : edgesP h = [] := by simp [edgesP, h1]
theorem edgesP_at {h : List HPt} (h1 : 1 < h.length) {i : Nat} (hi : i < h.length) : (edgesP h)[i]? = some (h.getD i (0, 0), nxtL h i) := by
  simp [edgesP, h1, hi]
theorem edges_end {h : List HPt} {k : Nat} (hk : h.length ≤ k) : (edgesP h).take k = edgesP h := by
  by_cases h1 : 1 < h.length
  · exact List.take_of_length_le (by rw [edgesP_len h1]; exact hk)
  · rw [edgesP_one h1]; simp
set_option maxRecDepth 100000 in
set_option maxHeartbeats 4000000 in
theorem edges_seq (v : Value) (h : List HPt) (w0 w : World) (hs : Pts w0 v h) (T : TypeId → Prop) (t : TypeId) (hn : h.length ≤ 100000) :
    SeqT3 Fence.wide 4 Try.prog 77 #[v] encEd T t (edgesP h) w0 w := by
  intro L J Jx W hE hJb hJ hY hJ0
  refine callsIn_wide.2 ?_
  have HJ0 := Lib.hid hJ0
  have HY := Lib.hid hY
  have HJ := Lib.hid hJ
  have HJb := Lib.hid hJb
  clear hJ0 hY hJ hJb
  rcases hs with ⟨a0, c0, rfl, rfl⟩ | ⟨b, off, cap, rfl, hl, hcap, hc⟩
  · go_enter Try.func77, Try.ntmps77
    go_wp2
    go_loopw [8] (fun i wr => i = .int .i64 0 ∧ J [] wr) (fun _ _ => 0)
    case atStart => exact ⟨rfl, HJ0.out⟩
    case round =>
      obtain ⟨rfl, hj⟩ := hrel
      have HX := Lib.hid hj
      clear hj
      go_wp2
      go_end0
      exact ⟨⟨_, rfl⟩, .inl HX.out⟩
  · have HC := Lib.hid hc
    clear hc
    have hl2 : (h.length : Int) ≤ 9223372036854775807 := by omega
    go_enter Try.func77, Try.ntmps77
    go_wp2
    go_loopw [8] (fun i wr => ∃ k : Nat, k ≤ h.length ∧ i = .int .i64 k ∧ J ((edgesP h).take k) wr) (fun i _ => h.length - (intOf i).toNat)
    case atStart => exact ⟨0, by omega, rfl, by simpa using HJ0.out⟩
    case round =>
      obtain ⟨k, hk, rfl, hJk⟩ := hrel
      have HJK := Lib.hid hJk
      clear hJk
      by_cases hlt : k < h.length
      · have E0 : Ext w0 wr := HJb.out _ _ HJK.out
        have c1 := E0.cell (HC.out k hlt).1
        have c2 := E0.cell (HC.out k hlt).2
        have lb := lt_of_cell c1
        by_cases h1 : 1 < h.length
        · obtain ⟨M, hM⟩ : ∃ M, (k + 1) % h.length = M := ⟨_, rfl⟩
          have hMl : M < h.length := by rw [← hM]; exact Nat.mod_lt _ (by omega)
          have m1 := E0.cell (HC.out M hMl).1
          have m2 := E0.cell (HC.out M hMl).2
          have hat := edgesP_at h1 hlt
          unfold nxtL at hat
          rw [hM] at hat
          generalize h.getD k (0, 0) = p at *
          generalize h.getD M (0, 0) = q at *
          obtain ⟨p1, p2⟩ := p
          obtain ⟨q1, q2⟩ := q
          simp only at c1 c2 m1 m2
          have hlts : k < (edgesP h).length := by rw [edgesP_len h1]; exact hlt
          have hge : (edgesP h)[k] = ((p1, p2), (q1, q2)) := by
            have h9 : (edgesP h)[k]? = some (edgesP h)[k] := List.getElem?_eq_getElem hlts
            rw [h9] at hat
            exact Option.some.inj hat
          have hsplit : edgesP h = (edgesP h).take k ++ ((p1, p2), (q1, q2)) :: (edgesP h).drop (k + 1) := by rw [← hge, List.getElem_cons_drop, List.take_append_drop]
          have htk : (edgesP h).take (k + 1) = (edgesP h).take k ++ [((p1, p2), (q1, q2))] := by rw [← hge]; exact List.take_succ_eq_append_getElem hlts
          have HTK := Lib.hid htk
          have HSP := Lib.hid hsplit
          have hrem : Int.tmod ((k : Int) + 1) (h.length : Int) = (M : Int) := by rw [← hM]; norm_cast
          have hln0 : ¬ h = [] := by intro e; rw [e] at h1; simp at h1
          have e5 := IntWalk.i64_in ((k : Int) + 1) (by omega)
          have e6 := IntWalk.i64_in (M : Int) (by omega)
          have g0 : decide ((1 : Int) < (h.length : Int)) = true := by simp; omega
          have g1 : decide (1 < h.length) = true := by simpa using h1
          clear htk hsplit hat hge hlts hM
          go_upto_region 3 with fail
          have eW : Ext wr (wr.alloc (.cells #[.int .i64 p1, .int .i64 p2] 52)) := (Ext.refl wr).alloc _
          have y0 : (wr.alloc (.cells #[.int .i64 p1, .int .i64 p2] 52)).cell? ⟨wr.heap.size, 0, none⟩ = some (.int .i64 p1) := World.cell?_alloc_new _ _ _ _
          have y1 : (wr.alloc (.cells #[.int .i64 p1, .int .i64 p2] 52)).cell? ⟨wr.heap.size, 1, none⟩ = some (.int .i64 p2) := World.cell?_alloc_new _ _ _ _
          generalize (wr.alloc (.cells #[.int .i64 p1, .int .i64 p2] 52)) = W3 at *
          replace m1 := eW.cell m1
          replace m2 := eW.cell m2
          refine (wpIn_wide (n := 4)).1 ?_
          refine Tail.wpIn_region_qtail (F := Fence.wide) (C := fun w' => Ext W3 w') 14 rfl (by kernel_rfl) (by kernel_rfl) ((Ext.refl _).drew) ?_
          simp only [List.take_succ_cons, List.take_zero, List.drop_succ_cons, List.drop_zero]
          repeat
            with_reducible refine quietL_step (fun K hK => ?_)
            go_simp
            first
              | (refine hK _ ?_; clear hK K)
              | (apply Exists.intro
                 refine ⟨fun w' hC => ?_, hK _ ?_⟩
                 · first
                     | with_reducible rfl
                     | (have q0 := hC.cell y0; have q1 := hC.cell y1; have q2 := hC.cell m1; have q3 := hC.cell m2; go_simp; done)
                     | (have q0 := hC.cell y0; have q1 := hC.cell y1; have q2 := hC.cell m1; have q3 := hC.cell m2; go_simp; exact ⟨rfl, rfl⟩)
                     | (have q0 := hC.cell y0; have q1 := hC.cell y1; have q2 := hC.cell m1; have q3 := hC.cell m2; go_simp; with_reducible rfl)
                 clear hK K)
          refine wpQuietIn_nil ?_
          intro wq hEq
          have EQ := eW.trans hEq
          obtain ⟨fn', tmps', asg', bod', hy, hR⟩ := HY.out ((edgesP h).take k) ((p1, p2), (q1, q2)) ((edgesP h).drop (k + 1)) wq (HJ.out.1 _ _ _ HJK.out EQ) HSP.out
          dsimp only [encEd, vPt] at hy
          gi_wp2
          refine hR.mono ?_
          rintro e W4 (⟨rfl, hA4, hK4⟩ | ⟨rfl, hx4⟩)
          rotate_left
          · gi_wp2
            go_wp2_with fail
            refine bodyPost_ret (results_none rfl _ _ _) rfl ?_
            exact ⟨⟨_, rfl⟩, .inr ⟨_, hx4⟩⟩
          clear hK4 hR hy
          gi_wp2
          go_wp2_with fail
          go_roundw
          case rel => exact ⟨k + 1, by omega, by go_num, by rw [HTK.out]; exact hA4⟩
          case measure => simp [intOf]; omega
        · have g0 : decide ((1 : Int) < (h.length : Int)) = false := by simp; omega
          have g1 : decide (1 < h.length) = false := by simpa using h1
          have hed := edgesP_one h1
          have HED := Lib.hid hed
          clear hed
          generalize h.getD k (0, 0) = p at *
          obtain ⟨p1, p2⟩ := p
          simp only at c1 c2
          go_upto_region 3 with fail
          have eW : Ext wr (wr.alloc (.cells #[.int .i64 p1, .int .i64 p2] 52)) := (Ext.refl wr).alloc _
          generalize (wr.alloc (.cells #[.int .i64 p1, .int .i64 p2] 52)) = W3 at *
          have EW3 := Lib.hid eW
          clear eW E0 hE
          (refine wp_region_ext (C := fun w' => Ext W3 w') (by kernel_rfl) (by kernel_rfl) (by (repeat' (first | exact Ext.refl _ | assumption | refine Ext.alloc ?_ _ | refine Ext.drew ?_ | refine Ext.drewN ?_ _ | refine Ext.set ?_ (by first | exact Nat.le_refl _ | exact le1 _ | exact le2 _ | exact le3 _ | exact le4 _ | exact le5 _ | exact le6 _) _ | refine Ext.trans ?_ (by assumption)))) ?_; (repeat (with_reducible refine wpQuiet_step (fun K hK => ?_); go_simp; first | (refine hK _ ?_; clear hK K) | (apply Exists.intro; refine ⟨fun w' hC => ?_, hK _ ?_⟩; (focus first | with_reducible rfl | (skip; go_simp; done) | (skip; go_simp; exact ⟨rfl, rfl⟩) | (skip; go_simp; with_reducible rfl)); clear hK K))); refine wpQuiet_nil ?_; intro wq hEq)
          have HJ4 := Lib.hid (HJ.out.1 _ _ _ HJK.out (EW3.out.trans hEq))
          clear hEq
          go_wp2
          go_roundw
          case rel => exact ⟨k + 1, by omega, by go_num, by have h9 := HJ4.out; rw [HED.out] at h9 ⊢; simpa using h9⟩
          case measure => simp [intOf]; omega
      · have hkl : k = h.length := by omega
        subst hkl
        go_wp2
        go_end0
        exact ⟨⟨_, rfl⟩, .inl (by have h9 := HJK.out; rwa [edges_end (Nat.le_refl _)] at h9)⟩
end Go.Proofs.Ytkkeblgahbpmmaa
