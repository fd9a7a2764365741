/- A region that draws its order: a condition on the world, held until one operation comes up (a store into a cell that the region has loaded): behind it any order, with no condition. -/
import Derived.Deep.RegionHeld3
namespace Go.Proofs.Ytgikfliibimkdaa
open Go
section
variable {P : Program} {ops : Array Oper} {Q : Exit → Act → World → Prop} {md : Region.Mode} {S : World → Prop} {st : Nat}

/-- any order; the condition holds behind each operation that is carried out, up to number 'st' -/
def AnyUntil (P : Program) (md : Region.Mode) (ops : Array Oper) (Q : Exit → Act → World → Prop) (S : World → Prop) (st : Nat) : Nat → Array Bool → Act → World → Prop
  | 0, listed, a, w => Region.ready md ops listed = [] ∧ Q .normal a w
  | n + 1, listed, a, w => (Region.ready md ops listed = [] → Q .normal a w) ∧ ∀ i ∈ Region.ready md ops listed, wpOp P ops Q i (fun a' w' =>
      (i = st → wpAny P md ops Q n (listed.setIfInBounds i true) a' w') ∧ (¬ i = st → S w' ∧ AnyUntil P md ops Q S st n (listed.setIfInBounds i true) a' w')) a w
theorem AnyUntil.any : ∀ (n : Nat) (listed : Array Bool) (a : Act) (w : World), AnyUntil P md ops Q S st n listed a w → wpAny P md ops Q n listed a w
  | 0, _, _, _, h => h
  | n + 1, _, _, _, h => ⟨h.1, fun i hi => wpOp_mono (fun a' w' h' => by
      by_cases e : i = st
      · exact h'.1 e
      · exact AnyUntil.any n _ a' w' (h'.2 e).2) (h.2 i hi)⟩
/-- number 'st' waits for number 'i' -/
def waitsB (md : Region.Mode) (ops : Array Oper) (st i : Nat) : Bool := match ops[st]? with
  | some o => o.after.any fun e => Region.binds md e && e.on == i
  | none => true
theorem waits_ready {i : Nat} {listed : Array Bool} (hw : waitsB md ops st i = true) (hi : i ∈ Region.ready md ops listed) : ¬ st ∈ Region.ready md ops listed := fun hs => by
  obtain ⟨hin, _⟩ := mem_ready.1 hi
  obtain ⟨_, o, ho, hall⟩ := mem_ready.1 hs
  unfold waitsB at hw
  rw [ho] at hw
  obtain ⟨e, he, hb⟩ := Array.any_eq_true'.1 hw
  simp only [Bool.and_eq_true, beq_iff_eq] at hb
  have h1 := hall e he hb.1
  rw [hb.2] at h1
  rcases Nat.lt_or_ge i listed.size with hl | hl
  · simp [hl] at hin h1
    rw [hin] at h1
    cases h1
  · simp [Array.getElem?_eq_none hl] at h1
theorem until_first {i : Nat} {oi : Oper} {v : Value} (hi : ops[i]? = some oi) (hsel : ∀ (j : Nat) (o : Oper) cs b, ops[j]? = some o → o.op ≠ .select cs b)
    (hQ : ∀ c a w, Q (.panic c) (a.put oi.dst v) w → Q (.panic c) a w) (hst : ¬ i = st) (hw : waitsB md ops st i = true) :
    ∀ (n : Nat) (listed : Array Bool) (a : Act) (w : World),
      (∀ j oj, ops[j]? = some oj → j ≠ i → listed.getD j true = false → (∀ e ∈ oj.after, Region.binds md e = true → e.on ≠ i) → oi.apart ops oj = true) →
      i ∈ Region.ready md ops listed → YieldsIf P ops S oi v a → S w → AnyUntil P md ops Q S st n (listed.setIfInBounds i true) (a.put oi.dst v) w → AnyUntil P md ops Q S st (n + 1) listed a w
  | 0, listed, a, w, hf, hr, hy, hS, H => by
    refine ⟨fun h => (by rw [h] at hr; cases hr), fun j hj => ?_⟩
    by_cases hji : j = i
    · subst hji
      exact hy.wpOp hi hS ⟨fun e => absurd e hst, fun _ => ⟨hS, H⟩⟩
    · have h0 := ready_mono hj hji
      rw [H.1] at h0
      cases h0
  | n + 1, listed, a, w, hf, hr, hy, hS, H => by
    refine ⟨fun h => (by rw [h] at hr; cases hr), fun j hj => ?_⟩
    by_cases hji : j = i
    · subst hji
      exact hy.wpOp hi hS ⟨fun e => absurd e hst, fun _ => ⟨hS, H⟩⟩
    · have hjs : ¬ j = st := fun e => waits_ready hw hr (e ▸ hj)
      obtain ⟨hjun, oj, hoj, hall⟩ := mem_ready.1 hj
      have hnot : ∀ e ∈ oj.after, Region.binds md e = true → e.on ≠ i := fun e he hb heq => by
        have h1 := hall e he hb
        have h0 := (mem_ready.1 hr).1
        rw [heq] at h1
        rcases Nat.lt_or_ge i listed.size with hl | hl
        · simp [hl] at h0 h1
          rw [h0] at h1
          cases h1
        · simp [Array.getElem?_eq_none hl] at h1
      have h2 := wpOp_putIf hoj (hf j oj hoj hji hjun hnot) (fun cs b => hsel i oi cs b hi) (fun cs b => hsel j oj cs b hoj) hQ hy (H.2 j (ready_mono hj hji))
      refine wpOp_mono (fun a' w' h3 => ⟨fun e => absurd e hjs, fun _ => ?_⟩) h2
      obtain ⟨hSw, hU⟩ := h3.2.2 hjs
      refine ⟨hSw, until_first hi hsel hQ hst hw n (listed.setIfInBounds j true) a' w' (fun k ok hk hki hun hno => ?_) (ready_mono hr (Ne.symm hji)) h3.1 hSw ?_⟩
      · refine hf k ok hk hki ?_ hno
        by_cases hjk : j = k
        · subst hjk
          exact hjun
        · rw [getD_set_ne true hjk] at hun
          exact hun
      · rw [Array.setIfInBounds_comm _ _ hji]
        exact hU
/-- the same for an operation that yields in whatever world: it need not come before number 'st' -/
theorem until_firstY {i : Nat} {oi : Oper} {v : Value} (hi : ops[i]? = some oi) (hsel : ∀ (j : Nat) (o : Oper) cs b, ops[j]? = some o → o.op ≠ .select cs b)
    (hQ : ∀ c a w, Q (.panic c) (a.put oi.dst v) w → Q (.panic c) a w) (hst : ¬ i = st) :
    ∀ (n : Nat) (listed : Array Bool) (a : Act) (w : World),
      (∀ j oj, ops[j]? = some oj → j ≠ i → listed.getD j true = false → (∀ e ∈ oj.after, Region.binds md e = true → e.on ≠ i) → oi.apart ops oj = true) →
      i ∈ Region.ready md ops listed → Yields P ops oi v a → S w → AnyUntil P md ops Q S st n (listed.setIfInBounds i true) (a.put oi.dst v) w → AnyUntil P md ops Q S st (n + 1) listed a w
  | 0, listed, a, w, hf, hr, hy, hS, H => by
    refine ⟨fun h => (by rw [h] at hr; cases hr), fun j hj => ?_⟩
    by_cases hji : j = i
    · subst hji
      exact hy.yieldsIf.wpOp hi hS ⟨fun e => absurd e hst, fun _ => ⟨hS, H⟩⟩
    · have h0 := ready_mono hj hji
      rw [H.1] at h0
      cases h0
  | n + 1, listed, a, w, hf, hr, hy, hS, H => by
    refine ⟨fun h => (by rw [h] at hr; cases hr), fun j hj => ?_⟩
    by_cases hji : j = i
    · subst hji
      exact hy.yieldsIf.wpOp hi hS ⟨fun e => absurd e hst, fun _ => ⟨hS, H⟩⟩
    · obtain ⟨hjun, oj, hoj, hall⟩ := mem_ready.1 hj
      have hnot : ∀ e ∈ oj.after, Region.binds md e = true → e.on ≠ i := fun e he hb heq => by
        have h1 := hall e he hb
        have h0 := (mem_ready.1 hr).1
        rw [heq] at h1
        rcases Nat.lt_or_ge i listed.size with hl | hl
        · simp [hl] at h0 h1
          rw [h0] at h1
          cases h1
        · simp [Array.getElem?_eq_none hl] at h1
      have h2 := wpOp_put hoj (hf j oj hoj hji hjun hnot) (fun cs b => hsel i oi cs b hi) (fun cs b => hsel j oj cs b hoj) hQ hy (H.2 j (ready_mono hj hji))
      have hf' : ∀ k ok, ops[k]? = some ok → k ≠ i → (listed.setIfInBounds j true).getD k true = false → (∀ e ∈ ok.after, Region.binds md e = true → e.on ≠ i) → oi.apart ops ok = true := fun k ok hk hki hun hno => by
        refine hf k ok hk hki ?_ hno
        by_cases hjk : j = k
        · subst hjk
          exact hjun
        · rw [getD_set_ne true hjk] at hun
          exact hun
      refine wpOp_mono (fun a' w' h3 => ⟨fun e => ?_, fun e => ?_⟩) h2
      · have hU := h3.2.1 e
        rw [Array.setIfInBounds_comm _ _ (Ne.symm hji)] at hU
        exact wpAny_first hi hsel hQ n (listed.setIfInBounds j true) a' w' hf' (ready_mono hr (Ne.symm hji)) h3.1 hU
      · obtain ⟨hSw, hU⟩ := h3.2.2 e
        refine ⟨hSw, until_firstY hi hsel hQ hst n (listed.setIfInBounds j true) a' w' hf' (ready_mono hr (Ne.symm hji)) h3.1 hSw ?_⟩
        rw [Array.setIfInBounds_comm _ _ hji]
        exact hU
theorem udrop_get {i : Nat} {oi : Oper} {rest : List Oper} (hi : ops.toList.drop i = oi :: rest) : ops[i]? = some oi := by
  rw [← Array.getElem?_toList]
  have h : (ops.toList.drop i)[0]? = some oi := by rw [hi]; rfl
  rwa [List.getElem?_drop, Nat.add_zero] at h
/-- an operation that yields in every world that meets the condition -/
theorem until_take {i : Nat} {oi : Oper} {rest : List Oper} {v : Value} {n : Nat} {listed : Array Bool} {a : Act} {w : World} (hi : ops.toList.drop i = oi :: rest)
    (hs : Region.noSelect ops = true) (hf : Region.free md ops listed i = true) (hr : (Region.ready md ops listed).contains i = true) (hw : (waitsB md ops st i && !(i == st)) = true)
    (hQ : ∀ c a w, Q (.panic c) (a.put oi.dst v) w → Q (.panic c) a w) (hy : YieldsIf P ops S oi v a) (hS : S w)
    (h : AnyUntil P md ops Q S st n (listed.setIfInBounds i true) (a.put oi.dst v) w) : AnyUntil P md ops Q S st (n + 1) listed a w := by
  simp only [Bool.and_eq_true, Bool.not_eq_true', beq_eq_false_iff_ne] at hw
  exact until_first (udrop_get hi) (Region.noSelect_spec hs) hQ hw.2 hw.1 n listed a w (Region.free_spec (udrop_get hi) hf) (by simpa using hr) hy hS h
/-- an operation that yields in whatever world -/
theorem until_takeY {i : Nat} {oi : Oper} {rest : List Oper} {v : Value} {n : Nat} {listed : Array Bool} {a : Act} {w : World} (hi : ops.toList.drop i = oi :: rest)
    (hs : Region.noSelect ops = true) (hf : Region.free md ops listed i = true) (hr : (Region.ready md ops listed).contains i = true) (hw : (i == st) = false)
    (hQ : ∀ c a w, Q (.panic c) (a.put oi.dst v) w → Q (.panic c) a w) (hy : Yields P ops oi v a) (hS : S w)
    (h : AnyUntil P md ops Q S st n (listed.setIfInBounds i true) (a.put oi.dst v) w) : AnyUntil P md ops Q S st (n + 1) listed a w :=
  until_firstY (udrop_get hi) (Region.noSelect_spec hs) hQ (by simpa using hw) n listed a w (Region.free_spec (udrop_get hi) hf) (by simpa using hr) hy hS h
/-- the one operation that may come up now -/
theorem until_one {i : Nat} {o : Oper} {rest : List Oper} {n : Nat} {listed : Array Bool} {a : Act} {w : World} (hi : ops.toList.drop i = o :: rest) (hr : Region.ready md ops listed = [i]) (hst : (i == st) = false)
    (h : ∀ K' : Act → World → Prop, Shut (∀ a w, S w → (S w → AnyUntil P md ops Q S st n (listed.setIfInBounds i true) a w) → K' a w) → if Region.wanted o (yielded ops a.tmps) = true then Oper.wp P o a w K' Q else K' (a.put o.dst undef) w) : AnyUntil P md ops Q S st (n + 1) listed a w := by
  refine ⟨fun h0 => (by rw [hr] at h0; cases h0), fun j hj => ?_⟩
  rw [hr] at hj
  obtain rfl : j = i := by simpa using hj
  have hne : ¬ j = st := by simpa using hst
  exact wpOp_step (udrop_get hi) (fun K' hK => h K' (fun a w hS hW => hK a w ⟨fun e => absurd e hne, fun _ => ⟨hS, hW hS⟩⟩))
/-- the operation at which the condition ends -/
theorem until_last {o : Oper} {rest : List Oper} {n : Nat} {listed : Array Bool} {a : Act} {w : World} (hi : ops.toList.drop st = o :: rest) (hr : Region.ready md ops listed = [st])
    (h : ∀ K' : Act → World → Prop, Shut (∀ a w, wpAny P md ops Q n (listed.setIfInBounds st true) a w → K' a w) → if Region.wanted o (yielded ops a.tmps) = true then Oper.wp P o a w K' Q else K' (a.put o.dst undef) w) : AnyUntil P md ops Q S st (n + 1) listed a w := by
  refine ⟨fun h0 => (by rw [hr] at h0; cases h0), fun j hj => ?_⟩
  rw [hr] at hj
  obtain rfl : j = st := by simpa using hj
  exact wpOp_step (udrop_get hi) (fun K' hK => h K' (fun a w hW => hK a w ⟨fun _ => hW, fun e => absurd rfl e⟩))
/-- the beginning -/
theorem until_region (st : Nat) {id : Nat} {a : Act} {w : World} (hm : P.follows .mixedOrders = true) (hS : S w.drew)
    (h : S w.drew → AnyUntil P .any ops Q S st ops.size (Array.replicate ops.size false) a w.drew) : (Code.region id ops true).wp P Q a w :=
  wp_region_any hm (AnyUntil.any _ _ _ _ (h hS))
/-- behind the end: an operation that yields in whatever world -/
theorem uany_take {i : Nat} {oi : Oper} {rest : List Oper} {v : Value} {n : Nat} {listed : Array Bool} {a : Act} {w : World} (hi : ops.toList.drop i = oi :: rest)
    (hs : Region.noSelect ops = true) (hf : Region.free md ops listed i = true) (hr : (Region.ready md ops listed).contains i = true)
    (hQ : ∀ c a w, Q (.panic c) (a.put oi.dst v) w → Q (.panic c) a w) (hy : Yields P ops oi v a)
    (h : wpAny P md ops Q n (listed.setIfInBounds i true) (a.put oi.dst v) w) : wpAny P md ops Q (n + 1) listed a w :=
  wpAny_take (udrop_get hi) hs hf hr hQ hy h
theorem uany_done {listed : Array Bool} {a : Act} {w : World} (hr : Region.ready md ops listed = []) (h : Q .normal a w) : ∀ n, wpAny P md ops Q n listed a w
  | 0 => ⟨hr, h⟩
  | _ + 1 => ⟨fun _ => h, by rw [hr]; simp⟩
end
end Go.Proofs.Ytgikfliibimkdaa
