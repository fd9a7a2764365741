/- PTools: several texts in one. -/
import Derived.Deep.RegionHeld3
import Derived.RangeFuncKeeps
import Derived.RangeFuncNested
import Derived.RangeFuncBound
import Derived.RangeFuncCalls
import Derived.RangeFuncLeaves
import Derived.RangeFuncGives
import Derived.RangeFuncBox
import Derived.OwnWalkIn
import Derived.TacticsInMore
import Derived.LoopNIn
import Derived.LoopIn
import Derived.Test.YtaomlmkcifpfkaaPBase
import Derived.Sort.QuietTacIn
/- A region that draws its order: a condition on the world, held until one of some operations comes up (stores into cells that the region has loaded): behind it any order, with no condition. -/
namespace Go.Proofs.Ytaomlmkcifpfkaa
open Go
section
variable {P : Program} {ops : Array Oper} {Q : Exit → Act → World → Prop} {md : Region.Mode} {S : World → Prop} {en : Nat → Bool}

/-- any order; the condition holds behind each operation that is carried out, up to the first of the end -/
def AnyEnd (P : Program) (md : Region.Mode) (ops : Array Oper) (Q : Exit → Act → World → Prop) (S : World → Prop) (en : Nat → Bool) : Nat → Array Bool → Act → World → Prop
  | 0, listed, a, w => Region.ready md ops listed = [] ∧ Q .normal a w
  | n + 1, listed, a, w => (Region.ready md ops listed = [] → Q .normal a w) ∧ ∀ i ∈ Region.ready md ops listed, wpOp P ops Q i (fun a' w' =>
      (en i = true → wpAny P md ops Q n (listed.setIfInBounds i true) a' w') ∧ (en i = false → S w' ∧ AnyEnd P md ops Q S en n (listed.setIfInBounds i true) a' w')) a w
theorem AnyEnd.any : ∀ (n : Nat) (listed : Array Bool) (a : Act) (w : World), AnyEnd P md ops Q S en n listed a w → wpAny P md ops Q n listed a w
  | 0, _, _, _, h => h
  | n + 1, _, _, _, h => ⟨h.1, fun i hi => wpOp_mono (fun a' w' h' => by
      cases e : en i
      · exact AnyEnd.any n _ a' w' (h'.2 e).2
      · exact h'.1 e) (h.2 i hi)⟩
/-- what is listed, all that it waits for is -/
def ClosedE (md : Region.Mode) (ops : Array Oper) (listed : Array Bool) : Prop := ∀ (j : Nat) (o : Oper), listed.getD j false = true → ops[j]? = some o → ∀ e ∈ o.after, Region.binds md e = true → listed.getD e.on false = true
def closedB (md : Region.Mode) (ops : Array Oper) (listed : Array Bool) : Bool := (List.range ops.size).all fun j => !listed.getD j false || ((ops[j]?).map fun o => o.after.all fun e => !Region.binds md e || listed.getD e.on false).getD true
theorem closed_of {listed : Array Bool} (h : closedB md ops listed = true) : ClosedE md ops listed := fun j o hj ho e he hb => by
  unfold closedB at h
  rw [List.all_eq_true] at h
  have h1 := h j (List.mem_range.2 (Array.getElem?_eq_some_iff.1 ho).1)
  rw [ho, hj] at h1
  simp only [Bool.not_true, Bool.false_or, Option.map_some, Option.getD_some] at h1
  have h2 := Array.all_eq_true'.1 h1 e he
  rw [hb] at h2
  simpa using h2
theorem listed_put {listed : Array Bool} {j x : Nat} (h : listed.getD x false = true) : (listed.setIfInBounds j true).getD x false = true := by
  have hx : x < listed.size := by
    rcases Nat.lt_or_ge x listed.size with h1 | h1
    · exact h1
    · simp [Array.getD, Nat.not_lt.2 h1] at h
  by_cases e : j = x
  · subst e
    simp [hx]
  · simp [hx, e] at h ⊢
    exact h
theorem closed_put {listed : Array Bool} {j : Nat} (hc : ClosedE md ops listed) (hj : j ∈ Region.ready md ops listed) : ClosedE md ops (listed.setIfInBounds j true) := fun k o hk ho e he hb => by
  obtain ⟨_, oj, hoj, hall⟩ := mem_ready.1 hj
  by_cases e1 : j = k
  · subst e1
    rw [hoj] at ho
    obtain rfl := Option.some.inj ho
    exact listed_put (hall e he hb)
  · refine listed_put (hc k o ?_ ho e he hb)
    have hx : k < listed.size := by
      rcases Nat.lt_or_ge k listed.size with h1 | h1
      · exact h1
      · simp [Array.getD, Nat.not_lt.2 h1] at hk
    simp [hx, e1] at hk ⊢
    exact hk
/-- number 'st' waits for number 'i', itself or through others -/
def waitR (md : Region.Mode) (ops : Array Oper) : Nat → Nat → Nat → Bool
  | 0, _, _ => false
  | n + 1, st, i => match ops[st]? with
    | some o => o.after.any fun e => Region.binds md e && (e.on == i || waitR md ops n e.on i)
    | none => false
theorem waitR_listed {listed : Array Bool} (hc : ClosedE md ops listed) : ∀ (n st i : Nat) (o : Oper), ops[st]? = some o → (∀ e ∈ o.after, Region.binds md e = true → listed.getD e.on false = true) → waitR md ops n st i = true → listed.getD i false = true
  | 0, _, _, _, _, _, h => by simp [waitR] at h
  | n + 1, st, i, o, ho, hd, h => by
    unfold waitR at h
    rw [ho] at h
    obtain ⟨e, he, hb⟩ := Array.any_eq_true'.1 h
    simp only [Bool.and_eq_true, Bool.or_eq_true, beq_iff_eq] at hb
    have h1 := hd e he hb.1
    rcases hb.2 with h2 | h2
    · rw [← h2]; exact h1
    · cases h3 : ops[e.on]? with
      | none =>
        cases n with
        | zero => simp [waitR] at h2
        | succ n => unfold waitR at h2; rw [h3] at h2; cases h2
      | some o2 => exact waitR_listed hc n e.on i o2 h3 (hc e.on o2 h1 h3) h2
/-- all of the end wait for number 'i' -/
def waitsE (md : Region.Mode) (ops : Array Oper) (en : Nat → Bool) (i : Nat) : Bool := !en i && (List.range ops.size).all fun st => !en st || waitR md ops ops.size st i
theorem waitsE_not {i j : Nat} {listed : Array Bool} (hc : ClosedE md ops listed) (hw : waitsE md ops en i = true) (hi : i ∈ Region.ready md ops listed) (hj : j ∈ Region.ready md ops listed) : en j = false := by
  unfold waitsE at hw
  simp only [Bool.and_eq_true, List.all_eq_true, List.mem_range] at hw
  cases e : en j
  · rfl
  · obtain ⟨_, o, ho, hd⟩ := mem_ready.1 hj
    have hlt : j < ops.size := (Array.getElem?_eq_some_iff.1 ho).1
    have h1 := hw.2 j hlt
    rw [e] at h1
    simp only [Bool.not_true, Bool.false_or] at h1
    have h2 := waitR_listed hc _ _ _ o ho hd h1
    have h3 := (mem_ready.1 hi).1
    rcases Nat.lt_or_ge i listed.size with hl | hl
    · simp [hl] at h2 h3
      rw [h2] at h3
      cases h3
    · simp [Array.getElem?_eq_none hl] at h2
theorem end_first {i : Nat} {oi : Oper} {v : Value} (hi : ops[i]? = some oi) (hsel : ∀ (j : Nat) (o : Oper) cs b, ops[j]? = some o → o.op ≠ .select cs b)
    (hQ : ∀ c a w, Q (.panic c) (a.put oi.dst v) w → Q (.panic c) a w) (hw : waitsE md ops en i = true) :
    ∀ (n : Nat) (listed : Array Bool) (a : Act) (w : World), ClosedE md ops listed →
      (∀ j oj, ops[j]? = some oj → j ≠ i → listed.getD j true = false → (∀ e ∈ oj.after, Region.binds md e = true → e.on ≠ i) → oi.apart ops oj = true) →
      i ∈ Region.ready md ops listed → YieldsIf P ops S oi v a → S w → AnyEnd P md ops Q S en n (listed.setIfInBounds i true) (a.put oi.dst v) w → AnyEnd P md ops Q S en (n + 1) listed a w
  | 0, listed, a, w, _, hf, hr, hy, hS, H => by
    have hen : en i = false := by unfold waitsE at hw; simp only [Bool.and_eq_true, Bool.not_eq_true'] at hw; exact hw.1
    refine ⟨fun h => (by rw [h] at hr; cases hr), fun j hj => ?_⟩
    by_cases hji : j = i
    · subst hji
      exact hy.wpOp hi hS ⟨(fun e => by rw [hen] at e; cases e), fun _ => ⟨hS, H⟩⟩
    · have h0 := ready_mono hj hji
      rw [H.1] at h0
      cases h0
  | n + 1, listed, a, w, hc, hf, hr, hy, hS, H => by
    have hen : en i = false := by unfold waitsE at hw; simp only [Bool.and_eq_true, Bool.not_eq_true'] at hw; exact hw.1
    refine ⟨fun h => (by rw [h] at hr; cases hr), fun j hj => ?_⟩
    by_cases hji : j = i
    · subst hji
      exact hy.wpOp hi hS ⟨(fun e => by rw [hen] at e; cases e), fun _ => ⟨hS, H⟩⟩
    · have hjs : en j = false := waitsE_not hc hw hr hj
      obtain ⟨hjun, oj, hoj, hall⟩ := mem_ready.1 hj
      have hnot : ∀ e ∈ oj.after, Region.binds md e = true → e.on ≠ i := fun e he hb heq => by
        have h1 := hall e he hb
        have h0 := (mem_ready.1 hr).1
        rw [heq] at h1
        rcases Nat.lt_or_ge i listed.size with hl | hl
        · simp [hl] at h0 h1
          rw [h0] at h1
          cases h1
        · simp [Array.getElem?_eq_none hl] at h1
      have h2 := wpOp_putIf hoj (hf j oj hoj hji hjun hnot) (fun cs b => hsel i oi cs b hi) (fun cs b => hsel j oj cs b hoj) hQ hy (H.2 j (ready_mono hj hji))
      refine wpOp_mono (fun a' w' h3 => ⟨(fun e => by rw [hjs] at e; cases e), fun _ => ?_⟩) h2
      obtain ⟨hSw, hU⟩ := h3.2.2 hjs
      refine ⟨hSw, end_first hi hsel hQ hw n (listed.setIfInBounds j true) a' w' (closed_put hc hj) (fun k ok hk hki hun hno => ?_) (ready_mono hr (Ne.symm hji)) h3.1 hSw ?_⟩
      · refine hf k ok hk hki ?_ hno
        by_cases hjk : j = k
        · subst hjk
          exact hjun
        · rw [getD_set_ne true hjk] at hun
          exact hun
      · rw [Array.setIfInBounds_comm _ _ hji]
        exact hU
/-- the same for an operation that yields in whatever world: it need not come before the end -/
theorem end_firstY {i : Nat} {oi : Oper} {v : Value} (hi : ops[i]? = some oi) (hsel : ∀ (j : Nat) (o : Oper) cs b, ops[j]? = some o → o.op ≠ .select cs b)
    (hQ : ∀ c a w, Q (.panic c) (a.put oi.dst v) w → Q (.panic c) a w) (hen : en i = false) :
    ∀ (n : Nat) (listed : Array Bool) (a : Act) (w : World),
      (∀ j oj, ops[j]? = some oj → j ≠ i → listed.getD j true = false → (∀ e ∈ oj.after, Region.binds md e = true → e.on ≠ i) → oi.apart ops oj = true) →
      i ∈ Region.ready md ops listed → Yields P ops oi v a → S w → AnyEnd P md ops Q S en n (listed.setIfInBounds i true) (a.put oi.dst v) w → AnyEnd P md ops Q S en (n + 1) listed a w
  | 0, listed, a, w, hf, hr, hy, hS, H => by
    refine ⟨fun h => (by rw [h] at hr; cases hr), fun j hj => ?_⟩
    by_cases hji : j = i
    · subst hji
      exact hy.yieldsIf.wpOp hi hS ⟨(fun e => by rw [hen] at e; cases e), fun _ => ⟨hS, H⟩⟩
    · have h0 := ready_mono hj hji
      rw [H.1] at h0
      cases h0
  | n + 1, listed, a, w, hf, hr, hy, hS, H => by
    refine ⟨fun h => (by rw [h] at hr; cases hr), fun j hj => ?_⟩
    by_cases hji : j = i
    · subst hji
      exact hy.yieldsIf.wpOp hi hS ⟨(fun e => by rw [hen] at e; cases e), fun _ => ⟨hS, H⟩⟩
    · obtain ⟨hjun, oj, hoj, hall⟩ := mem_ready.1 hj
      have hnot : ∀ e ∈ oj.after, Region.binds md e = true → e.on ≠ i := fun e he hb heq => by
        have h1 := hall e he hb
        have h0 := (mem_ready.1 hr).1
        rw [heq] at h1
        rcases Nat.lt_or_ge i listed.size with hl | hl
        · simp [hl] at h0 h1
          rw [h0] at h1
          cases h1
        · simp [Array.getElem?_eq_none hl] at h1
      have h2 := wpOp_put hoj (hf j oj hoj hji hjun hnot) (fun cs b => hsel i oi cs b hi) (fun cs b => hsel j oj cs b hoj) hQ hy (H.2 j (ready_mono hj hji))
      have hf' : ∀ k ok, ops[k]? = some ok → k ≠ i → (listed.setIfInBounds j true).getD k true = false → (∀ e ∈ ok.after, Region.binds md e = true → e.on ≠ i) → oi.apart ops ok = true := fun k ok hk hki hun hno => by
        refine hf k ok hk hki ?_ hno
        by_cases hjk : j = k
        · subst hjk
          exact hjun
        · rw [getD_set_ne true hjk] at hun
          exact hun
      refine wpOp_mono (fun a' w' h3 => ⟨fun e => ?_, fun e => ?_⟩) h2
      · have hU := h3.2.1 e
        rw [Array.setIfInBounds_comm _ _ (Ne.symm hji)] at hU
        exact wpAny_first hi hsel hQ n (listed.setIfInBounds j true) a' w' hf' (ready_mono hr (Ne.symm hji)) h3.1 hU
      · obtain ⟨hSw, hU⟩ := h3.2.2 e
        refine ⟨hSw, end_firstY hi hsel hQ hen n (listed.setIfInBounds j true) a' w' hf' (ready_mono hr (Ne.symm hji)) h3.1 hSw ?_⟩
        rw [Array.setIfInBounds_comm _ _ hji]
        exact hU
theorem edrop_get {i : Nat} {oi : Oper} {rest : List Oper} (hi : ops.toList.drop i = oi :: rest) : ops[i]? = some oi := by
  rw [← Array.getElem?_toList]
  have h : (ops.toList.drop i)[0]? = some oi := by rw [hi]; rfl
  rwa [List.getElem?_drop, Nat.add_zero] at h
/-- an operation that yields in every world that meets the condition -/
theorem end_take {i : Nat} {oi : Oper} {rest : List Oper} {v : Value} {n : Nat} {listed : Array Bool} {a : Act} {w : World} (hi : ops.toList.drop i = oi :: rest)
    (hs : Region.noSelect ops = true) (hf : Region.free md ops listed i = true) (hr : (Region.ready md ops listed).contains i = true) (hc : closedB md ops listed = true) (hw : waitsE md ops en i = true)
    (hQ : ∀ c a w, Q (.panic c) (a.put oi.dst v) w → Q (.panic c) a w) (hy : YieldsIf P ops S oi v a) (hS : S w)
    (h : AnyEnd P md ops Q S en n (listed.setIfInBounds i true) (a.put oi.dst v) w) : AnyEnd P md ops Q S en (n + 1) listed a w :=
  end_first (edrop_get hi) (Region.noSelect_spec hs) hQ hw n listed a w (closed_of hc) (Region.free_spec (edrop_get hi) hf) (by simpa using hr) hy hS h
/-- an operation that yields in whatever world -/
theorem end_takeY {i : Nat} {oi : Oper} {rest : List Oper} {v : Value} {n : Nat} {listed : Array Bool} {a : Act} {w : World} (hi : ops.toList.drop i = oi :: rest)
    (hs : Region.noSelect ops = true) (hf : Region.free md ops listed i = true) (hr : (Region.ready md ops listed).contains i = true) (hw : en i = false)
    (hQ : ∀ c a w, Q (.panic c) (a.put oi.dst v) w → Q (.panic c) a w) (hy : Yields P ops oi v a) (hS : S w)
    (h : AnyEnd P md ops Q S en n (listed.setIfInBounds i true) (a.put oi.dst v) w) : AnyEnd P md ops Q S en (n + 1) listed a w :=
  end_firstY (edrop_get hi) (Region.noSelect_spec hs) hQ hw n listed a w (Region.free_spec (edrop_get hi) hf) (by simpa using hr) hy hS h
/-- one of the operations that may come up now, none of them of the end -/
theorem end_each {n : Nat} {listed : Array Bool} {a : Act} {w : World} {l : List Nat} (hr : Region.ready md ops listed = l) (hl : l ≠ []) (hen : ∀ i ∈ l, en i = false)
    (h : ∀ i ∈ l, wpOp P ops Q i (fun a' w' => S w' ∧ AnyEnd P md ops Q S en n (listed.setIfInBounds i true) a' w') a w) : AnyEnd P md ops Q S en (n + 1) listed a w := by
  refine ⟨fun h0 => absurd (hr.symm.trans h0) hl, fun j hj => ?_⟩
  rw [hr] at hj
  exact wpOp_mono (fun a' w' h' => ⟨(fun e => by rw [hen j hj] at e; cases e), fun _ => h'⟩) (h j hj)
/-- the one operation that may come up now -/
theorem end_one {i : Nat} {o : Oper} {rest : List Oper} {n : Nat} {listed : Array Bool} {a : Act} {w : World} (hi : ops.toList.drop i = o :: rest) (hr : Region.ready md ops listed = [i]) (hst : en i = false)
    (h : ∀ K' : Act → World → Prop, Shut (∀ a w, S w → (S w → AnyEnd P md ops Q S en n (listed.setIfInBounds i true) a w) → K' a w) → if Region.wanted o (yielded ops a.tmps) = true then Oper.wp P o a w K' Q else K' (a.put o.dst undef) w) : AnyEnd P md ops Q S en (n + 1) listed a w := by
  refine ⟨fun h0 => (by rw [hr] at h0; cases h0), fun j hj => ?_⟩
  rw [hr] at hj
  obtain rfl : j = i := by simpa using hj
  exact wpOp_step (edrop_get hi) (fun K' hK => h K' (fun a w hS hW => hK a w ⟨(fun e => by rw [hst] at e; cases e), fun _ => ⟨hS, hW hS⟩⟩))
/-- two operations may come up now, neither of them of the end -/
theorem end_two {i k : Nat} {oi ok : Oper} {ri rk : List Oper} {n : Nat} {listed : Array Bool} {a : Act} {w : World} (hi : ops.toList.drop i = oi :: ri) (hk : ops.toList.drop k = ok :: rk) (hr : Region.ready md ops listed = [i, k]) (hsi : en i = false) (hsk : en k = false)
    (h1 : ∀ K' : Act → World → Prop, Shut (∀ a w, S w → (S w → AnyEnd P md ops Q S en n (listed.setIfInBounds i true) a w) → K' a w) → if Region.wanted oi (yielded ops a.tmps) = true then Oper.wp P oi a w K' Q else K' (a.put oi.dst undef) w)
    (h2 : ∀ K' : Act → World → Prop, Shut (∀ a w, S w → (S w → AnyEnd P md ops Q S en n (listed.setIfInBounds k true) a w) → K' a w) → if Region.wanted ok (yielded ops a.tmps) = true then Oper.wp P ok a w K' Q else K' (a.put ok.dst undef) w) : AnyEnd P md ops Q S en (n + 1) listed a w := by
  refine ⟨fun h0 => (by rw [hr] at h0; cases h0), fun j hj => ?_⟩
  rw [hr] at hj
  simp only [List.mem_cons, List.not_mem_nil, or_false] at hj
  rcases hj with rfl | rfl
  · exact wpOp_step (edrop_get hi) (fun K' hK => h1 K' (fun a w hS hW => hK a w ⟨(fun e => by rw [hsi] at e; cases e), fun _ => ⟨hS, hW hS⟩⟩))
  · exact wpOp_step (edrop_get hk) (fun K' hK => h2 K' (fun a w hS hW => hK a w ⟨(fun e => by rw [hsk] at e; cases e), fun _ => ⟨hS, hW hS⟩⟩))
/-- the end, the one operation that may come up -/
theorem end_only {i : Nat} {o : Oper} {rest : List Oper} {n : Nat} {listed : Array Bool} {a : Act} {w : World} (hi : ops.toList.drop i = o :: rest) (hr : Region.ready md ops listed = [i]) (hst : en i = true)
    (h : ∀ K' : Act → World → Prop, Shut (∀ a w, wpAny P md ops Q n (listed.setIfInBounds i true) a w → K' a w) → if Region.wanted o (yielded ops a.tmps) = true then Oper.wp P o a w K' Q else K' (a.put o.dst undef) w) : AnyEnd P md ops Q S en (n + 1) listed a w := by
  refine ⟨fun h0 => (by rw [hr] at h0; cases h0), fun j hj => ?_⟩
  rw [hr] at hj
  obtain rfl : j = i := by simpa using hj
  exact wpOp_step (edrop_get hi) (fun K' hK => h K' (fun a w hW => hK a w ⟨fun _ => hW, (fun e => by rw [hst] at e; cases e)⟩))
/-- the end: two operations, either first -/
theorem end_last {i k : Nat} {oi ok : Oper} {ri rk : List Oper} {n : Nat} {listed : Array Bool} {a : Act} {w : World} (hi : ops.toList.drop i = oi :: ri) (hk : ops.toList.drop k = ok :: rk) (hr : Region.ready md ops listed = [i, k]) (hsi : en i = true) (hsk : en k = true)
    (h1 : ∀ K' : Act → World → Prop, Shut (∀ a w, wpAny P md ops Q n (listed.setIfInBounds i true) a w → K' a w) → if Region.wanted oi (yielded ops a.tmps) = true then Oper.wp P oi a w K' Q else K' (a.put oi.dst undef) w)
    (h2 : ∀ K' : Act → World → Prop, Shut (∀ a w, wpAny P md ops Q n (listed.setIfInBounds k true) a w → K' a w) → if Region.wanted ok (yielded ops a.tmps) = true then Oper.wp P ok a w K' Q else K' (a.put ok.dst undef) w) : AnyEnd P md ops Q S en (n + 1) listed a w := by
  refine ⟨fun h0 => (by rw [hr] at h0; cases h0), fun j hj => ?_⟩
  rw [hr] at hj
  simp only [List.mem_cons, List.not_mem_nil, or_false] at hj
  rcases hj with rfl | rfl
  · exact wpOp_step (edrop_get hi) (fun K' hK => h1 K' (fun a w hW => hK a w ⟨fun _ => hW, (fun e => by rw [hsi] at e; cases e)⟩))
  · exact wpOp_step (edrop_get hk) (fun K' hK => h2 K' (fun a w hW => hK a w ⟨fun _ => hW, (fun e => by rw [hsk] at e; cases e)⟩))
/-- the beginning -/
theorem end_region (en : Nat → Bool) {id : Nat} {a : Act} {w : World} (hm : P.follows .mixedOrders = true) (hS : S w.drew)
    (h : S w.drew → AnyEnd P .any ops Q S en ops.size (Array.replicate ops.size false) a w.drew) : (Code.region id ops true).wp P Q a w :=
  wp_region_any hm (AnyEnd.any _ _ _ _ (h hS))
/-- behind the end: the one operation that is left -/
theorem eany_one {i : Nat} {o : Oper} {rest : List Oper} {n : Nat} {listed : Array Bool} {a : Act} {w : World} (hi : ops.toList.drop i = o :: rest) (hr : Region.ready md ops listed = [i])
    (h : ∀ K' : Act → World → Prop, Shut (∀ a w, wpAny P md ops Q n (listed.setIfInBounds i true) a w → K' a w) → if Region.wanted o (yielded ops a.tmps) = true then Oper.wp P o a w K' Q else K' (a.put o.dst undef) w) : wpAny P md ops Q (n + 1) listed a w := by
  refine ⟨fun h0 => (by rw [hr] at h0; cases h0), fun j hj => ?_⟩
  rw [hr] at hj
  obtain rfl : j = i := by simpa using hj
  exact wpOp_step (edrop_get hi) (fun K' hK => h K' (fun a w hW => hK a w hW))
theorem eany_done {listed : Array Bool} {a : Act} {w : World} (hr : Region.ready md ops listed = []) (h : Q .normal a w) : ∀ n, wpAny P md ops Q n listed a w
  | 0 => ⟨hr, h⟩
  | _ + 1 => ⟨fun _ => h, by rw [hr]; simp⟩
end
end Go.Proofs.Ytaomlmkcifpfkaa
/- A range over an iterator that keeps cells of its own: what the caller says abides stores into cells of the iterator's type. -/
namespace Go.Proofs.Ytaomlmkcifpfkaa
open Go.RowKit

section
variable {α : Type} {F : Fence} {n : Nat} {P : Program}
/-- cells of some types, from a block on, are left as they are -/
def KpT (T : TypeId → Prop) (B : Nat) (W W' : World) : Prop := W.heap.size ≤ W'.heap.size ∧ ∀ b cs t fr, T t → B ≤ b → W.heap[b]? = some (.cells cs t fr) → W'.heap[b]? = some (.cells cs t fr)
theorem KpT.trans {T : TypeId → Prop} {B : Nat} {W1 W2 W3 : World} (h : KpT T B W1 W2) (k : KpT T B W2 W3) : KpT T B W1 W3 :=
  ⟨Nat.le_trans h.1 k.1, fun b cs t fr ht hb h1 => k.2 b cs t fr ht hb (h.2 b cs t fr ht hb h1)⟩
theorem KpT.ext {T : TypeId → Prop} {B : Nat} {W W' : World} (h : Ext W W') : KpT T B W W' :=
  ⟨h.size, fun b _ _ _ _ _ h1 => (h.block b (Array.getElem?_eq_some_iff.1 h1).1).trans h1⟩
theorem KpT.put {T : TypeId → Prop} {B : Nat} {W : World} {l : Nat} {o : Obj} (o' : Obj) (h : W.heap[l]? = some o) (ho : o.isCells = false) : KpT T B W (W.putObj l o') :=
  ⟨by simp, fun b _ _ _ _ _ h1 => (World.putObj_heap_other (fun e => by rw [e, h] at h1; cases h1; cases ho)).trans h1⟩
/-- what is said of a world abides new memory, and stores into cells of a type, from a block on -/
def AbT (t : TypeId) (B : Nat) (J : List α → World → Prop) : Prop :=
  (∀ s W W', J s W → Ext W W' → J s W') ∧ ∀ s W p u cs fr, J s W → W.heap[p.block]? = some (.cells cs t fr) → B ≤ p.block → J s (W.setCell p u)
/-- an iterator that yields a list, unless it is stopped -/
def SeqT (F : Fence) (n : Nat) (P : Program) (g : Nat) (lb : Array Value) (enc : α → Value) (T : TypeId → Prop) (t : TypeId) (xs : List α) (w0 w : World) : Prop :=
  ∀ (l : Nat) (J Jx : List α → World → Prop) (W : World), Ext w W → (∀ s W', J s W' → Ext w0 W') → AbT t W.heap.size J →
    (∀ pre x suf W1, J pre W1 → xs = pre ++ x :: suf → YieldAt F (n - 1) P l #[enc x] W1 fun e W' =>
      (e = .returned (.bool true) ∧ J (pre ++ [x]) W' ∧ KpT T w0.heap.size W1 W') ∨ (e = .returned (.bool false) ∧ Jx (pre ++ [x]) W')) →
    J [] W →
    CallsIn F n P g (#[.func (.yield l) #[] #[]] ++ lb) W fun e W' => (∃ v, e = .returned v) ∧ (J xs W' ∨ ∃ pre, Jx pre W')
/-- how the body of a round may be left -/
def postT (T : TypeId → Prop) (B : Nat) (I : List α → World → Prop) (Ix : Code → List α → World → Prop) (xs : List α) (W : World) : Exit → Act → World → Prop
  | .normal, _, W' => KeepsOthers W W' ∧ KpT T B W W' ∧ I xs W'
  | .ret, _, W' => KeepsOthers W W' ∧ Ix .ret xs W'
  | .exit id, _, W' => KeepsOthers W W' ∧ Ix (.exit id) xs W'
  | .goto c, _, W' => KeepsOthers W W' ∧ Ix (.goto c) xs W'
  | .panic _, _, _ => False
  | .outgrown, _, _ => False

theorem wpIn_rangeFunc_T {g : Operand} {ps : Array Tmp} {assign body : Code} {Q : Exit → Act → World → Prop} {a : Act} {w : World}
    (hro : F.round = none) (h1 : 1 ≤ n) {gf : Nat} {lb : Array Value} (hg : a.eval g = .func (.func gf) #[] lb) (hFg : F.fn gf) (eg : ∀ args w, (callFunc gf args).run P w = .ok (.enter gf args) w)
    {enc : α → Value} {T : TypeId → Prop} {t : TypeId} {xs : List α} {w0 wc : World} (hseq : SeqT F (n - 1) P gf lb enc T t xs w0 wc) (hb0 : Ext wc w) (hps : ps.size = 1)
    (I : List α → World → Prop) (Ix : Code → List α → World → Prop)
    (hIb : ∀ s W, I s W → Ext w0 W)
    (hIe : ∀ s W W', I s W → Ext W W' → I s W')
    (hIs : ∀ s W p u cs fr, I s W → W.heap[p.block]? = some (.cells cs t fr) → w.heap.size + 2 ≤ p.block → I s (W.setCell p u))
    (hIp : ∀ s W l o o', I s W → w.heap.size ≤ l → W.heap[l]? = some o → o.isCells = false → I s (W.putObj l o'))
    (hIxp : ∀ c s W l o o', Ix c s W → w.heap.size ≤ l → W.heap[l]? = some o → o.isCells = false → Ix c s (W.putObj l o'))
    (h0 : I [] w) (Ax : α → Act → World → Prop)
    (hAx : ∀ x a' W l o o', Ax x a' W → w.heap.size ≤ l → W.heap[l]? = some o → o.isCells = false → Ax x a' (W.putObj l o'))
    (hassign : ∀ (l : Nat) (x : α) (W : World) (K : Act → World → Prop), w.heap.size ≤ W.heap.size → (∀ a' W', Ext W W' → Ax x a' W' → K a' W') →
      assign.wpIn (F.inRound l) (n - 1 - 1) P (Exit.then K (fun _ _ _ => False)) { tmps := (ps.zip #[enc x]).foldl (fun t (p, v) => t.setIfInBounds p v) a.tmps, defers := [] } W)
    (hbody : ∀ (l : Nat) (pre : List α) (x : α) (suf : List α) (a' : Act) (W : World), I pre W → Ax x a' W → xs = pre ++ x :: suf → w.heap.size + 2 ≤ W.heap.size →
      body.wpIn (F.inRound l) (n - 1 - 1) P (postT T w0.heap.size I Ix (pre ++ [x]) W) a' W)
    (hdone : ∀ (D : Nat) (W : World), w.heap.size ≤ D → I xs W → W.heap[D]? = some (.deferred (some [])) → Q .normal { a with defers := { target := .collected D, args := #[] } :: a.defers } W)
    (hstop : ∀ (D : Nat) (c : Code) (pre : List α) (W : World), w.heap.size ≤ D → Ix c pre W → W.heap[D]? = some (.deferred (some [])) → c.wpIn F n P Q { a with defers := { target := .collected D, args := #[] } :: a.defers } W) :
    (Code.rangeFunc g ps assign body).wpIn F n P Q a w := by
  refine wpIn_rangeFunc ?_
  intro fn hfn
  rw [hro]
  obtain ⟨rec, hrec⟩ : ∃ rec : LoopState → Option Code → Loop, rec = fun st pe => { state := st, pending := pe, fn, tmps := a.tmps, params := ps, assign, body, defers := w.heap.size } := ⟨_, rfl⟩
  obtain ⟨W1, hW1⟩ : ∃ W1, (w.alloc (.deferred (some []))).alloc (.loop (rec .ready none)) = W1 := ⟨_, rfl⟩
  have hs1 : W1.heap.size = w.heap.size + 2 := by rw [← hW1]; simp
  have hL1 : W1.heap[w.heap.size + 1]? = some (.loop (rec .ready none)) := by
    rw [← hW1]; have := World.alloc_heap_new (w.alloc (.deferred (some []))) (.loop (rec .ready none)); rwa [World.size_alloc] at this
  have hK1 : W1.heap[w.heap.size]? = some (.deferred (some [])) := by
    rw [← hW1]; exact (Below.heap_alloc _ _ _ (by simp)).trans (World.alloc_heap_new w _)
  have hE1 : Ext w W1 := by rw [← hW1]; exact ((Ext.refl w).alloc _).alloc _
  have hI1 : I [] W1 := hIe _ _ _ h0 hE1
  refine ⟨w.heap.size + 1, [{ target := .collected w.heap.size, args := #[] }], W1, { target := .fn (.func gf) lb, args := #[.func (.yield (w.heap.size + 1)) #[] #[]] }, W1, gf,
    #[.func (.yield (w.heap.size + 1)) #[] #[]] ++ lb, W1, ?_, ?_, ?_, ?_, fun _ => h1, ?_⟩
  · rw [← hW1, hrec]; exact run_enterLoop_outer _ _ _ _ _
  · simp only [resolve, hg]
    simp [go_sem]
  · intro f' hf'; simp [Target.leads] at hf'; subst hf'; exact hFg
  · simp [invoke, go_sem, eg]
  · refine (hseq (w.heap.size + 1)
      (fun pre W => I pre W ∧ W.heap[w.heap.size + 1]? = some (.loop (rec .ready none)) ∧ W.heap[w.heap.size]? = some (.deferred (some [])) ∧ w.heap.size + 2 ≤ W.heap.size)
      (fun pre W => ∃ c, Ix c pre W ∧ W.heap[w.heap.size + 1]? = some (.loop (rec .done (some c))) ∧ W.heap[w.heap.size]? = some (.deferred (some [])))
      W1 (hb0.trans hE1) (fun s A ⟨i1, _⟩ => hIb s A i1)
      ⟨fun s A B ⟨i1, i2, i3, i4⟩ he => ⟨hIe _ _ _ i1 he, (he.block _ (Array.getElem?_eq_some_iff.1 i2).1).trans i2, (he.block _ (Array.getElem?_eq_some_iff.1 i3).1).trans i3, Nat.le_trans i4 he.size⟩,
       fun s A p u cs fr ⟨i1, i2, i3, i4⟩ hp hB => ⟨hIs _ _ _ _ _ _ i1 hp (by rw [hs1] at hB; exact hB), (Below.heap_setCell A p u _ (by omega)).trans i2, (Below.heap_setCell A p u _ (by omega)).trans i3, by rw [size_setCell]; exact i4⟩⟩
      ?_ ⟨hI1, hL1, hK1, by omega⟩).mono ?_
    · rintro pre x suf W ⟨hi, hl, hk, hz⟩ hsp
      have hlt : w.heap.size + 1 < W.heap.size := (Array.getElem?_eq_some_iff.1 hl).1
      have hy := run_yield (P := P) (args := #[enc x]) hl (by rw [hrec]; exact hps.symm)
      rw [hrec] at hy
      refine ⟨fn, _, assign, body, hy, roundIn_of_wpIn hfn (hassign _ x W _ (by omega) (fun a' Wa hea hax => ⟨_, run_beginRound ((hea.block _ hlt).trans hl) (by rw [hrec]), ?_⟩))⟩
      have hla := (hea.block _ hlt).trans hl
      have hka := (hea.block _ (by omega)).trans hk
      have hza := hea.size
      have hl2 : (Wa.putObj (w.heap.size + 1) (.loop { rec .ready none with state := .busy })).heap[w.heap.size + 1]? = some (.loop { rec .ready none with state := .busy }) := World.putObj_heap_same (by omega)
      have hk2 : (Wa.putObj (w.heap.size + 1) (.loop { rec .ready none with state := .busy })).heap[w.heap.size]? = some (.deferred (some [])) := (World.putObj_heap_other (by omega)).trans hka
      have hw2 : KpT T w0.heap.size W (Wa.putObj (w.heap.size + 1) (.loop { rec .ready none with state := .busy })) := (KpT.ext hea).trans (KpT.put _ hla rfl)
      refine wpIn_mono (hbody _ pre x suf a' _ (hIp _ _ _ _ _ (hIe _ _ _ hi hea) (by omega) hla rfl) (hAx _ _ _ _ _ _ hax (by omega) hla rfl) hsp (by simp; omega)) ?_
      have fin : ∀ (jump : Option Code) (W3 : World), KeepsOthers (Wa.putObj (w.heap.size + 1) (.loop { rec .ready none with state := .busy })) W3 →
          (Instr.endRound (w.heap.size + 1) jump).run P W3 = .ok (.bool jump.isNone) (W3.putObj (w.heap.size + 1) (.loop (rec (if jump.isNone then .ready else .done) jump))) ∧
          W3.heap[w.heap.size + 1]? = some (.loop { rec .ready none with state := .busy }) ∧
          (W3.putObj (w.heap.size + 1) (.loop (rec (if jump.isNone then .ready else .done) jump))).heap[w.heap.size + 1]? = some (.loop (rec (if jump.isNone then .ready else .done) jump)) ∧
          (W3.putObj (w.heap.size + 1) (.loop (rec (if jump.isNone then .ready else .done) jump))).heap[w.heap.size]? = some (.deferred (some [])) ∧ Wa.heap.size ≤ W3.heap.size := fun jump W3 hk3 => by
        have hl3 := hk3.same _ _ hl2 rfl
        have := run_endRound (P := P) jump hl3
        rw [hrec] at this ⊢
        exact ⟨this, by rw [hrec] at hl3; exact hl3, World.putObj_heap_same (Array.getElem?_eq_some_iff.1 hl3).1, (World.putObj_heap_other (by omega)).trans (hk3.same _ _ hk2 rfl), by simpa using hk3.size⟩
      rintro e a3 W3 hp
      cases e with
      | normal =>
        obtain ⟨hk3, hkp3, hi3⟩ := hp
        obtain ⟨hr, hl3, hl4, hk4, hz4⟩ := fin none W3 hk3
        exact ⟨_, _, hr, .inl ⟨rfl, ⟨hIp _ _ _ _ _ hi3 (by omega) hl3 rfl, hl4, hk4, by simp; omega⟩, (hw2.trans hkp3).trans (KpT.put _ hl3 rfl)⟩⟩
      | ret =>
        obtain ⟨hk3, hi3⟩ := hp
        obtain ⟨hr, hl3, hl4, hk4, hz4⟩ := fin (some .ret) W3 hk3
        exact ⟨_, _, hr, .inr ⟨rfl, .ret, hIxp _ _ _ _ _ _ hi3 (by omega) hl3 rfl, hl4, hk4⟩⟩
      | exit id =>
        obtain ⟨hk3, hi3⟩ := hp
        obtain ⟨hr, hl3, hl4, hk4, hz4⟩ := fin (some (.exit id)) W3 hk3
        exact ⟨_, _, hr, .inr ⟨rfl, .exit id, hIxp _ _ _ _ _ _ hi3 (by omega) hl3 rfl, hl4, hk4⟩⟩
      | goto c =>
        obtain ⟨hk3, hi3⟩ := hp
        obtain ⟨hr, hl3, hl4, hk4, hz4⟩ := fin (some (.goto c)) W3 hk3
        exact ⟨_, _, hr, .inr ⟨rfl, .goto c, hIxp _ _ _ _ _ _ hi3 (by omega) hl3 rfl, hl4, hk4⟩⟩
      | panic ch => exact hp.elim
      | outgrown => exact hp.elim
    · rintro e W2 ⟨⟨v, rfl⟩, (⟨hi, hl, hk, _⟩ | ⟨pre, c, hi, hl, hk⟩)⟩
      · exact ⟨none, _, by have := run_endLoop (P := P) hl (by rw [hrec]; simp); rw [hrec] at this; exact this, hdone _ _ (Nat.le_refl _) (hIp _ _ _ _ _ hi (by omega) hl rfl) ((World.putObj_heap_other (by omega)).trans hk)⟩
      · exact ⟨some c, _, by have := run_endLoop (P := P) hl (by rw [hrec]; simp); rw [hrec] at this; exact this, hstop _ c pre _ (Nat.le_refl _) (hIxp _ _ _ _ _ _ hi (by omega) hl rfl) ((World.putObj_heap_other (by omega)).trans hk)⟩
end
end Go.Proofs.Ytaomlmkcifpfkaa
/- A region that draws its order, walked once, within a round of a range over a function. -/
namespace Go.Proofs.Ytaomlmkcifpfkaa
open Go.RowKit

section
variable {F : Fence} {n : Nat} {P : Program} {ops : Array Oper} {Q : Exit → Act → World → Prop} {md : Region.Mode}
theorem opIn_round {i l : Nat} {a : Act} {w : World} {K K' : Act → World → Prop} (hro : F.round = none) (hnd : ∀ (i : Nat) (o : Oper), ops[i]? = some o → ∀ c, o.op ≠ .defer c) (hK : ∀ a w, K a w → K' a w)
    (h : wpOpIn F n P ops Q i K a w) : wpOpIn (F.inRound l) n P ops Q i K' a w := by
  have h' := wpOpIn_mono hK h
  unfold wpOpIn at *
  cases ho : ops[i]? with
  | none => rw [ho] at h'; exact h'
  | some o =>
    rw [ho] at h'
    simp only at h' ⊢
    split
    · rename_i hw
      rw [if_pos hw] at h'
      obtain ⟨h1, h2⟩ := h'
      refine ⟨h1, ?_⟩
      rw [Oper.semAt_eq _ _ _ (hnd i o ho)]
      rw [hro, Oper.semAt_none] at h2
      exact h2
    · rename_i hw
      rw [if_neg hw] at h'
      exact h'
theorem anyIn_round {l : Nat} (hro : F.round = none) (hnd : ∀ (i : Nat) (o : Oper), ops[i]? = some o → ∀ c, o.op ≠ .defer c) : ∀ (fuel : Nat) (listed : Array Bool) (a : Act) (w : World), wpAnyIn F n P md ops Q fuel listed a w → wpAnyIn (F.inRound l) n P md ops Q fuel listed a w
  | 0, _, _, _, h => h
  | fuel + 1, _, _, _, h => ⟨h.1, fun i hi => opIn_round hro hnd (fun a w h => anyIn_round hro hnd fuel _ a w h) (h.2 i hi)⟩
/-- no operation of a list is a defer statement -/
def noDefer (l : List Oper) : Bool := l.all fun o => match o.op with | .defer _ => false | _ => true
theorem noDefer_spec {l : List Oper} (h : noDefer l = true) : ∀ (i : Nat) (o : Oper), l.toArray[i]? = some o → ∀ c, o.op ≠ .defer c := by
  intro i o ho c hc
  have hm : o ∈ l := by
    rw [List.getElem?_toArray] at ho
    exact List.mem_of_getElem? ho
  have := List.all_eq_true.1 h o hm
  rw [hc] at this
  cases this
theorem region_quiet_round {id l : Nat} {a : Act} {w : World} {lst : List Oper} (hro : F.round = none) (hm : P.follows .mixedOrders = true) (hnd : noDefer lst = true) (hB : Region.lexB .any lst.toArray = true)
    (h : wpQuietIn F n P lst.toArray (fun w' => ∃ n, w' = w.drewN n) (fun a' => ∀ w', (∃ n, w' = w.drewN n) → Q .normal a' w') lst a) : (Code.region id lst.toArray true).wpIn (F.inRound l) n P Q a w := by
  simp only [Region.lexB, Bool.and_eq_true] at hB
  refine wpIn_region_any hm (anyIn_round hro (noDefer_spec hnd) _ _ _ _ (wpAnyIn_of_quiet (C := fun w' => ∃ n, w' = w.drewN n) (Q := fun a' => ∀ w', (∃ n, w' = w.drewN n) → Q .normal a' w') hro (fun _ w' hw' h => h w' hw') _ _ _ _ ⟨1, rfl⟩ ?_))
  have := wpAnyQIn_lex (F := F) (n := n) (C := fun w' => ∃ n, w' = w.drewN n) (md := .any) hB.1 lst.toArray.toList 0 (Array.replicate lst.toArray.size false) a (by simp) (by simpa using hB.2) (by simpa using h)
  simpa using this
end
end Go.Proofs.Ytaomlmkcifpfkaa
