
/- A region that draws its order: a condition on the world, held until one of some operations comes up (stores into cells that the region has loaded): behind it any order, with no condition. -/
import Derived.Deep.RegionHeld3
namespace Go.Proofs.Ytkkeblgahbpmmaa
open Go
section
variable {P : Program} {ops : Array Oper} {Q : Exit → Act → World → Prop} {md : Region.Mode} {S : World → Prop} {en : Nat → Bool}

/-- any order; the condition holds behind each operation that is carried out, up to the first of the end -/
def AnyEnd (P : Program) (md : Region.Mode) (ops : Array Oper) (Q : Exit → Act → World → Prop) (S : World → Prop) (en : Nat → Bool) : Nat → Array Bool → Act → World → Prop
  | 0, listed, a, w => Region.ready md ops listed = [] ∧ Q .normal a w
  | n + 1, listed, a, w => (Region.ready md ops listed = [] → Q .normal a w) ∧ ∀ i ∈ Region.ready md ops listed, wpOp P ops Q i (fun a' w' =>
      (en i = true → wpAny P md ops Q n (listed.setIfInBounds i true) a' w') ∧ (en i = false → S w' ∧ AnyEnd P md ops Q S en n (listed.setIfInBounds i true) a' w')) a w
theorem AnyEnd.any : ∀ (n : Nat) (listed : Array Bool) (a : Act) (w : World), AnyEnd P md ops Q S en n listed a w → wpAny P md ops Q n listed a w
  | 0, _, _, _, h => h
  | n + 1, _, _, _, h => ⟨h.1, fun i hi => wpOp_mono (fun a' w' h' => by
      cases e : en i
      · exact AnyEnd.any n _ a' w' (h'.2 e).2
      · exact h'.1 e) (h.2 i hi)⟩
/-- what is listed, all that it waits for is -/
def ClosedE (md : Region.Mode) (ops : Array Oper) (listed : Array Bool) : Prop := ∀ (j : Nat) (o : Oper), listed.getD j false = true → ops[j]? = some o → ∀ e ∈ o.after, Region.binds md e = true → listed.getD e.on false = true
def closedB (md : Region.Mode) (ops : Array Oper) (listed : Array Bool) : Bool := (List.range ops.size).all fun j => !listed.getD j false || ((ops[j]?).map fun o => o.after.all fun e => !Region.binds md e || listed.getD e.on false).getD true
theorem closed_of {listed : Array Bool} (h : closedB md ops listed = true) : ClosedE md ops listed := fun j o hj ho e he hb => by
  unfold closedB at h
  rw [List.all_eq_true] at h
  have h1 := h j (List.mem_range.2 (Array.getElem?_eq_some_iff.1 ho).1)
  rw [ho, hj] at h1
  simp only [Bool.not_true, Bool.false_or, Option.map_some, Option.getD_some] at h1
  have h2 := Array.all_eq_true'.1 h1 e he
  rw [hb] at h2
  simpa using h2
theorem listed_put {listed : Array Bool} {j x : Nat} (h : listed.getD x false = true) : (listed.setIfInBounds j true).getD x false = true := by
  have hx : x < listed.size := by
    rcases Nat.lt_or_ge x listed.size with h1 | h1
    · exact h1
    · simp [Array.getD, Nat.not_lt.2 h1] at h
  by_cases e : j = x
  · subst e
    simp [hx]
  · simp [hx, e] at h ⊢
    exact h
theorem closed_put {listed : Array Bool} {j : Nat} (hc : ClosedE md ops listed) (hj : j ∈ Region.ready md ops listed) : ClosedE md ops (listed.setIfInBounds j true) := fun k o hk ho e he hb => by
  obtain ⟨_, oj, hoj, hall⟩ := mem_ready.1 hj
  by_cases e1 : j = k
  · subst e1
    rw [hoj] at ho
    obtain rfl := Option.some.inj ho
    exact listed_put (hall e he hb)
  · refine listed_put (hc k o ?_ ho e he hb)
    have hx : k < listed.size := by
      rcases Nat.lt_or_ge k listed.size with h1 | h1
      · exact h1
      · simp [Array.getD, Nat.not_lt.2 h1] at hk
    simp [hx, e1] at hk ⊢
    exact hk
/-- number 'st' waits for number 'i', itself or through others -/
def waitR (md : Region.Mode) (ops : Array Oper) : Nat → Nat → Nat → Bool
  | 0, _, _ => false
  | n + 1, st, i => match ops[st]? with
    | some o => o.after.any fun e => Region.binds md e && (e.on == i || waitR md ops n e.on i)
    | none => false
theorem waitR_listed {listed : Array Bool} (hc : ClosedE md ops listed) : ∀ (n st i : Nat) (o : Oper), ops[st]? = some o → (∀ e ∈ o.after, Region.binds md e = true → listed.getD e.on false = true) → waitR md ops n st i = true → listed.getD i false = true
  | 0, _, _, _, _, _, h => by simp [waitR] at h
  | n + 1, st, i, o, ho, hd, h => by
    unfold waitR at h
    rw [ho] at h
    obtain ⟨e, he, hb⟩ := Array.any_eq_true'.1 h
    simp only [Bool.and_eq_true, Bool.or_eq_true, beq_iff_eq] at hb
    have h1 := hd e he hb.1
    rcases hb.2 with h2 | h2
    · rw [← h2]; exact h1
    · cases h3 : ops[e.on]? with
      | none =>
        cases n with
        | zero => simp [waitR] at h2
        | succ n => unfold waitR at h2; rw [h3] at h2; cases h2
      | some o2 => exact waitR_listed hc n e.on i o2 h3 (hc e.on o2 h1 h3) h2
/-- all of the end wait for number 'i' -/
def waitsE (md : Region.Mode) (ops : Array Oper) (en : Nat → Bool) (i : Nat) : Bool := !en i && (List.range ops.size).all fun st => !en st || waitR md ops ops.size st i
theorem waitsE_not {i j : Nat} {listed : Array Bool} (hc : ClosedE md ops listed) (hw : waitsE md ops en i = true) (hi : i ∈ Region.ready md ops listed) (hj : j ∈ Region.ready md ops listed) : en j = false := by
  unfold waitsE at hw
  simp only [Bool.and_eq_true, List.all_eq_true, List.mem_range] at hw
  cases e : en j
  · rfl
  · obtain ⟨_, o, ho, hd⟩ := mem_ready.1 hj
    have hlt : j < ops.size := (Array.getElem?_eq_some_iff.1 ho).1
    have h1 := hw.2 j hlt
    rw [e] at h1
    simp only [Bool.not_true, Bool.false_or] at h1
    have h2 := waitR_listed hc _ _ _ o ho hd h1
    have h3 := (mem_ready.1 hi).1
    rcases Nat.lt_or_ge i listed.size with hl | hl
    · simp [hl] at h2 h3
      rw [h2] at h3
      cases h3
    · simp [Array.getElem?_eq_none hl] at h2
theorem end_first {i : Nat} {oi : Oper} {v : Value} (hi : ops[i]? = some oi) (hsel : ∀ (j : Nat) (o : Oper) cs b, ops[j]? = some o → o.op ≠ .select cs b)
    (hQ : ∀ c a w, Q (.panic c) (a.put oi.dst v) w → Q (.panic c) a w) (hw : waitsE md ops en i = true) :
    ∀ (n : Nat) (listed : Array Bool) (a : Act) (w : World), ClosedE md ops listed →
      (∀ j oj, ops[j]? = some oj → j ≠ i → listed.getD j true = false → (∀ e ∈ oj.after, Region.binds md e = true → e.on ≠ i) → oi.apart ops oj = true) →
      i ∈ Region.ready md ops listed → YieldsIf P ops S oi v a → S w → AnyEnd P md ops Q S en n (listed.setIfInBounds i true) (a.put oi.dst v) w → AnyEnd P md ops Q S en (n + 1) listed a w
  | 0, listed, a, w, _, hf, hr, hy, hS, H => by
    have hen : en i = false := by unfold waitsE at hw; simp only [Bool.and_eq_true, Bool.not_eq_true'] at hw; exact hw.1
    refine ⟨fun h => (by rw [h] at hr; cases hr), fun j hj => ?_⟩
    by_cases hji : j = i
    · subst hji
      exact hy.wpOp hi hS ⟨(fun e => by rw [hen] at e; cases e), fun _ => ⟨hS, H⟩⟩
    · have h0 := ready_mono hj hji
      rw [H.1] at h0
      cases h0
  | n + 1, listed, a, w, hc, hf, hr, hy, hS, H => by
    have hen : en i = false := by unfold waitsE at hw; simp only [Bool.and_eq_true, Bool.not_eq_true'] at hw; exact hw.1
    refine ⟨fun h => (by rw [h] at hr; cases hr), fun j hj => ?_⟩
    by_cases hji : j = i
    · subst hji
      exact hy.wpOp hi hS ⟨(fun e => by rw [hen] at e; cases e), fun _ => ⟨hS, H⟩⟩
    · have hjs : en j = false := waitsE_not hc hw hr hj
      obtain ⟨hjun, oj, hoj, hall⟩ := mem_ready.1 hj
      have hnot : ∀ e ∈ oj.after, Region.binds md e = true → e.on ≠ i := fun e he hb heq => by
        have h1 := hall e he hb
        have h0 := (mem_ready.1 hr).1
        rw [heq] at h1
        rcases Nat.lt_or_ge i listed.size with hl | hl
        · simp [hl] at h0 h1
          rw [h0] at h1
          cases h1
        · simp [Array.getElem?_eq_none hl] at h1
      have h2 := wpOp_putIf hoj (hf j oj hoj hji hjun hnot) (fun cs b => hsel i oi cs b hi) (fun cs b => hsel j oj cs b hoj) hQ hy (H.2 j (ready_mono hj hji))
      refine wpOp_mono (fun a' w' h3 => ⟨(fun e => by rw [hjs] at e; cases e), fun _ => ?_⟩) h2
      obtain ⟨hSw, hU⟩ := h3.2.2 hjs
      refine ⟨hSw, end_first hi hsel hQ hw n (listed.setIfInBounds j true) a' w' (closed_put hc hj) (fun k ok hk hki hun hno => ?_) (ready_mono hr (Ne.symm hji)) h3.1 hSw ?_⟩
      · refine hf k ok hk hki ?_ hno
        by_cases hjk : j = k
        · subst hjk
          exact hjun
        · rw [getD_set_ne true hjk] at hun
          exact hun
      · rw [Array.setIfInBounds_comm _ _ hji]
        exact hU
/-- the same for an operation that yields in whatever world: it need not come before the end -/
theorem end_firstY {i : Nat} {oi : Oper} {v : Value} (hi : ops[i]? = some oi) (hsel : ∀ (j : Nat) (o : Oper) cs b, ops[j]? = some o → o.op ≠ .select cs b)
    (hQ : ∀ c a w, Q (.panic c) (a.put oi.dst v) w → Q (.panic c) a w) (hen : en i = false) :
    ∀ (n : Nat) (listed : Array Bool) (a : Act) (w : World),
      (∀ j oj, ops[j]? = some oj → j ≠ i → listed.getD j true = false → (∀ e ∈ oj.after, Region.binds md e = true → e.on ≠ i) → oi.apart ops oj = true) →
      i ∈ Region.ready md ops listed → Yields P ops oi v a → S w → AnyEnd P md ops Q S en n (listed.setIfInBounds i true) (a.put oi.dst v) w → AnyEnd P md ops Q S en (n + 1) listed a w
  | 0, listed, a, w, hf, hr, hy, hS, H => by
    refine ⟨fun h => (by rw [h] at hr; cases hr), fun j hj => ?_⟩
    by_cases hji : j = i
    · subst hji
      exact hy.yieldsIf.wpOp hi hS ⟨(fun e => by rw [hen] at e; cases e), fun _ => ⟨hS, H⟩⟩
    · have h0 := ready_mono hj hji
      rw [H.1] at h0
      cases h0
  | n + 1, listed, a, w, hf, hr, hy, hS, H => by
    refine ⟨fun h => (by rw [h] at hr; cases hr), fun j hj => ?_⟩
    by_cases hji : j = i
    · subst hji
      exact hy.yieldsIf.wpOp hi hS ⟨(fun e => by rw [hen] at e; cases e), fun _ => ⟨hS, H⟩⟩
    · obtain ⟨hjun, oj, hoj, hall⟩ := mem_ready.1 hj
      have hnot : ∀ e ∈ oj.after, Region.binds md e = true → e.on ≠ i := fun e he hb heq => by
        have h1 := hall e he hb
        have h0 := (mem_ready.1 hr).1
        rw [heq] at h1
        rcases Nat.lt_or_ge i listed.size with hl | hl
        · simp [hl] at h0 h1
          rw [h0] at h1
          cases h1
        · simp [Array.getElem?_eq_none hl] at h1
      have h2 := wpOp_put hoj (hf j oj hoj hji hjun hnot) (fun cs b => hsel i oi cs b hi) (fun cs b => hsel j oj cs b hoj) hQ hy (H.2 j (ready_mono hj hji))
      have hf' : ∀ k ok, ops[k]? = some ok → k ≠ i → (listed.setIfInBounds j true).getD k true = false → (∀ e ∈ ok.after, Region.binds md e = true → e.on ≠ i) → oi.apart ops ok = true := fun k ok hk hki hun hno => by
        refine hf k ok hk hki ?_ hno
        by_cases hjk : j = k
        · subst hjk
          exact hjun
        · rw [getD_set_ne true hjk] at hun
          exact hun
      refine wpOp_mono (fun a' w' h3 => ⟨fun e => ?_, fun e => ?_⟩) h2
      · have hU := h3.2.1 e
        rw [Array.setIfInBounds_comm _ _ (Ne.symm hji)] at hU
        exact wpAny_first hi hsel hQ n (listed.setIfInBounds j true) a' w' hf' (ready_mono hr (Ne.symm hji)) h3.1 hU
      · obtain ⟨hSw, hU⟩ := h3.2.2 e
        refine ⟨hSw, end_firstY hi hsel hQ hen n (listed.setIfInBounds j true) a' w' hf' (ready_mono hr (Ne.symm hji)) h3.1 hSw ?_⟩
        rw [Array.setIfInBounds_comm _ _ hji]
        exact hU
theorem edrop_get {i : Nat} {oi : Oper} {rest : List Oper} (hi : ops.toList.drop i = oi :: rest) : ops[i]? = some oi := by
  rw [← Array.getElem?_toList]
  have h : (ops.toList.drop i)[0]? = some oi := by rw [hi]; rfl
  rwa [List.getElem?_drop, Nat.add_zero] at h
/-- an operation that yields in every world that meets the condition -/
theorem end_take {i : Nat} {oi : Oper} {rest : List Oper} {v : Value} {n : Nat} {listed : Array Bool} {a : Act} {w : World} (hi : ops.toList.drop i = oi :: rest)
    (hs : Region.noSelect ops = true) (hf : Region.free md ops listed i = true) (hr : (Region.ready md ops listed).contains i = true) (hc : closedB md ops listed = true) (hw : waitsE md ops en i = true)
    (hQ : ∀ c a w, Q (.panic c) (a.put oi.dst v) w → Q (.panic c) a w) (hy : YieldsIf P ops S oi v a) (hS : S w)
    (h : AnyEnd P md ops Q S en n (listed.setIfInBounds i true) (a.put oi.dst v) w) : AnyEnd P md ops Q S en (n + 1) listed a w :=
  end_first (edrop_get hi) (Region.noSelect_spec hs) hQ hw n listed a w (closed_of hc) (Region.free_spec (edrop_get hi) hf) (by simpa using hr) hy hS h
/-- an operation that yields in whatever world -/
theorem end_takeY {i : Nat} {oi : Oper} {rest : List Oper} {v : Value} {n : Nat} {listed : Array Bool} {a : Act} {w : World} (hi : ops.toList.drop i = oi :: rest)
    (hs : Region.noSelect ops = true) (hf : Region.free md ops listed i = true) (hr : (Region.ready md ops listed).contains i = true) (hw : en i = false)
    (hQ : ∀ c a w, Q (.panic c) (a.put oi.dst v) w → Q (.panic c) a w) (hy : Yields P ops oi v a) (hS : S w)
    (h : AnyEnd P md ops Q S en n (listed.setIfInBounds i true) (a.put oi.dst v) w) : AnyEnd P md ops Q S en (n + 1) listed a w :=
  end_firstY (edrop_get hi) (Region.noSelect_spec hs) hQ hw n listed a w (Region.free_spec (edrop_get hi) hf) (by simpa using hr) hy hS h
/-- one of the operations that may come up now, none of them of the end -/
theorem end_each {n : Nat} {listed : Array Bool} {a : Act} {w : World} {l : List Nat} (hr : Region.ready md ops listed = l) (hl : l ≠ []) (hen : ∀ i ∈ l, en i = false)
    (h : ∀ i ∈ l, wpOp P ops Q i (fun a' w' => S w' ∧ AnyEnd P md ops Q S en n (listed.setIfInBounds i true) a' w') a w) : AnyEnd P md ops Q S en (n + 1) listed a w := by
  refine ⟨fun h0 => absurd (hr.symm.trans h0) hl, fun j hj => ?_⟩
  rw [hr] at hj
  exact wpOp_mono (fun a' w' h' => ⟨(fun e => by rw [hen j hj] at e; cases e), fun _ => h'⟩) (h j hj)
/-- the one operation that may come up now -/
theorem end_one {i : Nat} {o : Oper} {rest : List Oper} {n : Nat} {listed : Array Bool} {a : Act} {w : World} (hi : ops.toList.drop i = o :: rest) (hr : Region.ready md ops listed = [i]) (hst : en i = false)
    (h : ∀ K' : Act → World → Prop, Shut (∀ a w, S w → (S w → AnyEnd P md ops Q S en n (listed.setIfInBounds i true) a w) → K' a w) → if Region.wanted o (yielded ops a.tmps) = true then Oper.wp P o a w K' Q else K' (a.put o.dst undef) w) : AnyEnd P md ops Q S en (n + 1) listed a w := by
  refine ⟨fun h0 => (by rw [hr] at h0; cases h0), fun j hj => ?_⟩
  rw [hr] at hj
  obtain rfl : j = i := by simpa using hj
  exact wpOp_step (edrop_get hi) (fun K' hK => h K' (fun a w hS hW => hK a w ⟨(fun e => by rw [hst] at e; cases e), fun _ => ⟨hS, hW hS⟩⟩))
/-- two operations may come up now, neither of them of the end -/
theorem end_two {i k : Nat} {oi ok : Oper} {ri rk : List Oper} {n : Nat} {listed : Array Bool} {a : Act} {w : World} (hi : ops.toList.drop i = oi :: ri) (hk : ops.toList.drop k = ok :: rk) (hr : Region.ready md ops listed = [i, k]) (hsi : en i = false) (hsk : en k = false)
    (h1 : ∀ K' : Act → World → Prop, Shut (∀ a w, S w → (S w → AnyEnd P md ops Q S en n (listed.setIfInBounds i true) a w) → K' a w) → if Region.wanted oi (yielded ops a.tmps) = true then Oper.wp P oi a w K' Q else K' (a.put oi.dst undef) w)
    (h2 : ∀ K' : Act → World → Prop, Shut (∀ a w, S w → (S w → AnyEnd P md ops Q S en n (listed.setIfInBounds k true) a w) → K' a w) → if Region.wanted ok (yielded ops a.tmps) = true then Oper.wp P ok a w K' Q else K' (a.put ok.dst undef) w) : AnyEnd P md ops Q S en (n + 1) listed a w := by
  refine ⟨fun h0 => (by rw [hr] at h0; cases h0), fun j hj => ?_⟩
  rw [hr] at hj
  simp only [List.mem_cons, List.not_mem_nil, or_false] at hj
  rcases hj with rfl | rfl
  · exact wpOp_step (edrop_get hi) (fun K' hK => h1 K' (fun a w hS hW => hK a w ⟨(fun e => by rw [hsi] at e; cases e), fun _ => ⟨hS, hW hS⟩⟩))
  · exact wpOp_step (edrop_get hk) (fun K' hK => h2 K' (fun a w hS hW => hK a w ⟨(fun e => by rw [hsk] at e; cases e), fun _ => ⟨hS, hW hS⟩⟩))
/-- the end, the one operation that may come up -/
theorem end_only {i : Nat} {o : Oper} {rest : List Oper} {n : Nat} {listed : Array Bool} {a : Act} {w : World} (hi : ops.toList.drop i = o :: rest) (hr : Region.ready md ops listed = [i]) (hst : en i = true)
    (h : ∀ K' : Act → World → Prop, Shut (∀ a w, wpAny P md ops Q n (listed.setIfInBounds i true) a w → K' a w) → if Region.wanted o (yielded ops a.tmps) = true then Oper.wp P o a w K' Q else K' (a.put o.dst undef) w) : AnyEnd P md ops Q S en (n + 1) listed a w := by
  refine ⟨fun h0 => (by rw [hr] at h0; cases h0), fun j hj => ?_⟩
  rw [hr] at hj
  obtain rfl : j = i := by simpa using hj
  exact wpOp_step (edrop_get hi) (fun K' hK => h K' (fun a w hW => hK a w ⟨fun _ => hW, (fun e => by rw [hst] at e; cases e)⟩))
/-- the end: two operations, either first -/
theorem end_last {i k : Nat} {oi ok : Oper} {ri rk : List Oper} {n : Nat} {listed : Array Bool} {a : Act} {w : World} (hi : ops.toList.drop i = oi :: ri) (hk : ops.toList.drop k = ok :: rk) (hr : Region.ready md ops listed = [i, k]) (hsi : en i = true) (hsk : en k = true)
    (h1 : ∀ K' : Act → World → Prop, Shut (∀ a w, wpAny P md ops Q n (listed.setIfInBounds i true) a w → K' a w) → if Region.wanted oi (yielded ops a.tmps) = true then Oper.wp P oi a w K' Q else K' (a.put oi.dst undef) w)
    (h2 : ∀ K' : Act → World → Prop, Shut (∀ a w, wpAny P md ops Q n (listed.setIfInBounds k true) a w → K' a w) → if Region.wanted ok (yielded ops a.tmps) = true then Oper.wp P ok a w K' Q else K' (a.put ok.dst undef) w) : AnyEnd P md ops Q S en (n + 1) listed a w := by
  refine ⟨fun h0 => (by rw [hr] at h0; cases h0), fun j hj => ?_⟩
  rw [hr] at hj
  simp only [List.mem_cons, List.not_mem_nil, or_false] at hj
  rcases hj with rfl | rfl
  · exact wpOp_step (edrop_get hi) (fun K' hK => h1 K' (fun a w hW => hK a w ⟨fun _ => hW, (fun e => by rw [hsi] at e; cases e)⟩))
  · exact wpOp_step (edrop_get hk) (fun K' hK => h2 K' (fun a w hW => hK a w ⟨fun _ => hW, (fun e => by rw [hsk] at e; cases e)⟩))
/-- the beginning -/
theorem end_region (en : Nat → Bool) {id : Nat} {a : Act} {w : World} (hm : P.follows .mixedOrders = true) (hS : S w.drew)
    (h : S w.drew → AnyEnd P .any ops Q S en ops.size (Array.replicate ops.size false) a w.drew) : (Code.region id ops true).wp P Q a w :=
  wp_region_any hm (AnyEnd.any _ _ _ _ (h hS))
/-- behind the end: the one operation that is left -/
theorem eany_one {i : Nat} {o : Oper} {rest : List Oper} {n : Nat} {listed : Array Bool} {a : Act} {w : World} (hi : ops.toList.drop i = o :: rest) (hr : Region.ready md ops listed = [i])
    (h : ∀ K' : Act → World → Prop, Shut (∀ a w, wpAny P md ops Q n (listed.setIfInBounds i true) a w → K' a w) → if Region.wanted o (yielded ops a.tmps) = true then Oper.wp P o a w K' Q else K' (a.put o.dst undef) w) : wpAny P md ops Q (n + 1) listed a w := by
  refine ⟨fun h0 => (by rw [hr] at h0; cases h0), fun j hj => ?_⟩
  rw [hr] at hj
  obtain rfl : j = i := by simpa using hj
  exact wpOp_step (edrop_get hi) (fun K' hK => h K' (fun a w hW => hK a w hW))
theorem eany_done {listed : Array Bool} {a : Act} {w : World} (hr : Region.ready md ops listed = []) (h : Q .normal a w) : ∀ n, wpAny P md ops Q n listed a w
  | 0 => ⟨hr, h⟩
  | _ + 1 => ⟨fun _ => h, by rw [hr]; simp⟩
end
end Go.Proofs.Ytkkeblgahbpmmaa
