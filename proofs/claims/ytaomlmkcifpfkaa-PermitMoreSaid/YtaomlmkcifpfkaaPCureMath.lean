/- What the laws on conflicts and cures say, plainly: less rules contradict less; what is kept is least; what cures is kept. -/
import Derived.Test.YtaomlmkcifpfkaaPCures
namespace Go.Proofs.Ytaomlmkcifpfkaa

/-! ### numbers of a thing -/
theorem cntFold_spec (nm : ByteArray) : ∀ (cs : List PCount) (p : Int × Int) (x : Int),
    ((cs.foldl (cntStep nm) p).1 ≤ x ↔ p.1 ≤ x ∧ ∀ c ∈ cs, c.thing = nm → c.least ≤ x) ∧ (x ≤ (cs.foldl (cntStep nm) p).2 ↔ x ≤ p.2 ∧ ∀ c ∈ cs, c.thing = nm → x ≤ c.most)
  | [], p, x => by simp
  | c :: cs, p, x => by
    obtain ⟨h1, h2⟩ := cntFold_spec nm cs (cntStep nm p c) x
    rw [List.foldl_cons, h1, h2]
    unfold cntStep
    by_cases h : c.thing = nm
    · simp only [if_pos h]
      constructor
      · rw [Int.max_le]
        constructor
        · rintro ⟨⟨a, b⟩, d⟩
          refine ⟨a, fun q hq e => ?_⟩
          rcases List.mem_cons.1 hq with rfl | hq
          · exact b
          · exact d q hq e
        · rintro ⟨a, b⟩
          exact ⟨⟨a, b c List.mem_cons_self h⟩, fun q hq e => b q (List.mem_cons_of_mem _ hq) e⟩
      · rw [Int.le_min]
        constructor
        · rintro ⟨⟨a, b⟩, d⟩
          refine ⟨a, fun q hq e => ?_⟩
          rcases List.mem_cons.1 hq with rfl | hq
          · exact b
          · exact d q hq e
        · rintro ⟨a, b⟩
          exact ⟨⟨a, b c List.mem_cons_self h⟩, fun q hq e => b q (List.mem_cons_of_mem _ hq) e⟩
    · simp only [if_neg h]
      constructor
      · constructor
        · rintro ⟨a, d⟩
          refine ⟨a, fun q hq e => ?_⟩
          rcases List.mem_cons.1 hq with rfl | hq
          · exact absurd e h
          · exact d q hq e
        · rintro ⟨a, b⟩
          exact ⟨a, fun q hq e => b q (List.mem_cons_of_mem _ hq) e⟩
      · constructor
        · rintro ⟨a, d⟩
          refine ⟨a, fun q hq e => ?_⟩
          rcases List.mem_cons.1 hq with rfl | hq
          · exact absurd e h
          · exact d q hq e
        · rintro ⟨a, b⟩
          exact ⟨a, fun q hq e => b q (List.mem_cons_of_mem _ hq) e⟩
theorem cntR_spec (nm : ByteArray) : ∀ (l : List PRule) (p : Int × Int) (x : Int),
    ((l.foldl (cntR nm) p).1 ≤ x ↔ p.1 ≤ x ∧ ∀ r ∈ l, ∀ c ∈ r.counts, c.thing = nm → c.least ≤ x) ∧ (x ≤ (l.foldl (cntR nm) p).2 ↔ x ≤ p.2 ∧ ∀ r ∈ l, ∀ c ∈ r.counts, c.thing = nm → x ≤ c.most)
  | [], p, x => by simp
  | r :: l, p, x => by
    obtain ⟨h1, h2⟩ := cntR_spec nm l (cntR nm p r) x
    rw [List.foldl_cons, h1, h2]
    unfold cntR
    obtain ⟨h3, h4⟩ := cntFold_spec nm r.counts p x
    rw [h3, h4]
    constructor
    · constructor
      · rintro ⟨⟨a, b⟩, d⟩
        refine ⟨a, fun q hq => ?_⟩
        rcases List.mem_cons.1 hq with rfl | hq
        · exact b
        · exact d q hq
      · rintro ⟨a, b⟩
        exact ⟨⟨a, b r List.mem_cons_self⟩, fun q hq => b q (List.mem_cons_of_mem _ hq)⟩
    · constructor
      · rintro ⟨⟨a, b⟩, d⟩
        refine ⟨a, fun q hq => ?_⟩
        rcases List.mem_cons.1 hq with rfl | hq
        · exact b
        · exact d q hq
      · rintro ⟨a, b⟩
        exact ⟨⟨a, b r List.mem_cons_self⟩, fun q hq => b q (List.mem_cons_of_mem _ hq)⟩
theorem thingN_le {nm : ByteArray} {l : List PRule} {x : Int} : (thingN nm l).1 ≤ x ↔ 0 ≤ x ∧ ∀ r ∈ l, ∀ c ∈ r.counts, c.thing = nm → c.least ≤ x := (cntR_spec nm l (0, 1000) x).1
theorem le_thingN {nm : ByteArray} {l : List PRule} {x : Int} : x ≤ (thingN nm l).2 ↔ x ≤ 1000 ∧ ∀ r ∈ l, ∀ c ∈ r.counts, c.thing = nm → x ≤ c.most := (cntR_spec nm l (0, 1000) x).2
theorem thingB_no {nm : ByteArray} {l : List PRule} : thingB l nm = false ↔ ∃ x : Int, (0 ≤ x ∧ x ≤ 1000) ∧ ∀ r ∈ l, ∀ c ∈ r.counts, c.thing = nm → c.least ≤ x ∧ x ≤ c.most := by
  unfold thingB
  rw [decide_eq_false_iff_not, Int.not_lt]
  constructor
  · intro h
    have h1 := thingN_le.1 (Int.le_refl (thingN nm l).1)
    have h2 := le_thingN.1 h
    exact ⟨_, ⟨h1.1, h2.1⟩, fun r hr c hc e => ⟨h1.2 r hr c hc e, h2.2 r hr c hc e⟩⟩
  · rintro ⟨x, ⟨h0, h9⟩, h⟩
    have h1 : (thingN nm l).1 ≤ x := thingN_le.2 ⟨h0, fun r hr c hc e => (h r hr c hc e).1⟩
    have h2 : x ≤ (thingN nm l).2 := le_thingN.2 ⟨h9, fun r hr c hc e => (h r hr c hc e).2⟩
    omega

/-! ### days of the week -/
theorem and_nat (a b : Nat) (ha : a < 128) (hb : b < 128) : bits .and .i64 (a : Int) (b : Int) = ((a &&& b : Nat) : Int) := by
  have e : bits .and .i64 (a : Int) (b : Int) = IntKind.i64.wrap (((BitVec.ofInt 64 (a : Int)) &&& (BitVec.ofInt 64 (b : Int))).toNat : Nat) := rfl
  rw [e, BitVec.toNat_and, BitVec.ofInt_natCast, BitVec.ofInt_natCast, BitVec.toNat_ofNat, BitVec.toNat_ofNat, Nat.mod_eq_of_lt (by omega), Nat.mod_eq_of_lt (by omega)]
  have : a &&& b ≤ a := Nat.and_le_left
  exact IntWalk.i64_in _ (by omega)
def daysF (l : List PRule) : Nat := l.foldl (fun a r => a &&& r.days.toNat) 127
theorem daysF_go : ∀ (l : List PRule) (a : Nat), a < 128 → (∀ r ∈ l, 0 ≤ r.days ∧ r.days ≤ 127) →
    l.foldl (fun a r => bits .and .i64 a r.days) (a : Int) = ((l.foldl (fun a r => a &&& r.days.toNat) a : Nat) : Int)
  | [], _, _, _ => rfl
  | r :: l, a, ha, h => by
    have hr := h r List.mem_cons_self
    obtain ⟨d, hd⟩ := Int.eq_ofNat_of_zero_le hr.1
    rw [List.foldl_cons, List.foldl_cons, hd, Int.toNat_natCast, and_nat a d ha (by omega)]
    exact daysF_go l _ (Nat.lt_of_le_of_lt Nat.and_le_left ha) (fun r hr => h r (List.mem_cons_of_mem _ hr))
theorem daysN_nat {l : List PRule} (h : ∀ r ∈ l, 0 ≤ r.days ∧ r.days ≤ 127) : daysN l = (daysF l : Int) := daysF_go l 127 (by omega) h
theorem daysF_bit : ∀ (l : List PRule) (a b : Nat), (l.foldl (fun a r => a &&& r.days.toNat) a).testBit b = (a.testBit b && l.all fun r => bitB r.days b)
  | [], _, _ => by simp
  | _ :: l, _, b => by
    rw [List.foldl_cons, daysF_bit l _ b, Nat.testBit_and, List.all_cons, Bool.and_assoc]
    rfl
set_option maxRecDepth 100000 in
theorem small_bit : ∀ n, n < 128 → (n = 0 ↔ ∀ k, k < 7 → n.testBit k = false) := by decide +kernel
set_option maxRecDepth 100000 in
theorem all_bit : ∀ k, k < 7 → (127 : Nat).testBit k = true := by decide
theorem daysF_lt : ∀ (l : List PRule) (a : Nat), a < 128 → l.foldl (fun a r => a &&& r.days.toNat) a < 128
  | [], _, h => h
  | _ :: l, _, h => daysF_lt l _ (Nat.lt_of_le_of_lt Nat.and_le_left h)
theorem days_no {l : List PRule} (h : ∀ r ∈ l, 0 ≤ r.days ∧ r.days ≤ 127) : (daysN l == 0) = false ↔ ∃ k, k < 7 ∧ ∀ r ∈ l, bitB r.days k = true := by
  rw [daysN_nat h, beq_eq_false_iff_ne]
  have h1 := small_bit (daysF l) (daysF_lt l 127 (by omega))
  constructor
  · intro hne
    have hne' : ¬ daysF l = 0 := fun e => hne (by rw [e]; rfl)
    rw [h1] at hne'
    obtain ⟨k, hk⟩ := Classical.not_forall.1 hne'
    obtain ⟨hk7, hk⟩ := Classical.not_imp.1 hk
    have h2 := daysF_bit l 127 k
    rw [all_bit k hk7, Bool.true_and] at h2
    have h3 : (daysF l).testBit k = true := by simpa using hk
    exact ⟨k, hk7, List.all_eq_true.1 (h2.symm.trans h3)⟩
  · rintro ⟨k, hk7, hk⟩ he
    have h2 := daysF_bit l 127 k
    rw [all_bit k hk7, Bool.true_and, List.all_eq_true.2 hk] at h2
    have he' : daysF l = 0 := by omega
    have h3 := h1.1 he' k hk7
    unfold daysF at h3
    rw [h2] at h3; cases h3

/-! ### less rules contradict less -/
def sub (l m : List PRule) : Prop := ∀ r ∈ l, r ∈ m
theorem holdB_sub {l m : List PRule} (h : sub l m) {sel : PRule → Int × Int} {k : Nat} (hb : holdB l sel k = true) : holdB m sel k = true := by
  unfold holdB at *
  rw [List.any_eq_true] at *
  obtain ⟨r, hr, hx⟩ := hb
  exact ⟨r, h r hr, hx⟩
theorem emptyB_sub {l m : List PRule} (h : sub l m) {sel : PRule → Int × Int} {n : Nat} (hb : emptyB l n sel = true) : emptyB m n sel = true := by
  unfold emptyB at *
  rw [List.all_eq_true] at *
  exact fun k hk => holdB_sub h (hb k hk)
theorem thingB_sub {l m : List PRule} (h : sub l m) {nm : ByteArray} (hb : thingB l nm = true) : thingB m nm = true := by
  cases hm : thingB m nm with
  | true => rfl
  | false =>
    obtain ⟨x, h0, hx⟩ := thingB_no.1 hm
    have := thingB_no.2 ⟨x, h0, fun r hr => hx r (h r hr)⟩
    rw [this] at hb; cases hb
theorem days_sub {l m : List PRule} (h : sub l m) (hm : ∀ r ∈ m, 0 ≤ r.days ∧ r.days ≤ 127) (hb : (daysN l == 0) = true) : (daysN m == 0) = true := by
  cases hx : (daysN m == 0) with
  | true => rfl
  | false =>
    obtain ⟨k, hk, hr⟩ := (days_no hm).1 hx
    have := (days_no (fun r hr => hm r (h r hr))).2 ⟨k, hk, fun r q => hr r (h r q)⟩
    rw [this] at hb; cases hb
theorem kind6 (k : Nat) : k = 0 ∨ k = 1 ∨ k = 2 ∨ k = 3 ∨ k = 4 ∨ ∃ j, k = j + 5 := by
  rcases Nat.lt_or_ge k 5 with h | h
  · omega
  · exact .inr (.inr (.inr (.inr (.inr ⟨k - 5, by omega⟩))))
theorem ofB_0 (rs : List PRule) (ts : List ByteArray) : ofB rs ts 0 = false := rfl
theorem ofB_1 (rs : List PRule) (ts : List ByteArray) : ofB rs ts 1 = rs.any fun r => r.forbid := rfl
theorem ofB_2 (rs : List PRule) (ts : List ByteArray) : ofB rs ts 2 = emptyB rs 1440 hoursSel := rfl
theorem ofB_3 (rs : List PRule) (ts : List ByteArray) : ofB rs ts 3 = (daysN rs == 0) := rfl
theorem ofB_4 (rs : List PRule) (ts : List ByteArray) : ofB rs ts 4 = emptyB rs 365 seasonSel := rfl
theorem ofB_5 (rs : List PRule) (ts : List ByteArray) (k : Nat) : ofB rs ts (k + 5) = match ts[k]? with | some nm => thingB rs nm | none => false := rfl
theorem ofB_sub {l m : List PRule} (h : sub l m) (hm : ∀ r ∈ m, 0 ≤ r.days ∧ r.days ≤ 127) {ts : List ByteArray} {k : Nat} (hb : ofB l ts k = true) : ofB m ts k = true := by
  rcases kind6 k with rfl | rfl | rfl | rfl | rfl | ⟨k, rfl⟩
  · rw [ofB_0] at hb; cases hb
  · rw [ofB_1, List.any_eq_true] at *
    obtain ⟨r, hr, hx⟩ := hb
    exact ⟨r, h r hr, hx⟩
  · rw [ofB_2] at *; exact emptyB_sub h hb
  · rw [ofB_3] at *; exact days_sub h hm hb
  · rw [ofB_4] at *; exact emptyB_sub h hb
  · rw [ofB_5] at *
    cases hk : ts[k]? with
    | some nm => rw [hk] at hb; exact thingB_sub h hb
    | none => rw [hk] at hb; cases hb

/-! ### the things of rules -/
theorem thStep_mem {o : List ByteArray} {c : PCount} {x : ByteArray} : x ∈ thStep o c ↔ x ∈ o ∨ x = c.thing := by
  unfold thStep
  split
  · rename_i h
    rw [List.any_eq_true] at h
    obtain ⟨t, ht, he⟩ := h
    have he : c.thing = t := by simpa using he
    constructor
    · exact .inl
    · rintro (h | rfl)
      · exact h
      · rw [he]; exact ht
  · simp
theorem thFold_mem {x : ByteArray} : ∀ (cs : List PCount) (o : List ByteArray), x ∈ cs.foldl thStep o ↔ x ∈ o ∨ ∃ c ∈ cs, c.thing = x
  | [], o => by simp
  | c :: cs, o => by
    rw [List.foldl_cons, thFold_mem cs, thStep_mem]
    constructor
    · rintro ((h | h) | ⟨q, hq, e⟩)
      · exact .inl h
      · exact .inr ⟨c, List.mem_cons_self, h.symm⟩
      · exact .inr ⟨q, List.mem_cons_of_mem _ hq, e⟩
    · rintro (h | ⟨q, hq, e⟩)
      · exact .inl (.inl h)
      · rcases List.mem_cons.1 hq with rfl | hq
        · exact .inl (.inr e.symm)
        · exact .inr ⟨q, hq, e⟩
theorem thFoldR_mem {x : ByteArray} : ∀ (l : List PRule) (o : List ByteArray), x ∈ l.foldl thRule o ↔ x ∈ o ∨ ∃ r ∈ l, ∃ c ∈ r.counts, c.thing = x
  | [], o => by simp
  | r :: l, o => by
    rw [List.foldl_cons, thFoldR_mem l]
    unfold thRule
    rw [thFold_mem]
    constructor
    · rintro ((h | h) | ⟨q, hq, e⟩)
      · exact .inl h
      · exact .inr ⟨r, List.mem_cons_self, h⟩
      · exact .inr ⟨q, List.mem_cons_of_mem _ hq, e⟩
    · rintro (h | ⟨q, hq, e⟩)
      · exact .inl (.inl h)
      · rcases List.mem_cons.1 hq with rfl | hq
        · exact .inl (.inr e)
        · exact .inr ⟨q, hq, e⟩
theorem thingsL_mem {x : ByteArray} {l : List PRule} : x ∈ thingsL l ↔ ∃ r ∈ l, ∃ c ∈ r.counts, c.thing = x := by
  unfold thingsL
  rw [thFoldR_mem]; simp
theorem thingB_mem {l : List PRule} {nm : ByteArray} (h : thingB l nm = true) : nm ∈ thingsL l := by
  rw [thingsL_mem]
  by_cases hx : ∃ r ∈ l, ∃ c ∈ r.counts, c.thing = nm
  · exact hx
  · have := thingB_no.2 ⟨0, ⟨by omega, by omega⟩, fun r hr c hc e => absurd ⟨r, hr, c, hc, e⟩ hx⟩
    rw [this] at h; cases h
theorem kindN_zero {l : List PRule} : kindN l = 0 ↔ ∀ k : Nat, ofB l (thingsL l) k = false := by
  constructor
  · intro h k
    by_cases h1 : k = 0
    · subst h1; rfl
    · by_cases h2 : k < 5 + (thingsL l).length
      · exact kindF_none _ _ _ (Nat.le_refl _) h k (by omega) (by omega)
      · obtain ⟨j, rfl⟩ : ∃ j, k = j + 5 := ⟨k - 5, by omega⟩
        rw [ofB_5, List.getElem?_eq_none (by omega)]
  · intro h
    exact kindF_zero _ _ _ (Nat.le_refl _) (fun j _ _ => h j)
/-- if less rules contradict each other of a kind of more rules, they do not stand together at all -/
theorem kindN_sub {l m : List PRule} (h : kindN l = 0) {k : Nat} (hx : ofB l (thingsL m) k = true) : False := by
  have h0 := kindN_zero.1 h
  rcases kind6 k with rfl | rfl | rfl | rfl | rfl | ⟨j, rfl⟩
  · rw [ofB_0] at hx; cases hx
  · have h1 := h0 1; rw [ofB_1] at h1 hx; rw [h1] at hx; cases hx
  · have h1 := h0 2; rw [ofB_2] at h1 hx; rw [h1] at hx; cases hx
  · have h1 := h0 3; rw [ofB_3] at h1 hx; rw [h1] at hx; cases hx
  · have h1 := h0 4; rw [ofB_4] at h1 hx; rw [h1] at hx; cases hx
  · rw [ofB_5] at hx
    cases hk : (thingsL m)[j]? with
    | none => rw [hk] at hx; cases hx
    | some nm =>
      rw [hk] at hx
      obtain ⟨i, hi⟩ := List.getElem?_of_mem (thingB_mem hx)
      have h1 := h0 (i + 5)
      rw [ofB_5, hi] at h1
      simp only at h1 hx
      rw [h1] at hx; cases hx
theorem kindN_anti {l m : List PRule} (h : sub l m) (hm : ∀ r ∈ m, 0 ≤ r.days ∧ r.days ≤ 127) (h0 : kindN m = 0) : kindN l = 0 := by
  by_cases hl : kindN l = 0
  · exact hl
  · have h1 := (kindF_spec _ _ _ hl).2.2.1
    have h2 := ofB_sub h hm h1
    exact (kindN_sub h0 h2).elim

/-! ### what is kept -/
section
variable {α : Type}
/-- one list of marks is no more than another -/
def leK (a b : List Bool) : Prop := a.length = b.length ∧ ∀ i : Nat, a[i]? = some true → b[i]? = some true
theorem leK_refl (a : List Bool) : leK a a := And.intro rfl (fun _ h => h)
theorem leK_trans {a b c : List Bool} (h : leK a b) (k : leK b c) : leK a c := ⟨h.1.trans k.1, fun i hi => k.2 i (h.2 i hi)⟩
theorem leK_set {a : List Bool} {i : Nat} : leK (a.set i false) a := by
  refine ⟨by simp, fun j hj => ?_⟩
  by_cases h : i = j
  · subst h
    rw [List.getElem?_set_self'] at hj
    cases he : a[i]? <;> rw [he] at hj <;> simp at hj
  · rwa [List.getElem?_set_ne h] at hj
theorem leK_both {a b : List Bool} (h : leK a b) (i : Nat) : leK (a.set i false) (b.set i false) := by
  refine ⟨by simp [h.1], fun j hj => ?_⟩
  by_cases e : i = j
  · subst e
    rw [List.getElem?_set_self'] at hj
    cases he : a[i]? <;> rw [he] at hj <;> simp at hj
  · rw [List.getElem?_set_ne e] at hj ⊢
    exact h.2 j hj
theorem mem_chosen {x : α} : ∀ {l : List α} {k : List Bool}, x ∈ chosenL l k ↔ ∃ i : Nat, l[i]? = some x ∧ k[i]? = some true
  | [], _ => by simp [chosenL]
  | _ :: _, [] => by simp [chosenL]
  | y :: l, b :: k => by
    have ih := mem_chosen (x := x) (l := l) (k := k)
    simp only [chosenL]
    constructor
    · intro h
      split at h
      · rename_i hb
        rcases List.mem_cons.1 h with rfl | h
        · exact ⟨0, rfl, by simpa using hb⟩
        · obtain ⟨i, h1, h2⟩ := ih.1 h
          exact ⟨i + 1, by simpa using h1, by simpa using h2⟩
      · obtain ⟨i, h1, h2⟩ := ih.1 h
        exact ⟨i + 1, by simpa using h1, by simpa using h2⟩
    · rintro ⟨i, h1, h2⟩
      cases i with
      | zero =>
        simp only [List.getElem?_cons_zero, Option.some.injEq] at h1 h2
        subst h1 h2
        simp
      | succ i =>
        have := ih.2 ⟨i, by simpa using h1, by simpa using h2⟩
        split
        · exact List.mem_cons_of_mem _ this
        · exact this
theorem chosen_mem_le {l : List α} {a b : List Bool} (h : leK a b) {x : α} (hx : x ∈ chosenL l a) : x ∈ chosenL l b := by
  obtain ⟨i, h1, h2⟩ := mem_chosen.1 hx
  exact mem_chosen.2 ⟨i, h1, h.2 i h2⟩
theorem keepR_le (f : List α → Bool) (l : List α) : ∀ (i : Nat) (k : List Bool), leK (keepR f l i k) k
  | 0, k => leK_refl k
  | i + 1, k => by
    simp only [keepR]
    refine leK_trans (keepR_le f l i _) ?_
    split
    · exact leK_set
    · exact leK_refl k
/-- what is kept contradicts itself -/
theorem keepR_yes (f : List α → Bool) (l : List α) : ∀ (i : Nat) (k : List Bool), f (chosenL l k) = true → f (chosenL l (keepR f l i k)) = true
  | 0, k, h => h
  | i + 1, k, h => by
    simp only [keepR]
    split
    · rename_i hf; exact keepR_yes f l i _ hf
    · exact keepR_yes f l i _ h
/-- without any of what is kept nothing does -/
theorem keepR_no (f : List α → Bool) (l : List α) (hmono : ∀ a b : List Bool, leK a b → f (chosenL l a) = true → f (chosenL l b) = true) :
    ∀ (i : Nat) (k : List Bool), i ≤ k.length → ∀ j, j < i → (keepR f l i k)[j]? = some true → f (chosenL l ((keepR f l i k).set j false)) = false
  | 0, k, _, j, hj, _ => by omega
  | i + 1, k, hi, j, hj, hk => by
    simp only [keepR] at hk ⊢
    by_cases hf : f (chosenL l (k.set i false)) = true
    · rw [if_pos hf] at hk ⊢
      by_cases hji : j = i
      · subst hji
        have h2 := (keepR_le f l j (k.set j false)).2 j hk
        rw [List.getElem?_set_self'] at h2
        cases he : k[j]? <;> rw [he] at h2 <;> simp at h2
      · exact keepR_no f l hmono i (k.set i false) (by simp; omega) j (by omega) hk
    · rw [if_neg hf] at hk ⊢
      by_cases hji : j = i
      · subst hji
        cases hx : f (chosenL l ((keepR f l j k).set j false)) with
        | false => rfl
        | true => exact absurd (hmono _ _ (leK_both (keepR_le f l j k) j) hx) hf
      · exact keepR_no f l hmono i k (by omega) j (by omega) hk
end
section
variable {α : Type}
theorem chosen_drop : ∀ {l : List α} {k : List Bool} {i : Nat}, i < (chosenL l k).length → ∃ j : Nat, k[j]? = some true ∧ chosenL l (k.set j false) = (chosenL l k).eraseIdx i
  | [], _, i, h => by simp [chosenL] at h
  | _ :: _, [], i, h => by simp [chosenL] at h
  | y :: l, b :: k, i, h => by
    cases b with
    | true =>
      cases i with
      | zero => exact ⟨0, rfl, by simp [chosenL]⟩
      | succ i =>
        simp only [chosenL, if_true, List.length_cons] at h
        obtain ⟨j, h1, h2⟩ := chosen_drop (l := l) (k := k) (i := i) (by omega)
        exact ⟨j + 1, by simpa using h1, by simp [chosenL, h2]⟩
    | false =>
      simp only [chosenL, Bool.false_eq_true, if_false] at h
      obtain ⟨j, h1, h2⟩ := chosen_drop (l := l) (k := k) (i := i) h
      exact ⟨j + 1, by simpa using h1, by simp [chosenL, h2]⟩
/-- the next of the chosen -/
theorem chosen_next {l : List α} {k : List Bool} {p : Nat} {x : α} (hx : l[p]? = some x) (hk : k[p]? = some true) : (chosenL l k)[(chosenL (l.take p) (k.take p)).length]? = some x := by
  induction p generalizing l k with
  | zero =>
    match l, k, hx, hk with
    | y :: l, b :: k, hx, hk =>
      simp only [List.getElem?_cons_zero, Option.some.injEq] at hx hk
      subst hx hk
      simp [chosenL]
  | succ p ih =>
    match l, k, hx, hk with
    | y :: l, b :: k, hx, hk =>
      have := ih (l := l) (k := k) (by simpa using hx) (by simpa using hk)
      cases b <;> simpa [chosenL] using this
end

/-! ### the conflict -/
def confK (rs : List PRule) : List Bool := keepR (fun r => ofB r (thingsL rs) (kindN rs)) rs rs.length (List.replicate rs.length true)
theorem confK_len (rs : List PRule) : (confK rs).length = rs.length := by unfold confK; rw [keepR_len]; simp
theorem confN_eq {rs : List PRule} {ns : List Int} (h : ns.length = rs.length) : confN rs ns = chosenL ns (confK rs) := by
  unfold confN confK
  rw [drop_all _ _ _ h]
theorem conf_yes {rs : List PRule} (hk : kindN rs ≠ 0) : ofB (chosenL rs (confK rs)) (thingsL rs) (kindN rs) = true := by
  refine keepR_yes (fun r => ofB r (thingsL rs) (kindN rs)) rs _ _ ?_
  simp only [chosenL_all]
  exact (kindF_spec _ _ _ hk).2.2.1
theorem conf_no {rs : List PRule} (hr : ∀ r ∈ rs, 0 ≤ r.days ∧ r.days ≤ 127) {j : Nat} (hj : (confK rs)[j]? = some true) : ofB (chosenL rs ((confK rs).set j false)) (thingsL rs) (kindN rs) = false := by
  have hjl : j < rs.length := by rw [← confK_len rs]; exact (List.getElem?_eq_some_iff.1 hj).1
  refine keepR_no (fun r => ofB r (thingsL rs) (kindN rs)) rs (fun a b hab h => ?_) rs.length (List.replicate rs.length true) (by simp) j hjl hj
  exact ofB_sub (fun r hx => chosen_mem_le hab hx) (fun r hx => hr r (chosenL_mem _ _ _ hx)) h
theorem conf_drop {rs : List PRule} (hr : ∀ r ∈ rs, 0 ≤ r.days ∧ r.days ≤ 127) {i : Nat} (hi : i < (chosenL rs (confK rs)).length) : ofB ((chosenL rs (confK rs)).eraseIdx i) (thingsL rs) (kindN rs) = false := by
  obtain ⟨j, h1, h2⟩ := chosen_drop hi
  rw [← h2]
  exact conf_no hr h1
/-- what cures is in the conflict -/
theorem cure_kept {rs : List PRule} (hr : ∀ r ∈ rs, 0 ≤ r.days ∧ r.days ≤ 127) (hk : kindN rs ≠ 0) {j : Nat} (hj : j < rs.length) (h : kindN (rs.eraseIdx j) = 0) : (confK rs)[j]? = some true := by
  cases he : (confK rs)[j]? with
  | none => have := confK_len rs; simp at he; omega
  | some b =>
    cases b with
    | true => rfl
    | false =>
      have h1 := conf_yes hk
      refine (kindN_sub (m := rs) h (ofB_sub (fun r hx => ?_) (fun r hx => hr r (List.mem_of_mem_eraseIdx hx)) h1)).elim
      obtain ⟨i, h3, h4⟩ := mem_chosen.1 hx
      exact List.mem_eraseIdx_iff_getElem?.2 ⟨i, (fun e => by subst e; rw [he] at h4; cases h4), h3⟩

/-! ### the numbers of a passage's conditions -/
theorem nums_at (l : List PAuth) (t : PTrip) (k : Int) : ∃ s : Nat, ∀ (i : Nat) (x : Int), (numsAt l t k)[i]? = some x → x = (s : Int) + i := by
  unfold numsAt
  split
  · rename_i p _
    refine ⟨(condsN l t k.toNat).length, fun i x h => ?_⟩
    unfold numsOf at h
    rw [List.getElem?_map] at h
    cases hq : ((selOf l t p).zipIdx (condsN l t k.toNat).length)[i]? with
    | none => rw [hq] at h; cases h
    | some q =>
      rw [hq] at h
      rw [List.getElem?_zipIdx] at hq
      cases hs : (selOf l t p)[i]? with
      | none => rw [hs] at hq; cases hq
      | some y =>
        rw [hs] at hq
        simp only [Option.map_some, Option.some.injEq] at hq h
        subst hq h
        simp
  · exact ⟨0, fun i x h => by simp at h⟩
/-- numbers one behind another -/
def RunN (ns : List Int) : Prop := ∃ s : Nat, ∀ (i : Nat) (x : Int), ns[i]? = some x → x = (s : Int) + i
theorem RunN.inj {ns : List Int} (h : RunN ns) {i j : Nat} {x : Int} (hi : ns[i]? = some x) (hj : ns[j]? = some x) : i = j := by
  obtain ⟨s, hs⟩ := h
  have h1 := hs i x hi
  have h2 := hs j x hj
  omega
def otherK (ns : List Int) (c : Int) : List Bool := ns.map fun x => decide (x ≠ c)
theorem otherK_len (ns : List Int) (c : Int) : (otherK ns c).length = ns.length := by simp [otherK]
theorem otherK_at {ns : List Int} {c : Int} {i : Nat} {x : Int} (h : ns[i]? = some x) : (otherK ns c)[i]? = some (decide (x ≠ c)) := by simp [otherK, h]
theorem chosen_true : ∀ (l : List PRule) (k : List Bool), k.length = l.length → (∀ i, i < k.length → k[i]? = some true) → chosenL l k = l
  | [], _, _, _ => by simp [chosenL]
  | y :: l, [], h, _ => by simp at h
  | y :: l, b :: k, h, hk => by
    have hb : b = true := by simpa using hk 0 (by simp)
    subst hb
    simp only [chosenL, if_true]
    rw [chosen_true l k (by simpa using h) (fun i hi => by simpa using hk (i + 1) (by simpa using hi))]
theorem chosen_but : ∀ (l : List PRule) (k : List Bool) (j : Nat), k.length = l.length → j < l.length → (∀ i, i < k.length → i ≠ j → k[i]? = some true) → k[j]? = some false → chosenL l k = l.eraseIdx j
  | [], _, j, _, h, _, _ => by simp at h
  | y :: l, [], j, h, _, _, _ => by simp at h
  | y :: l, b :: k, 0, h, _, hk, hf => by
    have hb : b = false := by simpa using hf
    subst hb
    simp only [chosenL, Bool.false_eq_true, if_false, List.eraseIdx_cons_zero]
    exact chosen_true l k (by simpa using h) (fun i hi => by simpa using hk (i + 1) (by simpa using hi) (by omega))
  | y :: l, b :: k, j + 1, h, hj, hk, hf => by
    have hb : b = true := by simpa using hk 0 (by simp) (by omega)
    subst hb
    simp only [chosenL, if_true, List.eraseIdx_cons_succ]
    rw [chosen_but l k j (by simpa using h) (by simpa using hj) (fun i hi hij => by simpa using hk (i + 1) (by simpa using hi) (by omega)) (by simpa using hf)]
theorem chosen_other {rs : List PRule} {ns : List Int} (hl : ns.length = rs.length) (hr : RunN ns) {j : Nat} {c : Int} (hj : ns[j]? = some c) : chosenL rs (otherK ns c) = rs.eraseIdx j := by
  have hjl := (List.getElem?_eq_some_iff.1 hj).1
  refine chosen_but rs _ j (by rw [otherK_len]; exact hl) (by omega) (fun i hi hij => ?_) ?_
  · rw [otherK_len] at hi
    obtain ⟨x, hx⟩ := some_of_lt (l := ns) hi
    rw [otherK_at hx]
    have : x ≠ c := fun e => by subst e; exact hij (hr.inj hx hj)
    simp [this]
  · rw [otherK_at hj]; simp
theorem cure_at {rs : List PRule} {ns : List Int} {i : Nat} {c : Int} (hl : ns.length = rs.length) (h : (chosenL ns (curesK rs))[i]? = some c) : ∃ j : Nat, ns[j]? = some c ∧ j < rs.length ∧ kindN (rs.eraseIdx j) = 0 := by
  obtain ⟨j, h1, h2⟩ := mem_chosen.1 (List.mem_of_getElem? h)
  have hj : j < rs.length := by have := (List.getElem?_eq_some_iff.1 h1).1; omega
  rw [curesK_at hj] at h2
  exact ⟨j, h1, hj, by simpa using h2⟩
end Go.Proofs.Ytaomlmkcifpfkaa
