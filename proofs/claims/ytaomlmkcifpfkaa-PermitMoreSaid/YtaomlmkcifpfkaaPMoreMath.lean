/- What the law PermitMore says, plainly: a permit grows with one rule more, or with greater sizes. -/
import Derived.Test.YtaomlmkcifpfkaaPCureMath
import Derived.Test.YtaomlmkcifpfkaaPAllow
namespace Go.Proofs.Ytaomlmkcifpfkaa

section
variable {α : Type}
theorem filter_sub {f g : α → Bool} : ∀ {l : List α}, (∀ x ∈ l, f x = true → g x = true) → (l.filter f).Sublist (l.filter g)
  | [], _ => by simp
  | x :: l, h => by
    have ih := filter_sub (l := l) (fun y hy => h y (List.mem_cons_of_mem _ hy))
    by_cases hf : f x = true
    · have hg := h x List.mem_cons_self hf
      rw [List.filter_cons_of_pos hf, List.filter_cons_of_pos hg]; exact ih.cons_cons x
    · rw [List.filter_cons_of_neg hf]
      by_cases hg : g x = true
      · rw [List.filter_cons_of_pos hg]; exact ih.cons x
      · rw [List.filter_cons_of_neg hg]; exact ih
theorem zip_filter (f : α → Bool) : ∀ (l : List α) (n : Nat), ((l.zipIdx n).filter (fun q => f q.1)).map (·.1) = l.filter f
  | [], _ => rfl
  | x :: l, n => by
    rw [List.zipIdx_cons, List.filter_cons, List.filter_cons]
    split <;> simp [zip_filter f l (n + 1)]
theorem sum_sub {f : α → Int} : ∀ {l m : List α}, l.Sublist m → (∀ x ∈ m, 0 ≤ f x) → (l.map f).sum ≤ (m.map f).sum := by
  intro l m h
  induction h with
  | slnil => intro _; exact Int.le_refl _
  | cons x _ ih =>
    intro h
    have h1 := h x List.mem_cons_self
    have h2 := ih (fun y hy => h y (List.mem_cons_of_mem _ hy))
    simp only [List.map_cons, List.sum_cons]
    omega
  | cons_cons x _ ih =>
    intro h
    have h2 := ih (fun y hy => h y (List.mem_cons_of_mem _ hy))
    simp only [List.map_cons, List.sum_cons]
    omega
end
theorem rsOf_eq (l : List PAuth) (t : PTrip) (p : PPass) : rsOf l t p = (rulesOf l p).filter (fun r => forB r p.road t) := by
  unfold rsOf selOf ruleSel
  rw [List.take_length]
  exact zip_filter (fun r => forB r p.road t) (rulesOf l p) 0
theorem costs_eq (l : List PAuth) (t : PTrip) (p : PPass) : costs (selOf l t p) = ((rsOf l t p).map fun r => r.cost).sum := by
  unfold costs rsOf
  rw [List.map_map]
  rfl
theorem sel_len (l : List PAuth) (t : PTrip) (p : PPass) : (selOf l t p).length = (rsOf l t p).length := by
  unfold rsOf; simp
/-- a permit that grows -/
structure Grow (l : List PAuth) (t : PTrip) (k : List PAuth) (s : PTrip) : Prop where
  pass : s.passages = t.passages
  idx : ∀ nm, idxA k nm = idxA l nm
  auth : ∀ (p : PPass) (a : PAuth), authAt l p = some a → ∃ b, authAt k p = some b ∧ b.fee = a.fee ∧ b.notice = a.notice
  rs : ∀ p ∈ t.passages, (rsOf l t p).Sublist (rsOf k s p)
section
variable {l k : List PAuth} {t s : PTrip}
theorem Grow.used (h : Grow l t k s) (n : Nat) (nm : ByteArray) : usedB k s n (idxA k nm) = usedB l t n (idxA l nm) := by
  unfold usedB
  rw [h.pass, h.idx]
  congr 1
  funext p
  rw [h.idx]
theorem Grow.begin (h : Grow l t k s) (h0 : beginE l t = 0) (ha : allE k = 0) (hz : sizesB s = true) : beginE k s = 0 := by
  have hV := valid_of_begin h0
  have ht : tripE s = 0 := by
    rw [tripE_few (by rw [h.pass]; have := hV.plen; omega), h.pass, hz, Bool.true_and, if_pos (List.all_eq_true.2 hV.passes)]
  unfold beginE
  rw [if_pos ha, if_pos ht, h.pass, if_pos]
  rw [List.all_eq_true]
  intro p hp
  unfold foundB
  rw [h.idx]
  exact decide_eq_true (hV.found p hp)
theorem Grow.fee (h : Grow l t k s) (h0 : beginE l t = 0) (h1 : beginE k s = 0) : ∀ n, n ≤ t.passages.length → feeN l t n ≤ feeN k s n
  | 0, _ => Int.le_refl _
  | n + 1, hn => by
    have ih := Grow.fee h h0 h1 n (by omega)
    obtain ⟨p, hp⟩ := some_of_lt (l := t.passages) (k := n) (by omega)
    have hp2 : s.passages[n]? = some p := by rw [h.pass]; exact hp
    obtain ⟨_, x, _, _, _, hx, _⟩ := (valid_of_begin h0).auth hp
    obtain ⟨y, hy, hyf, _⟩ := h.auth p x hx
    have hrs := (rsOf_ok (valid_of_begin h1) hp2).1
    have hc := sum_sub (f := fun r : PRule => r.cost) (h.rs p (mem_of_some hp)) (fun r hr => (ruleB_parts (hrs r hr)).2.1.1)
    simp only [feeN, hp, hp2, hx, hy]
    rw [h.used n p.auth, costs_eq, costs_eq, hyf]
    exact Int.add_le_add ih (Int.add_le_add (Int.le_refl _) hc)
theorem Grow.notice (h : Grow l t k s) (h0 : beginE l t = 0) : ∀ n, n ≤ t.passages.length → noticeN k s n = noticeN l t n
  | 0, _ => rfl
  | n + 1, hn => by
    have ih := Grow.notice h h0 n (by omega)
    obtain ⟨p, hp⟩ := some_of_lt (l := t.passages) (k := n) (by omega)
    have hp2 : s.passages[n]? = some p := by rw [h.pass]; exact hp
    obtain ⟨_, x, _, _, _, hx, _⟩ := (valid_of_begin h0).auth hp
    obtain ⟨y, hy, _, hyn⟩ := h.auth p x hx
    simp only [noticeN, hp, hp2, hx, hy]
    rw [h.used n p.auth, ih, hyn]
theorem Grow.conds (h : Grow l t k s) : ∀ n, n ≤ t.passages.length → (condsN l t n).length ≤ (condsN k s n).length
  | 0, _ => Nat.le_refl _
  | n + 1, hn => by
    have ih := Grow.conds h n (by omega)
    obtain ⟨p, hp⟩ := some_of_lt (l := t.passages) (k := n) (by omega)
    have hp2 : s.passages[n]? = some p := by rw [h.pass]; exact hp
    have h1 := (h.rs p (mem_of_some hp)).length_le
    simp only [condsN, hp, hp2, List.length_append, List.length_map]
    rw [sel_len, sel_len]
    omega
theorem Grow.some (h : Grow l t k s) (h0 : beginE l t = 0) (h1 : beginE k s = 0) (i : Int) : someE k s i = someE l t i := by
  unfold someE
  rw [if_pos h0, if_pos h1, h.pass]
theorem Grow.sub (h : Grow l t k s) (i : Int) : ∀ r ∈ rsAt l t i, r ∈ rsAt k s i := by
  intro r hr
  unfold rsAt at *
  rw [h.pass]
  cases hp : t.passages[i.toNat]? with
  | none => rw [hp] at hr; cases hr
  | some p =>
    rw [hp] at hr
    exact (h.rs p (mem_of_some hp)).subset hr
theorem Grow.allow (h : Grow l t k s) (h0 : beginE l t = 0) (h1 : beginE k s = 0) (i m : Int) : (allowS k s i m).2 = (allowS l t i m).2 ∧ ((allowS k s i m).1 = true → (allowS l t i m).1 = true) := by
  unfold allowS
  rw [h.some h0 h1]
  by_cases hs : someE l t i = 0
  · rw [if_pos hs, if_pos hs]
    by_cases hm : inB m 0 1099511627776 = true
    · rw [if_pos hm, if_pos hm]
      refine ⟨rfl, fun ha => ?_⟩
      simp only at ha ⊢
      unfold allowedB at *
      rw [List.all_eq_true] at *
      exact fun r hr => ha r (h.sub i r hr)
    · rw [if_neg hm, if_neg hm]
      exact ⟨rfl, fun ha => ha⟩
  · rw [if_neg hs, if_neg hs]
    exact ⟨rfl, fun ha => ha⟩
theorem Grow.conf (h : Grow l t k s) (h0 : beginE l t = 0) (h1 : beginE k s = 0) (i : Int) : (conflictS k s i).2.2 = (conflictS l t i).2.2 ∧ ((conflictS l t i).1 ≠ 0 → (conflictS k s i).1 ≠ 0) := by
  have hso := h.some h0 h1 i
  by_cases hs : someE l t i = 0
  · have hs2 : someE k s i = 0 := hso.trans hs
    have hdays : ∀ r ∈ rsAt k s i, 0 ≤ r.days ∧ r.days ≤ 127 := fun r hr => (ruleB_parts ((passOk hs2).rules r hr)).1
    by_cases hk : kindN (rsAt l t i) = 0
    · rw [conflictS_none hs hk]
      refine ⟨?_, fun hn => absurd rfl hn⟩
      by_cases hk2 : kindN (rsAt k s i) = 0
      · rw [conflictS_none hs2 hk2]
      · rw [conflictS_some hs2 hk2]
    · have hk2 : kindN (rsAt k s i) ≠ 0 := fun e => hk (kindN_anti (h.sub i) hdays e)
      rw [conflictS_some hs hk, conflictS_some hs2 hk2]
      refine ⟨rfl, fun _ => ?_⟩
      simp only
      omega
  · have hs2 : someE k s i ≠ 0 := by rw [hso]; exact hs
    rw [conflictS_bad hs, conflictS_bad hs2, hso]
    exact ⟨rfl, fun hn => hn⟩
end

/-! ### one rule more -/
def addR (r : PRule) (a : PAuth) : PAuth := { a with rules := a.rules ++ [r] }
theorem idx_add (r : PRule) (l : List PAuth) (nm : ByteArray) : idxA (l.map (addR r)) nm = idxA l nm := by
  unfold idxA idxL
  rw [List.findIdx?_map]
  rfl
theorem at_add (r : PRule) (l : List PAuth) (p : PPass) : authAt (l.map (addR r)) p = (authAt l p).map (addR r) := by
  unfold authAt
  rw [idx_add, List.getElem?_map]
theorem grow_rule (r : PRule) (l : List PAuth) (t : PTrip) : Grow l t (l.map (addR r)) t where
  pass := rfl
  idx := idx_add r l
  auth := fun p a h => ⟨addR r a, by rw [at_add, h]; rfl, rfl, rfl⟩
  rs := fun p _ => by
    rw [rsOf_eq, rsOf_eq]
    unfold rulesOf
    rw [at_add]
    cases authAt l p with
    | none => exact List.Sublist.refl _
    | some a =>
      simp only [Option.map_some, addR, List.filter_append]
      exact List.sublist_append_left _ _

/-! ### greater sizes -/
def moreZ (z m : Int) : Int := min 1073741824 (z + m)
def moreT (t : PTrip) (m0 m1 m2 m3 m4 m5 : Int) : PTrip := { t with z0 := moreZ t.z0 m0, z1 := moreZ t.z1 m1, z2 := moreZ t.z2 m2, z3 := moreZ t.z3 m3, z4 := moreZ t.z4 m4, z5 := moreZ t.z5 m5 }
theorem zAt_more {t : PTrip} {m0 m1 m2 m3 m4 m5 : Int} (hz : sizesB t = true) (h0 : 0 ≤ m0) (h1 : 0 ≤ m1) (h2 : 0 ≤ m2) (h3 : 0 ≤ m3) (h4 : 0 ≤ m4) (h5 : 0 ≤ m5) (i : Int) : zAt t i ≤ zAt (moreT t m0 m1 m2 m3 m4 m5) i := by
  unfold sizesB at hz
  simp only [Bool.and_eq_true, inB_iff] at hz
  obtain ⟨⟨⟨⟨⟨a0, a1⟩, a2⟩, a3⟩, a4⟩, a5⟩ := hz
  unfold zAt zs moreT moreZ
  generalize i.toNat = n
  rcases (show n = 0 ∨ n = 1 ∨ n = 2 ∨ n = 3 ∨ n = 4 ∨ n = 5 ∨ 6 ≤ n by omega) with rfl | rfl | rfl | rfl | rfl | rfl | hn
  · simp only [List.getD_cons_zero]; omega
  · simp only [List.getD_cons_zero, List.getD_cons_succ]; omega
  · simp only [List.getD_cons_zero, List.getD_cons_succ]; omega
  · simp only [List.getD_cons_zero, List.getD_cons_succ]; omega
  · simp only [List.getD_cons_zero, List.getD_cons_succ]; omega
  · simp only [List.getD_cons_zero, List.getD_cons_succ]; omega
  · rw [List.getD_eq_getElem?_getD, List.getD_eq_getElem?_getD, List.getElem?_eq_none (by simp; omega), List.getElem?_eq_none (by simp; omega)]; exact Int.le_refl _
theorem sizes_more {t : PTrip} {m0 m1 m2 m3 m4 m5 : Int} (hz : sizesB t = true) (h0 : 0 ≤ m0) (h1 : 0 ≤ m1) (h2 : 0 ≤ m2) (h3 : 0 ≤ m3) (h4 : 0 ≤ m4) (h5 : 0 ≤ m5) : sizesB (moreT t m0 m1 m2 m3 m4 m5) = true := by
  unfold sizesB at *
  simp only [Bool.and_eq_true, inB_iff] at *
  obtain ⟨⟨⟨⟨⟨a0, a1⟩, a2⟩, a3⟩, a4⟩, a5⟩ := hz
  unfold moreT moreZ
  simp only
  omega
theorem grow_size {l : List PAuth} {t : PTrip} {m0 m1 m2 m3 m4 m5 : Int} (hz : sizesB t = true) (h0 : 0 ≤ m0) (h1 : 0 ≤ m1) (h2 : 0 ≤ m2) (h3 : 0 ≤ m3) (h4 : 0 ≤ m4) (h5 : 0 ≤ m5) : Grow l t l (moreT t m0 m1 m2 m3 m4 m5) where
  pass := rfl
  idx := fun _ => rfl
  auth := fun p a h => ⟨a, h, rfl, rfl⟩
  rs := fun p _ => by
    rw [rsOf_eq, rsOf_eq]
    refine filter_sub (fun r _ hf => ?_)
    unfold forB at *
    rw [Bool.and_eq_true] at *
    refine ⟨hf.1, ?_⟩
    have h6 := hf.2
    rw [Bool.not_eq_true', List.any_eq_false] at *
    intro w hw hu
    refine h6 w hw ?_
    unfold underB at *
    rw [decide_eq_true_eq] at *
    have := zAt_more hz h0 h1 h2 h3 h4 h5 w.size
    omega
end Go.Proofs.Ytaomlmkcifpfkaa
