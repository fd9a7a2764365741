/- PKindAll: several texts in one. -/
import Derived.Test.YtaomlmkcifpfkaaPSetAll
import Derived.Test.YtaomlmkcifpfkaaPOf2
import Derived.Deep.DeepCutAuto
/- Conflicts, plainly: the program drops conditions from the end, the definition marks them. -/
namespace Go.Proofs.Ytaomlmkcifpfkaa

section
variable {α β : Type}
/-- those that are kept -/
def chosenL : List α → List Bool → List α
  | x :: l, b :: k => if b = true then x :: chosenL l k else chosenL l k
  | _, _ => []
theorem chosenL_set : ∀ (l : List α) (k : List Bool) (i : Nat), l.length = k.length → i < k.length → (∀ j, j ≤ i → k[j]? = some true) → chosenL l (k.set i false) = (chosenL l k).eraseIdx i
  | [], [], i, _, h, _ => by simp at h
  | x :: l, b :: k, 0, hl, h, hk => by
    have hb : b = true := by simpa using hk 0 (Nat.le_refl _)
    subst hb
    simp [chosenL]
  | x :: l, b :: k, i + 1, hl, h, hk => by
    have hb : b = true := by simpa using hk 0 (by omega)
    subst hb
    have ih := chosenL_set l k i (by simpa using hl) (by simpa using h) (fun j hj => by simpa using hk (j + 1) (by omega))
    simp [chosenL, ih]
theorem chosenL_all : ∀ (l : List α), chosenL l (List.replicate l.length true) = l
  | [] => rfl
  | x :: l => by simp [chosenL, List.replicate_succ, chosenL_all l]
theorem chosenL_len : ∀ (l : List α) (k : List Bool), (chosenL l k).length ≤ l.length
  | [], _ => by simp [chosenL]
  | _ :: _, [] => by simp [chosenL]
  | x :: l, b :: k => by
    have := chosenL_len l k
    simp only [chosenL]; split <;> simp <;> omega
theorem chosenL_long : ∀ (l : List α) (k : List Bool) (i : Nat), l.length = k.length → (∀ j, j < i → k[j]? = some true) → i ≤ (chosenL l k).length
  | _, _, 0, _, _ => by omega
  | [], [], i + 1, _, h => by have := h 0 (by omega); simp at this
  | x :: l, b :: k, i + 1, hl, hk => by
    have hb : b = true := by simpa using hk 0 (by omega)
    subst hb
    have ih := chosenL_long l k i (by simpa using hl) (fun j hj => by simpa using hk (j + 1) (by omega))
    simp [chosenL]; omega
theorem chosenL_mem : ∀ (l : List α) (k : List Bool) (x : α), x ∈ chosenL l k → x ∈ l
  | [], _, x, h => by simp [chosenL] at h
  | _ :: _, [], x, h => by simp [chosenL] at h
  | y :: l, b :: k, x, h => by
    simp only [chosenL] at h
    split at h
    · rcases List.mem_cons.1 h with rfl | h
      · exact List.mem_cons_self
      · exact List.mem_cons_of_mem _ (chosenL_mem l k x h)
    · exact List.mem_cons_of_mem _ (chosenL_mem l k x h)
theorem chosenL_snoc : ∀ (l : List α) (k : List Bool) (i : Nat) (x : α) (b : Bool), l[i]? = some x → k[i]? = some b → chosenL (l.take (i + 1)) (k.take (i + 1)) = chosenL (l.take i) (k.take i) ++ if b = true then [x] else []
  | [], _, i, x, b, h, _ => by simp at h
  | _ :: _, [], i, x, b, _, h => by simp at h
  | y :: l, c :: k, 0, x, b, h1, h2 => by
    simp only [List.getElem?_cons_zero, Option.some.injEq] at h1 h2
    subst h1 h2
    cases c <;> simp [chosenL]
  | y :: l, c :: k, i + 1, x, b, h1, h2 => by
    have ih := chosenL_snoc l k i x b (by simpa using h1) (by simpa using h2)
    simp only [List.take_succ_cons, chosenL]
    rw [ih]
    cases c <;> simp

/-- the program's way: from the end, what still contradicts without it is dropped -/
def dropP (f : List α → Bool) : Nat → List α × List β → List α × List β
  | 0, s => s
  | i + 1, s => dropP f i (if f (s.1.eraseIdx i) = true then (s.1.eraseIdx i, s.2.eraseIdx i) else s)
/-- the definition's way -/
def keepR (f : List α → Bool) (l : List α) : Nat → List Bool → List Bool
  | 0, k => k
  | i + 1, k => keepR f l i (if f (chosenL l (k.set i false)) = true then k.set i false else k)
theorem keepR_len (f : List α → Bool) (l : List α) : ∀ (i : Nat) (k : List Bool), (keepR f l i k).length = k.length
  | 0, k => rfl
  | i + 1, k => by
    simp only [keepR]
    rw [keepR_len f l i]
    split <;> simp
theorem drop_keep (f : List α → Bool) (l : List α) (ns : List β) : ∀ (i : Nat) (k : List Bool), l.length = k.length → ns.length = k.length → i ≤ k.length → (∀ j, j < i → k[j]? = some true) →
    dropP f i (chosenL l k, chosenL ns k) = (chosenL l (keepR f l i k), chosenL ns (keepR f l i k))
  | 0, k, _, _, _, _ => rfl
  | i + 1, k, h1, h2, h3, h4 => by
    have e1 := chosenL_set l k i h1 (by omega) (fun j hj => h4 j (by omega))
    have e2 := chosenL_set ns k i h2 (by omega) (fun j hj => h4 j (by omega))
    simp only [dropP, keepR]
    rw [← e1, ← e2]
    by_cases hf : f (chosenL l (k.set i false)) = true
    · rw [if_pos hf, if_pos hf]
      refine drop_keep f l ns i _ (by simpa using h1) (by simpa using h2) (by simp; omega) (fun j hj => ?_)
      rw [List.getElem?_set_ne (by omega)]
      exact h4 j (by omega)
    · rw [if_neg hf, if_neg hf]
      exact drop_keep f l ns i k h1 h2 (by omega) (fun j hj => h4 j (by omega))
/-- both ways keep the same -/
theorem drop_all (f : List α → Bool) (l : List α) (ns : List β) (h : ns.length = l.length) :
    dropP f l.length (l, ns) = (chosenL l (keepR f l l.length (List.replicate l.length true)), chosenL ns (keepR f l l.length (List.replicate l.length true))) := by
  have := drop_keep f l ns l.length (List.replicate l.length true) (by simp) (by simp [h]) (by simp) (fun j hj => by simp [hj])
  rw [chosenL_all] at this
  have h2 := chosenL_all ns
  rw [h] at h2
  rw [h2] at this
  exact this
end
end Go.Proofs.Ytaomlmkcifpfkaa
/- What contradicts, plainly: the things of rules, the kinds, the least kind. -/
namespace Go.Proofs.Ytaomlmkcifpfkaa

def thStep (o : List ByteArray) (c : PCount) : List ByteArray := if (o.any fun t => decide (c.thing = t)) = true then o else o ++ [c.thing]
def thRule (o : List ByteArray) (r : PRule) : List ByteArray := r.counts.foldl thStep o
def thingsL (rs : List PRule) : List ByteArray := rs.foldl thRule []
theorem thRule_succ {o : List ByteArray} {l : List PCount} {k : Nat} {x : PCount} (h : l[k]? = some x) : (l.take (k + 1)).foldl thStep o = thStep ((l.take k).foldl thStep o) x := by
  rw [List.take_add_one, h]
  simp
theorem thingsL_succ {l : List PRule} {k : Nat} {x : PRule} (h : l[k]? = some x) : thingsL (l.take (k + 1)) = thRule (thingsL (l.take k)) x := by
  unfold thingsL
  rw [List.take_add_one, h]
  simp
theorem thStep_len (o : List ByteArray) (c : PCount) : (thStep o c).length ≤ o.length + 1 := by
  unfold thStep; split <;> simp
theorem thFold_len : ∀ (l : List PCount) (o : List ByteArray), (l.foldl thStep o).length ≤ o.length + l.length
  | [], o => by simp
  | c :: l, o => by
    have h1 := thFold_len l (thStep o c)
    have h2 := thStep_len o c
    simp only [List.foldl_cons, List.length_cons]; omega
theorem thRule_len (o : List ByteArray) (r : PRule) (h : r.counts.length ≤ 6) : (thRule o r).length ≤ o.length + 6 := by
  have := thFold_len r.counts o
  unfold thRule; omega
theorem thFoldR_len : ∀ (l : List PRule) (o : List ByteArray), (∀ r ∈ l, r.counts.length ≤ 6) → (l.foldl thRule o).length ≤ o.length + 6 * l.length
  | [], o, _ => by simp
  | r :: l, o, h => by
    have h1 := thFoldR_len l (thRule o r) (fun r hr => h r (List.mem_cons_of_mem _ hr))
    have h2 := thRule_len o r (h r List.mem_cons_self)
    simp only [List.foldl_cons, List.length_cons]; omega
theorem thingsL_len (l : List PRule) (h : ∀ r ∈ l, r.counts.length ≤ 6) : (thingsL l).length ≤ 6 * l.length := by
  have := thFoldR_len l [] h
  simpa [thingsL] using this

def hoursSel (r : PRule) : Int × Int := (r.h0, r.h1)
def seasonSel (r : PRule) : Int × Int := (r.s0, r.s1)
/-- rules contradict each other, of a kind -/
def ofB (rs : List PRule) (ts : List ByteArray) : Nat → Bool
  | 0 => false
  | 1 => rs.any fun r => r.forbid
  | 2 => emptyB rs 1440 hoursSel
  | 3 => daysN rs == 0
  | 4 => emptyB rs 365 seasonSel
  | k + 5 => match ts[k]? with | some nm => thingB rs nm | none => false
/-- the first of n numbers from k on for which f holds; 0: there is none -/
def kindF (f : Nat → Bool) : Nat → Nat → Nat
  | 0, _ => 0
  | n + 1, k => if f k = true then k else kindF f n (k + 1)
def kindN (rs : List PRule) : Nat := kindF (ofB rs (thingsL rs)) (4 + (thingsL rs).length) 1
theorem kindF_spec (f : Nat → Bool) : ∀ (n k : Nat), kindF f n k ≠ 0 → k ≤ kindF f n k ∧ kindF f n k < k + n ∧ f (kindF f n k) = true ∧ ∀ j, k ≤ j → j < kindF f n k → f j = false
  | 0, k, h => absurd rfl h
  | n + 1, k, h => by
    simp only [kindF] at h ⊢
    by_cases hf : f k = true
    · rw [if_pos hf]
      exact ⟨Nat.le_refl _, by omega, hf, fun j h1 h2 => by omega⟩
    · rw [if_neg hf] at h ⊢
      obtain ⟨h1, h2, h3, h4⟩ := kindF_spec f n (k + 1) h
      refine ⟨by omega, by omega, h3, fun j h5 h6 => ?_⟩
      by_cases he : j = k
      · subst he; simpa using hf
      · exact h4 j (by omega) h6
theorem kindF_none (f : Nat → Bool) : ∀ (n k : Nat), 1 ≤ k → kindF f n k = 0 → ∀ j, k ≤ j → j < k + n → f j = false
  | 0, k, _, h, j, h1, h2 => by omega
  | n + 1, k, hk, h, j, h1, h2 => by
    simp only [kindF] at h
    by_cases hf : f k = true
    · rw [if_pos hf] at h; omega
    · rw [if_neg hf] at h
      by_cases he : j = k
      · subst he; simpa using hf
      · exact kindF_none f n (k + 1) (by omega) h j (by omega) (by omega)
theorem kindF_zero (f : Nat → Bool) : ∀ (n k : Nat), 1 ≤ k → (∀ j, k ≤ j → j < k + n → f j = false) → kindF f n k = 0
  | 0, k, _, _ => rfl
  | n + 1, k, hk, h => by
    simp only [kindF]
    rw [if_neg (by rw [h k (by omega) (by omega)]; simp)]
    exact kindF_zero f n (k + 1) (by omega) (fun j h1 h2 => h j (by omega) (by omega))
theorem kindN_lt (rs : List PRule) : kindN rs < 5 + (thingsL rs).length := by
  by_cases h : kindN rs = 0
  · omega
  · have := (kindF_spec _ _ _ h).2.1
    unfold kindN
    omega
end Go.Proofs.Ytaomlmkcifpfkaa
/- Contracts: the things of rules. -/
namespace Go.Proofs.Ytaomlmkcifpfkaa
open Go.RowKit

theorem infoStr : (Try.prog.info? 9).map (fun i => (i.zero, i.size, i.bytes)) = some (some (.string ⟨#[]⟩), 1, 16) := by kernel_rfl
theorem thStep_yes {o : List ByteArray} {c : PCount} (h : (o.any fun t => decide (c.thing = t)) = true) : thStep o c = o := by
  unfold thStep; rw [if_pos h]
theorem thStep_no {o : List ByteArray} {c : PCount} (h : (o.any fun t => decide (c.thing = t)) = false) : thStep o c = o ++ [c.thing] := by
  unfold thStep; rw [if_neg (by rw [h]; simp)]

set_option maxRecDepth 100000 in
set_option maxHeartbeats 3200000 in
theorem things_c (v : Value) (l : List PRule) (w : World) (hs : Sl 11 RRule w v l) (hlen : l.length ≤ 1000) (hcl : ∀ r ∈ l, r.counts.length ≤ 6) :
    Calls Try.prog 61 #[v] w fun e w' => ∃ v', e = .returned v' ∧ OwnL 1 9 RStr w.heap.size w' v' (thingsL l) ∧ Ext w w' := by
  obtain ⟨i1, hi1, hi10, hi11, hi12⟩ := info_parts infoStr
  obtain ⟨A, cap, rfl, hl, hl2⟩ := hs.shape
  have HS := Lib.hid hs
  have HCL := Lib.hid hcl
  clear hs hcl
  go_enter Try.func61, Try.ntmps61
  go_wp2_with fail
  go_loopw [2, 9] (fun o i wr => ∃ (k : Nat) (vo : Value), k ≤ l.length ∧ i = .int .i64 k ∧ o = vo ∧ OwnL 1 9 RStr w.heap.size wr vo (thingsL (l.take k)) ∧ (thingsL (l.take k)).length ≤ 6 * k ∧ Ext w wr) (fun _ i _ => l.length - (intOf i).toNat)
  case atStart => exact ⟨0, _, by omega, rfl, rfl, OwnL.nil, by simp [thingsL], Ext.refl _⟩
  case round =>
    obtain ⟨k, vo, hk, rfl, rfl, hown, hol, hb⟩ := hrel
    have HO := Lib.hid hown
    clear hown
    by_cases hlt : k < l.length
    · obtain ⟨x, hx⟩ := some_of_lt hlt
      obtain ⟨b, off, cs, rfl, hn, ⟨vr, vw, vc, rfl, hr⟩, hc⟩ := HS.out.at hx
      obtain ⟨hr1, hw1, hc1⟩ := hr
      obtain ⟨Ar, cr, rfl, lr, lr2⟩ := hr1.shape
      obtain ⟨Aw, cw, rfl, lw, lw2⟩ := hw1.shape
      obtain ⟨Ac, cc, rfl, lc, lc2⟩ := hc1.shape
      have k0 := Ext.cell hb (hc 0 _ rfl)
      have k1 := Ext.cell hb (hc 1 _ rfl)
      have k2 := Ext.cell hb (hc 2 _ rfl)
      have k3 := Ext.cell hb (hc 3 _ rfl)
      have k4 := Ext.cell hb (hc 4 _ rfl)
      have k5 := Ext.cell hb (hc 5 _ rfl)
      have k6 := Ext.cell hb (hc 6 _ rfl)
      have k7 := Ext.cell hb (hc 7 _ rfl)
      have k8 := Ext.cell hb (hc 8 _ rfl)
      have k9 := Ext.cell hb (hc 9 _ rfl)
      have k10 := Ext.cell hb (hc 10 _ rfl)
      simp only [Nat.add_zero] at k0
      have HN := Lib.hid (thingsL_succ hx)
      have h6 := HCL.out x (mem_of_some hx)
      have hfl := Lib.hid (fun j => thFold_len (x.counts.take j) (thingsL (l.take k)))
      have HC := Lib.hid hc1
      clear hc hn hx hr1 hw1 hc1
      generalize thingsL (l.take k) = D at *
      go_wp2_with fail
      have hE1 : Ext w (wr.alloc (.cells #[.string x.name, .slice Ar x.roads.length cr, .slice Aw x.whens.length cw, .int .i64 x.h0, .int .i64 x.h1, .int .i64 x.days, .int .i64 x.s0, .int .i64 x.s1, .bool x.forbid, .slice Ac x.counts.length cc, .int .i64 x.cost] 58)) := by (repeat' (first | exact Ext.refl _ | assumption | refine Ext.alloc ?_ _ | refine Ext.drew ?_ | refine Ext.drewN ?_ _ | refine Ext.set ?_ (by first | exact Nat.le_refl _ | exact le1 _ | exact le2 _ | exact le3 _ | exact le4 _ | exact le5 _ | exact le6 _) _ | refine Ext.trans ?_ (by assumption)))
      have hE2 : Ext wr (wr.alloc (.cells #[.string x.name, .slice Ar x.roads.length cr, .slice Aw x.whens.length cw, .int .i64 x.h0, .int .i64 x.h1, .int .i64 x.days, .int .i64 x.s0, .int .i64 x.s1, .bool x.forbid, .slice Ac x.counts.length cc, .int .i64 x.cost] 58)) := by (repeat' (first | exact Ext.refl _ | assumption | refine Ext.alloc ?_ _ | refine Ext.drew ?_ | refine Ext.drewN ?_ _ | refine Ext.set ?_ (by first | exact Nat.le_refl _ | exact le1 _ | exact le2 _ | exact le3 _ | exact le4 _ | exact le5 _ | exact le6 _) _ | refine Ext.trans ?_ (by assumption)))
      have HO1 := HO.out.ext RStr.stable hE2
      generalize wr.alloc (.cells #[.string x.name, .slice Ar x.roads.length cr, .slice Aw x.whens.length cw, .int .i64 x.h0, .int .i64 x.h1, .int .i64 x.days, .int .i64 x.s0, .int .i64 x.s1, .bool x.forbid, .slice Ac x.counts.length cc, .int .i64 x.cost] 58) = W1 at *
      replace HO1 := Lib.hid HO1
      clear k0 k1 k2 k3 k4 k5 k6 k7 k8 k9 k10 HO hE2
      go_loopw [2, 16] (fun o i ws => ∃ (j : Nat) (vo : Value), j ≤ x.counts.length ∧ i = .int .i64 j ∧ o = vo ∧ OwnL 1 9 RStr w.heap.size ws vo ((x.counts.take j).foldl thStep D) ∧ Ext w ws) (fun _ i _ => x.counts.length - (intOf i).toNat)
      case atStart => exact ⟨0, _, by omega, rfl, rfl, by simpa using HO1.out, hE1⟩
      case round =>
        obtain ⟨j, vo, hj, rfl, rfl, hown, hbw⟩ := hrel
        have HO := Lib.hid hown
        clear hown
        by_cases hltj : j < x.counts.length
        · obtain ⟨c, hcx⟩ := some_of_lt hltj
          obtain ⟨b2, off2, cs2, rfl, hn2, rfl, hc2⟩ := (HC.out.ext RCount.stable hbw).at hcx
          have q0 := hc2 0 _ rfl
          have q1 := hc2 1 _ rfl
          have q2 := hc2 2 _ rfl
          simp only [Nat.add_zero] at q0
          have HN2 := Lib.hid (thRule_succ (o := D) hcx)
          have hfj := hfl.out j
          rw [List.length_take] at hfj
          clear hc2 hn2 hcx
          generalize (x.counts.take j).foldl thStep D = E at *
          have C := fun w' (h : Ext wr w') => ContainsStr_c c.thing u2 E w' (HO.out.ext RStr.stable h).sl
          cases hin : (E.any fun t => decide (c.thing = t))
          · rw [hin] at C
            have HI := Lib.hid hin
            replace C := Lib.hid C
            clear hin
            go_upto_region 8 with (go_at_call 92; refine (C.out _ (by (repeat' (first | exact Ext.refl _ | assumption | refine Ext.alloc ?_ _ | refine Ext.drew ?_ | refine Ext.drewN ?_ _ | refine Ext.set ?_ (by first | exact Nat.le_refl _ | exact le1 _ | exact le2 _ | exact le3 _ | exact le4 _ | exact le5 _ | exact le6 _) _ | refine Ext.trans ?_ (by assumption))))).mono ?_; rintro e w2 ⟨rfl, rfl⟩)
            obtain ⟨css, hcs, hown, hcx⟩ := HO.out.ext RStr.stable ((Ext.refl wr).alloc (.cells #[.string c.thing, .int .i64 c.least, .int .i64 c.most] 122))
            have HCX := Lib.hid hcx
            have hown := hown
            have f0 : (wr.alloc (.cells #[.string c.thing, .int .i64 c.least, .int .i64 c.most] 122)).cell? ⟨wr.heap.size, 0, none⟩ = some (.string c.thing) := World.cell?_alloc_new _ _ _ _
            have E2 : Ext w (wr.alloc (.cells #[.string c.thing, .int .i64 c.least, .int .i64 c.most] 122)) := hbw.alloc _
            generalize wr.alloc (.cells #[.string c.thing, .int .i64 c.least, .int .i64 c.most] 122) = W2 at *
            have hz2 := E2.size
            go_wp2_with (at_builtin; refine wpList_append_lies _ rfl _ _ 51 rfl (w.heap.size) 9 i1 _ 1 16 Try.underlying51 hi1 hi10 hi11 hi12 rfl (by omega) (u2) (E.length) (css).flatten rfl ((hown).alloc _) ⟨W2.heap.size, 0, none⟩ 1 1 [.string c.thing] rfl rfl (World.news_of_block (cs := #[.string c.thing]) (t := 9) (fr := (0, 0)) (heap_alloc_new W2 _)) (by simp [Value.oneCell']) (by omega) (by unfold maxLen; omega) (by omega) (by simp; omega) (W2.heap.size + 1) (by simp) ?_; intro g cap4 w4 hown4 hgrow4 hat4 hlt4)
            have E4 : Ext w w4 := Ext.grown (E2.alloc _) hgrow4 (fun j hj => own_ge hown j hj)
            have hO4 := OwnL.snoc (R := RStr) (w' := w4) (x := c.thing) hcs HCX.out hown4 rfl rfl
            have HO4 := Lib.hid hO4
            clear hO4 hown hown4 hgrow4 hat4 hlt4 hcs HCX
            go_roundw
            case rel => exact ⟨j + 1, _, by omega, by go_num, rfl, by rw [HN2.out, thStep_no HI.out]; exact HO4.out, E4⟩
            case measure => simp [intOf]; omega
          · rw [hin] at C
            have HI := Lib.hid hin
            replace C := Lib.hid C
            clear hin
            go_wp2_with (go_at_call 92; refine (C.out _ (by (repeat' (first | exact Ext.refl _ | assumption | refine Ext.alloc ?_ _ | refine Ext.drew ?_ | refine Ext.drewN ?_ _ | refine Ext.set ?_ (by first | exact Nat.le_refl _ | exact le1 _ | exact le2 _ | exact le3 _ | exact le4 _ | exact le5 _ | exact le6 _) _ | refine Ext.trans ?_ (by assumption))))).mono ?_; rintro e w2 ⟨rfl, rfl⟩)
            go_roundw
            case rel => exact ⟨j + 1, _, by omega, by go_num, rfl, by rw [HN2.out, thStep_yes HI.out]; exact HO.out.ext RStr.stable (by (repeat' (first | exact Ext.refl _ | assumption | refine Ext.alloc ?_ _ | refine Ext.drew ?_ | refine Ext.drewN ?_ _ | refine Ext.set ?_ (by first | exact Nat.le_refl _ | exact le1 _ | exact le2 _ | exact le3 _ | exact le4 _ | exact le5 _ | exact le6 _) _ | refine Ext.trans ?_ (by assumption)))), by (repeat' (first | exact Ext.refl _ | assumption | refine Ext.alloc ?_ _ | refine Ext.drew ?_ | refine Ext.drewN ?_ _ | refine Ext.set ?_ (by first | exact Nat.le_refl _ | exact le1 _ | exact le2 _ | exact le3 _ | exact le4 _ | exact le5 _ | exact le6 _) _ | refine Ext.trans ?_ (by assumption)))⟩
            case measure => simp [intOf]; omega
        · obtain rfl : j = x.counts.length := by omega
          have hfj := hfl.out x.counts.length
          rw [List.take_length] at hfj
          rw [List.take_length] at HO
          go_wp2_with fail
          go_roundw
          case rel => exact ⟨k + 1, _, by omega, by go_num, rfl, by rw [HN.out]; exact HO.out, by rw [HN.out]; unfold thRule; omega, hbw⟩
          case measure => simp [intOf]; omega
    · obtain rfl : k = l.length := by omega
      rw [List.take_length] at HO
      go_wp2
      go_ret
      exact ⟨_, rfl, HO.out, hb⟩
end Go.Proofs.Ytaomlmkcifpfkaa
/- Contracts: set.of and set.kind. -/
namespace Go.Proofs.Ytaomlmkcifpfkaa
open Go.RowKit

theorem selok_hours {l : List PRule} (h : ∀ r ∈ l, ruleB r = true) : SelOk l hoursSel := fun r hr => by
  have := ruleB_parts (h r hr)
  unfold hoursSel; simp only; omega
theorem selok_season {l : List PRule} (h : ∀ r ∈ l, ruleB r = true) : SelOk l seasonSel := fun r hr => by
  have := ruleB_parts (h r hr)
  unfold seasonSel; simp only; omega
set_option maxRecDepth 100000 in
set_option maxHeartbeats 1600000 in
theorem of_c (v vt : Value) (l : List PRule) (ts : List ByteArray) (k : Nat) (w : World) (hs : Sl 11 RRule w v l) (ht : Sl 1 RStr w vt ts) (hv : ∀ r ∈ l, ruleB r = true) (hk1 : 1 ≤ k) (hk2 : k < 5 + ts.length) :
    Calls Try.prog 66 #[v, .int .i64 k, vt] w fun e w' => e = .returned (.bool (ofB l ts k)) ∧ Ext w w' := by
  have C1 := fun w' (h : Ext w w') => forbid_c v l w' (hs.ext RRule.stable h)
  have C2 := fun w' (h : Ext w w') => hours_c v l w' (hs.ext RRule.stable h) (selok_hours hv)
  have C3 := fun w' (h : Ext w w') => days_c v l w' (hs.ext RRule.stable h)
  have C4 := fun w' (h : Ext w w') => season_c v l w' (hs.ext RRule.stable h) (selok_season hv)
  have C5 := fun nm w' (h : Ext w w') => thing_c nm v l w' (hs.ext RRule.stable h)
  obtain ⟨A, cap, rfl, hl, hl2⟩ := hs.shape
  obtain ⟨At, capt, rfl, htl, htl2⟩ := ht.shape
  have hst0 : ∀ a m W, (store a .nilFunc m).run Try.prog W = stored Try.prog W a .nilFunc m := fun a m W => run_store Try.prog W a _ m rfl
  have hst1 : ∀ f g e a m W, (store a (.func f g e) m).run Try.prog W = stored Try.prog W a (.func f g e) m := fun f g e a m W => run_store Try.prog W a _ m rfl
  match k, hk1 with
  | 1, _ =>
    rw [show ofB l ts 1 = (l.any fun r => r.forbid) from rfl]
    replace C1 : ∀ w', Ext w w' → Calls Try.prog 93 #[.slice A l.length cap] w' fun e w'' => e = .returned (.bool (l.any fun r => r.forbid)) ∧ Ext w' w'' := C1
    generalize (l.any fun r => r.forbid) = q at *
    replace C1 := Lib.hid C1
    clear C2 C3 C4 C5 hs ht hv
    go_enter Try.func66, Try.ntmps66
    go_wp2_with (go_at_call 93; refine (C1.out _ (by (repeat' (first | exact Ext.refl _ | assumption | refine Ext.alloc ?_ _ | refine Ext.drew ?_ | refine Ext.drewN ?_ _ | refine Ext.set ?_ (by first | exact Nat.le_refl _ | exact le1 _ | exact le2 _ | exact le3 _ | exact le4 _ | exact le5 _ | exact le6 _) _ | refine Ext.trans ?_ (by assumption))))).mono ?_; rintro e w2 ⟨rfl, hb2⟩)
    go_ret
    exact ⟨rfl, by (repeat' (first | exact Ext.refl _ | assumption | refine Ext.alloc ?_ _ | refine Ext.drew ?_ | refine Ext.drewN ?_ _ | refine Ext.set ?_ (by first | exact Nat.le_refl _ | exact le1 _ | exact le2 _ | exact le3 _ | exact le4 _ | exact le5 _ | exact le6 _) _ | refine Ext.trans ?_ (by assumption)))⟩
  | 2, _ =>
    rw [show ofB l ts 2 = (emptyB l 1440 hoursSel) from rfl]
    replace C2 : ∀ w', Ext w w' → Calls Try.prog 94 #[.slice A l.length cap] w' fun e w'' => e = .returned (.bool (emptyB l 1440 hoursSel)) ∧ Ext w' w'' := C2
    generalize (emptyB l 1440 hoursSel) = q at *
    replace C2 := Lib.hid C2
    clear C1 C3 C4 C5 hs ht hv
    go_enter Try.func66, Try.ntmps66
    go_wp2_with (go_at_call 94; refine (C2.out _ (by (repeat' (first | exact Ext.refl _ | assumption | refine Ext.alloc ?_ _ | refine Ext.drew ?_ | refine Ext.drewN ?_ _ | refine Ext.set ?_ (by first | exact Nat.le_refl _ | exact le1 _ | exact le2 _ | exact le3 _ | exact le4 _ | exact le5 _ | exact le6 _) _ | refine Ext.trans ?_ (by assumption))))).mono ?_; rintro e w2 ⟨rfl, hb2⟩)
    go_ret
    exact ⟨rfl, by (repeat' (first | exact Ext.refl _ | assumption | refine Ext.alloc ?_ _ | refine Ext.drew ?_ | refine Ext.drewN ?_ _ | refine Ext.set ?_ (by first | exact Nat.le_refl _ | exact le1 _ | exact le2 _ | exact le3 _ | exact le4 _ | exact le5 _ | exact le6 _) _ | refine Ext.trans ?_ (by assumption)))⟩
  | 3, _ =>
    rw [show ofB l ts 3 = (daysN l == 0) from rfl]
    replace C3 : ∀ w', Ext w w' → Calls Try.prog 95 #[.slice A l.length cap] w' fun e w'' => e = .returned (.bool (daysN l == 0)) ∧ Ext w' w'' := C3
    generalize (daysN l == 0) = q at *
    replace C3 := Lib.hid C3
    clear C1 C2 C4 C5 hs ht hv
    go_enter Try.func66, Try.ntmps66
    go_wp2_with (go_at_call 95; refine (C3.out _ (by (repeat' (first | exact Ext.refl _ | assumption | refine Ext.alloc ?_ _ | refine Ext.drew ?_ | refine Ext.drewN ?_ _ | refine Ext.set ?_ (by first | exact Nat.le_refl _ | exact le1 _ | exact le2 _ | exact le3 _ | exact le4 _ | exact le5 _ | exact le6 _) _ | refine Ext.trans ?_ (by assumption))))).mono ?_; rintro e w2 ⟨rfl, hb2⟩)
    go_ret
    exact ⟨rfl, by (repeat' (first | exact Ext.refl _ | assumption | refine Ext.alloc ?_ _ | refine Ext.drew ?_ | refine Ext.drewN ?_ _ | refine Ext.set ?_ (by first | exact Nat.le_refl _ | exact le1 _ | exact le2 _ | exact le3 _ | exact le4 _ | exact le5 _ | exact le6 _) _ | refine Ext.trans ?_ (by assumption)))⟩
  | 4, _ =>
    rw [show ofB l ts 4 = (emptyB l 365 seasonSel) from rfl]
    replace C4 : ∀ w', Ext w w' → Calls Try.prog 96 #[.slice A l.length cap] w' fun e w'' => e = .returned (.bool (emptyB l 365 seasonSel)) ∧ Ext w' w'' := C4
    generalize (emptyB l 365 seasonSel) = q at *
    replace C4 := Lib.hid C4
    clear C1 C2 C3 C5 hs ht hv
    go_enter Try.func66, Try.ntmps66
    go_wp2_with (go_at_call 96; refine (C4.out _ (by (repeat' (first | exact Ext.refl _ | assumption | refine Ext.alloc ?_ _ | refine Ext.drew ?_ | refine Ext.drewN ?_ _ | refine Ext.set ?_ (by first | exact Nat.le_refl _ | exact le1 _ | exact le2 _ | exact le3 _ | exact le4 _ | exact le5 _ | exact le6 _) _ | refine Ext.trans ?_ (by assumption))))).mono ?_; rintro e w2 ⟨rfl, hb2⟩)
    go_ret
    exact ⟨rfl, by (repeat' (first | exact Ext.refl _ | assumption | refine Ext.alloc ?_ _ | refine Ext.drew ?_ | refine Ext.drewN ?_ _ | refine Ext.set ?_ (by first | exact Nat.le_refl _ | exact le1 _ | exact le2 _ | exact le3 _ | exact le4 _ | exact le5 _ | exact le6 _) _ | refine Ext.trans ?_ (by assumption)))⟩
  | j + 5, _ =>
    obtain ⟨x, hx⟩ := some_of_lt (l := ts) (k := j) (by omega)
    obtain ⟨b, off, cs, rfl, hn, rfl, hc⟩ := ht.at hx
    rw [show ofB l ts (j + 5) = thingB l x by simp only [ofB, hx]]
    have c0 := hc 0 _ rfl
    replace C5 := C5 x
    generalize thingB l x = q at *
    replace C5 := Lib.hid C5
    clear C1 C2 C3 C4 hs ht hv hc hn
    simp only [Nat.mul_one, Nat.add_zero] at c0
    have hbl := lt_of_cell c0
    have j0 : (0 : Int) ≤ (j : Int) := by omega
    have j1 : (j : Int) + 5 - 5 = j := by omega
    have j2 : (j : Int) < (ts.length : Int) := by omega
    rw [show ((j + 5 : Nat) : Int) = (j : Int) + 5 by omega]
    go_enter Try.func66, Try.ntmps66
    go_wp2_with (go_at_call 97; refine (C5.out _ (by (repeat' (first | exact Ext.refl _ | assumption | refine Ext.alloc ?_ _ | refine Ext.drew ?_ | refine Ext.drewN ?_ _ | refine Ext.set ?_ (by first | exact Nat.le_refl _ | exact le1 _ | exact le2 _ | exact le3 _ | exact le4 _ | exact le5 _ | exact le6 _) _ | refine Ext.trans ?_ (by assumption))))).mono ?_; rintro e w2 ⟨rfl, hb2⟩)
    go_ret
    exact ⟨rfl, by (repeat' (first | exact Ext.refl _ | assumption | refine Ext.alloc ?_ _ | refine Ext.drew ?_ | refine Ext.drewN ?_ _ | refine Ext.set ?_ (by first | exact Nat.le_refl _ | exact le1 _ | exact le2 _ | exact le3 _ | exact le4 _ | exact le5 _ | exact le6 _) _ | refine Ext.trans ?_ (by assumption)))⟩

theorem kindF_stop {f : Nat → Bool} {n k : Nat} (h : f k = true) : kindF f (n + 1) k = k := by simp only [kindF]; rw [if_pos h]
theorem kindF_next {f : Nat → Bool} {n k : Nat} (h : f k = false) : kindF f (n + 1) k = kindF f n (k + 1) := by simp only [kindF]; rw [if_neg (by rw [h]; simp)]
theorem counts_ok {l : List PRule} (h : ∀ r ∈ l, ruleB r = true) : ∀ r ∈ l, r.counts.length ≤ 6 := fun r hr => (ruleB_parts (h r hr)).2.2.2.2.2.2.2.2.1
set_option maxRecDepth 100000 in
set_option maxHeartbeats 1600000 in
theorem kind_c (v : Value) (l : List PRule) (w : World) (hs : Sl 11 RRule w v l) (hv : ∀ r ∈ l, ruleB r = true) (hlen : l.length ≤ 1000) :
    Calls Try.prog 60 #[v] w fun e w' => e = .returned (.int .i64 (kindN l)) ∧ Ext w w' := by
  have C1 := fun w' (h : Ext w w') => things_c v l w' (hs.ext RRule.stable h) hlen (counts_ok hv)
  have C2 := fun vt ts k w' (h : Ext w w') => of_c v vt l ts k w' (hs.ext RRule.stable h)
  obtain ⟨A, cap, rfl, hl, hl2⟩ := hs.shape
  have htl := thingsL_len l (counts_ok hv)
  obtain ⟨ts, hts⟩ : ∃ ts, thingsL l = ts := ⟨_, rfl⟩
  obtain ⟨R, hR⟩ : ∃ R, kindN l = R := ⟨_, rfl⟩
  have HR : kindF (ofB l ts) (4 + ts.length) 1 = R := by rw [← hR, ← hts]; rfl
  have HV := Lib.hid hv
  rw [hR]
  rw [hts] at C1 htl
  have HR0 := Lib.hid HR
  replace C1 := Lib.hid C1
  replace C2 := Lib.hid C2
  clear hs hts hR HR hv
  go_enter Try.func60, Try.ntmps60
  go_wp2_with (go_at_call 61; refine (C1.out _ (by (repeat' (first | exact Ext.refl _ | assumption | refine Ext.alloc ?_ _ | refine Ext.drew ?_ | refine Ext.drewN ?_ _ | refine Ext.set ?_ (by first | exact Nat.le_refl _ | exact le1 _ | exact le2 _ | exact le3 _ | exact le4 _ | exact le5 _ | exact le6 _) _ | refine Ext.trans ?_ (by assumption))))).mono ?_; rintro e w1 ⟨vt, rfl, hown, hb1⟩; obtain ⟨At, capt, rfl, htl1, htl2⟩ := hown.sl.shape)
  have HT := Lib.hid hown.sl
  clear hown
  go_loopw [4] (fun i wr => ∃ k : Nat, 1 ≤ k ∧ k ≤ 5 + ts.length ∧ i = .int .i64 k ∧ kindF (ofB l ts) (5 + ts.length - k) k = R ∧ Ext w1 wr) (fun i _ => 5 + ts.length - (intOf i).toNat)
  case atStart => exact ⟨1, by omega, by omega, rfl, by rw [show 5 + ts.length - 1 = 4 + ts.length by omega]; exact HR0.out, Ext.refl _⟩
  case round =>
    obtain ⟨k, hk1, hk, rfl, hkf, hb⟩ := hrel
    have HKF := Lib.hid hkf
    clear hkf
    by_cases hlt : k < 5 + ts.length
    · have hbw := hb1.trans hb
      have C3 := fun w' (h : Ext wr w') => C2.out (.slice At ts.length capt) ts k w' (hbw.trans h) (HT.out.ext RStr.stable (hb.trans h)) HV.out hk1 hlt
      cases ho : ofB l ts k
      · rw [ho] at C3
        have hX : kindF (ofB l ts) (5 + ts.length - (k + 1)) (k + 1) = R := by
          rw [← HKF.out, show 5 + ts.length - k = (5 + ts.length - (k + 1)) + 1 by omega, kindF_next ho]
        have HX := Lib.hid hX
        replace C3 := Lib.hid C3
        clear ho hX
        go_wp2_with (go_at_call 66; refine (C3.out _ (by (repeat' (first | exact Ext.refl _ | assumption | refine Ext.alloc ?_ _ | refine Ext.drew ?_ | refine Ext.drewN ?_ _ | refine Ext.set ?_ (by first | exact Nat.le_refl _ | exact le1 _ | exact le2 _ | exact le3 _ | exact le4 _ | exact le5 _ | exact le6 _) _ | refine Ext.trans ?_ (by assumption))))).mono ?_; rintro e w2 ⟨rfl, hb2⟩)
        go_roundw
        case rel => exact ⟨k + 1, by omega, by omega, by go_num, HX.out, by (repeat' (first | exact Ext.refl _ | assumption | refine Ext.alloc ?_ _ | refine Ext.drew ?_ | refine Ext.drewN ?_ _ | refine Ext.set ?_ (by first | exact Nat.le_refl _ | exact le1 _ | exact le2 _ | exact le3 _ | exact le4 _ | exact le5 _ | exact le6 _) _ | refine Ext.trans ?_ (by assumption)))⟩
        case measure => simp [intOf]; omega
      · rw [ho] at C3
        have hX : k = R := by
          rw [← HKF.out, show 5 + ts.length - k = (5 + ts.length - (k + 1)) + 1 by omega, kindF_stop ho]
        have HX := Lib.hid hX
        replace C3 := Lib.hid C3
        clear ho hX
        go_wp2_with (go_at_call 66; refine (C3.out _ (by (repeat' (first | exact Ext.refl _ | assumption | refine Ext.alloc ?_ _ | refine Ext.drew ?_ | refine Ext.drewN ?_ _ | refine Ext.set ?_ (by first | exact Nat.le_refl _ | exact le1 _ | exact le2 _ | exact le3 _ | exact le4 _ | exact le5 _ | exact le6 _) _ | refine Ext.trans ?_ (by assumption))))).mono ?_; rintro e w2 ⟨rfl, hb2⟩)
        go_ret
        exact ⟨by have h := HX.out; subst h; rfl, by (repeat' (first | exact Ext.refl _ | assumption | refine Ext.alloc ?_ _ | refine Ext.drew ?_ | refine Ext.drewN ?_ _ | refine Ext.set ?_ (by first | exact Nat.le_refl _ | exact le1 _ | exact le2 _ | exact le3 _ | exact le4 _ | exact le5 _ | exact le6 _) _ | refine Ext.trans ?_ (by assumption)))⟩
    · have hX : 0 = R := by
        rw [← HKF.out, show 5 + ts.length - k = 0 by omega]; rfl
      have HX := Lib.hid hX
      clear hX
      go_wp2
      go_ret
      exact ⟨by rw [← HX.out]; rfl, hb1.trans hb⟩
end Go.Proofs.Ytaomlmkcifpfkaa
