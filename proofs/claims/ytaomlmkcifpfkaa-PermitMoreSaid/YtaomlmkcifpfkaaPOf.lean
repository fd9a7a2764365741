/- Contracts: 'Compile', 'some' and 'Of' of the definition. -/
import Derived.Test.YtaomlmkcifpfkaaPComp2
namespace Go.Proofs.Ytaomlmkcifpfkaa
open Go.RowKit

/-! ### plainly: the conditions of one passage -/
def ruleOf (l : List PAuth) (c : PCond) : PRule := match l[c.auth.toNat]? with | some a => (a.rules[c.rule.toNat]?).getD ⟨ByteArray.empty, [], [], 0, 0, 0, 0, 0, false, [], 0⟩ | none => ⟨ByteArray.empty, [], [], 0, 0, 0, 0, 0, false, [], 0⟩
def ofSel (cl : List PCond) (k : Int) (i : Nat) : List (PCond × Nat) := (cl.take i).zipIdx.filter fun q => decide (q.1.passage = k)
theorem ofSel_succ {cl : List PCond} {k : Int} {i : Nat} {c : PCond} (h : cl[i]? = some c) : ofSel cl k (i + 1) = ofSel cl k i ++ if decide (c.passage = k) = true then [(c, i)] else [] := by
  unfold ofSel
  have hn := lt_of_some h
  rw [take_some h, List.zipIdx_append, List.filter_append, List.length_take, Nat.min_eq_left (by omega)]
  congr 1
  simp only [List.zipIdx_cons, List.zipIdx_nil, Nat.zero_add, List.filter_cons, List.filter_nil]
theorem ofSel_len (cl : List PCond) (k : Int) (i : Nat) : (ofSel cl k i).length ≤ i := by
  unfold ofSel
  refine Nat.le_trans (List.length_filter_le _ _) ?_
  simp; omega
/-- the numbers and the rules of a passage -/
def numsOf (l : List PAuth) (t : PTrip) (k : Nat) (p : PPass) : List Int := ((selOf l t p).zipIdx (condsN l t k).length).map fun q => (q.2 : Int)
def rsOf (l : List PAuth) (t : PTrip) (p : PPass) : List PRule := (selOf l t p).map (·.1)
theorem conds_passage {l : List PAuth} {t : PTrip} : ∀ K, K ≤ t.passages.length → ∀ c ∈ condsN l t K, 0 ≤ c.passage ∧ c.passage < K
  | 0, _, c, h => by simp [condsN] at h
  | K + 1, hK, c, h => by
    obtain ⟨p, hp⟩ := some_of_lt (show K < t.passages.length by omega)
    rw [condsN_succ hp, List.mem_append] at h
    rcases h with h | h
    · have := conds_passage K (by omega) c h; omega
    · obtain ⟨q, _, rfl⟩ := List.mem_map.1 h
      simp only [condOf]; omega
theorem filter_none {cl : List PCond} {k : Int} (n : Nat) (h : ∀ c ∈ cl, c.passage ≠ k) : (cl.zipIdx n).filter (fun q => decide (q.1.passage = k)) = [] := by
  rw [List.filter_eq_nil_iff]
  intro q hq
  have := List.fst_mem_of_mem_zipIdx hq
  simp [h q.1 this]
theorem of_blocks {l : List PAuth} {t : PTrip} {k : Nat} {p : PPass} (hp : t.passages[k]? = some p) : ∀ K, k < K → K ≤ t.passages.length →
    (condsN l t K).zipIdx.filter (fun q => decide (q.1.passage = (k : Int))) = ((selOf l t p).map (condOf k (idxA l p.auth))).zipIdx (condsN l t k).length
  | 0, h, _ => by omega
  | K + 1, hkK, hK => by
    obtain ⟨p', hp'⟩ := some_of_lt (show K < t.passages.length by omega)
    rw [condsN_succ hp', List.zipIdx_append, List.filter_append, Nat.zero_add]
    by_cases he : k = K
    · subst he
      rw [hp] at hp'
      obtain rfl : p = p' := Option.some.inj hp'
      rw [filter_none 0 (fun c hc => by have := conds_passage k (by omega) c hc; omega), List.nil_append, List.filter_eq_self]
      intro q hq
      have := List.fst_mem_of_mem_zipIdx hq
      obtain ⟨r, _, hr⟩ := List.mem_map.1 this
      rw [← hr]; simp [condOf]
    · rw [of_blocks hp K (by omega) (by omega), filter_none (condsN l t K).length, List.append_nil]
      intro c hc
      obtain ⟨q, _, rfl⟩ := List.mem_map.1 hc
      simp only [condOf]; omega
theorem ofSel_all {l : List PAuth} {t : PTrip} {k : Nat} {p : PPass} (hp : t.passages[k]? = some p) : ofSel (conds l t) k (conds l t).length = ((selOf l t p).map (condOf k (idxA l p.auth))).zipIdx (condsN l t k).length := by
  unfold ofSel
  rw [List.take_length]
  exact of_blocks hp _ (lt_of_some hp) (Nat.le_refl _)
theorem nums_eq {l : List PAuth} {t : PTrip} {k : Nat} {p : PPass} (hp : t.passages[k]? = some p) : (ofSel (conds l t) k (conds l t).length).map (fun q => (q.2 : Int)) = numsOf l t k p := by
  rw [ofSel_all hp, List.zipIdx_map, List.map_map]
  rfl
theorem rs_eq {l : List PAuth} {t : PTrip} {k : Nat} {p : PPass} (hV : Valid l t) (hp : t.passages[k]? = some p) : (ofSel (conds l t) k (conds l t).length).map (fun q => ruleOf l q.1) = rsOf l t p := by
  obtain ⟨a, x, ha, hal, hx, hat, hnm, hru, he⟩ := hV.auth hp
  rw [ofSel_all hp, List.zipIdx_map, List.map_map]
  unfold rsOf
  have h2 : ∀ q ∈ selOf l t p, ruleOf l (condOf k (idxA l p.auth) q) = q.1 := by
    intro q hq
    unfold selOf at hq
    have := (ruleSel_mem hq).2
    rw [hru] at this
    simp only [ruleOf, condOf, ha, Int.toNat_natCast, hx, this, Option.getD_some]
  conv => rhs; rw [← List.zipIdx_map_fst (condsN l t k).length (selOf l t p), List.map_map]
  refine List.map_congr_left fun q hq => ?_
  have := List.fst_mem_of_mem_zipIdx hq
  exact h2 q.1 this
theorem conds_len {l : List PAuth} {t : PTrip} (hV : Valid l t) : (conds l t).length ≤ 576 := by
  have := condsN_len hV t.passages.length (Nat.le_refl _)
  have := hV.plen.2
  unfold conds; omega
/-- what a condition names -/
theorem conds_at {l : List PAuth} {t : PTrip} (hV : Valid l t) : ∀ K, K ≤ t.passages.length → ∀ c ∈ condsN l t K, ∃ (a n : Nat) (x : PAuth) (r : PRule), c.auth = (a : Int) ∧ c.rule = (n : Int) ∧ l[a]? = some x ∧ x.rules[n]? = some r ∧ ruleOf l c = r
  | 0, _, c, h => by simp [condsN] at h
  | K + 1, hK, c, h => by
    obtain ⟨p, hp⟩ := some_of_lt (show K < t.passages.length by omega)
    obtain ⟨a, x, ha, hal, hx, hat, hnm, hru, he⟩ := hV.auth hp
    rw [condsN_succ hp, List.mem_append] at h
    rcases h with h | h
    · exact conds_at hV K (by omega) c h
    · obtain ⟨q, hq, rfl⟩ := List.mem_map.1 h
      unfold selOf at hq
      have := (ruleSel_mem hq).2
      rw [hru] at this
      refine ⟨a, q.2, x, q.1, ha, rfl, hx, this, ?_⟩
      simp only [ruleOf, condOf, ha, Int.toNat_natCast, hx, this, Option.getD_some]

/-! ### 'Compile', 'some' -/
def compS (l : List PAuth) (t : PTrip) : List PCond × Int × Int := if beginE l t = 0 then (conds l t, feeS l t, noticeS l t) else ([], 0, 0)
set_option maxRecDepth 100000 in
set_option maxHeartbeats 1600000 in
theorem RCompile_c (v vp : Value) (l : List PAuth) (t : PTrip) (w : World) (hs : Sl 4 RAuth w v l) (hp : Sl 3 RPass w vp t.passages) :
    Calls Try.prog 15 #[v, tripV t vp] w fun e w' => ∃ vc, e = .returned (.tuple #[.agg #[vc, .int .i64 (compS l t).2.1, .int .i64 (compS l t).2.2], .int .i64 (beginE l t)]) ∧ Sl 3 RCond w' vc (compS l t).1 ∧ Ext w w' := by
  have C1 := fun w' (h : Ext w w') => begin_c v vp l t w' (hs.ext RAuth.stable h) (hp.ext RPass.stable h)
  obtain ⟨A, cap, rfl, hl, hcap⟩ := hs.shape
  obtain ⟨Ap, capp, rfl, hpl, hcapp⟩ := hp.shape
  by_cases h0 : beginE l t = 0
  · have hV := valid_of_begin h0
    have C2 := fun w' (h : Ext w w') => compile_c _ _ l t w' (hs.ext RAuth.stable h) (hp.ext RPass.stable h) hV
    rw [h0] at C1 ⊢
    rw [show compS l t = (conds l t, feeS l t, noticeS l t) by simp [compS, h0]]
    simp only
    unfold tripV at C1 C2 ⊢
    replace C1 := Lib.hid C1
    replace C2 := Lib.hid C2
    clear hs hp hV h0
    generalize feeS l t = F at *
    generalize noticeS l t = N at *
    go_enter Try.func15, Try.ntmps15
    go_wp2_with fail
    refine (C1.out _ (by (repeat' (first | exact Ext.refl _ | assumption | refine Ext.alloc ?_ _ | refine Ext.drew ?_ | refine Ext.drewN ?_ _ | refine Ext.set ?_ (by first | exact Nat.le_refl _ | exact le1 _ | exact le2 _ | exact le3 _ | exact le4 _ | exact le5 _ | exact le6 _) _ | refine Ext.trans ?_ (by assumption))))).mono ?_
    rintro e w1 ⟨rfl, hb1⟩
    obtain ⟨hc1, hf1⟩ := bcell hb1
    have E1 : Ext w w1 := by (repeat' (first | exact Ext.refl _ | assumption | refine Ext.alloc ?_ _ | refine Ext.drew ?_ | refine Ext.drewN ?_ _ | refine Ext.set ?_ (by first | exact Nat.le_refl _ | exact le1 _ | exact le2 _ | exact le3 _ | exact le4 _ | exact le5 _ | exact le6 _) _ | refine Ext.trans ?_ (by assumption)))
    have d0 := Ext.cell hb1 (p := ⟨w.heap.size + 1, 0, none⟩) (v := .slice none 0 0) (by go_simp)
    have d1 := Ext.cell hb1 (p := ⟨w.heap.size + 1, 1, none⟩) (v := .int .i64 0) (by go_simp)
    have d2 := Ext.cell hb1 (p := ⟨w.heap.size + 1, 2, none⟩) (v := .int .i64 0) (by go_simp)
    have g0 := Ext.frz hb1 (p := ⟨w.heap.size + 1, 0, none⟩) (by simp) (by go_simp)
    have g1 := Ext.frz hb1 (p := ⟨w.heap.size + 1, 1, none⟩) (by simp) (by go_simp)
    have g2 := Ext.frz hb1 (p := ⟨w.heap.size + 1, 2, none⟩) (by simp) (by go_simp)
    go_wp2_with fail
    refine (C2.out _ E1).mono ?_
    rintro e w2 ⟨vc, rfl, hown, hb2⟩
    obtain ⟨vA, vl, vcap, rfl⟩ : ∃ a n c, vc = .slice a n c := by
      obtain ⟨a, c, h, _⟩ := hown.sl.shape
      exact ⟨_, _, _, h⟩
    have hHP := lt_of_cell d0
    replace d0 := Ext.cell hb2 d0
    replace d1 := Ext.cell hb2 d1
    replace d2 := Ext.cell hb2 d2
    replace g0 := Ext.frz hb2 hHP g0
    replace g1 := Ext.frz hb2 hHP g1
    replace g2 := Ext.frz hb2 hHP g2
    have E2 := E1.trans hb2
    have HO := Lib.hid hown
    clear hb1 hb2 hc1 hf1 hown C1 C2
    go_wp2_with fail
    have c0 : (((w2.setCell ⟨w.heap.size + 1, 0, none⟩ (.slice vA vl vcap)).setCell ⟨w.heap.size + 1, 1, none⟩ (.int .i64 F)).setCell ⟨w.heap.size + 1, 2, none⟩ (.int .i64 N)).cell? ⟨w.heap.size + 1, 0, none⟩ = some (.slice vA vl vcap) := cell_off (by omega) (cell_off (by omega) (cell_set d0))
    have c1 : (((w2.setCell ⟨w.heap.size + 1, 0, none⟩ (.slice vA vl vcap)).setCell ⟨w.heap.size + 1, 1, none⟩ (.int .i64 F)).setCell ⟨w.heap.size + 1, 2, none⟩ (.int .i64 N)).cell? ⟨w.heap.size + 1, 1, none⟩ = some (.int .i64 F) := cell_off (by omega) (cell_set (cell_off (by omega) d1))
    have c2 : (((w2.setCell ⟨w.heap.size + 1, 0, none⟩ (.slice vA vl vcap)).setCell ⟨w.heap.size + 1, 1, none⟩ (.int .i64 F)).setCell ⟨w.heap.size + 1, 2, none⟩ (.int .i64 N)).cell? ⟨w.heap.size + 1, 2, none⟩ = some (.int .i64 N) := cell_set (cell_off (by omega) (cell_off (by omega) d2))
    have ho2 := ((HO.out.set (p := ⟨w.heap.size + 1, 0, none⟩) (u := .slice vA vl vcap) (fun _ _ k => k) hHP).set (p := ⟨w.heap.size + 1, 1, none⟩) (u := .int .i64 F) (fun _ _ k => k) hHP).set (p := ⟨w.heap.size + 1, 2, none⟩) (u := .int .i64 N) (fun _ _ k => k) hHP
    have hE2 : Ext w (((w2.setCell ⟨w.heap.size + 1, 0, none⟩ (.slice vA vl vcap)).setCell ⟨w.heap.size + 1, 1, none⟩ (.int .i64 F)).setCell ⟨w.heap.size + 1, 2, none⟩ (.int .i64 N)) := ((E2.set (Nat.le_succ _) _).set (Nat.le_succ _) _).set (Nat.le_succ _) _
    generalize ((w2.setCell ⟨w.heap.size + 1, 0, none⟩ (.slice vA vl vcap)).setCell ⟨w.heap.size + 1, 1, none⟩ (.int .i64 F)).setCell ⟨w.heap.size + 1, 2, none⟩ (.int .i64 N) = WF at *
    exact bodyPost_ret (v := .tuple #[.agg #[.slice vA vl vcap, .int .i64 F, .int .i64 N], .int .i64 0]) (by simp [results, Try.results15, go_sem, c0, c1, c2]) rfl ⟨_, rfl, ho2.sl, hE2⟩
  · rw [show compS l t = ([], 0, 0) by simp [compS, h0]]
    simp only
    unfold tripV at C1 ⊢
    generalize beginE l t = E at *
    replace C1 := Lib.hid C1
    clear hs hp
    go_enter Try.func15, Try.ntmps15
    go_wp2_with fail
    refine (C1.out _ (by (repeat' (first | exact Ext.refl _ | assumption | refine Ext.alloc ?_ _ | refine Ext.drew ?_ | refine Ext.drewN ?_ _ | refine Ext.set ?_ (by first | exact Nat.le_refl _ | exact le1 _ | exact le2 _ | exact le3 _ | exact le4 _ | exact le5 _ | exact le6 _) _ | refine Ext.trans ?_ (by assumption))))).mono ?_
    rintro e w1 ⟨rfl, hb1⟩
    obtain ⟨hc1, hf1⟩ := bcell hb1
    have E1 : Ext w w1 := by (repeat' (first | exact Ext.refl _ | assumption | refine Ext.alloc ?_ _ | refine Ext.drew ?_ | refine Ext.drewN ?_ _ | refine Ext.set ?_ (by first | exact Nat.le_refl _ | exact le1 _ | exact le2 _ | exact le3 _ | exact le4 _ | exact le5 _ | exact le6 _) _ | refine Ext.trans ?_ (by assumption)))
    have d0 := Ext.cell hb1 (p := ⟨w.heap.size + 1, 0, none⟩) (v := .slice none 0 0) (by go_simp)
    have d1 := Ext.cell hb1 (p := ⟨w.heap.size + 1, 1, none⟩) (v := .int .i64 0) (by go_simp)
    have d2 := Ext.cell hb1 (p := ⟨w.heap.size + 1, 2, none⟩) (v := .int .i64 0) (by go_simp)
    have g0 := Ext.frz hb1 (p := ⟨w.heap.size + 1, 0, none⟩) (by simp) (by go_simp)
    have g1 := Ext.frz hb1 (p := ⟨w.heap.size + 1, 1, none⟩) (by simp) (by go_simp)
    have g2 := Ext.frz hb1 (p := ⟨w.heap.size + 1, 2, none⟩) (by simp) (by go_simp)
    go_wp2_with fail
    refine (C1.out _ E1).mono ?_
    rintro e w2 ⟨rfl, hb2⟩
    have hHP := lt_of_cell d0
    replace d0 := Ext.cell hb2 d0
    replace d1 := Ext.cell hb2 d1
    replace d2 := Ext.cell hb2 d2
    replace g0 := Ext.frz hb2 hHP g0
    replace g1 := Ext.frz hb2 hHP g1
    replace g2 := Ext.frz hb2 hHP g2
    have E2 := E1.trans hb2
    clear hb1 hb2 hc1 hf1 C1
    go_wp2_with fail
    exact bodyPost_ret (v := .tuple #[.agg #[.slice none 0 0, .int .i64 0, .int .i64 0], .int .i64 E]) (by simp [results, Try.results15, go_sem, d0, d1, d2]) rfl ⟨_, rfl, ⟨none, 0, rfl, by simp, by simp, fun i x h => by simp at h⟩, ((E2.set (Nat.le_succ _) _).set (Nat.le_succ _) _).set (Nat.le_succ _) _⟩

/-- the errors of authorities, a trip and a passage -/
def someE (l : List PAuth) (t : PTrip) (k : Int) : Int := if beginE l t = 0 then (if k < 0 ∨ (t.passages.length : Int) ≤ k then 3 else 0) else beginE l t
set_option maxRecDepth 100000 in
set_option maxHeartbeats 1600000 in
theorem some_c (v vp : Value) (l : List PAuth) (t : PTrip) (k : Int) (w : World) (hs : Sl 4 RAuth w v l) (hp : Sl 3 RPass w vp t.passages) :
    Calls Try.prog 70 #[v, tripV t vp, .int .i64 k] w fun e w' => e = .returned (.int .i64 (someE l t k)) ∧ Ext w w' := by
  have C1 := fun w' (h : Ext w w') => begin_c v vp l t w' (hs.ext RAuth.stable h) (hp.ext RPass.stable h)
  obtain ⟨A, cap, rfl, hl, hcap⟩ := hs.shape
  obtain ⟨Ap, capp, rfl, hpl, hcapp⟩ := hp.shape
  unfold tripV at C1 ⊢
  unfold someE
  by_cases h0 : beginE l t = 0
  · rw [h0] at C1 ⊢
    simp only [if_true]
    replace C1 := Lib.hid C1
    clear hs hp h0
    by_cases h1 : k < 0; rotate_left; by_cases h2 : (t.passages.length : Int) ≤ k; rotate_left
    · have h3 : ¬ (k < 0 ∨ (t.passages.length : Int) ≤ k) := by omega
      rw [if_neg h3]
      clear h3
      go_enter Try.func70, Try.ntmps70
      go_wp2_with (go_at_call 48; refine (C1.out _ (by (repeat' (first | exact Ext.refl _ | assumption | refine Ext.alloc ?_ _ | refine Ext.drew ?_ | refine Ext.drewN ?_ _ | refine Ext.set ?_ (by first | exact Nat.le_refl _ | exact le1 _ | exact le2 _ | exact le3 _ | exact le4 _ | exact le5 _ | exact le6 _) _ | refine Ext.trans ?_ (by assumption))))).mono ?_; rintro e w1 ⟨rfl, hb1⟩; obtain ⟨hc, hf⟩ := bcell hb1)
      go_ret
      exact ⟨rfl, by (repeat' (first | exact Ext.refl _ | assumption | refine Ext.alloc ?_ _ | refine Ext.drew ?_ | refine Ext.drewN ?_ _ | refine Ext.set ?_ (by first | exact Nat.le_refl _ | exact le1 _ | exact le2 _ | exact le3 _ | exact le4 _ | exact le5 _ | exact le6 _) _ | refine Ext.trans ?_ (by assumption)))⟩
    all_goals
      have h3 : (k < 0 ∨ (t.passages.length : Int) ≤ k) := by omega
      rw [if_pos h3]
      clear h3
      go_enter Try.func70, Try.ntmps70
      go_wp2_with (go_at_call 48; refine (C1.out _ (by (repeat' (first | exact Ext.refl _ | assumption | refine Ext.alloc ?_ _ | refine Ext.drew ?_ | refine Ext.drewN ?_ _ | refine Ext.set ?_ (by first | exact Nat.le_refl _ | exact le1 _ | exact le2 _ | exact le3 _ | exact le4 _ | exact le5 _ | exact le6 _) _ | refine Ext.trans ?_ (by assumption))))).mono ?_; rintro e w1 ⟨rfl, hb1⟩; obtain ⟨hc, hf⟩ := bcell hb1)
      go_ret
      exact ⟨rfl, by (repeat' (first | exact Ext.refl _ | assumption | refine Ext.alloc ?_ _ | refine Ext.drew ?_ | refine Ext.drewN ?_ _ | refine Ext.set ?_ (by first | exact Nat.le_refl _ | exact le1 _ | exact le2 _ | exact le3 _ | exact le4 _ | exact le5 _ | exact le6 _) _ | refine Ext.trans ?_ (by assumption)))⟩
  · rw [if_neg h0]
    generalize beginE l t = E at *
    replace C1 := Lib.hid C1
    clear hs hp
    go_enter Try.func70, Try.ntmps70
    go_wp2_with fail
    refine (C1.out _ (by (repeat' (first | exact Ext.refl _ | assumption | refine Ext.alloc ?_ _ | refine Ext.drew ?_ | refine Ext.drewN ?_ _ | refine Ext.set ?_ (by first | exact Nat.le_refl _ | exact le1 _ | exact le2 _ | exact le3 _ | exact le4 _ | exact le5 _ | exact le6 _) _ | refine Ext.trans ?_ (by assumption))))).mono ?_
    rintro e w1 ⟨rfl, hb1⟩
    obtain ⟨hc1, hf1⟩ := bcell hb1
    have E1 : Ext w w1 := by (repeat' (first | exact Ext.refl _ | assumption | refine Ext.alloc ?_ _ | refine Ext.drew ?_ | refine Ext.drewN ?_ _ | refine Ext.set ?_ (by first | exact Nat.le_refl _ | exact le1 _ | exact le2 _ | exact le3 _ | exact le4 _ | exact le5 _ | exact le6 _) _ | refine Ext.trans ?_ (by assumption)))
    go_wp2_with fail
    refine (C1.out _ E1).mono ?_
    rintro e w2 ⟨rfl, hb2⟩
    go_wp2_with fail
    go_ret
    exact ⟨rfl, E1.trans hb2⟩
end Go.Proofs.Ytaomlmkcifpfkaa
