
/- Contracts: 'look': the units of a pose. -/
import Derived.Test.YtcbjecpfijogcaaGreatCUnits
import Derived.Test.YtcbjecpfijogcaaGreatCRCheck
namespace Go.Proofs.YtcbjecpfijogcaaGreat
open Go.RowKit Go.Shelf

theorem rig_c (name : ByteArray) (a b : Int) (vu vp : Value) (l1 l2 : Int) (w : World) (hu : ∃ A n c, vu = .slice A n c) (hp : ∃ A n c, vp = .slice A n c) :
    Calls Tryz.prog 57 #[.agg #[.string name, vu, .int .i64 a, .int .i64 b, .int .i64 l1, .int .i64 l2, vp]] w fun e w' => e = .returned (.func (.func 81) #[] #[.pointer (some ⟨w.heap.size, 0, none⟩)]) ∧ w' = w.alloc (.cells #[.string name, vu, .int .i64 a, .int .i64 b, .int .i64 l1, .int .i64 l2, vp] 99) := by
  obtain ⟨A, n, c, rfl⟩ := hu
  obtain ⟨A2, n2, c2, rfl⟩ := hp
  go_enter Tryz.func57, Tryz.ntmps57
  go_wp2
  go_ret
  exact ⟨rfl, rfl⟩

theorem Collect_c (Bn : Nat) (Au Ap : Option Addr) (capu capp : Nat) (us : List CUnit) (ps : List Pt) (lead : Pt) (ex : Nat → Option Addr × Nat) (w : World)
    (r1 : w.cell? ⟨Bn, 1, none⟩ = some (.slice Au us.length capu)) (r4 : w.cell? ⟨Bn, 4, none⟩ = some (.int .i64 lead.1)) (r5 : w.cell? ⟨Bn, 5, none⟩ = some (.int .i64 lead.2)) (r6 : w.cell? ⟨Bn, 6, none⟩ = some (.slice Ap ps.length capp))
    (hU : UCells w Au us ex) (hP : Pts w (.slice Ap ps.length capp) ps) (hlen : ps.length = us.length) (hn : us.length ≤ 12) (hval : ∀ u ∈ us, unitB u = true) :
    Calls Tryz.prog 56 #[.func (.func 81) #[] #[.pointer (some ⟨Bn, 0, none⟩)]] w fun e w' => ∃ v, e = .returned v ∧ w'.ownsRow w.heap.size 64 15 v (putsX ex 0 lead us ps).length ((putsX ex 0 lead us ps).flatMap putCs) ∧ Ext w w' := by
  have C := AppendSeq_c #[.pointer (some ⟨Bn, 0, none⟩)] (putsX ex 0 lead us ps) (by have := putsX_len ex us ps 0 lead; omega) w
    (fun fn l D asg bod W _ _ hY h0 => units1_c Bn Au Ap capu capp us ps lead ex w r1 r4 r5 r6 hU hP hlen hn hval fn _ l D asg bod W hY h0)
  generalize (putsX ex 0 lead us ps) = xs at *
  replace C := Lib.hid C
  clear r1 r4 r5 r6 hU hP hlen hn hval
  go_enter Tryz.func56, Tryz.ntmps56
  go_wp2_with (go_at_call 80; refine C.out.mono ?_; rintro e w1 ⟨v, rfl, ho, hb1⟩)
  go_ret
  exact ⟨v, rfl, ho, hb1⟩

def poseV (lead : Pt) (vp : Value) : Value := .agg #[.int .i64 lead.1, .int .i64 lead.2, vp]
theorem pts_shape {w : World} {v : Value} {l : List Pt} (h : Pts w v l) : ∃ A c, v = .slice A l.length c := by
  rcases h with ⟨a, c, rfl, rfl⟩ | ⟨b, off, cap, rfl, _⟩
  · exact ⟨a, c, rfl⟩
  · exact ⟨_, cap, rfl⟩
theorem vehE_zero {v : CVeh} (h : vehE v = 0) : manyB v = false ∧ headB v = true ∧ v.units.all unitB = true := by
  unfold vehE at h
  cases hm : manyB v
  · rw [hm] at h
    cases h1 : headB v <;> cases h2 : v.units.all unitB <;> rw [h1, h2] at h <;> simp at h
    exact ⟨rfl, rfl, rfl⟩
  · rw [hm] at h; simp at h
theorem vehE_len {v : CVeh} (h : vehE v = 0) : v.units.length ≤ 12 ∧ 1 ≤ v.units.length := by
  obtain ⟨h1, h2, _⟩ := vehE_zero h
  unfold manyB at h1
  unfold headB at h2
  simp only [Bool.or_eq_false_iff, decide_eq_false_iff_not, Bool.and_eq_true, decide_eq_true_eq] at h1 h2
  omega
theorem vehE_units {v : CVeh} (h : vehE v = 0) : ∀ u ∈ v.units, unitB u = true := List.all_eq_true.1 (vehE_zero h).2.2
theorem poseE_bad {v : CVeh} {lead : Pt} {ps : List Pt} (h : ¬ vehE v = 0) : poseE v lead ps = vehE v := by unfold poseE; rw [if_neg h]
theorem poseE_no {v : CVeh} {lead : Pt} {ps : List Pt} (h : vehE v = 0) (h2 : poseB v.units lead ps = false) : poseE v lead ps = 3 := by unfold poseE; rw [if_pos h, h2]; rfl
theorem poseE_ok {v : CVeh} {lead : Pt} {ps : List Pt} (h : vehE v = 0) (h2 : poseB v.units lead ps = true) : poseE v lead ps = 0 := by unfold poseE; rw [if_pos h, h2]; rfl

theorem poseB_len {us : List CUnit} {lead : Pt} {ps : List Pt} (h : ¬ ps.length = us.length) : poseB us lead ps = false := by unfold poseB; rw [decide_eq_false h]; rfl
theorem poseB_lead {us : List CUnit} {lead : Pt} {ps : List Pt} (h : okPt lead = false) : poseB us lead ps = false := by unfold poseB; rw [h]; simp
theorem poseB_eq {us : List CUnit} {lead : Pt} {ps : List Pt} (h : ps.length = us.length) (h2 : okPt lead = true) : poseB us lead ps = decide ((putsN lead us ps).length = us.length) := by unfold poseB; rw [decide_eq_true h, h2]; rfl
/-- what comes out of 'look' -/
def LookR (v : CVeh) (lead : Pt) (ps : List Pt) (w : World) (e : Ending) (w' : World) : Prop :=
  Ext w w' ∧ ((¬ poseE v lead ps = 0 ∧ e = .returned (.tuple #[.slice none 0 0, .int .i64 (poseE v lead ps)])) ∨
    (poseE v lead ps = 0 ∧ ∃ (vl : Value) (xs : List PPut), e = .returned (.tuple #[vl, .int .i64 0]) ∧ w'.ownsRow w.heap.size 64 15 vl xs.length (xs.flatMap putCs) ∧ xs.map (fun x => (⟨x.unit, x.joint, x.axle⟩ : CPut)) = putsN lead v.units ps))
theorem own_len {w : World} {base : Nat} {e : TypeId} {n m : Nat} {v : Value} {xs : List Value} (h : w.ownsRow base e n v m xs) : ∃ A c, v = .slice A m c := by
  rcases h.2 with ⟨rfl, h0⟩ | ⟨g, cap, cur, rfl, _⟩
  · exact ⟨none, 0, by rw [h0]⟩
  · exact ⟨_, cap, rfl⟩
theorem own_down {w : World} {base base' : Nat} {e : TypeId} {n m : Nat} {v : Value} {xs : List Value} (h : w.ownsRow base e n v m xs) (hb : base' ≤ base) : w.ownsRow base' e n v m xs := by
  refine ⟨h.1, ?_⟩
  rcases h.2 with h0 | ⟨g, cap, cur, hv, hg, hr⟩
  · exact .inl h0
  · exact .inr ⟨g, cap, cur, hv, Nat.le_trans hb hg, hr⟩
theorem UCells.ext {w w' : World} {A : Option Addr} {us : List CUnit} {ex : Nat → Option Addr × Nat} (h : UCells w A us ex) (he : Ext w w') : UCells w' A us ex :=
  ⟨fun i u hu => by
    obtain ⟨b, off, hA, hs, hc⟩ := h.at' i u hu
    exact ⟨b, off, hA, hs.ext RAxle.stable he, fun j c hj => he.cell (hc j c hj)⟩⟩

set_option maxRecDepth 100000 in
set_option maxHeartbeats 4000000 in
theorem look_c (vu : Value) (v : CVeh) (lead : Pt) (vp : Value) (ps : List Pt) (w : World) (hs : Sl 11 RUnit w vu v.units) (hp : Pts w vp ps) :
    Calls Tryz.prog 35 #[vehV v vu, poseV lead vp] w (LookR v lead ps w) := by
  have C1 := fun w' (h : Ext w w') => VCheck_c vu v w' (hs.ext RUnit.stable h)
  have C2 := fun w => Check_c lead.1 lead.2 w
  obtain ⟨A, cap, rfl, hl, hl2⟩ := hs.shape
  obtain ⟨ex, hU⟩ := ucells hs
  obtain ⟨Ap, capp, rfl⟩ := pts_shape hp
  obtain ⟨l1, l2⟩ := lead
  obtain ⟨Post, hPost⟩ : ∃ Post, LookR v (l1, l2) ps w = Post := ⟨_, rfl⟩
  rw [hPost]
  have HPo := Lib.hid hPost
  have HU := Lib.hid hU
  have HP := Lib.hid hp
  clear hPost hU hp hs
  unfold vehV poseV at *
  simp only at C1 C2 ⊢
  by_cases hE : vehE v = 0
  case neg =>
    have HE := Lib.hid (poseE_bad (lead := (l1, l2)) (ps := ps) hE)
    have HN := Lib.hid hE
    generalize vehE v = E at *
    replace C1 := Lib.hid C1
    clear C2
    go_enter Tryz.func35, Tryz.ntmps35
    go_wp2_with (go_at_call 38; refine (C1.out _ (by (repeat' (first | exact Ext.refl _ | assumption | refine Ext.alloc ?_ _ | refine Ext.drew ?_ | refine Ext.drewN ?_ _ | refine Ext.set ?_ (by first | exact Nat.le_refl _ | exact le1 _ | exact le2 _ | exact le3 _ | exact le4 _ | exact le5 _ | exact le6 _) _ | refine Ext.trans ?_ (by assumption))))).mono ?_; rintro e w1 ⟨rfl, hb1⟩; obtain ⟨hc, hf⟩ := bcell hb1)
    rw [← HPo.out]
    exact ⟨by (repeat' (first | exact Ext.refl _ | assumption | refine Ext.alloc ?_ _ | refine Ext.drew ?_ | refine Ext.drewN ?_ _ | refine Ext.set ?_ (by first | exact Nat.le_refl _ | exact le1 _ | exact le2 _ | exact le3 _ | exact le4 _ | exact le5 _ | exact le6 _) _ | refine Ext.trans ?_ (by assumption))), .inl ⟨by rw [HE.out]; exact HN.out, by rw [HE.out]; first | done | rfl⟩⟩
  have hln := vehE_len hE
  have HV := Lib.hid (vehE_units hE)
  have HE0 := Lib.hid hE
  rw [hE] at C1
  replace C1 := Lib.hid C1
  by_cases h1 : ps.length = v.units.length
  case neg =>
    have HE := Lib.hid (poseE_no hE (poseB_len (lead := (l1, l2)) h1))
    have h1' : ((ps.length : Int) == (v.units.length : Int)) = false := by rw [beq_eq_false_iff_ne]; omega
    have h1'' : ¬ (ps.length : Int) = (v.units.length : Int) := by omega
    clear C2 hE HV
    go_enter Tryz.func35, Tryz.ntmps35
    go_wp2_with (go_at_call 38; refine (C1.out _ (by (repeat' (first | exact Ext.refl _ | assumption | refine Ext.alloc ?_ _ | refine Ext.drew ?_ | refine Ext.drewN ?_ _ | refine Ext.set ?_ (by first | exact Nat.le_refl _ | exact le1 _ | exact le2 _ | exact le3 _ | exact le4 _ | exact le5 _ | exact le6 _) _ | refine Ext.trans ?_ (by assumption))))).mono ?_; rintro e w1 ⟨rfl, hb1⟩; obtain ⟨hc, hf⟩ := bcell hb1)
    rw [← HPo.out]
    exact ⟨by (repeat' (first | exact Ext.refl _ | assumption | refine Ext.alloc ?_ _ | refine Ext.drew ?_ | refine Ext.drewN ?_ _ | refine Ext.set ?_ (by first | exact Nat.le_refl _ | exact le1 _ | exact le2 _ | exact le3 _ | exact le4 _ | exact le5 _ | exact le6 _) _ | refine Ext.trans ?_ (by assumption))), .inl ⟨by rw [HE.out]; decide, by rw [HE.out]; first | done | rfl⟩⟩
  cases h2 : okPt (l1, l2)
  case false =>
    have HE := Lib.hid (poseE_no hE (poseB_lead (us := v.units) (ps := ps) h2))
    rw [show checkS (l1, l2) = 2 by simp [checkS, h2]] at C2
    replace C2 := Lib.hid C2
    clear hE HV h2
    go_enter Tryz.func35, Tryz.ntmps35
    go_wp2_with (first | (go_at_call 38; refine (C1.out _ (by (repeat' (first | exact Ext.refl _ | assumption | refine Ext.alloc ?_ _ | refine Ext.drew ?_ | refine Ext.drewN ?_ _ | refine Ext.set ?_ (by first | exact Nat.le_refl _ | exact le1 _ | exact le2 _ | exact le3 _ | exact le4 _ | exact le5 _ | exact le6 _) _ | refine Ext.trans ?_ (by assumption))))).mono ?_; rintro e w1 ⟨rfl, hb1⟩; obtain ⟨hc, hf⟩ := bcell hb1) | (go_at_call 43; refine (C2.out _).mono ?_; rintro e w2 ⟨rfl, hb2⟩))
    rw [← HPo.out]
    exact ⟨by (repeat' (first | exact Ext.refl _ | assumption | refine Ext.alloc ?_ _ | refine Ext.drew ?_ | refine Ext.drewN ?_ _ | refine Ext.set ?_ (by first | exact Nat.le_refl _ | exact le1 _ | exact le2 _ | exact le3 _ | exact le4 _ | exact le5 _ | exact le6 _) _ | refine Ext.trans ?_ (by assumption))), .inl ⟨by rw [HE.out]; decide, by rw [HE.out]; first | done | rfl⟩⟩
  rw [show checkS (l1, l2) = 0 by simp [checkS, h2]] at C2
  replace C2 := Lib.hid C2
  have hq := poseB_eq (us := v.units) h1 h2
  have hm := putsX_map ex v.units ps 0 (l1, l2)
  have hml : (putsX ex 0 (l1, l2) v.units ps).length = (putsN (l1, l2) v.units ps).length := by rw [← hm, List.length_map]
  have CC : ∀ W2, Ext w W2 → Calls Tryz.prog 56 #[.func (.func 81) #[] #[.pointer (some ⟨W2.heap.size, 0, none⟩)]] (W2.alloc (.cells #[.string v.name, .slice A v.units.length cap, .int .i64 v.first, .int .i64 v.last, .int .i64 l1, .int .i64 l2, .slice Ap ps.length capp] 99)) fun e w' => ∃ vl, e = .returned vl ∧ w'.ownsRow (W2.alloc (.cells #[.string v.name, .slice A v.units.length cap, .int .i64 v.first, .int .i64 v.last, .int .i64 l1, .int .i64 l2, .slice Ap ps.length capp] 99)).heap.size 64 15 vl (putsX ex 0 (l1, l2) v.units ps).length ((putsX ex 0 (l1, l2) v.units ps).flatMap putCs) ∧ Ext (W2.alloc (.cells #[.string v.name, .slice A v.units.length cap, .int .i64 v.first, .int .i64 v.last, .int .i64 l1, .int .i64 l2, .slice Ap ps.length capp] 99)) w' := fun W2 h => by
    have hE2 : Ext w (W2.alloc (.cells #[.string v.name, .slice A v.units.length cap, .int .i64 v.first, .int .i64 v.last, .int .i64 l1, .int .i64 l2, .slice Ap ps.length capp] 99)) := h.alloc _
    exact Collect_c W2.heap.size A Ap cap capp v.units ps (l1, l2) ex _ (by go_simp) (by go_simp) (by go_simp) (by go_simp) (HU.out.ext hE2) (HP.out.ext hE2) h1 hln.1 HV.out
  rw [← hml] at hq
  generalize putsX ex 0 (l1, l2) v.units ps = xs at *
  replace CC := Lib.hid CC
  have HM := Lib.hid hm
  by_cases h3 : xs.length = v.units.length
  · have HE := Lib.hid (poseE_ok hE (hq.trans (decide_eq_true h3)))
    have h3i : (xs.length : Int) = (v.units.length : Int) := by omega
    have h1i : (ps.length : Int) = (v.units.length : Int) := by omega
    clear hE hq hm hml h2 HV h1 h3
    go_enter Tryz.func35, Tryz.ntmps35
    go_wp2_with (first | (go_at_call 38; refine (C1.out _ (by (repeat' (first | exact Ext.refl _ | assumption | refine Ext.alloc ?_ _ | refine Ext.drew ?_ | refine Ext.drewN ?_ _ | refine Ext.set ?_ (by first | exact Nat.le_refl _ | exact le1 _ | exact le2 _ | exact le3 _ | exact le4 _ | exact le5 _ | exact le6 _) _ | refine Ext.trans ?_ (by assumption))))).mono ?_; rintro e w1 ⟨rfl, hb1⟩; obtain ⟨hc, hf⟩ := bcell hb1) | (go_at_call 43; refine (C2.out _).mono ?_; rintro e w2 ⟨rfl, hb2⟩; have Hb2 := hb1.trans hb2; obtain ⟨hc, hf⟩ := bcell Hb2) | (go_at_call 57; refine (rig_c _ _ _ _ _ _ _ _ ⟨_, _, _, rfl⟩ ⟨_, _, _, rfl⟩).mono ?_; rintro e w3 ⟨rfl, rfl⟩) | (go_at_call 56; refine (CC.out _ (by (repeat' (first | exact Ext.refl _ | assumption | refine Ext.alloc ?_ _ | refine Ext.drew ?_ | refine Ext.drewN ?_ _ | refine Ext.set ?_ (by first | exact Nat.le_refl _ | exact le1 _ | exact le2 _ | exact le3 _ | exact le4 _ | exact le5 _ | exact le6 _) _ | refine Ext.trans ?_ (by assumption))))).mono ?_; rintro e w4 ⟨vl, rfl, ho, hb4⟩; obtain ⟨A3, c3, rfl⟩ := own_len ho; have Hb4 := (((Ext.refl w2).alloc _).trans hb4); have k1 := Ext.cell Hb4 (p := ⟨w.heap.size, 1, none⟩) (v := .slice A v.units.length cap) (by go_simp); have hz2 := hb2.size; have hz1 := hb1.size; simp only [size_alloc] at hz1))
    rw [← HPo.out]
    exact ⟨by (repeat' (first | exact Ext.refl _ | assumption | refine Ext.alloc ?_ _ | refine Ext.drew ?_ | refine Ext.drewN ?_ _ | refine Ext.set ?_ (by first | exact Nat.le_refl _ | exact le1 _ | exact le2 _ | exact le3 _ | exact le4 _ | exact le5 _ | exact le6 _) _ | refine Ext.trans ?_ (by assumption))), .inr ⟨HE.out, _, xs, rfl, own_down ho (by have := hb1.size; have := hb2.size; simp at *; omega), HM.out⟩⟩
  · have HE := Lib.hid (poseE_no hE (hq.trans (decide_eq_false h3)))
    have h3' : ((xs.length : Int) == (v.units.length : Int)) = false := by rw [beq_eq_false_iff_ne]; omega
    have h3'' : ¬ (xs.length : Int) = (v.units.length : Int) := by omega
    have h1i : (ps.length : Int) = (v.units.length : Int) := by omega
    clear hE hq hm hml h2 HV h1 h3
    go_enter Tryz.func35, Tryz.ntmps35
    go_wp2_with (first | (go_at_call 38; refine (C1.out _ (by (repeat' (first | exact Ext.refl _ | assumption | refine Ext.alloc ?_ _ | refine Ext.drew ?_ | refine Ext.drewN ?_ _ | refine Ext.set ?_ (by first | exact Nat.le_refl _ | exact le1 _ | exact le2 _ | exact le3 _ | exact le4 _ | exact le5 _ | exact le6 _) _ | refine Ext.trans ?_ (by assumption))))).mono ?_; rintro e w1 ⟨rfl, hb1⟩; obtain ⟨hc, hf⟩ := bcell hb1) | (go_at_call 43; refine (C2.out _).mono ?_; rintro e w2 ⟨rfl, hb2⟩; have Hb2 := hb1.trans hb2; obtain ⟨hc, hf⟩ := bcell Hb2) | (go_at_call 57; refine (rig_c _ _ _ _ _ _ _ _ ⟨_, _, _, rfl⟩ ⟨_, _, _, rfl⟩).mono ?_; rintro e w3 ⟨rfl, rfl⟩) | (go_at_call 56; refine (CC.out _ (by (repeat' (first | exact Ext.refl _ | assumption | refine Ext.alloc ?_ _ | refine Ext.drew ?_ | refine Ext.drewN ?_ _ | refine Ext.set ?_ (by first | exact Nat.le_refl _ | exact le1 _ | exact le2 _ | exact le3 _ | exact le4 _ | exact le5 _ | exact le6 _) _ | refine Ext.trans ?_ (by assumption))))).mono ?_; rintro e w4 ⟨vl, rfl, ho, hb4⟩; obtain ⟨A3, c3, rfl⟩ := own_len ho; have Hb4 := (((Ext.refl w2).alloc _).trans hb4); have k1 := Ext.cell Hb4 (p := ⟨w.heap.size, 1, none⟩) (v := .slice A v.units.length cap) (by go_simp); have hz2 := hb2.size; have hz1 := hb1.size; simp only [size_alloc] at hz1))
    rw [← HPo.out]
    exact ⟨by (repeat' (first | exact Ext.refl _ | assumption | refine Ext.alloc ?_ _ | refine Ext.drew ?_ | refine Ext.drewN ?_ _ | refine Ext.set ?_ (by first | exact Nat.le_refl _ | exact le1 _ | exact le2 _ | exact le3 _ | exact le4 _ | exact le5 _ | exact le6 _) _ | refine Ext.trans ?_ (by assumption))), .inl ⟨by rw [HE.out]; decide, by rw [HE.out]; first | done | rfl⟩⟩
end Go.Proofs.YtcbjecpfijogcaaGreat
