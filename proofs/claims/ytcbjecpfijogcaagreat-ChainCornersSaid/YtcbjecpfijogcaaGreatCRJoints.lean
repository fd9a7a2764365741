
/- Contracts: the front joints of a pose, by the reference. -/
import Derived.Test.YtcbjecpfijogcaaGreatCJoint2
import Derived.Deep.RegionHeld3
namespace Go.Proofs.YtcbjecpfijogcaaGreat
open Go.RowKit Go.Shelf

def flatP (l : List Pt) : List Value := l.flatMap (fun p => [.int .i64 p.1, .int .i64 p.2])
/-- a row of the call's own that reads as points -/
def OwnP (base : Nat) (w : World) (v : Value) (l : List Pt) : Prop := w.ownsRow base 26 2 v l.length (flatP l)
theorem flatP_at : ∀ (l : List Pt) (i : Nat) (p : Pt), l[i]? = some p → (flatP l)[i * 2]? = some (.int .i64 p.1) ∧ (flatP l)[i * 2 + 1]? = some (.int .i64 p.2)
  | [], i, p, h => by simp at h
  | a :: l, 0, p, h => by
    simp only [List.getElem?_cons_zero, Option.some.injEq] at h
    subst h
    exact ⟨rfl, rfl⟩
  | a :: l, i + 1, p, h => by
    have h2 := flatP_at l i p (by simpa using h)
    have e : flatP (a :: l) = [.int .i64 a.1, .int .i64 a.2] ++ flatP l := rfl
    rw [e, List.getElem?_append_right (by simp; omega), List.getElem?_append_right (by simp; omega)]
    simp only [List.length_cons, List.length_nil]
    rw [show (i + 1) * 2 - (0 + 1 + 1) = i * 2 by omega, show (i + 1) * 2 + 1 - (0 + 1 + 1) = i * 2 + 1 by omega]
    exact h2
theorem flatP_len (l : List Pt) : (flatP l).length = l.length * 2 := by
  induction l with
  | nil => rfl
  | cons a l ih => rw [show flatP (a :: l) = [.int .i64 a.1, .int .i64 a.2] ++ flatP l from rfl, List.length_append, ih]; simp; omega
theorem flatP_snoc (l : List Pt) (p : Pt) : flatP (l ++ [p]) = flatP l ++ [.int .i64 p.1, .int .i64 p.2] := by simp [flatP]
theorem OwnP.at {w : World} {base : Nat} {v : Value} {l : List Pt} (h : OwnP base w v l) {i : Nat} {p : Pt} (hi : l[i]? = some p) :
    ∃ g c, v = .slice (some ⟨g, 0, none⟩) l.length c ∧ l.length ≤ c ∧ c ≤ maxLen ∧ w.cell? ⟨g, i * 2, none⟩ = some (.int .i64 p.1) ∧ w.cell? ⟨g, i * 2 + 1, none⟩ = some (.int .i64 p.2) := by
  have hx := lt_of_some hi
  rcases h.2 with ⟨_, h0⟩ | ⟨g, cap, cur, rfl, _, hb, hc1, hc2, hcs, ht⟩
  · omega
  · have key : ∀ j u, (flatP l)[j]? = some u → w.cell? ⟨g, j, none⟩ = some u := fun j u hj => by
      rw [← ht, List.getElem?_take] at hj
      split at hj
      · have := World.news_of_block hb j u hj
        rwa [add_none, Nat.zero_add] at this
      · simp at hj
    have h2 := flatP_at l i p hi
    exact ⟨g, cap, rfl, hc1, hc2, key _ _ h2.1, key _ _ h2.2⟩
theorem OwnP.pts {w : World} {base : Nat} {v : Value} {l : List Pt} (h : OwnP base w v l) : Pts w v l := by
  cases l with
  | nil =>
    rcases h.2 with ⟨rfl, _⟩ | ⟨g, cap, cur, rfl, _⟩
    · exact .inl ⟨none, 0, rfl, rfl⟩
    · exact .inl ⟨_, cap, rfl, rfl⟩
  | cons a l =>
    obtain ⟨g, c, rfl, hc, hm, _⟩ := h.at (i := 0) (p := a) rfl
    refine .inr ⟨g, 0, c, rfl, by unfold maxLen at hm; omega, hc, fun i hi => ?_⟩
    obtain ⟨p, hp⟩ := some_of_lt hi
    obtain ⟨g', c', e, _, _, h1, h2⟩ := h.at hp
    simp only [Value.slice.injEq, Option.some.injEq, Addr.mk.injEq, and_true] at e
    obtain ⟨rfl, _⟩ := e
    have hg : (a :: l).getD i (0, 0) = p := by simp [List.getD, hp]
    rw [hg, Nat.zero_add]
    exact ⟨h1, h2⟩
theorem OwnP.ext {w w' : World} {base : Nat} {v : Value} {l : List Pt} (h : OwnP base w v l) (he : Ext w w') : OwnP base w' v l := ownsRow_ext' he h
theorem OwnP.down {w : World} {base base' : Nat} {v : Value} {l : List Pt} (h : OwnP base w v l) (hb : base' ≤ base) : OwnP base' w v l := own_down h hb
theorem OwnP.one (w : World) (p : Pt) : OwnP w.heap.size (w.alloc (.cells #[.int .i64 p.1, .int .i64 p.2] 26)) (.slice (some ⟨w.heap.size, 0, none⟩) 1 1) [p] :=
  ⟨rfl, .inr ⟨w.heap.size, 1, _, rfl, Nat.le_refl _, World.alloc_heap_new w _, Nat.le_refl _, by decide, rfl, rfl⟩⟩
theorem infoPoint : (Tryz.prog.info? 26).map (fun i => (i.zero, i.size, i.bytes)) = some (some (.agg #[.int .i64 0, .int .i64 0]), 2, 16) := by kernel_rfl

section
variable {P : Program} {ops : Array Oper} {Q : Exit → Act → World → Prop} {md : Region.Mode} {S : World → Prop}
theorem drop_get {i : Nat} {oi : Oper} {rest : List Oper} (hi : ops.toList.drop i = oi :: rest) : ops[i]? = some oi := by
  rw [← Array.getElem?_toList]
  have h : (ops.toList.drop i)[0]? = some oi := by rw [hi]; rfl
  rwa [List.getElem?_drop, Nat.add_zero] at h
/-- an operation that yields in every world that meets the condition -/
theorem take_at {i : Nat} {oi : Oper} {rest : List Oper} {v : Value} {fuel : Nat} {listed : Array Bool} {a : Act} {w : World} (hi : ops.toList.drop i = oi :: rest)
    (hs : Region.noSelect ops = true) (hf : Region.free md ops listed i = true) (hr : (Region.ready md ops listed).contains i = true)
    (hQ : ∀ c a w, Q (.panic c) (a.put oi.dst v) w → Q (.panic c) a w) (hy : YieldsIf P ops S oi v a) (hS : S w)
    (h : wpAnyH P md ops Q S fuel (listed.setIfInBounds i true) (a.put oi.dst v) w) : wpAnyH P md ops Q S (fuel + 1) listed a w :=
  wpAnyH_take (drop_get hi) hs hf hr hQ hy hS h
/-- an operation that is not wanted -/
theorem skip_at {i : Nat} {oi : Oper} {rest : List Oper} {fuel : Nat} {listed : Array Bool} {a : Act} {w : World} (hi : ops.toList.drop i = oi :: rest)
    (hs : Region.noSelect ops = true) (hf : Region.free md ops listed i = true) (hr : (Region.ready md ops listed).contains i = true)
    (hQ : ∀ c a w, Q (.panic c) (a.put oi.dst undef) w → Q (.panic c) a w) (hw : Region.wanted oi (yielded ops a.tmps) = false) (hS : S w)
    (h : wpAnyH P md ops Q S fuel (listed.setIfInBounds i true) (a.put oi.dst undef) w) : wpAnyH P md ops Q S (fuel + 1) listed a w :=
  wpAnyH_take (v := undef) (drop_get hi) hs hf hr hQ (Or.inr ⟨hw, rfl⟩) hS h
end
section
variable {vu vp : Value} {v : CVeh} {lead : Pt} {ps : List Pt}
/-- what comes out of 'joints' -/
def JointsR (v : CVeh) (lead : Pt) (ps : List Pt) (w : World) (e : Ending) (w' : World) : Prop :=
  Ext w w' ∧ ((poseB v.units lead ps = false ∧ e = .returned (.tuple #[.slice none 0 0, .bool false])) ∨
    (poseB v.units lead ps = true ∧ ∃ vl, e = .returned (.tuple #[vl, .bool true]) ∧ OwnP w.heap.size w' vl ((putsN lead v.units ps).map (·.joint))))
set_option maxRecDepth 100000 in
set_option maxHeartbeats 6400000 in
theorem joints_c (w : World) (hs : Sl 11 RUnit w vu v.units) (hp : Pts w vp ps) (hE : vehE v = 0) :
    Calls Tryz.prog 31 #[vehV v vu, poseV lead vp] w (JointsR v lead ps w) := by
  obtain ⟨A, cap, rfl, hl, hl2⟩ := hs.shape
  obtain ⟨ex, hU⟩ := ucells hs
  obtain ⟨Ap, capp, rfl⟩ := pts_shape hp
  obtain ⟨l1, l2⟩ := lead
  have C1 := fun w => Is_c l1 l2 w
  obtain ⟨Post, hPost⟩ : ∃ Post, JointsR v (l1, l2) ps w = Post := ⟨_, rfl⟩
  rw [hPost]
  have HPo := Lib.hid hPost
  have HU := Lib.hid hU
  have HP := Lib.hid hp
  have HV := Lib.hid (vehE_units hE)
  have hln := vehE_len hE
  clear hPost hU hp hs hE
  unfold vehV poseV at *
  simp only
  by_cases h1 : ps.length = v.units.length
  case neg =>
    have HE := Lib.hid (poseB_len (lead := (l1, l2)) h1)
    have h1'' : ¬ (ps.length : Int) = (v.units.length : Int) := by omega
    clear C1
    go_enter Tryz.func31, Tryz.ntmps31
    go_wp2_with fail
    rw [← HPo.out]
    exact ⟨by (repeat' (first | exact Ext.refl _ | assumption | refine Ext.alloc ?_ _ | refine Ext.drew ?_ | refine Ext.drewN ?_ _ | refine Ext.set ?_ (by first | exact Nat.le_refl _ | exact le1 _ | exact le2 _ | exact le3 _ | exact le4 _ | exact le5 _ | exact le6 _) _ | refine Ext.trans ?_ (by assumption))), .inl ⟨HE.out, by first | done | rfl⟩⟩
  have h1i : (ps.length : Int) = (v.units.length : Int) := by omega
  cases h2 : okPt (l1, l2)
  case false =>
    have HE := Lib.hid (poseB_lead (us := v.units) (ps := ps) h2)
    rw [h2] at C1
    replace C1 := Lib.hid C1
    clear h1 h2
    go_enter Tryz.func31, Tryz.ntmps31
    go_wp2_with (go_at_call 49; refine (C1.out _).mono ?_; rintro e w1 ⟨rfl, hb1⟩)
    rw [← HPo.out]
    exact ⟨by (repeat' (first | exact Ext.refl _ | assumption | refine Ext.alloc ?_ _ | refine Ext.drew ?_ | refine Ext.drewN ?_ _ | refine Ext.set ?_ (by first | exact Nat.le_refl _ | exact le1 _ | exact le2 _ | exact le3 _ | exact le4 _ | exact le5 _ | exact le6 _) _ | refine Ext.trans ?_ (by assumption))), .inl ⟨HE.out, by first | done | rfl⟩⟩
  have HQ := Lib.hid (poseB_eq (us := v.units) h1 h2)
  rw [h2] at C1
  replace C1 := Lib.hid C1
  have H1 := Lib.hid h1
  obtain ⟨X, hX⟩ : ∃ X, putsN (l1, l2) v.units ps = X := ⟨_, rfl⟩
  have HX := Lib.hid hX
  clear h1 h2 hX
  go_enter Tryz.func31, Tryz.ntmps31
  go_wp2_with (go_at_call 49; refine (C1.out _).mono ?_; rintro e w1 ⟨rfl, hb1⟩; have y0 := Ext.cell hb1 (p := ⟨w.heap.size + 1, 0, none⟩) (v := .int .i64 l1) (by go_simp); have y1 := Ext.cell hb1 (p := ⟨w.heap.size + 1, 1, none⟩) (v := .int .i64 l2) (by go_simp); have y2 := Ext.cell hb1 (p := ⟨w.heap.size + 1, 2, none⟩) (v := .slice Ap ps.length capp) (by go_simp); have x1 := Ext.cell hb1 (p := ⟨w.heap.size, 1, none⟩) (v := .slice A v.units.length cap) (by go_simp))
  have E1 : Ext w w1 := by (repeat' (first | exact Ext.refl _ | assumption | refine Ext.alloc ?_ _ | refine Ext.drew ?_ | refine Ext.drewN ?_ _ | refine Ext.set ?_ (by first | exact Nat.le_refl _ | exact le1 _ | exact le2 _ | exact le3 _ | exact le4 _ | exact le5 _ | exact le6 _) _ | refine Ext.trans ?_ (by assumption)))
  have ly := lt_of_cell y0
  have lx := lt_of_cell x1
  have hO := OwnP.one w1 (l1, l2)
  have EB : Ext w1 (w1.alloc (.cells #[.int .i64 l1, .int .i64 l2] 26)) := (Ext.refl w1).alloc _
  simp only at hO
  generalize (w1.alloc (.cells #[.int .i64 l1, .int .i64 l2] 26)) = W1 at *
  clear hb1 C1 y0 y1
  go_loopw [6, 7] (fun out i wr => ∃ (k : Nat) (pre : List CPut) (j1 j2 : Int), k < v.units.length ∧ i = .int .i64 k ∧ OwnP w1.heap.size wr out (pre.map (·.joint) ++ [(j1, j2)]) ∧ pre.length = k ∧ pre ++ putsN (j1, j2) (v.units.drop k) (ps.drop k) = X ∧ Ext w1 wr) (fun _ i _ => v.units.length - (intOf i).toNat)
  case atStart => exact ⟨0, [], l1, l2, by omega, rfl, hO, rfl, by simpa using HX.out, EB⟩
  case round =>
    obtain ⟨k, pre, j1, j2, hk, rfl, hO, hpl, hpre, hb⟩ := hrel
    clear EB
    have E : Ext w wr := E1.trans hb
    have hsr := E.sz
    have hs1 := hb.sz
    have y2' := Ext.cell hb y2
    have x1' := Ext.cell hb x1
    have hle : (pre.map (·.joint) ++ [((j1, j2) : Pt)]).length = k + 1 := by simp [hpl]
    obtain ⟨g, c, rfl, hgc, _, g0, g1⟩ := hO.at (i := k) (p := (j1, j2)) (by rw [List.getElem?_append_right (by simp [hpl]), List.length_map, hpl, Nat.sub_self]; rfl)
    rw [hle] at hgc ⊢
    simp only at g0 g1
    have hgl := lt_of_cell g0
    obtain ⟨u, hu⟩ := some_of_lt hk
    obtain ⟨⟨a1, a2⟩, ha⟩ := some_of_lt (show k < ps.length by have := H1.out; omega)
    obtain ⟨b, off, rfl, hax, hc⟩ := HU.out.at' k u hu
    obtain ⟨pb, poff, rfl, p0, p1⟩ : ∃ pb poff, Ap = some ⟨pb, poff, none⟩ ∧ w.cell? ⟨pb, poff + k * 2, none⟩ = some (.int .i64 a1) ∧ w.cell? ⟨pb, poff + k * 2 + 1, none⟩ = some (.int .i64 a2) := by
      rcases HP.out with ⟨_, _, _, h2⟩ | ⟨pb, poff, pcap, h1, _, _, hpc⟩
      · rw [h2] at ha; simp at ha
      · simp only [Value.slice.injEq] at h1
        have hg : ps.getD k (0, 0) = (a1, a2) := by simp [List.getD, ha]
        have := hpc k (by have := H1.out; omega)
        rw [hg] at this
        exact ⟨pb, poff, h1.1, this.1, this.2⟩
    have hv := HV.out u (mem_of_some hu)
    rw [drop_some hu, drop_some ha] at hpre
    have k0 := Ext.cell E (hc 0 _ rfl)
    have k1 := Ext.cell E (hc 1 _ rfl)
    have k2 := Ext.cell E (hc 2 _ rfl)
    have k3 := Ext.cell E (hc 3 _ rfl)
    have k4 := Ext.cell E (hc 4 _ rfl)
    have k5 := Ext.cell E (hc 5 _ rfl)
    have k6 := Ext.cell E (hc 6 _ rfl)
    have k7 := Ext.cell E (hc 7 _ rfl)
    have k8 := Ext.cell E (hc 8 _ rfl)
    have k9 := Ext.cell E (hc 9 _ rfl)
    have k10 := Ext.cell E (hc 10 _ rfl)
    simp only [Nat.add_zero] at k0
    replace p0 := Ext.cell E p0
    replace p1 := Ext.cell E p1
    have i1 : (0 : Int) ≤ (k : Int) := by omega
    have i2 : (k : Int) < (v.units.length : Int) := by omega
    have i3 : (k : Int) < (ps.length : Int) := by omega
    have i4 : (k : Int) < (k : Int) + 1 := by omega
    have ew := IntWalk.i64_in ((k : Int) + 1) (by omega)
    have HAX := Lib.hid hax
    have HPR := Lib.hid hpre
    have HO := Lib.hid hO
    have HPL := Lib.hid hpl
    have CI := fun w => Is_c a1 a2 w
    clear hax hc hu ha hpre hO hpl y2 x1
    by_cases hbad : okPt (a1, a2) = false ∨ ((a1, a2) : Pt) = (j1, j2)
    · have hX' : poseB v.units (l1, l2) ps = false := by
        have h3 : putsN (j1, j2) (u :: v.units.drop (k + 1)) ((a1, a2) :: ps.drop (k + 1)) = [] := by simp only [putsN]; rw [if_pos hbad]
        have h4 := HPR.out
        rw [h3, List.append_nil] at h4
        rw [HQ.out, HX.out, ← h4, HPL.out]
        exact decide_eq_false (by omega)
      have HE := Lib.hid hX'
      clear hX'
      cases hok : okPt (a1, a2)
      · rw [hok] at CI
        replace CI := Lib.hid CI
        clear hbad hok
        go_wp2_with fail
        refine wp_region_held_drew (S := (fun w' => w'.cell? ⟨w.heap.size + 1, 2, none⟩ = some (.slice (some ⟨pb, poff, none⟩) ps.length capp) ∧ w'.cell? ⟨pb, poff + k * 2, none⟩ = some (.int .i64 a1) ∧ w'.cell? ⟨pb, poff + k * 2 + 1, none⟩ = some (.int .i64 a2) ∧ w'.cell? ⟨g, k * 2, none⟩ = some (.int .i64 j1) ∧ w'.cell? ⟨g, k * 2 + 1, none⟩ = some (.int .i64 j2))) (by kernel_rfl) ⟨y2', p0, p1, g0, g1⟩ (fun hHeld => ?_)
        refine take_at (i := 0) (v := ?_) rfl (by kernel_rfl) (by kernel_rfl) (by kernel_rfl) (fun _ _ _ h => h) (Or.inl ⟨by rfl, ?_⟩) (by assumption) ?_
        rotate_left
        · (intro w hSw; (try dsimp only at hSw); go_simp; (first | done | with_reducible rfl))
        simp only [Act.put, List.setIfInBounds_toArray, List.set_cons_zero, List.set_cons_succ]
        refine take_at (i := 1) (v := ?_) rfl (by kernel_rfl) (by kernel_rfl) (by kernel_rfl) (fun _ _ _ h => h) (Or.inl ⟨by rfl, ?_⟩) (by assumption) ?_
        rotate_left
        · (intro w hSw; (try dsimp only at hSw); go_simp; (first | done | with_reducible rfl))
        simp only [Act.put, List.setIfInBounds_toArray, List.set_cons_zero, List.set_cons_succ]
        refine take_at (i := 2) (v := ?_) rfl (by kernel_rfl) (by kernel_rfl) (by kernel_rfl) (fun _ _ _ h => h) (Or.inl ⟨by rfl, ?_⟩) (by assumption) ?_
        rotate_left
        · (intro w hSw; (try dsimp only at hSw); go_simp; (first | done | with_reducible rfl))
        simp only [Act.put, List.setIfInBounds_toArray, List.set_cons_zero, List.set_cons_succ]
        refine take_at (i := 3) (v := ?_) rfl (by kernel_rfl) (by kernel_rfl) (by kernel_rfl) (fun _ _ _ h => h) (Or.inl ⟨by rfl, ?_⟩) (by assumption) ?_
        rotate_left
        · (intro w hSw; (try dsimp only at hSw); go_simp; (first | done | with_reducible rfl))
        simp only [Act.put, List.setIfInBounds_toArray, List.set_cons_zero, List.set_cons_succ]
        refine take_at (i := 4) (v := ?_) rfl (by kernel_rfl) (by kernel_rfl) (by kernel_rfl) (fun _ _ _ h => h) (Or.inl ⟨by rfl, ?_⟩) (by assumption) ?_
        rotate_left
        · (intro w hSw; (try dsimp only at hSw); go_simp; (first | done | with_reducible rfl))
        simp only [Act.put, List.setIfInBounds_toArray, List.set_cons_zero, List.set_cons_succ]
        refine wpAnyH_ready (rs := [5]) (by kernel_rfl) (by simp) ?_
        refine AllReadyH.cons rfl (fun K hK => ?_) AllReadyH.nil
        go_simp
        (go_at_call 49; refine (CI.out _).mono ?_; rintro e w3 ⟨rfl, hb3⟩; go_wp2_with fail)
        refine hK.out _ _ ?_ (fun hHeld => ?_)
        · exact ⟨Ext.cell hb3 y2', Ext.cell hb3 p0, Ext.cell hb3 p1, Ext.cell hb3 g0, Ext.cell hb3 g1⟩
        refine take_at (i := 6) (v := ?_) rfl (by kernel_rfl) (by kernel_rfl) (by kernel_rfl) (fun _ _ _ h => h) (Or.inl ⟨by rfl, ?_⟩) (by assumption) ?_
        rotate_left
        · (intro w hSw; (try dsimp only at hSw); go_simp; (first | done | with_reducible rfl))
        simp only [Act.put, List.setIfInBounds_toArray, List.set_cons_zero, List.set_cons_succ]
        refine take_at (i := 7) (v := ?_) rfl (by kernel_rfl) (by kernel_rfl) (by kernel_rfl) (fun _ _ _ h => h) (Or.inl ⟨by rfl, ?_⟩) (by assumption) ?_
        rotate_left
        · (intro w hSw; (try dsimp only at hSw); go_simp; (first | done | with_reducible rfl))
        simp only [Act.put, List.setIfInBounds_toArray, List.set_cons_zero, List.set_cons_succ]
        refine skip_at (i := 8) rfl (by kernel_rfl) (by kernel_rfl) (by kernel_rfl) (fun _ _ _ h => h) (by rfl) (by assumption) ?_
        simp only [Act.put, List.setIfInBounds_toArray, List.set_cons_zero, List.set_cons_succ]
        refine skip_at (i := 9) rfl (by kernel_rfl) (by kernel_rfl) (by kernel_rfl) (fun _ _ _ h => h) (by rfl) (by assumption) ?_
        simp only [Act.put, List.setIfInBounds_toArray, List.set_cons_zero, List.set_cons_succ]
        refine skip_at (i := 10) rfl (by kernel_rfl) (by kernel_rfl) (by kernel_rfl) (fun _ _ _ h => h) (by rfl) (by assumption) ?_
        simp only [Act.put, List.setIfInBounds_toArray, List.set_cons_zero, List.set_cons_succ]
        refine skip_at (i := 11) rfl (by kernel_rfl) (by kernel_rfl) (by kernel_rfl) (fun _ _ _ h => h) (by rfl) (by assumption) ?_
        simp only [Act.put, List.setIfInBounds_toArray, List.set_cons_zero, List.set_cons_succ]
        refine skip_at (i := 12) rfl (by kernel_rfl) (by kernel_rfl) (by kernel_rfl) (fun _ _ _ h => h) (by rfl) (by assumption) ?_
        simp only [Act.put, List.setIfInBounds_toArray, List.set_cons_zero, List.set_cons_succ]
        refine skip_at (i := 13) rfl (by kernel_rfl) (by kernel_rfl) (by kernel_rfl) (fun _ _ _ h => h) (by rfl) (by assumption) ?_
        simp only [Act.put, List.setIfInBounds_toArray, List.set_cons_zero, List.set_cons_succ]
        refine skip_at (i := 14) rfl (by kernel_rfl) (by kernel_rfl) (by kernel_rfl) (fun _ _ _ h => h) (by rfl) (by assumption) ?_
        simp only [Act.put, List.setIfInBounds_toArray, List.set_cons_zero, List.set_cons_succ]
        refine skip_at (i := 15) rfl (by kernel_rfl) (by kernel_rfl) (by kernel_rfl) (fun _ _ _ h => h) (by rfl) (by assumption) ?_
        simp only [Act.put, List.setIfInBounds_toArray, List.set_cons_zero, List.set_cons_succ]
        refine skip_at (i := 16) rfl (by kernel_rfl) (by kernel_rfl) (by kernel_rfl) (fun _ _ _ h => h) (by rfl) (by assumption) ?_
        simp only [Act.put, List.setIfInBounds_toArray, List.set_cons_zero, List.set_cons_succ]
        refine skip_at (i := 17) rfl (by kernel_rfl) (by kernel_rfl) (by kernel_rfl) (fun _ _ _ h => h) (by rfl) (by assumption) ?_
        simp only [Act.put, List.setIfInBounds_toArray, List.set_cons_zero, List.set_cons_succ]
        refine take_at (i := 18) (v := ?_) rfl (by kernel_rfl) (by kernel_rfl) (by kernel_rfl) (fun _ _ _ h => h) (Or.inl ⟨by rfl, ?_⟩) (by assumption) ?_
        rotate_left
        · (intro w hSw; (try dsimp only at hSw); go_simp; (first | done | with_reducible rfl))
        simp only [Act.put, List.setIfInBounds_toArray, List.set_cons_zero, List.set_cons_succ]
        refine wpAnyH_done (by kernel_rfl) ?_ _
        all_goals
          go_wp2_with fail
          rw [← HPo.out]
          exact ⟨by (repeat' (first | exact Ext.refl _ | assumption | refine Ext.alloc ?_ _ | refine Ext.drew ?_ | refine Ext.drewN ?_ _ | refine Ext.set ?_ (by first | exact Nat.le_refl _ | exact le1 _ | exact le2 _ | exact le3 _ | exact le4 _ | exact le5 _ | exact le6 _) _ | refine Ext.trans ?_ (by assumption))), .inl ⟨HE.out, by first | done | rfl⟩⟩
      · rw [hok] at CI hbad
        simp only [Bool.true_eq_false, false_or, Prod.mk.injEq] at hbad
        obtain ⟨rfl, rfl⟩ := hbad
        replace CI := Lib.hid CI
        clear hok
        go_wp2_with fail
        first | (go_region_held3 (fun w' => w'.cell? ⟨w.heap.size + 1, 2, none⟩ = some (.slice (some ⟨pb, poff, none⟩) ps.length capp) ∧ w'.cell? ⟨pb, poff + k * 2, none⟩ = some (.int .i64 a1) ∧ w'.cell? ⟨pb, poff + k * 2 + 1, none⟩ = some (.int .i64 a2) ∧ w'.cell? ⟨g, k * 2, none⟩ = some (.int .i64 a1) ∧ w'.cell? ⟨g, k * 2 + 1, none⟩ = some (.int .i64 a2)) (refine ⟨?_, ?_, ?_, ?_, ?_⟩ <;> (repeat' (with_reducible (first | assumption | refine Ext.cell hb3 ?_ | refine Ext.cell (Ext.refl _).drew ?_)))) ((go_at_call 49; refine (CI.out _).mono ?_; rintro e w3 ⟨rfl, hb3⟩))) | fail
        all_goals
          go_wp2_with fail
          rw [← HPo.out]
          exact ⟨by (repeat' (first | exact Ext.refl _ | assumption | refine Ext.alloc ?_ _ | refine Ext.drew ?_ | refine Ext.drewN ?_ _ | refine Ext.set ?_ (by first | exact Nat.le_refl _ | exact le1 _ | exact le2 _ | exact le3 _ | exact le4 _ | exact le5 _ | exact le6 _) _ | refine Ext.trans ?_ (by assumption))), .inl ⟨HE.out, by first | done | rfl⟩⟩
    · have hok : okPt (a1, a2) = true := by
        cases h : okPt (a1, a2)
        · exact absurd (.inl h) hbad
        · rfl
      have hne : ¬ ((a1, a2) : Pt) = (j1, j2) := fun e => hbad (.inr e)
      rw [hok] at CI
      replace CI := Lib.hid CI
      have hcase : ¬ a1 = j1 ∨ (a1 = j1 ∧ ¬ a2 = j2) := by
        by_cases h : a1 = j1
        · exact .inr ⟨h, fun h2 => hne (by rw [h, h2])⟩
        · exact .inl h
      by_cases hn : k + 1 = v.units.length
      · have h4 := HPR.out
        rw [List.drop_eq_nil_of_le (show v.units.length ≤ k + 1 by omega)] at h4
        have h3 : putsN (j1, j2) [u] ((a1, a2) :: ps.drop (k + 1)) = [⟨u, (j1, j2), (a1, a2)⟩] := by
          simp only [putsN]
          rw [if_neg (by simp [hok, hne])]
          congr 1
          split
          · cases ps.drop (k + 1) <;> rfl
          · rfl
        rw [h3] at h4
        have h5 : poseB v.units (l1, l2) ps = true := by
          rw [HQ.out, HX.out, ← h4, List.length_append, HPL.out]
          exact decide_eq_true hn
        have h6 := HO.out
        rw [hle, hn] at h6
        have h7 : X.map (·.joint) = pre.map (·.joint) ++ [((j1, j2) : Pt)] := by rw [← h4]; simp
        have HL := Lib.hid (And.intro h5 (And.intro h7 h6))
        have hni : (k : Int) + 1 = (v.units.length : Int) := by omega
        clear h3 h4 h5 h6 h7 hbad hne hok
        rcases hcase with e1 | ⟨rfl, e2⟩
        · go_wp2_with fail
          go_region_held3 (fun w' => w'.cell? ⟨w.heap.size + 1, 2, none⟩ = some (.slice (some ⟨pb, poff, none⟩) ps.length capp) ∧ w'.cell? ⟨pb, poff + k * 2, none⟩ = some (.int .i64 a1) ∧ w'.cell? ⟨pb, poff + k * 2 + 1, none⟩ = some (.int .i64 a2) ∧ w'.cell? ⟨g, k * 2, none⟩ = some (.int .i64 j1) ∧ w'.cell? ⟨g, k * 2 + 1, none⟩ = some (.int .i64 j2)) (refine ⟨?_, ?_, ?_, ?_, ?_⟩ <;> (repeat' (with_reducible (first | assumption | refine Ext.cell hb3 ?_ | refine Ext.cell (Ext.refl _).drew ?_)))) ((go_at_call 49; refine (CI.out _).mono ?_; rintro e w3 ⟨rfl, hb3⟩; have x1w := Ext.cell hb3 x1'))
          all_goals
            go_wp2_with fail
            rw [← HPo.out]
            exact ⟨by (repeat' (first | exact Ext.refl _ | assumption | refine Ext.alloc ?_ _ | refine Ext.drew ?_ | refine Ext.drewN ?_ _ | refine Ext.set ?_ (by first | exact Nat.le_refl _ | exact le1 _ | exact le2 _ | exact le3 _ | exact le4 _ | exact le5 _ | exact le6 _) _ | refine Ext.trans ?_ (by assumption))), .inr ⟨HL.out.1, .slice (some ⟨g, 0, none⟩) v.units.length c, rfl, by rw [HX.out, HL.out.2.1]; exact (HL.out.2.2.ext (show Ext wr w3 from (Ext.refl wr).drew.trans hb3)).down E1.sz⟩⟩
        · go_wp2_with fail
          go_region_held3 (fun w' => w'.cell? ⟨w.heap.size + 1, 2, none⟩ = some (.slice (some ⟨pb, poff, none⟩) ps.length capp) ∧ w'.cell? ⟨pb, poff + k * 2, none⟩ = some (.int .i64 a1) ∧ w'.cell? ⟨pb, poff + k * 2 + 1, none⟩ = some (.int .i64 a2) ∧ w'.cell? ⟨g, k * 2, none⟩ = some (.int .i64 a1) ∧ w'.cell? ⟨g, k * 2 + 1, none⟩ = some (.int .i64 j2)) (refine ⟨?_, ?_, ?_, ?_, ?_⟩ <;> (repeat' (with_reducible (first | assumption | refine Ext.cell hb3 ?_ | refine Ext.cell (Ext.refl _).drew ?_)))) ((go_at_call 49; refine (CI.out _).mono ?_; rintro e w3 ⟨rfl, hb3⟩; have x1w := Ext.cell hb3 x1'))
          all_goals
            go_wp2_with fail
            rw [← HPo.out]
            exact ⟨by (repeat' (first | exact Ext.refl _ | assumption | refine Ext.alloc ?_ _ | refine Ext.drew ?_ | refine Ext.drewN ?_ _ | refine Ext.set ?_ (by first | exact Nat.le_refl _ | exact le1 _ | exact le2 _ | exact le3 _ | exact le4 _ | exact le5 _ | exact le6 _) _ | refine Ext.trans ?_ (by assumption))), .inr ⟨HL.out.1, .slice (some ⟨g, 0, none⟩) v.units.length c, rfl, by rw [HX.out, HL.out.2.1]; exact (HL.out.2.2.ext (show Ext wr w3 from (Ext.refl wr).drew.trans hb3)).down E1.sz⟩⟩
      · have hni : ¬ (k : Int) + 1 = (v.units.length : Int) := by omega
        have hlt : k + 1 < v.units.length := by omega
        obtain ⟨q, hq⟩ : ∃ q, placeS (a1, a2) (j1, j2) (rearN u) 0 = q := ⟨_, rfl⟩
        have h4 := HPR.out
        have h3 : putsN (j1, j2) (u :: v.units.drop (k + 1)) ((a1, a2) :: ps.drop (k + 1)) = ⟨u, (j1, j2), (a1, a2)⟩ :: (if q.2 = 0 then putsN q.1 (v.units.drop (k + 1)) (ps.drop (k + 1)) else []) := by
          simp only [putsN]
          rw [if_neg (by simp [hok, hne]), hq]
        rw [h3] at h4
        have HQ2 := Lib.hid h4
        have CE := fun w' (h : Ext w w') => rear_c (.slice (ex k).1 u.axles.length (ex k).2) u w' hv (HAX.out.ext RAxle.stable h)
        have HCE := Lib.hid CE
        have CA := fun w' => RPlace_c a1 a2 j1 j2 (rearN u) 0 w'
        rw [hq] at CA
        have HCA := Lib.hid CA
        generalize rearN u = RN at *
        clear h3 h4 hbad hne hok hq CE CA hv
        rcases hcase with e1 | ⟨rfl, e2⟩
        · go_wp2_with fail
          go_region_held3 (fun w' => w'.cell? ⟨w.heap.size + 1, 2, none⟩ = some (.slice (some ⟨pb, poff, none⟩) ps.length capp) ∧ w'.cell? ⟨pb, poff + k * 2, none⟩ = some (.int .i64 a1) ∧ w'.cell? ⟨pb, poff + k * 2 + 1, none⟩ = some (.int .i64 a2) ∧ w'.cell? ⟨g, k * 2, none⟩ = some (.int .i64 j1) ∧ w'.cell? ⟨g, k * 2 + 1, none⟩ = some (.int .i64 j2)) (refine ⟨?_, ?_, ?_, ?_, ?_⟩ <;> (repeat' (with_reducible (first | assumption | refine Ext.cell hb6 ?_ | refine Ext.cell hb5 ?_ | refine Ext.cell hb3 ?_ | refine Ext.cell (Ext.refl _).drew ?_ | refine cell_set_ne (by first | omega | (simp; omega)) ?_ | refine Ext.cell ((Ext.refl _).alloc _) ?_)))) ((go_at_call 49; refine (CI.out _).mono ?_; rintro e w3 ⟨rfl, hb3⟩; have x1w := Ext.cell hb3 x1'))
          all_goals
            have E3 : Ext wr w3 := (Ext.refl wr).drew.trans hb3
            have EW3 : Ext w w3 := E.trans E3
            have hz3 := E3.sz
            replace y2' := Ext.cell E3 y2'
            replace p0 := Ext.cell E3 p0
            replace p1 := Ext.cell E3 p1
            replace g0 := Ext.cell E3 g0
            replace g1 := Ext.cell E3 g1
            replace k0 := Ext.cell E3 k0
            replace k1 := Ext.cell E3 k1
            replace k2 := Ext.cell E3 k2
            replace k3 := Ext.cell E3 k3
            replace k4 := Ext.cell E3 k4
            replace k5 := Ext.cell E3 k5
            replace k6 := Ext.cell E3 k6
            replace k7 := Ext.cell E3 k7
            replace k8 := Ext.cell E3 k8
            replace k9 := Ext.cell E3 k9
            replace k10 := Ext.cell E3 k10
            have hlg := lt_of_cell g0
            have hlb := lt_of_cell k0
            have hlp := lt_of_cell p0
            have HO3 := Lib.hid (HO.out.ext E3)
            have hb3' := hb.trans E3
            clear hb3 x1' HO CI hb E E3
            go_upto_region 11 with fail
            go_cut [8, 9] from 26 to 83 (fun s8 s9 wc => ∃ t, s8 = .pointer (some ⟨t, 0, none⟩) ∧ s9 = .int .i64 q.2 ∧ Ext w3 wc ∧ w3.heap.size ≤ t ∧ wc.heap[t]? = some (.cells #[.int .i64 q.1.1, .int .i64 q.1.2] 26 (0, 0)))
            case first =>
              go_region_held3 (fun w' => w'.cell? ⟨w.heap.size + 1, 2, none⟩ = some (.slice (some ⟨pb, poff, none⟩) ps.length capp) ∧ w'.cell? ⟨pb, poff + k * 2, none⟩ = some (.int .i64 a1) ∧ w'.cell? ⟨pb, poff + k * 2 + 1, none⟩ = some (.int .i64 a2) ∧ w'.cell? ⟨g, k * 2, none⟩ = some (.int .i64 j1) ∧ w'.cell? ⟨g, k * 2 + 1, none⟩ = some (.int .i64 j2) ∧ w'.cell? ⟨w.heap.size, 1, none⟩ = some (.slice (some ⟨b, off, none⟩) v.units.length cap) ∧ w'.cell? ⟨b, off + k * 11, none⟩ = some (.int .i64 u.kind) ∧ w'.cell? ⟨b, off + k * 11 + 1, none⟩ = some (.int .i64 u.length) ∧ w'.cell? ⟨b, off + k * 11 + 2, none⟩ = some (.int .i64 u.behind) ∧ w'.cell? ⟨b, off + k * 11 + 3, none⟩ = some (.int .i64 u.front) ∧ w'.cell? ⟨b, off + k * 11 + 4, none⟩ = some (.int .i64 u.rear) ∧ w'.cell? ⟨b, off + k * 11 + 5, none⟩ = some (.int .i64 u.width) ∧ w'.cell? ⟨b, off + k * 11 + 6, none⟩ = some (.int .i64 u.height) ∧ w'.cell? ⟨b, off + k * 11 + 7, none⟩ = some (.int .i64 u.mass) ∧ w'.cell? ⟨b, off + k * 11 + 8, none⟩ = some (.int .i64 u.steer) ∧ w'.cell? ⟨b, off + k * 11 + 9, none⟩ = some (.int .i64 u.most) ∧ w'.cell? ⟨b, off + k * 11 + 10, none⟩ = some (.slice (ex k).1 u.axles.length (ex k).2)) (refine ⟨?_, ?_, ?_, ?_, ?_, ?_, ?_, ?_, ?_, ?_, ?_, ?_, ?_, ?_, ?_, ?_, ?_⟩ <;> (repeat' (with_reducible (first | assumption | refine Ext.cell hb6 ?_ | refine Ext.cell hb5 ?_ | refine Ext.cell hb3 ?_ | refine Ext.cell (Ext.refl _).drew ?_ | refine cell_set_ne (by first | omega | (simp; omega)) ?_ | refine Ext.cell ((Ext.refl _).alloc _) ?_)))) (first
                | (go_at_call 50; refine (HCE.out _ (by (repeat' (first | exact Ext.refl _ | assumption | refine Ext.alloc ?_ _ | refine Ext.drew ?_ | refine Ext.drewN ?_ _ | refine Ext.set ?_ (by first | exact Nat.le_refl _ | exact le1 _ | exact le2 _ | exact le3 _ | exact le4 _ | exact le5 _ | exact le6 _) _ | refine Ext.trans ?_ (by assumption))))).mono ?_; rintro e w5 ⟨rfl, hb5⟩; have z5 := hb5.size; (first | rw [size_alloc, size_drew] at z5 | rw [size_drew] at z5); (try (have yb : w5.heap[w3.heap.size]? = some (.cells #[.int .i64 0, .int .i64 0] 26 (0, 0)) := new_kept (W := w3.drew) hb5)))
                | (go_at_call 33; refine (HCA.out _).mono ?_; rintro e w6 ⟨rfl, hb6⟩; unfold ptV; have z6 := hb6.size; (try rw [size_alloc] at z6); (try (first | (have yc : w6.heap[w3.heap.size]? = some (.cells #[.int .i64 0, .int .i64 0] 26 (0, 0)) := (hb6.block _ (Array.getElem?_eq_some_iff.1 yb).1).trans yb; have y0 : w6.cell? ⟨w3.heap.size, 0, none⟩ = some (.int .i64 0) := World.news_of_block yc 0 _ rfl; have y1 : w6.cell? ⟨w3.heap.size, 1, none⟩ = some (.int .i64 0) := World.news_of_block yc 1 _ rfl; have f0 := blk_frz yc 0; have f1 := blk_frz yc 1) | (have yc : w6.heap[w5.heap.size]? = some (.cells #[.int .i64 0, .int .i64 0] 26 (0, 0)) := new_kept (W := w5) hb6; have y0 : w6.cell? ⟨w5.heap.size, 0, none⟩ = some (.int .i64 0) := World.news_of_block yc 0 _ rfl; have y1 : w6.cell? ⟨w5.heap.size, 1, none⟩ = some (.int .i64 0) := World.news_of_block yc 1 _ rfl; have f0 := blk_frz yc 0; have f1 := blk_frz yc 1)))))
              all_goals
                go_wp2_with fail
                go_meet
                first
                  | exact ⟨w6.heap.size, rfl, rfl, by (repeat' (first | exact Ext.refl _ | assumption | refine Ext.alloc ?_ _ | refine Ext.drew ?_ | refine Ext.drewN ?_ _ | refine Ext.set ?_ (by first | exact Nat.le_refl _ | exact le1 _ | exact le2 _ | exact le3 _ | exact le4 _ | exact le5 _ | exact le6 _) _ | refine Ext.trans ?_ (by assumption))), by omega, World.alloc_heap_new w6 _⟩
                  | exact ⟨w5.heap.size, rfl, rfl, ((show Ext w3 w6 from by (repeat' (first | exact Ext.refl _ | assumption | refine Ext.alloc ?_ _ | refine Ext.drew ?_ | refine Ext.drewN ?_ _ | refine Ext.set ?_ (by first | exact Nat.le_refl _ | exact le1 _ | exact le2 _ | exact le3 _ | exact le4 _ | exact le5 _ | exact le6 _) _ | refine Ext.trans ?_ (by assumption)))).set (p := ⟨w5.heap.size, 0, none⟩) z5 _).set (p := ⟨w5.heap.size, 1, none⟩) z5 _, z5, two1 _ (two0 _ yc)⟩
                  | exact ⟨w3.heap.size, rfl, rfl, ((show Ext w3 w6 from by (repeat' (first | exact Ext.refl _ | assumption | refine Ext.alloc ?_ _ | refine Ext.drew ?_ | refine Ext.drewN ?_ _ | refine Ext.set ?_ (by first | exact Nat.le_refl _ | exact le1 _ | exact le2 _ | exact le3 _ | exact le4 _ | exact le5 _ | exact le6 _) _ | refine Ext.trans ?_ (by assumption)))).set (p := ⟨w3.heap.size, 0, none⟩) (Nat.le_refl _) _).set (p := ⟨w3.heap.size, 1, none⟩) (Nat.le_refl _) _, Nat.le_refl _, two1 _ (two0 _ yc)⟩
            case rest =>
              obtain ⟨t, rfl, rfl, E7, ht, hT⟩ := hcut
              have t0 := World.news_of_block hT 0 _ rfl
              have t1 := World.news_of_block hT 1 _ rfl
              rw [add_none, Nat.zero_add] at t0 t1
              have htl := lt_of_cell t0
              by_cases h0 : q.2 = 0
              · obtain ⟨ip, hip, hz0, hz1, hz2⟩ := info_parts infoPoint
                have HO7 := HO3.out.ext E7
                have hb7 := hb3'.trans E7
                have hs7 := hb7.sz
                have HH0 := Lib.hid h0
                go_wp2_with (at_builtin; refine wpList_append_lies _ rfl _ _ 27 rfl w1.heap.size 26 ip _ 2 16 Tryz.underlying27 hip hz0 hz1 hz2 rfl (by omega) (.slice (some ⟨g, 0, none⟩) (k + 1) c) (k + 1) (flatP (pre.map (·.joint) ++ [((j1, j2) : Pt)])) rfl (by have := HO7.alloc (.cells #[.int .i64 q.1.1, .int .i64 q.1.2] 26); unfold OwnP at this; rw [hle] at this; exact this) ⟨wc.heap.size, 0, none⟩ 1 1 [.int .i64 q.1.1, .int .i64 q.1.2] rfl rfl (World.news_of_block (cs := #[.int .i64 q.1.1, .int .i64 q.1.2]) (t := 26) (fr := (0, 0)) (heap_alloc_new _ _)) (by simp [Value.oneCell']) (by omega) (by unfold maxLen; omega) (by omega) (by simp; omega) (wc.heap.size + 1) (by simp) ?_; intro g4 cap4 w8 hown8 hgrow8 hat8 hlt8)
                go_roundw
                case rel => exact ⟨k + 1, pre ++ [⟨u, (j1, j2), (a1, a2)⟩], q.1.1, q.1.2, by omega, by go_num, by have := hown8; rw [← hle, ← flatP_snoc] at this; unfold OwnP; simpa [List.map_append, HPL.out] using this, by simp [HPL.out], by have := HQ2.out; rw [if_pos HH0.out] at this; simpa using this, Ext.grown (hb7.alloc _) hgrow8 (fun j hj => by have hgj : g = j := (by simpa [Value.ownBlock] using hj); subst hgj; exact own_ge HO7 g (by simp [Value.ownBlock]))⟩
                case measure => simp [intOf]; omega
              · have hX' : poseB v.units (l1, l2) ps = false := by
                  have := HQ2.out
                  rw [if_neg h0] at this
                  rw [HQ.out, HX.out, ← this, List.length_append, HPL.out]
                  exact decide_eq_false (by simp; omega)
                have HE := Lib.hid hX'
                have hb7 := hb3'.trans E7
                clear hX'
                go_wp2_with fail
                rw [← HPo.out]
                exact ⟨by (repeat' (first | exact Ext.refl _ | assumption | refine Ext.alloc ?_ _ | refine Ext.drew ?_ | refine Ext.drewN ?_ _ | refine Ext.set ?_ (by first | exact Nat.le_refl _ | exact le1 _ | exact le2 _ | exact le3 _ | exact le4 _ | exact le5 _ | exact le6 _) _ | refine Ext.trans ?_ (by assumption))), .inl ⟨HE.out, by first | done | rfl⟩⟩
        · go_wp2_with fail
          go_region_held3 (fun w' => w'.cell? ⟨w.heap.size + 1, 2, none⟩ = some (.slice (some ⟨pb, poff, none⟩) ps.length capp) ∧ w'.cell? ⟨pb, poff + k * 2, none⟩ = some (.int .i64 a1) ∧ w'.cell? ⟨pb, poff + k * 2 + 1, none⟩ = some (.int .i64 a2) ∧ w'.cell? ⟨g, k * 2, none⟩ = some (.int .i64 a1) ∧ w'.cell? ⟨g, k * 2 + 1, none⟩ = some (.int .i64 j2)) (refine ⟨?_, ?_, ?_, ?_, ?_⟩ <;> (repeat' (with_reducible (first | assumption | refine Ext.cell hb6 ?_ | refine Ext.cell hb5 ?_ | refine Ext.cell hb3 ?_ | refine Ext.cell (Ext.refl _).drew ?_ | refine cell_set_ne (by first | omega | (simp; omega)) ?_ | refine Ext.cell ((Ext.refl _).alloc _) ?_)))) ((go_at_call 49; refine (CI.out _).mono ?_; rintro e w3 ⟨rfl, hb3⟩; have x1w := Ext.cell hb3 x1'))
          all_goals
            have E3 : Ext wr w3 := (Ext.refl wr).drew.trans hb3
            have EW3 : Ext w w3 := E.trans E3
            have hz3 := E3.sz
            replace y2' := Ext.cell E3 y2'
            replace p0 := Ext.cell E3 p0
            replace p1 := Ext.cell E3 p1
            replace g0 := Ext.cell E3 g0
            replace g1 := Ext.cell E3 g1
            replace k0 := Ext.cell E3 k0
            replace k1 := Ext.cell E3 k1
            replace k2 := Ext.cell E3 k2
            replace k3 := Ext.cell E3 k3
            replace k4 := Ext.cell E3 k4
            replace k5 := Ext.cell E3 k5
            replace k6 := Ext.cell E3 k6
            replace k7 := Ext.cell E3 k7
            replace k8 := Ext.cell E3 k8
            replace k9 := Ext.cell E3 k9
            replace k10 := Ext.cell E3 k10
            have hlg := lt_of_cell g0
            have hlb := lt_of_cell k0
            have hlp := lt_of_cell p0
            have HO3 := Lib.hid (HO.out.ext E3)
            have hb3' := hb.trans E3
            clear hb3 x1' HO CI hb E E3
            go_upto_region 11 with fail
            go_cut [8, 9] from 26 to 83 (fun s8 s9 wc => ∃ t, s8 = .pointer (some ⟨t, 0, none⟩) ∧ s9 = .int .i64 q.2 ∧ Ext w3 wc ∧ w3.heap.size ≤ t ∧ wc.heap[t]? = some (.cells #[.int .i64 q.1.1, .int .i64 q.1.2] 26 (0, 0)))
            case first =>
              go_region_held3 (fun w' => w'.cell? ⟨w.heap.size + 1, 2, none⟩ = some (.slice (some ⟨pb, poff, none⟩) ps.length capp) ∧ w'.cell? ⟨pb, poff + k * 2, none⟩ = some (.int .i64 a1) ∧ w'.cell? ⟨pb, poff + k * 2 + 1, none⟩ = some (.int .i64 a2) ∧ w'.cell? ⟨g, k * 2, none⟩ = some (.int .i64 a1) ∧ w'.cell? ⟨g, k * 2 + 1, none⟩ = some (.int .i64 j2) ∧ w'.cell? ⟨w.heap.size, 1, none⟩ = some (.slice (some ⟨b, off, none⟩) v.units.length cap) ∧ w'.cell? ⟨b, off + k * 11, none⟩ = some (.int .i64 u.kind) ∧ w'.cell? ⟨b, off + k * 11 + 1, none⟩ = some (.int .i64 u.length) ∧ w'.cell? ⟨b, off + k * 11 + 2, none⟩ = some (.int .i64 u.behind) ∧ w'.cell? ⟨b, off + k * 11 + 3, none⟩ = some (.int .i64 u.front) ∧ w'.cell? ⟨b, off + k * 11 + 4, none⟩ = some (.int .i64 u.rear) ∧ w'.cell? ⟨b, off + k * 11 + 5, none⟩ = some (.int .i64 u.width) ∧ w'.cell? ⟨b, off + k * 11 + 6, none⟩ = some (.int .i64 u.height) ∧ w'.cell? ⟨b, off + k * 11 + 7, none⟩ = some (.int .i64 u.mass) ∧ w'.cell? ⟨b, off + k * 11 + 8, none⟩ = some (.int .i64 u.steer) ∧ w'.cell? ⟨b, off + k * 11 + 9, none⟩ = some (.int .i64 u.most) ∧ w'.cell? ⟨b, off + k * 11 + 10, none⟩ = some (.slice (ex k).1 u.axles.length (ex k).2)) (refine ⟨?_, ?_, ?_, ?_, ?_, ?_, ?_, ?_, ?_, ?_, ?_, ?_, ?_, ?_, ?_, ?_, ?_⟩ <;> (repeat' (with_reducible (first | assumption | refine Ext.cell hb6 ?_ | refine Ext.cell hb5 ?_ | refine Ext.cell hb3 ?_ | refine Ext.cell (Ext.refl _).drew ?_ | refine cell_set_ne (by first | omega | (simp; omega)) ?_ | refine Ext.cell ((Ext.refl _).alloc _) ?_)))) (first
                | (go_at_call 50; refine (HCE.out _ (by (repeat' (first | exact Ext.refl _ | assumption | refine Ext.alloc ?_ _ | refine Ext.drew ?_ | refine Ext.drewN ?_ _ | refine Ext.set ?_ (by first | exact Nat.le_refl _ | exact le1 _ | exact le2 _ | exact le3 _ | exact le4 _ | exact le5 _ | exact le6 _) _ | refine Ext.trans ?_ (by assumption))))).mono ?_; rintro e w5 ⟨rfl, hb5⟩; have z5 := hb5.size; (first | rw [size_alloc, size_drew] at z5 | rw [size_drew] at z5); (try (have yb : w5.heap[w3.heap.size]? = some (.cells #[.int .i64 0, .int .i64 0] 26 (0, 0)) := new_kept (W := w3.drew) hb5)))
                | (go_at_call 33; refine (HCA.out _).mono ?_; rintro e w6 ⟨rfl, hb6⟩; unfold ptV; have z6 := hb6.size; (try rw [size_alloc] at z6); (try (first | (have yc : w6.heap[w3.heap.size]? = some (.cells #[.int .i64 0, .int .i64 0] 26 (0, 0)) := (hb6.block _ (Array.getElem?_eq_some_iff.1 yb).1).trans yb; have y0 : w6.cell? ⟨w3.heap.size, 0, none⟩ = some (.int .i64 0) := World.news_of_block yc 0 _ rfl; have y1 : w6.cell? ⟨w3.heap.size, 1, none⟩ = some (.int .i64 0) := World.news_of_block yc 1 _ rfl; have f0 := blk_frz yc 0; have f1 := blk_frz yc 1) | (have yc : w6.heap[w5.heap.size]? = some (.cells #[.int .i64 0, .int .i64 0] 26 (0, 0)) := new_kept (W := w5) hb6; have y0 : w6.cell? ⟨w5.heap.size, 0, none⟩ = some (.int .i64 0) := World.news_of_block yc 0 _ rfl; have y1 : w6.cell? ⟨w5.heap.size, 1, none⟩ = some (.int .i64 0) := World.news_of_block yc 1 _ rfl; have f0 := blk_frz yc 0; have f1 := blk_frz yc 1)))))
              all_goals
                go_wp2_with fail
                go_meet
                first
                  | exact ⟨w6.heap.size, rfl, rfl, by (repeat' (first | exact Ext.refl _ | assumption | refine Ext.alloc ?_ _ | refine Ext.drew ?_ | refine Ext.drewN ?_ _ | refine Ext.set ?_ (by first | exact Nat.le_refl _ | exact le1 _ | exact le2 _ | exact le3 _ | exact le4 _ | exact le5 _ | exact le6 _) _ | refine Ext.trans ?_ (by assumption))), by omega, World.alloc_heap_new w6 _⟩
                  | exact ⟨w5.heap.size, rfl, rfl, ((show Ext w3 w6 from by (repeat' (first | exact Ext.refl _ | assumption | refine Ext.alloc ?_ _ | refine Ext.drew ?_ | refine Ext.drewN ?_ _ | refine Ext.set ?_ (by first | exact Nat.le_refl _ | exact le1 _ | exact le2 _ | exact le3 _ | exact le4 _ | exact le5 _ | exact le6 _) _ | refine Ext.trans ?_ (by assumption)))).set (p := ⟨w5.heap.size, 0, none⟩) z5 _).set (p := ⟨w5.heap.size, 1, none⟩) z5 _, z5, two1 _ (two0 _ yc)⟩
                  | exact ⟨w3.heap.size, rfl, rfl, ((show Ext w3 w6 from by (repeat' (first | exact Ext.refl _ | assumption | refine Ext.alloc ?_ _ | refine Ext.drew ?_ | refine Ext.drewN ?_ _ | refine Ext.set ?_ (by first | exact Nat.le_refl _ | exact le1 _ | exact le2 _ | exact le3 _ | exact le4 _ | exact le5 _ | exact le6 _) _ | refine Ext.trans ?_ (by assumption)))).set (p := ⟨w3.heap.size, 0, none⟩) (Nat.le_refl _) _).set (p := ⟨w3.heap.size, 1, none⟩) (Nat.le_refl _) _, Nat.le_refl _, two1 _ (two0 _ yc)⟩
            case rest =>
              obtain ⟨t, rfl, rfl, E7, ht, hT⟩ := hcut
              have t0 := World.news_of_block hT 0 _ rfl
              have t1 := World.news_of_block hT 1 _ rfl
              rw [add_none, Nat.zero_add] at t0 t1
              have htl := lt_of_cell t0
              by_cases h0 : q.2 = 0
              · obtain ⟨ip, hip, hz0, hz1, hz2⟩ := info_parts infoPoint
                have HO7 := HO3.out.ext E7
                have hb7 := hb3'.trans E7
                have hs7 := hb7.sz
                have HH0 := Lib.hid h0
                go_wp2_with (at_builtin; refine wpList_append_lies _ rfl _ _ 27 rfl w1.heap.size 26 ip _ 2 16 Tryz.underlying27 hip hz0 hz1 hz2 rfl (by omega) (.slice (some ⟨g, 0, none⟩) (k + 1) c) (k + 1) (flatP (pre.map (·.joint) ++ [((a1, j2) : Pt)])) rfl (by have := HO7.alloc (.cells #[.int .i64 q.1.1, .int .i64 q.1.2] 26); unfold OwnP at this; rw [hle] at this; exact this) ⟨wc.heap.size, 0, none⟩ 1 1 [.int .i64 q.1.1, .int .i64 q.1.2] rfl rfl (World.news_of_block (cs := #[.int .i64 q.1.1, .int .i64 q.1.2]) (t := 26) (fr := (0, 0)) (heap_alloc_new _ _)) (by simp [Value.oneCell']) (by omega) (by unfold maxLen; omega) (by omega) (by simp; omega) (wc.heap.size + 1) (by simp) ?_; intro g4 cap4 w8 hown8 hgrow8 hat8 hlt8)
                go_roundw
                case rel => exact ⟨k + 1, pre ++ [⟨u, (a1, j2), (a1, a2)⟩], q.1.1, q.1.2, by omega, by go_num, by have := hown8; rw [← hle, ← flatP_snoc] at this; unfold OwnP; simpa [List.map_append, HPL.out] using this, by simp [HPL.out], by have := HQ2.out; rw [if_pos HH0.out] at this; simpa using this, Ext.grown (hb7.alloc _) hgrow8 (fun j hj => by have hgj : g = j := (by simpa [Value.ownBlock] using hj); subst hgj; exact own_ge HO7 g (by simp [Value.ownBlock]))⟩
                case measure => simp [intOf]; omega
              · have hX' : poseB v.units (l1, l2) ps = false := by
                  have := HQ2.out
                  rw [if_neg h0] at this
                  rw [HQ.out, HX.out, ← this, List.length_append, HPL.out]
                  exact decide_eq_false (by simp; omega)
                have HE := Lib.hid hX'
                have hb7 := hb3'.trans E7
                clear hX'
                go_wp2_with fail
                rw [← HPo.out]
                exact ⟨by (repeat' (first | exact Ext.refl _ | assumption | refine Ext.alloc ?_ _ | refine Ext.drew ?_ | refine Ext.drewN ?_ _ | refine Ext.set ?_ (by first | exact Nat.le_refl _ | exact le1 _ | exact le2 _ | exact le3 _ | exact le4 _ | exact le5 _ | exact le6 _) _ | refine Ext.trans ?_ (by assumption))), .inl ⟨HE.out, by first | done | rfl⟩⟩
end
end Go.Proofs.YtcbjecpfijogcaaGreat
