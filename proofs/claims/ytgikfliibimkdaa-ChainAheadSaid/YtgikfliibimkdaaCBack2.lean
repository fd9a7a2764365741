/- Contract: Back, by the program, where it goes. -/
import Derived.Test.YtgikfliibimkdaaCBackF
import Derived.Test.YtgikfliibimkdaaCSame
import Derived.Sort.CutIn
namespace Go.Proofs.Ytgikfliibimkdaa
open Go.RowKit Go.Shelf
attribute [local go_sem] Oper.semAt_some

section
variable {vu vp vst : Value} {v : CVeh} {ps : List Pt} {st : List Int}
set_option maxRecDepth 100000 in
set_option maxHeartbeats 6400000 in
theorem Back_go (o1 o2 l1 l2 : Int) (w : World) (hs : Sl 11 RUnit w vu v.units) (hp : Pts w vp ps) (hst : Sl 1 RNum w vst st) (h : poseE v (o1, o2) ps = 0) (h2 : okPt (l1, l2) = true) (h3 : backB v.units = true) (h4 : steerE v st = 0) :
    Calls Try.prog 26 #[vehV v vu, poseV (o1, o2) vp, .agg #[.int .i64 l1, .int .i64 l2], vst] w (BackR v (o1, o2) ps (l1, l2) st w) := by
  have CC := fun w' (h : Ext w w') => CheckPose_c (lead := (o1, o2)) w' (hs.ext RUnit.stable h) (hp.ext h)
  rw [h] at CC
  have C1 := fun w => Check_c l1 l2 w
  rw [show checkS (l1, l2) = 0 by simp [checkS, h2]] at C1
  have CF := fun w' (h' : Ext w w') => backs_c vu v.units w' (hs.ext RUnit.stable h')
  rw [h3] at CF
  have C2 := fun w' (h' : Ext w w') => checkSteer_c vu vst v st w' (hs.ext RUnit.stable h') (hst.ext RNum.stable h') (puts_len h).2.1
  rw [h4] at C2
  have CR := fun w' (he : Ext w w') lq vq pq (hq : Pts w' vq pq) => ready_c (v := v) (lead := lq) (vp := vq) (ps := pq) w' (hs.ext RUnit.stable he) hq
  obtain ⟨r, hr⟩ : ∃ r, backK v.units ps st v.units.length (l1, l2) [] = r := ⟨_, rfl⟩
  have HR := Lib.hid (backS_go h h2 h3 h4 hr)
  have HTL := Lib.hid hr
  have HB := Lib.hid h3
  have hpl := puts_len h
  have hsl := steer_len h4
  have HLEN := Lib.hid (And.intro hpl.2.2 hsl.1)
  have HV := Lib.hid (vehE_units hpl.2.1)
  have HLN := Lib.hid (vehE_len hpl.2.1)
  have HSB := Lib.hid hsl.2
  have HPT := Lib.hid hp
  have HST := Lib.hid hst
  obtain ⟨A, cap, rfl, hl, hl2⟩ := hs.shape
  obtain ⟨ex, hU⟩ := ucells hs
  have HU := Lib.hid hU
  obtain ⟨Ap, capp, rfl⟩ := pts_shape hp
  obtain ⟨As, caps, rfl, hls, hls2⟩ := hst.shape
  obtain ⟨Post, hPost⟩ : ∃ Post, BackR v (o1, o2) ps (l1, l2) st w = Post := ⟨_, rfl⟩
  rw [hPost]
  have HPo := Lib.hid hPost
  unfold vehV poseV at *
  simp only at CC C2 CR ⊢
  replace CC := Lib.hid CC
  replace C1 := Lib.hid C1
  replace CF := Lib.hid CF
  replace C2 := Lib.hid C2
  replace CR := Lib.hid CR
  have hn24 := HLN.out
  have hmk := make_pts v.units.length (by omega)
  obtain ⟨MC, hMC⟩ : ∃ MC, (flatP (List.replicate v.units.length (0, 0))).toArray = MC := ⟨_, rfl⟩
  rw [hMC] at hmk
  have HMC := Lib.hid hMC
  obtain ⟨u0, hu0⟩ := some_of_lt (show 0 < v.units.length by omega)
  obtain ⟨b, off, rfl, _, _⟩ := HU.out.at' 0 u0 hu0
  have HBB := Lib.hid (show b < w.heap.size from by
    obtain ⟨b', off', e', _, hc'⟩ := HU.out.at' 0 u0 hu0
    simp only [Option.some.injEq, Addr.mk.injEq, and_true] at e'
    obtain ⟨rfl, rfl⟩ := e'
    exact lt_of_cell (hc' 0 _ rfl))
  clear hs hp hst h h3 h4 hPost hr hpl hsl hU hMC hu0
  refine (callsIn_wide (n := 5)).1 ?_
  refine callsIn_of_wp_marks Try.func26 rfl trivial ?_ rfl
  refine wpIn_wide.2 ?_
  simp only [Try.ntmps26, List.size_toArray, List.length_cons, List.length_nil, Nat.reduceAdd, Nat.reduceSub, Array.replicate_succ, Array.replicate_zero, List.push_toArray, List.append_toArray, List.nil_append, List.cons_append]
  go_upto_region 11 with (first | (go_at_call 14; refine (CC.out _ (by (repeat' (first | exact Ext.refl _ | assumption | refine Ext.alloc ?_ _ | refine Ext.drew ?_ | refine Ext.drewN ?_ _ | refine Ext.set ?_ (by first | exact Nat.le_refl _ | exact le1 _ | exact le2 _ | exact le3 _ | exact le4 _ | exact le5 _ | exact le6 _) _ | refine Ext.trans ?_ (by assumption))))).mono ?_; rintro e w1 ⟨rfl, hb⟩; have y0 := Ext.cell hb (p := ⟨w.heap.size, 0, none⟩) (v := .string v.name) (by go_simp); have y1 := Ext.cell hb (p := ⟨w.heap.size, 1, none⟩) (v := .slice (some ⟨b, off, none⟩) v.units.length cap) (by go_simp); have y2 := Ext.cell hb (p := ⟨w.heap.size, 2, none⟩) (v := .int .i64 v.first) (by go_simp); have y3 := Ext.cell hb (p := ⟨w.heap.size, 3, none⟩) (v := .int .i64 v.last) (by go_simp); have t0 := Ext.cell hb (p := ⟨w.heap.size + 1, 0, none⟩) (v := .int .i64 o1) (by go_simp); have t1 := Ext.cell hb (p := ⟨w.heap.size + 1, 1, none⟩) (v := .int .i64 o2) (by go_simp); have t2 := Ext.cell hb (p := ⟨w.heap.size + 1, 2, none⟩) (v := .slice Ap ps.length capp) (by go_simp); have L0 := Ext.cell hb (p := ⟨w.heap.size + 1 + 1, 0, none⟩) (v := .int .i64 l1) (by go_simp); have L1 := Ext.cell hb (p := ⟨w.heap.size + 1 + 1, 1, none⟩) (v := .int .i64 l2) (by go_simp); have S0 := Ext.cell hb (p := ⟨w.heap.size + 1 + 1 + 1, 0, none⟩) (v := .slice As st.length caps) (by go_simp); have hR : w1.heap[w.heap.size + 1 + 1 + 1 + 1]? = some (.cells #[.int .i64 0, .int .i64 0, .slice none 0 0] 29 (0, 0)) := (hb.block _ (by simp)).trans (heap_old (new_at (by simp))); have hE : w1.heap[w.heap.size + 1 + 1 + 1 + 1 + 1]? = some (.cells #[.int .i64 0] 32 (0, 0)) := (hb.block _ (by simp)).trans (new_at (by simp)); have E3 : Ext w w1 := (((((((Ext.refl w).alloc _).alloc _).alloc _).alloc _).alloc _).alloc _).trans hb; clear hb) | (go_at_call 40; refine (C1.out _).mono ?_; rintro e w2 ⟨rfl, hb⟩; replace y0 := Ext.cell hb y0; replace y1 := Ext.cell hb y1; replace y2 := Ext.cell hb y2; replace y3 := Ext.cell hb y3; replace t0 := Ext.cell hb t0; replace t1 := Ext.cell hb t1; replace t2 := Ext.cell hb t2; replace L0 := Ext.cell hb L0; replace L1 := Ext.cell hb L1; replace S0 := Ext.cell hb S0; replace hR := hb.blk hR; replace hE := hb.blk hE; replace E3 := E3.trans hb; clear hb) | (go_at_call 62; refine (CF.out _ E3).mono ?_; rintro e w4 ⟨rfl, hb⟩; replace y0 := Ext.cell hb y0; replace y1 := Ext.cell hb y1; replace y2 := Ext.cell hb y2; replace y3 := Ext.cell hb y3; replace t0 := Ext.cell hb t0; replace t1 := Ext.cell hb t1; replace t2 := Ext.cell hb t2; replace L0 := Ext.cell hb L0; replace L1 := Ext.cell hb L1; replace S0 := Ext.cell hb S0; replace hR := hb.blk hR; replace hE := hb.blk hE; replace E3 := E3.trans hb; clear hb) | (go_at_call 55; refine (C2.out _ E3).mono ?_; rintro e w3 ⟨rfl, hb⟩; replace y0 := Ext.cell hb y0; replace y1 := Ext.cell hb y1; replace y2 := Ext.cell hb y2; replace y3 := Ext.cell hb y3; replace t0 := Ext.cell hb t0; replace t1 := Ext.cell hb t1; replace t2 := Ext.cell hb t2; replace L0 := Ext.cell hb L0; replace L1 := Ext.cell hb L1; replace S0 := Ext.cell hb S0; replace hR := hb.blk hR; replace hE := hb.blk hE; replace E3 := E3.trans hb; clear hb; have r0 : w3.cell? ⟨w.heap.size + 1 + 1 + 1 + 1, 0, none⟩ = some (.int .i64 0) := World.news_of_block hR 0 _ rfl; have r1 : w3.cell? ⟨w.heap.size + 1 + 1 + 1 + 1, 1, none⟩ = some (.int .i64 0) := World.news_of_block hR 1 _ rfl; have r2 : w3.cell? ⟨w.heap.size + 1 + 1 + 1 + 1, 2, none⟩ = some (.slice none 0 0) := World.news_of_block hR 2 _ rfl; have e0 : w3.cell? ⟨w.heap.size + 1 + 1 + 1 + 1 + 1, 0, none⟩ = some (.int .i64 0) := World.news_of_block hE 0 _ rfl; have f0 := blk_frz hR 0; have f1 := blk_frz hR 1; have f2 := blk_frz hR 2; have fe := blk_frz hE 0; have hlR := fst_lt hR; have hlE := fst_lt hE; have hly := lt_of_cell y0; have hlt := lt_of_cell t0; have hlL := lt_of_cell L0; have hlS := lt_of_cell S0))
  go_upto_region 13 with fail
  have h34 : Ext w3 (((w3.alloc (.cells MC 26)).alloc (.cells #[.int .i64 0, .int .i64 0, .slice (some ⟨w3.heap.size, 0, none⟩) v.units.length v.units.length] 29)).alloc (.cells #[.int .i64 l1, .int .i64 l2] 26)) := (((Ext.refl w3).alloc _).alloc _).alloc _
  have hM4 : BlkP (((w3.alloc (.cells MC 26)).alloc (.cells #[.int .i64 0, .int .i64 0, .slice (some ⟨w3.heap.size, 0, none⟩) v.units.length v.units.length] 29)).alloc (.cells #[.int .i64 l1, .int .i64 l2] 26)) w3.heap.size (List.replicate v.units.length (0, 0)) := by unfold BlkP; rw [HMC.out]; exact heap_old (heap_old (new_at rfl))
  have hP4 : (((w3.alloc (.cells MC 26)).alloc (.cells #[.int .i64 0, .int .i64 0, .slice (some ⟨w3.heap.size, 0, none⟩) v.units.length v.units.length] 29)).alloc (.cells #[.int .i64 l1, .int .i64 l2] 26)).heap[w3.heap.size + 1]? = some (.cells #[.int .i64 0, .int .i64 0, .slice (some ⟨w3.heap.size, 0, none⟩) v.units.length v.units.length] 29 (0, 0)) := heap_old (new_at (by simp))
  have hJ4 : (((w3.alloc (.cells MC 26)).alloc (.cells #[.int .i64 0, .int .i64 0, .slice (some ⟨w3.heap.size, 0, none⟩) v.units.length v.units.length] 29)).alloc (.cells #[.int .i64 l1, .int .i64 l2] 26)).heap[w3.heap.size + 1 + 1]? = some (.cells #[.int .i64 l1, .int .i64 l2] 26 (0, 0)) := new_at (by simp)
  have hz4 : (((w3.alloc (.cells MC 26)).alloc (.cells #[.int .i64 0, .int .i64 0, .slice (some ⟨w3.heap.size, 0, none⟩) v.units.length v.units.length] 29)).alloc (.cells #[.int .i64 l1, .int .i64 l2] 26)).heap.size = w3.heap.size + 1 + 1 + 1 := by simp
  generalize (((w3.alloc (.cells MC 26)).alloc (.cells #[.int .i64 0, .int .i64 0, .slice (some ⟨w3.heap.size, 0, none⟩) v.units.length v.units.length] 29)).alloc (.cells #[.int .i64 l1, .int .i64 l2] 26)) = W4 at *
  have HZ4 := Lib.hid hz4
  clear hz4
  have y1q := Ext.cell h34 y1
  clear r0 r1 r2 e0 f0 f1 f2 fe hly hlt hlL hlS hlR hlE
  have CB := Lib.hid (fun w => Backward_c (some ⟨b, off, none⟩) v.units.length cap w)
  go_wp2_with (go_at_call 64; refine (CB.out _).mono ?_; rintro e w6 ⟨rfl, rfl⟩)
  obtain ⟨W5, hW5⟩ : ∃ W5, W4.alloc (.cells #[.slice (some ⟨b, off, none⟩) v.units.length cap] 22) = W5 := ⟨_, rfl⟩
  have h45 : Ext W4 W5 := by rw [← hW5]; exact (Ext.refl W4).alloc _
  have hB5 : W5.heap[W4.heap.size]? = some (.cells #[.slice (some ⟨b, off, none⟩) v.units.length cap] 22 (0, 0)) := by rw [← hW5]; exact new_at rfl
  have hz5 : W5.heap.size = W4.heap.size + 1 := by rw [← hW5]; simp
  rw [hW5]
  have h35 := h34.trans h45
  have hM5 := hM4.ext h45
  have hP5 := h45.blk hP4
  have hJ5 := h45.blk hJ4
  have hBc : W5.cell? ⟨W4.heap.size, 0, none⟩ = some (.slice (some ⟨b, off, none⟩) v.units.length cap) := news_at hB5 0 _ rfl
  clear hW5 hM4 hP4 hJ4 h34 h45 y1q
  have E5 := E3.trans h35
  have hzz := E3.sz
  have hz4 := HZ4.out
  have hbb := HBB.out
  refine (wpIn_wide (n := 5)).1 ?_
  refine tmps_gen ?_
  intro T0 hT0
  refine wpIn_rangeFunc_ownH (n := 5) (F := Fence.wide) rfl (by omega) (gf := 92) (lb := #[.pointer (some ⟨W4.heap.size, 0, none⟩)]) (by subst hT0; rfl) trivial (enters_of Try.func92 (by kernel_rfl) rfl)
      (Bw_stops Fence.wide 4 trivial rfl (by omega) W4.heap.size w3.heap.size b off cap v.units ex (by omega) (by omega) W5 hBc (fun i u hu j c hj => by
        obtain ⟨b', off', e', _, hc'⟩ := HU.out.at' i u hu
        simp only [Option.some.injEq, Addr.mk.injEq, and_true] at e'
        obtain ⟨rfl, rfl⟩ := e'
        exact Ext.cell E5 (hc' j c hj))) KpW.trans (KpW.put (by omega) (by omega)) (Below.refl _ _) (fun _ => rfl)
      (fun pre W => (∃ jt l, bst v.units ps st (l1, l2) pre = .inl (jt, l) ∧ l.length = v.units.length ∧ BlkP W w3.heap.size l ∧ W.heap[w3.heap.size + 1 + 1]? = some (.cells #[.int .i64 jt.1, .int .i64 jt.2] 26 (0, 0))) ∧ W.heap[w3.heap.size + 1]? = some (.cells #[.int .i64 0, .int .i64 0, .slice (some ⟨w3.heap.size, 0, none⟩) v.units.length v.units.length] 29 (0, 0)) ∧ Ext w3 W ∧ W5.heap.size ≤ W.heap.size)
      (fun c pre W => c = .ret ∧ ∃ e, bst v.units ps st (l1, l2) pre = .inr e ∧ W.heap[w.heap.size + 1 + 1 + 1 + 1]? = some (.cells #[.int .i64 0, .int .i64 0, .slice none 0 0] 29 (0, 0)) ∧ W.heap[w.heap.size + 1 + 1 + 1 + 1 + 1]? = some (.cells #[.int .i64 e] 32 (0, 0)) ∧ Ext w W)
      (fun s X Y row hs hg hr => ?ownI) (fun c s X Y row hs hg hr => ?ownX) ⟨⟨(l1, l2), _, rfl, by simp, hM5, hJ5⟩, hP5, h35, Nat.le_refl _⟩
      (fun x a' W => ∃ B, W5.heap.size ≤ B ∧ W.heap[B]? = some (.cells #[.int .i64 (v.units.get x).kind, .int .i64 (v.units.get x).length, .int .i64 (v.units.get x).behind, .int .i64 (v.units.get x).front, .int .i64 (v.units.get x).rear, .int .i64 (v.units.get x).width, .int .i64 (v.units.get x).height, .int .i64 (v.units.get x).mass, .int .i64 (v.units.get x).steer, .int .i64 (v.units.get x).most, .slice (ex x.1).1 (v.units.get x).axles.length (ex x.1).2] 68 (0, 0)) ∧ a' = { tmps := (((T0.setIfInBounds 49 (.int .i64 (x.1 : Int))).setIfInBounds 50 (unitVal (ex x.1) (v.units.get x))).setIfInBounds 14 (.int .i64 (x.1 : Int))).setIfInBounds 15 (.pointer (some ⟨B, 0, none⟩)), defers := [] })
      (fun x a' _ X Y row hs hg hr => ?ownA) ?assign ?body ?done ?stop
  case ownI =>
    obtain ⟨⟨jt, l, h1, h2, h3, h4⟩, h5, h6, h7⟩ := hs
    have hrr := fun r e => (hr r e).2
    exact ⟨⟨jt, l, h1, h2, kept_blk h3 hg hrr, kept_blk h4 hg hrr⟩, kept_blk h5 hg hrr, h6.trans' hg (fun k e => by have h8 := (hr k e).1; omega), Nat.le_trans h7 hg.size⟩
  case ownX =>
    obtain ⟨h1, e, h2, h3, h4, h5⟩ := hs
    have hrr := fun r e => (hr r e).2
    exact ⟨h1, e, h2, kept_blk h3 hg hrr, kept_blk h4 hg hrr, h5.trans' hg (fun k e => by have h8 := (hr k e).1; omega)⟩
  case ownA =>
    obtain ⟨B, h1, h2, h3⟩ := hs
    exact ⟨B, h1, kept_blk h2 hg (fun r e => (hr r e).2), h3⟩
  case assign =>
    rintro l pre x W K ⟨⟨jt, l0, h1, h2, h3, h4⟩, h5, h6, h7⟩ hK
    have HK := Lib.hid hK
    have hsW := h6.sz
    clear hK
    unfold bwE unitVal
    subst hT0
    gi_wp2
    exact HK.out _ _ (((Ext.refl W).alloc _).from _) (KpW.ext ((Ext.refl W).alloc _) (by omega) (by omega)) ⟨⟨jt, l0, h1, h2, h3.ext ((Ext.refl W).alloc _), ((Ext.refl W).alloc _).blk h4⟩, ((Ext.refl W).alloc _).blk h5, h6.alloc _, Nat.le_trans h7 (by simp)⟩ ⟨W.heap.size, h7, new_at rfl, by unfold unitVal; simp⟩
  case body =>
    rintro l pre x a' W hl ⟨rc, hrc⟩ ⟨⟨jt, row, h1, hrl, h3, h4⟩, h5, h6, h7⟩ ⟨B, hB, hU15, rfl⟩ hlt
    obtain ⟨k, hku⟩ := x
    obtain ⟨u, hu⟩ := some_of_lt hku
    have hget : v.units.get ⟨k, hku⟩ = u := by
      obtain ⟨g1, g2⟩ := List.getElem?_eq_some_iff.1 hu
      exact g2
    dsimp only at hU15
    rw [hget] at hU15
    obtain ⟨⟨a1, a2⟩, ha⟩ := some_of_lt (show k < ps.length by have := HLEN.out; omega)
    obtain ⟨s, hsx⟩ := some_of_lt (show k < st.length by have := HLEN.out; omega)
    obtain ⟨⟨z1, z2⟩, hz⟩ := some_of_lt (show k < row.length by omega)
    obtain ⟨pb, poff, rfl, p0, p1⟩ := pts_at HPT.out ha
    obtain ⟨sb, soff, css, rfl, _, ⟨rfl, _, _⟩, hcs⟩ := HST.out.at hsx
    have hvu := HV.out u (mem_of_some hu)
    have hmost := unit_most hvu
    have hbds := unitB_bds hvu
    have hsr := steerB_at HSB.out hu hsx
    obtain ⟨j1, j2⟩ := jt
    obtain ⟨p, hp⟩ : ∃ p, pullTS (j1, j2) (a1, a2) u.behind s = p := ⟨_, rfl⟩
    obtain ⟨j, hj⟩ : ∃ j, placeS p.1 (j1, j2) (-u.length) 0 = j := ⟨_, rfl⟩
    have hnx : bst v.units ps st (l1, l2) (pre ++ [⟨k, hku⟩]) = (if p.2 = 0 then (if j.2 = 0 then .inl (j.1, row.set k p.1) else .inr j.2) else .inr p.2) := by rw [bst_snoc, h1]; exact bst1_eq (jt := (j1, j2)) (l := row) hget ha hsx hp hj
    have CPl := fun w' => pullT_c j1 j2 a1 a2 u.behind s w' (by omega) (by omega)
    rw [hp] at CPl
    have CJ := fun w' => Place_c p.1.1 p.1.2 j1 j2 (-u.length) 0 w'
    have hj2 : placeS (p.1.1, p.1.2) (j1, j2) (-u.length) 0 = j := hj
    rw [hj2] at CJ
    have ewl := IntWalk.i64_in (-u.length) (by omega)
    have EW := E3.trans h6
    have hsW := h6.sz
    replace p0 := Ext.cell EW p0
    replace p1 := Ext.cell EW p1
    have s0 := Ext.cell EW (hcs 0 _ rfl)
    simp only [Nat.add_zero, Nat.mul_one] at s0
    have t2r := Ext.cell h6 t2
    have S0r := Ext.cell h6 S0
    have j0 : W.cell? ⟨w3.heap.size + 1 + 1, 0, none⟩ = some (.int .i64 j1) := news_at h4 0 _ rfl
    have j00 : W.cell? ⟨w3.heap.size + 1 + 1, 1, none⟩ = some (.int .i64 j2) := news_at h4 1 _ rfl
    have d2 : W.cell? ⟨B, 2, none⟩ = some (.int .i64 u.behind) := news_at hU15 2 _ rfl
    have hlB := fst_lt hU15
    have HCP := Lib.hid CPl
    have HCJ := Lib.hid CJ
    have HNX := Lib.hid hnx
    have HRL := Lib.hid hrl
    have HZ := Lib.hid hz
    have H3 := Lib.hid h3
    have H4 := Lib.hid h4
    have H5 := Lib.hid h5
    have H15 := Lib.hid hU15
    have i0 : (0 : Int) ≤ (k : Int) := by omega
    have i2 : (k : Int) < (v.units.length : Int) := by omega
    have i3 : (k : Int) < (ps.length : Int) := by have := HLEN.out; omega
    have i4 : (k : Int) < (st.length : Int) := by have := HLEN.out; omega
    have hlj := lt_of_cell j0
    have hlt2 := lt_of_cell t2r
    have hlS := lt_of_cell S0r
    have hlp := lt_of_cell p0
    have hls := lt_of_cell s0
    have hzB : w3.heap.size + 1 + 1 < B := by omega
    have HZB := Lib.hid hz5
    have HZC := Lib.hid hz4
    clear hz5 hz4
    clear CPl CJ hnx hrl hz h1 h3 h4 h5 hU15 hvu hmost hbds hsr hp hj hj2 hget hu ha hsx hcs hlt hrc
    subst hT0
    simp only [List.setIfInBounds_toArray, List.set_cons_zero, List.set_cons_succ]
    gi_upto_region 16 with fail
    refine round_held (S := (fun w' => w'.cell? ⟨w3.heap.size + 1 + 1, 0, none⟩ = some (.int .i64 j1) ∧ w'.cell? ⟨w3.heap.size + 1 + 1, 1, none⟩ = some (.int .i64 j2) ∧ w'.cell? ⟨w.heap.size + 1, 2, none⟩ = some (.slice (some ⟨pb, poff, none⟩) ps.length capp) ∧ w'.cell? ⟨pb, poff + k * 2, none⟩ = some (.int .i64 a1) ∧ w'.cell? ⟨pb, poff + k * 2 + 1, none⟩ = some (.int .i64 a2) ∧ w'.cell? ⟨B, 2, none⟩ = some (.int .i64 u.behind) ∧ w'.cell? ⟨w.heap.size + 1 + 1 + 1, 0, none⟩ = some (.slice (some ⟨sb, soff, none⟩) st.length caps) ∧ w'.cell? ⟨sb, soff + k, none⟩ = some (.int .i64 s))) (by kernel_rfl) (by kernel_rfl) (fun ⟨_, _, h⟩ => h) ⟨j0, j00, t2r, p0, p1, d2, S0r, s0⟩ (fun hHeld => ?_)
    refine take_at (i := 0) (v := ?_) rfl (by kernel_rfl) (by kernel_rfl) (by kernel_rfl) (fun _ _ _ h => h) (Or.inl ⟨by rfl, ?_⟩) (by assumption) ?_
    rotate_left
    · (intro w hSw; (try dsimp only at hSw); go_simp; (first | done | with_reducible rfl))
    simp only [Act.put, List.setIfInBounds_toArray, List.set_cons_zero, List.set_cons_succ]
    refine take_at (i := 1) (v := ?_) rfl (by kernel_rfl) (by kernel_rfl) (by kernel_rfl) (fun _ _ _ h => h) (Or.inl ⟨by rfl, ?_⟩) (by assumption) ?_
    rotate_left
    · (intro w hSw; (try dsimp only at hSw); go_simp; (first | done | with_reducible rfl))
    simp only [Act.put, List.setIfInBounds_toArray, List.set_cons_zero, List.set_cons_succ]
    refine take_at (i := 2) (v := ?_) rfl (by kernel_rfl) (by kernel_rfl) (by kernel_rfl) (fun _ _ _ h => h) (Or.inl ⟨by rfl, ?_⟩) (by assumption) ?_
    rotate_left
    · (intro w hSw; (try dsimp only at hSw); go_simp; (first | done | with_reducible rfl))
    simp only [Act.put, List.setIfInBounds_toArray, List.set_cons_zero, List.set_cons_succ]
    refine take_at (i := 3) (v := ?_) rfl (by kernel_rfl) (by kernel_rfl) (by kernel_rfl) (fun _ _ _ h => h) (Or.inl ⟨by rfl, ?_⟩) (by assumption) ?_
    rotate_left
    · (intro w hSw; (try dsimp only at hSw); go_simp; (first | done | with_reducible rfl))
    simp only [Act.put, List.setIfInBounds_toArray, List.set_cons_zero, List.set_cons_succ]
    refine take_at (i := 4) (v := ?_) rfl (by kernel_rfl) (by kernel_rfl) (by kernel_rfl) (fun _ _ _ h => h) (Or.inl ⟨by rfl, ?_⟩) (by assumption) ?_
    rotate_left
    · (intro w hSw; (try dsimp only at hSw); go_simp; (first | done | with_reducible rfl))
    simp only [Act.put, List.setIfInBounds_toArray, List.set_cons_zero, List.set_cons_succ]
    refine take_at (i := 5) (v := ?_) rfl (by kernel_rfl) (by kernel_rfl) (by kernel_rfl) (fun _ _ _ h => h) (Or.inl ⟨by rfl, ?_⟩) (by assumption) ?_
    rotate_left
    · (intro w hSw; (try dsimp only at hSw); go_simp; (first | done | with_reducible rfl))
    simp only [Act.put, List.setIfInBounds_toArray, List.set_cons_zero, List.set_cons_succ]
    refine take_at (i := 6) (v := ?_) rfl (by kernel_rfl) (by kernel_rfl) (by kernel_rfl) (fun _ _ _ h => h) (Or.inl ⟨by rfl, ?_⟩) (by assumption) ?_
    rotate_left
    · (intro w hSw; (try dsimp only at hSw); go_simp; (first | done | with_reducible rfl))
    simp only [Act.put, List.setIfInBounds_toArray, List.set_cons_zero, List.set_cons_succ]
    refine take_at (i := 7) (v := ?_) rfl (by kernel_rfl) (by kernel_rfl) (by kernel_rfl) (fun _ _ _ h => h) (Or.inl ⟨by rfl, ?_⟩) (by assumption) ?_
    rotate_left
    · (intro w hSw; (try dsimp only at hSw); go_simp; (first | done | with_reducible rfl))
    simp only [Act.put, List.setIfInBounds_toArray, List.set_cons_zero, List.set_cons_succ]
    refine take_at (i := 8) (v := ?_) rfl (by kernel_rfl) (by kernel_rfl) (by kernel_rfl) (fun _ _ _ h => h) (Or.inl ⟨by rfl, ?_⟩) (by assumption) ?_
    rotate_left
    · (intro w hSw; (try dsimp only at hSw); go_simp; (first | done | with_reducible rfl))
    simp only [Act.put, List.setIfInBounds_toArray, List.set_cons_zero, List.set_cons_succ]
    refine take_at (i := 9) (v := ?_) rfl (by kernel_rfl) (by kernel_rfl) (by kernel_rfl) (fun _ _ _ h => h) (Or.inl ⟨by rfl, ?_⟩) (by assumption) ?_
    rotate_left
    · (intro w hSw; (try dsimp only at hSw); go_simp; (first | done | with_reducible rfl))
    simp only [Act.put, List.setIfInBounds_toArray, List.set_cons_zero, List.set_cons_succ]
    refine take_at (i := 10) (v := ?_) rfl (by kernel_rfl) (by kernel_rfl) (by kernel_rfl) (fun _ _ _ h => h) (Or.inl ⟨by rfl, ?_⟩) (by assumption) ?_
    rotate_left
    · (intro w hSw; (try dsimp only at hSw); go_simp; (first | done | with_reducible rfl))
    simp only [Act.put, List.setIfInBounds_toArray, List.set_cons_zero, List.set_cons_succ]
    refine take_at (i := 11) (v := ?_) rfl (by kernel_rfl) (by kernel_rfl) (by kernel_rfl) (fun _ _ _ h => h) (Or.inl ⟨by rfl, ?_⟩) (by assumption) ?_
    rotate_left
    · (intro w hSw; (try dsimp only at hSw); go_simp; (first | done | with_reducible rfl))
    simp only [Act.put, List.setIfInBounds_toArray, List.set_cons_zero, List.set_cons_succ]
    refine held_two (i := 12) (i2 := 16) rfl rfl (by kernel_rfl) (fun K hK => ?_) (fun K hK => ?_)
    · go_simp
      (go_at_call 56; refine (HCP.out _).mono ?_; rintro e wZ ⟨rfl, hbZ⟩; unfold ptV; go_wp2_with fail)
      have EZ : Ext W wZ := (Ext.refl W).drew.trans hbZ
      refine hK.out _ _ ⟨Ext.cell EZ j0, Ext.cell EZ j00, Ext.cell EZ t2r, Ext.cell EZ p0, Ext.cell EZ p1, Ext.cell EZ d2, Ext.cell EZ S0r, Ext.cell EZ s0⟩ (fun hHeld3 => ?_)
      refine take_at (i := 13) (v := ?_) rfl (by kernel_rfl) (by kernel_rfl) (by kernel_rfl) (fun _ _ _ h => h) (Or.inl ⟨by rfl, ?_⟩) (by assumption) ?_
      rotate_left
      · (intro w hSw; (try dsimp only at hSw); go_simp; (first | done | with_reducible rfl))
      simp only [Act.put, List.setIfInBounds_toArray, List.set_cons_zero, List.set_cons_succ]
      refine take_at (i := 14) (v := ?_) rfl (by kernel_rfl) (by kernel_rfl) (by kernel_rfl) (fun _ _ _ h => h) (Or.inl ⟨by rfl, ?_⟩) (by assumption) ?_
      rotate_left
      · (intro w hSw; (try dsimp only at hSw); go_simp; (first | done | with_reducible rfl))
      simp only [Act.put, List.setIfInBounds_toArray, List.set_cons_zero, List.set_cons_succ]
      refine take_at (i := 15) (v := ?_) rfl (by kernel_rfl) (by kernel_rfl) (by kernel_rfl) (fun _ _ _ h => h) (Or.inl ⟨by rfl, ?_⟩) (by assumption) ?_
      rotate_left
      · (intro w hSw; (try dsimp only at hSw); go_simp; (first | done | with_reducible rfl))
      simp only [Act.put, List.setIfInBounds_toArray, List.set_cons_zero, List.set_cons_succ]
      refine held_one (i := 16) rfl (by kernel_rfl) (fun K hK => ?_)
      go_simp
      refine hK.out _ _ ⟨Ext.cell ((Ext.refl _).alloc _) (Ext.cell EZ j0), Ext.cell ((Ext.refl _).alloc _) (Ext.cell EZ j00), Ext.cell ((Ext.refl _).alloc _) (Ext.cell EZ t2r), Ext.cell ((Ext.refl _).alloc _) (Ext.cell EZ p0), Ext.cell ((Ext.refl _).alloc _) (Ext.cell EZ p1), Ext.cell ((Ext.refl _).alloc _) (Ext.cell EZ d2), Ext.cell ((Ext.refl _).alloc _) (Ext.cell EZ S0r), Ext.cell ((Ext.refl _).alloc _) (Ext.cell EZ s0)⟩ (fun hHeld4 => ?_)
      refine held_one (i := 17) rfl (by kernel_rfl) (fun K hK => ?_)
      go_simp
      refine hK.out _ _ ⟨Ext.cell ((Ext.refl _).alloc _) (Ext.cell EZ j0), Ext.cell ((Ext.refl _).alloc _) (Ext.cell EZ j00), Ext.cell ((Ext.refl _).alloc _) (Ext.cell EZ t2r), Ext.cell ((Ext.refl _).alloc _) (Ext.cell EZ p0), Ext.cell ((Ext.refl _).alloc _) (Ext.cell EZ p1), Ext.cell ((Ext.refl _).alloc _) (Ext.cell EZ d2), Ext.cell ((Ext.refl _).alloc _) (Ext.cell EZ S0r), Ext.cell ((Ext.refl _).alloc _) (Ext.cell EZ s0)⟩ (fun hHeld5 => ?_)
      refine take_at (i := 18) (v := ?_) rfl (by kernel_rfl) (by kernel_rfl) (by kernel_rfl) (fun _ _ _ h => h) (Or.inl ⟨by rfl, ?_⟩) (by assumption) ?_
      rotate_left
      · (intro w hSw; (try dsimp only at hSw); go_simp; (first | done | with_reducible rfl))
      simp only [Act.put, List.setIfInBounds_toArray, List.set_cons_zero, List.set_cons_succ]
      refine wpAnyH_done (by kernel_rfl) ?_ _
      have E8 : Ext W (wZ.alloc (.cells #[.int .i64 p.1.1, .int .i64 p.1.2] 26)) := EZ.alloc _
      have hT8 : (wZ.alloc (.cells #[.int .i64 p.1.1, .int .i64 p.1.2] 26)).heap[wZ.heap.size]? = some (.cells #[.int .i64 p.1.1, .int .i64 p.1.2] 26 (0, 0)) := new_at rfl
      have hTW := EZ.sz
      generalize (wZ.alloc (.cells #[.int .i64 p.1.1, .int .i64 p.1.2] 26)) = W8 at *
      clear hHeld hHeld3 hHeld5 hK hHeld4
      have h38 := h6.trans E8
      have EW8 := E3.trans h38
      have hR8 := h38.blk hR
      have hE8 := h38.blk hE
      have hM8 := H3.out.ext E8
      have hJ8 := E8.blk H4.out
      have hP8 := E8.blk H5.out
      have hU8 := E8.blk H15.out
      clear j0 j00 t2r p0 p1 d2 S0r s0
      by_cases hn : p.2 = 0
      case neg =>
        have r0 : W8.cell? ⟨w.heap.size + 1 + 1 + 1 + 1, 0, none⟩ = some (.int .i64 0) := news_at hR8 0 _ rfl
        have r1 : W8.cell? ⟨w.heap.size + 1 + 1 + 1 + 1, 1, none⟩ = some (.int .i64 0) := news_at hR8 1 _ rfl
        have r2 : W8.cell? ⟨w.heap.size + 1 + 1 + 1 + 1, 2, none⟩ = some (.slice none 0 0) := news_at hR8 2 _ rfl
        have e0 : W8.cell? ⟨w.heap.size + 1 + 1 + 1 + 1 + 1, 0, none⟩ = some (.int .i64 0) := news_at hE8 0 _ rfl
        have f0 := blk_frz hR8 0
        have f1 := blk_frz hR8 1
        have f2 := blk_frz hR8 2
        have fe := blk_frz hE8 0
        have hlR := fst_lt hR8
        have hlE := fst_lt hE8
        have HN := Lib.hid hn
        gi_wp2
        have hR2 := three_set (.int .i64 0) (.int .i64 0) (.slice none 0 0) hR8
        have hE2 : (((W8.setCell ⟨w.heap.size + 1 + 1 + 1 + 1, 0, none⟩ (.int .i64 0)).setCell ⟨w.heap.size + 1 + 1 + 1 + 1, 1, none⟩ (.int .i64 0)).setCell ⟨w.heap.size + 1 + 1 + 1 + 1, 2, none⟩ (.slice none 0 0)).heap[w.heap.size + 1 + 1 + 1 + 1 + 1]? = some (.cells #[.int .i64 0] 32 (0, 0)) := (heap_ne (by omega)).trans ((heap_ne (by omega)).trans ((heap_ne (by omega)).trans hE8))
        have hR3 : ((((W8.setCell ⟨w.heap.size + 1 + 1 + 1 + 1, 0, none⟩ (.int .i64 0)).setCell ⟨w.heap.size + 1 + 1 + 1 + 1, 1, none⟩ (.int .i64 0)).setCell ⟨w.heap.size + 1 + 1 + 1 + 1, 2, none⟩ (.slice none 0 0)).setCell ⟨w.heap.size + 1 + 1 + 1 + 1 + 1, 0, none⟩ (.int .i64 p.2)).heap[w.heap.size + 1 + 1 + 1 + 1]? = some (.cells #[.int .i64 0, .int .i64 0, .slice none 0 0] 29 (0, 0)) := (heap_ne (by omega)).trans hR2
        have hE3 := one_set (.int .i64 p.2) hE2
        have ER2 := (((EW8.set (p := ⟨w.heap.size + 1 + 1 + 1 + 1, 0, none⟩) (le4 _) (.int .i64 0)).set (p := ⟨w.heap.size + 1 + 1 + 1 + 1, 1, none⟩) (le4 _) (.int .i64 0)).set (p := ⟨w.heap.size + 1 + 1 + 1 + 1, 2, none⟩) (le4 _) (.slice none 0 0)).set (p := ⟨w.heap.size + 1 + 1 + 1 + 1 + 1, 0, none⟩) (le5 _) (.int .i64 p.2)
        exact ⟨((((E8.from _).trans (keeps_set _ _ _ _)).trans (keeps_set _ _ _ _)).trans (keeps_set _ _ _ _)).trans (keeps_set _ _ _ _), rfl, p.2, by rw [HNX.out, if_neg HN.out], hR3, hE3, ER2⟩
      case pos =>
        have q2 : W8.cell? ⟨w3.heap.size + 1, 2, none⟩ = some (.slice (some ⟨w3.heap.size, 0, none⟩) v.units.length v.units.length) := news_at hP8 2 _ rfl
        have b0 : W8.cell? ⟨wZ.heap.size, 0, none⟩ = some (.int .i64 p.1.1) := news_at hT8 0 _ rfl
        have b1 : W8.cell? ⟨wZ.heap.size, 1, none⟩ = some (.int .i64 p.1.2) := news_at hT8 1 _ rfl
        obtain ⟨x0, x1⟩ := hM8.cell HZ.out
        have g0 := blk_frz hM8 (k * 2)
        have g1 := blk_frz hM8 (k * 2 + 1)
        simp only at x0 x1
        gi_upto_region 20 with fail
        have hM9 := hM8.set (k := k) (by have := HRL.out; omega) p.1.1 p.1.2
        have h39 : Ext w3 ((W8.setCell ⟨w3.heap.size, k * 2, none⟩ (.int .i64 p.1.1)).setCell ⟨w3.heap.size, k * 2 + 1, none⟩ (.int .i64 p.1.2)) := (h38.set (p := ⟨w3.heap.size, k * 2, none⟩) (Nat.le_refl _) _).set (p := ⟨w3.heap.size, k * 2 + 1, none⟩) (Nat.le_refl _) _
        have hP9 : ((W8.setCell ⟨w3.heap.size, k * 2, none⟩ (.int .i64 p.1.1)).setCell ⟨w3.heap.size, k * 2 + 1, none⟩ (.int .i64 p.1.2)).heap[w3.heap.size + 1]? = some (.cells #[.int .i64 0, .int .i64 0, .slice (some ⟨w3.heap.size, 0, none⟩) v.units.length v.units.length] 29 (0, 0)) := (heap_ne (by omega)).trans ((heap_ne (by omega)).trans hP8)
        have hJ9 : ((W8.setCell ⟨w3.heap.size, k * 2, none⟩ (.int .i64 p.1.1)).setCell ⟨w3.heap.size, k * 2 + 1, none⟩ (.int .i64 p.1.2)).heap[w3.heap.size + 1 + 1]? = some (.cells #[.int .i64 j1, .int .i64 j2] 26 (0, 0)) := (heap_ne (by omega)).trans ((heap_ne (by omega)).trans hJ8)
        have hT9 : ((W8.setCell ⟨w3.heap.size, k * 2, none⟩ (.int .i64 p.1.1)).setCell ⟨w3.heap.size, k * 2 + 1, none⟩ (.int .i64 p.1.2)).heap[wZ.heap.size]? = some (.cells #[.int .i64 p.1.1, .int .i64 p.1.2] 26 (0, 0)) := (heap_ne (by omega)).trans ((heap_ne (by omega)).trans hT8)
        have hU9 : ((W8.setCell ⟨w3.heap.size, k * 2, none⟩ (.int .i64 p.1.1)).setCell ⟨w3.heap.size, k * 2 + 1, none⟩ (.int .i64 p.1.2)).heap[B]? = some (.cells #[.int .i64 u.kind, .int .i64 u.length, .int .i64 u.behind, .int .i64 u.front, .int .i64 u.rear, .int .i64 u.width, .int .i64 u.height, .int .i64 u.mass, .int .i64 u.steer, .int .i64 u.most, .slice (ex k).1 u.axles.length (ex k).2] 68 (0, 0)) := (heap_ne (by omega)).trans ((heap_ne (by omega)).trans hU8)
        have K9 : KeepsFrom W5.heap.size W ((W8.setCell ⟨w3.heap.size, k * 2, none⟩ (.int .i64 p.1.1)).setCell ⟨w3.heap.size, k * 2 + 1, none⟩ (.int .i64 p.1.2)) := ((E8.from _).trans (keeps_set _ _ _ _)).trans (keeps_set _ _ _ _)
        have Kp9 : KpW w3.heap.size W4.heap.size W ((W8.setCell ⟨w3.heap.size, k * 2, none⟩ (.int .i64 p.1.1)).setCell ⟨w3.heap.size, k * 2 + 1, none⟩ (.int .i64 p.1.2)) := ((KpW.ext E8 (by omega) (by have := HZB.out; omega)).set (a := ⟨w3.heap.size, k * 2, none⟩) (Nat.le_refl _) (by show W4.heap.size ≠ w3.heap.size; have := HZC.out; omega) _).set (a := ⟨w3.heap.size, k * 2 + 1, none⟩) (Nat.le_refl _) (by show W4.heap.size ≠ w3.heap.size; have := HZC.out; omega) _
        have hsz9 : W.heap.size ≤ ((W8.setCell ⟨w3.heap.size, k * 2, none⟩ (.int .i64 p.1.1)).setCell ⟨w3.heap.size, k * 2 + 1, none⟩ (.int .i64 p.1.2)).heap.size := K9.size
        generalize ((W8.setCell ⟨w3.heap.size, k * 2, none⟩ (.int .i64 p.1.1)).setCell ⟨w3.heap.size, k * 2 + 1, none⟩ (.int .i64 p.1.2)) = W9 at *
        clear hM8 hJ8 hP8 hU8 hT8 q2 b0 b1 x0 x1 g0 g1 E8 h38 EW8 hR8 hE8
        have b0 : W9.cell? ⟨wZ.heap.size, 0, none⟩ = some (.int .i64 p.1.1) := news_at hT9 0 _ rfl
        have b1 : W9.cell? ⟨wZ.heap.size, 1, none⟩ = some (.int .i64 p.1.2) := news_at hT9 1 _ rfl
        have j0 : W9.cell? ⟨w3.heap.size + 1 + 1, 0, none⟩ = some (.int .i64 j1) := news_at hJ9 0 _ rfl
        have j00 : W9.cell? ⟨w3.heap.size + 1 + 1, 1, none⟩ = some (.int .i64 j2) := news_at hJ9 1 _ rfl
        have d1 : W9.cell? ⟨B, 1, none⟩ = some (.int .i64 u.length) := news_at hU9 1 _ rfl
        gi_upto_region 21 with (refine ⟨trivial, ?_⟩; gi_at_call 57; refine (callsIn_round (HCJ.out _)).mono ?_; rintro e wY ⟨rfl, hbY⟩; unfold ptV; have hJY := hbY.blk hJ9; have jY0 : wY.cell? ⟨w3.heap.size + 1 + 1, 0, none⟩ = some (.int .i64 j1) := news_at hJY 0 _ rfl; have jY1 : wY.cell? ⟨w3.heap.size + 1 + 1, 1, none⟩ = some (.int .i64 j2) := news_at hJY 1 _ rfl; have fY0 := blk_frz hJY 0; have fY1 := blk_frz hJY 1)
        have hJ10 := two1 (.int .i64 j.1.2) (two0 (.int .i64 j.1.1) hJY)
        have hM10 : BlkP ((wY.setCell ⟨w3.heap.size + 1 + 1, 0, none⟩ (.int .i64 j.1.1)).setCell ⟨w3.heap.size + 1 + 1, 1, none⟩ (.int .i64 j.1.2)) w3.heap.size (row.set k (p.1.1, p.1.2)) := ((hM9.ext hbY).other (by omega)).other (by omega)
        have hP10 : ((wY.setCell ⟨w3.heap.size + 1 + 1, 0, none⟩ (.int .i64 j.1.1)).setCell ⟨w3.heap.size + 1 + 1, 1, none⟩ (.int .i64 j.1.2)).heap[w3.heap.size + 1]? = some (.cells #[.int .i64 0, .int .i64 0, .slice (some ⟨w3.heap.size, 0, none⟩) v.units.length v.units.length] 29 (0, 0)) := (heap_ne (by omega)).trans ((heap_ne (by omega)).trans (hbY.blk hP9))
        have h310 : Ext w3 ((wY.setCell ⟨w3.heap.size + 1 + 1, 0, none⟩ (.int .i64 j.1.1)).setCell ⟨w3.heap.size + 1 + 1, 1, none⟩ (.int .i64 j.1.2)) := ((h39.trans hbY).set (p := ⟨w3.heap.size + 1 + 1, 0, none⟩) (le2 _) _).set (p := ⟨w3.heap.size + 1 + 1, 1, none⟩) (le2 _) _
        have K10 : KeepsFrom W5.heap.size W ((wY.setCell ⟨w3.heap.size + 1 + 1, 0, none⟩ (.int .i64 j.1.1)).setCell ⟨w3.heap.size + 1 + 1, 1, none⟩ (.int .i64 j.1.2)) := ((K9.trans (hbY.from _)).trans (keeps_set _ _ _ _)).trans (keeps_set _ _ _ _)
        have Kp10 : KpW w3.heap.size W4.heap.size W ((wY.setCell ⟨w3.heap.size + 1 + 1, 0, none⟩ (.int .i64 j.1.1)).setCell ⟨w3.heap.size + 1 + 1, 1, none⟩ (.int .i64 j.1.2)) := ((Kp9.trans (KpW.ext hbY (by omega) (by have := HZB.out; omega))).set (a := ⟨w3.heap.size + 1 + 1, 0, none⟩) (le2 _) (by show W4.heap.size ≠ w3.heap.size + 1 + 1; have := HZC.out; omega) _).set (a := ⟨w3.heap.size + 1 + 1, 1, none⟩) (le2 _) (by show W4.heap.size ≠ w3.heap.size + 1 + 1; have := HZC.out; omega) _
        generalize ((wY.setCell ⟨w3.heap.size + 1 + 1, 0, none⟩ (.int .i64 j.1.1)).setCell ⟨w3.heap.size + 1 + 1, 1, none⟩ (.int .i64 j.1.2)) = W10 at *
        have HP0 := Lib.hid hn
        clear b0 b1 j0 j00 d1 jY0 jY1 fY0 fY1 hJY hM9 hJ9 hP9 hU9 hT9 h39 K9 Kp9 hn
        by_cases hn : j.2 = 0
        case neg =>
          have EW10 := E3.trans h310
          have hR10 := h310.blk hR
          have hE10 := h310.blk hE
          have r0 : W10.cell? ⟨w.heap.size + 1 + 1 + 1 + 1, 0, none⟩ = some (.int .i64 0) := news_at hR10 0 _ rfl
          have r1 : W10.cell? ⟨w.heap.size + 1 + 1 + 1 + 1, 1, none⟩ = some (.int .i64 0) := news_at hR10 1 _ rfl
          have r2 : W10.cell? ⟨w.heap.size + 1 + 1 + 1 + 1, 2, none⟩ = some (.slice none 0 0) := news_at hR10 2 _ rfl
          have e0 : W10.cell? ⟨w.heap.size + 1 + 1 + 1 + 1 + 1, 0, none⟩ = some (.int .i64 0) := news_at hE10 0 _ rfl
          have f0 := blk_frz hR10 0
          have f1 := blk_frz hR10 1
          have f2 := blk_frz hR10 2
          have fe := blk_frz hE10 0
          have hlR := fst_lt hR10
          have hlE := fst_lt hE10
          have HN := Lib.hid hn
          gi_wp2
          have hR2 := three_set (.int .i64 0) (.int .i64 0) (.slice none 0 0) hR10
          have hE2 : (((W10.setCell ⟨w.heap.size + 1 + 1 + 1 + 1, 0, none⟩ (.int .i64 0)).setCell ⟨w.heap.size + 1 + 1 + 1 + 1, 1, none⟩ (.int .i64 0)).setCell ⟨w.heap.size + 1 + 1 + 1 + 1, 2, none⟩ (.slice none 0 0)).heap[w.heap.size + 1 + 1 + 1 + 1 + 1]? = some (.cells #[.int .i64 0] 32 (0, 0)) := (heap_ne (by omega)).trans ((heap_ne (by omega)).trans ((heap_ne (by omega)).trans hE10))
          have hR3 : ((((W10.setCell ⟨w.heap.size + 1 + 1 + 1 + 1, 0, none⟩ (.int .i64 0)).setCell ⟨w.heap.size + 1 + 1 + 1 + 1, 1, none⟩ (.int .i64 0)).setCell ⟨w.heap.size + 1 + 1 + 1 + 1, 2, none⟩ (.slice none 0 0)).setCell ⟨w.heap.size + 1 + 1 + 1 + 1 + 1, 0, none⟩ (.int .i64 j.2)).heap[w.heap.size + 1 + 1 + 1 + 1]? = some (.cells #[.int .i64 0, .int .i64 0, .slice none 0 0] 29 (0, 0)) := (heap_ne (by omega)).trans hR2
          have hE3 := one_set (.int .i64 j.2) hE2
          have ER2 := (((EW10.set (p := ⟨w.heap.size + 1 + 1 + 1 + 1, 0, none⟩) (le4 _) (.int .i64 0)).set (p := ⟨w.heap.size + 1 + 1 + 1 + 1, 1, none⟩) (le4 _) (.int .i64 0)).set (p := ⟨w.heap.size + 1 + 1 + 1 + 1, 2, none⟩) (le4 _) (.slice none 0 0)).set (p := ⟨w.heap.size + 1 + 1 + 1 + 1 + 1, 0, none⟩) (le5 _) (.int .i64 j.2)
          exact ⟨((((K10).trans (keeps_set _ _ _ _)).trans (keeps_set _ _ _ _)).trans (keeps_set _ _ _ _)).trans (keeps_set _ _ _ _), rfl, j.2, by rw [HNX.out, if_pos HP0.out, if_neg HN.out], hR3, hE3, ER2⟩
        case pos =>
          have HN := Lib.hid hn
          gi_wp2
          exact ⟨K10, Kp10, ⟨⟨j.1, row.set k p.1, by rw [HNX.out, if_pos HP0.out, if_pos HN.out], by rw [List.length_set]; exact HRL.out, hM10, hJ10⟩, hP10, h310, Nat.le_trans h7 K10.size⟩⟩
    · go_simp
      refine hK.out _ _ (by (refine ⟨?_, ?_, ?_, ?_, ?_, ?_, ?_, ?_⟩ <;> (repeat' (with_reducible (first | assumption | refine Ext.cell hbZ ?_ | refine Ext.cell (Ext.refl _).drew ?_ | refine cell_set_ne (by first | omega | (simp; omega)) ?_ | refine Ext.cell ((Ext.refl _).alloc _) ?_))))) (fun hHeld2 => ?_)
      refine held_one (i := 12) rfl (by kernel_rfl) (fun K hK => ?_)
      go_simp
      (go_at_call 56; refine (HCP.out _).mono ?_; rintro e wZ ⟨rfl, hbZ⟩; unfold ptV; go_wp2_with fail)
      have EZ : Ext W wZ := ((Ext.refl W).drew.alloc _).trans hbZ
      have yW : wZ.heap[W.heap.size]? = some (.cells #[.int .i64 0, .int .i64 0] 26 (0, 0)) := new_kept (W := W.drew) hbZ
      refine hK.out _ _ ⟨Ext.cell EZ j0, Ext.cell EZ j00, Ext.cell EZ t2r, Ext.cell EZ p0, Ext.cell EZ p1, Ext.cell EZ d2, Ext.cell EZ S0r, Ext.cell EZ s0⟩ (fun hHeld3 => ?_)
      refine take_at (i := 13) (v := ?_) rfl (by kernel_rfl) (by kernel_rfl) (by kernel_rfl) (fun _ _ _ h => h) (Or.inl ⟨by rfl, ?_⟩) (by assumption) ?_
      rotate_left
      · (intro w hSw; (try dsimp only at hSw); go_simp; (first | done | with_reducible rfl))
      simp only [Act.put, List.setIfInBounds_toArray, List.set_cons_zero, List.set_cons_succ]
      refine take_at (i := 14) (v := ?_) rfl (by kernel_rfl) (by kernel_rfl) (by kernel_rfl) (fun _ _ _ h => h) (Or.inl ⟨by rfl, ?_⟩) (by assumption) ?_
      rotate_left
      · (intro w hSw; (try dsimp only at hSw); go_simp; (first | done | with_reducible rfl))
      simp only [Act.put, List.setIfInBounds_toArray, List.set_cons_zero, List.set_cons_succ]
      refine take_at (i := 15) (v := ?_) rfl (by kernel_rfl) (by kernel_rfl) (by kernel_rfl) (fun _ _ _ h => h) (Or.inl ⟨by rfl, ?_⟩) (by assumption) ?_
      rotate_left
      · (intro w hSw; (try dsimp only at hSw); go_simp; (first | done | with_reducible rfl))
      simp only [Act.put, List.setIfInBounds_toArray, List.set_cons_zero, List.set_cons_succ]
      have c0 : wZ.cell? ⟨W.heap.size, 0, none⟩ = some (.int .i64 0) := news_at yW 0 _ rfl
      have c1 : wZ.cell? ⟨W.heap.size, 1, none⟩ = some (.int .i64 0) := news_at yW 1 _ rfl
      have f0 := blk_frz yW 0
      have f1 := blk_frz yW 1
      refine held_one (i := 17) rfl (by kernel_rfl) (fun K hK => ?_)
      go_simp
      replace j0 := Ext.cell EZ j0
      replace j00 := Ext.cell EZ j00
      replace t2r := Ext.cell EZ t2r
      replace p0 := Ext.cell EZ p0
      replace p1 := Ext.cell EZ p1
      replace d2 := Ext.cell EZ d2
      replace S0r := Ext.cell EZ S0r
      replace s0 := Ext.cell EZ s0
      refine hK.out _ _ (by (refine ⟨?_, ?_, ?_, ?_, ?_, ?_, ?_, ?_⟩ <;> (repeat' (with_reducible (first | assumption | refine Ext.cell hbZ ?_ | refine Ext.cell (Ext.refl _).drew ?_ | refine cell_set_ne (by first | omega | (simp; omega)) ?_ | refine Ext.cell ((Ext.refl _).alloc _) ?_))))) (fun hHeld5 => ?_)
      refine take_at (i := 18) (v := ?_) rfl (by kernel_rfl) (by kernel_rfl) (by kernel_rfl) (fun _ _ _ h => h) (Or.inl ⟨by rfl, ?_⟩) (by assumption) ?_
      rotate_left
      · (intro w hSw; (try dsimp only at hSw); go_simp; (first | done | with_reducible rfl))
      simp only [Act.put, List.setIfInBounds_toArray, List.set_cons_zero, List.set_cons_succ]
      refine wpAnyH_done (by kernel_rfl) ?_ _
      have E8 : Ext W ((wZ.setCell ⟨W.heap.size, 0, none⟩ (.int .i64 p.1.1)).setCell ⟨W.heap.size, 1, none⟩ (.int .i64 p.1.2)) := (EZ.set (p := ⟨W.heap.size, 0, none⟩) (Nat.le_refl _) _).set (p := ⟨W.heap.size, 1, none⟩) (Nat.le_refl _) _
      have hT8 : ((wZ.setCell ⟨W.heap.size, 0, none⟩ (.int .i64 p.1.1)).setCell ⟨W.heap.size, 1, none⟩ (.int .i64 p.1.2)).heap[W.heap.size]? = some (.cells #[.int .i64 p.1.1, .int .i64 p.1.2] 26 (0, 0)) := two1 _ (two0 _ yW)
      have hTW : W.heap.size ≤ W.heap.size := Nat.le_refl _
      generalize ((wZ.setCell ⟨W.heap.size, 0, none⟩ (.int .i64 p.1.1)).setCell ⟨W.heap.size, 1, none⟩ (.int .i64 p.1.2)) = W8 at *
      clear hHeld hHeld3 hHeld5 hK hHeld2 yW c0 c1 f0 f1
      have h38 := h6.trans E8
      have EW8 := E3.trans h38
      have hR8 := h38.blk hR
      have hE8 := h38.blk hE
      have hM8 := H3.out.ext E8
      have hJ8 := E8.blk H4.out
      have hP8 := E8.blk H5.out
      have hU8 := E8.blk H15.out
      clear j0 j00 t2r p0 p1 d2 S0r s0
      by_cases hn : p.2 = 0
      case neg =>
        have r0 : W8.cell? ⟨w.heap.size + 1 + 1 + 1 + 1, 0, none⟩ = some (.int .i64 0) := news_at hR8 0 _ rfl
        have r1 : W8.cell? ⟨w.heap.size + 1 + 1 + 1 + 1, 1, none⟩ = some (.int .i64 0) := news_at hR8 1 _ rfl
        have r2 : W8.cell? ⟨w.heap.size + 1 + 1 + 1 + 1, 2, none⟩ = some (.slice none 0 0) := news_at hR8 2 _ rfl
        have e0 : W8.cell? ⟨w.heap.size + 1 + 1 + 1 + 1 + 1, 0, none⟩ = some (.int .i64 0) := news_at hE8 0 _ rfl
        have f0 := blk_frz hR8 0
        have f1 := blk_frz hR8 1
        have f2 := blk_frz hR8 2
        have fe := blk_frz hE8 0
        have hlR := fst_lt hR8
        have hlE := fst_lt hE8
        have HN := Lib.hid hn
        gi_wp2
        have hR2 := three_set (.int .i64 0) (.int .i64 0) (.slice none 0 0) hR8
        have hE2 : (((W8.setCell ⟨w.heap.size + 1 + 1 + 1 + 1, 0, none⟩ (.int .i64 0)).setCell ⟨w.heap.size + 1 + 1 + 1 + 1, 1, none⟩ (.int .i64 0)).setCell ⟨w.heap.size + 1 + 1 + 1 + 1, 2, none⟩ (.slice none 0 0)).heap[w.heap.size + 1 + 1 + 1 + 1 + 1]? = some (.cells #[.int .i64 0] 32 (0, 0)) := (heap_ne (by omega)).trans ((heap_ne (by omega)).trans ((heap_ne (by omega)).trans hE8))
        have hR3 : ((((W8.setCell ⟨w.heap.size + 1 + 1 + 1 + 1, 0, none⟩ (.int .i64 0)).setCell ⟨w.heap.size + 1 + 1 + 1 + 1, 1, none⟩ (.int .i64 0)).setCell ⟨w.heap.size + 1 + 1 + 1 + 1, 2, none⟩ (.slice none 0 0)).setCell ⟨w.heap.size + 1 + 1 + 1 + 1 + 1, 0, none⟩ (.int .i64 p.2)).heap[w.heap.size + 1 + 1 + 1 + 1]? = some (.cells #[.int .i64 0, .int .i64 0, .slice none 0 0] 29 (0, 0)) := (heap_ne (by omega)).trans hR2
        have hE3 := one_set (.int .i64 p.2) hE2
        have ER2 := (((EW8.set (p := ⟨w.heap.size + 1 + 1 + 1 + 1, 0, none⟩) (le4 _) (.int .i64 0)).set (p := ⟨w.heap.size + 1 + 1 + 1 + 1, 1, none⟩) (le4 _) (.int .i64 0)).set (p := ⟨w.heap.size + 1 + 1 + 1 + 1, 2, none⟩) (le4 _) (.slice none 0 0)).set (p := ⟨w.heap.size + 1 + 1 + 1 + 1 + 1, 0, none⟩) (le5 _) (.int .i64 p.2)
        exact ⟨((((E8.from _).trans (keeps_set _ _ _ _)).trans (keeps_set _ _ _ _)).trans (keeps_set _ _ _ _)).trans (keeps_set _ _ _ _), rfl, p.2, by rw [HNX.out, if_neg HN.out], hR3, hE3, ER2⟩
      case pos =>
        have q2 : W8.cell? ⟨w3.heap.size + 1, 2, none⟩ = some (.slice (some ⟨w3.heap.size, 0, none⟩) v.units.length v.units.length) := news_at hP8 2 _ rfl
        have b0 : W8.cell? ⟨W.heap.size, 0, none⟩ = some (.int .i64 p.1.1) := news_at hT8 0 _ rfl
        have b1 : W8.cell? ⟨W.heap.size, 1, none⟩ = some (.int .i64 p.1.2) := news_at hT8 1 _ rfl
        obtain ⟨x0, x1⟩ := hM8.cell HZ.out
        have g0 := blk_frz hM8 (k * 2)
        have g1 := blk_frz hM8 (k * 2 + 1)
        simp only at x0 x1
        gi_upto_region 20 with fail
        have hM9 := hM8.set (k := k) (by have := HRL.out; omega) p.1.1 p.1.2
        have h39 : Ext w3 ((W8.setCell ⟨w3.heap.size, k * 2, none⟩ (.int .i64 p.1.1)).setCell ⟨w3.heap.size, k * 2 + 1, none⟩ (.int .i64 p.1.2)) := (h38.set (p := ⟨w3.heap.size, k * 2, none⟩) (Nat.le_refl _) _).set (p := ⟨w3.heap.size, k * 2 + 1, none⟩) (Nat.le_refl _) _
        have hP9 : ((W8.setCell ⟨w3.heap.size, k * 2, none⟩ (.int .i64 p.1.1)).setCell ⟨w3.heap.size, k * 2 + 1, none⟩ (.int .i64 p.1.2)).heap[w3.heap.size + 1]? = some (.cells #[.int .i64 0, .int .i64 0, .slice (some ⟨w3.heap.size, 0, none⟩) v.units.length v.units.length] 29 (0, 0)) := (heap_ne (by omega)).trans ((heap_ne (by omega)).trans hP8)
        have hJ9 : ((W8.setCell ⟨w3.heap.size, k * 2, none⟩ (.int .i64 p.1.1)).setCell ⟨w3.heap.size, k * 2 + 1, none⟩ (.int .i64 p.1.2)).heap[w3.heap.size + 1 + 1]? = some (.cells #[.int .i64 j1, .int .i64 j2] 26 (0, 0)) := (heap_ne (by omega)).trans ((heap_ne (by omega)).trans hJ8)
        have hT9 : ((W8.setCell ⟨w3.heap.size, k * 2, none⟩ (.int .i64 p.1.1)).setCell ⟨w3.heap.size, k * 2 + 1, none⟩ (.int .i64 p.1.2)).heap[W.heap.size]? = some (.cells #[.int .i64 p.1.1, .int .i64 p.1.2] 26 (0, 0)) := (heap_ne (by omega)).trans ((heap_ne (by omega)).trans hT8)
        have hU9 : ((W8.setCell ⟨w3.heap.size, k * 2, none⟩ (.int .i64 p.1.1)).setCell ⟨w3.heap.size, k * 2 + 1, none⟩ (.int .i64 p.1.2)).heap[B]? = some (.cells #[.int .i64 u.kind, .int .i64 u.length, .int .i64 u.behind, .int .i64 u.front, .int .i64 u.rear, .int .i64 u.width, .int .i64 u.height, .int .i64 u.mass, .int .i64 u.steer, .int .i64 u.most, .slice (ex k).1 u.axles.length (ex k).2] 68 (0, 0)) := (heap_ne (by omega)).trans ((heap_ne (by omega)).trans hU8)
        have K9 : KeepsFrom W5.heap.size W ((W8.setCell ⟨w3.heap.size, k * 2, none⟩ (.int .i64 p.1.1)).setCell ⟨w3.heap.size, k * 2 + 1, none⟩ (.int .i64 p.1.2)) := ((E8.from _).trans (keeps_set _ _ _ _)).trans (keeps_set _ _ _ _)
        have Kp9 : KpW w3.heap.size W4.heap.size W ((W8.setCell ⟨w3.heap.size, k * 2, none⟩ (.int .i64 p.1.1)).setCell ⟨w3.heap.size, k * 2 + 1, none⟩ (.int .i64 p.1.2)) := ((KpW.ext E8 (by omega) (by have := HZB.out; omega)).set (a := ⟨w3.heap.size, k * 2, none⟩) (Nat.le_refl _) (by show W4.heap.size ≠ w3.heap.size; have := HZC.out; omega) _).set (a := ⟨w3.heap.size, k * 2 + 1, none⟩) (Nat.le_refl _) (by show W4.heap.size ≠ w3.heap.size; have := HZC.out; omega) _
        have hsz9 : W.heap.size ≤ ((W8.setCell ⟨w3.heap.size, k * 2, none⟩ (.int .i64 p.1.1)).setCell ⟨w3.heap.size, k * 2 + 1, none⟩ (.int .i64 p.1.2)).heap.size := K9.size
        generalize ((W8.setCell ⟨w3.heap.size, k * 2, none⟩ (.int .i64 p.1.1)).setCell ⟨w3.heap.size, k * 2 + 1, none⟩ (.int .i64 p.1.2)) = W9 at *
        clear hM8 hJ8 hP8 hU8 hT8 q2 b0 b1 x0 x1 g0 g1 E8 h38 EW8 hR8 hE8
        have b0 : W9.cell? ⟨W.heap.size, 0, none⟩ = some (.int .i64 p.1.1) := news_at hT9 0 _ rfl
        have b1 : W9.cell? ⟨W.heap.size, 1, none⟩ = some (.int .i64 p.1.2) := news_at hT9 1 _ rfl
        have j0 : W9.cell? ⟨w3.heap.size + 1 + 1, 0, none⟩ = some (.int .i64 j1) := news_at hJ9 0 _ rfl
        have j00 : W9.cell? ⟨w3.heap.size + 1 + 1, 1, none⟩ = some (.int .i64 j2) := news_at hJ9 1 _ rfl
        have d1 : W9.cell? ⟨B, 1, none⟩ = some (.int .i64 u.length) := news_at hU9 1 _ rfl
        gi_upto_region 21 with (refine ⟨trivial, ?_⟩; gi_at_call 57; refine (callsIn_round (HCJ.out _)).mono ?_; rintro e wY ⟨rfl, hbY⟩; unfold ptV; have hJY := hbY.blk hJ9; have jY0 : wY.cell? ⟨w3.heap.size + 1 + 1, 0, none⟩ = some (.int .i64 j1) := news_at hJY 0 _ rfl; have jY1 : wY.cell? ⟨w3.heap.size + 1 + 1, 1, none⟩ = some (.int .i64 j2) := news_at hJY 1 _ rfl; have fY0 := blk_frz hJY 0; have fY1 := blk_frz hJY 1)
        have hJ10 := two1 (.int .i64 j.1.2) (two0 (.int .i64 j.1.1) hJY)
        have hM10 : BlkP ((wY.setCell ⟨w3.heap.size + 1 + 1, 0, none⟩ (.int .i64 j.1.1)).setCell ⟨w3.heap.size + 1 + 1, 1, none⟩ (.int .i64 j.1.2)) w3.heap.size (row.set k (p.1.1, p.1.2)) := ((hM9.ext hbY).other (by omega)).other (by omega)
        have hP10 : ((wY.setCell ⟨w3.heap.size + 1 + 1, 0, none⟩ (.int .i64 j.1.1)).setCell ⟨w3.heap.size + 1 + 1, 1, none⟩ (.int .i64 j.1.2)).heap[w3.heap.size + 1]? = some (.cells #[.int .i64 0, .int .i64 0, .slice (some ⟨w3.heap.size, 0, none⟩) v.units.length v.units.length] 29 (0, 0)) := (heap_ne (by omega)).trans ((heap_ne (by omega)).trans (hbY.blk hP9))
        have h310 : Ext w3 ((wY.setCell ⟨w3.heap.size + 1 + 1, 0, none⟩ (.int .i64 j.1.1)).setCell ⟨w3.heap.size + 1 + 1, 1, none⟩ (.int .i64 j.1.2)) := ((h39.trans hbY).set (p := ⟨w3.heap.size + 1 + 1, 0, none⟩) (le2 _) _).set (p := ⟨w3.heap.size + 1 + 1, 1, none⟩) (le2 _) _
        have K10 : KeepsFrom W5.heap.size W ((wY.setCell ⟨w3.heap.size + 1 + 1, 0, none⟩ (.int .i64 j.1.1)).setCell ⟨w3.heap.size + 1 + 1, 1, none⟩ (.int .i64 j.1.2)) := ((K9.trans (hbY.from _)).trans (keeps_set _ _ _ _)).trans (keeps_set _ _ _ _)
        have Kp10 : KpW w3.heap.size W4.heap.size W ((wY.setCell ⟨w3.heap.size + 1 + 1, 0, none⟩ (.int .i64 j.1.1)).setCell ⟨w3.heap.size + 1 + 1, 1, none⟩ (.int .i64 j.1.2)) := ((Kp9.trans (KpW.ext hbY (by omega) (by have := HZB.out; omega))).set (a := ⟨w3.heap.size + 1 + 1, 0, none⟩) (le2 _) (by show W4.heap.size ≠ w3.heap.size + 1 + 1; have := HZC.out; omega) _).set (a := ⟨w3.heap.size + 1 + 1, 1, none⟩) (le2 _) (by show W4.heap.size ≠ w3.heap.size + 1 + 1; have := HZC.out; omega) _
        generalize ((wY.setCell ⟨w3.heap.size + 1 + 1, 0, none⟩ (.int .i64 j.1.1)).setCell ⟨w3.heap.size + 1 + 1, 1, none⟩ (.int .i64 j.1.2)) = W10 at *
        have HP0 := Lib.hid hn
        clear b0 b1 j0 j00 d1 jY0 jY1 fY0 fY1 hJY hM9 hJ9 hP9 hU9 hT9 h39 K9 Kp9 hn
        by_cases hn : j.2 = 0
        case neg =>
          have EW10 := E3.trans h310
          have hR10 := h310.blk hR
          have hE10 := h310.blk hE
          have r0 : W10.cell? ⟨w.heap.size + 1 + 1 + 1 + 1, 0, none⟩ = some (.int .i64 0) := news_at hR10 0 _ rfl
          have r1 : W10.cell? ⟨w.heap.size + 1 + 1 + 1 + 1, 1, none⟩ = some (.int .i64 0) := news_at hR10 1 _ rfl
          have r2 : W10.cell? ⟨w.heap.size + 1 + 1 + 1 + 1, 2, none⟩ = some (.slice none 0 0) := news_at hR10 2 _ rfl
          have e0 : W10.cell? ⟨w.heap.size + 1 + 1 + 1 + 1 + 1, 0, none⟩ = some (.int .i64 0) := news_at hE10 0 _ rfl
          have f0 := blk_frz hR10 0
          have f1 := blk_frz hR10 1
          have f2 := blk_frz hR10 2
          have fe := blk_frz hE10 0
          have hlR := fst_lt hR10
          have hlE := fst_lt hE10
          have HN := Lib.hid hn
          gi_wp2
          have hR2 := three_set (.int .i64 0) (.int .i64 0) (.slice none 0 0) hR10
          have hE2 : (((W10.setCell ⟨w.heap.size + 1 + 1 + 1 + 1, 0, none⟩ (.int .i64 0)).setCell ⟨w.heap.size + 1 + 1 + 1 + 1, 1, none⟩ (.int .i64 0)).setCell ⟨w.heap.size + 1 + 1 + 1 + 1, 2, none⟩ (.slice none 0 0)).heap[w.heap.size + 1 + 1 + 1 + 1 + 1]? = some (.cells #[.int .i64 0] 32 (0, 0)) := (heap_ne (by omega)).trans ((heap_ne (by omega)).trans ((heap_ne (by omega)).trans hE10))
          have hR3 : ((((W10.setCell ⟨w.heap.size + 1 + 1 + 1 + 1, 0, none⟩ (.int .i64 0)).setCell ⟨w.heap.size + 1 + 1 + 1 + 1, 1, none⟩ (.int .i64 0)).setCell ⟨w.heap.size + 1 + 1 + 1 + 1, 2, none⟩ (.slice none 0 0)).setCell ⟨w.heap.size + 1 + 1 + 1 + 1 + 1, 0, none⟩ (.int .i64 j.2)).heap[w.heap.size + 1 + 1 + 1 + 1]? = some (.cells #[.int .i64 0, .int .i64 0, .slice none 0 0] 29 (0, 0)) := (heap_ne (by omega)).trans hR2
          have hE3 := one_set (.int .i64 j.2) hE2
          have ER2 := (((EW10.set (p := ⟨w.heap.size + 1 + 1 + 1 + 1, 0, none⟩) (le4 _) (.int .i64 0)).set (p := ⟨w.heap.size + 1 + 1 + 1 + 1, 1, none⟩) (le4 _) (.int .i64 0)).set (p := ⟨w.heap.size + 1 + 1 + 1 + 1, 2, none⟩) (le4 _) (.slice none 0 0)).set (p := ⟨w.heap.size + 1 + 1 + 1 + 1 + 1, 0, none⟩) (le5 _) (.int .i64 j.2)
          exact ⟨((((K10).trans (keeps_set _ _ _ _)).trans (keeps_set _ _ _ _)).trans (keeps_set _ _ _ _)).trans (keeps_set _ _ _ _), rfl, j.2, by rw [HNX.out, if_pos HP0.out, if_neg HN.out], hR3, hE3, ER2⟩
        case pos =>
          have HN := Lib.hid hn
          gi_wp2
          exact ⟨K10, Kp10, ⟨⟨j.1, row.set k p.1, by rw [HNX.out, if_pos HP0.out, if_pos HN.out], by rw [List.length_set]; exact HRL.out, hM10, hJ10⟩, hP10, h310, Nat.le_trans h7 K10.size⟩⟩
  case done =>
    rintro D xs W hD rfl ⟨⟨jt, row, h1, hrl, h3, h4⟩, h5, h6, h7⟩ hK
    have hrr := bst_done HLEN.out.1 HLEN.out.2 HTL.out h1
    subst hrr
    obtain ⟨j1, j2⟩ := jt
    have HK := Lib.hid hK
    have HM := Lib.hid h3
    have HPP := Lib.hid h5
    have HRL := Lib.hid hrl
    have q0 : W.cell? ⟨w3.heap.size + 1, 0, none⟩ = some (.int .i64 0) := news_at h5 0 _ rfl
    have q1 : W.cell? ⟨w3.heap.size + 1, 1, none⟩ = some (.int .i64 0) := news_at h5 1 _ rfl
    have fq0 := blk_frz h5 0
    have fq1 := blk_frz h5 1
    have j0 : W.cell? ⟨w3.heap.size + 1 + 1, 0, none⟩ = some (.int .i64 j1) := news_at h4 0 _ rfl
    have j00 : W.cell? ⟨w3.heap.size + 1 + 1, 1, none⟩ = some (.int .i64 j2) := news_at h4 1 _ rfl
    have hDz : w3.heap.size + 1 + 1 < D := by omega
    have HZB := Lib.hid hz5
    have HZC := Lib.hid hz4
    clear hz5 hz4 hK h1 h3 h4 h5 hrl
    subst hT0
    refine (‹∀ (a : Act) (w : World), Code.wp Try.prog _ _ a w → _›) _ _ ?_
    go_upto_region 24 with fail
    have h36 : Ext w3 ((W.setCell ⟨w3.heap.size + 1, 0, none⟩ (.int .i64 j1)).setCell ⟨w3.heap.size + 1, 1, none⟩ (.int .i64 j2)) := (h6.set (p := ⟨w3.heap.size + 1, 0, none⟩) (le1 _) _).set (p := ⟨w3.heap.size + 1, 1, none⟩) (le1 _) _
    have hP6 : ((W.setCell ⟨w3.heap.size + 1, 0, none⟩ (.int .i64 j1)).setCell ⟨w3.heap.size + 1, 1, none⟩ (.int .i64 j2)).heap[w3.heap.size + 1]? = some (.cells #[.int .i64 j1, .int .i64 j2, .slice (some ⟨w3.heap.size, 0, none⟩) v.units.length v.units.length] 29 (0, 0)) := by have h9 := blk_set 1 (.int .i64 j2) (blk_set 0 (.int .i64 j1) HPP.out); simpa using h9
    have hM6 : BlkP ((W.setCell ⟨w3.heap.size + 1, 0, none⟩ (.int .i64 j1)).setCell ⟨w3.heap.size + 1, 1, none⟩ (.int .i64 j2)) w3.heap.size row := (HM.out.other (by omega)).other (by omega)
    have hK6 : ((W.setCell ⟨w3.heap.size + 1, 0, none⟩ (.int .i64 j1)).setCell ⟨w3.heap.size + 1, 1, none⟩ (.int .i64 j2)).heap[D]? = some (.deferred (some [])) := (heap_ne (by omega)).trans ((heap_ne (by omega)).trans HK.out)
    generalize ((W.setCell ⟨w3.heap.size + 1, 0, none⟩ (.int .i64 j1)).setCell ⟨w3.heap.size + 1, 1, none⟩ (.int .i64 j2)) = W6 at *
    have hpt6 : Pts W6 (.slice (some ⟨w3.heap.size, 0, none⟩) v.units.length v.units.length) row := by have h9 := hM6.pts (by have := HRL.out; omega); rw [HRL.out] at h9; exact h9
    have C9 := fun w' (he : Ext W6 w') => CR.out w' (E3.trans (h36.trans he)) (j1, j2) (.slice (some ⟨w3.heap.size, 0, none⟩) v.units.length v.units.length) row (hpt6.ext he)
    dsimp only at C9
    unfold poseEV at *
    have hR9 := h36.blk hR
    have hE9 := h36.blk hE
    have y0z := Ext.cell h36 y0
    have y1z := Ext.cell h36 y1
    have y2z := Ext.cell h36 y2
    have y3z := Ext.cell h36 y3
    have p0 : W6.cell? ⟨w3.heap.size + 1, 0, none⟩ = some (.int .i64 j1) := news_at hP6 0 _ rfl
    have p1 : W6.cell? ⟨w3.heap.size + 1, 1, none⟩ = some (.int .i64 j2) := news_at hP6 1 _ rfl
    have p2 : W6.cell? ⟨w3.heap.size + 1, 2, none⟩ = some (.slice (some ⟨w3.heap.size, 0, none⟩) v.units.length v.units.length) := news_at hP6 2 _ rfl
    have ERZ := E3.trans h36
    clear q0 q1 fq0 fq1 j0 j00 hpt6 hP6 h6 h36
    by_cases h9 : poseE v (j1, j2) row = 0
    · rw [if_pos h9] at C9
      replace C9 := Lib.hid C9
      have H9 := Lib.hid h9
      clear h9
      go_wp2_with (go_at_call 45; refine (C9.out _ (by (repeat' (first | exact Ext.refl _ | assumption | refine Ext.alloc ?_ _ | refine Ext.drew ?_ | refine Ext.drewN ?_ _ | refine Ext.set ?_ (by first | exact Nat.le_refl _ | exact le1 _ | exact le2 _ | exact le3 _ | exact le4 _ | exact le5 _ | exact le6 _) _ | refine Ext.trans ?_ (by assumption))))).mono ?_; rintro e wd ⟨rfl, hbd⟩; replace hR9 := hbd.blk hR9; replace hE9 := hbd.blk hE9; have r0 : wd.cell? ⟨w.heap.size + 1 + 1 + 1 + 1, 0, none⟩ = some (.int .i64 0) := news_at hR9 0 _ rfl; have r1 : wd.cell? ⟨w.heap.size + 1 + 1 + 1 + 1, 1, none⟩ = some (.int .i64 0) := news_at hR9 1 _ rfl; have r2 : wd.cell? ⟨w.heap.size + 1 + 1 + 1 + 1, 2, none⟩ = some (.slice none 0 0) := news_at hR9 2 _ rfl; have e0 : wd.cell? ⟨w.heap.size + 1 + 1 + 1 + 1 + 1, 0, none⟩ = some (.int .i64 0) := news_at hE9 0 _ rfl; have f0 := blk_frz hR9 0; have f1 := blk_frz hR9 1; have f2 := blk_frz hR9 2; have fe := blk_frz hE9 0; have ED := ERZ.trans hbd)
      have hKd := hbd.blk hK6
      have hMd := hM6.ext hbd
      have hlRE : w.heap.size + 1 + 1 + 1 + 1 + 1 < w3.heap.size := fst_lt hE
      have hR2 := three_set (.int .i64 j1) (.int .i64 j2) (.slice (some ⟨w3.heap.size, 0, none⟩) v.units.length v.units.length) hR9
      have hE2 : (((wd.setCell ⟨w.heap.size + 1 + 1 + 1 + 1, 0, none⟩ (.int .i64 j1)).setCell ⟨w.heap.size + 1 + 1 + 1 + 1, 1, none⟩ (.int .i64 j2)).setCell ⟨w.heap.size + 1 + 1 + 1 + 1, 2, none⟩ (.slice (some ⟨w3.heap.size, 0, none⟩) v.units.length v.units.length)).heap[w.heap.size + 1 + 1 + 1 + 1 + 1]? = some (.cells #[.int .i64 0] 32 (0, 0)) := (heap_ne (by omega)).trans ((heap_ne (by omega)).trans ((heap_ne (by omega)).trans hE9))
      have hR3 : ((((wd.setCell ⟨w.heap.size + 1 + 1 + 1 + 1, 0, none⟩ (.int .i64 j1)).setCell ⟨w.heap.size + 1 + 1 + 1 + 1, 1, none⟩ (.int .i64 j2)).setCell ⟨w.heap.size + 1 + 1 + 1 + 1, 2, none⟩ (.slice (some ⟨w3.heap.size, 0, none⟩) v.units.length v.units.length)).setCell ⟨w.heap.size + 1 + 1 + 1 + 1 + 1, 0, none⟩ (.int .i64 0)).heap[w.heap.size + 1 + 1 + 1 + 1]? = some (.cells #[.int .i64 j1, .int .i64 j2, .slice (some ⟨w3.heap.size, 0, none⟩) v.units.length v.units.length] 29 (0, 0)) := (heap_ne (by omega)).trans hR2
      have hE3 := one_set (.int .i64 0) hE2
      have ER2 := (((ED.set (p := ⟨w.heap.size + 1 + 1 + 1 + 1, 0, none⟩) (le4 _) (.int .i64 j1)).set (p := ⟨w.heap.size + 1 + 1 + 1 + 1, 1, none⟩) (le4 _) (.int .i64 j2)).set (p := ⟨w.heap.size + 1 + 1 + 1 + 1, 2, none⟩) (le4 _) (.slice (some ⟨w3.heap.size, 0, none⟩) v.units.length v.units.length)).set (p := ⟨w.heap.size + 1 + 1 + 1 + 1 + 1, 0, none⟩) (le5 _) (.int .i64 0)
      have hMF : BlkP ((((wd.setCell ⟨w.heap.size + 1 + 1 + 1 + 1, 0, none⟩ (.int .i64 j1)).setCell ⟨w.heap.size + 1 + 1 + 1 + 1, 1, none⟩ (.int .i64 j2)).setCell ⟨w.heap.size + 1 + 1 + 1 + 1, 2, none⟩ (.slice (some ⟨w3.heap.size, 0, none⟩) v.units.length v.units.length)).setCell ⟨w.heap.size + 1 + 1 + 1 + 1 + 1, 0, none⟩ (.int .i64 0)) w3.heap.size row := (((hMd.other (by omega)).other (by omega)).other (by omega)).other (by omega)
      have hKF : ((((wd.setCell ⟨w.heap.size + 1 + 1 + 1 + 1, 0, none⟩ (.int .i64 j1)).setCell ⟨w.heap.size + 1 + 1 + 1 + 1, 1, none⟩ (.int .i64 j2)).setCell ⟨w.heap.size + 1 + 1 + 1 + 1, 2, none⟩ (.slice (some ⟨w3.heap.size, 0, none⟩) v.units.length v.units.length)).setCell ⟨w.heap.size + 1 + 1 + 1 + 1 + 1, 0, none⟩ (.int .i64 0)).heap[D]? = some (.deferred (some [])) := (heap_ne (by omega)).trans ((heap_ne (by omega)).trans ((heap_ne (by omega)).trans ((heap_ne (by omega)).trans hKd)))
      generalize ((((wd.setCell ⟨w.heap.size + 1 + 1 + 1 + 1, 0, none⟩ (.int .i64 j1)).setCell ⟨w.heap.size + 1 + 1 + 1 + 1, 1, none⟩ (.int .i64 j2)).setCell ⟨w.heap.size + 1 + 1 + 1 + 1, 2, none⟩ (.slice (some ⟨w3.heap.size, 0, none⟩) v.units.length v.units.length)).setCell ⟨w.heap.size + 1 + 1 + 1 + 1 + 1, 0, none⟩ (.int .i64 0)) = WF at *
      have hRG : (WF.putObj D (.deferred none)).heap[w.heap.size + 1 + 1 + 1 + 1]? = some (.cells #[.int .i64 j1, .int .i64 j2, .slice (some ⟨w3.heap.size, 0, none⟩) v.units.length v.units.length] 29 (0, 0)) := (putObj_other' (by omega)).trans hR3
      have hEG : (WF.putObj D (.deferred none)).heap[w.heap.size + 1 + 1 + 1 + 1 + 1]? = some (.cells #[.int .i64 0] 32 (0, 0)) := (putObj_other' (by omega)).trans hE3
      have n0 : (WF.putObj D (.deferred none)).cell? ⟨w.heap.size + 1 + 1 + 1 + 1, 0, none⟩ = some (.int .i64 j1) := news_at hRG 0 _ rfl
      have n1 : (WF.putObj D (.deferred none)).cell? ⟨w.heap.size + 1 + 1 + 1 + 1, 1, none⟩ = some (.int .i64 j2) := news_at hRG 1 _ rfl
      have n2 : (WF.putObj D (.deferred none)).cell? ⟨w.heap.size + 1 + 1 + 1 + 1, 2, none⟩ = some (.slice (some ⟨w3.heap.size, 0, none⟩) v.units.length v.units.length) := news_at hRG 2 _ rfl
      have n3 : (WF.putObj D (.deferred none)).cell? ⟨w.heap.size + 1 + 1 + 1 + 1 + 1, 0, none⟩ = some (.int .i64 0) := news_at hEG 0 _ rfl
      refine ⟨by simp, .inl ⟨_, _, rfl, run_takeDeferred hKF, ?_⟩⟩
      refine ⟨poseEV (j1, j2) (.slice (some ⟨w3.heap.size, 0, none⟩) v.units.length v.units.length) 0, by simp [results, Try.results26, go_sem, n0, n1, n2, n3, poseEV], ?_⟩
      rw [← HPo.out]
      unfold BackR
      rw [HR.out, if_pos trivial, if_pos H9.out]
      have hMG : BlkP (WF.putObj D (.deferred none)) w3.heap.size row := (putObj_other' (by omega)).trans hMF
      exact ⟨_, rfl, by have h9 := hMG.pts (by have := HRL.out; omega); rw [HRL.out] at h9; exact h9, Below.putObj' ER2 (by omega) _⟩
    · rw [if_neg h9] at C9
      replace C9 := Lib.hid C9
      have H9 := Lib.hid h9
      clear h9
      go_wp2_with (go_at_call 45; refine (C9.out _ (by (repeat' (first | exact Ext.refl _ | assumption | refine Ext.alloc ?_ _ | refine Ext.drew ?_ | refine Ext.drewN ?_ _ | refine Ext.set ?_ (by first | exact Nat.le_refl _ | exact le1 _ | exact le2 _ | exact le3 _ | exact le4 _ | exact le5 _ | exact le6 _) _ | refine Ext.trans ?_ (by assumption))))).mono ?_; rintro e wd ⟨rfl, hbd⟩; replace hR9 := hbd.blk hR9; replace hE9 := hbd.blk hE9; have r0 : wd.cell? ⟨w.heap.size + 1 + 1 + 1 + 1, 0, none⟩ = some (.int .i64 0) := news_at hR9 0 _ rfl; have r1 : wd.cell? ⟨w.heap.size + 1 + 1 + 1 + 1, 1, none⟩ = some (.int .i64 0) := news_at hR9 1 _ rfl; have r2 : wd.cell? ⟨w.heap.size + 1 + 1 + 1 + 1, 2, none⟩ = some (.slice none 0 0) := news_at hR9 2 _ rfl; have e0 : wd.cell? ⟨w.heap.size + 1 + 1 + 1 + 1 + 1, 0, none⟩ = some (.int .i64 0) := news_at hE9 0 _ rfl; have f0 := blk_frz hR9 0; have f1 := blk_frz hR9 1; have f2 := blk_frz hR9 2; have fe := blk_frz hE9 0; have ED := ERZ.trans hbd)
      have hKd := hbd.blk hK6
      have hMd := hM6.ext hbd
      have hlRE : w.heap.size + 1 + 1 + 1 + 1 + 1 < w3.heap.size := fst_lt hE
      have hR2 := three_set (.int .i64 0) (.int .i64 0) (.slice none 0 0) hR9
      have hE2 : (((wd.setCell ⟨w.heap.size + 1 + 1 + 1 + 1, 0, none⟩ (.int .i64 0)).setCell ⟨w.heap.size + 1 + 1 + 1 + 1, 1, none⟩ (.int .i64 0)).setCell ⟨w.heap.size + 1 + 1 + 1 + 1, 2, none⟩ (.slice none 0 0)).heap[w.heap.size + 1 + 1 + 1 + 1 + 1]? = some (.cells #[.int .i64 0] 32 (0, 0)) := (heap_ne (by omega)).trans ((heap_ne (by omega)).trans ((heap_ne (by omega)).trans hE9))
      have hR3 : ((((wd.setCell ⟨w.heap.size + 1 + 1 + 1 + 1, 0, none⟩ (.int .i64 0)).setCell ⟨w.heap.size + 1 + 1 + 1 + 1, 1, none⟩ (.int .i64 0)).setCell ⟨w.heap.size + 1 + 1 + 1 + 1, 2, none⟩ (.slice none 0 0)).setCell ⟨w.heap.size + 1 + 1 + 1 + 1 + 1, 0, none⟩ (.int .i64 9)).heap[w.heap.size + 1 + 1 + 1 + 1]? = some (.cells #[.int .i64 0, .int .i64 0, .slice none 0 0] 29 (0, 0)) := (heap_ne (by omega)).trans hR2
      have hE3 := one_set (.int .i64 9) hE2
      have ER2 := (((ED.set (p := ⟨w.heap.size + 1 + 1 + 1 + 1, 0, none⟩) (le4 _) (.int .i64 0)).set (p := ⟨w.heap.size + 1 + 1 + 1 + 1, 1, none⟩) (le4 _) (.int .i64 0)).set (p := ⟨w.heap.size + 1 + 1 + 1 + 1, 2, none⟩) (le4 _) (.slice none 0 0)).set (p := ⟨w.heap.size + 1 + 1 + 1 + 1 + 1, 0, none⟩) (le5 _) (.int .i64 9)
      have hMF : BlkP ((((wd.setCell ⟨w.heap.size + 1 + 1 + 1 + 1, 0, none⟩ (.int .i64 0)).setCell ⟨w.heap.size + 1 + 1 + 1 + 1, 1, none⟩ (.int .i64 0)).setCell ⟨w.heap.size + 1 + 1 + 1 + 1, 2, none⟩ (.slice none 0 0)).setCell ⟨w.heap.size + 1 + 1 + 1 + 1 + 1, 0, none⟩ (.int .i64 9)) w3.heap.size row := (((hMd.other (by omega)).other (by omega)).other (by omega)).other (by omega)
      have hKF : ((((wd.setCell ⟨w.heap.size + 1 + 1 + 1 + 1, 0, none⟩ (.int .i64 0)).setCell ⟨w.heap.size + 1 + 1 + 1 + 1, 1, none⟩ (.int .i64 0)).setCell ⟨w.heap.size + 1 + 1 + 1 + 1, 2, none⟩ (.slice none 0 0)).setCell ⟨w.heap.size + 1 + 1 + 1 + 1 + 1, 0, none⟩ (.int .i64 9)).heap[D]? = some (.deferred (some [])) := (heap_ne (by omega)).trans ((heap_ne (by omega)).trans ((heap_ne (by omega)).trans ((heap_ne (by omega)).trans hKd)))
      generalize ((((wd.setCell ⟨w.heap.size + 1 + 1 + 1 + 1, 0, none⟩ (.int .i64 0)).setCell ⟨w.heap.size + 1 + 1 + 1 + 1, 1, none⟩ (.int .i64 0)).setCell ⟨w.heap.size + 1 + 1 + 1 + 1, 2, none⟩ (.slice none 0 0)).setCell ⟨w.heap.size + 1 + 1 + 1 + 1 + 1, 0, none⟩ (.int .i64 9)) = WF at *
      have hRG : (WF.putObj D (.deferred none)).heap[w.heap.size + 1 + 1 + 1 + 1]? = some (.cells #[.int .i64 0, .int .i64 0, .slice none 0 0] 29 (0, 0)) := (putObj_other' (by omega)).trans hR3
      have hEG : (WF.putObj D (.deferred none)).heap[w.heap.size + 1 + 1 + 1 + 1 + 1]? = some (.cells #[.int .i64 9] 32 (0, 0)) := (putObj_other' (by omega)).trans hE3
      have n0 : (WF.putObj D (.deferred none)).cell? ⟨w.heap.size + 1 + 1 + 1 + 1, 0, none⟩ = some (.int .i64 0) := news_at hRG 0 _ rfl
      have n1 : (WF.putObj D (.deferred none)).cell? ⟨w.heap.size + 1 + 1 + 1 + 1, 1, none⟩ = some (.int .i64 0) := news_at hRG 1 _ rfl
      have n2 : (WF.putObj D (.deferred none)).cell? ⟨w.heap.size + 1 + 1 + 1 + 1, 2, none⟩ = some (.slice none 0 0) := news_at hRG 2 _ rfl
      have n3 : (WF.putObj D (.deferred none)).cell? ⟨w.heap.size + 1 + 1 + 1 + 1 + 1, 0, none⟩ = some (.int .i64 9) := news_at hEG 0 _ rfl
      refine ⟨by simp, .inl ⟨_, _, rfl, run_takeDeferred hKF, ?_⟩⟩
      refine ⟨poseEV (0, 0) (.slice none 0 0) 9, by simp [results, Try.results26, go_sem, n0, n1, n2, n3, poseEV], ?_⟩
      rw [← HPo.out]
      unfold BackR
      rw [HR.out, if_pos trivial, if_neg H9.out]
      exact ⟨_, rfl, .inl ⟨none, 0, rfl, rfl⟩, Below.putObj' ER2 (by omega) _⟩
  case stop =>
    rintro D c pre WF hD hpre ⟨rfl, e, h1, hR3, hE3, ER2⟩ hK
    obtain ⟨hne, hre⟩ := bst_stop HLEN.out.1 HLEN.out.2 HTL.out hpre h1
    have hlE := fst_lt hE
    subst hT0
    refine wpIn_ret ?_
    have hRG : (WF.putObj D (.deferred none)).heap[w.heap.size + 1 + 1 + 1 + 1]? = some (.cells #[.int .i64 0, .int .i64 0, .slice none 0 0] 29 (0, 0)) := (putObj_other' (by omega)).trans hR3
    have hEG : (WF.putObj D (.deferred none)).heap[w.heap.size + 1 + 1 + 1 + 1 + 1]? = some (.cells #[.int .i64 e] 32 (0, 0)) := (putObj_other' (by omega)).trans hE3
    have n0 : (WF.putObj D (.deferred none)).cell? ⟨w.heap.size + 1 + 1 + 1 + 1, 0, none⟩ = some (.int .i64 0) := news_at hRG 0 _ rfl
    have n1 : (WF.putObj D (.deferred none)).cell? ⟨w.heap.size + 1 + 1 + 1 + 1, 1, none⟩ = some (.int .i64 0) := news_at hRG 1 _ rfl
    have n2 : (WF.putObj D (.deferred none)).cell? ⟨w.heap.size + 1 + 1 + 1 + 1, 2, none⟩ = some (.slice none 0 0) := news_at hRG 2 _ rfl
    have n3 : (WF.putObj D (.deferred none)).cell? ⟨w.heap.size + 1 + 1 + 1 + 1 + 1, 0, none⟩ = some (.int .i64 e) := news_at hEG 0 _ rfl
    refine ⟨by simp, .inl ⟨_, _, rfl, run_takeDeferred hK, ?_⟩⟩
    refine ⟨poseEV (0, 0) (.slice none 0 0) e, by simp [results, Try.results26, go_sem, n0, n1, n2, n3, poseEV], ?_⟩
    rw [← HPo.out]
    unfold BackR
    rw [HR.out, if_neg hne, hre]
    exact ⟨_, rfl, .inl ⟨none, 0, rfl, rfl⟩, Below.putObj' ER2 (by omega) _⟩
end
end Go.Proofs.Ytgikfliibimkdaa
