/- Contract: Follow, by the reference, where it goes. -/
import Derived.Test.YtgikfliibimkdaaCRFol
namespace Go.Proofs.Ytgikfliibimkdaa
open Go.RowKit Go.Shelf

section
variable {vu vp vg vst : Value} {v : CVeh} {ps guide : List Pt} {steer : List (List Int)}
set_option maxRecDepth 100000 in
set_option maxHeartbeats 6400000 in
theorem RFollow_go (o1 o2 s d : Int) (w : World) (hs : Sl 11 RUnit w vu v.units) (hp : Pts w vp ps) (hg : Pts w vg guide) (hst : Sl 1 RNums w vst steer) (h : poseE v (o1, o2) ps = 0) (h2 : (lenS guide).2 = 0) (h3 : inB d 1 16777216 = true) (h4 : inB s 0 (lenS guide).1 = true) (h5 : ¬ 2000 < stepsI (lenS guide).1 s d) (h6 : ¬ (steer ≠ [] ∧ (steer.length : Int) ≠ stepsI (lenS guide).1 s d)) :
    Calls Try.prog 34 #[vehV v vu, poseV (o1, o2) vp, vg, .int .i64 s, .int .i64 d, vst] w (FolR v ((o1, o2), ps) guide s d steer w) := by
  have CC := fun w' (h : Ext w w') => RCheckPose_c (lead := (o1, o2)) w' (hs.ext RUnit.stable h) (hp.ext h)
  rw [h] at CC
  have CL := fun w' (h : Ext w w') => RLength_c vg guide w' (hg.ext h)
  have HR := Lib.hid (followS_go (old := ((o1, o2), ps)) h h2 h3 h4 h5 h6)
  unfold i2V at CL
  rw [h2] at CL
  obtain ⟨hd1, hd2⟩ := inB_iff.1 h3
  obtain ⟨hs1, hs2⟩ := inB_iff.1 h4
  have CD := fun w' (h : Ext w w') => Leads_c vg guide s d (lenS guide).1 w' (hg.ext h) h2 rfl hd1 hd2 hs1 hs2
  have hK1 := stepsI_bd hd1 hs2
  obtain ⟨m, hm⟩ : ∃ m : Nat, stepsI (lenS guide).1 s d = (m : Int) := ⟨(stepsI (lenS guide).1 s d).toNat, by omega⟩
  have hm0 : 1 ≤ m := by omega
  have B1 := fun w => in3_c d 1 16777216 w
  have B2 := fun w => in3_c s 0 (lenS guide).1 w
  rw [h3] at B1
  rw [h4] at B2
  rw [hm] at h5 h6 HR CD
  rw [Int.toNat_natCast] at HR CD
  have hsl : steer = [] ∨ (¬ steer = [] ∧ steer.length = m) := by
    by_cases hz : steer = []
    · exact .inl hz
    · refine .inr ⟨hz, ?_⟩
      by_cases hz2 : (steer.length : Int) = (m : Int)
      · omega
      · exact absurd ⟨hz, hz2⟩ h6
  have CS := fun (q1 q2 r1 r2 : Int) (vq vk : Value) (pq : List Pt) (st : List Int) w' (he : Ext w w') (hpq : Pts w' vq pq) (hk : Sl 1 RNum w' vk st) => RStep_c q1 q2 r1 r2 w' (hs.ext RUnit.stable he) hpq hk
  have hvl := vehE_len (puts_len h).2.1
  have hmk := run_make_row' (P := Try.prog) 42 3 (.int .i64 0) 8 Try.underlying42 infoNum rfl .i64 .i64 v.units.length (by omega) (by omega)
  have HVL := Lib.hid hvl
  have hmz : ∀ (W : World) (i : Nat), i < v.units.length → (W.alloc (.cells (madeCells #[.int .i64 0] v.units.length) 3)).cell? ⟨W.heap.size, i, none⟩ = some (.int .i64 0) := fun W i hi => (World.rowIs_made W (.int .i64 0) v.units.length 3).cell hi
  obtain ⟨MC, hMC⟩ : ∃ MC, madeCells #[.int .i64 0] v.units.length = MC := ⟨_, rfl⟩
  rw [hMC] at hmk hmz
  have HMZ := Lib.hid hmz
  have HPT := Lib.hid hp
  have HST := Lib.hid hst
  obtain ⟨ip, hip, hz0, hz1, hz2⟩ := info_parts infoPose
  obtain ⟨A, cap, rfl, hl, hl2⟩ := hs.shape
  obtain ⟨Ap, capp, rfl⟩ := pts_shape hp
  obtain ⟨Ag, capg, rfl⟩ := pts_shape hg
  obtain ⟨As, caps, rfl, hls, hls2⟩ := hst.shape
  obtain ⟨Post, hPost⟩ : ∃ Post, FolR v ((o1, o2), ps) guide s d steer w = Post := ⟨_, rfl⟩
  rw [hPost]
  have HPo := Lib.hid hPost
  unfold vehV poseV at *
  simp only at *
  generalize (lenS guide).1 = n at *
  replace CC := Lib.hid CC
  replace CL := Lib.hid CL
  replace CD := Lib.hid CD
  replace B1 := Lib.hid B1
  replace B2 := Lib.hid B2
  replace CS := Lib.hid CS
  have HSL := Lib.hid hsl
  have hm2 : (m : Int) ≤ 2000 := by omega
  have hm1 : ((m : Int) != 0) = true := bne_iff_ne.2 (by omega)
  have HMB := Lib.hid hm2
  clear hs hp hg hst h h2 h3 h4 hm hPost hK1 h5 h6 hmz hMC hsl hvl hd1 hd2 hs1 hs2
  rcases (show (steer.length : Int) = 0 ∨ (¬ (steer.length : Int) = 0 ∧ (steer.length : Int) = (m : Int)) by have := HSL.out; rcases this with h | ⟨h, h'⟩; (left; rw [h]; rfl); (right; omega)) with h8 | ⟨h8, h9⟩
  · go_enter Try.func34, Try.ntmps34
    go_upto_region 16 with (first | (go_at_call 15; refine (CC.out _ (by (repeat' (first | exact Ext.refl _ | assumption | refine Ext.alloc ?_ _ | refine Ext.drew ?_ | refine Ext.drewN ?_ _ | refine Ext.set ?_ (by first | exact Nat.le_refl _ | exact le1 _ | exact le2 _ | exact le3 _ | exact le4 _ | exact le5 _ | exact le6 _) _ | refine Ext.trans ?_ (by assumption))))).mono ?_; rintro e w1 ⟨rfl, hb⟩; have hT : w1.heap[w.heap.size + 1]? = some (.cells #[.int .i64 o1, .int .i64 o2, .slice Ap ps.length capp] 29 (0, 0)) := (hb.block _ (by simp)).trans (new_at (by simp)); have E3 : Ext (w.alloc (.cells #[.string v.name, .slice A v.units.length cap, .int .i64 v.first, .int .i64 v.last] 24)) w1 := ((Ext.refl _).alloc _).trans hb; clear hb) | (go_at_call 32; refine (CL.out _ (((Ext.refl w).alloc _).trans E3)).mono ?_; rintro e w2 ⟨rfl, hb⟩; replace hT := hb.blk hT; replace E3 := E3.trans hb; clear hb) | (go_at_call 69; (with_reducible refine (B1.out _).mono ?_); rintro e w9 ⟨rfl, rfl⟩) | (go_at_call 69; (with_reducible refine (B2.out _).mono ?_); rintro e w9 ⟨rfl, rfl⟩) | (go_at_call 70; refine (CD.out _ (((Ext.refl w).alloc _).trans E3)).mono ?_; rintro e w3 ⟨vl, ls, rfl, hOL, hb, hL1, _⟩; obtain ⟨AL, cL, rfl⟩ := own_shape hOL; have hlT2 := fst_lt hT; replace hT := hb.blk hT; replace E3 := E3.trans hb; have hs23 := hb.sz; clear hb; replace hL1 := hL1 HMB.out; have hln : (ls.length : Int) = (m : Int) := (by rw [hL1]; simp); have hlm : ¬ (2000 : Int) < (ls.length : Int) := (by omega); have HL1 := Lib.hid hL1; have HOL := Lib.hid hOL; clear hL1 hOL))
    have EA : Ext w (w.alloc (.cells #[.string v.name, .slice A v.units.length cap, .int .i64 v.first, .int .i64 v.last] 24)) := (Ext.refl w).alloc _
    have hsA : (w.alloc (.cells #[.string v.name, .slice A v.units.length cap, .int .i64 v.first, .int .i64 v.last] 24)).heap.size = w.heap.size + 1 := by simp
    have hVA : (w.alloc (.cells #[.string v.name, .slice A v.units.length cap, .int .i64 v.first, .int .i64 v.last] 24)).heap[w.heap.size]? = some (.cells #[.string v.name, .slice A v.units.length cap, .int .i64 v.first, .int .i64 v.last] 24 (0, 0)) := new_at rfl
    generalize (w.alloc (.cells #[.string v.name, .slice A v.units.length cap, .int .i64 v.first, .int .i64 v.last] 24)) = wA at *
    have hP4 : RowP (w.heap.size + 1) (.slice none 0 0) w3 (.slice Ap ps.length capp) ps := RowP.old (HPT.out.ext EA) E3 (by omega) (fun g hg => by simp [Value.ownBlock] at hg)
    have hI4 : FolI (w.heap.size + 1) (w.heap.size + 1 + 1) wA w3 (.slice none 0 0) [] ((o1, o2), ps) (.slice Ap ps.length capp) := ⟨⟨rfl, .inl ⟨rfl, rfl⟩⟩, fun q hq => by simp at hq, hT, hP4, E3, by omega, by omega⟩
    have hZ4 : RowP (w.heap.size + 1) (.slice none 0 0) w3 (.slice AL ls.length cL) ls := RowP.new (w0 := w2) HOL.out.pts (own_ge HOL.out) hlT2 (fun g hg => by simp [Value.ownBlock] at hg)
    have HI4 := Lib.hid hI4
    have HZ4 := Lib.hid hZ4
    clear hI4 hZ4 hP4 hT E3 hlT2
    go_loopw [18, 17] (fun i ov wr => ∃ (k : Nat) (l : List (CPos × Value)) (p : CPos) (va out : Value), k ≤ m ∧ i = .int .i64 k ∧ out = ov ∧ FolI (w.heap.size + 1) (w.heap.size + 1 + 1) wA wr out l p va ∧ RowP (w.heap.size + 1) out wr (.slice AL ls.length cL) ls ∧ folK v ((o1, o2), ps) (leadF guide s d n) (steerF v.units.length steer) k = .inl (p, l.map (·.1))) (fun i _ _ => m - (intOf i).toNat)
    case atStart => exact ⟨0, [], ((o1, o2), ps), _, _, by omega, rfl, rfl, HI4.out, HZ4.out, rfl⟩
    case round =>
      obtain ⟨k, l, p, va, out, hk, rfl, rfl, hI, hZ, hfk⟩ := hrel
      by_cases hlt : k < m
      case neg =>
        obtain rfl : k = m := by omega
        have hx : ¬ (k : Int) < (k : Int) := by omega
        have hll : l.length = k := by have := folK_len hfk; simpa using this
        have hsl := hI.sl (by omega)
        have EF := EA.trans hI.below
        clear hI hZ hll
        go_wp2_with fail
        show Post (.returned (.tuple #[out, .int .i64 0])) _
        rw [← HPo.out]
        unfold FolR
        rw [HR.out, hfk]
        exact ⟨out, rfl, hsl, EF⟩
      case pos =>
        obtain ⟨⟨q1, q2⟩, p2⟩ := p
        obtain ⟨Aa, ca, rfl⟩ := pts_shape hI.now.1
        have EW := EA.trans hI.below
        obtain ⟨⟨r1, r2⟩, hr⟩ := some_of_lt (show k < ls.length by omega)
        have hlead : leadF guide s d n k = (r1, r2) := by
          rw [HL1.out] at hr
          simpa [hlt] using hr
        obtain ⟨lb, lo, rfl, c8, c9⟩ := pts_at hZ.1 hr
        simp only at c8 c9
        have hsteer : steerF v.units.length steer k = List.replicate v.units.length 0 := by
          unfold steerF
          rw [if_pos (List.length_eq_zero_iff.1 (by omega))]
        obtain ⟨vk, hvk⟩ : ∃ x : Value, (Value.slice (some ⟨wr.heap.size, 0, none⟩) v.units.length v.units.length) = x := ⟨_, rfl⟩
        obtain ⟨st, hst⟩ : ∃ x, List.replicate v.units.length (0 : Int) = x := ⟨_, rfl⟩
        have hKS : ∀ (W : World), (∀ i, i < v.units.length → W.cell? ⟨wr.heap.size, i, none⟩ = some (.int .i64 0)) → Sl 1 RNum W vk st := by intro W hW; rw [← hvk, ← hst]; exact made_sl hW (by have := HVL.out.1; omega)
        rw [hst] at hsteer
        subst hvk
        clear hst hr
        obtain ⟨⟨⟨n1, n2⟩, nl, se⟩, hS⟩ : ∃ x, stepS v (q1, q2) p2 (r1, r2) st = x := ⟨_, rfl⟩
        have CSk := fun w' (he : Ext w w') (hpq : Pts w' (.slice Aa p2.length ca) p2) (hk : Sl 1 RNum w' (Value.slice (some ⟨wr.heap.size, 0, none⟩) v.units.length v.units.length) st) => CS.out q1 q2 r1 r2 (.slice Aa p2.length ca) (Value.slice (some ⟨wr.heap.size, 0, none⟩) v.units.length v.units.length) p2 st w' he hpq hk
        unfold StepR poseEV at CSk
        rw [hS] at CSk
        simp only at CSk
        have hsE : stepE v ((q1, q2), p2) (leadF guide s d n k) (steerF v.units.length steer k) = se := by unfold stepE; rw [hlead, hsteer, hS]
        have hsP : stepP v ((q1, q2), p2) (leadF guide s d n k) (steerF v.units.length steer k) = ((n1, n2), nl) := by unfold stepP; rw [hlead, hsteer, hS]
        have hll : l.length = k := by have := folK_len hfk; simpa using this
        have ew3 := IntWalk.i64_in ((k : Int) + 1) (by omega)
        have i1 : (0 : Int) ≤ (k : Int) := by omega
        have i2 : (k : Int) < (m : Int) := by omega
        have i4 : (k : Int) < (ls.length : Int) := by omega
        have hVr := hI.below.blk hVA
        have hlV := fst_lt hVr
        have hlT := fst_lt hI.pose
        have y1r : wr.cell? ⟨w.heap.size, 1, none⟩ = some (.slice A v.units.length cap) := news_at hVr 1 _ rfl
        have HI := Lib.hid hI
        have HZ := Lib.hid hZ
        have HFK := Lib.hid hfk
        have HKS := Lib.hid hKS
        have HLL := Lib.hid hll
        have HSE := Lib.hid hsE
        have HSP := Lib.hid hsP
        have HVr := Lib.hid hVr
        have HK := Lib.hid hlt
        have HC8 := Lib.hid (And.intro c8 c9)
        replace CSk := Lib.hid CSk
        clear hI hZ hfk hKS hll hsE hsP hlead hsteer hS hVr hlt hk c8 c9
        go_upto_region 21 with fail
        have h56 : Ext wr (wr.alloc (.cells MC 3)) := (Ext.refl wr).alloc _
        have hz6 := fun i hi => HMZ.out wr i hi
        obtain ⟨K0, hK0⟩ : ∃ x, wr.heap.size = x := ⟨_, rfl⟩
        rw [hK0] at hz6
        generalize (wr.alloc (.cells MC 3)) = W6 at *
        have hI6 := HI.out.ext h56
        have hV6 := h56.blk HVr.out
        have y0 : W6.cell? ⟨w.heap.size, 0, none⟩ = some (.string v.name) := news_at hV6 0 _ rfl
        have y1 : W6.cell? ⟨w.heap.size, 1, none⟩ = some (.slice A v.units.length cap) := news_at hV6 1 _ rfl
        have y2 : W6.cell? ⟨w.heap.size, 2, none⟩ = some (.int .i64 v.first) := news_at hV6 2 _ rfl
        have y3 : W6.cell? ⟨w.heap.size, 3, none⟩ = some (.int .i64 v.last) := news_at hV6 3 _ rfl
        have t0 : W6.cell? ⟨w.heap.size + 1, 0, none⟩ = some (.int .i64 q1) := news_at hI6.pose 0 _ rfl
        have t1 : W6.cell? ⟨w.heap.size + 1, 1, none⟩ = some (.int .i64 q2) := news_at hI6.pose 1 _ rfl
        have t2 : W6.cell? ⟨w.heap.size + 1, 2, none⟩ = some (.slice Aa p2.length ca) := news_at hI6.pose 2 _ rfl
        have c8 := Ext.cell h56 HC8.out.1
        have c9 := Ext.cell h56 HC8.out.2
        have hk6 : Sl 1 RNum W6 (Value.slice (some ⟨wr.heap.size, 0, none⟩) v.units.length v.units.length) st := HKS.out W6 (by rw [hK0]; exact hz6)
        have E6 := EW.trans h56
        have HCS := Lib.hid (fun w' (he : Ext W6 w') => CSk.out w' (E6.trans he) (hI6.now.1.ext he) (hk6.ext RNum.stable he))
        have HI6 := Lib.hid hI6
        have HZ6 := Lib.hid (HZ.out.ext h56)
        have nA : w.heap.size ≠ W6.heap.size := by have := fst_lt hV6; omega
        have nB : w.heap.size + 1 ≠ W6.heap.size := by have := fst_lt hI6.pose; omega
        have nC : lb ≠ W6.heap.size := by have := lt_of_cell c8; omega
        clear hI6 hV6 h56 EW hk6 hz6 y1r E6 hK0
        go_cut [20, 21] from 62 to 97 (fun sa sb wc => ∃ (t : Nat) (vz : Value), sa = .pointer (some ⟨t, 0, none⟩) ∧ sb = .int .i64 se ∧ Ext W6 wc ∧ W6.heap.size ≤ t ∧ wc.heap[t]? = some (.cells #[.int .i64 n1, .int .i64 n2, vz] 29 (0, 0)) ∧ Pts wc vz nl ∧ (∀ g, vz.ownBlock = some g → W6.heap.size ≤ g))
        case first =>
          go_region_held3 (fun w' => w'.cell? ⟨w.heap.size, 0, none⟩ = some (.string v.name) ∧ w'.cell? ⟨w.heap.size, 1, none⟩ = some (.slice A v.units.length cap) ∧ w'.cell? ⟨w.heap.size, 2, none⟩ = some (.int .i64 v.first) ∧ w'.cell? ⟨w.heap.size, 3, none⟩ = some (.int .i64 v.last) ∧ w'.cell? ⟨w.heap.size + 1, 0, none⟩ = some (.int .i64 q1) ∧ w'.cell? ⟨w.heap.size + 1, 1, none⟩ = some (.int .i64 q2) ∧ w'.cell? ⟨w.heap.size + 1, 2, none⟩ = some (.slice Aa p2.length ca) ∧ w'.cell? ⟨lb, lo + k * 2, none⟩ = some (.int .i64 r1) ∧ w'.cell? ⟨lb, lo + k * 2 + 1, none⟩ = some (.int .i64 r2)) (refine ⟨?_, ?_, ?_, ?_, ?_, ?_, ?_, ?_, ?_⟩ <;> (repeat' (with_reducible (first | assumption | refine Ext.cell hbZ ?_ | refine Ext.cell (Ext.refl _).drew ?_ | refine cell_set_ne nA ?_ | refine cell_set_ne nB ?_ | refine cell_set_ne nC ?_ | refine Ext.cell ((Ext.refl _).alloc _) ?_)))) ((go_at_call 25; (with_reducible refine (HCS.out _ (by (repeat' (first | exact Ext.refl _ | assumption | refine Ext.alloc ?_ _ | refine Ext.drew ?_ | refine Ext.drewN ?_ _ | refine Ext.set ?_ (by first | exact Nat.le_refl _ | exact le1 _ | exact le2 _ | exact le3 _ | exact le4 _ | exact le5 _ | exact le6 _) _ | refine Ext.trans ?_ (by assumption))))).mono ?_); rintro e wZ ⟨vz, rfl, hpz, hnz, hbZ⟩; obtain ⟨Az, cz, rfl⟩ := pts_shape hpz; have zZ := (show Ext W6 wZ from by (repeat' (first | exact Ext.refl _ | assumption | refine Ext.alloc ?_ _ | refine Ext.drew ?_ | refine Ext.drewN ?_ _ | refine Ext.set ?_ (by first | exact Nat.le_refl _ | exact le1 _ | exact le2 _ | exact le3 _ | exact le4 _ | exact le5 _ | exact le6 _) _ | refine Ext.trans ?_ (by assumption)))).sz; (try (have yW : wZ.heap[W6.heap.size]? = some (.cells #[.int .i64 0, .int .i64 0, .slice none 0 0] 29 (0, 0)) := new_kept (W := W6.drew) hbZ)); (try (have c0 : wZ.cell? ⟨W6.heap.size, 0, none⟩ = some (.int .i64 0) := news_at yW 0 _ rfl; have c1 : wZ.cell? ⟨W6.heap.size, 1, none⟩ = some (.int .i64 0) := news_at yW 1 _ rfl; have c2 : wZ.cell? ⟨W6.heap.size, 2, none⟩ = some (.slice none 0 0) := news_at yW 2 _ rfl; have f0 := blk_frz yW 0; have f1 := blk_frz yW 1; have f2 := blk_frz yW 2)); skip))
          all_goals
            go_wp2_with fail
            go_meet
            first
              | exact ⟨wZ.heap.size, .slice Az nl.length cz, rfl, rfl, (show Ext W6 wZ from by (repeat' (first | exact Ext.refl _ | assumption | refine Ext.alloc ?_ _ | refine Ext.drew ?_ | refine Ext.drewN ?_ _ | refine Ext.set ?_ (by first | exact Nat.le_refl _ | exact le1 _ | exact le2 _ | exact le3 _ | exact le4 _ | exact le5 _ | exact le6 _) _ | refine Ext.trans ?_ (by assumption)))).alloc _, zZ, new_at rfl, hpz.ext ((Ext.refl wZ).alloc _), fun g hg => by have h9 := hnz g hg; (try rw [size_drew] at h9); (repeat rw [size_alloc] at h9); omega⟩
              | (have hnb : (Value.slice Az nl.length cz).ownBlock ≠ some W6.heap.size := (fun e => by have h9 := hnz _ e; (try rw [size_drew] at h9); (repeat rw [size_alloc] at h9); omega); exact ⟨W6.heap.size, .slice Az nl.length cz, rfl, rfl, (((show Ext W6 wZ from by (repeat' (first | exact Ext.refl _ | assumption | refine Ext.alloc ?_ _ | refine Ext.drew ?_ | refine Ext.drewN ?_ _ | refine Ext.set ?_ (by first | exact Nat.le_refl _ | exact le1 _ | exact le2 _ | exact le3 _ | exact le4 _ | exact le5 _ | exact le6 _) _ | refine Ext.trans ?_ (by assumption)))).set (p := ⟨W6.heap.size, 0, none⟩) (Nat.le_refl _) _).set (p := ⟨W6.heap.size, 1, none⟩) (Nat.le_refl _) _).set (p := ⟨W6.heap.size, 2, none⟩) (Nat.le_refl _) _, (Nat.le_refl _), three_set _ _ _ yW, pts_off (pts_off (pts_off hpz hnb) hnb) hnb, fun g hg => by have h9 := hnz g hg; (try rw [size_drew] at h9); (repeat rw [size_alloc] at h9); omega⟩)
        case rest =>
          obtain ⟨t, vz, rfl, rfl, E67, htW, hTz, hpz, hnz⟩ := hcut
          generalize wc = W7 at *
          obtain ⟨Az, cz, rfl⟩ := pts_shape hpz
          have HI7 := Lib.hid (HI6.out.ext E67)
          have HZ7 := Lib.hid (HZ6.out.ext E67)
          have hlT6 := fst_lt HI6.out.pose
          clear y0 y1 y2 y3 t0 t1 t2 c8 c9
          by_cases hse : se = 0
          case neg =>
            have EF := EA.trans HI7.out.below
            have HN := Lib.hid hse
            clear hpz hnz
            go_wp2_with fail
            show Post (.returned (.tuple #[.slice none 0 0, .int .i64 se])) _
            rw [← HPo.out]
            unfold FolR
            rw [HR.out, folK_stop HFK.out (by rw [HSE.out]; exact HN.out) HK.out, HSE.out]
            exact ⟨_, rfl, ⟨none, 0, rfl, by simp [folR], by simp [folR], fun i x hi => by simp [folR] at hi⟩, EF⟩
          case pos =>
            have j0 : W7.cell? ⟨t, 0, none⟩ = some (.int .i64 n1) := news_at hTz 0 _ rfl
            have j1 : W7.cell? ⟨t, 1, none⟩ = some (.int .i64 n2) := news_at hTz 1 _ rfl
            have j2 : W7.cell? ⟨t, 2, none⟩ = some (.slice Az nl.length cz) := news_at hTz 2 _ rfl
            have t0 : W7.cell? ⟨w.heap.size + 1, 0, none⟩ = some (.int .i64 q1) := news_at HI7.out.pose 0 _ rfl
            have t1 : W7.cell? ⟨w.heap.size + 1, 1, none⟩ = some (.int .i64 q2) := news_at HI7.out.pose 1 _ rfl
            have t2 : W7.cell? ⟨w.heap.size + 1, 2, none⟩ = some (.slice Aa p2.length ca) := news_at HI7.out.pose 2 _ rfl
            have f0 := blk_frz HI7.out.pose 0
            have f1 := blk_frz HI7.out.pose 1
            have f2 := blk_frz HI7.out.pose 2
            have hlT7 := fst_lt HI7.out.pose
            have hlt7 := fst_lt hTz
            have hRN := RowP.new (T := w.heap.size + 1) (out := out) hpz hnz hlT6 HI6.out.lt
            have HRN := Lib.hid hRN
            have HS0 := Lib.hid hse
            clear hRN hpz hnz hTz
            go_upto_region 25 with fail
            have hI8 := HI7.out.store (p' := ((n1, n2), nl)) (va' := .slice Az nl.length cz) HRN.out
            have hZ8 := (HZ7.out.set (o := 0) (u := .int .i64 n1)).set (o := 1) (u := .int .i64 n2) |>.set (o := 2) (u := .slice Az nl.length cz)
            simp only at hI8
            clear t0 t1 t2 f0 f1 f2 hlT7 j0 j1 j2
            generalize (((W7.setCell ⟨w.heap.size + 1, 0, none⟩ (.int .i64 n1)).setCell ⟨w.heap.size + 1, 1, none⟩ (.int .i64 n2)).setCell ⟨w.heap.size + 1, 2, none⟩ (.slice Az nl.length cz)) = W8 at *
            have t0 : W8.cell? ⟨w.heap.size + 1, 0, none⟩ = some (.int .i64 n1) := news_at hI8.pose 0 _ rfl
            have t1 : W8.cell? ⟨w.heap.size + 1, 1, none⟩ = some (.int .i64 n2) := news_at hI8.pose 1 _ rfl
            have t2 : W8.cell? ⟨w.heap.size + 1, 2, none⟩ = some (.slice Az nl.length cz) := news_at hI8.pose 2 _ rfl
            have hlT8 := fst_lt hI8.pose
            have HI8 := Lib.hid hI8
            have HZ8 := Lib.hid hZ8
            have hll : l.length ≤ 2000 := by have := HLL.out; omega
            have hT8 : w.heap.size + 1 + 1 ≤ W8.heap.size := by omega
            clear hI8 hZ8
            go_upto_region 17 with (at_builtin; refine wpList_append_lies _ rfl _ _ 58 rfl (w.heap.size + 1 + 1) 29 ip _ 3 40 Try.underlying58 hip hz0 hz1 hz2 rfl (by decide) out l.length (flatQ l) rfl (HI8.out.own.alloc _) ⟨W8.heap.size, 0, none⟩ 1 1 [.int .i64 n1, .int .i64 n2, .slice Az nl.length cz] rfl rfl (World.news_of_block (cs := #[.int .i64 n1, .int .i64 n2, .slice Az nl.length cz]) (t := 29) (fr := (0, 0)) (heap_alloc_new _ _)) (by simp [Value.oneCell']) (by omega) (by unfold maxLen; omega) (by omega) (by simp; omega) (W8.heap.size + 1) (by simp) ?_; intro g9 cap9 w9 hown9 hgrow9 hat9 hlt9)
            have h89 : Ext W8 (W8.alloc (.cells #[.int .i64 n1, .int .i64 n2, .slice Az nl.length cz] 29)) := (Ext.refl W8).alloc _
            have hat : out.ownBlock = some g9 ∨ g9 = (W8.alloc (.cells #[.int .i64 n1, .int .i64 n2, .slice Az nl.length cz] 29)).heap.size := by
              rcases hat9 with h | h
              · exact .inl h
              · exact .inr (by simpa using h)
            have hI9 := (HI8.out.ext h89).push hown9 hgrow9 hat
            have hZ9 := (HZ8.out.ext h89).grow (out' := .slice (some ⟨g9, 0, none⟩) (l.length + 1) cap9) hgrow9 (fun k hk => by
              have e : g9 = k := by simpa [Value.ownBlock] using hk
              subst e
              exact hat)
            have hfk9 := folK_ok HFK.out (by rw [HSE.out]; exact HS0.out)
            rw [HSP.out] at hfk9
            have HX := Lib.hid (And.intro hI9 (And.intro hZ9 hfk9))
            clear hI9 hZ9 hfk9 hat h89 hat9 hgrow9 hown9 hlt9 t0 t1 t2
            go_wp2_with fail
            go_roundw
            case rel => exact ⟨k + 1, l ++ [(((n1, n2), nl), .slice Az nl.length cz)], ((n1, n2), nl), .slice Az nl.length cz, _, HK.out, by go_num, rfl, HX.out.1, HX.out.2.1, by simpa using HX.out.2.2⟩
            case measure => have := HK.out; simp [intOf]; omega
  · go_enter Try.func34, Try.ntmps34
    go_upto_region 16 with (first | (go_at_call 15; refine (CC.out _ (by (repeat' (first | exact Ext.refl _ | assumption | refine Ext.alloc ?_ _ | refine Ext.drew ?_ | refine Ext.drewN ?_ _ | refine Ext.set ?_ (by first | exact Nat.le_refl _ | exact le1 _ | exact le2 _ | exact le3 _ | exact le4 _ | exact le5 _ | exact le6 _) _ | refine Ext.trans ?_ (by assumption))))).mono ?_; rintro e w1 ⟨rfl, hb⟩; have hT : w1.heap[w.heap.size + 1]? = some (.cells #[.int .i64 o1, .int .i64 o2, .slice Ap ps.length capp] 29 (0, 0)) := (hb.block _ (by simp)).trans (new_at (by simp)); have E3 : Ext (w.alloc (.cells #[.string v.name, .slice A v.units.length cap, .int .i64 v.first, .int .i64 v.last] 24)) w1 := ((Ext.refl _).alloc _).trans hb; clear hb) | (go_at_call 32; refine (CL.out _ (((Ext.refl w).alloc _).trans E3)).mono ?_; rintro e w2 ⟨rfl, hb⟩; replace hT := hb.blk hT; replace E3 := E3.trans hb; clear hb) | (go_at_call 69; (with_reducible refine (B1.out _).mono ?_); rintro e w9 ⟨rfl, rfl⟩) | (go_at_call 69; (with_reducible refine (B2.out _).mono ?_); rintro e w9 ⟨rfl, rfl⟩) | (go_at_call 70; refine (CD.out _ (((Ext.refl w).alloc _).trans E3)).mono ?_; rintro e w3 ⟨vl, ls, rfl, hOL, hb, hL1, _⟩; obtain ⟨AL, cL, rfl⟩ := own_shape hOL; have hlT2 := fst_lt hT; replace hT := hb.blk hT; replace E3 := E3.trans hb; have hs23 := hb.sz; clear hb; replace hL1 := hL1 HMB.out; have hln : (ls.length : Int) = (m : Int) := (by rw [hL1]; simp); have hlm : ¬ (2000 : Int) < (ls.length : Int) := (by omega); have HL1 := Lib.hid hL1; have HOL := Lib.hid hOL; clear hL1 hOL))
    have EA : Ext w (w.alloc (.cells #[.string v.name, .slice A v.units.length cap, .int .i64 v.first, .int .i64 v.last] 24)) := (Ext.refl w).alloc _
    have hsA : (w.alloc (.cells #[.string v.name, .slice A v.units.length cap, .int .i64 v.first, .int .i64 v.last] 24)).heap.size = w.heap.size + 1 := by simp
    have hVA : (w.alloc (.cells #[.string v.name, .slice A v.units.length cap, .int .i64 v.first, .int .i64 v.last] 24)).heap[w.heap.size]? = some (.cells #[.string v.name, .slice A v.units.length cap, .int .i64 v.first, .int .i64 v.last] 24 (0, 0)) := new_at rfl
    generalize (w.alloc (.cells #[.string v.name, .slice A v.units.length cap, .int .i64 v.first, .int .i64 v.last] 24)) = wA at *
    have hP4 : RowP (w.heap.size + 1) (.slice none 0 0) w3 (.slice Ap ps.length capp) ps := RowP.old (HPT.out.ext EA) E3 (by omega) (fun g hg => by simp [Value.ownBlock] at hg)
    have hI4 : FolI (w.heap.size + 1) (w.heap.size + 1 + 1) wA w3 (.slice none 0 0) [] ((o1, o2), ps) (.slice Ap ps.length capp) := ⟨⟨rfl, .inl ⟨rfl, rfl⟩⟩, fun q hq => by simp at hq, hT, hP4, E3, by omega, by omega⟩
    have hZ4 : RowP (w.heap.size + 1) (.slice none 0 0) w3 (.slice AL ls.length cL) ls := RowP.new (w0 := w2) HOL.out.pts (own_ge HOL.out) hlT2 (fun g hg => by simp [Value.ownBlock] at hg)
    have HI4 := Lib.hid hI4
    have HZ4 := Lib.hid hZ4
    clear hI4 hZ4 hP4 hT E3 hlT2
    go_loopw [18, 17] (fun i ov wr => ∃ (k : Nat) (l : List (CPos × Value)) (p : CPos) (va out : Value), k ≤ m ∧ i = .int .i64 k ∧ out = ov ∧ FolI (w.heap.size + 1) (w.heap.size + 1 + 1) wA wr out l p va ∧ RowP (w.heap.size + 1) out wr (.slice AL ls.length cL) ls ∧ folK v ((o1, o2), ps) (leadF guide s d n) (steerF v.units.length steer) k = .inl (p, l.map (·.1))) (fun i _ _ => m - (intOf i).toNat)
    case atStart => exact ⟨0, [], ((o1, o2), ps), _, _, by omega, rfl, rfl, HI4.out, HZ4.out, rfl⟩
    case round =>
      obtain ⟨k, l, p, va, out, hk, rfl, rfl, hI, hZ, hfk⟩ := hrel
      by_cases hlt : k < m
      case neg =>
        obtain rfl : k = m := by omega
        have hx : ¬ (k : Int) < (k : Int) := by omega
        have hll : l.length = k := by have := folK_len hfk; simpa using this
        have hsl := hI.sl (by omega)
        have EF := EA.trans hI.below
        clear hI hZ hll
        go_wp2_with fail
        show Post (.returned (.tuple #[out, .int .i64 0])) _
        rw [← HPo.out]
        unfold FolR
        rw [HR.out, hfk]
        exact ⟨out, rfl, hsl, EF⟩
      case pos =>
        obtain ⟨⟨q1, q2⟩, p2⟩ := p
        obtain ⟨Aa, ca, rfl⟩ := pts_shape hI.now.1
        have EW := EA.trans hI.below
        obtain ⟨⟨r1, r2⟩, hr⟩ := some_of_lt (show k < ls.length by omega)
        have hlead : leadF guide s d n k = (r1, r2) := by
          rw [HL1.out] at hr
          simpa [hlt] using hr
        obtain ⟨lb, lo, rfl, c8, c9⟩ := pts_at hZ.1 hr
        simp only at c8 c9
        obtain ⟨st, hst⟩ := some_of_lt (show k < steer.length by omega)
        have hsteer : steerF v.units.length steer k = st := by
          unfold steerF
          rw [if_neg (fun e => h8 (by rw [e]; rfl))]
          simp [List.getD, hst]
        obtain ⟨sb, so, css, rfl, _, ⟨vk, rfl, hKS⟩, hcs⟩ := HST.out.at hst
        replace hKS := hKS.ext RNum.stable EW
        have c0 := Ext.cell EW (hcs 0 _ rfl)
        simp only [Nat.add_zero, Nat.mul_one] at c0
        have i3 : (k : Int) < (steer.length : Int) := by omega
        have hlc := lt_of_cell c0
        clear hst hcs hr
        obtain ⟨⟨⟨n1, n2⟩, nl, se⟩, hS⟩ : ∃ x, stepS v (q1, q2) p2 (r1, r2) st = x := ⟨_, rfl⟩
        have CSk := fun w' (he : Ext w w') (hpq : Pts w' (.slice Aa p2.length ca) p2) (hk : Sl 1 RNum w' vk st) => CS.out q1 q2 r1 r2 (.slice Aa p2.length ca) vk p2 st w' he hpq hk
        unfold StepR poseEV at CSk
        rw [hS] at CSk
        simp only at CSk
        have hsE : stepE v ((q1, q2), p2) (leadF guide s d n k) (steerF v.units.length steer k) = se := by unfold stepE; rw [hlead, hsteer, hS]
        have hsP : stepP v ((q1, q2), p2) (leadF guide s d n k) (steerF v.units.length steer k) = ((n1, n2), nl) := by unfold stepP; rw [hlead, hsteer, hS]
        have hll : l.length = k := by have := folK_len hfk; simpa using this
        have ew3 := IntWalk.i64_in ((k : Int) + 1) (by omega)
        have i1 : (0 : Int) ≤ (k : Int) := by omega
        have i2 : (k : Int) < (m : Int) := by omega
        have i4 : (k : Int) < (ls.length : Int) := by omega
        have hVr := hI.below.blk hVA
        have hlV := fst_lt hVr
        have hlT := fst_lt hI.pose
        have y1r : wr.cell? ⟨w.heap.size, 1, none⟩ = some (.slice A v.units.length cap) := news_at hVr 1 _ rfl
        have HI := Lib.hid hI
        have HZ := Lib.hid hZ
        have HFK := Lib.hid hfk
        have HKS := Lib.hid hKS
        have HLL := Lib.hid hll
        have HSE := Lib.hid hsE
        have HSP := Lib.hid hsP
        have HVr := Lib.hid hVr
        have HK := Lib.hid hlt
        have HC8 := Lib.hid (And.intro c8 c9)
        replace CSk := Lib.hid CSk
        clear hI hZ hfk hKS hll hsE hsP hlead hsteer hS hVr hlt hk c8 c9
        go_upto_region 21 with fail
        have h56 : Ext wr (wr.alloc (.cells MC 3)) := (Ext.refl wr).alloc _
        have hz6 := fun i hi => HMZ.out wr i hi
        obtain ⟨K0, hK0⟩ : ∃ x, wr.heap.size = x := ⟨_, rfl⟩
        rw [hK0] at hz6
        generalize (wr.alloc (.cells MC 3)) = W6 at *
        have hI6 := HI.out.ext h56
        have hV6 := h56.blk HVr.out
        have y0 : W6.cell? ⟨w.heap.size, 0, none⟩ = some (.string v.name) := news_at hV6 0 _ rfl
        have y1 : W6.cell? ⟨w.heap.size, 1, none⟩ = some (.slice A v.units.length cap) := news_at hV6 1 _ rfl
        have y2 : W6.cell? ⟨w.heap.size, 2, none⟩ = some (.int .i64 v.first) := news_at hV6 2 _ rfl
        have y3 : W6.cell? ⟨w.heap.size, 3, none⟩ = some (.int .i64 v.last) := news_at hV6 3 _ rfl
        have t0 : W6.cell? ⟨w.heap.size + 1, 0, none⟩ = some (.int .i64 q1) := news_at hI6.pose 0 _ rfl
        have t1 : W6.cell? ⟨w.heap.size + 1, 1, none⟩ = some (.int .i64 q2) := news_at hI6.pose 1 _ rfl
        have t2 : W6.cell? ⟨w.heap.size + 1, 2, none⟩ = some (.slice Aa p2.length ca) := news_at hI6.pose 2 _ rfl
        have c8 := Ext.cell h56 HC8.out.1
        have c9 := Ext.cell h56 HC8.out.2
        have hk6 : Sl 1 RNum W6 vk st := HKS.out.ext RNum.stable h56
        have E6 := EW.trans h56
        have HCS := Lib.hid (fun w' (he : Ext W6 w') => CSk.out w' (E6.trans he) (hI6.now.1.ext he) (hk6.ext RNum.stable he))
        have HI6 := Lib.hid hI6
        have HZ6 := Lib.hid (HZ.out.ext h56)
        have nA : w.heap.size ≠ W6.heap.size := by have := fst_lt hV6; omega
        have nB : w.heap.size + 1 ≠ W6.heap.size := by have := fst_lt hI6.pose; omega
        have nC : lb ≠ W6.heap.size := by have := lt_of_cell c8; omega
        clear hI6 hV6 h56 EW hk6 hz6 y1r E6 hK0
        go_cut [20, 21] from 62 to 97 (fun sa sb wc => ∃ (t : Nat) (vz : Value), sa = .pointer (some ⟨t, 0, none⟩) ∧ sb = .int .i64 se ∧ Ext W6 wc ∧ W6.heap.size ≤ t ∧ wc.heap[t]? = some (.cells #[.int .i64 n1, .int .i64 n2, vz] 29 (0, 0)) ∧ Pts wc vz nl ∧ (∀ g, vz.ownBlock = some g → W6.heap.size ≤ g))
        case first =>
          go_region_held3 (fun w' => w'.cell? ⟨w.heap.size, 0, none⟩ = some (.string v.name) ∧ w'.cell? ⟨w.heap.size, 1, none⟩ = some (.slice A v.units.length cap) ∧ w'.cell? ⟨w.heap.size, 2, none⟩ = some (.int .i64 v.first) ∧ w'.cell? ⟨w.heap.size, 3, none⟩ = some (.int .i64 v.last) ∧ w'.cell? ⟨w.heap.size + 1, 0, none⟩ = some (.int .i64 q1) ∧ w'.cell? ⟨w.heap.size + 1, 1, none⟩ = some (.int .i64 q2) ∧ w'.cell? ⟨w.heap.size + 1, 2, none⟩ = some (.slice Aa p2.length ca) ∧ w'.cell? ⟨lb, lo + k * 2, none⟩ = some (.int .i64 r1) ∧ w'.cell? ⟨lb, lo + k * 2 + 1, none⟩ = some (.int .i64 r2)) (refine ⟨?_, ?_, ?_, ?_, ?_, ?_, ?_, ?_, ?_⟩ <;> (repeat' (with_reducible (first | assumption | refine Ext.cell hbZ ?_ | refine Ext.cell (Ext.refl _).drew ?_ | refine cell_set_ne nA ?_ | refine cell_set_ne nB ?_ | refine cell_set_ne nC ?_ | refine Ext.cell ((Ext.refl _).alloc _) ?_)))) ((go_at_call 25; (with_reducible refine (HCS.out _ (by (repeat' (first | exact Ext.refl _ | assumption | refine Ext.alloc ?_ _ | refine Ext.drew ?_ | refine Ext.drewN ?_ _ | refine Ext.set ?_ (by first | exact Nat.le_refl _ | exact le1 _ | exact le2 _ | exact le3 _ | exact le4 _ | exact le5 _ | exact le6 _) _ | refine Ext.trans ?_ (by assumption))))).mono ?_); rintro e wZ ⟨vz, rfl, hpz, hnz, hbZ⟩; obtain ⟨Az, cz, rfl⟩ := pts_shape hpz; have zZ := (show Ext W6 wZ from by (repeat' (first | exact Ext.refl _ | assumption | refine Ext.alloc ?_ _ | refine Ext.drew ?_ | refine Ext.drewN ?_ _ | refine Ext.set ?_ (by first | exact Nat.le_refl _ | exact le1 _ | exact le2 _ | exact le3 _ | exact le4 _ | exact le5 _ | exact le6 _) _ | refine Ext.trans ?_ (by assumption)))).sz; (try (have yW : wZ.heap[W6.heap.size]? = some (.cells #[.int .i64 0, .int .i64 0, .slice none 0 0] 29 (0, 0)) := new_kept (W := W6.drew) hbZ)); (try (have c0 : wZ.cell? ⟨W6.heap.size, 0, none⟩ = some (.int .i64 0) := news_at yW 0 _ rfl; have c1 : wZ.cell? ⟨W6.heap.size, 1, none⟩ = some (.int .i64 0) := news_at yW 1 _ rfl; have c2 : wZ.cell? ⟨W6.heap.size, 2, none⟩ = some (.slice none 0 0) := news_at yW 2 _ rfl; have f0 := blk_frz yW 0; have f1 := blk_frz yW 1; have f2 := blk_frz yW 2)); skip))
          all_goals
            go_wp2_with fail
            go_meet
            first
              | exact ⟨wZ.heap.size, .slice Az nl.length cz, rfl, rfl, (show Ext W6 wZ from by (repeat' (first | exact Ext.refl _ | assumption | refine Ext.alloc ?_ _ | refine Ext.drew ?_ | refine Ext.drewN ?_ _ | refine Ext.set ?_ (by first | exact Nat.le_refl _ | exact le1 _ | exact le2 _ | exact le3 _ | exact le4 _ | exact le5 _ | exact le6 _) _ | refine Ext.trans ?_ (by assumption)))).alloc _, zZ, new_at rfl, hpz.ext ((Ext.refl wZ).alloc _), fun g hg => by have h9 := hnz g hg; (try rw [size_drew] at h9); (repeat rw [size_alloc] at h9); omega⟩
              | (have hnb : (Value.slice Az nl.length cz).ownBlock ≠ some W6.heap.size := (fun e => by have h9 := hnz _ e; (try rw [size_drew] at h9); (repeat rw [size_alloc] at h9); omega); exact ⟨W6.heap.size, .slice Az nl.length cz, rfl, rfl, (((show Ext W6 wZ from by (repeat' (first | exact Ext.refl _ | assumption | refine Ext.alloc ?_ _ | refine Ext.drew ?_ | refine Ext.drewN ?_ _ | refine Ext.set ?_ (by first | exact Nat.le_refl _ | exact le1 _ | exact le2 _ | exact le3 _ | exact le4 _ | exact le5 _ | exact le6 _) _ | refine Ext.trans ?_ (by assumption)))).set (p := ⟨W6.heap.size, 0, none⟩) (Nat.le_refl _) _).set (p := ⟨W6.heap.size, 1, none⟩) (Nat.le_refl _) _).set (p := ⟨W6.heap.size, 2, none⟩) (Nat.le_refl _) _, (Nat.le_refl _), three_set _ _ _ yW, pts_off (pts_off (pts_off hpz hnb) hnb) hnb, fun g hg => by have h9 := hnz g hg; (try rw [size_drew] at h9); (repeat rw [size_alloc] at h9); omega⟩)
        case rest =>
          obtain ⟨t, vz, rfl, rfl, E67, htW, hTz, hpz, hnz⟩ := hcut
          generalize wc = W7 at *
          obtain ⟨Az, cz, rfl⟩ := pts_shape hpz
          have HI7 := Lib.hid (HI6.out.ext E67)
          have HZ7 := Lib.hid (HZ6.out.ext E67)
          have hlT6 := fst_lt HI6.out.pose
          clear y0 y1 y2 y3 t0 t1 t2 c8 c9
          by_cases hse : se = 0
          case neg =>
            have EF := EA.trans HI7.out.below
            have HN := Lib.hid hse
            clear hpz hnz
            go_wp2_with fail
            show Post (.returned (.tuple #[.slice none 0 0, .int .i64 se])) _
            rw [← HPo.out]
            unfold FolR
            rw [HR.out, folK_stop HFK.out (by rw [HSE.out]; exact HN.out) HK.out, HSE.out]
            exact ⟨_, rfl, ⟨none, 0, rfl, by simp [folR], by simp [folR], fun i x hi => by simp [folR] at hi⟩, EF⟩
          case pos =>
            have j0 : W7.cell? ⟨t, 0, none⟩ = some (.int .i64 n1) := news_at hTz 0 _ rfl
            have j1 : W7.cell? ⟨t, 1, none⟩ = some (.int .i64 n2) := news_at hTz 1 _ rfl
            have j2 : W7.cell? ⟨t, 2, none⟩ = some (.slice Az nl.length cz) := news_at hTz 2 _ rfl
            have t0 : W7.cell? ⟨w.heap.size + 1, 0, none⟩ = some (.int .i64 q1) := news_at HI7.out.pose 0 _ rfl
            have t1 : W7.cell? ⟨w.heap.size + 1, 1, none⟩ = some (.int .i64 q2) := news_at HI7.out.pose 1 _ rfl
            have t2 : W7.cell? ⟨w.heap.size + 1, 2, none⟩ = some (.slice Aa p2.length ca) := news_at HI7.out.pose 2 _ rfl
            have f0 := blk_frz HI7.out.pose 0
            have f1 := blk_frz HI7.out.pose 1
            have f2 := blk_frz HI7.out.pose 2
            have hlT7 := fst_lt HI7.out.pose
            have hlt7 := fst_lt hTz
            have hRN := RowP.new (T := w.heap.size + 1) (out := out) hpz hnz hlT6 HI6.out.lt
            have HRN := Lib.hid hRN
            have HS0 := Lib.hid hse
            clear hRN hpz hnz hTz
            go_upto_region 25 with fail
            have hI8 := HI7.out.store (p' := ((n1, n2), nl)) (va' := .slice Az nl.length cz) HRN.out
            have hZ8 := (HZ7.out.set (o := 0) (u := .int .i64 n1)).set (o := 1) (u := .int .i64 n2) |>.set (o := 2) (u := .slice Az nl.length cz)
            simp only at hI8
            clear t0 t1 t2 f0 f1 f2 hlT7 j0 j1 j2
            generalize (((W7.setCell ⟨w.heap.size + 1, 0, none⟩ (.int .i64 n1)).setCell ⟨w.heap.size + 1, 1, none⟩ (.int .i64 n2)).setCell ⟨w.heap.size + 1, 2, none⟩ (.slice Az nl.length cz)) = W8 at *
            have t0 : W8.cell? ⟨w.heap.size + 1, 0, none⟩ = some (.int .i64 n1) := news_at hI8.pose 0 _ rfl
            have t1 : W8.cell? ⟨w.heap.size + 1, 1, none⟩ = some (.int .i64 n2) := news_at hI8.pose 1 _ rfl
            have t2 : W8.cell? ⟨w.heap.size + 1, 2, none⟩ = some (.slice Az nl.length cz) := news_at hI8.pose 2 _ rfl
            have hlT8 := fst_lt hI8.pose
            have HI8 := Lib.hid hI8
            have HZ8 := Lib.hid hZ8
            have hll : l.length ≤ 2000 := by have := HLL.out; omega
            have hT8 : w.heap.size + 1 + 1 ≤ W8.heap.size := by omega
            clear hI8 hZ8
            go_upto_region 17 with (at_builtin; refine wpList_append_lies _ rfl _ _ 58 rfl (w.heap.size + 1 + 1) 29 ip _ 3 40 Try.underlying58 hip hz0 hz1 hz2 rfl (by decide) out l.length (flatQ l) rfl (HI8.out.own.alloc _) ⟨W8.heap.size, 0, none⟩ 1 1 [.int .i64 n1, .int .i64 n2, .slice Az nl.length cz] rfl rfl (World.news_of_block (cs := #[.int .i64 n1, .int .i64 n2, .slice Az nl.length cz]) (t := 29) (fr := (0, 0)) (heap_alloc_new _ _)) (by simp [Value.oneCell']) (by omega) (by unfold maxLen; omega) (by omega) (by simp; omega) (W8.heap.size + 1) (by simp) ?_; intro g9 cap9 w9 hown9 hgrow9 hat9 hlt9)
            have h89 : Ext W8 (W8.alloc (.cells #[.int .i64 n1, .int .i64 n2, .slice Az nl.length cz] 29)) := (Ext.refl W8).alloc _
            have hat : out.ownBlock = some g9 ∨ g9 = (W8.alloc (.cells #[.int .i64 n1, .int .i64 n2, .slice Az nl.length cz] 29)).heap.size := by
              rcases hat9 with h | h
              · exact .inl h
              · exact .inr (by simpa using h)
            have hI9 := (HI8.out.ext h89).push hown9 hgrow9 hat
            have hZ9 := (HZ8.out.ext h89).grow (out' := .slice (some ⟨g9, 0, none⟩) (l.length + 1) cap9) hgrow9 (fun k hk => by
              have e : g9 = k := by simpa [Value.ownBlock] using hk
              subst e
              exact hat)
            have hfk9 := folK_ok HFK.out (by rw [HSE.out]; exact HS0.out)
            rw [HSP.out] at hfk9
            have HX := Lib.hid (And.intro hI9 (And.intro hZ9 hfk9))
            clear hI9 hZ9 hfk9 hat h89 hat9 hgrow9 hown9 hlt9 t0 t1 t2
            go_wp2_with fail
            go_roundw
            case rel => exact ⟨k + 1, l ++ [(((n1, n2), nl), .slice Az nl.length cz)], ((n1, n2), nl), .slice Az nl.length cz, _, HK.out, by go_num, rfl, HX.out.1, HX.out.2.1, by simpa using HX.out.2.2⟩
            case measure => have := HK.out; simp [intOf]; omega
end
end Go.Proofs.Ytgikfliibimkdaa
