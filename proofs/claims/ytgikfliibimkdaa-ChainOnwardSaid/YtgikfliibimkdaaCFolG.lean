/- Contract: Follow, by the program, where it goes. -/
import Derived.Test.YtgikfliibimkdaaCFol
namespace Go.Proofs.Ytgikfliibimkdaa
open Go.RowKit Go.Shelf

section
variable {vu vp vg vst : Value} {v : CVeh} {ps guide : List Pt} {steer : List (List Int)}
set_option maxRecDepth 100000 in
set_option maxHeartbeats 6400000 in
theorem Follow_go (o1 o2 s d : Int) (w : World) (hs : Sl 11 RUnit w vu v.units) (hp : Pts w vp ps) (hg : Pts w vg guide) (hst : Sl 1 RNums w vst steer) (h : poseE v (o1, o2) ps = 0) (h2 : (lenS guide).2 = 0) (h3 : inB d 1 16777216 = true) (h4 : inB s 0 (lenS guide).1 = true) (h5 : ¬ 2000 < stepsI (lenS guide).1 s d) (h6 : ¬ (steer ≠ [] ∧ (steer.length : Int) ≠ stepsI (lenS guide).1 s d)) :
    Calls Try.prog 33 #[vehV v vu, poseV (o1, o2) vp, vg, .int .i64 s, .int .i64 d, vst] w (FolR v ((o1, o2), ps) guide s d steer w) := by
  have CC := fun w' (h : Ext w w') => CheckPose_c (lead := (o1, o2)) w' (hs.ext RUnit.stable h) (hp.ext h)
  rw [h] at CC
  have CL := fun w' (h : Ext w w') => Length_c vg guide w' (hg.ext h)
  have CA := fun k w' (h : Ext w w') => Along_c vg guide (min (s + ((k : Nat) : Int) * d) (lenS guide).1) w' (hg.ext h)
  have HR := Lib.hid (followS_go (old := ((o1, o2), ps)) h h2 h3 h4 h5 h6)
  unfold i2V at CL
  rw [h2] at CL
  have hn := lenS_0 h2
  have hnb := longS_le hn.1 hn.2.1
  rw [← hn.2.2] at hnb
  obtain ⟨hd1, hd2⟩ := inB_iff.1 h3
  obtain ⟨hs1, hs2⟩ := inB_iff.1 h4
  have hK1 := stepsI_bd hd1 hs2
  obtain ⟨m, hm⟩ : ∃ m : Nat, stepsI (lenS guide).1 s d = (m : Int) := ⟨(stepsI (lenS guide).1 s d).toNat, by omega⟩
  have hm0 : 1 ≤ m := by omega
  have hal := fun k => alongS_in h2 (lead_arg hd1 hs1 hs2 k)
  have B1 := fun w => cwithin_c d 1 16777216 w
  have B2 := fun w => cwithin_c s 0 (lenS guide).1 w
  rw [h3] at B1
  rw [h4] at B2
  rw [hm] at h5 h6 HR
  rw [Int.toNat_natCast] at HR
  have hsl : steer = [] ∨ (¬ steer = [] ∧ steer.length = m) := by
    by_cases hz : steer = []
    · exact .inl hz
    · refine .inr ⟨hz, ?_⟩
      by_cases hz2 : (steer.length : Int) = (m : Int)
      · omega
      · exact absurd ⟨hz, hz2⟩ h6
  have CS := fun (q1 q2 r1 r2 : Int) (vq vk : Value) (pq : List Pt) (st : List Int) w' (he : Ext w w') (hpq : Pts w' vq pq) (hk : Sl 1 RNum w' vk st) => Step_c q1 q2 r1 r2 w' (hs.ext RUnit.stable he) hpq hk
  have hmk := run_make_row' (P := Try.prog) 42 3 (.int .i64 0) 8 Try.underlying42 infoNum rfl .i64 .i64 v.units.length (by have := (vehE_len (puts_len h).2.1).1; omega) (by have := (vehE_len (puts_len h).2.1).1; omega)
  have hvl := vehE_len (puts_len h).2.1
  have HVL := Lib.hid hvl
  have hmz : ∀ (W : World) (i : Nat), i < v.units.length → (W.alloc (.cells (madeCells #[.int .i64 0] v.units.length) 3)).cell? ⟨W.heap.size, i, none⟩ = some (.int .i64 0) := fun W i hi => (World.rowIs_made W (.int .i64 0) v.units.length 3).cell hi
  obtain ⟨MC, hMC⟩ : ∃ MC, madeCells #[.int .i64 0] v.units.length = MC := ⟨_, rfl⟩
  rw [hMC] at hmk hmz
  have HMZ := Lib.hid hmz
  have HPT := Lib.hid hp
  have HST := Lib.hid hst
  obtain ⟨ip, hip, hz0, hz1, hz2⟩ := info_parts infoPose
  obtain ⟨A, cap, rfl, hl, hl2⟩ := hs.shape
  obtain ⟨Ap, capp, rfl⟩ := pts_shape hp
  obtain ⟨Ag, capg, rfl⟩ := pts_shape hg
  obtain ⟨As, caps, rfl, hls, hls2⟩ := hst.shape
  obtain ⟨Post, hPost⟩ : ∃ Post, FolR v ((o1, o2), ps) guide s d steer w = Post := ⟨_, rfl⟩
  rw [hPost]
  have HPo := Lib.hid hPost
  unfold vehV poseV at *
  simp only at *
  generalize (lenS guide).1 = n at *
  have hQ : (n - s + d - 1).tdiv d = (m : Int) - 1 := by
    rw [Int.tdiv_eq_ediv_of_nonneg (by omega)]
    unfold stepsI at hm
    omega
  have e1 := IntWalk.i64_in (n - s) (by omega)
  have e2 := IntWalk.i64_in (n - s + d) (by omega)
  have e3 := IntWalk.i64_in (n - s + d - 1) (by omega)
  have hdz : ¬ d = 0 := by omega
  have hq2 := Int.ediv_le_self (a := n - s + d - 1) d (by omega)
  have hmb : (m : Int) ≤ 17196646400 := by unfold stepsI at hm; omega
  have e4 := IntWalk.i64_in ((m : Int) - 1) (by omega)
  have e5 := (IntWalk.i64_in ((m : Int) - 1 + 1) (by omega)).trans (Int.sub_add_cancel (m : Int) 1)
  have e6 := IntWalk.i64_in (m : Int) (by omega)

  have hF : ∀ k : Nat, leadF guide s d n k = (atS guide (min (s + (k : Int) * d) n)).1 := fun _ => rfl
  replace CC := Lib.hid CC
  replace CL := Lib.hid CL
  replace B1 := Lib.hid B1
  replace B2 := Lib.hid B2
  replace CA := Lib.hid CA
  replace CS := Lib.hid CS
  have HAL := Lib.hid hal
  have HSL := Lib.hid hsl
  have HF := Lib.hid hF
  have HB := Lib.hid (And.intro hd1 (And.intro hd2 (And.intro hs1 (And.intro hs2 hnb))))
  have hm2 : (m : Int) ≤ 2000 := by omega
  clear hs hp hg hst h h2 h3 h4 hn hm hPost hq2 hnb hK1 hmb h6 hmz hMC hal hsl hF hvl
  have hm1 : ((m : Int) != 0) = true := bne_iff_ne.2 (by omega)
  rcases (show (steer.length : Int) = 0 ∨ (¬ (steer.length : Int) = 0 ∧ (steer.length : Int) = (m : Int)) by have := HSL.out; rcases this with h | ⟨h, h'⟩; (left; rw [h]; rfl); (right; omega)) with h8 | ⟨h8, h9⟩
  · go_enter Try.func33, Try.ntmps33
    go_upto_region 15 with (first | (go_at_call 14; refine (CC.out _ (by (repeat' (first | exact Ext.refl _ | assumption | refine Ext.alloc ?_ _ | refine Ext.drew ?_ | refine Ext.drewN ?_ _ | refine Ext.set ?_ (by first | exact Nat.le_refl _ | exact le1 _ | exact le2 _ | exact le3 _ | exact le4 _ | exact le5 _ | exact le6 _) _ | refine Ext.trans ?_ (by assumption))))).mono ?_; rintro e w1 ⟨rfl, hb⟩; have hT : w1.heap[w.heap.size + 1]? = some (.cells #[.int .i64 o1, .int .i64 o2, .slice Ap ps.length capp] 29 (0, 0)) := (hb.block _ (by simp)).trans (new_at (by simp)); have E3 : Ext (w.alloc (.cells #[.string v.name, .slice A v.units.length cap, .int .i64 v.first, .int .i64 v.last] 24)) w1 := ((Ext.refl _).alloc _).trans hb; have y1 := Ext.cell hb (p := ⟨w.heap.size, 1, none⟩) (v := .slice A v.units.length cap) (by go_simp); clear hb) | (go_at_call 35; refine (CL.out _ (((Ext.refl w).alloc _).trans E3)).mono ?_; rintro e w2 ⟨rfl, hb⟩; replace hT := hb.blk hT; replace E3 := E3.trans hb; replace y1 := Ext.cell hb y1; clear hb; have hly := lt_of_cell y1) | (go_at_call 68; (with_reducible refine (B1.out _).mono ?_); rintro e w9 ⟨rfl, rfl⟩) | (go_at_call 68; (with_reducible refine (B2.out _).mono ?_); rintro e w9 ⟨rfl, rfl⟩))
    have h23 : Ext w2 (w2.alloc (.cells MC 3)) := (Ext.refl w2).alloc _
    have hz3 := fun i hi => HMZ.out w2 i hi
    have hlT := fst_lt hT
    replace hT := h23.blk hT
    replace E3 := E3.trans h23
    obtain ⟨NB, hNB⟩ : ∃ M, w2.heap.size = M := ⟨_, rfl⟩
    have hnl : NB < (w2.alloc (.cells MC 3)).heap.size := by simp; omega
    rw [hNB] at hz3 hlT ⊢
    generalize (w2.alloc (.cells MC 3)) = W3 at *
    have hZ3 := Lib.hid hz3
    clear hz3 h23 hly hNB y1
    go_upto_region 17 with (at_make; refine wpList_make_own _ rfl _ _ 58 rfl (w.heap.size + 1 + 1) 29 ip (.agg #[.int .i64 0, .int .i64 0, .slice none 0 0]) 3 Try.underlying58 hip hz0 hz1 .i64 .i64 _ m rfl rfl rfl (by rw [hz2]; omega) (by unfold maxLen; omega) (by omega) ?_; intro w4 hown4 hgrow4)
    have EA : Ext w (w.alloc (.cells #[.string v.name, .slice A v.units.length cap, .int .i64 v.first, .int .i64 v.last] 24)) := (Ext.refl w).alloc _
    have hsA : (w.alloc (.cells #[.string v.name, .slice A v.units.length cap, .int .i64 v.first, .int .i64 v.last] 24)).heap.size = w.heap.size + 1 := by simp
    have hVA : (w.alloc (.cells #[.string v.name, .slice A v.units.length cap, .int .i64 v.first, .int .i64 v.last] 24)).heap[w.heap.size]? = some (.cells #[.string v.name, .slice A v.units.length cap, .int .i64 v.first, .int .i64 v.last] 24 (0, 0)) := new_at rfl
    have E4 := Ext.grown E3 hgrow4 (fun g hg => by cases hg)
    have hn3 : ∀ (b : Nat), b < W3.heap.size → w4.heap[b]? = W3.heap[b]? := fun b hb => hgrow4.block b hb (fun e => by cases e)
    have hl3 := fst_lt hT
    have hs34 := hgrow4.size
    have hT4 := (hn3 _ hl3).trans hT
    have hO4 : OwnQ (w.heap.size + 1 + 1) w4 (.slice (some ⟨W3.heap.size, 0, none⟩) 0 m) [] := hown4
    have hZ4 : ZerI NB v.units.length (w.heap.size + 1) (.slice (some ⟨W3.heap.size, 0, none⟩) 0 m) w4 := ⟨fun i hi => by rw [World.cell?_of_block (w := W3) (hn3 _ hnl)]; exact hZ3.out i hi, by omega, by omega, fun e => by simp [Value.ownBlock] at e; omega⟩
    generalize (w.alloc (.cells #[.string v.name, .slice A v.units.length cap, .int .i64 v.first, .int .i64 v.last] 24)) = wA at *
    have hP4 : RowP (w.heap.size + 1) (.slice (some ⟨W3.heap.size, 0, none⟩) 0 m) w4 (.slice Ap ps.length capp) ps := RowP.old (HPT.out.ext EA) E4 (by omega) (fun g hg => by simp [Value.ownBlock] at hg; have := E3.sz; omega)
    have hI4 : FolI (w.heap.size + 1) (w.heap.size + 1 + 1) wA w4 (.slice (some ⟨W3.heap.size, 0, none⟩) 0 m) [] ((o1, o2), ps) (.slice Ap ps.length capp) := ⟨hO4, fun q hq => by simp at hq, fun q hq => by simp at hq, hT4, hP4, E4, by omega, by omega⟩
    have HI4 := Lib.hid hI4
    have HZ4 := Lib.hid hZ4
    clear hI4 hZ4 hP4 hO4 hT4 hT E3 E4 hgrow4 hown4 hn3 hl3 hs34 hnl hlT
    go_loopw [75, 19] (fun i ov wr => ∃ (k : Nat) (l : List (CPos × Value)) (p : CPos) (va out : Value), k ≤ m ∧ i = .int .i64 k ∧ out = ov ∧ FolI (w.heap.size + 1) (w.heap.size + 1 + 1) wA wr out l p va ∧ ZerI NB v.units.length (w.heap.size + 1) out wr ∧ folK v ((o1, o2), ps) (leadF guide s d n) (steerF v.units.length steer) k = .inl (p, l.map (·.1))) (fun i _ _ => m - (intOf i).toNat)
    case atStart => exact ⟨0, [], ((o1, o2), ps), _, _, by omega, rfl, rfl, HI4.out, HZ4.out, rfl⟩
    case round =>
      obtain ⟨k, l, p, va, out, hk, rfl, rfl, hI, hZ, hfk⟩ := hrel
      by_cases hlt : k < m
      case neg =>
        obtain rfl : k = m := by omega
        have hx : ¬ (k : Int) < (k : Int) := by omega
        have hll : l.length = k := by have := folK_len hfk; simpa using this
        have hsl := hI.sl (b := w.heap.size) (by omega) (by omega)
        have hnw := hI.new (b := w.heap.size) (by omega)
        have EF := EA.trans hI.below
        clear hI hZ hll
        go_wp2_with fail
        show Post (.returned (.tuple #[out, .int .i64 0])) _
        rw [← HPo.out]
        unfold FolR
        rw [HR.out, hfk]
        exact ⟨out, rfl, hsl, hnw, EF⟩
      case pos =>
        obtain ⟨⟨q1, q2⟩, p2⟩ := p
        obtain ⟨Aa, ca, rfl⟩ := pts_shape hI.now.1
        have EW := EA.trans hI.below
        obtain ⟨⟨⟨r1, r2⟩, ix⟩, hAt⟩ : ∃ x, atS guide (min (s + (k : Int) * d) n) = x := ⟨_, rfl⟩
        have CAk := fun w' (he : Ext w w') => CA.out k w' he
        rw [HAL.out k, hAt] at CAk
        unfold ptieV at CAk
        simp only at CAk
        have hlead : leadF guide s d n k = (r1, r2) := by rw [HF.out k, hAt]
        have hsteer : steerF v.units.length steer k = List.replicate v.units.length 0 := by
          unfold steerF
          rw [if_pos (List.length_eq_zero_iff.1 (by omega))]
        obtain ⟨vk, hvk⟩ : ∃ x : Value, (Value.slice (some ⟨NB, 0, none⟩) v.units.length v.units.length) = x := ⟨_, rfl⟩
        obtain ⟨st, hst⟩ : ∃ x, List.replicate v.units.length (0 : Int) = x := ⟨_, rfl⟩
        have hKS : Sl 1 RNum wr vk st := by rw [← hvk, ← hst]; exact made_sl hZ.1 (by have := HVL.out.1; omega)
        rw [hst] at hsteer
        subst hvk
        clear hst
        obtain ⟨⟨⟨n1, n2⟩, nl, se⟩, hS⟩ : ∃ x, stepS v (q1, q2) p2 (r1, r2) st = x := ⟨_, rfl⟩
        have CSk := fun w' (he : Ext w w') (hpq : Pts w' (.slice Aa p2.length ca) p2) (hk : Sl 1 RNum w' (Value.slice (some ⟨NB, 0, none⟩) v.units.length v.units.length) st) => CS.out q1 q2 r1 r2 (.slice Aa p2.length ca) (Value.slice (some ⟨NB, 0, none⟩) v.units.length v.units.length) p2 st w' he hpq hk
        unfold StepR poseEV at CSk
        rw [hS] at CSk
        simp only at CSk
        have hsE : stepE v ((q1, q2), p2) (leadF guide s d n k) (steerF v.units.length steer k) = se := by unfold stepE; rw [hlead, hsteer, hS]
        have hsP : stepP v ((q1, q2), p2) (leadF guide s d n k) (steerF v.units.length steer k) = ((n1, n2), nl) := by unfold stepP; rw [hlead, hsteer, hS]
        have hll : l.length = k := by have := folK_len hfk; simpa using this
        have hkd1 : 0 ≤ (k : Int) * d := Int.mul_nonneg (by omega) (by have := HB.out.1; omega)
        have hkd2 : (k : Int) * d ≤ 2000 * 16777216 := Int.mul_le_mul (by omega) HB.out.2.1 (by have := HB.out.1; omega) (by omega)
        have ew1 := IntWalk.i64_in ((k : Int) * d) (by omega)
        have ew2 := IntWalk.i64_in (s + (k : Int) * d) (by have := HB.out; omega)
        have ew3 := IntWalk.i64_in ((k : Int) + 1) (by omega)
        have i1 : (0 : Int) ≤ (k : Int) := by omega
        have i2 : (k : Int) < (m : Int) := by omega
        have hVr := hI.below.blk hVA
        have hlV := fst_lt hVr
        have hlT := fst_lt hI.pose
        have HI := Lib.hid hI
        have HZ := Lib.hid hZ
        have HFK := Lib.hid hfk
        have HKS := Lib.hid hKS
        have HLL := Lib.hid hll
        have HSE := Lib.hid hsE
        have HSP := Lib.hid hsP
        have HVr := Lib.hid hVr
        have HK := Lib.hid hlt
        replace CAk := Lib.hid CAk
        replace CSk := Lib.hid CSk
        clear hI hZ hfk hKS hll hsE hsP hlead hsteer hS hAt hVr hkd1 hkd2 hlt hk
        go_upto_region 23 with (go_at_call 36; refine (CAk.out _ EW).mono ?_; rintro e w5 ⟨rfl, hb5⟩)
        have h56 : Ext w5 (w5.alloc (.cells #[.int .i64 r1, .int .i64 r2] 26)) := (Ext.refl w5).alloc _
        have hL6 : (w5.alloc (.cells #[.int .i64 r1, .int .i64 r2] 26)).heap[w5.heap.size]? = some (.cells #[.int .i64 r1, .int .i64 r2] 26 (0, 0)) := new_at rfl
        have ER6 := hb5.trans h56
        generalize (w5.alloc (.cells #[.int .i64 r1, .int .i64 r2] 26)) = W6 at *
        have hI6 := HI.out.ext ER6
        have hV6 := ER6.blk HVr.out
        have y0 : W6.cell? ⟨w.heap.size, 0, none⟩ = some (.string v.name) := news_at hV6 0 _ rfl
        have y1 : W6.cell? ⟨w.heap.size, 1, none⟩ = some (.slice A v.units.length cap) := news_at hV6 1 _ rfl
        have y2 : W6.cell? ⟨w.heap.size, 2, none⟩ = some (.int .i64 v.first) := news_at hV6 2 _ rfl
        have y3 : W6.cell? ⟨w.heap.size, 3, none⟩ = some (.int .i64 v.last) := news_at hV6 3 _ rfl
        have t0 : W6.cell? ⟨w.heap.size + 1, 0, none⟩ = some (.int .i64 q1) := news_at hI6.pose 0 _ rfl
        have t1 : W6.cell? ⟨w.heap.size + 1, 1, none⟩ = some (.int .i64 q2) := news_at hI6.pose 1 _ rfl
        have t2 : W6.cell? ⟨w.heap.size + 1, 2, none⟩ = some (.slice Aa p2.length ca) := news_at hI6.pose 2 _ rfl
        have L0 : W6.cell? ⟨w5.heap.size, 0, none⟩ = some (.int .i64 r1) := news_at hL6 0 _ rfl
        have L1 : W6.cell? ⟨w5.heap.size, 1, none⟩ = some (.int .i64 r2) := news_at hL6 1 _ rfl
        have HI6 := Lib.hid hI6
        have HZ6 := Lib.hid (HZ.out.ext ER6)
        have HK6 := Lib.hid (HKS.out.ext RNum.stable ER6)
        have E6 := EW.trans ER6
        clear hI6 hV6 hL6 h56 hb5 ER6 EW
        go_upto_region 24 with (go_at_call 21; refine (CSk.out _ E6 HI6.out.now.1 HK6.out).mono ?_; rintro e w7 ⟨vz, rfl, hpz, hnz, hb7⟩; obtain ⟨Az, cz, rfl⟩ := pts_shape hpz; replace t0 := Ext.cell hb7 t0; replace t1 := Ext.cell hb7 t1; replace t2 := Ext.cell hb7 t2; have hT7 := hb7.blk HI6.out.pose; have f0 := blk_frz hT7 0; have f1 := blk_frz hT7 1; have f2 := blk_frz hT7 2; have hlT7 := fst_lt hT7; clear hT7)
        have hI8 := (HI6.out.ext hb7).store (p' := ((n1, n2), nl)) (va' := .slice Az nl.length cz) (RowP.new hpz hnz (fst_lt HI6.out.pose) HI6.out.lt)
        have hZ8 := ((HZ6.out.ext hb7).set (o := 0) (u := .int .i64 n1)).set (o := 1) (u := .int .i64 n2) |>.set (o := 2) (u := .slice Az nl.length cz)
        simp only at hI8
        have HNZ := Lib.hid (fun g hg => Nat.le_trans (Nat.le_trans HI6.out.hT (Nat.le_of_lt (fst_lt HI6.out.pose))) (hnz g hg))
        clear t0 t1 t2 f0 f1 f2 hlT7 L0 L1 y0 y1 y2 y3 hpz hnz E6
        generalize (((w7.setCell ⟨w.heap.size + 1, 0, none⟩ (.int .i64 n1)).setCell ⟨w.heap.size + 1, 1, none⟩ (.int .i64 n2)).setCell ⟨w.heap.size + 1, 2, none⟩ (.slice Az nl.length cz)) = W8 at *
        by_cases hse : se = 0
        case neg =>
          have EF := EA.trans hI8.below
          have HN := Lib.hid hse
          clear hI8 hZ8 hb7
          go_wp2_with fail
          show Post (.returned (.tuple #[.slice none 0 0, .int .i64 se])) _
          rw [← HPo.out]
          unfold FolR
          rw [HR.out, folK_stop HFK.out (by rw [HSE.out]; exact HN.out) HK.out, HSE.out]
          exact ⟨_, rfl, ⟨none, 0, rfl, by simp [folR], by simp [folR], fun i x hi => by simp [folR] at hi⟩, (fun g hg => by simp [Value.ownBlock] at hg), EF⟩
        case pos =>
          have t0 : W8.cell? ⟨w.heap.size + 1, 0, none⟩ = some (.int .i64 n1) := news_at hI8.pose 0 _ rfl
          have t1 : W8.cell? ⟨w.heap.size + 1, 1, none⟩ = some (.int .i64 n2) := news_at hI8.pose 1 _ rfl
          have t2 : W8.cell? ⟨w.heap.size + 1, 2, none⟩ = some (.slice Az nl.length cz) := news_at hI8.pose 2 _ rfl
          have hlT8 := fst_lt hI8.pose
          have HI8 := Lib.hid hI8
          have HZ8 := Lib.hid hZ8
          have HS0 := Lib.hid hse
          have hll : l.length ≤ 2000 := by have := HLL.out; omega
          have hT8 : w.heap.size + 1 + 1 ≤ W8.heap.size := by omega
          clear hI8 hZ8 hb7
          go_upto_region 27 with (at_builtin; refine wpList_append_lies _ rfl _ _ 58 rfl (w.heap.size + 1 + 1) 29 ip _ 3 40 Try.underlying58 hip hz0 hz1 hz2 rfl (by decide) out l.length (flatQ l) rfl (HI8.out.own.alloc _) ⟨W8.heap.size, 0, none⟩ 1 1 [.int .i64 n1, .int .i64 n2, .slice Az nl.length cz] rfl rfl (World.news_of_block (cs := #[.int .i64 n1, .int .i64 n2, .slice Az nl.length cz]) (t := 29) (fr := (0, 0)) (heap_alloc_new _ _)) (by simp [Value.oneCell']) (by omega) (by unfold maxLen; omega) (by omega) (by simp; omega) (W8.heap.size + 1) (by simp) ?_; intro g9 cap9 w9 hown9 hgrow9 hat9 hlt9)
          have h89 : Ext W8 (W8.alloc (.cells #[.int .i64 n1, .int .i64 n2, .slice Az nl.length cz] 29)) := (Ext.refl W8).alloc _
          have hat : out.ownBlock = some g9 ∨ g9 = (W8.alloc (.cells #[.int .i64 n1, .int .i64 n2, .slice Az nl.length cz] 29)).heap.size := by
            rcases hat9 with h | h
            · exact .inl h
            · exact .inr (by simpa using h)
          have hI9 := (HI8.out.ext h89).push hown9 hgrow9 hat HNZ.out
          have hZ9 := (HZ8.out.ext h89).grow (out' := .slice (some ⟨g9, 0, none⟩) (l.length + 1) cap9) hgrow9 (fun k hk => by
            have e : g9 = k := by simpa [Value.ownBlock] using hk
            subst e
            exact hat)
          have hfk9 := folK_ok HFK.out (by rw [HSE.out]; exact HS0.out)
          rw [HSP.out] at hfk9
          have HX := Lib.hid (And.intro hI9 (And.intro hZ9 hfk9))
          clear hI9 hZ9 hfk9 hat h89 hat9 hgrow9 hown9 hlt9 t0 t1 t2
          go_wp2_with fail
          go_roundw
          case rel => exact ⟨k + 1, l ++ [(((n1, n2), nl), .slice Az nl.length cz)], ((n1, n2), nl), .slice Az nl.length cz, _, HK.out, by go_num, rfl, HX.out.1, HX.out.2.1, by simpa using HX.out.2.2⟩
          case measure => have := HK.out; simp [intOf]; omega
  · go_enter Try.func33, Try.ntmps33
    go_upto_region 15 with (first | (go_at_call 14; refine (CC.out _ (by (repeat' (first | exact Ext.refl _ | assumption | refine Ext.alloc ?_ _ | refine Ext.drew ?_ | refine Ext.drewN ?_ _ | refine Ext.set ?_ (by first | exact Nat.le_refl _ | exact le1 _ | exact le2 _ | exact le3 _ | exact le4 _ | exact le5 _ | exact le6 _) _ | refine Ext.trans ?_ (by assumption))))).mono ?_; rintro e w1 ⟨rfl, hb⟩; have hT : w1.heap[w.heap.size + 1]? = some (.cells #[.int .i64 o1, .int .i64 o2, .slice Ap ps.length capp] 29 (0, 0)) := (hb.block _ (by simp)).trans (new_at (by simp)); have E3 : Ext (w.alloc (.cells #[.string v.name, .slice A v.units.length cap, .int .i64 v.first, .int .i64 v.last] 24)) w1 := ((Ext.refl _).alloc _).trans hb; have y1 := Ext.cell hb (p := ⟨w.heap.size, 1, none⟩) (v := .slice A v.units.length cap) (by go_simp); clear hb) | (go_at_call 35; refine (CL.out _ (((Ext.refl w).alloc _).trans E3)).mono ?_; rintro e w2 ⟨rfl, hb⟩; replace hT := hb.blk hT; replace E3 := E3.trans hb; replace y1 := Ext.cell hb y1; clear hb; have hly := lt_of_cell y1) | (go_at_call 68; (with_reducible refine (B1.out _).mono ?_); rintro e w9 ⟨rfl, rfl⟩) | (go_at_call 68; (with_reducible refine (B2.out _).mono ?_); rintro e w9 ⟨rfl, rfl⟩))
    have h23 : Ext w2 (w2.alloc (.cells MC 3)) := (Ext.refl w2).alloc _
    have hz3 := fun i hi => HMZ.out w2 i hi
    have hlT := fst_lt hT
    replace hT := h23.blk hT
    replace E3 := E3.trans h23
    obtain ⟨NB, hNB⟩ : ∃ M, w2.heap.size = M := ⟨_, rfl⟩
    have hnl : NB < (w2.alloc (.cells MC 3)).heap.size := by simp; omega
    rw [hNB] at hz3 hlT ⊢
    generalize (w2.alloc (.cells MC 3)) = W3 at *
    have hZ3 := Lib.hid hz3
    clear hz3 h23 hly hNB y1
    go_upto_region 17 with (at_make; refine wpList_make_own _ rfl _ _ 58 rfl (w.heap.size + 1 + 1) 29 ip (.agg #[.int .i64 0, .int .i64 0, .slice none 0 0]) 3 Try.underlying58 hip hz0 hz1 .i64 .i64 _ m rfl rfl rfl (by rw [hz2]; omega) (by unfold maxLen; omega) (by omega) ?_; intro w4 hown4 hgrow4)
    have EA : Ext w (w.alloc (.cells #[.string v.name, .slice A v.units.length cap, .int .i64 v.first, .int .i64 v.last] 24)) := (Ext.refl w).alloc _
    have hsA : (w.alloc (.cells #[.string v.name, .slice A v.units.length cap, .int .i64 v.first, .int .i64 v.last] 24)).heap.size = w.heap.size + 1 := by simp
    have hVA : (w.alloc (.cells #[.string v.name, .slice A v.units.length cap, .int .i64 v.first, .int .i64 v.last] 24)).heap[w.heap.size]? = some (.cells #[.string v.name, .slice A v.units.length cap, .int .i64 v.first, .int .i64 v.last] 24 (0, 0)) := new_at rfl
    have E4 := Ext.grown E3 hgrow4 (fun g hg => by cases hg)
    have hn3 : ∀ (b : Nat), b < W3.heap.size → w4.heap[b]? = W3.heap[b]? := fun b hb => hgrow4.block b hb (fun e => by cases e)
    have hl3 := fst_lt hT
    have hs34 := hgrow4.size
    have hT4 := (hn3 _ hl3).trans hT
    have hO4 : OwnQ (w.heap.size + 1 + 1) w4 (.slice (some ⟨W3.heap.size, 0, none⟩) 0 m) [] := hown4
    have hZ4 : ZerI NB v.units.length (w.heap.size + 1) (.slice (some ⟨W3.heap.size, 0, none⟩) 0 m) w4 := ⟨fun i hi => by rw [World.cell?_of_block (w := W3) (hn3 _ hnl)]; exact hZ3.out i hi, by omega, by omega, fun e => by simp [Value.ownBlock] at e; omega⟩
    generalize (w.alloc (.cells #[.string v.name, .slice A v.units.length cap, .int .i64 v.first, .int .i64 v.last] 24)) = wA at *
    have hP4 : RowP (w.heap.size + 1) (.slice (some ⟨W3.heap.size, 0, none⟩) 0 m) w4 (.slice Ap ps.length capp) ps := RowP.old (HPT.out.ext EA) E4 (by omega) (fun g hg => by simp [Value.ownBlock] at hg; have := E3.sz; omega)
    have hI4 : FolI (w.heap.size + 1) (w.heap.size + 1 + 1) wA w4 (.slice (some ⟨W3.heap.size, 0, none⟩) 0 m) [] ((o1, o2), ps) (.slice Ap ps.length capp) := ⟨hO4, fun q hq => by simp at hq, fun q hq => by simp at hq, hT4, hP4, E4, by omega, by omega⟩
    have HI4 := Lib.hid hI4
    have HZ4 := Lib.hid hZ4
    clear hI4 hZ4 hP4 hO4 hT4 hT E3 E4 hgrow4 hown4 hn3 hl3 hs34 hnl hlT
    go_loopw [75, 19] (fun i ov wr => ∃ (k : Nat) (l : List (CPos × Value)) (p : CPos) (va out : Value), k ≤ m ∧ i = .int .i64 k ∧ out = ov ∧ FolI (w.heap.size + 1) (w.heap.size + 1 + 1) wA wr out l p va ∧ ZerI NB v.units.length (w.heap.size + 1) out wr ∧ folK v ((o1, o2), ps) (leadF guide s d n) (steerF v.units.length steer) k = .inl (p, l.map (·.1))) (fun i _ _ => m - (intOf i).toNat)
    case atStart => exact ⟨0, [], ((o1, o2), ps), _, _, by omega, rfl, rfl, HI4.out, HZ4.out, rfl⟩
    case round =>
      obtain ⟨k, l, p, va, out, hk, rfl, rfl, hI, hZ, hfk⟩ := hrel
      by_cases hlt : k < m
      case neg =>
        obtain rfl : k = m := by omega
        have hx : ¬ (k : Int) < (k : Int) := by omega
        have hll : l.length = k := by have := folK_len hfk; simpa using this
        have hsl := hI.sl (b := w.heap.size) (by omega) (by omega)
        have hnw := hI.new (b := w.heap.size) (by omega)
        have EF := EA.trans hI.below
        clear hI hZ hll
        go_wp2_with fail
        show Post (.returned (.tuple #[out, .int .i64 0])) _
        rw [← HPo.out]
        unfold FolR
        rw [HR.out, hfk]
        exact ⟨out, rfl, hsl, hnw, EF⟩
      case pos =>
        obtain ⟨⟨q1, q2⟩, p2⟩ := p
        obtain ⟨Aa, ca, rfl⟩ := pts_shape hI.now.1
        have EW := EA.trans hI.below
        obtain ⟨⟨⟨r1, r2⟩, ix⟩, hAt⟩ : ∃ x, atS guide (min (s + (k : Int) * d) n) = x := ⟨_, rfl⟩
        have CAk := fun w' (he : Ext w w') => CA.out k w' he
        rw [HAL.out k, hAt] at CAk
        unfold ptieV at CAk
        simp only at CAk
        have hlead : leadF guide s d n k = (r1, r2) := by rw [HF.out k, hAt]
        obtain ⟨st, hst⟩ := some_of_lt (show k < steer.length by omega)
        have hsteer : steerF v.units.length steer k = st := by
          unfold steerF
          rw [if_neg (fun e => h8 (by rw [e]; rfl))]
          simp [List.getD, hst]
        obtain ⟨sb, so, css, rfl, _, ⟨vk, rfl, hKS⟩, hcs⟩ := HST.out.at hst
        replace hKS := hKS.ext RNum.stable EW
        have c0 := Ext.cell EW (hcs 0 _ rfl)
        simp only [Nat.add_zero, Nat.mul_one] at c0
        have i3 : (k : Int) < (steer.length : Int) := by omega
        have hlc := lt_of_cell c0
        clear hst hcs
        obtain ⟨⟨⟨n1, n2⟩, nl, se⟩, hS⟩ : ∃ x, stepS v (q1, q2) p2 (r1, r2) st = x := ⟨_, rfl⟩
        have CSk := fun w' (he : Ext w w') (hpq : Pts w' (.slice Aa p2.length ca) p2) (hk : Sl 1 RNum w' vk st) => CS.out q1 q2 r1 r2 (.slice Aa p2.length ca) vk p2 st w' he hpq hk
        unfold StepR poseEV at CSk
        rw [hS] at CSk
        simp only at CSk
        have hsE : stepE v ((q1, q2), p2) (leadF guide s d n k) (steerF v.units.length steer k) = se := by unfold stepE; rw [hlead, hsteer, hS]
        have hsP : stepP v ((q1, q2), p2) (leadF guide s d n k) (steerF v.units.length steer k) = ((n1, n2), nl) := by unfold stepP; rw [hlead, hsteer, hS]
        have hll : l.length = k := by have := folK_len hfk; simpa using this
        have hkd1 : 0 ≤ (k : Int) * d := Int.mul_nonneg (by omega) (by have := HB.out.1; omega)
        have hkd2 : (k : Int) * d ≤ 2000 * 16777216 := Int.mul_le_mul (by omega) HB.out.2.1 (by have := HB.out.1; omega) (by omega)
        have ew1 := IntWalk.i64_in ((k : Int) * d) (by omega)
        have ew2 := IntWalk.i64_in (s + (k : Int) * d) (by have := HB.out; omega)
        have ew3 := IntWalk.i64_in ((k : Int) + 1) (by omega)
        have i1 : (0 : Int) ≤ (k : Int) := by omega
        have i2 : (k : Int) < (m : Int) := by omega
        have hVr := hI.below.blk hVA
        have hlV := fst_lt hVr
        have hlT := fst_lt hI.pose
        have HI := Lib.hid hI
        have HZ := Lib.hid hZ
        have HFK := Lib.hid hfk
        have HKS := Lib.hid hKS
        have HLL := Lib.hid hll
        have HSE := Lib.hid hsE
        have HSP := Lib.hid hsP
        have HVr := Lib.hid hVr
        have HK := Lib.hid hlt
        replace CAk := Lib.hid CAk
        replace CSk := Lib.hid CSk
        clear hI hZ hfk hKS hll hsE hsP hlead hsteer hS hAt hVr hkd1 hkd2 hlt hk
        go_upto_region 23 with (go_at_call 36; refine (CAk.out _ EW).mono ?_; rintro e w5 ⟨rfl, hb5⟩; replace c0 := Ext.cell hb5 c0; have hlc5 := lt_of_cell c0)
        have h56 : Ext w5 (w5.alloc (.cells #[.int .i64 r1, .int .i64 r2] 26)) := (Ext.refl w5).alloc _
        have hL6 : (w5.alloc (.cells #[.int .i64 r1, .int .i64 r2] 26)).heap[w5.heap.size]? = some (.cells #[.int .i64 r1, .int .i64 r2] 26 (0, 0)) := new_at rfl
        have ER6 := hb5.trans h56
        generalize (w5.alloc (.cells #[.int .i64 r1, .int .i64 r2] 26)) = W6 at *
        have hI6 := HI.out.ext ER6
        have hV6 := ER6.blk HVr.out
        have y0 : W6.cell? ⟨w.heap.size, 0, none⟩ = some (.string v.name) := news_at hV6 0 _ rfl
        have y1 : W6.cell? ⟨w.heap.size, 1, none⟩ = some (.slice A v.units.length cap) := news_at hV6 1 _ rfl
        have y2 : W6.cell? ⟨w.heap.size, 2, none⟩ = some (.int .i64 v.first) := news_at hV6 2 _ rfl
        have y3 : W6.cell? ⟨w.heap.size, 3, none⟩ = some (.int .i64 v.last) := news_at hV6 3 _ rfl
        have t0 : W6.cell? ⟨w.heap.size + 1, 0, none⟩ = some (.int .i64 q1) := news_at hI6.pose 0 _ rfl
        have t1 : W6.cell? ⟨w.heap.size + 1, 1, none⟩ = some (.int .i64 q2) := news_at hI6.pose 1 _ rfl
        have t2 : W6.cell? ⟨w.heap.size + 1, 2, none⟩ = some (.slice Aa p2.length ca) := news_at hI6.pose 2 _ rfl
        have L0 : W6.cell? ⟨w5.heap.size, 0, none⟩ = some (.int .i64 r1) := news_at hL6 0 _ rfl
        have L1 : W6.cell? ⟨w5.heap.size, 1, none⟩ = some (.int .i64 r2) := news_at hL6 1 _ rfl
        have HI6 := Lib.hid hI6
        have HZ6 := Lib.hid (HZ.out.ext ER6)
        have HK6 := Lib.hid (HKS.out.ext RNum.stable ER6)
        have E6 := EW.trans ER6
        clear hI6 hV6 hL6 h56 hb5 ER6 EW
        go_upto_region 24 with (go_at_call 21; refine (CSk.out _ E6 HI6.out.now.1 HK6.out).mono ?_; rintro e w7 ⟨vz, rfl, hpz, hnz, hb7⟩; obtain ⟨Az, cz, rfl⟩ := pts_shape hpz; replace t0 := Ext.cell hb7 t0; replace t1 := Ext.cell hb7 t1; replace t2 := Ext.cell hb7 t2; have hT7 := hb7.blk HI6.out.pose; have f0 := blk_frz hT7 0; have f1 := blk_frz hT7 1; have f2 := blk_frz hT7 2; have hlT7 := fst_lt hT7; clear hT7)
        have hI8 := (HI6.out.ext hb7).store (p' := ((n1, n2), nl)) (va' := .slice Az nl.length cz) (RowP.new hpz hnz (fst_lt HI6.out.pose) HI6.out.lt)
        have hZ8 := ((HZ6.out.ext hb7).set (o := 0) (u := .int .i64 n1)).set (o := 1) (u := .int .i64 n2) |>.set (o := 2) (u := .slice Az nl.length cz)
        simp only at hI8
        have HNZ := Lib.hid (fun g hg => Nat.le_trans (Nat.le_trans HI6.out.hT (Nat.le_of_lt (fst_lt HI6.out.pose))) (hnz g hg))
        clear t0 t1 t2 f0 f1 f2 hlT7 L0 L1 y0 y1 y2 y3 hpz hnz E6
        generalize (((w7.setCell ⟨w.heap.size + 1, 0, none⟩ (.int .i64 n1)).setCell ⟨w.heap.size + 1, 1, none⟩ (.int .i64 n2)).setCell ⟨w.heap.size + 1, 2, none⟩ (.slice Az nl.length cz)) = W8 at *
        by_cases hse : se = 0
        case neg =>
          have EF := EA.trans hI8.below
          have HN := Lib.hid hse
          clear hI8 hZ8 hb7
          go_wp2_with fail
          show Post (.returned (.tuple #[.slice none 0 0, .int .i64 se])) _
          rw [← HPo.out]
          unfold FolR
          rw [HR.out, folK_stop HFK.out (by rw [HSE.out]; exact HN.out) HK.out, HSE.out]
          exact ⟨_, rfl, ⟨none, 0, rfl, by simp [folR], by simp [folR], fun i x hi => by simp [folR] at hi⟩, (fun g hg => by simp [Value.ownBlock] at hg), EF⟩
        case pos =>
          have t0 : W8.cell? ⟨w.heap.size + 1, 0, none⟩ = some (.int .i64 n1) := news_at hI8.pose 0 _ rfl
          have t1 : W8.cell? ⟨w.heap.size + 1, 1, none⟩ = some (.int .i64 n2) := news_at hI8.pose 1 _ rfl
          have t2 : W8.cell? ⟨w.heap.size + 1, 2, none⟩ = some (.slice Az nl.length cz) := news_at hI8.pose 2 _ rfl
          have hlT8 := fst_lt hI8.pose
          have HI8 := Lib.hid hI8
          have HZ8 := Lib.hid hZ8
          have HS0 := Lib.hid hse
          have hll : l.length ≤ 2000 := by have := HLL.out; omega
          have hT8 : w.heap.size + 1 + 1 ≤ W8.heap.size := by omega
          clear hI8 hZ8 hb7
          go_upto_region 27 with (at_builtin; refine wpList_append_lies _ rfl _ _ 58 rfl (w.heap.size + 1 + 1) 29 ip _ 3 40 Try.underlying58 hip hz0 hz1 hz2 rfl (by decide) out l.length (flatQ l) rfl (HI8.out.own.alloc _) ⟨W8.heap.size, 0, none⟩ 1 1 [.int .i64 n1, .int .i64 n2, .slice Az nl.length cz] rfl rfl (World.news_of_block (cs := #[.int .i64 n1, .int .i64 n2, .slice Az nl.length cz]) (t := 29) (fr := (0, 0)) (heap_alloc_new _ _)) (by simp [Value.oneCell']) (by omega) (by unfold maxLen; omega) (by omega) (by simp; omega) (W8.heap.size + 1) (by simp) ?_; intro g9 cap9 w9 hown9 hgrow9 hat9 hlt9)
          have h89 : Ext W8 (W8.alloc (.cells #[.int .i64 n1, .int .i64 n2, .slice Az nl.length cz] 29)) := (Ext.refl W8).alloc _
          have hat : out.ownBlock = some g9 ∨ g9 = (W8.alloc (.cells #[.int .i64 n1, .int .i64 n2, .slice Az nl.length cz] 29)).heap.size := by
            rcases hat9 with h | h
            · exact .inl h
            · exact .inr (by simpa using h)
          have hI9 := (HI8.out.ext h89).push hown9 hgrow9 hat HNZ.out
          have hZ9 := (HZ8.out.ext h89).grow (out' := .slice (some ⟨g9, 0, none⟩) (l.length + 1) cap9) hgrow9 (fun k hk => by
            have e : g9 = k := by simpa [Value.ownBlock] using hk
            subst e
            exact hat)
          have hfk9 := folK_ok HFK.out (by rw [HSE.out]; exact HS0.out)
          rw [HSP.out] at hfk9
          have HX := Lib.hid (And.intro hI9 (And.intro hZ9 hfk9))
          clear hI9 hZ9 hfk9 hat h89 hat9 hgrow9 hown9 hlt9 t0 t1 t2
          go_wp2_with fail
          go_roundw
          case rel => exact ⟨k + 1, l ++ [(((n1, n2), nl), .slice Az nl.length cz)], ((n1, n2), nl), .slice Az nl.length cz, _, HK.out, by go_num, rfl, HX.out.1, HX.out.2.1, by simpa using HX.out.2.2⟩
          case measure => have := HK.out; simp [intOf]; omega
end
end Go.Proofs.Ytgikfliibimkdaa
