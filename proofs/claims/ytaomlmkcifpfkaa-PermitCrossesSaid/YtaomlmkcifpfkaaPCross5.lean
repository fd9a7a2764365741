/- Contract: broken of the definition. -/
import Derived.Test.YtaomlmkcifpfkaaPCross4
import Derived.Test.YtaomlmkcifpfkaaPRNext
namespace Go.Proofs.Ytaomlmkcifpfkaa
open Go.RowKit Go.Shelf Go.Maps
attribute [local go_sem ↓] Go.wp_at_zero Go.wp_at_succ

set_option maxRecDepth 100000 in
set_option maxHeartbeats 6400000 in
theorem Rbroken_c (v vp vt : Value) (l : List PAuth) (t : PTrip) (k : Int) (c : PCross) (w : World) (hs : Sl 4 RAuth w v l) (hp : Sl 3 RPass w vp t.passages) (hsome : someE l t k = 0) (hc : Sl 3 RCount w vt c.things) (h0 : 0 ≤ c.start) (h1 : c.start ≤ 1099511627776) :
    Calls Try.prog 76 #[v, tripV t vp, .int .i64 k, .agg #[.int .i64 c.start, vt]] w fun e w' => (∃ v', e = .returned v' ∧ OwnL 1 3 RInt w.heap.size w' v' (chosenL (numsAt l t k) (breakK (rsAt l t k) (minAt t k).toNat c))) ∧ Ext w w' := by
  have O1 := fun w' (h : Ext w w') => ofAt_c v vp l t k w' (hs.ext RAuth.stable h) (hp.ext RPass.stable h) hsome
  have hPO := passOk hsome
  obtain ⟨i1, hi1, hi10, hi11, hi12⟩ := info_parts infoInt
  obtain ⟨A, cap, rfl, hl, hcap⟩ := hs.shape
  obtain ⟨Ap, capp, rfl, hpl, hpcap⟩ := hp.shape
  obtain ⟨At, ct, rfl, lt, lt2⟩ := hc.shape
  obtain ⟨kn, rfl⟩ : ∃ n : Nat, k = (n : Int) := ⟨k.toNat, by have := hPO.nat; omega⟩
  obtain ⟨p, hpn, hpm⟩ := pass_at hPO
  have ik1 : (0 : Int) ≤ (kn : Int) := by omega
  have ik2 : (kn : Int) < (t.passages.length : Int) := hPO.lt
  obtain ⟨pb, po, pcs, rfl, _, hpr, hpc⟩ := hp.at hpn
  obtain rfl : pcs = [.string p.auth, .string p.road, .int .i64 p.minutes] := hpr
  have P0 := hpc 2 _ rfl
  have hm1 := hPO.min1
  have hm2 := hPO.min2
  have hlen := hPO.len
  have hnum := hPO.nums
  have hr := hPO.rules
  obtain ⟨n, hn⟩ : ∃ n : Nat, minAt t (kn : Int) = (n : Int) := ⟨(minAt t (kn : Int)).toNat, by omega⟩
  rw [hpm, hn] at P0
  rw [hn] at hm1 hm2
  have hnt : (minAt t (kn : Int)).toNat = n := by omega
  rw [hnt]
  generalize rsAt l t (kn : Int) = rs at *
  generalize numsAt l t (kn : Int) = ns at *
  have C1 := fun vr vw vc r w' (h : Ext w w') hs hv => Breaks_c n vr vw vc (.slice At c.things.length ct) r c w' hs hv (hc.ext RCount.stable h) h0 h1 (by omega)
  have HV := Lib.hid hr
  have HK := Lib.hid (fun i r h => breakK_at (rs := rs) (n := n) (c := c) (i := i) (r := r) h)
  have hkl := breakK_len rs n c
  replace C1 := Lib.hid C1
  replace O1 := Lib.hid O1
  generalize breakK rs n c = ks at *
  clear hs hp hc hPO hpc hr hnt hn hpm hpn hsome
  unfold tripV
  go_enter Try.func76, Try.ntmps76
  go_upto_region 1 with fail
  have T0 := TripAt.new t (.slice (some ⟨pb, po, none⟩) t.passages.length capp) w
  have e0 : Ext w (w.alloc (.cells #[.int .i64 t.z0, .int .i64 t.z1, .int .i64 t.z2, .int .i64 t.z3, .int .i64 t.z4, .int .i64 t.z5, .slice (some ⟨pb, po, none⟩) t.passages.length capp] 26)) := (Ext.refl w).alloc _
  have z0 : (w.alloc (.cells #[.int .i64 t.z0, .int .i64 t.z1, .int .i64 t.z2, .int .i64 t.z3, .int .i64 t.z4, .int .i64 t.z5, .slice (some ⟨pb, po, none⟩) t.passages.length capp] 26)).heap.size = w.heap.size + 1 := size_alloc _ _
  generalize (w.alloc (.cells #[.int .i64 t.z0, .int .i64 t.z1, .int .i64 t.z2, .int .i64 t.z3, .int .i64 t.z4, .int .i64 t.z5, .slice (some ⟨pb, po, none⟩) t.passages.length capp] 26)) = W0 at *
  have e1 : Ext W0 (W0.alloc (.cells #[.int .i64 c.start, .slice At c.things.length ct] 83)) := (Ext.refl _).alloc _
  have c0 : (W0.alloc (.cells #[.int .i64 c.start, .slice At c.things.length ct] 83)).cell? ⟨W0.heap.size, 0, none⟩ = some (.int .i64 c.start) := World.cell?_alloc_new _ _ _ _
  have c1 : (W0.alloc (.cells #[.int .i64 c.start, .slice At c.things.length ct] 83)).cell? ⟨W0.heap.size, 1, none⟩ = some (.slice At c.things.length ct) := World.cell?_alloc_new _ _ _ _
  rw [z0] at c0 c1
  generalize W0.alloc (.cells #[.int .i64 c.start, .slice At c.things.length ct] 83) = W1 at *
  have E1 := e0.trans e1
  have HT1 := Lib.hid (T0.ext e1)
  clear T0 e0 e1 z0
  obtain ⟨t0, t1, t2, t3, t4, t5, t6⟩ := HT1.out
  go_upto_region 2 with (go_at_call 23; refine (O1.out _ E1).mono ?_; rintro e w5 ⟨⟨vn, vr, rfl, hn, hr⟩, hb5⟩; obtain ⟨An, capn, rfl, _, _⟩ := hn.shape; obtain ⟨Ar, capr, rfl, _, _⟩ := hr.shape)
  have E5 := E1.trans hb5
  have HN := Lib.hid hn
  have HR := Lib.hid hr
  have q6 := hb5.cell t6
  have q0 := hb5.cell c0
  have q1 := hb5.cell c1
  have P5 := E5.cell P0
  clear t0 t1 t2 t3 t4 t5 t6 HT1 hn hr O1 P0 c0 c1 hb5
  go_wp2_with fail
  go_loopw [11, 12] (fun out i wr => ∃ (j : Nat) (vo : Value), j ≤ ns.length ∧ i = .int .i64 j ∧ out = vo ∧ OwnL 1 3 RInt w5.heap.size wr vo (chosenL (ns.take j) (ks.take j)) ∧ Ext w5 wr) (fun _ i _ => ns.length - (intOf i).toNat)
  case atStart => exact ⟨0, _, by omega, rfl, rfl, by simpa [chosenL] using OwnL.nil, Ext.refl _⟩
  case round =>
    obtain ⟨j, vo, hj, rfl, rfl, hown, hE⟩ := hrel
    obtain ⟨wA, hwA⟩ : ∃ z : World, z = wr := ⟨_, rfl⟩
    subst hwA
    obtain ⟨Ao, co, rfl, _, _⟩ := hown.sl.shape
    have HO := Lib.hid hown
    clear hown
    by_cases hltj : j < ns.length
    · obtain ⟨x, hx⟩ := some_of_lt (l := rs) (k := j) (by omega)
      obtain ⟨u, hu⟩ := some_of_lt (l := ns) (k := j) (by omega)
      have hq := HK.out j x hx
      obtain ⟨b, off, cs, rfl, hnn, ⟨vr, vw, vc, rfl, hr⟩, hcc⟩ := HR.out.at hx
      obtain ⟨b2, off2, cs2, rfl, hn2, hcs2, hc2⟩ := HN.out.at hu
      obtain rfl : cs2 = [.int .i64 u] := hcs2
      have y0 := hE.cell (hc2 0 _ rfl)
      simp only [Nat.add_zero, Nat.mul_one] at y0
      have HNX := Lib.hid (chosenL_snoc ns ks j u _ hu hq)
      have hcl := chosenL_len (ns.take j) (ks.take j)
      rw [List.length_take] at hcl
      have hcl2 : (chosenL (ns.take j) (ks.take j)).length ≤ 24 := by omega
      have C2 := fun w' (h : Ext w5 w') => C1.out vr vw vc x w' (E5.trans h) (hr.ext h) (HV.out x (List.mem_of_getElem? hx))
      obtain ⟨hr1, hw1, hc1⟩ := hr
      obtain ⟨Ar2, cr, rfl, lr, lr2⟩ := hr1.shape
      obtain ⟨Aw, cw, rfl, lw, lw2⟩ := hw1.shape
      obtain ⟨Ac, cc, rfl, lc, lc2⟩ := hc1.shape
      have j1k : (0 : Int) ≤ (j : Int) := by omega
      have j2k : (j : Int) < (rs.length : Int) := by omega
      have j3k : (j : Int) < (ns.length : Int) := by omega
      have k0 := hE.cell (hcc 0 _ rfl)
      have k1 := hE.cell (hcc 1 _ rfl)
      have k2 := hE.cell (hcc 2 _ rfl)
      have k3 := hE.cell (hcc 3 _ rfl)
      have k4 := hE.cell (hcc 4 _ rfl)
      have k5 := hE.cell (hcc 5 _ rfl)
      have k6 := hE.cell (hcc 6 _ rfl)
      have k7 := hE.cell (hcc 7 _ rfl)
      have k8 := hE.cell (hcc 8 _ rfl)
      have k9 := hE.cell (hcc 9 _ rfl)
      have k10 := hE.cell (hcc 10 _ rfl)
      simp only [Nat.add_zero] at k0
      have d6 := hE.cell q6
      have d0 := hE.cell q0
      have d1 := hE.cell q1
      have dP := hE.cell P5
      have zA := hE.size
      clear hcc hnn hx hu hr1 hw1 hc1 hc2 hn2 hq hcl
      generalize chosenL (ns.take j) (ks.take j) = D at *
      generalize breaksB x n c = z at *
      replace C2 := Lib.hid C2
      go_upto_region 6 with fail
      go_region_held3 (fun w' => w'.cell? ⟨w.heap.size, 6, none⟩ = some (.slice (some ⟨pb, po, none⟩) t.passages.length capp) ∧ w'.cell? ⟨w.heap.size + 1, 0, none⟩ = some (.int .i64 c.start) ∧ w'.cell? ⟨w.heap.size + 1, 1, none⟩ = some (.slice At c.things.length ct) ∧ w'.cell? ⟨pb, po + kn * 3 + 2, none⟩ = some (.int .i64 (n : Int)) ∧ w'.cell? ⟨b, off + j * 11, none⟩ = some (.string x.name) ∧ w'.cell? ⟨b, off + j * 11 + 1, none⟩ = some (.slice Ar2 x.roads.length cr) ∧ w'.cell? ⟨b, off + j * 11 + 2, none⟩ = some (.slice Aw x.whens.length cw) ∧ w'.cell? ⟨b, off + j * 11 + 3, none⟩ = some (.int .i64 x.h0) ∧ w'.cell? ⟨b, off + j * 11 + 4, none⟩ = some (.int .i64 x.h1) ∧ w'.cell? ⟨b, off + j * 11 + 5, none⟩ = some (.int .i64 x.days) ∧ w'.cell? ⟨b, off + j * 11 + 6, none⟩ = some (.int .i64 x.s0) ∧ w'.cell? ⟨b, off + j * 11 + 7, none⟩ = some (.int .i64 x.s1) ∧ w'.cell? ⟨b, off + j * 11 + 8, none⟩ = some (.bool x.forbid) ∧ w'.cell? ⟨b, off + j * 11 + 9, none⟩ = some (.slice Ac x.counts.length cc) ∧ w'.cell? ⟨b, off + j * 11 + 10, none⟩ = some (.int .i64 x.cost)) (refine ⟨?_, ?_, ?_, ?_, ?_, ?_, ?_, ?_, ?_, ?_, ?_, ?_, ?_, ?_, ?_⟩ <;> (repeat' (with_reducible (first | assumption | refine Ext.cell hb7 ?_ | refine Ext.cell (Ext.refl _).drew ?_)))) ((go_at_call 103; (with_reducible refine (C2.out _ (by (repeat' (first | exact Ext.refl _ | assumption | refine Ext.alloc ?_ _ | refine Ext.drew ?_ | refine Ext.drewN ?_ _ | refine Ext.set ?_ (by first | exact Nat.le_refl _ | exact le1 _ | exact le2 _ | exact le3 _ | exact le4 _ | exact le5 _ | exact le6 _) _ | refine Ext.trans ?_ (by assumption))))).mono ?_); rintro e w7 ⟨rfl, hb7⟩))
      have E2 : Ext wA w7 := by (repeat' (first | exact Ext.refl _ | assumption | refine Ext.alloc ?_ _ | refine Ext.drew ?_ | refine Ext.drewN ?_ _ | refine Ext.set ?_ (by first | exact Nat.le_refl _ | exact le1 _ | exact le2 _ | exact le3 _ | exact le4 _ | exact le5 _ | exact le6 _) _ | refine Ext.trans ?_ (by assumption)))
      have E3 := hE.trans E2
      have y1 := E2.cell y0
      clear k0 k1 k2 k3 k4 k5 k6 k7 k8 k9 k10 y0 d0 d1 d6 dP
      cases z
      · go_wp2_with fail
        go_roundw
        case rel => exact ⟨j + 1, _, by omega, by go_num, rfl, by rw [HNX.out]; simpa using HO.out.ext RInt.stable E2, E3⟩
        case measure => simp [intOf]; omega
      · obtain ⟨css, hcs, hown, hcx⟩ := HO.out.ext RInt.stable E2
        have HCX := Lib.hid hcx
        have hz2 := E3.size
        clear hcx HO
        go_wp2_with (at_builtin; refine wpList_append_lies _ rfl _ _ 41 rfl (w5.heap.size) 3 i1 _ 1 8 Try.underlying41 hi1 hi10 hi11 hi12 rfl (by omega) (.slice Ao D.length co) (D.length) (css).flatten rfl ((hown).alloc _) ⟨w7.heap.size, 0, none⟩ 1 1 [.int .i64 u] rfl rfl (World.news_of_block (cs := #[.int .i64 u]) (t := 3) (fr := (0, 0)) (heap_alloc_new w7 _)) (by simp [Value.oneCell']) (by omega) (by unfold maxLen; omega) (by omega) (by simp; omega) (w7.heap.size + 1) (by simp) ?_; intro g cap4 w4 hown4 hgrow4 hat4 hlt4)
        have E9 : Ext w5 w4 := Ext.grown (E3.alloc _) hgrow4 (fun j hj => own_ge hown j hj)
        have HO4 := Lib.hid (OwnL.snoc (R := RInt) (w' := w4) (x := u) hcs HCX.out hown4 rfl rfl)
        clear hown hown4 hgrow4 hat4 hlt4 hcs HCX
        go_roundw
        case rel => exact ⟨j + 1, _, by omega, by go_num, rfl, by rw [HNX.out]; exact HO4.out, E9⟩
        case measure => simp [intOf]; omega
    · obtain rfl : j = ns.length := by omega
      have e1 : chosenL (ns.take ns.length) (ks.take ns.length) = chosenL ns ks := by rw [List.take_of_length_le (by omega), List.take_of_length_le (by omega)]
      rw [e1] at HO ⊢
      have z5 := E5.size
      go_wp2_with fail
      go_ret
      exact ⟨⟨_, rfl, HO.out.lower z5⟩, E5.trans hE⟩
end Go.Proofs.Ytaomlmkcifpfkaa
