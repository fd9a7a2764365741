/- Contracts: broken of the program: the conditions that a crossing breaks. -/
import Derived.Test.YtaomlmkcifpfkaaPCross3
import Derived.Test.YtaomlmkcifpfkaaPKindAll
namespace Go.Proofs.Ytaomlmkcifpfkaa
open Go.RowKit Go.Shelf Go.Maps

def breakK (rs : List PRule) (n : Nat) (c : PCross) : List Bool := rs.map fun r => breaksB r n c
theorem breakK_at {rs : List PRule} {n : Nat} {c : PCross} {i : Nat} {r : PRule} (h : rs[i]? = some r) : (breakK rs n c)[i]? = some (breaksB r n c) := by simp [breakK, h]
theorem breakK_len (rs : List PRule) (n : Nat) (c : PCross) : (breakK rs n c).length = rs.length := by simp [breakK]

set_option maxRecDepth 100000 in
set_option maxHeartbeats 3200000 in
theorem broken_c (B o n : Nat) (vl vn v : Value) (rs : List PRule) (ns : List Int) (c : PCross) (w : World) (hl : Sl 11 RRule w vl rs) (hns : Sl 1 RInt w vn ns) (hv : ∀ r ∈ rs, ruleB r = true) (hc : Sl 3 RCount w v c.things) (hm0 : w.cell? ⟨B, o, none⟩ = some vl) (hm1 : w.cell? ⟨B, o + 1, none⟩ = some vn) (hm2 : w.cell? ⟨B, o + 2, none⟩ = some (.int .i64 (n : Int)))
    (h0 : 0 ≤ c.start) (h1 : c.start ≤ 1099511627776) (hn : n ≤ 10080) (hlen : rs.length ≤ 24) (hnum : ns.length = rs.length) :
    Calls Try.prog 74 #[.pointer (some ⟨B, o, none⟩), .agg #[.int .i64 c.start, v]] w fun e w' => (∃ v', e = .returned v' ∧ OwnL 1 3 RInt w.heap.size w' v' (chosenL ns (breakK rs n c))) ∧ Ext w w' := by
  have C1 := fun vr vw vc r w' (h : Ext w w') hr hv => breaks_c B o n vr vw vc v r c w' hr hv (hc.ext RCount.stable h) (h.cell hm2) h0 h1 hn
  obtain ⟨i1, hi1, hi10, hi11, hi12⟩ := info_parts infoInt
  have hlt := lt_of_cell hm0
  obtain ⟨At, ct, rfl, lt, lt2⟩ := hc.shape
  obtain ⟨Al, cl, rfl, ll, ll2⟩ := hl.shape
  obtain ⟨An, cn, rfl, ln, ln2⟩ := hns.shape
  have HL := Lib.hid hl
  have HN := Lib.hid hns
  have HV := Lib.hid hv
  have HK := Lib.hid (fun i r h => breakK_at (rs := rs) (n := n) (c := c) (i := i) (r := r) h)
  have hkl := breakK_len rs n c
  replace C1 := Lib.hid C1
  generalize breakK rs n c = ks at *
  clear hc hl hns hv hm2
  go_enter Try.func74, Try.ntmps74
  go_upto_region 1 with fail
  have e0 : Ext w (w.alloc (.cells #[.int .i64 c.start, .slice At c.things.length ct] 83)) := (Ext.refl _).alloc _
  have c0 : (w.alloc (.cells #[.int .i64 c.start, .slice At c.things.length ct] 83)).cell? ⟨w.heap.size, 0, none⟩ = some (.int .i64 c.start) := World.cell?_alloc_new _ _ _ _
  have c1 : (w.alloc (.cells #[.int .i64 c.start, .slice At c.things.length ct] 83)).cell? ⟨w.heap.size, 1, none⟩ = some (.slice At c.things.length ct) := World.cell?_alloc_new _ _ _ _
  generalize w.alloc (.cells #[.int .i64 c.start, .slice At c.things.length ct] 83) = W at *
  have z0 := e0.size
  have m0 := e0.cell hm0
  have m1 := e0.cell hm1
  go_wp2_with fail
  go_loopw [4, 5, 6, 12] (fun out _ _ i wr => ∃ (j : Nat) (vo : Value), j ≤ rs.length ∧ i = .int .i64 j ∧ out = vo ∧ OwnL 1 3 RInt W.heap.size wr vo (chosenL (ns.take j) (ks.take j)) ∧ Ext W wr) (fun _ _ _ i _ => rs.length - (intOf i).toNat)
  case atStart => exact ⟨0, _, by omega, rfl, rfl, by simpa [chosenL] using OwnL.nil, Ext.refl _⟩
  case round =>
    obtain ⟨j, vo, hj, rfl, rfl, hown, hE⟩ := hrel
    obtain ⟨wA, hwA⟩ : ∃ z : World, z = wr := ⟨_, rfl⟩
    subst hwA
    obtain ⟨Ao, co, rfl, _, _⟩ := hown.sl.shape
    have HO := Lib.hid hown
    clear hown
    by_cases hltj : j < rs.length
    · obtain ⟨x, hx⟩ := some_of_lt hltj
      obtain ⟨p, hp⟩ := some_of_lt (l := ns) (k := j) (by omega)
      have hq := HK.out j x hx
      obtain ⟨b, off, cs, rfl, hnn, ⟨vr, vw, vc, rfl, hr⟩, hcc⟩ := (HL.out.ext RRule.stable e0).at hx
      obtain ⟨b2, off2, cs2, rfl, hn2, hcs2, hc2⟩ := (HN.out.ext RInt.stable e0).at hp
      obtain rfl : cs2 = [.int .i64 p] := hcs2
      have y0 := hE.cell (hc2 0 _ rfl)
      simp only [Nat.add_zero, Nat.mul_one] at y0
      have HNX := Lib.hid (chosenL_snoc ns ks j p _ hp hq)
      have hcl := chosenL_len (ns.take j) (ks.take j)
      rw [List.length_take] at hcl
      have hcl2 : (chosenL (ns.take j) (ks.take j)).length ≤ 24 := by omega
      have C2 := fun w' (h : Ext W w') => C1.out vr vw vc x w' (e0.trans h) (hr.ext h) (HV.out x (List.mem_of_getElem? hx))
      obtain ⟨hr1, hw1, hc1⟩ := hr
      obtain ⟨Ar, cr, rfl, lr, lr2⟩ := hr1.shape
      obtain ⟨Aw, cw, rfl, lw, lw2⟩ := hw1.shape
      obtain ⟨Ac, cc, rfl, lc, lc2⟩ := hc1.shape
      have j1k : (0 : Int) ≤ (j : Int) := by omega
      have j2k : (j : Int) < (rs.length : Int) := by omega
      have j3k : (j : Int) < (ns.length : Int) := by omega
      have k0 := hE.cell (hcc 0 _ rfl)
      have k1 := hE.cell (hcc 1 _ rfl)
      have k2 := hE.cell (hcc 2 _ rfl)
      have k3 := hE.cell (hcc 3 _ rfl)
      have k4 := hE.cell (hcc 4 _ rfl)
      have k5 := hE.cell (hcc 5 _ rfl)
      have k6 := hE.cell (hcc 6 _ rfl)
      have k7 := hE.cell (hcc 7 _ rfl)
      have k8 := hE.cell (hcc 8 _ rfl)
      have k9 := hE.cell (hcc 9 _ rfl)
      have k10 := hE.cell (hcc 10 _ rfl)
      simp only [Nat.add_zero] at k0
      have d0 := hE.cell c0
      have d1 := hE.cell c1
      have d2 := hE.cell m1
      have zA := hE.size
      have hlc := lt_of_cell d0
      clear hcc hnn hx hp hr1 hw1 hc1 hc2 hn2 hq hcl m0 m1 c0 c1
      generalize chosenL (ns.take j) (ks.take j) = D at *
      generalize breaksB x n c = z at *
      replace C2 := Lib.hid C2
      cases z
      · go_wp2_with (go_at_call 102; refine (C2.out _ (by (repeat' (first | exact Ext.refl _ | assumption | refine Ext.alloc ?_ _ | refine Ext.drew ?_ | refine Ext.drewN ?_ _ | refine Ext.set ?_ (by first | exact Nat.le_refl _ | exact le1 _ | exact le2 _ | exact le3 _ | exact le4 _ | exact le5 _ | exact le6 _) _ | refine Ext.trans ?_ (by assumption))))).mono ?_; rintro e w2 ⟨rfl, hb2⟩)
        have E2 : Ext wA w2 := by (repeat' (first | exact Ext.refl _ | assumption | refine Ext.alloc ?_ _ | refine Ext.drew ?_ | refine Ext.drewN ?_ _ | refine Ext.set ?_ (by first | exact Nat.le_refl _ | exact le1 _ | exact le2 _ | exact le3 _ | exact le4 _ | exact le5 _ | exact le6 _) _ | refine Ext.trans ?_ (by assumption)))
        go_roundw
        case rel => exact ⟨j + 1, _, by omega, by go_num, rfl, by rw [HNX.out]; simpa using HO.out.ext RInt.stable E2, hE.trans E2⟩
        case measure => simp [intOf]; omega
      · go_upto_region 5 with (go_at_call 102; refine (C2.out _ (by (repeat' (first | exact Ext.refl _ | assumption | refine Ext.alloc ?_ _ | refine Ext.drew ?_ | refine Ext.drewN ?_ _ | refine Ext.set ?_ (by first | exact Nat.le_refl _ | exact le1 _ | exact le2 _ | exact le3 _ | exact le4 _ | exact le5 _ | exact le6 _) _ | refine Ext.trans ?_ (by assumption))))).mono ?_; rintro e w2 ⟨rfl, hb2⟩)
        have E2 : Ext wA w2 := by (repeat' (first | exact Ext.refl _ | assumption | refine Ext.alloc ?_ _ | refine Ext.drew ?_ | refine Ext.drewN ?_ _ | refine Ext.set ?_ (by first | exact Nat.le_refl _ | exact le1 _ | exact le2 _ | exact le3 _ | exact le4 _ | exact le5 _ | exact le6 _) _ | refine Ext.trans ?_ (by assumption)))
        have E3 := hE.trans E2
        obtain ⟨css, hcs, hown, hcx⟩ := HO.out.ext RInt.stable E2
        have HCX := Lib.hid hcx
        have hz2 := E3.size
        have y1 := E2.cell y0
        have d3 := E2.cell d2
        clear hcx HO k0 k1 k2 k3 k4 k5 k6 k7 k8 k9 k10 y0 d2 hb2 d0 d1
        go_wp2_with (at_builtin; refine wpList_append_lies _ rfl _ _ 41 rfl (W.heap.size) 3 i1 _ 1 8 Try.underlying41 hi1 hi10 hi11 hi12 rfl (by omega) (.slice Ao D.length co) (D.length) (css).flatten rfl ((hown).alloc _) ⟨w2.heap.size, 0, none⟩ 1 1 [.int .i64 p] rfl rfl (World.news_of_block (cs := #[.int .i64 p]) (t := 3) (fr := (0, 0)) (heap_alloc_new w2 _)) (by simp [Value.oneCell']) (by omega) (by unfold maxLen; omega) (by omega) (by simp; omega) (w2.heap.size + 1) (by simp) ?_; intro g cap4 w4 hown4 hgrow4 hat4 hlt4)
        have E9 : Ext W w4 := Ext.grown (E3.alloc _) hgrow4 (fun j hj => own_ge hown j hj)
        have HO4 := Lib.hid (OwnL.snoc (R := RInt) (w' := w4) (x := p) hcs HCX.out hown4 rfl rfl)
        clear hown hown4 hgrow4 hat4 hlt4 hcs HCX
        go_roundw
        case rel => exact ⟨j + 1, _, by omega, by go_num, rfl, by rw [HNX.out]; exact HO4.out, E9⟩
        case measure => simp [intOf]; omega
    · obtain rfl : j = rs.length := by omega
      have e1 : chosenL (ns.take rs.length) (ks.take rs.length) = chosenL ns ks := by rw [List.take_of_length_le (by omega), List.take_of_length_le (by omega)]
      rw [e1] at HO ⊢
      go_wp2_with fail
      refine bodyPost_ret (v := .slice Ao (chosenL ns ks).length co) (by simp [results, Try.results74, go_sem]) rfl ?_
      exact ⟨⟨_, rfl, HO.out.lower z0⟩, e0.trans hE⟩
end Go.Proofs.Ytaomlmkcifpfkaa
