
/- Contracts: the law's example, and Length at it. -/
import Derived.Test.YtcbjecpfijogcaaGreatCPlace
namespace Go.Proofs.YtcbjecpfijogcaaGreat
open Go.RowKit Go.Shelf

def exA : CUnit := ⟨0, 4000, 0, 1000, 1000, 1250, 3000, 9000, 0, 0, [⟨4000, 12000, 4⟩]⟩
def exB : CUnit := ⟨2, 8000, 0, 1000, 2000, 1500, 1000, 12000, 250, 10, [⟨8000, 20000, 8⟩]⟩
def exV : CVeh := ⟨⟨#[118, 49]⟩, [exA, exB], 1, 1⟩
theorem heap_ne {W : World} {b c o : Nat} {u : Value} (h : b ≠ c) : (W.setCell ⟨c, o, none⟩ u).heap[b]? = W.heap[b]? := by
  show (W.heap.modify c _)[b]? = _
  rw [Array.getElem?_modify]
  simp [Ne.symm h]
theorem heap_old {W : World} {o o' : Obj} {b : Nat} (h : W.heap[b]? = some o') : (W.alloc o).heap[b]? = some o' := by
  exact ((Ext.refl W).alloc o |>.block b (Array.getElem?_eq_some_iff.1 h).1).trans h
theorem news_at {W : World} {b : Nat} {cs : Array Value} {t : TypeId} (h : W.heap[b]? = some (.cells cs t (0, 0))) (i : Nat) (u : Value) (hi : cs.toList[i]? = some u) : W.cell? ⟨b, i, none⟩ = some u := by
  have := World.news_of_block h i u hi
  rwa [add_none, Nat.zero_add] at this
theorem sl_axles {W : World} {b : Nat} (a : CAxle) (h : W.heap[b]? = some (.cells #[.int .i64 a.x, .int .i64 a.limit, .int .i64 a.wheels] 86 (0, 0))) : Sl 3 RAxle W (.slice (some ⟨b, 0, none⟩) 1 1) [a] :=
  ⟨some ⟨b, 0, none⟩, 1, rfl, by simp, by simp, fun i x hi => by
    match i, hi with
    | 0, hi =>
      simp only [List.getElem?_cons_zero, Option.some.injEq] at hi
      subst hi
      exact ⟨b, 0, _, rfl, rfl, rfl, fun j c hj => by rw [show 0 + 0 * 3 + j = j by omega]; exact news_at h j c (by simpa using hj)⟩
    | i + 1, hi => simp at hi⟩
theorem two_units {W : World} {b : Nat} {a c : CUnit} {va vc : Value} (h : W.heap[b]? = some (.cells (unitCs va a ++ unitCs vc c).toArray 45 (0, 0))) (ha : Sl 3 RAxle W va a.axles) (hc : Sl 3 RAxle W vc c.axles) : Sl 11 RUnit W (.slice (some ⟨b, 0, none⟩) 2 2) [a, c] :=
  ⟨some ⟨b, 0, none⟩, 2, rfl, by simp, by simp, fun i x hi => by
    match i, hi with
    | 0, hi =>
      simp only [List.getElem?_cons_zero, Option.some.injEq] at hi
      subst hi
      refine ⟨b, 0, unitCs va a, rfl, rfl, ⟨va, rfl, ha⟩, fun j c' hj => ?_⟩
      rw [show 0 + 0 * 11 + j = j by omega]
      refine news_at h j c' ?_
      rw [List.getElem?_append_left (List.getElem?_eq_some_iff.1 hj).1]
      exact hj
    | 1, hi =>
      simp only [List.getElem?_cons_succ, List.getElem?_cons_zero, Option.some.injEq] at hi
      subst hi
      refine ⟨b, 0, unitCs vc c, rfl, rfl, ⟨vc, rfl, hc⟩, fun j c' hj => ?_⟩
      refine news_at h (0 + 1 * 11 + j) c' ?_
      have hl : (unitCs va a).length = 11 := rfl
      rw [List.getElem?_append_right (by rw [hl]; omega), hl, show 0 + 1 * 11 + j - 11 = j by omega]
      exact hj
    | i + 2, hi => simp at hi⟩
set_option maxRecDepth 100000 in
set_option maxHeartbeats 1600000 in
theorem Example_c (w : World) :
    Calls Tryz.prog 25 #[] w fun e w' => ∃ vu, e = .returned (vehV exV vu) ∧ Sl 11 RUnit w' vu exV.units ∧ Ext w w' := by
  unfold vehV
  go_enter Tryz.func25, Tryz.ntmps25
  go_wp2
  refine bodyPost_ret (v := .agg #[.string ⟨#[118, 49]⟩, .slice (some ⟨w.heap.size + 1 + 1 + 1, 0, none⟩) 2 2, .int .i64 1, .int .i64 1]) (by simp [results, Tryz.results25, go_sem]) rfl ⟨_, rfl, ?_, by (repeat' (first | exact Ext.refl _ | assumption | refine Ext.alloc ?_ _ | refine Ext.drew ?_ | refine Ext.drewN ?_ _ | refine Ext.set ?_ (by first | exact Nat.le_refl _ | exact le1 _ | exact le2 _ | exact le3 _ | exact le4 _ | exact le5 _ | exact le6 _) _ | refine Ext.trans ?_ (by assumption)))⟩
  refine two_units (va := .slice (some ⟨w.heap.size + 1, 0, none⟩) 1 1) (vc := .slice (some ⟨w.heap.size + 1 + 1, 0, none⟩) 1 1) (new_at (by simp)) ?_ ?_
  · exact sl_axles ⟨4000, 12000, 4⟩ (heap_old (heap_old (new_at (by simp))))
  · exact sl_axles ⟨8000, 20000, 8⟩ (heap_old (new_at (by simp)))

/-! ### Length -/
def sumN (us : List CUnit) : Int := (us.map fun u => u.length + u.behind).sum
theorem sumN_bds : ∀ us : List CUnit, (∀ u ∈ us, unitB u = true) → 0 ≤ sumN us ∧ sumN us ≤ 262144 * us.length
  | [], _ => by simp [sumN]
  | u :: us, h => by
    have ih := sumN_bds us (fun x hx => h x (by simp [hx]))
    have hu := unitB_bds (h u (by simp))
    unfold sumN at ih ⊢
    simp only [List.map_cons, List.sum_cons, List.length_cons]
    omega
theorem sumN_take {us : List CUnit} {k : Nat} {u : CUnit} (h : us[k]? = some u) : sumN (us.take (k + 1)) = sumN (us.take k) + (u.length + u.behind) := by
  rw [take_some h]; simp [sumN]
def lenN (v : CVeh) : Int := match v.units.head?, v.units.getLast? with
  | some a, some z => a.front + z.rear - z.behind + sumN v.units
  | _, _ => 0
theorem sizes_bds {u : CUnit} (h : unitB u = true) : (0 ≤ u.front ∧ u.front ≤ 131072) ∧ (0 ≤ u.rear ∧ u.rear ≤ 131072) := by
  unfold unitB sizesB at h
  simp only [Bool.and_eq_true, inB_iff] at h
  exact ⟨h.1.1.1.1.1.1, h.1.1.1.1.1.2⟩
set_option maxRecDepth 100000 in
set_option maxHeartbeats 3200000 in
theorem Length_ok (vu : Value) (v : CVeh) (w : World) (hs : Sl 11 RUnit w vu v.units) (hE : vehE v = 0) :
    Calls Tryz.prog 24 #[vehV v vu] w fun e w' => e = .returned (.tuple #[.int .i64 (lenN v), .int .i64 0]) ∧ Ext w w' := by
  have CV := fun w' (h : Ext w w') => VCheck_c vu v w' (hs.ext RUnit.stable h)
  rw [hE] at CV
  replace CV := Lib.hid CV
  obtain ⟨A, cap, rfl, hl, hl2⟩ := hs.shape
  have hln := vehE_len hE
  have HV := Lib.hid (vehE_units hE)
  obtain ⟨m, hm⟩ : ∃ m, v.units.length = m + 1 := ⟨v.units.length - 1, by omega⟩
  obtain ⟨a, ha⟩ := some_of_lt (show 0 < v.units.length by omega)
  obtain ⟨z, hz⟩ := some_of_lt (show m < v.units.length by omega)
  have va := HV.out a (mem_of_some ha)
  have vz := HV.out z (mem_of_some hz)
  have a1 := sizes_bds va
  have z1 := sizes_bds vz
  have z2 := unitB_bds vz
  have hlen : lenN v = a.front + z.rear - z.behind + sumN v.units := by
    unfold lenN
    rw [List.head?_eq_getElem?, ha, List.getLast?_eq_getElem?, show v.units.length - 1 = m by omega, hz]
  obtain ⟨b, off, csa, rfl, _, ⟨va', rfl, hax⟩, hca⟩ := hs.at ha
  obtain ⟨b', off', csz, e', _, ⟨vz', rfl, hazx⟩, hcz⟩ := hs.at hz
  simp only [Option.some.injEq, Addr.mk.injEq, and_true] at e'
  obtain ⟨rfl, rfl⟩ := e'
  obtain ⟨Az, capz, rfl, _, _⟩ := hazx.shape
  have HS := Lib.hid hs
  have k3 := hca 3 _ rfl
  have k4 := hcz 4 _ rfl
  simp only [Nat.zero_mul, Nat.add_zero] at k3
  have m0 := hcz 0 _ rfl
  have m1 := hcz 1 _ rfl
  have m2 := hcz 2 _ rfl
  have m3 := hcz 3 _ rfl
  have m4 := hcz 4 _ rfl
  have m5 := hcz 5 _ rfl
  have m6 := hcz 6 _ rfl
  have m7 := hcz 7 _ rfl
  have m8 := hcz 8 _ rfl
  have m9 := hcz 9 _ rfl
  have m10 := hcz 10 _ rfl
  simp only [Nat.add_zero] at m0
  have hbl := lt_of_cell k3
  have e1 : IntKind.i64.wrap ((v.units.length : Int) - 1) = (m : Int) := by rw [IntWalk.i64_in ((v.units.length : Int) - 1) (by omega)]; omega
  have i1 : (0 : Int) ≤ (m : Int) := by omega
  have i2 : (m : Int) < (v.units.length : Int) := by omega
  have i3 : (0 : Int) < (v.units.length : Int) := by omega
  have e2 := IntWalk.i64_in (a.front + z.rear) (by omega)
  have e3 := IntWalk.i64_in (a.front + z.rear - z.behind) (by omega)
  have HLN := Lib.hid hlen
  have HB := Lib.hid (show -131072 ≤ a.front + z.rear - z.behind ∧ a.front + z.rear - z.behind ≤ 1000000 by omega)
  have HM1 := Lib.hid hm
  have HLN2 := Lib.hid hln
  clear hs hca hcz hax hazx ha hz va vz a1 z1 z2 hlen hE hm hln
  unfold vehV
  go_enter Tryz.func24, Tryz.ntmps24
  go_wp2_with (go_at_call 38; refine (CV.out _ (by (repeat' (first | exact Ext.refl _ | assumption | refine Ext.alloc ?_ _ | refine Ext.drew ?_ | refine Ext.drewN ?_ _ | refine Ext.set ?_ (by first | exact Nat.le_refl _ | exact le1 _ | exact le2 _ | exact le3 _ | exact le4 _ | exact le5 _ | exact le6 _) _ | refine Ext.trans ?_ (by assumption))))).mono ?_; rintro e w1 ⟨rfl, hb1⟩; obtain ⟨hc, hf⟩ := bcell hb1; have hz1 := hb1.sz; simp only [size_alloc] at hz1; have y1 := Ext.cell hb1 (p := ⟨w.heap.size, 1, none⟩) (v := .slice (some ⟨b, off, none⟩) v.units.length cap) (by go_simp); have k3n := Ext.cell hb1 (v := .int .i64 a.front) (p := ⟨b, off + 3, none⟩) (by go_simp); have ly := lt_of_cell y1; have lb := lt_of_cell k3n)
  have WW := Ext.cell ((Ext.refl w1).alloc (.cells #[.int .i64 z.kind, .int .i64 z.length, .int .i64 z.behind, .int .i64 z.front, .int .i64 z.rear, .int .i64 z.width, .int .i64 z.height, .int .i64 z.mass, .int .i64 z.steer, .int .i64 z.most, .slice Az z.axles.length capz] 45)) y1
  have WK := Ext.cell ((Ext.refl w1).alloc (.cells #[.int .i64 z.kind, .int .i64 z.length, .int .i64 z.behind, .int .i64 z.front, .int .i64 z.rear, .int .i64 z.width, .int .i64 z.height, .int .i64 z.mass, .int .i64 z.steer, .int .i64 z.most, .slice Az z.axles.length capz] 45)) k3n
  go_region
  go_wp2_with fail
  go_loopw [6, 36] (fun t i wr => ∃ k : Nat, k ≤ v.units.length ∧ i = .int .i64 k ∧ t = .int .i64 (a.front + z.rear - z.behind + sumN (v.units.take k)) ∧ Ext w wr) (fun _ i _ => v.units.length - (intOf i).toNat)
  case atStart => exact ⟨0, by omega, rfl, by simp [sumN], by (repeat' (first | exact Ext.refl _ | assumption | refine Ext.alloc ?_ _ | refine Ext.drew ?_ | refine Ext.drewN ?_ _ | refine Ext.set ?_ (by first | exact Nat.le_refl _ | exact le1 _ | exact le2 _ | exact le3 _ | exact le4 _ | exact le5 _ | exact le6 _) _ | refine Ext.trans ?_ (by assumption)))⟩
  case round =>
    obtain ⟨k, hk, rfl, rfl, hb⟩ := hrel
    by_cases hlt : k < v.units.length
    · obtain ⟨u, hu⟩ := some_of_lt hlt
      obtain ⟨b', off', cs, e', _, ⟨v', rfl, hax⟩, hcu⟩ := HS.out.at hu
      simp only [Option.some.injEq, Addr.mk.injEq, and_true] at e'
      obtain ⟨rfl, rfl⟩ := e'
      obtain ⟨A2, cap2, rfl, _, _⟩ := hax.shape
      have k0 := Ext.cell hb (hcu 0 _ rfl)
      have k1 := Ext.cell hb (hcu 1 _ rfl)
      have k2 := Ext.cell hb (hcu 2 _ rfl)
      have k3' := Ext.cell hb (hcu 3 _ rfl)
      have k4' := Ext.cell hb (hcu 4 _ rfl)
      have k5 := Ext.cell hb (hcu 5 _ rfl)
      have k6 := Ext.cell hb (hcu 6 _ rfl)
      have k7 := Ext.cell hb (hcu 7 _ rfl)
      have k8 := Ext.cell hb (hcu 8 _ rfl)
      have k9 := Ext.cell hb (hcu 9 _ rfl)
      have k10 := Ext.cell hb (hcu 10 _ rfl)
      simp only [Nat.add_zero] at k0
      have j1 : (0 : Int) ≤ (k : Int) := by omega
      have j2 : (k : Int) < (v.units.length : Int) := by omega
      have hvu := unitB_bds (HV.out u (mem_of_some hu))
      have hst := sumN_bds (v.units.take k) (fun x hx => HV.out x (List.mem_of_mem_take hx))
      have htl : (v.units.take k).length ≤ 12 := by have := HLN2.out; rw [List.length_take]; omega
      have HST := Lib.hid (sumN_take hu)
      have hbb := HB.out
      generalize a.front + z.rear - z.behind = F at *
      generalize sumN (v.units.take k) = S at *
      have e5 := IntWalk.i64_in (u.length + u.behind) (by omega)
      have e6 := IntWalk.i64_in (F + S + (u.length + u.behind)) (by omega)
      clear hcu hax hu hvu hst htl hbb
      go_wp2_with fail
      go_roundw
      case rel => exact ⟨k + 1, by omega, by go_num, by rw [HST.out, Int.add_assoc], by (repeat' (first | exact Ext.refl _ | assumption | refine Ext.alloc ?_ _ | refine Ext.drew ?_ | refine Ext.drewN ?_ _ | refine Ext.set ?_ (by first | exact Nat.le_refl _ | exact le1 _ | exact le2 _ | exact le3 _ | exact le4 _ | exact le5 _ | exact le6 _) _ | refine Ext.trans ?_ (by assumption)))⟩
      case measure => simp [intOf]; omega
    · have hkn : k = v.units.length := by omega
      have HLE := Lib.hid (show a.front + z.rear - z.behind + sumN (v.units.take k) = lenN v by rw [HLN.out, List.take_of_length_le (by omega)])
      go_wp2_with fail
      exact bodyPost_ret (v := .tuple #[.int .i64 (a.front + z.rear - z.behind + sumN (v.units.take k)), .int .i64 0]) (by simp [results, Tryz.results24, go_sem]) rfl ⟨by rw [HLE.out], by (repeat' (first | exact Ext.refl _ | assumption | refine Ext.alloc ?_ _ | refine Ext.drew ?_ | refine Ext.drewN ?_ _ | refine Ext.set ?_ (by first | exact Nat.le_refl _ | exact le1 _ | exact le2 _ | exact le3 _ | exact le4 _ | exact le5 _ | exact le6 _) _ | refine Ext.trans ?_ (by assumption)))⟩
/-! ### the example is valid, and 15000 long -/
theorem exV_ok : vehE exV = 0 := by decide +kernel
theorem exV_len : lenN exV = 15000 := by decide +kernel
end Go.Proofs.YtcbjecpfijogcaaGreat
