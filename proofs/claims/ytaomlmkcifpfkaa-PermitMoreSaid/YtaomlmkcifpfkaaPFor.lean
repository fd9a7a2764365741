/- Contracts: for which roads and sizes a rule is; where an authority is. -/
import Derived.Test.YtaomlmkcifpfkaaPTrip
import Derived.Deep.RegionHeld3
import Derived.Deep.DrawnRows
namespace Go.Proofs.Ytaomlmkcifpfkaa
open Go.RowKit
attribute [local go_sem ↓] Go.wp_at_zero Go.wp_at_succ

def zs (t : PTrip) : List Int := [t.z0, t.z1, t.z2, t.z3, t.z4, t.z5]
def zAt (t : PTrip) (i : Int) : Int := (zs t).getD i.toNat 0
def underB (t : PTrip) (c : PWhen) : Bool := decide (zAt t c.size < c.least)
def forB (r : PRule) (road : ByteArray) (t : PTrip) : Bool := (decide (r.roads.length = 0) || r.roads.any fun s => decide (road = s)) && !(r.whens.any (underB t))
def szVals (t : PTrip) : Array Value := #[.int .i64 t.z0, .int .i64 t.z1, .int .i64 t.z2, .int .i64 t.z3, .int .i64 t.z4, .int .i64 t.z5]
/-- the cells of the sizes -/
def SzCells (w : World) (b : Nat) (t : PTrip) : Prop := ∀ n : Nat, n < 6 → w.cell? ⟨b, n, none⟩ = some (.int .i64 (zAt t n))
theorem SzCells.ext {w w' : World} {b : Nat} {t : PTrip} (h : SzCells w b t) (he : Ext w w') : SzCells w' b t := fun n hn => he.cell (h n hn)
theorem SzCells.mk' {w : World} {b : Nat} {t : PTrip} (h0 : w.cell? ⟨b, 0, none⟩ = some (.int .i64 t.z0)) (h1 : w.cell? ⟨b, 1, none⟩ = some (.int .i64 t.z1)) (h2 : w.cell? ⟨b, 2, none⟩ = some (.int .i64 t.z2)) (h3 : w.cell? ⟨b, 3, none⟩ = some (.int .i64 t.z3)) (h4 : w.cell? ⟨b, 4, none⟩ = some (.int .i64 t.z4)) (h5 : w.cell? ⟨b, 5, none⟩ = some (.int .i64 t.z5)) : SzCells w b t := by
  intro n hn
  rcases (show n = 0 ∨ n = 1 ∨ n = 2 ∨ n = 3 ∨ n = 4 ∨ n = 5 by omega) with rfl | rfl | rfl | rfl | rfl | rfl
  · exact h0
  · exact h1
  · exact h2
  · exact h3
  · exact h4
  · exact h5

set_option maxHeartbeats 800000 in
theorem isFor1_c (t : PTrip) (B : Nat) (x : PWhen) (hx : whenB x = true) (w : World) (hc : SzCells w B t) :
    Calls Try.prog 105 #[.agg #[.int .i64 x.size, .int .i64 x.least], .pointer (some ⟨B, 0, none⟩)] w fun e w' => e = .returned (.bool (underB t x)) ∧ Ext w w' := by
  obtain ⟨xs, xl⟩ := x
  simp only [whenB, Bool.and_eq_true, decide_eq_true_eq] at hx
  obtain ⟨⟨h1, h2⟩, _⟩ := hx
  obtain ⟨n, rfl⟩ : ∃ n : Nat, xs = (n : Int) := ⟨xs.toNat, by omega⟩
  have hn := hc n (by omega)
  have hB := lt_of_cell hn
  unfold underB
  simp only
  generalize zAt t n = z at *
  clear hc
  have i1 : (0 : Int) ≤ (n : Int) := by omega
  have i2 : (n : Int) < 6 := by omega
  go_enter Try.func105, Try.ntmps105
  go_wp2_with fail
  go_quiet (fail)
  go_wp2_with fail
  go_ret
  exact ⟨rfl, by (repeat' (first | exact Ext.refl _ | assumption | refine Ext.alloc ?_ _ | refine Ext.drew ?_ | refine Ext.drewN ?_ _ | refine Ext.set ?_ (by first | exact Nat.le_refl _ | exact le1 _ | exact le2 _ | exact le3 _ | exact le4 _ | exact le5 _ | exact le6 _) _ | refine Ext.trans ?_ (by assumption)))⟩

theorem unders_c (t : PTrip) (B : Nat) (v : Value) (l : List PWhen) (w : World) (hs : Sl 2 RWhen w v l) (hv : l.all whenB = true) (hc : SzCells w B t) :
    Calls Try.prog 104 #[v, .func (.func 105) #[] #[.pointer (some ⟨B, 0, none⟩)]] w fun e w' => e = .returned (.bool (l.any (underB t))) ∧ Ext w w' := by
  refine ContainsFuncWhen_c RWhen.stable 105 _ (enters_of Try.func105 (by kernel_rfl) rfl) _ v l w hs ?_
  rintro W cs x he rfl hx
  exact isFor1_c t B x (List.all_eq_true.1 hv x hx) W (hc.ext he)

set_option maxRecDepth 100000 in
set_option maxHeartbeats 1600000 in
theorem isFor_c (vr vw vc : Value) (r : PRule) (road : ByteArray) (t : PTrip) (w : World) (hs : RSls w vr vw vc r) (hv : r.whens.all whenB = true) :
    Calls Try.prog 79 #[.agg #[.string r.name, vr, vw, .int .i64 r.h0, .int .i64 r.h1, .int .i64 r.days, .int .i64 r.s0, .int .i64 r.s1, .bool r.forbid, vc, .int .i64 r.cost], .string road, .agg #[.int .i64 t.z0, .int .i64 t.z1, .int .i64 t.z2, .int .i64 t.z3, .int .i64 t.z4, .int .i64 t.z5]] w fun e w' => e = .returned (.bool (forB r road t)) ∧ Ext w w' := by
  obtain ⟨hr, hw, hc⟩ := hs
  have C1 := fun w' (h : Ext w w') => ContainsStr_c road vr r.roads w' (hr.ext RStr.stable h)
  have C2 := fun B w' (h : Ext w w') hcl => unders_c t B vw r.whens w' (hw.ext RWhen.stable h) hv hcl
  obtain ⟨Ar, cr, rfl, lr, lr2⟩ := hr.shape
  obtain ⟨Aw, cw, rfl, lw, lw2⟩ := hw.shape
  obtain ⟨Ac, cc, rfl, lc, lc2⟩ := hc.shape
  unfold forB
  generalize (r.roads.any fun s => decide (road = s)) = a at *
  generalize r.whens.any (underB t) = u at *
  replace C1 := Lib.hid C1
  replace C2 := Lib.hid C2
  clear hr hw hc hv
  by_cases hz : r.roads.length = 0
  · have hz' : decide (r.roads.length = 0) = true := by simp [hz]
    rw [hz']
    have hz1 : ((r.roads.length : Int) == 0) = true := by simp [hz]
    clear hz hz'
    go_enter Try.func79, Try.ntmps79
    go_wp2_with fail
    refine (C2.out _ _ (by (repeat' (first | exact Ext.refl _ | assumption | refine Ext.alloc ?_ _ | refine Ext.drew ?_ | refine Ext.drewN ?_ _ | refine Ext.set ?_ (by first | exact Nat.le_refl _ | exact le1 _ | exact le2 _ | exact le3 _ | exact le4 _ | exact le5 _ | exact le6 _) _ | refine Ext.trans ?_ (by assumption)))) (SzCells.mk' (by go_simp) (by go_simp) (by go_simp) (by go_simp) (by go_simp) (by go_simp))).mono ?_
    rintro e w1 ⟨rfl, hb1⟩
    go_wp2_with fail
    go_ret
    exact ⟨by simp, by (repeat' (first | exact Ext.refl _ | assumption | refine Ext.alloc ?_ _ | refine Ext.drew ?_ | refine Ext.drewN ?_ _ | refine Ext.set ?_ (by first | exact Nat.le_refl _ | exact le1 _ | exact le2 _ | exact le3 _ | exact le4 _ | exact le5 _ | exact le6 _) _ | refine Ext.trans ?_ (by assumption)))⟩
  · have hz' : decide (r.roads.length = 0) = false := by simp [hz]
    rw [hz']
    have hz1 : ((r.roads.length : Int) == 0) = false := beq_false_of_ne (by omega)
    have hz2 : ¬ (r.roads.length : Int) = 0 := by omega
    clear hz hz'
    cases a
    · go_enter Try.func79, Try.ntmps79
      go_wp2_with (go_at_call 92; refine (C1.out _ (by (repeat' (first | exact Ext.refl _ | assumption | refine Ext.alloc ?_ _ | refine Ext.drew ?_ | refine Ext.drewN ?_ _ | refine Ext.set ?_ (by first | exact Nat.le_refl _ | exact le1 _ | exact le2 _ | exact le3 _ | exact le4 _ | exact le5 _ | exact le6 _) _ | refine Ext.trans ?_ (by assumption))))).mono ?_; rintro e w1 ⟨rfl, rfl⟩)
      go_ret
      exact ⟨by simp, by (repeat' (first | exact Ext.refl _ | assumption | refine Ext.alloc ?_ _ | refine Ext.drew ?_ | refine Ext.drewN ?_ _ | refine Ext.set ?_ (by first | exact Nat.le_refl _ | exact le1 _ | exact le2 _ | exact le3 _ | exact le4 _ | exact le5 _ | exact le6 _) _ | refine Ext.trans ?_ (by assumption)))⟩
    · go_enter Try.func79, Try.ntmps79
      go_wp2_with (go_at_call 92; refine (C1.out _ (by (repeat' (first | exact Ext.refl _ | assumption | refine Ext.alloc ?_ _ | refine Ext.drew ?_ | refine Ext.drewN ?_ _ | refine Ext.set ?_ (by first | exact Nat.le_refl _ | exact le1 _ | exact le2 _ | exact le3 _ | exact le4 _ | exact le5 _ | exact le6 _) _ | refine Ext.trans ?_ (by assumption))))).mono ?_; rintro e w1 ⟨rfl, rfl⟩)
      refine (C2.out _ _ (by (repeat' (first | exact Ext.refl _ | assumption | refine Ext.alloc ?_ _ | refine Ext.drew ?_ | refine Ext.drewN ?_ _ | refine Ext.set ?_ (by first | exact Nat.le_refl _ | exact le1 _ | exact le2 _ | exact le3 _ | exact le4 _ | exact le5 _ | exact le6 _) _ | refine Ext.trans ?_ (by assumption)))) (SzCells.mk' (by go_simp) (by go_simp) (by go_simp) (by go_simp) (by go_simp) (by go_simp))).mono ?_
      rintro e w1 ⟨rfl, hb1⟩
      go_wp2_with fail
      go_ret
      exact ⟨by simp, by (repeat' (first | exact Ext.refl _ | assumption | refine Ext.alloc ?_ _ | refine Ext.drew ?_ | refine Ext.drewN ?_ _ | refine Ext.set ?_ (by first | exact Nat.le_refl _ | exact le1 _ | exact le2 _ | exact le3 _ | exact le4 _ | exact le5 _ | exact le6 _) _ | refine Ext.trans ?_ (by assumption)))⟩

/-- where an authority is -/
def idxA (l : List PAuth) (s : ByteArray) : Int := idxL (fun a => decide (a.name = s)) l
set_option maxRecDepth 100000 in
set_option maxHeartbeats 800000 in
theorem newDesk1_c (s : ByteArray) (B : Nat) (v : Value) (a : PAuth) (w : World) (hs : Sl 11 RRule w v a.rules) (hc : w.cell? ⟨B, 0, none⟩ = some (.string s)) :
    Calls Try.prog 78 #[.agg #[.string a.name, .int .i64 a.fee, .int .i64 a.notice, v], .pointer (some ⟨B, 0, none⟩)] w fun e w' => e = .returned (.bool (decide (a.name = s))) ∧ Ext w w' := by
  obtain ⟨A, cap, rfl, _⟩ := hs.shape
  have hB := lt_of_cell hc
  clear hs
  by_cases he : a.name = s
  · subst he
    have hd : decide (a.name = a.name) = true := by simp
    rw [hd]
    generalize a.name = an at *
    clear hd
    go_enter Try.func78, Try.ntmps78
    go_wp2
    go_ret
    exact ⟨by simp, by (repeat' (first | exact Ext.refl _ | assumption | refine Ext.alloc ?_ _ | refine Ext.drew ?_ | refine Ext.drewN ?_ _ | refine Ext.set ?_ (by first | exact Nat.le_refl _ | exact le1 _ | exact le2 _ | exact le3 _ | exact le4 _ | exact le5 _ | exact le6 _) _ | refine Ext.trans ?_ (by assumption)))⟩
  · have hd : decide (a.name = s) = false := by simp [he]
    rw [hd]
    have hb := beq_toList he
    generalize a.name = an at *
    clear hd he
    go_enter Try.func78, Try.ntmps78
    go_wp2
    go_ret
    exact ⟨by simp, by (repeat' (first | exact Ext.refl _ | assumption | refine Ext.alloc ?_ _ | refine Ext.drew ?_ | refine Ext.drewN ?_ _ | refine Ext.set ?_ (by first | exact Nat.le_refl _ | exact le1 _ | exact le2 _ | exact le3 _ | exact le4 _ | exact le5 _ | exact le6 _) _ | refine Ext.trans ?_ (by assumption)))⟩
theorem findAuth_c (s : ByteArray) (B : Nat) (v : Value) (l : List PAuth) (w : World) (hs : Sl 4 RAuth w v l) (hc : w.cell? ⟨B, 0, none⟩ = some (.string s)) :
    Calls Try.prog 77 #[v, .func (.func 78) #[] #[.pointer (some ⟨B, 0, none⟩)]] w fun e w' => e = .returned (.int .i64 (idxA l s)) ∧ Ext w w' := by
  refine IndexFuncAuth_c RAuth.stable 78 _ (enters_of Try.func78 (by kernel_rfl) rfl) _ v l w hs ?_
  rintro W cs x he ⟨vr, rfl, hx⟩ _
  exact newDesk1_c s B vr x W hx (he.cell hc)

set_option maxHeartbeats 800000 in
theorem authority_c (s : ByteArray) (v : Value) (l : List PAuth) (w : World) (hs : Sl 4 RAuth w v l) :
    Calls Try.prog 80 #[v, .string s] w fun e w' => e = .returned (.int .i64 (idxA l s)) ∧ w = w' := by
  obtain ⟨A, cap, rfl, hl, hcap⟩ := hs.shape
  have HS := Lib.hid hs
  clear hs
  unfold idxA
  go_enter Try.func80, Try.ntmps80
  go_wp2
  go_loop [5] (fun i => ∃ k : Nat, k ≤ l.length ∧ i = .int .i64 k ∧ (l.take k).any (fun a => decide (a.name = s)) = false) (fun i => l.length - (intOf i).toNat)
  case atStart => exact ⟨0, by omega, rfl, by simp⟩
  case round =>
    obtain ⟨k, hk, rfl, ha⟩ := hrel
    have HA := Lib.hid ha
    clear ha
    by_cases hlt : k < l.length
    · obtain ⟨x, hx⟩ := some_of_lt hlt
      obtain ⟨b, off, cs, rfl, hn, ⟨vr, rfl, hr⟩, hc⟩ := HS.out.at hx
      have k0 := hc 0 _ rfl
      simp only [Nat.add_zero] at k0
      have HX := Lib.hid hx
      clear hc hn hx hr
      by_cases he : x.name = s
      · have HH := Lib.hid (idxL_hit HA.out HX.out (show decide (x.name = s) = true by simp [he]))
        rw [he] at k0
        clear he
        go_wp2
        go_ret
        exact ⟨ret_int HH.out, rfl⟩
      · have HN := Lib.hid (any_take HX.out HA.out (show decide (x.name = s) = false by simp [he]))
        have hb := beq_toList he
        generalize x.name = xn at *
        clear he
        go_wp2
        go_round
        case rel => exact ⟨k + 1, by omega, by go_num, HN.out⟩
        case measure => simp [intOf]; omega
    · have HE := Lib.hid (any_end HA.out (by omega))
      go_wp2
      go_ret
      exact ⟨ret_int (idxL_miss HE.out), rfl⟩

theorem any_some {α : Type} {p : α → Bool} {l : List α} {k : Nat} {x : α} (h : l[k]? = some x) : (l.take (k + 1)).any p = ((l.take k).any p || p x) := by
  rw [take_some h, List.any_append]; simp

set_option maxRecDepth 100000 in
set_option maxHeartbeats 3200000 in
theorem RisFor_c (vr vw vc vp : Value) (r : PRule) (t : PTrip) (pk : Nat) (p : PPass) (w : World) (hs : RSls w vr vw vc r) (hv : r.whens.all whenB = true) (hp : Sl 3 RPass w vp t.passages) (hpk : t.passages[pk]? = some p) :
    Calls Try.prog 81 #[.agg #[.string r.name, vr, vw, .int .i64 r.h0, .int .i64 r.h1, .int .i64 r.days, .int .i64 r.s0, .int .i64 r.s1, .bool r.forbid, vc, .int .i64 r.cost], .agg #[.int .i64 t.z0, .int .i64 t.z1, .int .i64 t.z2, .int .i64 t.z3, .int .i64 t.z4, .int .i64 t.z5, vp], .int .i64 pk] w fun e w' => e = .returned (.bool (forB r p.road t)) ∧ Ext w w' := by
  obtain ⟨hr, hw, hc⟩ := hs
  have hpl := lt_of_some hpk
  obtain ⟨pb, poff, pcs, hpA, _, hpr, hpc⟩ : ∃ (b off : Nat) (cs : List Value), (∃ n c, vp = .slice (some ⟨b, off, none⟩) n c ∧ n = t.passages.length) ∧ cs.length = 3 ∧ RPass w cs p ∧ ∀ j c, cs[j]? = some c → w.cell? ⟨b, off + pk * 3 + j, none⟩ = some c := by
    obtain ⟨A, cap, rfl, _, _⟩ := hp.shape
    obtain ⟨b, off, cs, rfl, h1, h2, h3⟩ := hp.at hpk
    exact ⟨b, off, cs, ⟨_, _, rfl, rfl⟩, h1, h2, h3⟩
  obtain ⟨np, cp, rfl, hnp⟩ := hpA
  obtain rfl : pcs = [.string p.auth, .string p.road, .int .i64 p.minutes] := hpr
  have pc1 := hpc 1 _ rfl
  have hPB := lt_of_cell pc1
  obtain ⟨Ar, cr, rfl, lr, lr2⟩ := hr.shape
  obtain ⟨Aw, cw, rfl, lw, lw2⟩ := hw.shape
  obtain ⟨Ac, cc, rfl, lc, lc2⟩ := hc.shape
  have HR := Lib.hid hr
  have HW := Lib.hid hw
  have HV := Lib.hid hv
  obtain ⟨R, hR⟩ : ∃ R, forB r p.road t = R := ⟨_, rfl⟩
  rw [hR]
  unfold forB at hR
  have HF := Lib.hid hR
  have j1 : (0 : Int) ≤ (pk : Int) := by omega
  have j2 : (pk : Int) < (np : Int) := by omega
  clear hnp hpl
  generalize p.road = road at *
  clear hr hw hc hv hp hpk hpc hR
  have hdl : ((r.roads.length : Int) == 0) = decide (r.roads.length = 0) := by rw [Bool.eq_iff_iff]; simp
  obtain ⟨d0, hd0⟩ : ∃ d, decide (r.roads.length = 0) = d := ⟨_, rfl⟩
  rw [hd0] at hdl
  have HD := Lib.hid hd0
  clear hd0
  go_enter Try.func81, Try.ntmps81
  go_wp2_with fail
  have E1 : Ext w ((w.alloc (.cells #[.string r.name, .slice Ar r.roads.length cr, .slice Aw r.whens.length cw, .int .i64 r.h0, .int .i64 r.h1, .int .i64 r.days, .int .i64 r.s0, .int .i64 r.s1, .bool r.forbid, .slice Ac r.counts.length cc, .int .i64 r.cost] 58)).alloc (.cells #[.int .i64 t.z0, .int .i64 t.z1, .int .i64 t.z2, .int .i64 t.z3, .int .i64 t.z4, .int .i64 t.z5, .slice (some ⟨pb, poff, none⟩) np cp] 26)) := by (repeat' (first | exact Ext.refl _ | assumption | refine Ext.alloc ?_ _ | refine Ext.drew ?_ | refine Ext.drewN ?_ _ | refine Ext.set ?_ (by first | exact Nat.le_refl _ | exact le1 _ | exact le2 _ | exact le3 _ | exact le4 _ | exact le5 _ | exact le6 _) _ | refine Ext.trans ?_ (by assumption)))
  have D1 : ((w.alloc (.cells #[.string r.name, .slice Ar r.roads.length cr, .slice Aw r.whens.length cw, .int .i64 r.h0, .int .i64 r.h1, .int .i64 r.days, .int .i64 r.s0, .int .i64 r.s1, .bool r.forbid, .slice Ac r.counts.length cc, .int .i64 r.cost] 58)).alloc (.cells #[.int .i64 t.z0, .int .i64 t.z1, .int .i64 t.z2, .int .i64 t.z3, .int .i64 t.z4, .int .i64 t.z5, .slice (some ⟨pb, poff, none⟩) np cp] 26)).cell? ⟨w.heap.size, 1, none⟩ = some (.slice Ar r.roads.length cr) := by go_simp
  have D2 : ((w.alloc (.cells #[.string r.name, .slice Ar r.roads.length cr, .slice Aw r.whens.length cw, .int .i64 r.h0, .int .i64 r.h1, .int .i64 r.days, .int .i64 r.s0, .int .i64 r.s1, .bool r.forbid, .slice Ac r.counts.length cc, .int .i64 r.cost] 58)).alloc (.cells #[.int .i64 t.z0, .int .i64 t.z1, .int .i64 t.z2, .int .i64 t.z3, .int .i64 t.z4, .int .i64 t.z5, .slice (some ⟨pb, poff, none⟩) np cp] 26)).cell? ⟨w.heap.size, 2, none⟩ = some (.slice Aw r.whens.length cw) := by go_simp
  have D6 : ((w.alloc (.cells #[.string r.name, .slice Ar r.roads.length cr, .slice Aw r.whens.length cw, .int .i64 r.h0, .int .i64 r.h1, .int .i64 r.days, .int .i64 r.s0, .int .i64 r.s1, .bool r.forbid, .slice Ac r.counts.length cc, .int .i64 r.cost] 58)).alloc (.cells #[.int .i64 t.z0, .int .i64 t.z1, .int .i64 t.z2, .int .i64 t.z3, .int .i64 t.z4, .int .i64 t.z5, .slice (some ⟨pb, poff, none⟩) np cp] 26)).cell? ⟨w.heap.size + 1, 6, none⟩ = some (.slice (some ⟨pb, poff, none⟩) np cp) := by go_simp
  have DS : SzCells ((w.alloc (.cells #[.string r.name, .slice Ar r.roads.length cr, .slice Aw r.whens.length cw, .int .i64 r.h0, .int .i64 r.h1, .int .i64 r.days, .int .i64 r.s0, .int .i64 r.s1, .bool r.forbid, .slice Ac r.counts.length cc, .int .i64 r.cost] 58)).alloc (.cells #[.int .i64 t.z0, .int .i64 t.z1, .int .i64 t.z2, .int .i64 t.z3, .int .i64 t.z4, .int .i64 t.z5, .slice (some ⟨pb, poff, none⟩) np cp] 26)) (w.heap.size + 1) t := SzCells.mk' (by go_simp) (by go_simp) (by go_simp) (by go_simp) (by go_simp) (by go_simp)
  generalize ((w.alloc (.cells #[.string r.name, .slice Ar r.roads.length cr, .slice Aw r.whens.length cw, .int .i64 r.h0, .int .i64 r.h1, .int .i64 r.days, .int .i64 r.s0, .int .i64 r.s1, .bool r.forbid, .slice Ac r.counts.length cc, .int .i64 r.cost] 58)).alloc (.cells #[.int .i64 t.z0, .int .i64 t.z1, .int .i64 t.z2, .int .i64 t.z3, .int .i64 t.z4, .int .i64 t.z5, .slice (some ⟨pb, poff, none⟩) np cp] 26)) = W at *
  have HDD := Lib.hid (And.intro D1 (And.intro D2 D6))
  have HDS := Lib.hid DS
  clear D1 D2 D6 DS
  go_loopw [7, 8] (fun nm i wr => ∃ k : Nat, k ≤ r.roads.length ∧ i = .int .i64 k ∧ nm = .bool (d0 || (r.roads.take k).any fun s => decide (road = s)) ∧ Ext W wr) (fun _ i _ => r.roads.length - (intOf i).toNat)
  case atStart => exact ⟨0, by omega, rfl, by simp, Ext.refl _⟩
  case round =>
    obtain ⟨k, hk, rfl, hnm, hb⟩ := hrel
    obtain ⟨g1, g2, g3⟩ := HDD.out
    replace g1 := Ext.cell hb g1
    replace g2 := Ext.cell hb g2
    replace g3 := Ext.cell hb g3
    by_cases hlt : k < r.roads.length
    · obtain ⟨x, hx⟩ := some_of_lt hlt
      obtain ⟨b, off, cs, rfl, hn, hr, hc⟩ := (HR.out.ext RStr.stable (E1.trans hb)).at hx
      obtain rfl : cs = [.string x] := hr
      have k0 := hc 0 _ rfl
      simp only [Nat.add_zero, Nat.mul_one] at k0
      have pc1' := Ext.cell (E1.trans hb) pc1
      have HX := Lib.hid (any_some (p := fun s => decide (road = s)) hx)
      have i1 : (0 : Int) ≤ (k : Int) := by omega
      have i2 : (k : Int) < (r.roads.length : Int) := by omega
      clear hc hn hx
      obtain ⟨n, hn⟩ : ∃ n, (d0 || (r.roads.take k).any fun s => decide (road = s)) = n := ⟨_, rfl⟩
      rw [hn] at hnm
      have HN := Lib.hid hn
      subst hnm
      clear hn
      cases n
      · by_cases he : x = road
        · subst he
          go_wp2_with fail
          go_quiet (fail)
          go_wp2_with fail
          go_roundw
          case rel => exact ⟨k + 1, by omega, by go_num, by rw [HX.out, ← Bool.or_assoc, HN.out]; simp, by (repeat' (first | exact Ext.refl _ | assumption | refine Ext.alloc ?_ _ | refine Ext.drew ?_ | refine Ext.drewN ?_ _ | refine Ext.set ?_ (by first | exact Nat.le_refl _ | exact le1 _ | exact le2 _ | exact le3 _ | exact le4 _ | exact le5 _ | exact le6 _) _ | refine Ext.trans ?_ (by assumption)))⟩
          case measure => simp [intOf]; omega
        · have hbe := beq_toList he
          have HNE := Lib.hid he
          clear he
          go_wp2_with fail
          go_quiet (fail)
          go_wp2_with fail
          go_roundw
          case rel => exact ⟨k + 1, by omega, by go_num, by rw [HX.out, ← Bool.or_assoc, HN.out]; have := HNE.out; simp; exact fun e => this e.symm, by (repeat' (first | exact Ext.refl _ | assumption | refine Ext.alloc ?_ _ | refine Ext.drew ?_ | refine Ext.drewN ?_ _ | refine Ext.set ?_ (by first | exact Nat.le_refl _ | exact le1 _ | exact le2 _ | exact le3 _ | exact le4 _ | exact le5 _ | exact le6 _) _ | refine Ext.trans ?_ (by assumption)))⟩
          case measure => simp [intOf]; omega
      · go_wp2_with fail
        go_quiet (fail)
        go_wp2_with fail
        go_roundw
        case rel => exact ⟨k + 1, by omega, by go_num, by rw [HX.out, ← Bool.or_assoc, HN.out]; simp, by (repeat' (first | exact Ext.refl _ | assumption | refine Ext.alloc ?_ _ | refine Ext.drew ?_ | refine Ext.drewN ?_ _ | refine Ext.set ?_ (by first | exact Nat.le_refl _ | exact le1 _ | exact le2 _ | exact le3 _ | exact le4 _ | exact le5 _ | exact le6 _) _ | refine Ext.trans ?_ (by assumption)))⟩
        case measure => simp [intOf]; omega
    · rw [List.take_of_length_le (show r.roads.length ≤ k by omega)] at hnm
      obtain ⟨n, hn⟩ : ∃ n, (d0 || r.roads.any fun s => decide (road = s)) = n := ⟨_, rfl⟩
      rw [hn] at hnm
      subst hnm
      have hF := HF.out
      rw [HD.out, hn] at hF
      have HF2 := Lib.hid hF
      clear hF hn HF
      obtain ⟨wo, rfl⟩ : ∃ wo : World, wo = wr := ⟨_, rfl⟩
      go_wp2_with fail
      go_loopw [9] (fun i wr => ∃ k : Nat, k ≤ r.whens.length ∧ i = .int .i64 k ∧ (r.whens.take k).any (underB t) = false ∧ Ext W wr) (fun i _ => r.whens.length - (intOf i).toNat)
      case atStart => exact ⟨0, by omega, rfl, by simp, hb⟩
      case round =>
        obtain ⟨k, hk, rfl, ha, hb⟩ := hrel
        have HA := Lib.hid ha
        obtain ⟨g1, g2, g3⟩ := HDD.out
        replace g1 := Ext.cell hb g1
        replace g2 := Ext.cell hb g2
        replace g3 := Ext.cell hb g3
        clear ha
        by_cases hlt : k < r.whens.length
        · obtain ⟨x, hx⟩ := some_of_lt hlt
          obtain ⟨b, off, cs, rfl, hn, hr, hc⟩ := (HW.out.ext RWhen.stable (E1.trans hb)).at hx
          obtain rfl : cs = [.int .i64 x.size, .int .i64 x.least] := hr
          have k0 := hc 0 _ rfl
          have k1 := hc 1 _ rfl
          simp only [Nat.add_zero] at k0
          have HX := Lib.hid hx
          have hxv := List.all_eq_true.1 HV.out x (mem_of_some hx)
          simp only [whenB, Bool.and_eq_true, decide_eq_true_eq] at hxv
          obtain ⟨m, hm⟩ : ∃ m : Nat, x.size = (m : Int) := ⟨x.size.toNat, by omega⟩
          have hsz := HDS.out.ext hb m (by omega)
          obtain ⟨u, hu⟩ : ∃ u, underB t x = u := ⟨_, rfl⟩
          have HU := Lib.hid hu
          unfold underB at hu
          rw [hm] at hu k0 hxv
          generalize zAt t m = z at *
          generalize x.least = xl at *
          have i1 : (0 : Int) ≤ (k : Int) := by omega
          have i2 : (k : Int) < (r.whens.length : Int) := by omega
          have i3 : (0 : Int) ≤ (m : Int) := by omega
          have i4 : (m : Int) < 6 := by omega
          clear hc hn hx hxv hm
          cases u
          · have hlt3 : ¬ z < xl := by simpa using hu
            clear hu
            go_wp2_with fail
            go_quiet (fail)
            go_wp2_with fail
            go_roundw
            case rel => exact ⟨k + 1, by omega, by go_num, any_take HX.out HA.out HU.out, by (repeat' (first | exact Ext.refl _ | assumption | refine Ext.alloc ?_ _ | refine Ext.drew ?_ | refine Ext.drewN ?_ _ | refine Ext.set ?_ (by first | exact Nat.le_refl _ | exact le1 _ | exact le2 _ | exact le3 _ | exact le4 _ | exact le5 _ | exact le6 _) _ | refine Ext.trans ?_ (by assumption)))⟩
            case measure => simp [intOf]; omega
          · have hlt3 : z < xl := by simpa using hu
            have hRR := HF2.out
            rw [any_yes HX.out HU.out] at hRR
            obtain rfl : R = false := by rw [← hRR]; simp
            clear hu hRR
            go_wp2_with fail
            go_quiet (fail)
            go_wp2_with fail
            go_ret
            exact ⟨rfl, by (repeat' (first | exact Ext.refl _ | assumption | refine Ext.alloc ?_ _ | refine Ext.drew ?_ | refine Ext.drewN ?_ _ | refine Ext.set ?_ (by first | exact Nat.le_refl _ | exact le1 _ | exact le2 _ | exact le3 _ | exact le4 _ | exact le5 _ | exact le6 _) _ | refine Ext.trans ?_ (by assumption)))⟩
        · have hRR := HF2.out
          rw [any_end HA.out (by omega)] at hRR
          obtain rfl : R = n := by rw [← hRR]; simp
          clear hRR
          go_wp2_with fail
          go_ret
          exact ⟨rfl, E1.trans hb⟩
end Go.Proofs.Ytaomlmkcifpfkaa
