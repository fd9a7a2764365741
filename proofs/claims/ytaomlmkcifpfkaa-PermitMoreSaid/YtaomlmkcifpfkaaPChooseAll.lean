/- PChooseAll: several texts in one. -/
import Derived.Test.YtaomlmkcifpfkaaPContraAll
import Derived.Deep.OwnRows
import Derived.Laws.OwnMore
import Derived.Test.YtaomlmkcifpfkaaPConflict
import Derived.Test.YtaomlmkcifpfkaaPRTimes
/- Contracts: chosen (the definition's), sameInts (the law's). -/
namespace Go.Proofs.Ytaomlmkcifpfkaa
open Go.RowKit

def RBool (_ : World) (cs : List Value) (b : Bool) : Prop := cs = [.bool b]
theorem RBool.stable : Stable RBool := fun _ _ _ _ _ h => h

set_option maxRecDepth 100000 in
set_option maxHeartbeats 3200000 in
theorem chosen_c (v vb : Value) (l : List PRule) (ks : List Bool) (w : World) (hs : Sl 11 RRule w v l) (hb : Sl 1 RBool w vb ks) (hk : ks.length = l.length) (hlen : l.length ≤ 1000) :
    Calls Try.prog 71 #[v, vb] w fun e w' => ∃ v', e = .returned v' ∧ Sl 11 RRule w' v' (chosenL l ks) ∧ Ext w w' := by
  obtain ⟨i1, hi1, hi10, hi11, hi12⟩ := info_parts infoRule
  obtain ⟨A, cap, rfl, hl, hl2⟩ := hs.shape
  obtain ⟨Ab, capb, rfl, hbl, hbl2⟩ := hb.shape
  have HS := Lib.hid hs
  have HB := Lib.hid hb
  clear hs hb
  go_enter Try.func71, Try.ntmps71
  go_wp2_with fail
  go_loopw [5, 6] (fun o i wr => ∃ (k : Nat) (vo : Value), k ≤ l.length ∧ i = .int .i64 k ∧ o = vo ∧ OwnL 11 58 (fun _ => RRule w) w.heap.size wr vo (chosenL (l.take k) (ks.take k)) ∧ Ext w wr) (fun _ i _ => l.length - (intOf i).toNat)
  case atStart => exact ⟨0, _, by omega, rfl, rfl, by simpa [chosenL] using OwnL.nil, Ext.refl _⟩
  case round =>
    obtain ⟨k, vo, hk2, rfl, rfl, hown, hE⟩ := hrel
    obtain ⟨Ao, co, rfl, _, _⟩ := hown.sl.shape
    have HO := Lib.hid hown
    clear hown
    by_cases hlt : k < l.length
    · obtain ⟨x, hx⟩ := some_of_lt hlt
      obtain ⟨q, hq⟩ := some_of_lt (l := ks) (k := k) (by omega)
      obtain ⟨b, off, cs, rfl, hn, ⟨vr, vw, vc, rfl, hr⟩, hc⟩ := HS.out.at hx
      obtain ⟨b2, off2, cs2, rfl, hn2, hcs2, hc2⟩ := HB.out.at hq
      obtain rfl : cs2 = [.bool q] := hcs2
      have y0 := hE.cell (hc2 0 _ rfl)
      simp only [Nat.add_zero, Nat.mul_one] at y0
      have HR := Lib.hid hr
      obtain ⟨hr1, hw1, hc1⟩ := hr
      obtain ⟨Ar, cr, rfl, lr, lr2⟩ := hr1.shape
      obtain ⟨Aw, cw, rfl, lw, lw2⟩ := hw1.shape
      obtain ⟨Ac, cc, rfl, lc, lc2⟩ := hc1.shape
      have HN := Lib.hid (chosenL_snoc l ks k x q hx hq)
      have hcl := chosenL_len (l.take k) (ks.take k)
      rw [List.length_take] at hcl
      have hcl2 : (chosenL (l.take k) (ks.take k)).length ≤ 1000 := by omega
      have i1k : (0 : Int) ≤ (k : Int) := by omega
      have i2k : (k : Int) < (l.length : Int) := by omega
      have i3k : (k : Int) < (ks.length : Int) := by omega
      have k0 := hE.cell (hc 0 _ rfl)
      have k1 := hE.cell (hc 1 _ rfl)
      have k2 := hE.cell (hc 2 _ rfl)
      have k3 := hE.cell (hc 3 _ rfl)
      have k4 := hE.cell (hc 4 _ rfl)
      have k5 := hE.cell (hc 5 _ rfl)
      have k6 := hE.cell (hc 6 _ rfl)
      have k7 := hE.cell (hc 7 _ rfl)
      have k8 := hE.cell (hc 8 _ rfl)
      have k9 := hE.cell (hc 9 _ rfl)
      have k10 := hE.cell (hc 10 _ rfl)
      simp only [Nat.add_zero] at k0
      clear hc hn hx hr1 hw1 hc1 hc2 hq hcl
      generalize chosenL (l.take k) (ks.take k) = D at *
      cases q
      · go_wp2_with fail
        go_roundw
        case rel => exact ⟨k + 1, _, by omega, by go_num, rfl, by rw [HN.out]; simpa using HO.out, hE⟩
        case measure => simp [intOf]; omega
      · obtain ⟨css, hcs, hown, hcx⟩ := HO.out
        have HCX := Lib.hid hcx
        have hz2 := hE.size
        clear hcx HO
        go_wp2_with (at_builtin; refine wpList_append_lies _ rfl _ _ 42 rfl (w.heap.size) 58 i1 _ 11 144 Try.underlying42 hi1 hi10 hi11 hi12 rfl (by omega) (.slice Ao D.length co) (D.length) (css).flatten rfl ((hown).alloc _) ⟨wr.heap.size, 0, none⟩ 1 1 [.string x.name, .slice Ar x.roads.length cr, .slice Aw x.whens.length cw, .int .i64 x.h0, .int .i64 x.h1, .int .i64 x.days, .int .i64 x.s0, .int .i64 x.s1, .bool x.forbid, .slice Ac x.counts.length cc, .int .i64 x.cost] rfl rfl (World.news_of_block (cs := #[.string x.name, .slice Ar x.roads.length cr, .slice Aw x.whens.length cw, .int .i64 x.h0, .int .i64 x.h1, .int .i64 x.days, .int .i64 x.s0, .int .i64 x.s1, .bool x.forbid, .slice Ac x.counts.length cc, .int .i64 x.cost]) (t := 58) (fr := (0, 0)) (heap_alloc_new wr _)) (by simp [Value.oneCell']) (by omega) (by unfold maxLen; omega) (by omega) (by simp; omega) (wr.heap.size + 1) (by simp) ?_; intro g cap4 w9 hown4 hgrow4 hat4 hlt4)
        have E4 : Ext w w9 := Ext.grown (hE.alloc _) hgrow4 (fun j hj => own_ge hown j hj)
        have hO4 := OwnL.snoc (R := fun _ => RRule w) (w' := w9) (x := x) hcs HCX.out hown4 rfl ⟨_, _, _, rfl, HR.out⟩
        have HO4 := Lib.hid hO4
        clear hO4 hown hown4 hgrow4 hat4 hlt4 hcs HCX
        go_roundw
        case rel => exact ⟨k + 1, by omega, by go_num, by rw [HN.out]; exact HO4.out, E4⟩
        case measure => simp [intOf]; omega
    · obtain rfl : k = l.length := by omega
      have e1 : chosenL (l.take l.length) (ks.take l.length) = chosenL l ks := by rw [List.take_length, List.take_of_length_le (by omega)]
      rw [e1] at HO ⊢
      have HO2 := HO
      clear HO
      go_wp2_with fail
      go_ret
      exact ⟨.slice Ao (chosenL l ks).length co, rfl, (HO2.out.to (fun cs x h => RRule.stable _ _ _ _ hE h)).sl, hE⟩

set_option maxRecDepth 100000 in
set_option maxHeartbeats 1600000 in
theorem sameInts_c (va vb : Value) (cl : List Int) (w : World) (ha : Sl 1 RInt w va cl) (hb : Sl 1 RInt w vb cl) :
    Calls Try.prog 34 #[va, vb] w fun e w' => e = .returned (.bool true) ∧ Ext w w' := by
  obtain ⟨A, cap, rfl, hl, hcap⟩ := ha.shape
  obtain ⟨B, capb, rfl, _, hcapb⟩ := hb.shape
  have HA := Lib.hid ha
  have HB := Lib.hid hb
  clear ha hb
  go_enter Try.func34, Try.ntmps34
  go_wp2_with fail
  go_loopw [5] (fun i wr => ∃ k : Nat, k ≤ cl.length ∧ i = .int .i64 k ∧ Ext w wr) (fun i _ => cl.length - (intOf i).toNat)
  case atStart => exact ⟨0, by omega, rfl, Ext.refl _⟩
  case round =>
    obtain ⟨k, hk, rfl, hE⟩ := hrel
    by_cases hlt : k < cl.length
    · obtain ⟨x, hx⟩ := some_of_lt hlt
      obtain ⟨b1, o1, cs1, rfl, _, hr1, hc1⟩ := (HA.out.ext RInt.stable hE).at hx
      obtain ⟨b2, o2, cs2, rfl, _, hr2, hc2⟩ := (HB.out.ext RInt.stable hE).at hx
      obtain rfl : cs1 = [.int .i64 x] := hr1
      obtain rfl : cs2 = [.int .i64 x] := hr2
      have k0 := hc1 0 _ rfl
      have m0 := hc2 0 _ rfl
      simp only [Nat.add_zero, Nat.mul_one] at k0 m0
      have i1 : (0 : Int) ≤ (k : Int) := by omega
      have i2 : (k : Int) < (cl.length : Int) := by omega
      clear hc1 hc2 hx
      go_wp2_with fail
      go_region
      go_wp2_with fail
      go_roundw
      case rel => exact ⟨k + 1, by omega, by go_num, by (repeat' (first | exact Ext.refl _ | assumption | refine Ext.alloc ?_ _ | refine Ext.drew ?_ | refine Ext.drewN ?_ _ | refine Ext.set ?_ (by first | exact Nat.le_refl _ | exact le1 _ | exact le2 _ | exact le3 _ | exact le4 _ | exact le5 _ | exact le6 _) _ | refine Ext.trans ?_ (by assumption)))⟩
      case measure => simp [intOf]; omega
    · go_wp2_with fail
      go_ret
      exact ⟨rfl, hE⟩
end Go.Proofs.Ytaomlmkcifpfkaa
/- A list of marks in a block of its own. -/
namespace Go.Proofs.Ytaomlmkcifpfkaa
open Go.RowKit

/-- a block that holds marks -/
def Marks (W : World) (MB : Nat) (ks : List Bool) : Prop := W.heap[MB]? = some (.cells ((ks.map Value.bool).toArray) 4 (0, 0))
theorem made_bools (n : Nat) : madeCells #[.bool false] n = (((List.replicate n false).map Value.bool).toArray) := by
  apply Array.ext'
  rw [toList_madeCells_one]
  simp
theorem Marks.new (W : World) (n : Nat) : Marks (W.alloc (.cells (madeCells #[.bool false] n) 4)) W.heap.size (List.replicate n false) := by
  unfold Marks
  rw [made_bools]
  exact heap_alloc_new W _
theorem Marks.cell {W : World} {MB : Nat} {ks : List Bool} (h : Marks W MB ks) {i : Nat} {b : Bool} (hi : ks[i]? = some b) : W.cell? ⟨MB, i, none⟩ = some (.bool b) := by
  simp [World.cell?, show W.heap[MB]? = _ from h, hi]
theorem Marks.frozen {W : World} {MB : Nat} {ks : List Bool} (h : Marks W MB ks) (i : Nat) : W.frozen? ⟨MB, i, none⟩ = false := by
  simp [World.frozen?, show W.heap[MB]? = _ from h]
theorem Marks.set {W : World} {MB : Nat} {ks : List Bool} (h : Marks W MB ks) (i : Nat) (b : Bool) : Marks (W.setCell ⟨MB, i, none⟩ (.bool b)) MB (ks.set i b) := by
  obtain ⟨hlt, hk⟩ := Array.getElem?_eq_some_iff.1 h
  show (W.heap.modify MB _)[MB]? = _
  rw [Array.getElem?_eq_getElem (by rw [Array.size_modify]; exact hlt), Array.getElem_modify_self, hk]
  simp [List.map_set]
theorem Marks.ext {W W' : World} {MB : Nat} {ks : List Bool} (h : Marks W MB ks) (he : Ext W W') : Marks W' MB ks := (he.block MB (Array.getElem?_eq_some_iff.1 h).1).trans h
theorem Marks.lt {W : World} {MB : Nat} {ks : List Bool} (h : Marks W MB ks) : MB < W.heap.size := (Array.getElem?_eq_some_iff.1 h).1
theorem Marks.sl {W : World} {MB : Nat} {ks : List Bool} (h : Marks W MB ks) (hl : ks.length ≤ 9223372036854775807) : Sl 1 RBool W (.slice (some ⟨MB, 0, none⟩) ks.length ks.length) ks := by
  refine ⟨some ⟨MB, 0, none⟩, ks.length, rfl, hl, Nat.le_refl _, fun i b hi => ⟨MB, 0, [.bool b], rfl, rfl, rfl, fun j c hj => ?_⟩⟩
  obtain ⟨rfl, rfl⟩ : j = 0 ∧ c = .bool b := by
    cases j with
    | zero => exact ⟨rfl, by simpa using hj.symm⟩
    | succ j => simp at hj
  simpa using h.cell hi
end Go.Proofs.Ytaomlmkcifpfkaa
/- Contract: Conflict, the definition. -/
namespace Go.Proofs.Ytaomlmkcifpfkaa
open Go.RowKit

theorem take_true {ks : List Bool} {n : Nat} (h : ks.length = n) (h2 : ∀ q, q < n → ks[q]? = some true) : ks = List.replicate n true := by
  subst h
  apply List.ext_getElem?
  intro q
  by_cases hq : q < ks.length
  · rw [h2 q hq]; simp [hq]
  · simp at hq; simp [hq]
theorem set_back {ks : List Bool} {i : Nat} {b : Bool} (h : ks[i]? = some b) (c : Bool) : (ks.set i c).set i b = ks := by
  obtain ⟨hl, rfl⟩ := List.getElem?_eq_some_iff.1 h
  rw [List.set_set]
  exact List.set_getElem_self hl
theorem set_below {ks : List Bool} {i : Nat} {c : Bool} (h : ∀ q, q < i + 1 → ks[q]? = some true) : ∀ q, q < i → (ks.set i c)[q]? = some true := by
  intro q hq
  rw [List.getElem?_set_ne (by omega)]
  exact h q (by omega)

set_option maxRecDepth 100000 in
set_option maxHeartbeats 4000000 in
theorem RConflict_c (v vp : Value) (l : List PAuth) (t : PTrip) (k : Int) (w : World) (hs : Sl 4 RAuth w v l) (hp : Sl 3 RPass w vp t.passages) :
    Calls Try.prog 31 #[v, tripV t vp, .int .i64 k] w (ConflictR l t k w) := by
  have C1 := fun w' (h : Ext w w') => some_c v vp l t k w' (hs.ext RAuth.stable h) (hp.ext RPass.stable h)
  have C2 := fun w' (h : Ext w w') h0 => ofAt_c v vp l t k w' (hs.ext RAuth.stable h) (hp.ext RPass.stable h) h0
  obtain ⟨A, cap, rfl, hl, hcap⟩ := hs.shape
  obtain ⟨Ap, capp, rfl, hpl, hpcap⟩ := hp.shape
  unfold tripV at *
  replace C1 := Lib.hid C1
  replace C2 := Lib.hid C2
  clear hs hp
  obtain ⟨Post, hPost⟩ : ∃ Post, ConflictR l t k w = Post := ⟨_, rfl⟩
  rw [hPost]
  replace hPost := Lib.hid hPost
  have T0 := TripAt.new t (.slice Ap t.passages.length capp) w
  have HT0 := Lib.hid T0
  clear T0
  by_cases hne : someE l t k = 0
  · have hPO := passOk hne
    rw [hne] at C1
    have C2' := Lib.hid (fun w' h => C2.out w' h hne)
    have hr := hPO.rules
    have hlen := hPO.len
    have hnum := hPO.nums
    have hcl := counts_ok hr
    have hnone := fun h => conflictS_none (k := k) hne h
    have hsome := fun h => conflictS_some (k := k) hne h
    generalize rsAt l t k = rs at *
    generalize numsAt l t k = ns at *
    have htl := thingsL_len rs hcl
    have K1 := fun v' w' (h : Sl 11 RRule w' v' rs) => RKind_c v' rs w' h (by omega) hcl
    have K2 := fun v' w' (h : Sl 11 RRule w' v' rs) => RThings_c v' rs w' h (by omega) hcl
    replace K1 := Lib.hid K1
    replace K2 := Lib.hid K2
    clear C2 hPO hne hr
    by_cases hz : kindN rs = 0
    · have HA := Lib.hid (hnone hz)
      rw [hz] at K1
      clear hnone hsome hz
      go_enter Try.func31, Try.ntmps31
      go_upto_region 3 with (go_at_call 70; refine (C1.out _ (by (repeat' (first | exact Ext.refl _ | assumption | refine Ext.alloc ?_ _ | refine Ext.drew ?_ | refine Ext.drewN ?_ _ | refine Ext.set ?_ (by first | exact Nat.le_refl _ | exact le1 _ | exact le2 _ | exact le3 _ | exact le4 _ | exact le5 _ | exact le6 _) _ | refine Ext.trans ?_ (by assumption))))).mono ?_; rintro e w1 ⟨rfl, hb1⟩)
      have E1 : Ext w w1 := by (repeat' (first | exact Ext.refl _ | assumption | refine Ext.alloc ?_ _ | refine Ext.drew ?_ | refine Ext.drewN ?_ _ | refine Ext.set ?_ (by first | exact Nat.le_refl _ | exact le1 _ | exact le2 _ | exact le3 _ | exact le4 _ | exact le5 _ | exact le6 _) _ | refine Ext.trans ?_ (by assumption)))
      have T1 := HT0.out.ext hb1
      obtain ⟨t0, t1, t2, t3, t4, t5, t6⟩ := T1
      go_wp2_with (first | (go_at_call 23; refine (C2'.out _ E1).mono ?_; rintro e w3 ⟨⟨vn, vr, rfl, hn, hr⟩, hb3⟩; obtain ⟨An, capn, rfl, _, _⟩ := hn.shape; obtain ⟨Ar, capr, rfl, _, _⟩ := hr.shape) | (go_at_call 35; refine (K1.out _ _ hr).mono ?_; rintro e w4 ⟨rfl, hb4⟩))
      refine bodyPost_ret (v := .tuple #[.int .i64 0, .slice none 0 0, .int .i64 0]) (by simp [results, Try.results31, go_sem]) rfl ?_
      rw [← hPost.out]
      exact ⟨by (repeat' (first | exact Ext.refl _ | assumption | refine Ext.alloc ?_ _ | refine Ext.drew ?_ | refine Ext.drewN ?_ _ | refine Ext.set ?_ (by first | exact Nat.le_refl _ | exact le1 _ | exact le2 _ | exact le3 _ | exact le4 _ | exact le5 _ | exact le6 _) _ | refine Ext.trans ?_ (by assumption))), _, by rw [HA.out], by rw [HA.out]; exact sl_nil⟩
    · have HA := Lib.hid (hsome hz)
      have hzn : ¬ ((kindN rs : Nat) : Int) = 0 := by omega
      have hkl := kindN_lt rs
      have D1 := fun v' vt l' w' (h : Sl 11 RRule w' v' l') (h2 : Sl 1 RStr w' vt (thingsL rs)) => contra_c v' vt l' (thingsL rs) (kindN rs) w' h h2 (by omega) (by omega) hkl
      have hdrop := drop_all (fun r => ofB r (thingsL rs) (kindN rs)) rs ns hnum
      have hcn : confN rs ns = chosenL ns (keepR (fun r => ofB r (thingsL rs) (kindN rs)) rs rs.length (List.replicate rs.length true)) := by unfold confN; rw [hdrop]
      rw [hcn] at HA
      clear hdrop hcn hnone hsome hkl
      obtain ⟨f, hf⟩ : ∃ f, (fun r => ofB r (thingsL rs) (kindN rs)) = f := ⟨_, rfl⟩
      have hf2 : ∀ r, ofB r (thingsL rs) (kindN rs) = f r := fun r => congrFun hf r
      rw [hf] at HA
      simp only [hf2] at D1
      obtain ⟨KR, hKR⟩ : ∃ KR, keepR f rs rs.length (List.replicate rs.length true) = KR := ⟨_, rfl⟩
      have hKl : KR.length = rs.length := by rw [← hKR, keepR_len]; simp
      rw [hKR] at HA
      have HKR := Lib.hid hKR
      have D2 := fun vr vb ks w' (h : Sl 11 RRule w' vr rs) (h2 : Sl 1 RBool w' vb ks) (h3 : ks.length = rs.length) => chosen_c vr vb rs ks w' h h2 h3 (by omega)
      have hmk := run_make_row' (P := Try.prog) 125 4 (.bool false) 1 Try.underlying125 infoBool rfl .i64 .i64 rs.length (by omega) (by omega)
      obtain ⟨i1, hi1, hi10, hi11, hi12⟩ := info_parts infoInt
      generalize thingsL rs = ts at *
      generalize kindN rs = K at *
      replace D1 := Lib.hid D1
      replace D2 := Lib.hid D2
      clear hf hf2 hKR hz hcl
      go_enter Try.func31, Try.ntmps31
      go_upto_region 3 with (go_at_call 70; refine (C1.out _ (by (repeat' (first | exact Ext.refl _ | assumption | refine Ext.alloc ?_ _ | refine Ext.drew ?_ | refine Ext.drewN ?_ _ | refine Ext.set ?_ (by first | exact Nat.le_refl _ | exact le1 _ | exact le2 _ | exact le3 _ | exact le4 _ | exact le5 _ | exact le6 _) _ | refine Ext.trans ?_ (by assumption))))).mono ?_; rintro e w1 ⟨rfl, hb1⟩)
      have E1 : Ext w w1 := by (repeat' (first | exact Ext.refl _ | assumption | refine Ext.alloc ?_ _ | refine Ext.drew ?_ | refine Ext.drewN ?_ _ | refine Ext.set ?_ (by first | exact Nat.le_refl _ | exact le1 _ | exact le2 _ | exact le3 _ | exact le4 _ | exact le5 _ | exact le6 _) _ | refine Ext.trans ?_ (by assumption)))
      have T1 := HT0.out.ext hb1
      obtain ⟨t0, t1, t2, t3, t4, t5, t6⟩ := T1
      go_upto_region 8 with (first | (go_at_call 23; refine (C2'.out _ E1).mono ?_; rintro e w3 ⟨⟨vn, vr, rfl, hn, hr⟩, hb3⟩; obtain ⟨An, capn, rfl, _, _⟩ := hn.shape; obtain ⟨Ar, capr, rfl, _, _⟩ := hr.shape) | (go_at_call 35; refine (K1.out _ _ hr).mono ?_; rintro e w4 ⟨rfl, hb4⟩) | (go_at_call 26; refine (K2.out _ _ (hr.ext RRule.stable hb4)).mono ?_; rintro e w5 ⟨vt, rfl, hth, hb5⟩; obtain ⟨At, capt, rfl, _, _⟩ := hth.sl.shape))
      have E5 : Ext w w5 := by (repeat' (first | exact Ext.refl _ | assumption | refine Ext.alloc ?_ _ | refine Ext.drew ?_ | refine Ext.drewN ?_ _ | refine Ext.set ?_ (by first | exact Nat.le_refl _ | exact le1 _ | exact le2 _ | exact le3 _ | exact le4 _ | exact le5 _ | exact le6 _) _ | refine Ext.trans ?_ (by assumption)))
      have HR := Lib.hid (hr.ext RRule.stable (hb4.trans hb5))
      have HN := Lib.hid (hn.ext RInt.stable (hb4.trans hb5))
      have HT := Lib.hid hth.sl
      clear t0 t1 t2 t3 t4 t5 t6 hr hn hth hb4 hb5 hb3 hb1 E1
      go_wp2_with fail
      have M0 := Marks.new w5 rs.length
      have E6 : Ext w5 (w5.alloc (.cells (madeCells #[.bool false] rs.length) 4)) := (Ext.refl w5).alloc _
      generalize w5.alloc (.cells (madeCells #[.bool false] rs.length) 4) = W6 at *
      go_loopw [14] (fun i wr => ∃ (j : Nat) (ks : List Bool), j ≤ rs.length ∧ i = .int .i64 j ∧ ks.length = rs.length ∧ (∀ q, q < j → ks[q]? = some true) ∧ Marks wr w5.heap.size ks ∧ Ext w5 wr) (fun i _ => rs.length - (intOf i).toNat)
      case atStart => exact ⟨0, _, by omega, rfl, by simp, fun q h => by omega, M0, E6⟩
      case round =>
        obtain ⟨j, ks, hj, rfl, hkl, hks, hM, hE⟩ := hrel
        have HM := Lib.hid (And.intro hks (And.intro hM hE))
        have HKL := Lib.hid hkl
        by_cases hlt : j < rs.length
        · obtain ⟨b, hb⟩ := some_of_lt (l := ks) (k := j) (by omega)
          have y0 := hM.cell hb
          have y1 := hM.frozen j
          clear hks hM hb hkl
          go_wp2_with fail
          go_roundw
          case rel => exact ⟨j + 1, ks.set j true, by omega, by go_num, by rw [List.length_set]; exact HKL.out, fun q hq => by
            by_cases h : q = j
            · subst h; rw [List.getElem?_set_self (by rw [HKL.out]; exact hlt)]
            · rw [List.getElem?_set_ne (Ne.symm h)]; exact HM.out.1 q (by omega), HM.out.2.1.set j true, HM.out.2.2.set (Nat.le_refl _) _⟩
          case measure => simp [intOf]; omega
        · obtain rfl : j = rs.length := by omega
          obtain rfl : ks = List.replicate rs.length true := take_true hkl hks
          clear hks hM hkl HKL
          go_wp2_with fail
          go_loopw [15] (fun i wr => ∃ (j : Nat) (ks : List Bool), j ≤ rs.length ∧ i = .int .i64 ((j : Int) - 1) ∧ ks.length = rs.length ∧ (∀ q, q < j → ks[q]? = some true) ∧ keepR f rs j ks = KR ∧ Marks wr w5.heap.size ks ∧ Ext w5 wr) (fun i _ => (intOf i + 1).toNat)
          case atStart => exact ⟨rs.length, _, Nat.le_refl _, rfl, by simp, fun q h => by simp [h], HKR.out, HM.out.2.1, HM.out.2.2⟩
          case round =>
            clear HM hE
            obtain ⟨j, ks, hj, rfl, hkl, hks, hkr, hM, hE⟩ := hrel
            by_cases h0 : j = 0
            · subst h0
              obtain rfl : ks = KR := hkr
              have HMK := Lib.hid hM
              obtain ⟨wx, hwx⟩ : ∃ wx, wx = wr := ⟨_, rfl⟩
              subst hwx
              have e0 : ((0 : Nat) : Int) - 1 = -1 := by omega
              rw [e0]
              clear hks hM
              go_wp2_with fail
              go_loopw [16, 17] (fun o i wt => ∃ (j : Nat) (vo : Value), j ≤ rs.length ∧ i = .int .i64 j ∧ o = vo ∧ OwnL 1 3 RInt wx.heap.size wt vo (chosenL (ns.take j) (ks.take j)) ∧ Ext wx wt) (fun _ i _ => rs.length - (intOf i).toNat)
              case atStart => exact ⟨0, _, by omega, rfl, rfl, by simpa [chosenL] using OwnL.nil, Ext.refl _⟩
              case round =>
                obtain ⟨j, vo, hj, rfl, rfl, hown, hE3⟩ := hrel
                obtain ⟨Ao, co, rfl, _, _⟩ := hown.sl.shape
                have HO := Lib.hid hown
                clear hown
                by_cases hlt : j < rs.length
                · obtain ⟨n, hn⟩ := some_of_lt (l := ns) (k := j) (by omega)
                  obtain ⟨q, hq⟩ := some_of_lt (l := ks) (k := j) (by omega)
                  obtain ⟨b3, off3, cs3, rfl, _, hcs3, hc3⟩ := (HN.out.ext RInt.stable (hE.trans hE3)).at hn
                  obtain rfl : cs3 = [.int .i64 n] := hcs3
                  have y0 := hE3.cell (HMK.out.cell hq)
                  have y1 := hc3 0 _ rfl
                  simp only [Nat.add_zero, Nat.mul_one] at y1
                  have HNX := Lib.hid (chosenL_snoc ns ks j n q hn hq)
                  have hcl := chosenL_len (ns.take j) (ks.take j)
                  rw [List.length_take] at hcl
                  have hcl2 : (chosenL (ns.take j) (ks.take j)).length ≤ 24 := by omega
                  have i1k : (0 : Int) ≤ (j : Int) := by omega
                  have i2k : (j : Int) < (rs.length : Int) := by omega
                  clear hc3 hn hq hcl
                  generalize chosenL (ns.take j) (ks.take j) = D at *
                  cases q
                  · go_wp2_with fail
                    go_roundw
                    case rel => exact ⟨j + 1, _, by omega, by go_num, rfl, by rw [HNX.out]; simpa using HO.out, hE3⟩
                    case measure => simp [intOf]; omega
                  · obtain ⟨css, hcs, hown, hcx⟩ := HO.out
                    have HCX := Lib.hid hcx
                    have hz2 := hE3.size
                    clear hcx HO
                    go_wp2_with (at_builtin; refine wpList_append_lies _ rfl _ _ 41 rfl (wx.heap.size) 3 i1 _ 1 8 Try.underlying41 hi1 hi10 hi11 hi12 rfl (by omega) (.slice Ao D.length co) (D.length) (css).flatten rfl ((hown).alloc _) ⟨wr.heap.size, 0, none⟩ 1 1 [.int .i64 n] rfl rfl (World.news_of_block (cs := #[.int .i64 n]) (t := 3) (fr := (0, 0)) (heap_alloc_new wr _)) (by simp [Value.oneCell']) (by omega) (by unfold maxLen; omega) (by omega) (by simp; omega) (wr.heap.size + 1) (by simp) ?_; intro g cap4 w9 hown4 hgrow4 hat4 hlt4)
                    have E9 : Ext wx w9 := Ext.grown (hE3.alloc _) hgrow4 (fun j hj => own_ge hown j hj)
                    have HO4 := Lib.hid (OwnL.snoc (R := RInt) (w' := w9) (x := n) hcs HCX.out hown4 rfl rfl)
                    clear hown hown4 hgrow4 hat4 hlt4 hcs HCX
                    go_roundw
                    case rel => first | exact ⟨j + 1, _, by omega, by go_num, rfl, by rw [HNX.out]; exact HO4.out, E9⟩ | exact ⟨j + 1, by omega, by go_num, by rw [HNX.out]; exact HO4.out, E9⟩
                    case measure => simp [intOf]; omega
                · obtain rfl : j = rs.length := by omega
                  have e1 : chosenL (ns.take rs.length) (ks.take rs.length) = chosenL ns ks := by rw [List.take_of_length_le (by omega), List.take_of_length_le (by omega)]
                  rw [e1] at HO ⊢
                  go_wp2_with fail
                  refine bodyPost_ret (v := .tuple #[.int .i64 K, .slice Ao (chosenL ns ks).length co, .int .i64 0]) (by simp [results, Try.results31, go_sem]) rfl ?_
                  rw [← hPost.out]
                  exact ⟨E5.trans (hE.trans hE3), _, by rw [HA.out], by rw [HA.out]; exact HO.out.sl⟩
            · obtain ⟨i, rfl⟩ : ∃ i, j = i + 1 := ⟨j - 1, by omega⟩
              have hi : (((i + 1 : Nat) : Int) - 1) = (i : Int) := by omega
              rw [hi]
              obtain hb := hks i (by omega)
              have y0 := hM.cell hb
              have y1 := hM.frozen i
              have hlt : (i : Int) < (rs.length : Int) := by omega
              have i0 : (0 : Int) ≤ (i : Int) := by omega
              have hilt : i < ks.length := by omega
              have hself : (ks.set i false)[i]? = some false := List.getElem?_set_self hilt
              have hsl : (ks.set i false).length = rs.length := by rw [List.length_set]; exact hkl
              simp only [keepR] at hkr
              have D3 := fun v' vt w' h h2 => D1.out v' vt (chosenL rs (ks.set i false)) w' h h2
              generalize f (chosenL rs (ks.set i false)) = z at *
              replace D3 := Lib.hid D3
              have HKS := Lib.hid (And.intro hks (And.intro hkr (And.intro hb hself)))
              have M2 := hM.set i false
              have E2 : Ext w5 (wr.setCell ⟨w5.heap.size, i, none⟩ (.bool false)) := hE.set (Nat.le_refl _) _
              have S2 : Sl 1 RBool (wr.setCell ⟨w5.heap.size, i, none⟩ (.bool false)) (.slice (some ⟨w5.heap.size, 0, none⟩) rs.length rs.length) (ks.set i false) := by
                have h := M2.sl (by omega)
                rwa [hsl] at h
              have HM2 := Lib.hid (And.intro M2 (And.intro E2 (And.intro S2 (And.intro hsl hkl))))
              clear hks hM hkr hb hself M2 E2 S2 hsl hkl hilt hE
              go_upto_region 17 with fail
              generalize wr.setCell ⟨w5.heap.size, i, none⟩ (.bool false) = W2 at *
              clear y0 y1
              cases z
              · go_wp2_with (first
                  | (go_at_call 71; refine (D2.out _ _ (ks.set i false) _ (HR.out.ext RRule.stable HM2.out.2.1) HM2.out.2.2.1 HM2.out.2.2.2.1).mono ?_; rintro e w7 ⟨vl, rfl, hl7, hb7⟩; obtain ⟨Al, capl, rfl, _, _⟩ := hl7.shape)
                  | (go_at_call 28; refine (D3.out _ _ _ hl7 (HT.out.ext RStr.stable (HM2.out.2.1.trans hb7))).mono ?_; rintro e w8 ⟨rfl, hb8⟩; have y2 := (HM2.out.1.ext (hb7.trans hb8)).cell HKS.out.2.2.2; have y3 := (HM2.out.1.ext (hb7.trans hb8)).frozen i))
                go_roundw
                case rel => exact ⟨i, ks, by omega, rfl, HM2.out.2.2.2.2, fun q hq => HKS.out.1 q (by omega), HKS.out.2.1, by have h := (HM2.out.1.ext (hb7.trans hb8)).set i true; rwa [set_back HKS.out.2.2.1] at h, (HM2.out.2.1.trans (hb7.trans hb8)).set (Nat.le_refl _) _⟩
                case measure => simp [intOf]; try omega
              · go_wp2_with (first
                  | (go_at_call 71; refine (D2.out _ _ (ks.set i false) _ (HR.out.ext RRule.stable HM2.out.2.1) HM2.out.2.2.1 HM2.out.2.2.2.1).mono ?_; rintro e w7 ⟨vl, rfl, hl7, hb7⟩; obtain ⟨Al, capl, rfl, _, _⟩ := hl7.shape)
                  | (go_at_call 28; refine (D3.out _ _ _ hl7 (HT.out.ext RStr.stable (HM2.out.2.1.trans hb7))).mono ?_; rintro e w8 ⟨rfl, hb8⟩))
                go_roundw
                case rel => exact ⟨i, ks.set i false, by omega, rfl, HM2.out.2.2.2.1, set_below HKS.out.1, HKS.out.2.1, HM2.out.1.ext (hb7.trans hb8), HM2.out.2.1.trans (hb7.trans hb8)⟩
                case measure => simp [intOf]; try omega
  · have HA := Lib.hid (conflictS_bad hne)
    have hne' : (someE l t k != 0) = true := by simp [hne]
    clear C2
    generalize someE l t k = E at *
    go_enter Try.func31, Try.ntmps31
    go_upto_region 2 with (go_at_call 70; refine (C1.out _ (by (repeat' (first | exact Ext.refl _ | assumption | refine Ext.alloc ?_ _ | refine Ext.drew ?_ | refine Ext.drewN ?_ _ | refine Ext.set ?_ (by first | exact Nat.le_refl _ | exact le1 _ | exact le2 _ | exact le3 _ | exact le4 _ | exact le5 _ | exact le6 _) _ | refine Ext.trans ?_ (by assumption))))).mono ?_; rintro e w1 ⟨rfl, hb1⟩)
    have E1 : Ext w w1 := by (repeat' (first | exact Ext.refl _ | assumption | refine Ext.alloc ?_ _ | refine Ext.drew ?_ | refine Ext.drewN ?_ _ | refine Ext.set ?_ (by first | exact Nat.le_refl _ | exact le1 _ | exact le2 _ | exact le3 _ | exact le4 _ | exact le5 _ | exact le6 _) _ | refine Ext.trans ?_ (by assumption)))
    have T1 := HT0.out.ext hb1
    obtain ⟨t0, t1, t2, t3, t4, t5, t6⟩ := T1
    go_wp2_with (go_at_call 70; refine (C1.out _ E1).mono ?_; rintro e w2 ⟨rfl, hb2⟩)
    refine bodyPost_ret (v := .tuple #[.int .i64 0, .slice none 0 0, .int .i64 E]) (by simp [results, Try.results31, go_sem]) rfl ?_
    rw [← hPost.out]
    exact ⟨by (repeat' (first | exact Ext.refl _ | assumption | refine Ext.alloc ?_ _ | refine Ext.drew ?_ | refine Ext.drewN ?_ _ | refine Ext.set ?_ (by first | exact Nat.le_refl _ | exact le1 _ | exact le2 _ | exact le3 _ | exact le4 _ | exact le5 _ | exact le6 _) _ | refine Ext.trans ?_ (by assumption))), _, by rw [HA.out], by rw [HA.out]; exact sl_nil⟩
end Go.Proofs.Ytaomlmkcifpfkaa
