/- Contract: Cures of the program. -/
import Derived.Test.YtaomlmkcifpfkaaPChooseAll
namespace Go.Proofs.Ytaomlmkcifpfkaa
open Go.RowKit Go.Shelf

/-- which conditions cure -/
def curesK (rs : List PRule) : List Bool := (List.range rs.length).map fun i => decide (kindN (rs.eraseIdx i) = 0)
def curesS (l : List PAuth) (t : PTrip) (k : Int) : List Int × Int := if someE l t k = 0 then (if kindN (rsAt l t k) = 0 then ([], 5) else (chosenL (numsAt l t k) (curesK (rsAt l t k)), 0)) else ([], someE l t k)
theorem curesS_bad {l : List PAuth} {t : PTrip} {k : Int} (h : someE l t k ≠ 0) : curesS l t k = ([], someE l t k) := by unfold curesS; rw [if_neg h]
theorem curesS_none {l : List PAuth} {t : PTrip} {k : Int} (h : someE l t k = 0) (h2 : kindN (rsAt l t k) = 0) : curesS l t k = ([], 5) := by unfold curesS; rw [if_pos h, if_pos h2]
theorem curesS_some {l : List PAuth} {t : PTrip} {k : Int} (h : someE l t k = 0) (h2 : kindN (rsAt l t k) ≠ 0) : curesS l t k = (chosenL (numsAt l t k) (curesK (rsAt l t k)), 0) := by unfold curesS; rw [if_pos h, if_neg h2]
def CuresR (l : List PAuth) (t : PTrip) (k : Int) (w : World) (e : Ending) (w' : World) : Prop := Ext w w' ∧ ∃ v, e = .returned (.tuple #[v, .int .i64 (curesS l t k).2]) ∧ Sl 1 RInt w' v (curesS l t k).1
theorem curesK_at {rs : List PRule} {j : Nat} (h : j < rs.length) : (curesK rs)[j]? = some (decide (kindN (rs.eraseIdx j) = 0)) := by
  unfold curesK
  simp [h]
theorem curesK_len (rs : List PRule) : (curesK rs).length = rs.length := by simp [curesK]

set_option maxRecDepth 100000 in
set_option maxHeartbeats 4000000 in
theorem Cures_c (v vp : Value) (l : List PAuth) (t : PTrip) (k : Int) (w : World) (hk : -9223372036854775808 ≤ k) (hk2 : k ≤ 9223372036854775807) (hs : Sl 4 RAuth w v l) (hp : Sl 3 RPass w vp t.passages) :
    Calls Try.prog 32 #[v, tripV t vp, .int .i64 k] w (CuresR l t k w) := by
  have C1 := fun w' (h : Ext w w') => findP_c v vp l t k w' hk hk2 (hs.ext RAuth.stable h) (hp.ext RPass.stable h)
  obtain ⟨i1, hi1, hi10, hi11, hi12⟩ := info_parts infoInt
  obtain ⟨A, cap, rfl, hl, hcap⟩ := hs.shape
  obtain ⟨Ap, capp, rfl, hpl, hpcap⟩ := hp.shape
  unfold tripV at *
  replace C1 := Lib.hid C1
  clear hs hp
  obtain ⟨Post, hPost⟩ : ∃ Post, CuresR l t k w = Post := ⟨_, rfl⟩
  rw [hPost]
  replace hPost := Lib.hid hPost
  go_enter Try.func32, Try.ntmps32
  go_wp2_with fail
  refine (C1.out _ (by (repeat' (first | exact Ext.refl _ | assumption | refine Ext.alloc ?_ _ | refine Ext.drew ?_ | refine Ext.drewN ?_ _ | refine Ext.set ?_ (by first | exact Nat.le_refl _ | exact le1 _ | exact le2 _ | exact le3 _ | exact le4 _ | exact le5 _ | exact le6 _) _ | refine Ext.trans ?_ (by assumption))))).mono ?_
  rintro e w1 ⟨hb1, ⟨hne, rfl⟩ | ⟨h0, B, o, vl, vn, rfl, c0, c1, c2, hr1, hr2⟩⟩
  · have hne' : (someE l t k != 0) = true := by simp [hne]
    have E1 : Ext w w1 := by (repeat' (first | exact Ext.refl _ | assumption | refine Ext.alloc ?_ _ | refine Ext.drew ?_ | refine Ext.drewN ?_ _ | refine Ext.set ?_ (by first | exact Nat.le_refl _ | exact le1 _ | exact le2 _ | exact le3 _ | exact le4 _ | exact le5 _ | exact le6 _) _ | refine Ext.trans ?_ (by assumption)))
    have HA := Lib.hid (curesS_bad hne)
    generalize someE l t k = E at *
    go_wp2_with fail
    rw [← hPost.out]
    exact ⟨E1, _, by rw [HA.out]; rfl, by rw [HA.out]; exact sl_nil⟩
  · have E1 : Ext w w1 := by (repeat' (first | exact Ext.refl _ | assumption | refine Ext.alloc ?_ _ | refine Ext.drew ?_ | refine Ext.drewN ?_ _ | refine Ext.set ?_ (by first | exact Nat.le_refl _ | exact le1 _ | exact le2 _ | exact le3 _ | exact le4 _ | exact le5 _ | exact le6 _) _ | refine Ext.trans ?_ (by assumption)))
    have hPO := passOk h0
    obtain ⟨Al, capl, rfl, _, _⟩ := hr1.shape
    obtain ⟨An, capn, rfl, _, _⟩ := hr2.shape
    have hlen := hPO.len
    have hnum := hPO.nums
    have hru := hPO.rules
    have hnone := fun h => curesS_none (k := k) h0 h
    have hsome := fun h => curesS_some (k := k) h0 h
    generalize rsAt l t k = rs at *
    generalize numsAt l t k = ns at *
    have C2 := fun w' (h : Ext w1 w') => kind_c _ rs w' (hr1.ext RRule.stable h) hru (by omega)
    clear h0 hPO
    by_cases hkn : kindN rs = 0
    · have HA := Lib.hid (hnone hkn)
      rw [hkn] at C2
      replace C2 := Lib.hid C2
      clear hr1 hr2 hkn hnone hsome
      go_wp2_with (go_at_call 60; refine (C2.out _ (by (repeat' (first | exact Ext.refl _ | assumption | refine Ext.alloc ?_ _ | refine Ext.drew ?_ | refine Ext.drewN ?_ _ | refine Ext.set ?_ (by first | exact Nat.le_refl _ | exact le1 _ | exact le2 _ | exact le3 _ | exact le4 _ | exact le5 _ | exact le6 _) _ | refine Ext.trans ?_ (by assumption))))).mono ?_; rintro e w2 ⟨rfl, hb2⟩)
      rw [← hPost.out]
      exact ⟨by (repeat' (first | exact Ext.refl _ | assumption | refine Ext.alloc ?_ _ | refine Ext.drew ?_ | refine Ext.drewN ?_ _ | refine Ext.set ?_ (by first | exact Nat.le_refl _ | exact le1 _ | exact le2 _ | exact le3 _ | exact le4 _ | exact le5 _ | exact le6 _) _ | refine Ext.trans ?_ (by assumption))), _, by rw [HA.out]; rfl, by rw [HA.out]; exact sl_nil⟩
    · have HA := Lib.hid (hsome hkn)
      have hkn' : (((kindN rs : Nat) : Int) == 0) = false := by simp; omega
      have hkn2 : ¬ ((kindN rs : Nat) : Int) = 0 := by omega
      have C4 := fun w' (h : Ext w1 w') => cloneRule_c _ rs w' (hr1.ext RRule.stable h) (fun cs x h => one_rule h) (by omega)
      have HK := Lib.hid (fun j (hj : j < rs.length) => curesK_at hj)
      have hKl := curesK_len rs
      have HR2 := Lib.hid hr2
      have HRU := Lib.hid hru
      generalize curesK rs = KS at *
      generalize kindN rs = K at *
      replace C2 := Lib.hid C2
      replace C4 := Lib.hid C4
      clear hr1 hr2 hkn hnone hsome hru
      go_upto_region 7 with (go_at_call 60; refine (C2.out _ (by (repeat' (first | exact Ext.refl _ | assumption | refine Ext.alloc ?_ _ | refine Ext.drew ?_ | refine Ext.drewN ?_ _ | refine Ext.set ?_ (by first | exact Nat.le_refl _ | exact le1 _ | exact le2 _ | exact le3 _ | exact le4 _ | exact le5 _ | exact le6 _) _ | refine Ext.trans ?_ (by assumption))))).mono ?_; rintro e w2 ⟨rfl, hb2⟩)
      have E2 : Ext w1 w2 := by (repeat' (first | exact Ext.refl _ | assumption | refine Ext.alloc ?_ _ | refine Ext.drew ?_ | refine Ext.drewN ?_ _ | refine Ext.set ?_ (by first | exact Nat.le_refl _ | exact le1 _ | exact le2 _ | exact le3 _ | exact le4 _ | exact le5 _ | exact le6 _) _ | refine Ext.trans ?_ (by assumption)))
      have d1 := E2.cell c1
      go_wp2_with fail
      go_loopw [10, 35] (fun o i wr => ∃ (j : Nat) (vo : Value), j ≤ rs.length ∧ i = .int .i64 j ∧ o = vo ∧ OwnL 1 3 RInt w2.heap.size wr vo (chosenL (ns.take j) (KS.take j)) ∧ Ext w2 wr) (fun _ i _ => rs.length - (intOf i).toNat)
      case atStart => exact ⟨0, _, by omega, rfl, rfl, by simpa [chosenL] using OwnL.nil, Ext.refl _⟩
      case round =>
        obtain ⟨j, vo, hj, rfl, rfl, hown, hE⟩ := hrel
        obtain ⟨Ao, co, rfl, _, _⟩ := hown.sl.shape
        have HO := Lib.hid hown
        clear hown
        have E3 := E2.trans hE
        have d0 := E3.cell c0
        by_cases hlt : j < rs.length
        · obtain ⟨n, hn⟩ := some_of_lt (l := ns) (k := j) (by omega)
          have hq := HK.out j hlt
          obtain ⟨b3, off3, cs3, rfl, _, hcs3, hc3⟩ := (HR2.out.ext RInt.stable E3).at hn
          obtain rfl : cs3 = [.int .i64 n] := hcs3
          have y1 := hc3 0 _ rfl
          simp only [Nat.add_zero, Nat.mul_one] at y1
          have HNX := Lib.hid (chosenL_snoc ns KS j n _ hn hq)
          have hcl := chosenL_len (ns.take j) (KS.take j)
          rw [List.length_take] at hcl
          have hcl2 : (chosenL (ns.take j) (KS.take j)).length ≤ 24 := by omega
          have i1k : (0 : Int) ≤ (j : Int) := by omega
          have i2k : (j : Int) < (rs.length : Int) := by omega
          have hel : (rs.eraseIdx j).length ≤ 24 := by rw [List.length_eraseIdx]; split <;> omega
          have C5 := fun v' w' (h : Sl 11 RRule w' v' (rs.eraseIdx j)) => kind_c v' (rs.eraseIdx j) w' h (fun r hr => HRU.out r (List.mem_of_mem_eraseIdx hr)) (by omega)
          replace C5 := Lib.hid C5
          clear hc3 hn hq hcl
          generalize chosenL (ns.take j) (KS.take j) = D at *
          go_upto_region 11 with (first
            | (go_at_call 62; refine (C4.out _ (by (repeat' (first | exact Ext.refl _ | assumption | refine Ext.alloc ?_ _ | refine Ext.drew ?_ | refine Ext.drewN ?_ _ | refine Ext.set ?_ (by first | exact Nat.le_refl _ | exact le1 _ | exact le2 _ | exact le3 _ | exact le4 _ | exact le5 _ | exact le6 _) _ | refine Ext.trans ?_ (by assumption))))).mono ?_; rintro e w3 ⟨v3, rfl, ho3, hb3⟩; obtain ⟨g3, cap3, rfl, hg3, hg3b, _⟩ := own_some ho3 (by omega))
            | (go_at_call 65; refine (deleteRule_c rs j w3 ho3 (fun _ _ _ h => h) (fun cs x h => one_rule h) (by omega) hlt).mono ?_; rintro e w6 ⟨rfl, ho6, hgr6⟩))
          have E6 : Ext wr w6 := hb3.grown hgr6 (fun k e => by have h := Option.some.inj e; omega)
          have S6 : Sl 11 RRule w6 (.slice (some ⟨g3, 0, none⟩) (rs.length - 1) cap3) (rs.eraseIdx j) := (ho6.to (fun cs x h => RRule.stable _ _ _ _ E6 h)).sl
          have HS6 := Lib.hid S6
          clear S6 ho6 hgr6 ho3
          generalize kindN (rs.eraseIdx j) = z at *
          by_cases hz : z = 0
          · subst hz
            go_upto_region 12 with (go_at_call 60; refine (C5.out _ _ HS6.out).mono ?_; rintro e w7 ⟨rfl, hb7⟩)
            have E7 : Ext w2 w7 := hE.trans (E6.trans hb7)
            obtain ⟨css, hcs, hown, hcx⟩ := HO.out.ext RInt.stable (E6.trans hb7)
            have HCX := Lib.hid hcx
            have hz2 := E7.size
            clear hcx HO
            go_wp2_with (at_builtin; refine wpList_append_lies _ rfl _ _ 41 rfl (w2.heap.size) 3 i1 _ 1 8 Try.underlying41 hi1 hi10 hi11 hi12 rfl (by omega) (.slice Ao D.length co) (D.length) (css).flatten rfl ((hown).alloc _) ⟨w7.heap.size, 0, none⟩ 1 1 [.int .i64 n] rfl rfl (World.news_of_block (cs := #[.int .i64 n]) (t := 3) (fr := (0, 0)) (heap_alloc_new w7 _)) (by simp [Value.oneCell']) (by omega) (by unfold maxLen; omega) (by omega) (by simp; omega) (w7.heap.size + 1) (by simp) ?_; intro g cap4 w4 hown4 hgrow4 hat4 hlt4)
            have E9 : Ext w2 w4 := Ext.grown (E7.alloc _) hgrow4 (fun j hj => own_ge hown j hj)
            have HO4 := Lib.hid (OwnL.snoc (R := RInt) (w' := w4) (x := n) hcs HCX.out hown4 rfl rfl)
            clear hown hown4 hgrow4 hat4 hlt4 hcs HCX
            go_roundw
            case rel => first | exact ⟨j + 1, _, by omega, by go_num, rfl, by rw [HNX.out]; exact HO4.out, E9⟩ | exact ⟨j + 1, by omega, by go_num, by rw [HNX.out]; exact HO4.out, E9⟩
            case measure => simp [intOf]; omega
          · have hz3 : ¬ (z : Int) = 0 := by omega
            go_wp2_with (go_at_call 60; refine (C5.out _ _ HS6.out).mono ?_; rintro e w7 ⟨rfl, hb7⟩)
            have E7 : Ext w2 w7 := hE.trans (E6.trans hb7)
            go_roundw
            case rel => exact ⟨j + 1, _, by omega, by go_num, rfl, by rw [HNX.out]; simpa [hz] using HO.out.ext RInt.stable (E6.trans hb7), E7⟩
            case measure => simp [intOf]; omega
        · obtain rfl : j = rs.length := by omega
          have e1 : chosenL (ns.take rs.length) (KS.take rs.length) = chosenL ns KS := by rw [List.take_of_length_le (by omega), List.take_of_length_le (by omega)]
          rw [e1] at HO ⊢
          go_wp2_with fail
          rw [← hPost.out]
          exact ⟨E1.trans E3, _, by rw [HA.out]; rfl, by rw [HA.out]; exact HO.out.sl⟩
end Go.Proofs.Ytaomlmkcifpfkaa
