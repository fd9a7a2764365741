/- Contracts: the things of rules. -/
import Derived.Test.YtaomlmkcifpfkaaPConf
import Derived.Test.YtaomlmkcifpfkaaPOf2
import Derived.Deep.DeepCutAuto
namespace Go.Proofs.Ytaomlmkcifpfkaa
open Go.RowKit

theorem infoStr : (Try.prog.info? 9).map (fun i => (i.zero, i.size, i.bytes)) = some (some (.string ⟨#[]⟩), 1, 16) := by kernel_rfl
theorem thStep_yes {o : List ByteArray} {c : PCount} (h : (o.any fun t => decide (c.thing = t)) = true) : thStep o c = o := by
  unfold thStep; rw [if_pos h]
theorem thStep_no {o : List ByteArray} {c : PCount} (h : (o.any fun t => decide (c.thing = t)) = false) : thStep o c = o ++ [c.thing] := by
  unfold thStep; rw [if_neg (by rw [h]; simp)]

set_option maxRecDepth 100000 in
set_option maxHeartbeats 3200000 in
theorem things_c (v : Value) (l : List PRule) (w : World) (hs : Sl 11 RRule w v l) (hlen : l.length ≤ 1000) (hcl : ∀ r ∈ l, r.counts.length ≤ 6) :
    Calls Try.prog 61 #[v] w fun e w' => ∃ v', e = .returned v' ∧ OwnL 1 9 RStr w.heap.size w' v' (thingsL l) ∧ Ext w w' := by
  obtain ⟨i1, hi1, hi10, hi11, hi12⟩ := info_parts infoStr
  obtain ⟨A, cap, rfl, hl, hl2⟩ := hs.shape
  have HS := Lib.hid hs
  have HCL := Lib.hid hcl
  clear hs hcl
  go_enter Try.func61, Try.ntmps61
  go_wp2_with fail
  go_loopw [2, 9] (fun o i wr => ∃ (k : Nat) (vo : Value), k ≤ l.length ∧ i = .int .i64 k ∧ o = vo ∧ OwnL 1 9 RStr w.heap.size wr vo (thingsL (l.take k)) ∧ (thingsL (l.take k)).length ≤ 6 * k ∧ Ext w wr) (fun _ i _ => l.length - (intOf i).toNat)
  case atStart => exact ⟨0, _, by omega, rfl, rfl, OwnL.nil, by simp [thingsL], Ext.refl _⟩
  case round =>
    obtain ⟨k, vo, hk, rfl, rfl, hown, hol, hb⟩ := hrel
    have HO := Lib.hid hown
    clear hown
    by_cases hlt : k < l.length
    · obtain ⟨x, hx⟩ := some_of_lt hlt
      obtain ⟨b, off, cs, rfl, hn, ⟨vr, vw, vc, rfl, hr⟩, hc⟩ := HS.out.at hx
      obtain ⟨hr1, hw1, hc1⟩ := hr
      obtain ⟨Ar, cr, rfl, lr, lr2⟩ := hr1.shape
      obtain ⟨Aw, cw, rfl, lw, lw2⟩ := hw1.shape
      obtain ⟨Ac, cc, rfl, lc, lc2⟩ := hc1.shape
      have k0 := Ext.cell hb (hc 0 _ rfl)
      have k1 := Ext.cell hb (hc 1 _ rfl)
      have k2 := Ext.cell hb (hc 2 _ rfl)
      have k3 := Ext.cell hb (hc 3 _ rfl)
      have k4 := Ext.cell hb (hc 4 _ rfl)
      have k5 := Ext.cell hb (hc 5 _ rfl)
      have k6 := Ext.cell hb (hc 6 _ rfl)
      have k7 := Ext.cell hb (hc 7 _ rfl)
      have k8 := Ext.cell hb (hc 8 _ rfl)
      have k9 := Ext.cell hb (hc 9 _ rfl)
      have k10 := Ext.cell hb (hc 10 _ rfl)
      simp only [Nat.add_zero] at k0
      have HN := Lib.hid (thingsL_succ hx)
      have h6 := HCL.out x (mem_of_some hx)
      have hfl := Lib.hid (fun j => thFold_len (x.counts.take j) (thingsL (l.take k)))
      have HC := Lib.hid hc1
      clear hc hn hx hr1 hw1 hc1
      generalize thingsL (l.take k) = D at *
      go_wp2_with fail
      have hE1 : Ext w (wr.alloc (.cells #[.string x.name, .slice Ar x.roads.length cr, .slice Aw x.whens.length cw, .int .i64 x.h0, .int .i64 x.h1, .int .i64 x.days, .int .i64 x.s0, .int .i64 x.s1, .bool x.forbid, .slice Ac x.counts.length cc, .int .i64 x.cost] 58)) := by (repeat' (first | exact Ext.refl _ | assumption | refine Ext.alloc ?_ _ | refine Ext.drew ?_ | refine Ext.drewN ?_ _ | refine Ext.set ?_ (by first | exact Nat.le_refl _ | exact le1 _ | exact le2 _ | exact le3 _ | exact le4 _ | exact le5 _ | exact le6 _) _ | refine Ext.trans ?_ (by assumption)))
      have hE2 : Ext wr (wr.alloc (.cells #[.string x.name, .slice Ar x.roads.length cr, .slice Aw x.whens.length cw, .int .i64 x.h0, .int .i64 x.h1, .int .i64 x.days, .int .i64 x.s0, .int .i64 x.s1, .bool x.forbid, .slice Ac x.counts.length cc, .int .i64 x.cost] 58)) := by (repeat' (first | exact Ext.refl _ | assumption | refine Ext.alloc ?_ _ | refine Ext.drew ?_ | refine Ext.drewN ?_ _ | refine Ext.set ?_ (by first | exact Nat.le_refl _ | exact le1 _ | exact le2 _ | exact le3 _ | exact le4 _ | exact le5 _ | exact le6 _) _ | refine Ext.trans ?_ (by assumption)))
      have HO1 := HO.out.ext RStr.stable hE2
      generalize wr.alloc (.cells #[.string x.name, .slice Ar x.roads.length cr, .slice Aw x.whens.length cw, .int .i64 x.h0, .int .i64 x.h1, .int .i64 x.days, .int .i64 x.s0, .int .i64 x.s1, .bool x.forbid, .slice Ac x.counts.length cc, .int .i64 x.cost] 58) = W1 at *
      replace HO1 := Lib.hid HO1
      clear k0 k1 k2 k3 k4 k5 k6 k7 k8 k9 k10 HO hE2
      go_loopw [2, 16] (fun o i ws => ∃ (j : Nat) (vo : Value), j ≤ x.counts.length ∧ i = .int .i64 j ∧ o = vo ∧ OwnL 1 9 RStr w.heap.size ws vo ((x.counts.take j).foldl thStep D) ∧ Ext w ws) (fun _ i _ => x.counts.length - (intOf i).toNat)
      case atStart => exact ⟨0, _, by omega, rfl, rfl, by simpa using HO1.out, hE1⟩
      case round =>
        obtain ⟨j, vo, hj, rfl, rfl, hown, hbw⟩ := hrel
        have HO := Lib.hid hown
        clear hown
        by_cases hltj : j < x.counts.length
        · obtain ⟨c, hcx⟩ := some_of_lt hltj
          obtain ⟨b2, off2, cs2, rfl, hn2, rfl, hc2⟩ := (HC.out.ext RCount.stable hbw).at hcx
          have q0 := hc2 0 _ rfl
          have q1 := hc2 1 _ rfl
          have q2 := hc2 2 _ rfl
          simp only [Nat.add_zero] at q0
          have HN2 := Lib.hid (thRule_succ (o := D) hcx)
          have hfj := hfl.out j
          rw [List.length_take] at hfj
          clear hc2 hn2 hcx
          generalize (x.counts.take j).foldl thStep D = E at *
          have C := fun w' (h : Ext wr w') => ContainsStr_c c.thing u2 E w' (HO.out.ext RStr.stable h).sl
          cases hin : (E.any fun t => decide (c.thing = t))
          · rw [hin] at C
            have HI := Lib.hid hin
            replace C := Lib.hid C
            clear hin
            go_upto_region 8 with (go_at_call 92; refine (C.out _ (by (repeat' (first | exact Ext.refl _ | assumption | refine Ext.alloc ?_ _ | refine Ext.drew ?_ | refine Ext.drewN ?_ _ | refine Ext.set ?_ (by first | exact Nat.le_refl _ | exact le1 _ | exact le2 _ | exact le3 _ | exact le4 _ | exact le5 _ | exact le6 _) _ | refine Ext.trans ?_ (by assumption))))).mono ?_; rintro e w2 ⟨rfl, rfl⟩)
            obtain ⟨css, hcs, hown, hcx⟩ := HO.out.ext RStr.stable ((Ext.refl wr).alloc (.cells #[.string c.thing, .int .i64 c.least, .int .i64 c.most] 122))
            have HCX := Lib.hid hcx
            have hown := hown
            have f0 : (wr.alloc (.cells #[.string c.thing, .int .i64 c.least, .int .i64 c.most] 122)).cell? ⟨wr.heap.size, 0, none⟩ = some (.string c.thing) := World.cell?_alloc_new _ _ _ _
            have E2 : Ext w (wr.alloc (.cells #[.string c.thing, .int .i64 c.least, .int .i64 c.most] 122)) := hbw.alloc _
            generalize wr.alloc (.cells #[.string c.thing, .int .i64 c.least, .int .i64 c.most] 122) = W2 at *
            have hz2 := E2.size
            go_wp2_with (at_builtin; refine wpList_append_lies _ rfl _ _ 51 rfl (w.heap.size) 9 i1 _ 1 16 Try.underlying51 hi1 hi10 hi11 hi12 rfl (by omega) (u2) (E.length) (css).flatten rfl ((hown).alloc _) ⟨W2.heap.size, 0, none⟩ 1 1 [.string c.thing] rfl rfl (World.news_of_block (cs := #[.string c.thing]) (t := 9) (fr := (0, 0)) (heap_alloc_new W2 _)) (by simp [Value.oneCell']) (by omega) (by unfold maxLen; omega) (by omega) (by simp; omega) (W2.heap.size + 1) (by simp) ?_; intro g cap4 w4 hown4 hgrow4 hat4 hlt4)
            have E4 : Ext w w4 := Ext.grown (E2.alloc _) hgrow4 (fun j hj => own_ge hown j hj)
            have hO4 := OwnL.snoc (R := RStr) (w' := w4) (x := c.thing) hcs HCX.out hown4 rfl rfl
            have HO4 := Lib.hid hO4
            clear hO4 hown hown4 hgrow4 hat4 hlt4 hcs HCX
            go_roundw
            case rel => exact ⟨j + 1, _, by omega, by go_num, rfl, by rw [HN2.out, thStep_no HI.out]; exact HO4.out, E4⟩
            case measure => simp [intOf]; omega
          · rw [hin] at C
            have HI := Lib.hid hin
            replace C := Lib.hid C
            clear hin
            go_wp2_with (go_at_call 92; refine (C.out _ (by (repeat' (first | exact Ext.refl _ | assumption | refine Ext.alloc ?_ _ | refine Ext.drew ?_ | refine Ext.drewN ?_ _ | refine Ext.set ?_ (by first | exact Nat.le_refl _ | exact le1 _ | exact le2 _ | exact le3 _ | exact le4 _ | exact le5 _ | exact le6 _) _ | refine Ext.trans ?_ (by assumption))))).mono ?_; rintro e w2 ⟨rfl, rfl⟩)
            go_roundw
            case rel => exact ⟨j + 1, _, by omega, by go_num, rfl, by rw [HN2.out, thStep_yes HI.out]; exact HO.out.ext RStr.stable (by (repeat' (first | exact Ext.refl _ | assumption | refine Ext.alloc ?_ _ | refine Ext.drew ?_ | refine Ext.drewN ?_ _ | refine Ext.set ?_ (by first | exact Nat.le_refl _ | exact le1 _ | exact le2 _ | exact le3 _ | exact le4 _ | exact le5 _ | exact le6 _) _ | refine Ext.trans ?_ (by assumption)))), by (repeat' (first | exact Ext.refl _ | assumption | refine Ext.alloc ?_ _ | refine Ext.drew ?_ | refine Ext.drewN ?_ _ | refine Ext.set ?_ (by first | exact Nat.le_refl _ | exact le1 _ | exact le2 _ | exact le3 _ | exact le4 _ | exact le5 _ | exact le6 _) _ | refine Ext.trans ?_ (by assumption)))⟩
            case measure => simp [intOf]; omega
        · obtain rfl : j = x.counts.length := by omega
          have hfj := hfl.out x.counts.length
          rw [List.take_length] at hfj
          rw [List.take_length] at HO
          go_wp2_with fail
          go_roundw
          case rel => exact ⟨k + 1, _, by omega, by go_num, rfl, by rw [HN.out]; exact HO.out, by rw [HN.out]; unfold thRule; omega, hbw⟩
          case measure => simp [intOf]; omega
    · obtain rfl : k = l.length := by omega
      rw [List.take_length] at HO
      go_wp2
      go_ret
      exact ⟨_, rfl, HO.out, hb⟩
end Go.Proofs.Ytaomlmkcifpfkaa
