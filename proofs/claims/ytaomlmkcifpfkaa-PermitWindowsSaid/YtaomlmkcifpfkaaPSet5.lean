/- Contract: numbers of a thing. -/
import Derived.Test.YtaomlmkcifpfkaaPSet4
namespace Go.Proofs.Ytaomlmkcifpfkaa
open Go.RowKit

def cntStep (nm : ByteArray) (p : Int × Int) (c : PCount) : Int × Int := if c.thing = nm then (max p.1 c.least, min p.2 c.most) else p
def cntR (nm : ByteArray) (p : Int × Int) (r : PRule) : Int × Int := r.counts.foldl (cntStep nm) p
def thingN (nm : ByteArray) (l : List PRule) : Int × Int := l.foldl (cntR nm) (0, 1000)
def thingB (l : List PRule) (nm : ByteArray) : Bool := decide ((thingN nm l).2 < (thingN nm l).1)
theorem thingN_succ {nm : ByteArray} {l : List PRule} {k : Nat} {x : PRule} (h : l[k]? = some x) : thingN nm (l.take (k + 1)) = cntR nm (thingN nm (l.take k)) x := by
  unfold thingN
  rw [List.take_add_one, h]
  simp
theorem cnt_succ {nm : ByteArray} {p : Int × Int} {l : List PCount} {k : Nat} {x : PCount} (h : l[k]? = some x) : (l.take (k + 1)).foldl (cntStep nm) p = cntStep nm ((l.take k).foldl (cntStep nm) p) x := by
  rw [List.take_add_one, h]
  simp

set_option maxRecDepth 100000 in
set_option maxHeartbeats 3200000 in
theorem thing_c (nm : ByteArray) (v : Value) (l : List PRule) (w : World) (hs : Sl 11 RRule w v l) :
    Calls Try.prog 97 #[v, .string nm] w fun e w' => e = .returned (.bool (thingB l nm)) ∧ Ext w w' := by
  have hmx : ∀ (x y : Int) (W : World), (Builtin.max_ #[2, 2] 2 #[.int .i64 x, .int .i64 y]).run Try.prog W = .ok (.int .i64 (max x y)) W := fun x y W => by
    have : (if y > x then y else x) = max x y := by split <;> omega
    rw [← this]; rfl
  have hmn : ∀ (x y : Int) (W : World), (Builtin.min_ #[2, 2] 2 #[.int .i64 x, .int .i64 y]).run Try.prog W = .ok (.int .i64 (min x y)) W := fun x y W => by
    have : (if y < x then y else x) = min x y := by split <;> omega
    rw [← this]; rfl
  obtain ⟨A, cap, rfl, hl, hl2⟩ := hs.shape
  have HS := Lib.hid hs
  clear hs
  go_enter Try.func97, Try.ntmps97
  go_wp2_with fail
  go_loopw [5, 6, 13] (fun a b i wr => ∃ k : Nat, k ≤ l.length ∧ i = .int .i64 k ∧ a = .int .i64 (thingN nm (l.take k)).1 ∧ b = .int .i64 (thingN nm (l.take k)).2 ∧ Ext w wr) (fun _ _ i _ => l.length - (intOf i).toNat)
  case atStart => exact ⟨0, by omega, rfl, rfl, rfl, Ext.refl _⟩
  case round =>
    obtain ⟨k, hk, rfl, rfl, rfl, hb⟩ := hrel
    by_cases hlt : k < l.length
    · obtain ⟨x, hx⟩ := some_of_lt hlt
      obtain ⟨b, off, cs, rfl, hn, ⟨vr, vw, vc, rfl, hr⟩, hc⟩ := (HS.out.ext RRule.stable hb).at hx
      obtain ⟨hr1, hw1, hc1⟩ := hr
      obtain ⟨Ar, cr, rfl, lr, lr2⟩ := hr1.shape
      obtain ⟨Aw, cw, rfl, lw, lw2⟩ := hw1.shape
      obtain ⟨Ac, cc, rfl, lc, lc2⟩ := hc1.shape
      have k0 := hc 0 _ rfl
      have k1 := hc 1 _ rfl
      have k2 := hc 2 _ rfl
      have k3 := hc 3 _ rfl
      have k4 := hc 4 _ rfl
      have k5 := hc 5 _ rfl
      have k6 := hc 6 _ rfl
      have k7 := hc 7 _ rfl
      have k8 := hc 8 _ rfl
      have k9 := hc 9 _ rfl
      have k10 := hc 10 _ rfl
      simp only [Nat.add_zero] at k0
      have HN := Lib.hid (thingN_succ (nm := nm) hx)
      have HC := Lib.hid hc1
      clear hc hn hx hr1 hw1 hc1
      generalize thingN nm (l.take k) = D at *
      go_wp2_with fail
      have hE1 : Ext w (wr.alloc (.cells #[.string x.name, .slice Ar x.roads.length cr, .slice Aw x.whens.length cw, .int .i64 x.h0, .int .i64 x.h1, .int .i64 x.days, .int .i64 x.s0, .int .i64 x.s1, .bool x.forbid, .slice Ac x.counts.length cc, .int .i64 x.cost] 58)) := by (repeat' (first | exact Ext.refl _ | assumption | refine Ext.alloc ?_ _ | refine Ext.drew ?_ | refine Ext.drewN ?_ _ | refine Ext.set ?_ (by first | exact Nat.le_refl _ | exact le1 _ | exact le2 _ | exact le3 _ | exact le4 _ | exact le5 _ | exact le6 _) _ | refine Ext.trans ?_ (by assumption)))
      have HC1 := HC.out.ext RCount.stable (show Ext wr (wr.alloc (.cells #[.string x.name, .slice Ar x.roads.length cr, .slice Aw x.whens.length cw, .int .i64 x.h0, .int .i64 x.h1, .int .i64 x.days, .int .i64 x.s0, .int .i64 x.s1, .bool x.forbid, .slice Ac x.counts.length cc, .int .i64 x.cost] 58)) by (repeat' (first | exact Ext.refl _ | assumption | refine Ext.alloc ?_ _ | refine Ext.drew ?_ | refine Ext.drewN ?_ _ | refine Ext.set ?_ (by first | exact Nat.le_refl _ | exact le1 _ | exact le2 _ | exact le3 _ | exact le4 _ | exact le5 _ | exact le6 _) _ | refine Ext.trans ?_ (by assumption))))
      generalize wr.alloc (.cells #[.string x.name, .slice Ar x.roads.length cr, .slice Aw x.whens.length cw, .int .i64 x.h0, .int .i64 x.h1, .int .i64 x.days, .int .i64 x.s0, .int .i64 x.s1, .bool x.forbid, .slice Ac x.counts.length cc, .int .i64 x.cost] 58) = W1 at *
      replace HC1 := Lib.hid HC1
      clear k0 k1 k2 k3 k4 k5 k6 k7 k8 k9 k10
      go_loopw [5, 6, 20] (fun a b i ws => ∃ j : Nat, j ≤ x.counts.length ∧ i = .int .i64 j ∧ a = .int .i64 ((x.counts.take j).foldl (cntStep nm) D).1 ∧ b = .int .i64 ((x.counts.take j).foldl (cntStep nm) D).2 ∧ Ext W1 ws) (fun _ _ i _ => x.counts.length - (intOf i).toNat)
      case atStart => exact ⟨0, by omega, rfl, rfl, rfl, Ext.refl _⟩
      case round =>
        obtain ⟨j, hj, rfl, rfl, rfl, hbj⟩ := hrel
        by_cases hltj : j < x.counts.length
        · obtain ⟨c, hcx⟩ := some_of_lt hltj
          obtain ⟨b2, off2, cs2, rfl, hn2, rfl, hc2⟩ := (HC1.out.ext RCount.stable hbj).at hcx
          have q0 := hc2 0 _ rfl
          have q1 := hc2 1 _ rfl
          have q2 := hc2 2 _ rfl
          simp only [Nat.add_zero] at q0
          have HN2 := Lib.hid (cnt_succ (nm := nm) (p := D) hcx)
          clear hc2 hn2 hcx
          generalize (x.counts.take j).foldl (cntStep nm) D = E at *
          by_cases heq : c.thing = nm
          · have t1 : (c.thing.toList == nm.toList) = true := by rw [heq]; simp
            have HE := Lib.hid heq
            clear heq
            go_wp2_with fail
            have hE2 : Ext W1 (wr.alloc (.cells #[.string c.thing, .int .i64 c.least, .int .i64 c.most] 122)) := by (repeat' (first | exact Ext.refl _ | assumption | refine Ext.alloc ?_ _ | refine Ext.drew ?_ | refine Ext.drewN ?_ _ | refine Ext.set ?_ (by first | exact Nat.le_refl _ | exact le1 _ | exact le2 _ | exact le3 _ | exact le4 _ | exact le5 _ | exact le6 _) _ | refine Ext.trans ?_ (by assumption)))
            have z1 : (wr.alloc (.cells #[.string c.thing, .int .i64 c.least, .int .i64 c.most] 122)).cell? ⟨wr.heap.size, 1, none⟩ = some (.int .i64 c.least) := World.cell?_alloc_new _ _ _ _
            have z2 : (wr.alloc (.cells #[.string c.thing, .int .i64 c.least, .int .i64 c.most] 122)).cell? ⟨wr.heap.size, 2, none⟩ = some (.int .i64 c.most) := World.cell?_alloc_new _ _ _ _
            clear q0 q1 q2
            generalize wr.alloc (.cells #[.string c.thing, .int .i64 c.least, .int .i64 c.most] 122) = W2 at *
            go_region
            go_wp2_with fail
            go_roundw
            case rel => exact ⟨j + 1, by omega, by go_num, by rw [HN2.out, cntStep, if_pos HE.out], by rw [HN2.out, cntStep, if_pos HE.out], by (repeat' (first | exact Ext.refl _ | assumption | refine Ext.alloc ?_ _ | refine Ext.drew ?_ | refine Ext.drewN ?_ _ | refine Ext.set ?_ (by first | exact Nat.le_refl _ | exact le1 _ | exact le2 _ | exact le3 _ | exact le4 _ | exact le5 _ | exact le6 _) _ | refine Ext.trans ?_ (by assumption)))⟩
            case measure => simp [intOf]; omega
          · have t1 := beq_toList heq
            have HE := Lib.hid heq
            clear heq
            go_wp2_with fail
            go_roundw
            case rel => exact ⟨j + 1, by omega, by go_num, by rw [HN2.out, cntStep, if_neg HE.out], by rw [HN2.out, cntStep, if_neg HE.out], by (repeat' (first | exact Ext.refl _ | assumption | refine Ext.alloc ?_ _ | refine Ext.drew ?_ | refine Ext.drewN ?_ _ | refine Ext.set ?_ (by first | exact Nat.le_refl _ | exact le1 _ | exact le2 _ | exact le3 _ | exact le4 _ | exact le5 _ | exact le6 _) _ | refine Ext.trans ?_ (by assumption)))⟩
            case measure => simp [intOf]; omega
        · obtain rfl : j = x.counts.length := by omega
          rw [List.take_length]
          go_wp2_with fail
          go_roundw
          case rel => exact ⟨k + 1, by omega, by go_num, by rw [HN.out]; rfl, by rw [HN.out]; rfl, hE1.trans hbj⟩
          case measure => simp [intOf]; omega
    · obtain rfl : k = l.length := by omega
      rw [List.take_length]
      go_wp2
      go_ret
      exact ⟨by simp [thingB], hb⟩
end Go.Proofs.Ytaomlmkcifpfkaa
