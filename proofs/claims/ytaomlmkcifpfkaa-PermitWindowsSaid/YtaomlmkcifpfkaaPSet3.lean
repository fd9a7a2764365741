/- Contracts: empty, hours, season. -/
import Derived.Test.YtaomlmkcifpfkaaPSet2
namespace Go.Proofs.Ytaomlmkcifpfkaa
open Go.RowKit

def holdB (l : List PRule) (sel : PRule → Int × Int) (m : Nat) : Bool := l.any fun r => !liesB (m : Int) (sel r).1 (sel r).2
def emptyB (l : List PRule) (n : Nat) (sel : PRule → Int × Int) : Bool := (List.range n).all (holdB l sel)
def SelOk (l : List PRule) (sel : PRule → Int × Int) : Prop := ∀ r ∈ l, (-1000000 ≤ (sel r).1 ∧ (sel r).1 ≤ 1000000) ∧ (-1000000 ≤ (sel r).2 ∧ (sel r).2 ≤ 1000000)

set_option maxHeartbeats 800000 in
theorem holds_c (g : Nat) (sel : PRule → Int × Int) (hg : PickR g sel) (m : Nat) (B C : Nat) (v : Value) (l : List PRule) (w : World) (hs : Sl 11 RRule w v l) (hk : SelOk l sel)
    (hm : w.cell? ⟨B, 0, none⟩ = some (.int .i64 (m : Int))) (hf : w.cell? ⟨C, 0, none⟩ = some (.func (.func g) #[] #[])) :
    Calls Try.prog 112 #[v, .func (.func 124) #[] #[.pointer (some ⟨B, 0, none⟩), .pointer (some ⟨C, 0, none⟩)]] w fun e w' => e = .returned (.bool (holdB l sel m)) ∧ Ext w w' := by
  refine ContainsFuncSet_c RRule.stable 124 _ (enters_of Try.func124 (by kernel_rfl) rfl) _ v l w hs ?_
  rintro W cs x he ⟨vr, vw, vc, rfl, hx⟩ hxl
  exact empty1_c g sel hg m B C vr vw vc x W hx (hk x hxl).1 (hk x hxl).2 (he.cell hm) (he.cell hf)

set_option maxRecDepth 100000 in
set_option maxHeartbeats 1600000 in
theorem empty_c (g : Nat) (sel : PRule → Int × Int) (hg : PickR g sel) (n : Nat) (hn : n ≤ 100000) (v : Value) (l : List PRule) (w : World) (hs : Sl 11 RRule w v l) (hk : SelOk l sel) :
    Calls Try.prog 114 #[v, .int .i64 (n : Int), .func (.func g) #[] #[]] w fun e w' => e = .returned (.bool (emptyB l n sel)) ∧ Ext w w' := by
  have C2 := fun (m : Nat) (B C : Nat) w' (hE : Ext w w') (hm : w'.cell? ⟨B, 0, none⟩ = some (.int .i64 (m : Int))) (hf : w'.cell? ⟨C, 0, none⟩ = some (.func (.func g) #[] #[])) => holds_c g sel hg m B C v l w' (hs.ext RRule.stable hE) hk hm hf
  obtain ⟨A, cap, rfl, hl, hl2⟩ := hs.shape
  obtain ⟨ra, hra⟩ : ∃ z, emptyB l n sel = z := ⟨_, rfl⟩
  rw [hra]
  have HRA := Lib.hid hra
  clear hs hk hg hra
  replace C2 := Lib.hid C2
  go_enter Try.func114, Try.ntmps114
  go_wp2_with fail
  have hE0 : Ext w (w.alloc (.cells #[.func (.func g) #[] #[]] 158)) := by (repeat' (first | exact Ext.refl _ | assumption | refine Ext.alloc ?_ _ | refine Ext.drew ?_ | refine Ext.drewN ?_ _ | refine Ext.set ?_ (by first | exact Nat.le_refl _ | exact le1 _ | exact le2 _ | exact le3 _ | exact le4 _ | exact le5 _ | exact le6 _) _ | refine Ext.trans ?_ (by assumption)))
  have f0 : (w.alloc (.cells #[.func (.func g) #[] #[]] 158)).cell? ⟨w.heap.size, 0, none⟩ = some (.func (.func g) #[] #[]) := World.cell?_alloc_new _ _ _ _
  generalize w.alloc (.cells #[.func (.func g) #[] #[]] 158) = W at *
  go_loopw [7, 9] (fun _ i wr => ∃ k : Nat, k ≤ n ∧ i = .int .i64 k ∧ (List.range k).all (holdB l sel) = true ∧ Ext W wr) (fun _ i _ => n - (intOf i).toNat)
  case atStart => exact ⟨0, by omega, rfl, by simp, Ext.refl _⟩
  case round =>
    obtain ⟨k, hk, rfl, ha, hb⟩ := hrel
    have HA := Lib.hid ha
    have f1 := hb.cell f0
    have hB := lt_of_cell f1
    clear ha
    by_cases hlt : k < n
    · have C3 := C2.out k wr.heap.size w.heap.size
      obtain ⟨z, hz⟩ : ∃ z, holdB l sel k = z := ⟨_, rfl⟩
      rw [hz] at C3
      have HZ := Lib.hid hz
      clear hz
      replace C3 := Lib.hid C3
      cases z
      · obtain rfl : ra = false := HRA.out.symm.trans (by unfold emptyB; rw [List.all_eq_false]; exact ⟨k, List.mem_range.2 hlt, by rw [HZ.out]; simp⟩)
        go_wp2_with (go_at_call 112; refine (C3.out _ (by (repeat' (first | exact Ext.refl _ | assumption | refine Ext.alloc ?_ _ | refine Ext.drew ?_ | refine Ext.drewN ?_ _ | refine Ext.set ?_ (by first | exact Nat.le_refl _ | exact le1 _ | exact le2 _ | exact le3 _ | exact le4 _ | exact le5 _ | exact le6 _) _ | refine Ext.trans ?_ (by assumption)))) (by go_simp) (by go_simp)).mono ?_; rintro e w2 ⟨rfl, hb2⟩)
        go_ret
        exact ⟨by simp, by (repeat' (first | exact Ext.refl _ | assumption | refine Ext.alloc ?_ _ | refine Ext.drew ?_ | refine Ext.drewN ?_ _ | refine Ext.set ?_ (by first | exact Nat.le_refl _ | exact le1 _ | exact le2 _ | exact le3 _ | exact le4 _ | exact le5 _ | exact le6 _) _ | refine Ext.trans ?_ (by assumption)))⟩
      · go_wp2_with (go_at_call 112; refine (C3.out _ (by (repeat' (first | exact Ext.refl _ | assumption | refine Ext.alloc ?_ _ | refine Ext.drew ?_ | refine Ext.drewN ?_ _ | refine Ext.set ?_ (by first | exact Nat.le_refl _ | exact le1 _ | exact le2 _ | exact le3 _ | exact le4 _ | exact le5 _ | exact le6 _) _ | refine Ext.trans ?_ (by assumption)))) (by go_simp) (by go_simp)).mono ?_; rintro e w2 ⟨rfl, hb2⟩)
        go_roundw
        case rel => exact ⟨k + 1, by omega, by go_num, by rw [List.range_succ, List.all_append, HA.out]; simp [HZ.out], by (repeat' (first | exact Ext.refl _ | assumption | refine Ext.alloc ?_ _ | refine Ext.drew ?_ | refine Ext.drewN ?_ _ | refine Ext.set ?_ (by first | exact Nat.le_refl _ | exact le1 _ | exact le2 _ | exact le3 _ | exact le4 _ | exact le5 _ | exact le6 _) _ | refine Ext.trans ?_ (by assumption)))⟩
        case measure => simp [intOf]; omega
    · have hra : ra = true := HRA.out.symm.trans (by unfold emptyB; rw [show n = k by omega]; exact HA.out)
      subst hra
      go_wp2
      go_ret
      exact ⟨by simp, hE0.trans hb⟩

theorem pick_hours : PickR 115 (fun r => (r.h0, r.h1)) :=
  ⟨enters_of Try.func115 (by kernel_rfl) rfl, fun W vr vw vc r h => hours1_c vr vw vc r W h⟩
set_option maxHeartbeats 800000 in
theorem hours_c (v : Value) (l : List PRule) (w : World) (hs : Sl 11 RRule w v l) (hk : SelOk l (fun r => (r.h0, r.h1))) :
    Calls Try.prog 94 #[v] w fun e w' => e = .returned (.bool (emptyB l 1440 (fun r => (r.h0, r.h1)))) ∧ Ext w w' := by
  have C2 := empty_c _ _ pick_hours 1440 (by omega) v l w hs hk
  obtain ⟨A, cap, rfl, hl, hl2⟩ := hs.shape
  generalize emptyB l 1440 (fun r => (r.h0, r.h1)) = q at *
  clear hs hk
  replace C2 := Lib.hid C2
  go_enter Try.func94, Try.ntmps94
  go_wp2_with (go_at_call 114; refine C2.out.mono ?_; rintro e w1 ⟨rfl, hb1⟩)
  go_ret
  exact ⟨rfl, by (repeat' (first | exact Ext.refl _ | assumption | refine Ext.alloc ?_ _ | refine Ext.drew ?_ | refine Ext.drewN ?_ _ | refine Ext.set ?_ (by first | exact Nat.le_refl _ | exact le1 _ | exact le2 _ | exact le3 _ | exact le4 _ | exact le5 _ | exact le6 _) _ | refine Ext.trans ?_ (by assumption)))⟩

theorem pick_season : PickR 116 (fun r => (r.s0, r.s1)) :=
  ⟨enters_of Try.func116 (by kernel_rfl) rfl, fun W vr vw vc r h => season1_c vr vw vc r W h⟩
set_option maxHeartbeats 800000 in
theorem season_c (v : Value) (l : List PRule) (w : World) (hs : Sl 11 RRule w v l) (hk : SelOk l (fun r => (r.s0, r.s1))) :
    Calls Try.prog 96 #[v] w fun e w' => e = .returned (.bool (emptyB l 365 (fun r => (r.s0, r.s1)))) ∧ Ext w w' := by
  have C2 := empty_c _ _ pick_season 365 (by omega) v l w hs hk
  obtain ⟨A, cap, rfl, hl, hl2⟩ := hs.shape
  generalize emptyB l 365 (fun r => (r.s0, r.s1)) = q at *
  clear hs hk
  replace C2 := Lib.hid C2
  go_enter Try.func96, Try.ntmps96
  go_wp2_with (go_at_call 114; refine C2.out.mono ?_; rintro e w1 ⟨rfl, hb1⟩)
  go_ret
  exact ⟨rfl, by (repeat' (first | exact Ext.refl _ | assumption | refine Ext.alloc ?_ _ | refine Ext.drew ?_ | refine Ext.drewN ?_ _ | refine Ext.set ?_ (by first | exact Nat.le_refl _ | exact le1 _ | exact le2 _ | exact le3 _ | exact le4 _ | exact le5 _ | exact le6 _) _ | refine Ext.trans ?_ (by assumption)))⟩
end Go.Proofs.Ytaomlmkcifpfkaa
