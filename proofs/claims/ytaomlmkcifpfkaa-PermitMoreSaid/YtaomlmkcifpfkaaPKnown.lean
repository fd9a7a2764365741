/- Contract: the examples of the chapter hold (known). -/
import Derived.Test.YtaomlmkcifpfkaaPExample
import Derived.Test.YtaomlmkcifpfkaaPGreat
namespace Go.Proofs.Ytaomlmkcifpfkaa
open Go.RowKit Go.Shelf Go.Maps
attribute [local go_sem ↓] Go.wp_at_zero Go.wp_at_succ

theorem nextR_more {al : Int → Bool} {last d : Int} : ∀ (n : Nat) (m s r : Int) (k : Nat), nextR al last d n m s = some r → nextR al last d (n + k) m s = some r
  | 0, m, s, r, k, h => by simp [nextR] at h
  | n + 1, m, s, r, k, h => by
    rw [show n + 1 + k = (n + k) + 1 by omega]
    simp only [nextR] at h ⊢
    by_cases h1 : last ≤ s
    · rw [if_pos h1] at h; cases h
    · rw [if_neg h1] at h ⊢
      by_cases h2 : al m = true
      · rw [if_pos h2] at h ⊢
        by_cases h3 : m - s + 1 = d
        · rw [if_pos h3] at h ⊢; exact h
        · rw [if_neg h3] at h ⊢; exact nextR_more n _ _ _ k h
      · rw [if_neg h2] at h ⊢; exact nextR_more n _ _ _ k h
theorem nextO_eq {rs : List PRule} {fr d : Int} (h0 : 0 ≤ fr) (hd : 1 ≤ d) : nextO rs fr d = nextR (allowedB rs) (lastM fr) d (lastM fr + d - fr).toNat fr fr := by
  have hl : fr < lastM fr := by unfold lastM; omega
  unfold nextO
  exact (next_eq (allowedB rs) (lastM fr) d (by omega) hd (lastM fr + d - fr).toNat fr h0 (by omega)).1
theorem ex_begin1 : beginE [exA] (exT 40000) = 0 := by decide +kernel
theorem ex_begin2 : beginE [exA] (exT 60000) = 0 := by decide +kernel
theorem ex_fee : feeS [exA] (exT 40000) = 150 ∧ noticeS [exA] (exT 40000) = 2880 ∧ (conds [exA] (exT 40000)).length = 1 := by decide +kernel
theorem ex_conf : conflictS [exA] (exT 60000) 0 = (2, [0, 1], 0) := by decide +kernel
theorem ex_some : someE [exA] (exT 40000) 0 = 0 := by decide +kernel
theorem ex_min : minAt (exT 40000) 0 = 90 := by decide +kernel
theorem ex_nextR : nextR (allowedB (rsAt [exA] (exT 40000) 0)) 576000 90 1139 271 271 = some 1320 := by decide +kernel
theorem ex_next : nextS [exA] (exT 40000) 0 271 = (1320, 0) := by
  rw [nextS_ok ex_some (by decide), ex_min, nextO_eq (by decide) (by decide)]
  rw [show lastM 271 = 576000 from by decide]
  rw [show ((576000 : Int) + 90 - 271).toNat = 1139 + 574680 from by decide, nextR_more _ _ _ _ 574680 ex_nextR]

theorem ex_comp_c (v vp : Value) (w : World) (hs : Sl 4 RAuth w v [exA]) (hp : Sl 3 RPass w vp (exT 40000).passages) :
    Calls Try.prog 14 #[v, tripV (exT 40000) vp] w fun e w' => (∃ (A : Option Addr) (cap : Nat), e = .returned (.tuple #[.agg #[.slice A 1 cap, .int .i64 150, .int .i64 2880], .int .i64 0])) ∧ Ext w w' := by
  refine (Compile_c v vp [exA] (exT 40000) w hs hp).mono ?_
  rintro e w1 ⟨hb, ⟨hne, _⟩ | ⟨_, vc, rfl, hC⟩⟩
  · exact absurd ex_begin1 hne
  · obtain ⟨A, cap, rfl, _, _⟩ := hC.shape
    rw [ex_fee.1, ex_fee.2.1, ex_fee.2.2]
    exact ⟨⟨A, cap, rfl⟩, hb⟩
theorem ex_next_c (v vp : Value) (w : World) (hs : Sl 4 RAuth w v [exA]) (hp : Sl 3 RPass w vp (exT 40000).passages) :
    Calls Try.prog 21 #[v, tripV (exT 40000) vp, .int .i64 0, .int .i64 271] w fun e w' => e = .returned (.tuple #[.int .i64 1320, .int .i64 0]) ∧ Ext w w' := by
  refine (Next_c v vp [exA] (exT 40000) 0 271 w (by decide) (by decide) hs hp).mono ?_
  rintro e w1 ⟨hb, rfl⟩
  rw [ex_next]
  exact ⟨rfl, hb⟩
theorem ex_conf_c (v vp : Value) (w : World) (hs : Sl 4 RAuth w v [exA]) (hp : Sl 3 RPass w vp (exT 60000).passages) :
    Calls Try.prog 25 #[v, tripV (exT 60000) vp, .int .i64 0] w fun e w' => (∃ (A : Option Addr) (cap : Nat), e = .returned (.tuple #[.int .i64 2, .slice A 2 cap, .int .i64 0])) ∧ Ext w w' := by
  refine (Conflict_c v vp [exA] (exT 60000) 0 w (by decide) (by decide) hs hp).mono ?_
  rintro e w1 ⟨hb, v, rfl, hC⟩
  rw [ex_conf] at hC ⊢
  obtain ⟨A, cap, rfl, _, _⟩ := hC.shape
  exact ⟨⟨A, cap, rfl⟩, hb⟩

set_option maxRecDepth 100000 in
set_option maxHeartbeats 4000000 in
theorem known_c (w : World) : Calls Try.prog 13 #[] w fun e w' => e = .returned (.bool true) ∧ Ext w w' := by
  have C1 := fun w' => Example_c w'
  have C2 := fun x w' => Trip_c x w'
  have C3 := fun v vp w' h1 h2 => ex_comp_c v vp w' h1 h2
  have C4 := fun v vp w' h1 h2 => ex_next_c v vp w' h1 h2
  have C5 := fun v vp w' h1 h2 => ex_conf_c v vp w' h1 h2
  unfold tripV at *
  simp only [exT] at C2 C3 C4 C5
  replace C1 := Lib.hid C1
  replace C2 := Lib.hid C2
  replace C3 := Lib.hid C3
  replace C4 := Lib.hid C4
  replace C5 := Lib.hid C5
  go_enter Try.func13, Try.ntmps13
  go_upto_region 2 with (go_at_call 45; refine (C1.out _).mono ?_; rintro e w1 ⟨vr, rfl, hA, hb1⟩; obtain ⟨Ar, cr, rfl, _, _⟩ := hA.shape)
  have hS : Sl 4 RAuth (w1.alloc (.cells #[.string exA.name, .int .i64 120, .int .i64 2880, .slice Ar exA.rules.length cr] 64)) (.slice (some ⟨w1.heap.size, 0, none⟩) 1 1) [exA] := sl_one (World.alloc_heap_new w1 _) rfl ⟨_, rfl, hA.ext RRule.stable ((Ext.refl w1).alloc _)⟩ (by decide)
  have E1 : Ext w (w1.alloc (.cells #[.string exA.name, .int .i64 120, .int .i64 2880, .slice Ar exA.rules.length cr] 64)) := hb1.alloc _
  generalize (w1.alloc (.cells #[.string exA.name, .int .i64 120, .int .i64 2880, .slice Ar exA.rules.length cr] 64)) = W1 at *
  have HS := Lib.hid hS
  clear hS hA
  go_upto_region 3 with (first | (go_at_call 46; refine (C2.out _ _).mono ?_; rintro e w2 ⟨vp, rfl, hp2, hb2⟩; obtain ⟨Ap, cp, rfl, _, _⟩ := hp2.shape) | (go_at_call 14; refine (C3.out _ _ _ (HS.out.ext RAuth.stable hb2) hp2).mono ?_; rintro e w3 ⟨⟨A3, cap3, rfl⟩, hb3⟩))
  have E3 := E1.trans (hb2.trans hb3)
  have E13 := hb2.trans hb3
  have E14 : Ext W1 (w3.alloc (.cells #[.slice A3 1 cap3, .int .i64 150, .int .i64 2880] 31)) := E13.alloc _
  have p0 : (w3.alloc (.cells #[.slice A3 1 cap3, .int .i64 150, .int .i64 2880] 31)).cell? ⟨w3.heap.size, 0, none⟩ = some (.slice A3 1 cap3) := World.cell?_alloc_new _ _ _ _
  have p1 : (w3.alloc (.cells #[.slice A3 1 cap3, .int .i64 150, .int .i64 2880] 31)).cell? ⟨w3.heap.size, 1, none⟩ = some (.int .i64 150) := World.cell?_alloc_new _ _ _ _
  have p2 : (w3.alloc (.cells #[.slice A3 1 cap3, .int .i64 150, .int .i64 2880] 31)).cell? ⟨w3.heap.size, 2, none⟩ = some (.int .i64 2880) := World.cell?_alloc_new _ _ _ _
  generalize (w3.alloc (.cells #[.slice A3 1 cap3, .int .i64 150, .int .i64 2880] 31)) = W3 at *
  clear hp2 hb2 hb3
  go_upto_region 4 with (first | (go_at_call 46; refine (C2.out _ _).mono ?_; rintro e w4 ⟨vp4, rfl, hp4, hb4⟩; obtain ⟨Ap4, cp4, rfl, _, _⟩ := hp4.shape) | (go_at_call 21; refine (C4.out _ _ _ (HS.out.ext RAuth.stable (E14.trans hb4)) hp4).mono ?_; rintro e w5 ⟨rfl, hb5⟩))
  have E45 := hb4.trans hb5
  replace p0 := E45.cell p0
  replace p1 := E45.cell p1
  replace p2 := E45.cell p2
  have E15 := E14.trans E45
  clear hp4 hb4 hb5 E14
  go_upto_region 5 with (first | (go_at_call 46; refine (C2.out _ _).mono ?_; rintro e w6 ⟨vp6, rfl, hp6, hb6⟩; obtain ⟨Ap6, cp6, rfl, _, _⟩ := hp6.shape) | (go_at_call 25; refine (C5.out _ _ _ (HS.out.ext RAuth.stable (E15.trans hb6)) hp6).mono ?_; rintro e w7 ⟨⟨A7, cap7, rfl⟩, hb7⟩))
  have E67 := hb6.trans hb7
  replace p0 := E67.cell p0
  replace p1 := E67.cell p1
  replace p2 := E67.cell p2
  go_wp2_with fail
  go_ret
  exact ⟨rfl, E1.trans (E15.trans E67)⟩
end Go.Proofs.Ytaomlmkcifpfkaa
