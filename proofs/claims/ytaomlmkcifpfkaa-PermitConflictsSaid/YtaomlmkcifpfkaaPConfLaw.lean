/- The law PermitConflicts, walked, given the contract of the definition's Cures. -/
import Derived.Test.YtaomlmkcifpfkaaPCures
import Derived.Test.YtaomlmkcifpfkaaPKnown
import Derived.Deep.RegionHeld3
namespace Go.Proofs.Ytaomlmkcifpfkaa
open Go.RowKit Go.Shelf Go.Maps
attribute [local go_sem ↓] Go.wp_at_zero Go.wp_at_succ

set_option maxRecDepth 100000 in
set_option maxHeartbeats 4000000 in
theorem conflicts_law_of (hRC : ∀ (v vp : Value) (l : List PAuth) (t : PTrip) (k : Int) (w : World), Sl 4 RAuth w v l → Sl 3 RPass w vp t.passages → Calls Try.prog 33 #[v, tripV t vp, .int .i64 k] w (CuresR l t k w))
    {v vp : Value} {l : List PAuth} {t : PTrip} {k : Int} (w : World) (hk : -9223372036854775808 ≤ k) (hk2 : k ≤ 9223372036854775807) (hs : Sl 4 RAuth w v l) (hp : Sl 3 RPass w vp t.passages) :
    Calls Try.prog 7 #[v, tripV t vp, .int .i64 k] w fun e w' => e = .returned (.bool true) ∧ Ext w w' := by
  have G := fun w' (h : Ext w w') => great_c v vp l t w' (hs.ext RAuth.stable h) (hp.ext RPass.stable h)
  have KN := fun w' => known_c w'
  have A1 := fun w' (h : Ext w w') => Conflict_c v vp l t k w' hk hk2 (hs.ext RAuth.stable h) (hp.ext RPass.stable h)
  have A2 := fun w' (h : Ext w w') => RConflict_c v vp l t k w' (hs.ext RAuth.stable h) (hp.ext RPass.stable h)
  have B1 := fun w' (h : Ext w w') => Cures_c v vp l t k w' hk hk2 (hs.ext RAuth.stable h) (hp.ext RPass.stable h)
  have B2 := fun w' (h : Ext w w') => hRC v vp l t k w' (hs.ext RAuth.stable h) (hp.ext RPass.stable h)
  have SI := fun va vb cl w' ha hb => sameInts_c va vb cl w' ha hb
  obtain ⟨A, cap, rfl, hl, hcap⟩ := hs.shape
  obtain ⟨Ap, capp, rfl, hpl, hpcap⟩ := hp.shape
  unfold tripV ConflictR CuresR at *
  obtain ⟨⟨ck, cs, ce⟩, ha⟩ : ∃ z, conflictS l t k = z := ⟨_, rfl⟩
  obtain ⟨⟨us, ue⟩, hu⟩ : ∃ z, curesS l t k = z := ⟨_, rfl⟩
  rw [ha] at A1 A2
  rw [hu] at B1 B2
  simp only at A1 A2 B1 B2
  replace G := Lib.hid G
  replace KN := Lib.hid KN
  replace A1 := Lib.hid A1
  replace A2 := Lib.hid A2
  replace B1 := Lib.hid B1
  replace B2 := Lib.hid B2
  replace SI := Lib.hid SI
  clear hs hp ha hu hRC
  go_enter Try.func7, Try.ntmps7
  go_upto_region 1 with fail
  have T0 := TripAt.new t (.slice Ap t.passages.length capp) w
  have E0 : Ext w (w.alloc (.cells #[.int .i64 t.z0, .int .i64 t.z1, .int .i64 t.z2, .int .i64 t.z3, .int .i64 t.z4, .int .i64 t.z5, .slice Ap t.passages.length capp] 26)) := (Ext.refl w).alloc _
  generalize (w.alloc (.cells #[.int .i64 t.z0, .int .i64 t.z1, .int .i64 t.z2, .int .i64 t.z3, .int .i64 t.z4, .int .i64 t.z5, .slice Ap t.passages.length capp] 26)) = W0 at *
  have HT0 := Lib.hid T0
  obtain ⟨t0, t1, t2, t3, t4, t5, t6⟩ := T0
  go_wp2_with fail
  refine (G.out _ E0).mono ?_
  rintro e w1 ⟨⟨b, rfl⟩, hb1⟩
  have E1 := E0.trans hb1
  have T1 := HT0.out.ext hb1
  clear t0 t1 t2 t3 t4 t5 t6 HT0
  cases b
  · have HT1 := Lib.hid T1
    obtain ⟨t0, t1, t2, t3, t4, t5, t6⟩ := T1
    go_upto_region 4 with (go_at_call 25; refine (A1.out _ E1).mono ?_; rintro e w2 ⟨hb2, v1, rfl, h1⟩; obtain ⟨X1, x1, rfl, _, _⟩ := h1.shape)
    have E2 := E1.trans hb2
    have HT2 := Lib.hid (HT1.out.ext hb2)
    have H1 := Lib.hid h1
    clear t0 t1 t2 t3 t4 t5 t6 HT1 A1 E1 hb1 h1
    obtain ⟨t0, t1, t2, t3, t4, t5, t6⟩ := HT2.out
    go_upto_region 5 with (go_at_call 31; refine (A2.out _ E2).mono ?_; rintro e w3 ⟨hb3, v2, rfl, h2⟩; obtain ⟨X2, x2, rfl, _, _⟩ := h2.shape)
    have E3 := E2.trans hb3
    have HT3 := Lib.hid (HT2.out.ext hb3)
    have H2 := Lib.hid h2
    replace H1 := Lib.hid (H1.out.ext RInt.stable hb3)
    clear t0 t1 t2 t3 t4 t5 t6 HT2 A2 E2 hb2 h2
    obtain ⟨t0, t1, t2, t3, t4, t5, t6⟩ := HT3.out
    go_upto_region 6 with (go_at_call 32; refine (B1.out _ E3).mono ?_; rintro e w4 ⟨hb4, v3, rfl, h3⟩; obtain ⟨X3, x3, rfl, _, _⟩ := h3.shape)
    have E4 := E3.trans hb4
    have HT4 := Lib.hid (HT3.out.ext hb4)
    have H3 := Lib.hid h3
    replace H1 := Lib.hid (H1.out.ext RInt.stable hb4)
    replace H2 := Lib.hid (H2.out.ext RInt.stable hb4)
    clear t0 t1 t2 t3 t4 t5 t6 HT3 B1 E3 hb3 h3
    obtain ⟨t0, t1, t2, t3, t4, t5, t6⟩ := HT4.out
    go_upto_region 7 with (go_at_call 33; refine (B2.out _ E4).mono ?_; rintro e w5 ⟨hb5, v4, rfl, h4⟩; obtain ⟨X4, x4, rfl, _, _⟩ := h4.shape)
    have E5 := E4.trans hb5
    have H4 := Lib.hid h4
    replace H1 := Lib.hid (H1.out.ext RInt.stable hb5)
    replace H2 := Lib.hid (H2.out.ext RInt.stable hb5)
    replace H3 := Lib.hid (H3.out.ext RInt.stable hb5)
    clear t0 t1 t2 t3 t4 t5 t6 HT4 B2 E4 hb4 h4 hb5
    go_wp2_with fail
    go_at_call 34
    refine (SI.out _ _ cs _ H1.out H2.out).mono ?_
    rintro e w6 ⟨rfl, hb6⟩
    go_wp2_with fail
    go_at_call 34
    refine (SI.out _ _ us _ (H3.out.ext RInt.stable hb6) (H4.out.ext RInt.stable hb6)).mono ?_
    rintro e w7 ⟨rfl, hb7⟩
    go_wp2_with (go_at_call 13; refine (KN.out _).mono ?_; rintro e w8 ⟨rfl, hb8⟩)
    go_ret
    exact ⟨rfl, E5.trans (hb6.trans (hb7.trans hb8))⟩
  · go_wp2_with (go_at_call 13; refine (KN.out _).mono ?_; rintro e w2 ⟨rfl, hb2⟩)
    go_ret
    exact ⟨rfl, E1.trans hb2⟩
end Go.Proofs.Ytaomlmkcifpfkaa
