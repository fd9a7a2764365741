
/- LCenM: several texts in one. -/
import Derived.Test.YtkkeblgahbpmmaaLCentre
import Derived.Test.YtkkeblgahbpmmaaLEnv
import Derived.Test.YtkkeblgahbpmmaaLShift
import Derived.Test.YtkkeblgahbpmmaaLJoin
import Derived.Test.YtkkeblgahbpmmaaLGreat
import Derived.Test.YtkkeblgahbpmmaaLOpen
import Derived.Test.YtkkeblgahbpmmaaHApp
import Derived.Test.YtkkeblgahbpmmaaLArr3
import Derived.Test.YtkkeblgahbpmmaaLKnown
/- The plain law of LoadCentres: the centre lies in the envelope. -/
namespace Go.Proofs.Ytkkeblgahbpmmaa
open Go.RowKit

theorem cen_one {l : LLoad} (K : LoadOk l) {a b : LPiece → Int} {lo hi : Int} (h : ∀ p ∈ l.pieces, lo ≤ a p ∧ 1 ≤ b p ∧ a p + b p ≤ hi) :
    lo ≤ cenI (massN l.pieces) ((l.pieces.map (fun p => p.mass * (2 * a p + b p))).sum) ∧ cenI (massN l.pieces) ((l.pieces.map (fun p => p.mass * (2 * a p + b p))).sum) ≤ hi := by
  have := centre_in (l := l.pieces) (a := a) (b := b) (lo := lo) (hi := hi) (fun p hp => ⟨(piece_bds (K.pieces p hp)).2.2.2.2.2.2.1, h p hp⟩) K.mass.1
  exact this
theorem env_mem {l : List LPiece} {p : LPiece} (h : p ∈ l) : ((envL l).a ≤ p.x ∧ p.x + p.l ≤ (envL l).d) ∧ ((envL l).b ≤ p.y ∧ p.y + p.w ≤ (envL l).e) ∧ ((envL l).c ≤ p.z ∧ p.z + p.h ≤ (envL l).f) := by
  cases l with
  | nil => cases h
  | cons q l =>
    unfold envL envP
    simp only
    have m1 := minF_le (fun p => p.x) l q
    have m2 := minF_le (fun p => p.y) l q
    have m3 := minF_le (fun p => p.z) l q
    have n1 := le_maxF (fun p => p.x + p.l) l q
    have n2 := le_maxF (fun p => p.y + p.w) l q
    have n3 := le_maxF (fun p => p.z + p.h) l q
    rcases List.mem_cons.1 h with rfl | h
    · exact ⟨⟨m1.1, n1.1⟩, ⟨m2.1, n2.1⟩, m3.1, n3.1⟩
    · exact ⟨⟨m1.2 _ h, n1.2 _ h⟩, ⟨m2.2 _ h, n2.2 _ h⟩, m3.2 _ h, n3.2 _ h⟩
theorem cen_env {l : LLoad} (K : LoadOk l) :
    ((envL l.pieces).a ≤ cenI (massN l.pieces) (momX l.pieces) ∧ cenI (massN l.pieces) (momX l.pieces) ≤ (envL l.pieces).d) ∧
    ((envL l.pieces).b ≤ cenI (massN l.pieces) (momY l.pieces) ∧ cenI (massN l.pieces) (momY l.pieces) ≤ (envL l.pieces).e) ∧
    ((envL l.pieces).c ≤ cenI (massN l.pieces) (momZ l.pieces) ∧ cenI (massN l.pieces) (momZ l.pieces) ≤ (envL l.pieces).f) := by
  have B := fun p hp => piece_bds (K.pieces p hp)
  exact ⟨cen_one K (a := fun p => p.x) (b := fun p => p.l) (fun p hp => ⟨(env_mem hp).1.1, (B p hp).2.2.2.1.1, (env_mem hp).1.2⟩),
    cen_one K (a := fun p => p.y) (b := fun p => p.w) (fun p hp => ⟨(env_mem hp).2.1.1, (B p hp).2.2.2.2.1.1, (env_mem hp).2.1.2⟩),
    cen_one K (a := fun p => p.z) (b := fun p => p.h) (fun p hp => ⟨(env_mem hp).2.2.1, (B p hp).2.2.2.2.2.1.1, (env_mem hp).2.2.2⟩)⟩
end Go.Proofs.Ytkkeblgahbpmmaa
/- The law LoadCentres, walked. -/
namespace Go.Proofs.Ytkkeblgahbpmmaa
open Go.RowKit

theorem shift_in {x y z : Int} (h : shiftOk x y z = true) : (-262144 ≤ x ∧ x ≤ 262144) ∧ (-262144 ≤ y ∧ y ≤ 262144) ∧ (-262144 ≤ z ∧ z ≤ 262144) := by
  unfold shiftOk inB at h
  simp only [Bool.and_eq_true, decide_eq_true_eq] at h
  omega
theorem mul_in {m d : Int} (h : 1 ≤ m ∧ m ≤ 16777216) (hd : -262144 ≤ d ∧ d ≤ 262144) : -8796093022208 ≤ 2 * m * d ∧ 2 * m * d ≤ 8796093022208 := by
  have h1 : 0 ≤ (2 * m) * (262144 - d) := Int.mul_nonneg (by omega) (by omega)
  have h2 : 0 ≤ (2 * m) * (d + 262144) := Int.mul_nonneg (by omega) (by omega)
  rw [Int.mul_sub] at h1
  rw [Int.mul_add] at h2
  omega
/-- what is asked of known -/
def KnownT : Prop := ∀ w : World, Calls Try.prog 7 #[] w fun e w' => e = .returned (.bool true) ∧ Ext w w'
theorem zero_is (w : World) : IsLoad w zeroLoad (.slice none 0 0) (.slice none 0 0) := ⟨⟨none, 0, rfl, by simp [zeroLoad], by simp [zeroLoad], fun i x h => by simp [zeroLoad] at h⟩, ⟨none, 0, rfl, by simp [zeroLoad], by simp [zeroLoad], fun i x h => by simp [zeroLoad] at h⟩⟩
/-- a load that is an answer, with its error -/
def AnsR (l' : LLoad) (ok : Prop) (w : World) (e : Ending) (w' : World) : Prop :=
  Ext w w' ∧ ∃ (E : Int) (l2 : LLoad) (vp ve : Value), e = .returned (.tuple #[loadV l2 vp ve, .int .i64 E]) ∧ IsLoad w' l2 vp ve ∧ (E = 0 → l2 = l' ∧ loadE l' = 0 ∧ ok)
theorem ChgR.ans {l' : LLoad} {b : Nat} {w w' : World} {e : Ending} {ok : Prop} (h : ChgR l' b w e w') (hok : ok) : AnsR l' ok w e w' := by
  obtain ⟨h1, ⟨h2, vp, ve, rfl, h3⟩ | ⟨h2, rfl⟩⟩ := h
  · exact ⟨h1, 0, l', vp, ve, rfl, h3.is, fun _ => ⟨rfl, h2, hok⟩⟩
  · exact ⟨h1, 4, zeroLoad, _, _, rfl, zero_is _, fun h => by omega⟩
theorem Shifted_a (l : LLoad) (vp ve : Value) (d1 d2 d3 : Int) (w : World) (hl : IsLoad w l vp ve) :
    Calls Try.prog 11 #[loadV l vp ve, .int .i64 d1, .int .i64 d2, .int .i64 d3] w (AnsR (shiftedL d1 d2 d3 l) (shiftOk d1 d2 d3 = true) w) := by
  refine (Shifted_c l vp ve d1 d2 d3 w hl).mono ?_
  rintro e w' (⟨h1, rfl, h2⟩ | ⟨h1, h0, rfl, h2⟩ | ⟨h1, h0, h2⟩)
  · exact ⟨h2, _, zeroLoad, _, _, rfl, zero_is _, fun h => absurd h h1⟩
  · exact ⟨h2, _, zeroLoad, _, _, rfl, zero_is _, fun h => by omega⟩
  · exact h2.ans h0
theorem Joined_a (a b : LLoad) (va wa vb wb : Value) (w : World) (ha : IsLoad w a va wa) (hb : IsLoad w b vb wb) :
    Calls Try.prog 13 #[loadV a va wa, loadV b vb wb] w (AnsR (joinedL a b) (loadE b = 0) w) := by
  refine (Joined_c a b va wa vb wb w ha hb).mono ?_
  rintro e w' (⟨h1, rfl, h2⟩ | ⟨h1, h0, rfl, h2⟩ | ⟨h1, h0, h3, rfl, h2⟩ | ⟨h1, h0, h3, h2⟩)
  · exact ⟨h2, _, zeroLoad, _, _, rfl, zero_is _, fun h => absurd h h1⟩
  · exact ⟨h2, _, zeroLoad, _, _, rfl, zero_is _, fun h => absurd h h0⟩
  · exact ⟨h2, _, zeroLoad, _, _, rfl, zero_is _, fun h => by omega⟩
  · exact h2.ans h0
theorem Turned_a (l : LLoad) (vp ve : Value) (q : Int) (w : World) (hl : IsLoad w l vp ve) :
    Calls Try.prog 9 #[loadV l vp ve, .int .i64 q] w (AnsR (turnedL q l) True w) := by
  refine (Turned_c l vp ve q w hl).mono ?_
  rintro e w' (⟨h1, rfl, h2⟩ | ⟨h1, h2⟩)
  · exact ⟨h2, _, zeroLoad, _, _, rfl, zero_is _, fun h => absurd h h1⟩
  · exact h2.ans trivial
theorem Mass_0 {l : LLoad} (h : loadE l = 0) (vp ve : Value) (w : World) (hl : IsLoad w l vp ve) :
    Calls Try.prog 17 #[loadV l vp ve] w fun e w' => e = .returned (.tuple #[.int .i64 (massN l.pieces), .int .i64 0]) ∧ Ext w w' := by
  have := Mass_c l vp ve w hl
  unfold massR at this
  rw [if_pos h, h] at this
  exact this
theorem Moments_0 {l : LLoad} (h : loadE l = 0) (vp ve : Value) (w : World) (hl : IsLoad w l vp ve) :
    Calls Try.prog 18 #[loadV l vp ve] w fun e w' => e = .returned (.tuple #[.agg #[.int .i64 (momX l.pieces), .int .i64 (momY l.pieces), .int .i64 (momZ l.pieces)], .int .i64 0]) ∧ Ext w w' := by
  have := Moments_c l vp ve w hl
  unfold momV at this
  rw [if_pos h, h] at this
  exact this
theorem Centre_0 {l : LLoad} (h : loadE l = 0) (vp ve : Value) (w : World) (hl : IsLoad w l vp ve) :
    Calls Try.prog 19 #[loadV l vp ve] w fun e w' => e = .returned (.tuple #[.agg #[.int .i64 (cenI (massN l.pieces) (momX l.pieces)), .int .i64 (cenI (massN l.pieces) (momY l.pieces)), .int .i64 (cenI (massN l.pieces) (momZ l.pieces))], .int .i64 0]) ∧ Ext w w' := by
  have := Centre_c l vp ve w hl
  unfold cenV at this
  rw [if_pos h, h] at this
  exact this
theorem Envelope_0 {l : LLoad} (h : loadE l = 0) (vp ve : Value) (w : World) (hl : IsLoad w l vp ve) :
    Calls Try.prog 20 #[loadV l vp ve] w fun e w' => e = .returned (envV (envL l.pieces) 0) ∧ Ext w w' := by
  have := Envelope_c l vp ve w hl
  unfold envR at this
  rw [if_pos h, h] at this
  exact this

set_option maxRecDepth 100000 in
set_option maxHeartbeats 3200000 in
theorem cen_great (hkn : KnownT) (a b : LLoad) (va wa vb wb : Value) (dx dy dz : Int) (w : World) (ha : IsLoad w a va wa) (hb : IsLoad w b vb wb) (hg : (greatB a || greatB b) = true) :
    Calls Try.prog 4 #[loadV a va wa, loadV b vb wb, .int .i64 dx, .int .i64 dy, .int .i64 dz] w fun e w' => e = .returned (.bool true) ∧ Ext w w' := by
  have GA := Lib.hid (fun W (h : Ext w W) => great_c a va wa W (ha.ext h))
  have GB := Lib.hid (fun W (h : Ext w W) => great_c b vb wb W (hb.ext h))
  have KN := Lib.hid (fun W => hkn W)
  obtain ⟨A1, A2, c1, c2, rfl, rfl⟩ := is_shape ha
  obtain ⟨B1, B2, d1, d2, rfl, rfl⟩ := is_shape hb
  have HA := Lib.hid ha
  have HB := Lib.hid hb
  clear ha hb
  unfold loadV at *
  have hcc : greatB a = true ∨ (greatB a = false ∧ greatB b = true) := by
    cases h : greatB a
    · exact .inr ⟨rfl, by rw [h] at hg; simpa using hg⟩
    · exact .inl rfl
  clear hg
  generalize greatB a = ga at *
  generalize greatB b = gb at *
  go_enter Try.func4, Try.ntmps4
  go_upto_region 1 with fail
  have ba := lb_alloc (lb_new w (.cells #[.string a.name, .slice A1 a.pieces.length c1, .slice A2 a.eyes.length c2, .int .i64 a.friction] 25)) (.cells #[.string b.name, .slice B1 b.pieces.length d1, .slice B2 b.eyes.length d2, .int .i64 b.friction] 25)
  have bb := lb_new (w.alloc (.cells #[.string a.name, .slice A1 a.pieces.length c1, .slice A2 a.eyes.length c2, .int .i64 a.friction] 25)) (.cells #[.string b.name, .slice B1 b.pieces.length d1, .slice B2 b.eyes.length d2, .int .i64 b.friction] 25)
  simp only [size_alloc] at bb
  have e0 : Ext w ((w.alloc (.cells #[.string a.name, .slice A1 a.pieces.length c1, .slice A2 a.eyes.length c2, .int .i64 a.friction] 25)).alloc (.cells #[.string b.name, .slice B1 b.pieces.length d1, .slice B2 b.eyes.length d2, .int .i64 b.friction] 25)) := ((Ext.refl w).alloc _).alloc _
  generalize ((w.alloc (.cells #[.string a.name, .slice A1 a.pieces.length c1, .slice A2 a.eyes.length c2, .int .i64 a.friction] 25)).alloc (.cells #[.string b.name, .slice B1 b.pieces.length d1, .slice B2 b.eyes.length d2, .int .i64 b.friction] 25)) = W0 at *
  have y0 := lb_cell ba 0 _ rfl
  have y1 := lb_cell ba 1 _ rfl
  have y2 := lb_cell ba 2 _ rfl
  have y3 := lb_cell ba 3 _ rfl
  have t0 := lb_cell bb 0 _ rfl
  have t1 := lb_cell bb 1 _ rfl
  have t2 := lb_cell bb 2 _ rfl
  have t3 := lb_cell bb 3 _ rfl
  have h1l := lb_lt ba
  have h2l := lb_lt bb
  have HB0 := Lib.hid (And.intro ba bb)
  clear ba bb
  rcases hcc with rfl | ⟨rfl, rfl⟩
  · go_wp2_with (first | (go_at_call 6; refine (GA.out _ e0).mono ?_; rintro e w2 ⟨rfl, h2⟩) | (go_at_call 7; refine (KN.out _).mono ?_; rintro e wk ⟨rfl, hk⟩))
    go_ret
    exact ⟨rfl, (e0.trans h2).trans hk⟩
  · go_upto_region 2 with (first | (go_at_call 6; refine (GA.out _ e0).mono ?_; rintro e w2 ⟨rfl, h2⟩; clear GA; replace t0 := h2.cell t0; replace t1 := h2.cell t1; replace t2 := h2.cell t2; replace t3 := h2.cell t3) | (go_at_call 6; refine (GB.out _ (e0.trans h2)).mono ?_; rintro e w3 ⟨rfl, h3⟩))
    go_wp2_with (go_at_call 7; refine (KN.out _).mono ?_; rintro e wk ⟨rfl, hk⟩)
    go_ret
    exact ⟨rfl, ((e0.trans h2).trans h3).trans hk⟩

set_option maxRecDepth 100000 in
set_option maxHeartbeats 6400000 in
theorem cen_bad (hkn : KnownT) (a b : LLoad) (va wa vb wb : Value) (dx dy dz : Int) (w : World) (ha : IsLoad w a va wa) (hb : IsLoad w b vb wb) (hga : greatB a = false) (hgb : greatB b = false) (hE : ¬ loadE a = 0) :
    Calls Try.prog 4 #[loadV a va wa, loadV b vb wb, .int .i64 dx, .int .i64 dy, .int .i64 dz] w fun e w' => e = .returned (.bool true) ∧ Ext w w' := by
  have GA := Lib.hid (fun W (h : Ext w W) => great_c a va wa W (ha.ext h))
  have GB := Lib.hid (fun W (h : Ext w W) => great_c b vb wb W (hb.ext h))
  rw [hga] at GA
  rw [hgb] at GB
  have KN := Lib.hid (fun W => hkn W)
  have CM := Lib.hid (fun W (h : Ext w W) => Mass_c a va wa W (ha.ext h))
  have CO := Lib.hid (fun W (h : Ext w W) => Moments_c a va wa W (ha.ext h))
  obtain ⟨A1, A2, c1, c2, rfl, rfl⟩ := is_shape ha
  obtain ⟨B1, B2, d1, d2, rfl, rfl⟩ := is_shape hb
  have HA := Lib.hid ha
  have HB := Lib.hid hb
  clear ha hb hga hgb
  unfold massR at CM
  unfold momV at CO
  rw [if_neg hE] at CM CO
  unfold loadV at *
  generalize loadE a = E at *
  go_enter Try.func4, Try.ntmps4
  go_upto_region 1 with fail
  have ba := lb_alloc (lb_new w (.cells #[.string a.name, .slice A1 a.pieces.length c1, .slice A2 a.eyes.length c2, .int .i64 a.friction] 25)) (.cells #[.string b.name, .slice B1 b.pieces.length d1, .slice B2 b.eyes.length d2, .int .i64 b.friction] 25)
  have bb := lb_new (w.alloc (.cells #[.string a.name, .slice A1 a.pieces.length c1, .slice A2 a.eyes.length c2, .int .i64 a.friction] 25)) (.cells #[.string b.name, .slice B1 b.pieces.length d1, .slice B2 b.eyes.length d2, .int .i64 b.friction] 25)
  simp only [size_alloc] at bb
  have e0 : Ext w ((w.alloc (.cells #[.string a.name, .slice A1 a.pieces.length c1, .slice A2 a.eyes.length c2, .int .i64 a.friction] 25)).alloc (.cells #[.string b.name, .slice B1 b.pieces.length d1, .slice B2 b.eyes.length d2, .int .i64 b.friction] 25)) := ((Ext.refl w).alloc _).alloc _
  generalize ((w.alloc (.cells #[.string a.name, .slice A1 a.pieces.length c1, .slice A2 a.eyes.length c2, .int .i64 a.friction] 25)).alloc (.cells #[.string b.name, .slice B1 b.pieces.length d1, .slice B2 b.eyes.length d2, .int .i64 b.friction] 25)) = W0 at *
  have y0 := lb_cell ba 0 _ rfl
  have y1 := lb_cell ba 1 _ rfl
  have y2 := lb_cell ba 2 _ rfl
  have y3 := lb_cell ba 3 _ rfl
  have t0 := lb_cell bb 0 _ rfl
  have t1 := lb_cell bb 1 _ rfl
  have t2 := lb_cell bb 2 _ rfl
  have t3 := lb_cell bb 3 _ rfl
  have h1l := lb_lt ba
  have h2l := lb_lt bb
  have HB0 := Lib.hid (And.intro ba bb)
  clear ba bb
  go_upto_region 3 with (first | (go_at_call 6; refine (GA.out _ e0).mono ?_; rintro e w2 ⟨rfl, h2⟩; clear GA; have e2 := e0.trans h2; replace y0 := h2.cell y0; replace y1 := h2.cell y1; replace y2 := h2.cell y2; replace y3 := h2.cell y3; replace t0 := h2.cell t0; replace t1 := h2.cell t1; replace t2 := h2.cell t2; replace t3 := h2.cell t3) | (go_at_call 6; refine (GB.out _ e2).mono ?_; rintro e w3 ⟨rfl, h3⟩; have e3 := e2.trans h3; clear GB; replace y0 := h3.cell y0; replace y1 := h3.cell y1; replace y2 := h3.cell y2; replace y3 := h3.cell y3; replace t0 := h3.cell t0; replace t1 := h3.cell t1; replace t2 := h3.cell t2; replace t3 := h3.cell t3))
  have hE1 : (E == 0) = false := by simpa using hE
  go_wp2_with (first | (go_at_call 17; refine (CM.out _ e3).mono ?_; rintro e w4 ⟨rfl, h4⟩; have e4 := e3.trans h4; clear CM; replace y0 := h4.cell y0; replace y1 := h4.cell y1; replace y2 := h4.cell y2; replace y3 := h4.cell y3) | (go_at_call 18; refine (CO.out _ e4).mono ?_; rintro e w5 ⟨rfl, h5⟩; have e5 := e4.trans h5; clear CO) | (go_at_call 7; refine (KN.out _).mono ?_; rintro e wk ⟨rfl, hk⟩))
  go_ret
  exact ⟨rfl, Ext.trans (Ext.alloc e5 _) hk⟩

set_option maxRecDepth 100000 in
set_option maxHeartbeats 6400000 in
theorem cen_ok (hkn : KnownT) (a b : LLoad) (va wa vb wb : Value) (dx dy dz : Int) (w : World) (ha : IsLoad w a va wa) (hb : IsLoad w b vb wb) (hga : greatB a = false) (hgb : greatB b = false) (hE : loadE a = 0) :
    Calls Try.prog 4 #[loadV a va wa, loadV b vb wb, .int .i64 dx, .int .i64 dy, .int .i64 dz] w fun e w' => e = .returned (.bool true) ∧ Ext w w' := by
  have GA := Lib.hid (fun W (h : Ext w W) => great_c a va wa W (ha.ext h))
  have GB := Lib.hid (fun W (h : Ext w W) => great_c b vb wb W (hb.ext h))
  rw [hga] at GA
  rw [hgb] at GB
  have KN := Lib.hid (fun W => hkn W)
  have CM := Lib.hid (fun W (h : Ext w W) => Mass_0 hE va wa W (ha.ext h))
  have CO := Lib.hid (fun W (h : Ext w W) => Moments_0 hE va wa W (ha.ext h))
  have CC := Lib.hid (fun W (h : Ext w W) => Centre_0 hE va wa W (ha.ext h))
  have CV := Lib.hid (fun W (h : Ext w W) => Envelope_0 hE va wa W (ha.ext h))
  have CT := Lib.hid (fun W (h : Ext w W) => Turned_a a va wa 1 W (ha.ext h))
  have CS := Lib.hid (fun W (h : Ext w W) => Shifted_a a va wa dx dy dz W (ha.ext h))
  have CJ := Lib.hid (fun W (h : Ext w W) => Joined_a a b va wa vb wb W (ha.ext h) (hb.ext h))
  have K := load_ok hE
  have CE := cen_env K
  obtain ⟨mm1, mm2⟩ := all_bds K.pieces (by have := K.n2; omega)
  have hm1 := K.mass
  have TM := turn_mom a.pieces
  have SM := shift_mom dx dy dz a.pieces
  have JM := join_mom a.pieces b.pieces
  have TP : (turnedL 1 a).pieces = a.pieces.map quarterP := rfl
  have SP : (shiftedL dx dy dz a).pieces = a.pieces.map (shiftP dx dy dz) := rfl
  have JP : (joinedL a b).pieces = a.pieces ++ b.pieces := rfl
  obtain ⟨A1, A2, c1, c2, rfl, rfl⟩ := is_shape ha
  obtain ⟨B1, B2, d1, d2, rfl, rfl⟩ := is_shape hb
  have HA := Lib.hid ha
  have HB := Lib.hid hb
  have HS := Lib.hid (And.intro TP (And.intro SP (And.intro JP (And.intro TM (And.intro SM JM)))))
  have KB := Lib.hid (@load_ok b)
  have KJ := Lib.hid (@load_ok (joinedL a b))
  clear ha hb hga hgb hE TP SP JP TM SM JM K
  unfold AnsR loadV envV at *
  generalize hem : envL a.pieces = EV at *
  obtain ⟨ea, eb, ec, ed, ee, ef⟩ := EV
  generalize hcx : cenI (massN a.pieces) (momX a.pieces) = cx at *
  generalize hcy : cenI (massN a.pieces) (momY a.pieces) = cy at *
  generalize hcz : cenI (massN a.pieces) (momZ a.pieces) = cz at *
  clear hem hcx hcy hcz
  simp only at CE CV
  obtain ⟨⟨ce1, ce2⟩, ⟨ce3, ce4⟩, ce5, ce6⟩ := CE
  generalize hm : massN a.pieces = m at *
  generalize hmx : momX a.pieces = mx at *
  generalize hmy : momY a.pieces = my at *
  generalize hmz : momZ a.pieces = mz at *
  clear hm hmx hmy hmz
  have HMM := Lib.hid (And.intro mm1 mm2)
  have HM1 := Lib.hid hm1
  obtain ⟨hm1, _⟩ := hm1
  clear mm1 mm2
  go_enter Try.func4, Try.ntmps4
  go_upto_region 1 with fail
  have ba := lb_alloc (lb_new w (.cells #[.string a.name, .slice A1 a.pieces.length c1, .slice A2 a.eyes.length c2, .int .i64 a.friction] 25)) (.cells #[.string b.name, .slice B1 b.pieces.length d1, .slice B2 b.eyes.length d2, .int .i64 b.friction] 25)
  have bb := lb_new (w.alloc (.cells #[.string a.name, .slice A1 a.pieces.length c1, .slice A2 a.eyes.length c2, .int .i64 a.friction] 25)) (.cells #[.string b.name, .slice B1 b.pieces.length d1, .slice B2 b.eyes.length d2, .int .i64 b.friction] 25)
  simp only [size_alloc] at bb
  have e0 : Ext w ((w.alloc (.cells #[.string a.name, .slice A1 a.pieces.length c1, .slice A2 a.eyes.length c2, .int .i64 a.friction] 25)).alloc (.cells #[.string b.name, .slice B1 b.pieces.length d1, .slice B2 b.eyes.length d2, .int .i64 b.friction] 25)) := ((Ext.refl w).alloc _).alloc _
  generalize ((w.alloc (.cells #[.string a.name, .slice A1 a.pieces.length c1, .slice A2 a.eyes.length c2, .int .i64 a.friction] 25)).alloc (.cells #[.string b.name, .slice B1 b.pieces.length d1, .slice B2 b.eyes.length d2, .int .i64 b.friction] 25)) = W0 at *
  have y0 := lb_cell ba 0 _ rfl
  have y1 := lb_cell ba 1 _ rfl
  have y2 := lb_cell ba 2 _ rfl
  have y3 := lb_cell ba 3 _ rfl
  have t0 := lb_cell bb 0 _ rfl
  have t1 := lb_cell bb 1 _ rfl
  have t2 := lb_cell bb 2 _ rfl
  have t3 := lb_cell bb 3 _ rfl
  have h1l := lb_lt ba
  have h2l := lb_lt bb
  have HB0 := Lib.hid (And.intro ba bb)
  clear ba bb
  go_upto_region 3 with (first | (go_at_call 6; refine (GA.out _ e0).mono ?_; rintro e w2 ⟨rfl, h2⟩; clear GA; have e2 := e0.trans h2; replace y0 := h2.cell y0; replace y1 := h2.cell y1; replace y2 := h2.cell y2; replace y3 := h2.cell y3; replace t0 := h2.cell t0; replace t1 := h2.cell t1; replace t2 := h2.cell t2; replace t3 := h2.cell t3) | (go_at_call 6; refine (GB.out _ e2).mono ?_; rintro e w3 ⟨rfl, h3⟩; have e3 := e2.trans h3; clear GB; replace y0 := h3.cell y0; replace y1 := h3.cell y1; replace y2 := h3.cell y2; replace y3 := h3.cell y3; replace t0 := h3.cell t0; replace t1 := h3.cell t1; replace t2 := h3.cell t2; replace t3 := h3.cell t3))
  go_upto_region 4 with (go_at_call 17; refine (CM.out _ e3).mono ?_; rintro e w4 ⟨rfl, h4⟩; have e4 := e3.trans h4; clear CM; replace y0 := h4.cell y0; replace y1 := h4.cell y1; replace y2 := h4.cell y2; replace y3 := h4.cell y3; replace t0 := h4.cell t0; replace t1 := h4.cell t1; replace t2 := h4.cell t2; replace t3 := h4.cell t3)
  go_upto_region 7 with (go_at_call 18; refine (CO.out _ e4).mono ?_; rintro e w5 ⟨rfl, h5⟩; have e5 := e4.trans h5; clear CO; replace y0 := h5.cell y0; replace y1 := h5.cell y1; replace y2 := h5.cell y2; replace y3 := h5.cell y3; replace t0 := h5.cell t0; replace t1 := h5.cell t1; replace t2 := h5.cell t2; replace t3 := h5.cell t3)

  have bm := lb_new w5 (.cells #[.int .i64 mx, .int .i64 my, .int .i64 mz] 40)
  have eW6 := (Ext.refl w5).alloc (.cells #[.int .i64 mx, .int .i64 my, .int .i64 mz] 40)
  have e6 := e5.trans eW6
  generalize (w5.alloc (.cells #[.int .i64 mx, .int .i64 my, .int .i64 mz] 40)) = w6 at *
  generalize w5.heap.size = km at *
  replace y0 := eW6.cell y0; replace y1 := eW6.cell y1; replace y2 := eW6.cell y2; replace y3 := eW6.cell y3; replace t0 := eW6.cell t0; replace t1 := eW6.cell t1; replace t2 := eW6.cell t2; replace t3 := eW6.cell t3
  go_upto_region 8 with (go_at_call 19; refine (CC.out _ e6).mono ?_; rintro e w7 ⟨rfl, h7⟩; have e7 := e6.trans h7; clear CC; replace bm := lb_ext bm h7; replace y0 := h7.cell y0; replace y1 := h7.cell y1; replace y2 := h7.cell y2; replace y3 := h7.cell y3; replace t0 := h7.cell t0; replace t1 := h7.cell t1; replace t2 := h7.cell t2; replace t3 := h7.cell t3)
  have bc := lb_new w7 (.cells #[.int .i64 cx, .int .i64 cy, .int .i64 cz] 40)
  have eW8 := (Ext.refl w7).alloc (.cells #[.int .i64 cx, .int .i64 cy, .int .i64 cz] 40)
  have e8 := e7.trans eW8
  generalize (w7.alloc (.cells #[.int .i64 cx, .int .i64 cy, .int .i64 cz] 40)) = w8 at *
  generalize w7.heap.size = kc at *
  replace bm := lb_ext bm eW8
  replace y0 := eW8.cell y0; replace y1 := eW8.cell y1; replace y2 := eW8.cell y2; replace y3 := eW8.cell y3; replace t0 := eW8.cell t0; replace t1 := eW8.cell t1; replace t2 := eW8.cell t2; replace t3 := eW8.cell t3
  go_upto_region 9 with (go_at_call 20; refine (CV.out _ e8).mono ?_; rintro e w9 ⟨rfl, h9⟩; have e9 := e8.trans h9; clear CV; replace bm := lb_ext bm h9; replace bc := lb_ext bc h9; replace y0 := h9.cell y0; replace y1 := h9.cell y1; replace y2 := h9.cell y2; replace y3 := h9.cell y3; replace t0 := h9.cell t0; replace t1 := h9.cell t1; replace t2 := h9.cell t2; replace t3 := h9.cell t3)
  have bl := lb_alloc (lb_new w9 (.cells #[.int .i64 ea, .int .i64 eb, .int .i64 ec] 40)) (.cells #[.int .i64 ed, .int .i64 ee, .int .i64 ef] 40)
  have bh := lb_new (w9.alloc (.cells #[.int .i64 ea, .int .i64 eb, .int .i64 ec] 40)) (.cells #[.int .i64 ed, .int .i64 ee, .int .i64 ef] 40)
  simp only [size_alloc] at bh
  have eWa : Ext w9 ((w9.alloc (.cells #[.int .i64 ea, .int .i64 eb, .int .i64 ec] 40)).alloc (.cells #[.int .i64 ed, .int .i64 ee, .int .i64 ef] 40)) := ((Ext.refl w9).alloc _).alloc _
  have eA := e9.trans eWa
  generalize ((w9.alloc (.cells #[.int .i64 ea, .int .i64 eb, .int .i64 ec] 40)).alloc (.cells #[.int .i64 ed, .int .i64 ee, .int .i64 ef] 40)) = wa at *
  replace bm := lb_ext bm eWa
  replace bc := lb_ext bc eWa
  replace y0 := eWa.cell y0; replace y1 := eWa.cell y1; replace y2 := eWa.cell y2; replace y3 := eWa.cell y3; replace t0 := eWa.cell t0; replace t1 := eWa.cell t1; replace t2 := eWa.cell t2; replace t3 := eWa.cell t3
  have HBL := Lib.hid (And.intro bm (And.intro bc (And.intro bl bh)))
  have kl1 := lb_lt bm
  have kl2 := lb_lt bc
  have kl3 := lb_lt bl
  have kl4 := lb_lt bh
  have HY := Lib.hid (And.intro y0 (And.intro y1 (And.intro y2 (And.intro y3 (And.intro t0 (And.intro t1 (And.intro t2 t3)))))))
  have HEA := Lib.hid (And.intro e9 eA)
  clear bm bc bl bh e0 e2 e3 e4 e5 e6 e7 e8 e9 eA h2 h3 h4 h5 h7 h9 eW6 eW8 eWa y0 y1 y2 y3 t0 t1 t2 t3 h1l h2l
  go_wp2_with fail
  go_loopw [20] (fun i wr => ∃ k : Nat, k ≤ 3 ∧ i = .int .i64 k ∧ Ext wa wr) (fun i _ => 3 - (intOf i).toNat)
  case atStart => exact ⟨0, by omega, rfl, Ext.refl _⟩
  case round =>
    obtain ⟨k, hk, rfl, hE⟩ := hrel
    obtain ⟨w10, hw10⟩ : ∃ z : World, z = wr := ⟨_, rfl⟩
    subst hw10
    rcases (show k = 0 ∨ k = 1 ∨ k = 2 ∨ k = 3 by omega) with rfl | rfl | rfl | rfl
    · have v0 := lb_cell (lb_ext HBL.out.2.1 hE) 0 _ rfl
      have v1 := lb_cell (lb_ext HBL.out.2.2.1 hE) 0 _ rfl
      have v2 := lb_cell (lb_ext HBL.out.2.2.2 hE) 0 _ rfl
      have g1 : decide (cx < ea) = false := by simp; omega
      have g2 : decide (ed < cx) = false := by simp; omega
      go_upto_region 14 with fail
      (refine wp_region_ext (C := fun w' => Ext w10 w') (by kernel_rfl) (by kernel_rfl) (by (repeat' (first | exact Ext.refl _ | assumption | refine Ext.alloc ?_ _ | refine Ext.drew ?_ | refine Ext.drewN ?_ _ | refine Ext.set ?_ (by first | exact Nat.le_refl _ | exact le1 _ | exact le2 _ | exact le3 _ | exact le4 _ | exact le5 _ | exact le6 _) _ | refine Ext.trans ?_ (by assumption)))) ?_; (repeat (with_reducible refine wpQuiet_step (fun K hK => ?_); go_simp; first | (refine hK _ ?_; clear hK K) | (apply Exists.intro; refine ⟨fun w' hC => ?_, hK _ ?_⟩; (focus first | with_reducible rfl | (have q0 := hC.cell v0; have q1 := hC.cell v1; have q2 := hC.cell v2; go_simp; done) | (have q0 := hC.cell v0; have q1 := hC.cell v1; have q2 := hC.cell v2; go_simp; exact ⟨rfl, rfl⟩) | (have q0 := hC.cell v0; have q1 := hC.cell v1; have q2 := hC.cell v2; go_simp; with_reducible rfl)); clear hK K))); refine wpQuiet_nil ?_; intro wq hEq)
      go_wp2_with fail
      exact ⟨⟨1, by omega, by go_num, hE.trans hEq⟩, by simp [intOf]⟩
    · have v0 := lb_cell (lb_ext HBL.out.2.1 hE) 1 _ rfl
      have v1 := lb_cell (lb_ext HBL.out.2.2.1 hE) 1 _ rfl
      have v2 := lb_cell (lb_ext HBL.out.2.2.2 hE) 1 _ rfl
      have g1 : decide (cy < eb) = false := by simp; omega
      have g2 : decide (ee < cy) = false := by simp; omega
      go_upto_region 14 with fail
      (refine wp_region_ext (C := fun w' => Ext w10 w') (by kernel_rfl) (by kernel_rfl) (by (repeat' (first | exact Ext.refl _ | assumption | refine Ext.alloc ?_ _ | refine Ext.drew ?_ | refine Ext.drewN ?_ _ | refine Ext.set ?_ (by first | exact Nat.le_refl _ | exact le1 _ | exact le2 _ | exact le3 _ | exact le4 _ | exact le5 _ | exact le6 _) _ | refine Ext.trans ?_ (by assumption)))) ?_; (repeat (with_reducible refine wpQuiet_step (fun K hK => ?_); go_simp; first | (refine hK _ ?_; clear hK K) | (apply Exists.intro; refine ⟨fun w' hC => ?_, hK _ ?_⟩; (focus first | with_reducible rfl | (have q0 := hC.cell v0; have q1 := hC.cell v1; have q2 := hC.cell v2; go_simp; done) | (have q0 := hC.cell v0; have q1 := hC.cell v1; have q2 := hC.cell v2; go_simp; exact ⟨rfl, rfl⟩) | (have q0 := hC.cell v0; have q1 := hC.cell v1; have q2 := hC.cell v2; go_simp; with_reducible rfl)); clear hK K))); refine wpQuiet_nil ?_; intro wq hEq)
      go_wp2_with fail
      exact ⟨⟨2, by omega, by go_num, hE.trans hEq⟩, by simp [intOf]⟩
    · have v0 := lb_cell (lb_ext HBL.out.2.1 hE) 2 _ rfl
      have v1 := lb_cell (lb_ext HBL.out.2.2.1 hE) 2 _ rfl
      have v2 := lb_cell (lb_ext HBL.out.2.2.2 hE) 2 _ rfl
      have g1 : decide (cz < ec) = false := by simp; omega
      have g2 : decide (ef < cz) = false := by simp; omega
      go_upto_region 14 with fail
      (refine wp_region_ext (C := fun w' => Ext w10 w') (by kernel_rfl) (by kernel_rfl) (by (repeat' (first | exact Ext.refl _ | assumption | refine Ext.alloc ?_ _ | refine Ext.drew ?_ | refine Ext.drewN ?_ _ | refine Ext.set ?_ (by first | exact Nat.le_refl _ | exact le1 _ | exact le2 _ | exact le3 _ | exact le4 _ | exact le5 _ | exact le6 _) _ | refine Ext.trans ?_ (by assumption)))) ?_; (repeat (with_reducible refine wpQuiet_step (fun K hK => ?_); go_simp; first | (refine hK _ ?_; clear hK K) | (apply Exists.intro; refine ⟨fun w' hC => ?_, hK _ ?_⟩; (focus first | with_reducible rfl | (have q0 := hC.cell v0; have q1 := hC.cell v1; have q2 := hC.cell v2; go_simp; done) | (have q0 := hC.cell v0; have q1 := hC.cell v1; have q2 := hC.cell v2; go_simp; exact ⟨rfl, rfl⟩) | (have q0 := hC.cell v0; have q1 := hC.cell v1; have q2 := hC.cell v2; go_simp; with_reducible rfl)); clear hK K))); refine wpQuiet_nil ?_; intro wq hEq)
      go_wp2_with fail
      exact ⟨⟨3, by omega, by go_num, hE.trans hEq⟩, by simp [intOf]⟩
    · have e10 := HEA.out.2.trans hE
      have bm := lb_ext HBL.out.1 hE
      obtain ⟨y0, y1, y2, y3, t0, t1, t2, t3⟩ := HY.out
      replace y0 := hE.cell y0; replace y1 := hE.cell y1; replace y2 := hE.cell y2; replace y3 := hE.cell y3; replace t0 := hE.cell t0; replace t1 := hE.cell t1; replace t2 := hE.cell t2; replace t3 := hE.cell t3
      clear hE HEA HY HBL kl1 kl2 kl3 kl4 ce1 ce2 ce3 ce4 ce5 ce6
      have h1l := World.block_lt_of_cell? _ _ y0
      have h2l := World.block_lt_of_cell? _ _ t0
      simp only at h1l h2l
      go_upto_region 17 with (go_at_call 9; refine (CT.out _ e10).mono ?_; rintro e w11 ⟨h11, E10, l10, vp10, ve10, rfl, i10, o10⟩; have e11 := e10.trans h11; clear CT; obtain ⟨X1, X2, x1, x2, rfl, rfl⟩ := is_shape i10; replace bm := lb_ext bm h11; replace y0 := h11.cell y0; replace y1 := h11.cell y1; replace y2 := h11.cell y2; replace y3 := h11.cell y3; replace t0 := h11.cell t0; replace t1 := h11.cell t1; replace t2 := h11.cell t2; replace t3 := h11.cell t3)
      have br := lb_new w11 (.cells #[.string l10.name, .slice X1 l10.pieces.length x1, .slice X2 l10.eyes.length x2, .int .i64 l10.friction] 25)
      have eX := (Ext.refl w11).alloc (.cells #[.string l10.name, .slice X1 l10.pieces.length x1, .slice X2 l10.eyes.length x2, .int .i64 l10.friction] 25)
      have e12 := e11.trans eX
      replace i10 := IsLoad.ext i10 eX
      generalize (w11.alloc (.cells #[.string l10.name, .slice X1 l10.pieces.length x1, .slice X2 l10.eyes.length x2, .int .i64 l10.friction] 25)) = w12 at *
      replace bm := lb_ext bm eX
      replace y0 := eX.cell y0; replace y1 := eX.cell y1; replace y2 := eX.cell y2; replace y3 := eX.cell y3; replace t0 := eX.cell t0; replace t1 := eX.cell t1; replace t2 := eX.cell t2; replace t3 := eX.cell t3
      have r0 := lb_cell br 0 _ rfl
      have r1 := lb_cell br 1 _ rfl
      have r2 := lb_cell br 2 _ rfl
      have r3 := lb_cell br 3 _ rfl
      have rl := lb_lt br
      have HI10 := Lib.hid (And.intro i10 o10)
      clear i10 o10 eX h11
      go_upto_if 112 with fail
      go_cut [22, 23] from 113 to 131 (fun s22 s23 wc => Ext w12 wc)
      case first =>
        by_cases hz : E10 = 0
        · obtain ⟨hl, hq, hok⟩ := HI10.out.2 hz
          subst hz
          have CO1 := Moments_0 (l := l10) (by rw [hl]; exact hq) _ _ w12 HI10.out.1
          have q1 : momX l10.pieces = -my := by rw [hl, HS.out.1]; exact HS.out.2.2.2.1.1
          have q2 : momY l10.pieces = mx := by rw [hl, HS.out.1]; exact HS.out.2.2.2.1.2.1
          have q3 : momZ l10.pieces = mz := by rw [hl, HS.out.1]; exact HS.out.2.2.2.1.2.2
          rw [q1, q2, q3] at CO1
          clear q1 q2 q3
          have wy := IntWalk.i64_in (-my) (by have := HMM.out; omega)
          have hne := fun w => neq3_same (-my) mx mz w
          unfold loadV at CO1
          replace CO1 := Lib.hid CO1
          clear hl hq hok
          go_wp2_with (go_at_call 18; refine CO1.out.mono ?_; rintro e w13 ⟨rfl, h13⟩; clear CO1; replace bm := lb_ext bm h13; have m0 := lb_cell bm 0 _ rfl; have m1 := lb_cell bm 1 _ rfl; have m2 := lb_cell bm 2 _ rfl; have ml := lb_lt bm)
          go_meet
          exact Ext.alloc h13 _
        · have hz1 : (E10 == 0) = false := by simpa using hz
          go_wp2_with fail
          go_meet
          exact Ext.refl _
      case rest =>
      generalize wc = w13 at *
      have e13 := e12.trans hcut
      replace bm := lb_ext bm hcut
      replace y0 := hcut.cell y0; replace y1 := hcut.cell y1; replace y2 := hcut.cell y2; replace y3 := hcut.cell y3; replace t0 := hcut.cell t0; replace t1 := hcut.cell t1; replace t2 := hcut.cell t2; replace t3 := hcut.cell t3
      clear hcut br r0 r1 r2 r3 rl HI10 e11 e12
      go_upto_region 22 with (go_at_call 11; refine (CS.out _ e13).mono ?_; rintro e w14 ⟨h14, E13, l13, vp13, ve13, rfl, i13, o13⟩; have e14 := e13.trans h14; clear CS; obtain ⟨U1, U2, u1, u2, rfl, rfl⟩ := is_shape i13; replace bm := lb_ext bm h14; replace y0 := h14.cell y0; replace y1 := h14.cell y1; replace y2 := h14.cell y2; replace y3 := h14.cell y3; replace t0 := h14.cell t0; replace t1 := h14.cell t1; replace t2 := h14.cell t2; replace t3 := h14.cell t3)
      have br := lb_new w14 (.cells #[.string l13.name, .slice U1 l13.pieces.length u1, .slice U2 l13.eyes.length u2, .int .i64 l13.friction] 25)
      have eX := (Ext.refl w14).alloc (.cells #[.string l13.name, .slice U1 l13.pieces.length u1, .slice U2 l13.eyes.length u2, .int .i64 l13.friction] 25)
      have e15 := e14.trans eX
      replace i13 := IsLoad.ext i13 eX
      generalize (w14.alloc (.cells #[.string l13.name, .slice U1 l13.pieces.length u1, .slice U2 l13.eyes.length u2, .int .i64 l13.friction] 25)) = w15 at *
      replace bm := lb_ext bm eX
      replace y0 := eX.cell y0; replace y1 := eX.cell y1; replace y2 := eX.cell y2; replace y3 := eX.cell y3; replace t0 := eX.cell t0; replace t1 := eX.cell t1; replace t2 := eX.cell t2; replace t3 := eX.cell t3
      have r0 := lb_cell br 0 _ rfl
      have r1 := lb_cell br 1 _ rfl
      have r2 := lb_cell br 2 _ rfl
      have r3 := lb_cell br 3 _ rfl
      have rl := lb_lt br
      have HI13 := Lib.hid (And.intro i13 o13)
      clear i13 o13 eX h14
      go_upto_if 141 with fail
      go_cut [25, 26] from 142 to 174 (fun s25 s26 wc => Ext w15 wc)
      case first =>
        by_cases hz : E13 = 0
        · obtain ⟨hl, hq, hok⟩ := HI13.out.2 hz
          subst hz
          have CO1 := Moments_0 (l := l13) (by rw [hl]; exact hq) _ _ w15 HI13.out.1
          have q1 : momX l13.pieces = mx + 2 * m * dx := by rw [hl, HS.out.2.1]; exact HS.out.2.2.2.2.1.1
          have q2 : momY l13.pieces = my + 2 * m * dy := by rw [hl, HS.out.2.1]; exact HS.out.2.2.2.2.1.2.1
          have q3 : momZ l13.pieces = mz + 2 * m * dz := by rw [hl, HS.out.2.1]; exact HS.out.2.2.2.2.1.2.2
          rw [q1, q2, q3] at CO1
          clear q1 q2 q3
          obtain ⟨k1, k2, k3⟩ := shift_in hok
          have b1 := mul_in (d := dx) HM1.out k1
          have b2 := mul_in (d := dy) HM1.out k2
          have b3 := mul_in (d := dz) HM1.out k3
          have ww := IntWalk.i64_in (2 * m) (by have := HM1.out; omega)
          have w1 := IntWalk.i64_in (2 * m * dx) (by omega)
          have w2' := IntWalk.i64_in (2 * m * dy) (by omega)
          have w3' := IntWalk.i64_in (2 * m * dz) (by omega)
          have w4' := IntWalk.i64_in (mx + 2 * m * dx) (by have := HMM.out; omega)
          have w5' := IntWalk.i64_in (my + 2 * m * dy) (by have := HMM.out; omega)
          have w6' := IntWalk.i64_in (mz + 2 * m * dz) (by have := HMM.out; omega)
          have hne := fun w => neq3_same (mx + 2 * m * dx) (my + 2 * m * dy) (mz + 2 * m * dz) w
          unfold loadV at CO1
          replace CO1 := Lib.hid CO1
          clear hl hq hok b1 b2 b3 k1 k2 k3
          go_wp2_with (go_at_call 18; refine CO1.out.mono ?_; rintro e w16 ⟨rfl, h16⟩; clear CO1; replace bm := lb_ext bm h16; have m0 := lb_cell bm 0 _ rfl; have m1 := lb_cell bm 1 _ rfl; have m2 := lb_cell bm 2 _ rfl; have ml := lb_lt bm)
          go_meet
          exact Ext.alloc h16 _
        · have hz1 : (E13 == 0) = false := by simpa using hz
          go_wp2_with fail
          go_meet
          exact Ext.refl _
      case rest =>
      generalize wc = w16 at *
      have e16 := e15.trans hcut
      replace bm := lb_ext bm hcut
      replace y0 := hcut.cell y0; replace y1 := hcut.cell y1; replace y2 := hcut.cell y2; replace y3 := hcut.cell y3; replace t0 := hcut.cell t0; replace t1 := hcut.cell t1; replace t2 := hcut.cell t2; replace t3 := hcut.cell t3
      clear hcut br r0 r1 r2 r3 rl HI13 e14 e15
      go_upto_region 27 with (go_at_call 13; refine (CJ.out _ e16).mono ?_; rintro e w17 ⟨h17, E16, l16, vp16, ve16, rfl, i16, o16⟩; have e17 := e16.trans h17; clear CJ; obtain ⟨V1, V2, v1, v2, rfl, rfl⟩ := is_shape i16; replace bm := lb_ext bm h17; replace y0 := h17.cell y0; replace y1 := h17.cell y1; replace y2 := h17.cell y2; replace y3 := h17.cell y3; replace t0 := h17.cell t0; replace t1 := h17.cell t1; replace t2 := h17.cell t2; replace t3 := h17.cell t3)
      have br := lb_new w17 (.cells #[.string l16.name, .slice V1 l16.pieces.length v1, .slice V2 l16.eyes.length v2, .int .i64 l16.friction] 25)
      have eX := (Ext.refl w17).alloc (.cells #[.string l16.name, .slice V1 l16.pieces.length v1, .slice V2 l16.eyes.length v2, .int .i64 l16.friction] 25)
      have e18 := e17.trans eX
      replace i16 := IsLoad.ext i16 eX
      generalize (w17.alloc (.cells #[.string l16.name, .slice V1 l16.pieces.length v1, .slice V2 l16.eyes.length v2, .int .i64 l16.friction] 25)) = w18 at *
      replace bm := lb_ext bm eX
      replace y0 := eX.cell y0; replace y1 := eX.cell y1; replace y2 := eX.cell y2; replace y3 := eX.cell y3; replace t0 := eX.cell t0; replace t1 := eX.cell t1; replace t2 := eX.cell t2; replace t3 := eX.cell t3
      have r0 := lb_cell br 0 _ rfl
      have r1 := lb_cell br 1 _ rfl
      have r2 := lb_cell br 2 _ rfl
      have r3 := lb_cell br 3 _ rfl
      have rl := lb_lt br
      have HI16 := Lib.hid (And.intro i16 o16)
      clear i16 o16 eX h17
      go_upto_if 182 with fail
      go_cut [28, 29, 30, 31, 32, 33, 34, 35] from 183 to 237 (fun s28 s29 s30 s31 s32 s33 s34 s35 wc => Ext w18 wc)
      case first =>
        by_cases hz : E16 = 0
        · obtain ⟨hl, hq, hok⟩ := HI16.out.2 hz
          subst hz
          have KJ1 := hq
          have CO1 := Moments_0 (l := l16) (by rw [hl]; exact hq) _ _ w18 HI16.out.1
          have CO2 := fun W (h : Ext w W) => Moments_0 hok _ _ W (HB.out.ext h)
          have CO3 := fun W (h : Ext w18 W) => Mass_0 (l := l16) (by rw [hl]; exact hq) _ _ W (HI16.out.1.ext h)
          have CO4 := fun W (h : Ext w W) => Mass_0 hok _ _ W (HB.out.ext h)
          have q1 : momX l16.pieces = mx + momX b.pieces := by rw [hl, HS.out.2.2.1]; exact HS.out.2.2.2.2.2.1
          have q2 : momY l16.pieces = my + momY b.pieces := by rw [hl, HS.out.2.2.1]; exact HS.out.2.2.2.2.2.2.1
          have q3 : momZ l16.pieces = mz + momZ b.pieces := by rw [hl, HS.out.2.2.1]; exact HS.out.2.2.2.2.2.2.2.1
          have q4 : massN l16.pieces = m + massN b.pieces := by rw [hl, HS.out.2.2.1]; exact HS.out.2.2.2.2.2.2.2.2
          rw [q1, q2, q3] at CO1
          simp only [q4] at CO3
          have KB1 := KB.out hok
          obtain ⟨nn1, nn2⟩ := all_bds KB1.pieces (by have := KB1.n2; omega)
          have nm1 := KB1.mass
          clear q1 q2 q3 q4 KB1
          generalize momX b.pieces = nx at *
          generalize momY b.pieces = ny at *
          generalize momZ b.pieces = nz at *
          generalize massN b.pieces = n at *
          have ww := IntWalk.i64_in (m + n) (by have := HM1.out; omega)
          have w1 := IntWalk.i64_in (mx + nx) (by have := HMM.out; omega)
          have w2' := IntWalk.i64_in (my + ny) (by have := HMM.out; omega)
          have w3' := IntWalk.i64_in (mz + nz) (by have := HMM.out; omega)
          have hne := fun w => neq3_same (mx + nx) (my + ny) (mz + nz) w
          unfold loadV at CO1 CO2 CO3 CO4
          replace CO1 := Lib.hid CO1
          replace CO2 := Lib.hid CO2
          replace CO3 := Lib.hid CO3
          replace CO4 := Lib.hid CO4
          clear hl hq hok nn1 nn2 nm1
          go_upto_region 29 with (go_at_call 18; refine CO1.out.mono ?_; rintro e w19 ⟨rfl, h19⟩; clear CO1; replace bm := lb_ext bm h19; replace y0 := h19.cell y0; replace y1 := h19.cell y1; replace y2 := h19.cell y2; replace y3 := h19.cell y3; replace t0 := h19.cell t0; replace t1 := h19.cell t1; replace t2 := h19.cell t2; replace t3 := h19.cell t3; replace r0 := h19.cell r0; replace r1 := h19.cell r1; replace r2 := h19.cell r2; replace r3 := h19.cell r3)
          have bo := lb_new w19 (.cells #[.int .i64 (mx + nx), .int .i64 (my + ny), .int .i64 (mz + nz)] 40)
          have eX : Ext w18 (w19.alloc (.cells #[.int .i64 (mx + nx), .int .i64 (my + ny), .int .i64 (mz + nz)] 40)) := h19.alloc _
          have eY := (Ext.refl w19).alloc (.cells #[.int .i64 (mx + nx), .int .i64 (my + ny), .int .i64 (mz + nz)] 40)
          generalize (w19.alloc (.cells #[.int .i64 (mx + nx), .int .i64 (my + ny), .int .i64 (mz + nz)] 40)) = w20 at *
          replace bm := lb_ext bm eY
          replace y0 := eY.cell y0; replace y1 := eY.cell y1; replace y2 := eY.cell y2; replace y3 := eY.cell y3; replace t0 := eY.cell t0; replace t1 := eY.cell t1; replace t2 := eY.cell t2; replace t3 := eY.cell t3
          replace r0 := eY.cell r0; replace r1 := eY.cell r1; replace r2 := eY.cell r2; replace r3 := eY.cell r3
          have e20 := e18.trans eX
          go_upto_region 30 with (go_at_call 18; refine (CO2.out _ e20).mono ?_; rintro e w21 ⟨rfl, h21⟩; clear CO2; replace bm := lb_ext bm h21; replace bo := lb_ext bo h21; replace y0 := h21.cell y0; replace y1 := h21.cell y1; replace y2 := h21.cell y2; replace y3 := h21.cell y3; replace t0 := h21.cell t0; replace t1 := h21.cell t1; replace t2 := h21.cell t2; replace t3 := h21.cell t3; replace r0 := h21.cell r0; replace r1 := h21.cell r1; replace r2 := h21.cell r2; replace r3 := h21.cell r3)
          have bp := lb_new w21 (.cells #[.int .i64 nx, .int .i64 ny, .int .i64 nz] 40)
          have eZ := (Ext.refl w21).alloc (.cells #[.int .i64 nx, .int .i64 ny, .int .i64 nz] 40)
          have e22 := (e20.trans h21).trans eZ
          have eV := (eX.trans h21).trans eZ
          generalize (w21.alloc (.cells #[.int .i64 nx, .int .i64 ny, .int .i64 nz] 40)) = w22 at *
          replace bm := lb_ext bm eZ
          replace bo := lb_ext bo eZ
          replace y0 := eZ.cell y0; replace y1 := eZ.cell y1; replace y2 := eZ.cell y2; replace y3 := eZ.cell y3; replace t0 := eZ.cell t0; replace t1 := eZ.cell t1; replace t2 := eZ.cell t2; replace t3 := eZ.cell t3
          replace r0 := eZ.cell r0; replace r1 := eZ.cell r1; replace r2 := eZ.cell r2; replace r3 := eZ.cell r3
          go_upto_region 31 with (go_at_call 17; refine (CO3.out _ eV).mono ?_; rintro e w23 ⟨rfl, h23⟩; clear CO3; replace bm := lb_ext bm h23; replace bo := lb_ext bo h23; replace bp := lb_ext bp h23; replace y0 := h23.cell y0; replace y1 := h23.cell y1; replace y2 := h23.cell y2; replace y3 := h23.cell y3; replace t0 := h23.cell t0; replace t1 := h23.cell t1; replace t2 := h23.cell t2; replace t3 := h23.cell t3)
          have e23 := e22.trans h23
          have eU := eV.trans h23
          go_wp2_with (go_at_call 17; refine (CO4.out _ e23).mono ?_; rintro e w24 ⟨rfl, h24⟩; clear CO4; replace bm := lb_ext bm h24; replace bo := lb_ext bo h24; replace bp := lb_ext bp h24; have m0 := lb_cell bm 0 _ rfl; have m1 := lb_cell bm 1 _ rfl; have m2 := lb_cell bm 2 _ rfl; have ml := lb_lt bm; have o0 := lb_cell bo 0 _ rfl; have o1 := lb_cell bo 1 _ rfl; have o2 := lb_cell bo 2 _ rfl; have ol := lb_lt bo; have p0 := lb_cell bp 0 _ rfl; have p1 := lb_cell bp 1 _ rfl; have p2 := lb_cell bp 2 _ rfl; have pl := lb_lt bp)
          go_meet
          exact eU.trans h24
        · have hz1 : (E16 == 0) = false := by simpa using hz
          go_wp2_with fail
          go_meet
          exact Ext.refl _
      case rest =>
      generalize wc = w19 at *
      have e19 := e18.trans hcut
      replace bm := lb_ext bm hcut
      replace y0 := hcut.cell y0; replace y1 := hcut.cell y1; replace y2 := hcut.cell y2; replace y3 := hcut.cell y3; replace t0 := hcut.cell t0; replace t1 := hcut.cell t1; replace t2 := hcut.cell t2; replace t3 := hcut.cell t3
      clear hcut br r0 r1 r2 r3 rl HI16 e17 e18
      go_wp2_with (go_at_call 7; refine (KN.out _).mono ?_; rintro e wk ⟨rfl, hk⟩)
      go_ret
      exact ⟨rfl, e19.trans hk⟩

end Go.Proofs.Ytkkeblgahbpmmaa
/- The law LoadCentres, joined. -/
namespace Go.Proofs.Ytkkeblgahbpmmaa
theorem cen_law {a b : LLoad} {va wa vb wb : Value} (dx dy dz : Int) (w : World) (ha : IsLoad w a va wa) (hb : IsLoad w b vb wb) :
    Calls Try.prog 4 #[loadV a va wa, loadV b vb wb, .int .i64 dx, .int .i64 dy, .int .i64 dz] w fun e w' => e = .returned (.bool true) ∧ Ext w w' := by
  cases ga : greatB a
  · cases gb : greatB b
    · by_cases hE : loadE a = 0
      · exact cen_ok known_c a b va wa vb wb dx dy dz w ha hb ga gb hE
      · exact cen_bad known_c a b va wa vb wb dx dy dz w ha hb ga gb hE
    · exact cen_great known_c a b va wa vb wb dx dy dz w ha hb (by rw [gb]; simp)
  · exact cen_great known_c a b va wa vb wb dx dy dz w ha hb (by rw [ga]; simp)
end Go.Proofs.Ytkkeblgahbpmmaa
