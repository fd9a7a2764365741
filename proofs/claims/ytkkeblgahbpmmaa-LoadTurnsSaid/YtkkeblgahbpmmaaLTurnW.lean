
/- LTurnW: several texts in one. -/
import Derived.Test.YtkkeblgahbpmmaaLKnown
import Derived.Test.YtkkeblgahbpmmaaLTurnM
import Derived.Test.YtkkeblgahbpmmaaLGreat
import Derived.Test.YtkkeblgahbpmmaaQTail
import Derived.OpenShut
/- The law LoadTurns, walked. -/
namespace Go.Proofs.Ytkkeblgahbpmmaa
open Go.RowKit Go.Shelf

theorem Turned_k (l : LLoad) (vp ve : Value) (q : Int) (w : World) (hl : IsLoad w l vp ve) (hE : loadE l = 0) :
    Calls Try.prog 9 #[loadV l vp ve, .int .i64 q] w fun e w' => Ext w w' ∧ ∃ vp' ve', e = .returned (.tuple #[loadV (turnedL q l) vp' ve', .int .i64 0]) ∧ IsLoad w' (turnedL q l) vp' ve' := by
  refine (Turned_c l vp ve q w hl).mono ?_
  rintro e w' (⟨h1, _⟩ | ⟨_, h2, ⟨h3, vp', ve', rfl, h4⟩ | ⟨h3, _⟩⟩)
  · exact absurd hE h1
  · exact ⟨h2, vp', ve', rfl, h4.is⟩
  · exact absurd (ok_load (turned_ok (load_ok hE) q)) h3
theorem OwnP.frz {base g n c : Nat} {w : World} {l : List HPt} (h : OwnP base w (.slice (some ⟨g, 0, none⟩) n c) l) (i : Nat) : w.frozen? ⟨g, i, none⟩ = false := by
  rcases h.2 with ⟨h0, _⟩ | ⟨g', cap, cur, h0, _, hg, _⟩
  · simp at h0
  · simp only [Value.slice.injEq, Option.some.injEq, Addr.mk.injEq, and_true] at h0
    obtain ⟨rfl, _⟩ := h0
    exact lb_frz hg i
def outL (l : LLoad) : List HPt := outP (highL (-1) l.pieces)
theorem Outline_k (l : LLoad) (vp ve : Value) (w : World) (hl : IsLoad w l vp ve) (hE : loadE l = 0) :
    Calls Try.prog 22 #[loadV l vp ve] w fun e w' => Ext w w' ∧ ∃ v', e = .returned (.tuple #[v', .int .i64 0]) ∧ OwnP w.heap.size w' v' (cornersP (outL l)) := by
  obtain ⟨h2, hne⟩ := out_two (load_ok hE)
  refine (Outline_c l vp ve w hl).mono ?_
  rintro e w' (⟨h1, _⟩ | ⟨_, ⟨h3, _⟩ | ⟨_, v', rfl, _, h5, h6⟩⟩)
  · exact absurd hE h1
  · exact absurd h3 hne
  · exact ⟨h5, v', rfl, h6 h2⟩
theorem OwnP.set2 {base g n c : Nat} {w : World} {l : List HPt} (h : OwnP base w (.slice (some ⟨g, 0, none⟩) n c) l) {i : Nat} {p : HPt} (hi : l[i]? = some p) (x y : Int) :
    OwnP base ((w.setCell ⟨g, i * 2, none⟩ (.int .i64 x)).setCell ⟨g, i * 2 + 1, none⟩ (.int .i64 y)) (.slice (some ⟨g, 0, none⟩) n c) (l.set i (x, y)) := by
  have he : ∀ l : List HPt, flatP l = (l.map fun p => [Value.int .i64 p.1, Value.int .i64 p.2]).flatten := fun l => by unfold flatP; rw [List.flatMap_def]
  have h0 : OwnR (fun p : HPt => [Value.int .i64 p.1, Value.int .i64 p.2]) 2 52 base w (.slice (some ⟨g, 0, none⟩) n c) l := by
    unfold OwnR
    rw [← he]
    exact h
  have h1 := OwnR.set (k := 2) (fun _ => rfl) h0 hi (j := 0) (show 0 < 2 by decide) (u := .int .i64 x) (y := (x, p.2)) rfl
  have h2 := OwnR.set (k := 2) (fun _ => rfl) h1 (i := i) (x := (x, p.2)) (by rw [List.getElem?_set_self (lt_of_some hi)]) (j := 1) (show 1 < 2 by decide) (u := .int .i64 y) (y := (x, y)) rfl
  rw [List.set_set] at h2
  unfold OwnP
  rw [he]
  exact h2

set_option maxRecDepth 100000 in
set_option maxHeartbeats 3200000 in
theorem turns_great (l : LLoad) (va wa : Value) (a b : Int) (w : World) (ha : IsLoad w l va wa) (hg : greatB l = true) :
    Calls Try.prog 5 #[loadV l va wa, .int .i8 a, .int .i8 b] w fun e w' => e = .returned (.bool true) ∧ Ext w w' := by
  have GA := Lib.hid (fun W (h : Ext w W) => great_c l va wa W (ha.ext h))
  rw [hg] at GA
  obtain ⟨A1, A2, c1, c2, rfl, rfl⟩ := is_shape ha
  have HA := Lib.hid ha
  have KN := Lib.hid (fun W => known_c W)
  clear ha hg
  unfold loadV at *
  go_enter Try.func5, Try.ntmps5
  go_upto_region 1 with fail
  have bL := lb_new w (.cells #[.string l.name, .slice A1 l.pieces.length c1, .slice A2 l.eyes.length c2, .int .i64 l.friction] 25)
  have e0 := (Ext.refl w).alloc (.cells #[.string l.name, .slice A1 l.pieces.length c1, .slice A2 l.eyes.length c2, .int .i64 l.friction] 25)
  generalize (w.alloc (.cells #[.string l.name, .slice A1 l.pieces.length c1, .slice A2 l.eyes.length c2, .int .i64 l.friction] 25)) = W0 at *
  have y0 := lb_cell bL 0 _ rfl
  have y1 := lb_cell bL 1 _ rfl
  have y2 := lb_cell bL 2 _ rfl
  have y3 := lb_cell bL 3 _ rfl
  have ll := lb_lt bL
  go_wp2_with (first | (go_at_call 6; refine (GA.out _ e0).mono ?_; rintro e w2 ⟨rfl, h2⟩) | (go_at_call 7; refine (KN.out _).mono ?_; rintro e wk ⟨rfl, hk⟩))
  go_ret
  exact ⟨rfl, (e0.trans h2).trans hk⟩

set_option maxRecDepth 100000 in
set_option maxHeartbeats 3200000 in
theorem turns_bad (l : LLoad) (va wa : Value) (a b : Int) (w : World) (ha : IsLoad w l va wa) (ka : -128 ≤ a ∧ a ≤ 127) (hg : greatB l = false) (hE : ¬ loadE l = 0) :
    Calls Try.prog 5 #[loadV l va wa, .int .i8 a, .int .i8 b] w fun e w' => e = .returned (.bool true) ∧ Ext w w' := by
  have GA := Lib.hid (fun W (h : Ext w W) => great_c l va wa W (ha.ext h))
  rw [hg] at GA
  have CT := fun W (h : Ext w W) => Turned_c l va wa a W (ha.ext h)
  have CC := Lib.hid (fun W (h : Ext w W) => LCheck_c l va wa W (ha.ext h))
  replace CT : ∀ W (h : Ext w W), Calls Try.prog 9 #[loadV l va wa, .int .i64 a] W fun e w' => e = .returned (.tuple #[zeroV, .int .i64 (loadE l)]) ∧ Ext W w' := by
    intro W h
    refine (CT W h).mono ?_
    rintro e w' (⟨_, h1, h2⟩ | ⟨h1, _⟩)
    · exact ⟨h1, h2⟩
    · exact absurd h1 hE
  replace CT := Lib.hid CT
  obtain ⟨A1, A2, c1, c2, rfl, rfl⟩ := is_shape ha
  have HA := Lib.hid ha
  have KN := Lib.hid (fun W => known_c W)
  clear ha hg
  unfold loadV zeroV at *
  generalize loadE l = E at *
  have hE1 : (E == 0) = false := by simpa using hE
  have hE2 : (E == E) = true := by simp
  have wa1 := IntWalk.i64_in a (by omega)
  go_enter Try.func5, Try.ntmps5
  go_upto_region 1 with fail
  have bL := lb_new w (.cells #[.string l.name, .slice A1 l.pieces.length c1, .slice A2 l.eyes.length c2, .int .i64 l.friction] 25)
  have e0 := (Ext.refl w).alloc (.cells #[.string l.name, .slice A1 l.pieces.length c1, .slice A2 l.eyes.length c2, .int .i64 l.friction] 25)
  generalize (w.alloc (.cells #[.string l.name, .slice A1 l.pieces.length c1, .slice A2 l.eyes.length c2, .int .i64 l.friction] 25)) = W0 at *
  have y0 := lb_cell bL 0 _ rfl
  have y1 := lb_cell bL 1 _ rfl
  have y2 := lb_cell bL 2 _ rfl
  have y3 := lb_cell bL 3 _ rfl
  have ll := lb_lt bL
  go_upto_region 4 with (first | (go_at_call 6; refine (GA.out _ e0).mono ?_; rintro e w2 ⟨rfl, h2⟩; clear GA; have e2 := e0.trans h2; replace y0 := h2.cell y0; replace y1 := h2.cell y1; replace y2 := h2.cell y2; replace y3 := h2.cell y3; replace bL := lb_ext bL h2) | (go_at_call 9; refine (CT.out _ e2).mono ?_; rintro e w3 ⟨rfl, h3⟩; have e3 := e2.trans h3; have l3 := lb_lt (lb_ext bL h3); replace y0 := h3.cell y0; replace y1 := h3.cell y1; replace y2 := h3.cell y2; replace y3 := h3.cell y3))
  go_wp2_with (first | (go_at_call 21; refine (CC.out _ (Ext.alloc e3 _)).mono ?_; rintro e w4 ⟨rfl, h4⟩; have e4 := Ext.trans (Ext.alloc e3 _) h4) | (go_at_call 7; refine (KN.out _).mono ?_; rintro e wk ⟨rfl, hk⟩))
  go_ret
  exact ⟨rfl, e4.trans hk⟩

set_option maxRecDepth 100000 in
set_option maxHeartbeats 12800000 in
theorem turns_ok (l : LLoad) (va wa : Value) (a b : Int) (w : World) (ha : IsLoad w l va wa) (ka : -128 ≤ a ∧ a ≤ 127) (kb : -128 ≤ b ∧ b ≤ 127) (hg : greatB l = false) (hE : loadE l = 0) :
    Calls Try.prog 5 #[loadV l va wa, .int .i8 a, .int .i8 b] w fun e w' => e = .returned (.bool true) ∧ Ext w w' := by
  have GA := Lib.hid (fun W (h : Ext w W) => great_c l va wa W (ha.ext h))
  rw [hg] at GA
  have K := load_ok hE
  have KX := ok_load (turned_ok K a)
  have KT := ok_load (turned_ok K 1)
  have eY : turnedL b (turnedL a l) = turnedL (a + b) l := turned_add a b l
  have eW : turnedL (4 * b) l = l := turned_none b l
  have eP : cornersP (outL (turnedL 1 l)) = cornersP ((outL l).map rotQ) := out_turn l.pieces
  have hne : outL l ≠ [] := by
    intro e
    have h2 := (out_two K).1
    have : (sortP (outL l)).length = 0 := by rw [e]; rfl
    unfold outL at this
    omega
  have eR := corners_rot hne
  have hlo : (cornersP (outL l)).length ≤ 2 * (outL l).length := corners_lenC _
  have hll : (outL l).length ≤ 200 := by
    have h1 := outP_len (highL (-1) l.pieces)
    have h2 := highL_len (-1) l.pieces
    have := K.n2
    unfold outL
    omega
  have hO0 : 0 < (cornersP (outL l)).length := corners_pos (List.length_pos_iff.2 hne)
  have hwd : ∀ p ∈ cornersP (outL l), okPt p = true := fun p hp => outP_ok (highL_ok K.pieces) p (corners_sub hp)
  have CX := Lib.hid (fun W (h : Ext w W) => Turned_k l va wa a W (ha.ext h) hE)
  have CY := fun (vp ve : Value) W (h : IsLoad W (turnedL a l) vp ve) => Turned_k (turnedL a l) vp ve b W h KX
  rw [eY] at CY
  replace CY := Lib.hid CY
  have CZ := Lib.hid (fun W (h : Ext w W) => Turned_k l va wa (a + b) W (ha.ext h) hE)
  have CW := fun W (h : Ext w W) => Turned_k l va wa (4 * b) W (ha.ext h) hE
  rw [eW] at CW
  replace CW := Lib.hid CW
  have CT := Lib.hid (fun W (h : Ext w W) => Turned_k l va wa 1 W (ha.ext h) hE)
  have CS := Lib.hid (fun (L : LLoad) (v1 e1 v2 e2 : Value) W h1 h2 => sameLoad_c L v1 e1 v2 e2 W h1 h2)
  have CO := Lib.hid (fun W (h : Ext w W) => Outline_k l va wa W (ha.ext h) hE)
  have CP := fun (vp ve : Value) W (h : IsLoad W (turnedL 1 l) vp ve) => Outline_k (turnedL 1 l) vp ve W h KT
  have wa1 := IntWalk.i64_in a (by omega)
  have wb1 := IntWalk.i64_in b (by omega)
  have wab := IntWalk.i64_in (a + b) (by omega)
  have w4b := IntWalk.i64_in (4 * b) (by omega)
  rw [eP, ← eR] at CP
  replace CP := Lib.hid CP
  generalize turnedL a l = X at *
  generalize turnedL (a + b) l = Z at *
  generalize turnedL 1 l = T at *
  generalize cornersP (outL l) = O at *
  have HO := Lib.hid (And.intro hlo (And.intro hll (And.intro hwd hO0)))
  clear hO0
  obtain ⟨A1, A2, c1, c2, rfl, rfl⟩ := is_shape ha
  have HA := Lib.hid ha
  have KN := Lib.hid (fun W => known_c W)
  clear ha hg hE K KX KT eY eW eP eR hne hlo hll hwd
  unfold loadV at *
  go_enter Try.func5, Try.ntmps5
  go_upto_region 1 with fail
  have bL := lb_new w (.cells #[.string l.name, .slice A1 l.pieces.length c1, .slice A2 l.eyes.length c2, .int .i64 l.friction] 25)
  have e0 := (Ext.refl w).alloc (.cells #[.string l.name, .slice A1 l.pieces.length c1, .slice A2 l.eyes.length c2, .int .i64 l.friction] 25)
  generalize (w.alloc (.cells #[.string l.name, .slice A1 l.pieces.length c1, .slice A2 l.eyes.length c2, .int .i64 l.friction] 25)) = W0 at *
  have y0 := lb_cell bL 0 _ rfl
  have y1 := lb_cell bL 1 _ rfl
  have y2 := lb_cell bL 2 _ rfl
  have y3 := lb_cell bL 3 _ rfl
  have ll := lb_lt bL

  go_upto_region 3 with (go_at_call 6; refine (GA.out _ e0).mono ?_; rintro e w2 ⟨rfl, h2⟩; clear GA; have e2 := e0.trans h2; replace y0 := h2.cell y0; replace y1 := h2.cell y1; replace y2 := h2.cell y2; replace y3 := h2.cell y3; replace bL := lb_ext bL h2)
  clear y0 y1 y2 y3 ll
  have y0 := lb_cell bL 0 _ rfl
  have y1 := lb_cell bL 1 _ rfl
  have y2 := lb_cell bL 2 _ rfl
  have y3 := lb_cell bL 3 _ rfl
  have ll := lb_lt bL
  go_upto_region 4 with (go_at_call 9; refine (CX.out _ e2).mono ?_; rintro e w3 ⟨hw3, vp, ve, rfl, iX⟩; obtain ⟨X1, X2, x1, x2, rfl, rfl⟩ := is_shape iX; replace bL := lb_ext bL hw3; clear y0 y1 y2 y3 ll)
  have ew3 := e2.trans hw3
  have bX := lb_new w3 (.cells #[.string X.name, .slice X1 X.pieces.length x1, .slice X2 X.eyes.length x2, .int .i64 X.friction] 25)
  have eN := (Ext.refl w3).alloc (.cells #[.string X.name, .slice X1 X.pieces.length x1, .slice X2 X.eyes.length x2, .int .i64 X.friction] 25)
  have ew4 := ew3.trans eN
  generalize (w3.alloc (.cells #[.string X.name, .slice X1 X.pieces.length x1, .slice X2 X.eyes.length x2, .int .i64 X.friction] 25)) = w4 at *
  replace bL := lb_ext bL eN
  replace iX := iX.ext eN
  clear eN hw3 ew3
  have y0 := lb_cell bX 0 _ rfl
  have y1 := lb_cell bX 1 _ rfl
  have y2 := lb_cell bX 2 _ rfl
  have y3 := lb_cell bX 3 _ rfl
  have ll := lb_lt bX
  go_upto_region 7 with (go_at_call 9; refine (CY.out _ _ _ iX).mono ?_; rintro e w5 ⟨hw5, vp, ve, rfl, iY⟩; obtain ⟨Y1, Y2, k1, k2, rfl, rfl⟩ := is_shape iY; replace bL := lb_ext bL hw5; replace bX := lb_ext bX hw5; clear y0 y1 y2 y3 ll)
  have ew5 := ew4.trans hw5
  have bY := lb_new w5 (.cells #[.string Z.name, .slice Y1 Z.pieces.length k1, .slice Y2 Z.eyes.length k2, .int .i64 Z.friction] 25)
  have eN := (Ext.refl w5).alloc (.cells #[.string Z.name, .slice Y1 Z.pieces.length k1, .slice Y2 Z.eyes.length k2, .int .i64 Z.friction] 25)
  have ew6 := ew5.trans eN
  generalize (w5.alloc (.cells #[.string Z.name, .slice Y1 Z.pieces.length k1, .slice Y2 Z.eyes.length k2, .int .i64 Z.friction] 25)) = w6 at *
  replace bL := lb_ext bL eN; replace bX := lb_ext bX eN
  replace iX := (iX.ext hw5).ext eN
  replace iY := iY.ext eN
  clear eN hw5 ew5 ew4
  have y0 := lb_cell bL 0 _ rfl
  have y1 := lb_cell bL 1 _ rfl
  have y2 := lb_cell bL 2 _ rfl
  have y3 := lb_cell bL 3 _ rfl
  have ll := lb_lt bL
  go_upto_region 8 with (go_at_call 9; refine (CZ.out _ ew6).mono ?_; rintro e w7 ⟨hw7, vp, ve, rfl, iZ⟩; obtain ⟨Z1, Z2, z1, z2, rfl, rfl⟩ := is_shape iZ; replace bL := lb_ext bL hw7; replace bX := lb_ext bX hw7; replace bY := lb_ext bY hw7; clear y0 y1 y2 y3 ll)
  have ew7 := ew6.trans hw7
  have bZ := lb_new w7 (.cells #[.string Z.name, .slice Z1 Z.pieces.length z1, .slice Z2 Z.eyes.length z2, .int .i64 Z.friction] 25)
  have eN := (Ext.refl w7).alloc (.cells #[.string Z.name, .slice Z1 Z.pieces.length z1, .slice Z2 Z.eyes.length z2, .int .i64 Z.friction] 25)
  have ew8 := ew7.trans eN
  generalize (w7.alloc (.cells #[.string Z.name, .slice Z1 Z.pieces.length z1, .slice Z2 Z.eyes.length z2, .int .i64 Z.friction] 25)) = w8 at *
  replace bL := lb_ext bL eN; replace bX := lb_ext bX eN; replace bY := lb_ext bY eN
  replace iX := (iX.ext hw7).ext eN
  replace iY := (iY.ext hw7).ext eN
  replace iZ := iZ.ext eN
  clear eN hw7 ew7 ew6
  have y0 := lb_cell bL 0 _ rfl
  have y1 := lb_cell bL 1 _ rfl
  have y2 := lb_cell bL 2 _ rfl
  have y3 := lb_cell bL 3 _ rfl
  have ll := lb_lt bL
  go_upto_region 9 with (go_at_call 9; refine (CW.out _ ew8).mono ?_; rintro e w9 ⟨hw9, vp, ve, rfl, iW⟩; obtain ⟨W1, W2, v1, v2, rfl, rfl⟩ := is_shape iW; replace bL := lb_ext bL hw9; replace bX := lb_ext bX hw9; replace bY := lb_ext bY hw9; replace bZ := lb_ext bZ hw9; clear y0 y1 y2 y3 ll)
  have ew9 := ew8.trans hw9
  have bW := lb_new w9 (.cells #[.string l.name, .slice W1 l.pieces.length v1, .slice W2 l.eyes.length v2, .int .i64 l.friction] 25)
  have eN := (Ext.refl w9).alloc (.cells #[.string l.name, .slice W1 l.pieces.length v1, .slice W2 l.eyes.length v2, .int .i64 l.friction] 25)
  have ew10 := ew9.trans eN
  generalize (w9.alloc (.cells #[.string l.name, .slice W1 l.pieces.length v1, .slice W2 l.eyes.length v2, .int .i64 l.friction] 25)) = w10 at *
  replace bL := lb_ext bL eN; replace bX := lb_ext bX eN; replace bY := lb_ext bY eN; replace bZ := lb_ext bZ eN
  replace iX := (iX.ext hw9).ext eN
  replace iY := (iY.ext hw9).ext eN
  replace iZ := (iZ.ext hw9).ext eN
  replace iW := iW.ext eN
  clear eN hw9 ew9 ew8
  have y0 := lb_cell bL 0 _ rfl
  have y1 := lb_cell bL 1 _ rfl
  have y2 := lb_cell bL 2 _ rfl
  have y3 := lb_cell bL 3 _ rfl
  have n0 := lb_cell bY 0 _ rfl
  have n1 := lb_cell bY 1 _ rfl
  have n2 := lb_cell bY 2 _ rfl
  have n3 := lb_cell bY 3 _ rfl
  have z0 := lb_cell bZ 0 _ rfl
  have z1 := lb_cell bZ 1 _ rfl
  have z2 := lb_cell bZ 2 _ rfl
  have z3 := lb_cell bZ 3 _ rfl
  have v0 := lb_cell bW 0 _ rfl
  have v1 := lb_cell bW 1 _ rfl
  have v2 := lb_cell bW 2 _ rfl
  have v3 := lb_cell bW 3 _ rfl
  have l1 := lb_lt bL
  have l2 := lb_lt bY
  have l3 := lb_lt bZ
  have l4 := lb_lt bW
  have HB := Lib.hid (And.intro bL (And.intro iY (And.intro iZ iW)))
  have C1 := Lib.hid (fun (_ : True) => CS.out _ _ _ _ _ _ HB.out.2.1 HB.out.2.2.1)
  have C2 := Lib.hid (fun W (h : Ext w10 W) => CS.out _ _ _ _ _ _ (HB.out.2.2.2.ext h) (HA.out.ext (ew10.trans h)))
  unfold loadV at C1 C2
  clear CS
  clear bX bY bZ bW iX iY iZ iW bL
  go_upto_region 11 with (first | (go_at_call 15; refine (C1.out trivial).mono ?_; rintro e wa1 ⟨rfl, ha1⟩; clear C1; replace y0 := ha1.cell y0; replace y1 := ha1.cell y1; replace y2 := ha1.cell y2; replace y3 := ha1.cell y3; replace v0 := ha1.cell v0; replace v1 := ha1.cell v1; replace v2 := ha1.cell v2; replace v3 := ha1.cell v3) | (go_at_call 15; refine (C2.out _ ha1).mono ?_; rintro e wa2 ⟨rfl, ha2⟩; clear C2 y0 y1 y2 y3 v0 v1 v2 v3))
  have eA := ew10.trans (ha1.trans ha2)
  have bL := lb_ext HB.out.1 (ha1.trans ha2)
  clear ha1 ha2 HB l1 l2 l3 l4 ew10
  have e2 := eA
  have y0 := lb_cell bL 0 _ rfl
  have y1 := lb_cell bL 1 _ rfl
  have y2 := lb_cell bL 2 _ rfl
  have y3 := lb_cell bL 3 _ rfl
  have ll := lb_lt bL
  go_upto_region 12 with (go_at_call 9; refine (CT.out _ eA).mono ?_; rintro e w11 ⟨hw11, vp, ve, rfl, iT⟩; obtain ⟨T1, T2, t1, t2, rfl, rfl⟩ := is_shape iT; replace bL := lb_ext bL hw11; clear y0 y1 y2 y3 ll)
  have ew11 := eA.trans hw11
  have bT := lb_new w11 (.cells #[.string T.name, .slice T1 T.pieces.length t1, .slice T2 T.eyes.length t2, .int .i64 T.friction] 25)
  have eN := (Ext.refl w11).alloc (.cells #[.string T.name, .slice T1 T.pieces.length t1, .slice T2 T.eyes.length t2, .int .i64 T.friction] 25)
  have ew12 := ew11.trans eN
  generalize (w11.alloc (.cells #[.string T.name, .slice T1 T.pieces.length t1, .slice T2 T.eyes.length t2, .int .i64 T.friction] 25)) = w12 at *
  replace bL := lb_ext bL eN
  replace iT := iT.ext eN
  clear eN hw11 ew11 eA
  have y0 := lb_cell bL 0 _ rfl
  have y1 := lb_cell bL 1 _ rfl
  have y2 := lb_cell bL 2 _ rfl
  have y3 := lb_cell bL 3 _ rfl
  have ll := lb_lt bL
  go_upto_region 13 with (go_at_call 22; refine (CO.out _ ew12).mono ?_; rintro e wo ⟨ho, vo, rfl, oo⟩; clear y0 y1 y2 y3 ll bL)
  have eo := ew12.trans ho
  replace iT := iT.ext ho
  replace bT := lb_ext bT ho
  obtain ⟨g, cg, rfl, hg1, hg2, hg3, hg4⟩ := oo.form HO.out.2.2.2
  have hs0 := ew12.size
  have hgw : w.heap.size ≤ g := by omega
  have HOO := Lib.hid oo
  clear oo hg1
  have y0 := lb_cell bT 0 _ rfl
  have y1 := lb_cell bT 1 _ rfl
  have y2 := lb_cell bT 2 _ rfl
  have y3 := lb_cell bT 3 _ rfl
  have ll := lb_lt bT
  go_upto_region 14 with (go_at_call 22; refine (CP.out _ _ _ iT).mono ?_; rintro e wp ⟨hp, vp, rfl, op⟩; clear y0 y1 y2 y3 ll bT)
  have ep := eo.trans hp
  have HOP := Lib.hid (And.intro ep (And.intro (HOO.out.ext hp) op))
  have hgp : ∀ k, vp.ownBlock = some k → k ≠ g := fun k hk => by have := own_ge op k hk; omega
  have HGP := Lib.hid hgp
  obtain ⟨Ap, cp, rfl, hmp⟩ := op.shape
  clear op hgp eo hp ho ep
  generalize wo.heap.size = B2 at *
  go_wp2_with fail
  go_loopw [18] (fun i wr => ∃ k : Nat, k ≤ O.length ∧ i = .int .i64 k ∧ Ext w wr ∧ OwnP w.heap.size wr (.slice (some ⟨g, 0, none⟩) O.length cg) (mapTo rotQ k O) ∧ OwnP B2 wr (.slice Ap (cornersP (O.map rotQ)).length cp) (cornersP (O.map rotQ))) (fun i _ => O.length - (intOf i).toNat)
  case atStart => exact ⟨0, by omega, rfl, HOP.out.1, by rw [mapTo_zero]; exact HOP.out.2.1.down hs0, HOP.out.2.2⟩
  case round =>
    obtain ⟨k, hk, rfl, hE, ho, hp⟩ := hrel
    obtain ⟨wS, hwS⟩ : ∃ z : World, z = wr := ⟨_, rfl⟩
    subst hwS
    have HR := Lib.hid (And.intro hE (And.intro ho hp))
    by_cases hlt : k < O.length
    · obtain ⟨x, hx⟩ := some_of_lt hlt
      have hx2 := mapTo_get rotQ hx
      have hxw := HO.out.2.2.1 x (mem_of_some hx)
      unfold okPt inB at hxw
      simp only [Bool.and_eq_true, decide_eq_true_eq] at hxw
      obtain ⟨_, _, he1, he2, he3, p0, p1⟩ := ho.at hx2
      simp only [Value.slice.injEq, Option.some.injEq, Addr.mk.injEq, and_true] at he1
      obtain ⟨rfl, hz9, rfl⟩ := he1
      clear hz9
      have hneg := IntWalk.i64_in (-x.2) (by omega)
      have hstep := mapTo_step rotQ hx
      have HX := Lib.hid (And.intro hx2 hstep)
      obtain ⟨x1, x2⟩ := x
      simp only at p0 p1 hneg
      have hlt1 : (k : Int) < (O.length : Int) := by omega
      have hk0 : (0 : Int) ≤ (k : Int) := by omega
      have hb1 := lt_of_cell p0
      have hOl : O.length ≤ 400 := by have := HO.out.1; have := HO.out.2.1; omega
      clear hx hx2 hxw hstep hE ho hp he2 he3
      go_upto_region 19 with fail
      (refine Tail.wp_region_qtail (C := fun w' => Ext wS w') 15 (by kernel_rfl) (by kernel_rfl) (fun _ _ _ _ _ h => h) (by (repeat' (first | exact Ext.refl _ | assumption | refine Ext.alloc ?_ _ | refine Ext.drew ?_ | refine Ext.drewN ?_ _ | refine Ext.set ?_ (by first | exact Nat.le_refl _ | exact le1 _ | exact le2 _ | exact le3 _ | exact le4 _ | exact le5 _ | exact le6 _) _ | refine Ext.trans ?_ (by assumption)))) ?_; simp only [List.take_succ_cons, List.take_zero, List.drop_succ_cons, List.drop_zero]; (repeat (with_reducible refine wpQuiet_step (fun K hK => ?_); go_simp; first | (refine hK _ ?_; clear hK K) | (apply Exists.intro; refine ⟨fun w' hC => ?_, hK _ ?_⟩; (focus first | with_reducible rfl | (have q0 := hC.cell p0; have q1 := hC.cell p1; go_simp; done) | (have q0 := hC.cell p0; have q1 := hC.cell p1; go_simp; exact ⟨rfl, rfl⟩) | (have q0 := hC.cell p0; have q1 := hC.cell p1; go_simp; with_reducible rfl)); clear hK K))); refine wpQuiet_nil ?_; intro wq hEq)
      replace p0 := hEq.cell p0
      replace p1 := hEq.cell p1
      have hb2 := lt_of_cell p0
      have oq := HR.out.2.1.ext hEq
      have pq := HR.out.2.2.ext hEq
      have eq := HR.out.1.trans hEq
      have f0 := oq.frz (k * 2)
      have f1 := oq.frz (k * 2 + 1)
      have HQ := Lib.hid (And.intro oq (And.intro pq eq))
      clear oq pq eq hEq
      go_wp2_with fail
      go_roundw
      case rel =>
        refine ⟨k + 1, by omega, by go_num, (HQ.out.2.2.set (by simp; omega) _).set (by simp; omega) _, ?_, ?_⟩
        · have := HQ.out.1.set2 HX.out.1 (-x2) x1
          have h2 : (-x2, x1) = rotQ (x1, x2) := rfl
          rw [h2, HX.out.2] at this
          exact this
        · exact ownsRow_setP (ownsRow_setP HQ.out.2.1 (p := ⟨g, k * 2, none⟩) (fun e => HGP.out _ e rfl) _) (p := ⟨g, k * 2 + 1, none⟩) (fun e => HGP.out _ e rfl) _
      case measure => simp [intOf]; omega
    · obtain rfl : k = O.length := by omega
      rw [mapTo_all rotQ (Nat.le_refl _)] at ho
      have hwr : ∀ p ∈ O.map rotQ, wideB p := by
        intro p hp
        obtain ⟨q, hq, rfl⟩ := List.mem_map.1 hp
        have := HO.out.2.2.1 q hq
        unfold okPt inB at this
        simp only [Bool.and_eq_true, decide_eq_true_eq] at this
        unfold wideB rotQ
        simp only
        omega
      have RH := Lib.hid (RHull_c _ (O.map rotQ) wS ho.pts hwr (by rw [List.length_map]; have := HO.out.1; have := HO.out.2.1; omega))
      have hE' := Lib.hid hE
      have HPP := Lib.hid hp
      obtain ⟨PR, hPR⟩ : ∃ PR, cornersP (O.map rotQ) = PR := ⟨_, rfl⟩
      rw [hPR] at RH HPP ⊢
      clear ho hp hE hwr hPR hlt hk
      go_wp2_with (first
        | (go_at_call 24; refine RH.out.mono ?_; rintro e w20 ⟨v20, rfl, o20, h20⟩; have SP := samePts_c v20 _ PR PR w20 o20.pts (HPP.out.ext h20).pts; rw [decide_eq_true rfl] at SP; obtain ⟨A20, c20, rfl, _⟩ := o20.shape; replace SP := Lib.hid SP; clear o20)
        | (go_at_call 23; refine SP.out.mono ?_; rintro e w21 ⟨rfl, h21⟩; have e21 := (hE'.out.trans h20).trans h21)
        | (go_at_call 7; refine (KN.out _).mono ?_; rintro e wk ⟨rfl, hk⟩))
      go_ret
      exact ⟨rfl, e21.trans hk⟩

end Go.Proofs.Ytkkeblgahbpmmaa
/- The law LoadTurns, joined. -/
namespace Go.Proofs.Ytkkeblgahbpmmaa
theorem turn_law {l : LLoad} {va wa : Value} (a b : Int) (w : World) (ha : IsLoad w l va wa) (h1 : (Lit.int .i8 a).wf = true) (h2 : (Lit.int .i8 b).wf = true) :
    Calls Try.prog 5 #[loadV l va wa, .int .i8 a, .int .i8 b] w fun e w' => e = .returned (.bool true) ∧ Ext w w' := by
  cases ga : greatB l
  · by_cases hE : loadE l = 0
    · exact turns_ok l va wa a b w ha (bounds_i8 h1) (bounds_i8 h2) ga hE
    · exact turns_bad l va wa a b w ha (bounds_i8 h1) ga hE
  · exact turns_great l va wa a b w ha ga
end Go.Proofs.Ytkkeblgahbpmmaa
