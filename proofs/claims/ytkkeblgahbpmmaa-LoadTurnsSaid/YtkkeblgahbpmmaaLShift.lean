
/- Contract: Shifted. -/
import Derived.Test.YtkkeblgahbpmmaaLTurn
namespace Go.Proofs.Ytkkeblgahbpmmaa
open Go.RowKit

def shiftOk (d1 d2 d3 : Int) : Bool := inB d1 (-262144) 262144 && (inB d2 (-262144) 262144 && inB d3 (-262144) 262144)
def shiftedL (d1 d2 d3 : Int) (l : LLoad) : LLoad := mapL (shiftP d1 d2 d3) (shiftE d1 d2 d3) l
/-- what Shifted answers -/
def ShiftR (l : LLoad) (d1 d2 d3 : Int) (base : Nat) (w : World) (e : Ending) (w' : World) : Prop :=
  (¬ loadE l = 0 ∧ e = .returned (.tuple #[zeroV, .int .i64 (loadE l)]) ∧ Ext w w') ∨ (loadE l = 0 ∧ shiftOk d1 d2 d3 = false ∧ e = .returned (.tuple #[zeroV, .int .i64 3]) ∧ Ext w w') ∨
    (loadE l = 0 ∧ shiftOk d1 d2 d3 = true ∧ ChgR (shiftedL d1 d2 d3 l) base w e w')
set_option maxRecDepth 100000 in
set_option maxHeartbeats 6400000 in
theorem Shifted_c (l : LLoad) (vp ve : Value) (d1 d2 d3 : Int) (w : World) (hl : IsLoad w l vp ve) :
    Calls Try.prog 11 #[loadV l vp ve, .int .i64 d1, .int .i64 d2, .int .i64 d3] w (ShiftR l d1 d2 d3 w.heap.size w) := by
  have C := Lib.hid (fun W (h : Ext w W) => LCheck_c l vp ve W (hl.ext h))
  have BT := Lib.hid (fun x W => between_c x (-262144) 262144 W)
  have hok := @load_ok l
  have HL := Lib.hid hl
  obtain ⟨A, cap, rfl, hl1, hl2⟩ := hl.pieces.shape
  obtain ⟨B, cbp, rfl, hm1, hm2⟩ := hl.eyes.shape
  clear hl
  unfold ShiftR
  unfold loadV at *
  generalize loadE l = E at *
  by_cases hE : E = 0
  · subst hE
    have K := Lib.hid (hok rfl)
    clear hok
    have ix0 : ∀ W, (Instr.index 40 (.agg #[.int .i64 d1, .int .i64 d2, .int .i64 d3]) (.int .i64 0)).run Try.prog W = .ok (.int .i64 d1) W := fun _ => by rfl
    have ix1 : ∀ W, (Instr.index 40 (.agg #[.int .i64 d1, .int .i64 d2, .int .i64 d3]) (.int .i64 1)).run Try.prog W = .ok (.int .i64 d2) W := fun _ => by rfl
    have ix2 : ∀ W, (Instr.index 40 (.agg #[.int .i64 d1, .int .i64 d2, .int .i64 d3]) (.int .i64 2)).run Try.prog W = .ok (.int .i64 d3) W := fun _ => by rfl
    go_enter Try.func11, Try.ntmps11
    go_wp2_with (go_at_call 21; refine (C.out _ ((((((Ext.refl w).alloc _).alloc _).alloc _).alloc _).alloc _)).mono ?_; rintro e w3 ⟨rfl, h3⟩; have e3 := Ext.trans ((((((Ext.refl w).alloc _).alloc _).alloc _).alloc _).alloc _) h3; have R3 := lb_ext (lb_new _ _) h3; have N3 := lb_ext (lb_alloc (lb_new _ _) _) h3; have N2 := lb_ext (lb_alloc (lb_alloc (lb_new _ _) _) _) h3; have N1 := lb_ext (lb_alloc (lb_alloc (lb_alloc (lb_new _ _) _) _) _) h3; simp only [size_alloc] at R3 N1 N2 N3; have B3 := lb_ext (lb_alloc (lb_alloc (lb_alloc (lb_alloc (lb_new w _) _) _) _) _) h3; have n1 := lb_cell N1 0 _ rfl; have n2 := lb_cell N2 0 _ rfl; have n3 := lb_cell N3 0 _ rfl; have hlt := lb_lt B3; clear h3)
    have H := Lib.hid (And.intro e3 (And.intro R3 (And.intro B3 (And.intro n1 (And.intro n2 n3)))))
    clear e3 R3 B3 n1 n2 n3 N1 N2 N3 hlt
    go_loopw [23] (fun i wr => ∃ k : Nat, k ≤ 3 ∧ i = .int .i64 k ∧ wr = w3 ∧ (1 ≤ k → inB d1 (-262144) 262144 = true) ∧ (2 ≤ k → inB d2 (-262144) 262144 = true) ∧ (3 ≤ k → inB d3 (-262144) 262144 = true)) (fun i _ => 3 - (intOf i).toNat)
    case atStart => exact ⟨0, by omega, rfl, rfl, fun h => by omega, fun h => by omega, fun h => by omega⟩
    case round =>
      obtain ⟨k, hk, rfl, rfl, k1, k2, k3⟩ := hrel
      have HK := Lib.hid (And.intro k1 (And.intro k2 k3))
      clear k1 k2 k3
      rcases (show k = 0 ∨ k = 1 ∨ k = 2 ∨ k = 3 by omega) with rfl | rfl | rfl | rfl
      · have BB := fun W => BT.out d1 W
        clear ix1 ix2
        cases hx : inB d1 (-262144) 262144
        · rw [hx] at BB
          replace BB := Lib.hid BB
          have HX := Lib.hid hx
          clear hx
          have R3 := H.out.2.1; have y0 := lb_cell R3 0 _ rfl; have y1 := lb_cell R3 1 _ rfl; have y2 := lb_cell R3 2 _ rfl; have y3 := lb_cell R3 3 _ rfl; have f0 := lb_frz R3 0; have f1 := lb_frz R3 1; have f2 := lb_frz R3 2; have f3 := lb_frz R3 3; have e6 := H.out.1; clear R3
          go_wp2_with (go_at_call 34; refine (BB.out _).mono ?_; rintro e w5 ⟨rfl, rfl⟩)
          refine bodyPost_ret (v := .tuple #[zeroV, .int .i64 3]) (by simp [results, Try.results11, go_sem, y0, y1, y2, y3, zeroV]) rfl ?_
          exact .inr (.inl ⟨(by trivial), by unfold shiftOk; rw [HX.out]; rfl, rfl, (((e6.set (by simp; omega) _).set (by simp; omega) _).set (by simp; omega) _).set (by simp; omega) _⟩)
        · rw [hx] at BB
          replace BB := Lib.hid BB
          have HX := Lib.hid hx
          clear hx
          go_wp2_with (go_at_call 34; refine (BB.out _).mono ?_; rintro e w5 ⟨rfl, rfl⟩)
          exact ⟨⟨0+1, by omega, by go_num, (by trivial), (by first | trivial | (intro h; omega) | exact fun _ => HX.out | exact HX.out | exact fun _ => HK.out.1 (by omega) | exact HK.out.1 (by omega) | exact fun _ => HK.out.2.1 (by omega) | exact HK.out.2.1 (by omega)), (by first | trivial | (intro h; omega) | exact fun _ => HX.out | exact HX.out | exact fun _ => HK.out.1 (by omega) | exact HK.out.1 (by omega) | exact fun _ => HK.out.2.1 (by omega) | exact HK.out.2.1 (by omega)), (by first | trivial | (intro h; omega) | exact fun _ => HX.out | exact HX.out | exact fun _ => HK.out.1 (by omega) | exact HK.out.1 (by omega) | exact fun _ => HK.out.2.1 (by omega) | exact HK.out.2.1 (by omega))⟩, by simp [intOf]⟩
      · have BB := fun W => BT.out d2 W
        clear ix0 ix2
        cases hx : inB d2 (-262144) 262144
        · rw [hx] at BB
          replace BB := Lib.hid BB
          have HX := Lib.hid hx
          clear hx
          have R3 := H.out.2.1; have y0 := lb_cell R3 0 _ rfl; have y1 := lb_cell R3 1 _ rfl; have y2 := lb_cell R3 2 _ rfl; have y3 := lb_cell R3 3 _ rfl; have f0 := lb_frz R3 0; have f1 := lb_frz R3 1; have f2 := lb_frz R3 2; have f3 := lb_frz R3 3; have e6 := H.out.1; clear R3
          go_wp2_with (go_at_call 34; refine (BB.out _).mono ?_; rintro e w5 ⟨rfl, rfl⟩)
          refine bodyPost_ret (v := .tuple #[zeroV, .int .i64 3]) (by simp [results, Try.results11, go_sem, y0, y1, y2, y3, zeroV]) rfl ?_
          exact .inr (.inl ⟨(by trivial), by unfold shiftOk; rw [HX.out]; simp, rfl, (((e6.set (by simp; omega) _).set (by simp; omega) _).set (by simp; omega) _).set (by simp; omega) _⟩)
        · rw [hx] at BB
          replace BB := Lib.hid BB
          have HX := Lib.hid hx
          clear hx
          go_wp2_with (go_at_call 34; refine (BB.out _).mono ?_; rintro e w5 ⟨rfl, rfl⟩)
          exact ⟨⟨1+1, by omega, by go_num, (by trivial), (by first | trivial | (intro h; omega) | exact fun _ => HX.out | exact HX.out | exact fun _ => HK.out.1 (by omega) | exact HK.out.1 (by omega) | exact fun _ => HK.out.2.1 (by omega) | exact HK.out.2.1 (by omega)), (by first | trivial | (intro h; omega) | exact fun _ => HX.out | exact HX.out | exact fun _ => HK.out.1 (by omega) | exact HK.out.1 (by omega) | exact fun _ => HK.out.2.1 (by omega) | exact HK.out.2.1 (by omega)), (by first | trivial | (intro h; omega) | exact fun _ => HX.out | exact HX.out | exact fun _ => HK.out.1 (by omega) | exact HK.out.1 (by omega) | exact fun _ => HK.out.2.1 (by omega) | exact HK.out.2.1 (by omega))⟩, by simp [intOf]⟩
      · have BB := fun W => BT.out d3 W
        clear ix0 ix1
        cases hx : inB d3 (-262144) 262144
        · rw [hx] at BB
          replace BB := Lib.hid BB
          have HX := Lib.hid hx
          clear hx
          have R3 := H.out.2.1; have y0 := lb_cell R3 0 _ rfl; have y1 := lb_cell R3 1 _ rfl; have y2 := lb_cell R3 2 _ rfl; have y3 := lb_cell R3 3 _ rfl; have f0 := lb_frz R3 0; have f1 := lb_frz R3 1; have f2 := lb_frz R3 2; have f3 := lb_frz R3 3; have e6 := H.out.1; clear R3
          go_wp2_with (go_at_call 34; refine (BB.out _).mono ?_; rintro e w5 ⟨rfl, rfl⟩)
          refine bodyPost_ret (v := .tuple #[zeroV, .int .i64 3]) (by simp [results, Try.results11, go_sem, y0, y1, y2, y3, zeroV]) rfl ?_
          exact .inr (.inl ⟨(by trivial), by unfold shiftOk; rw [HX.out]; simp, rfl, (((e6.set (by simp; omega) _).set (by simp; omega) _).set (by simp; omega) _).set (by simp; omega) _⟩)
        · rw [hx] at BB
          replace BB := Lib.hid BB
          have HX := Lib.hid hx
          clear hx
          go_wp2_with (go_at_call 34; refine (BB.out _).mono ?_; rintro e w5 ⟨rfl, rfl⟩)
          exact ⟨⟨2+1, by omega, by go_num, (by trivial), (by first | trivial | (intro h; omega) | exact fun _ => HX.out | exact HX.out | exact fun _ => HK.out.1 (by omega) | exact HK.out.1 (by omega) | exact fun _ => HK.out.2.1 (by omega) | exact HK.out.2.1 (by omega)), (by first | trivial | (intro h; omega) | exact fun _ => HX.out | exact HX.out | exact fun _ => HK.out.1 (by omega) | exact HK.out.1 (by omega) | exact fun _ => HK.out.2.1 (by omega) | exact HK.out.2.1 (by omega)), (by first | trivial | (intro h; omega) | exact fun _ => HX.out | exact HX.out | exact fun _ => HK.out.1 (by omega) | exact HK.out.1 (by omega) | exact fun _ => HK.out.2.1 (by omega) | exact HK.out.2.1 (by omega))⟩, by simp [intOf]⟩
      · clear ix0 ix1 ix2
        have q1 := HK.out.1 (by omega)
        have q2 := HK.out.2.1 (by omega)
        have q3 := HK.out.2.2 (by omega)
        have hsh : shiftOk d1 d2 d3 = true := by unfold shiftOk; rw [q1, q2, q3]; rfl
        have HSH := Lib.hid hsh
        have e1 : ∀ args w, (callFunc 35 args).run Try.prog w = .ok (.enter 35 args) w := enters_of Try.func35 (by kernel_rfl) rfl
        have e2 : ∀ args w, (callFunc 36 args).run Try.prog w = .ok (.enter 36 args) w := enters_of Try.func36 (by kernel_rfl) rfl
        have G := changed_c l _ _ wr (HL.out.ext H.out.1) 35 36 #[.pointer (some ⟨w.heap.size + 1, 0, none⟩), .pointer (some ⟨w.heap.size + 1 + 1, 0, none⟩), .pointer (some ⟨w.heap.size + 1 + 1 + 1, 0, none⟩)] #[.pointer (some ⟨w.heap.size + 1, 0, none⟩), .pointer (some ⟨w.heap.size + 1 + 1, 0, none⟩), .pointer (some ⟨w.heap.size + 1 + 1 + 1, 0, none⟩)] (shiftP d1 d2 d3) (shiftE d1 d2 d3) _ _
          (shifted1_c wr _ _ _ d1 d2 d3 ⟨inB_iff.1 q1, inB_iff.1 q2, inB_iff.1 q3⟩ H.out.2.2.2.1 H.out.2.2.2.2.1 H.out.2.2.2.2.2) (shifted2_c wr _ _ _ d1 d2 d3 ⟨inB_iff.1 q1, inB_iff.1 q2, inB_iff.1 q3⟩ H.out.2.2.2.1 H.out.2.2.2.2.1 H.out.2.2.2.2.2) K.out.pieces K.out.eyes (Nat.le_trans K.out.n2 (by omega)) (Nat.le_trans K.out.m2 (by omega)) e1 e2
        unfold loadV ChgR at G
        simp only [loadV] at G
        have HG := Lib.hid G
        have s0 := lb_cell H.out.2.2.1 0 _ rfl
        have s1 := lb_cell H.out.2.2.1 1 _ rfl
        have s2 := lb_cell H.out.2.2.1 2 _ rfl
        have s3 := lb_cell H.out.2.2.1 3 _ rfl
        clear G e1 e2 q1 q2 q3 hsh
        by_cases h9 : loadE (mapL (shiftP d1 d2 d3) (shiftE d1 d2 d3) l) = 0
        · have H9 := Lib.hid h9
          clear h9
          go_wp2_with (go_at_call 29; refine HG.out.mono ?_; rintro e w5 ⟨h5, ⟨_, v1, v2, rfl, o5⟩ | ⟨h0, _⟩⟩; rotate_left; exact absurd H9.out h0; obtain ⟨A1, c1, rfl, _, _⟩ := o5.pieces.shape; obtain ⟨A2, c2, rfl, _, _⟩ := o5.eyes.shape; have e5 := Ext.trans H.out.1 h5; have R5 := lb_ext H.out.2.1 h5; have y0 := lb_cell R5 0 _ rfl; have y1 := lb_cell R5 1 _ rfl; have y2 := lb_cell R5 2 _ rfl; have y3 := lb_cell R5 3 _ rfl; have f0 := lb_frz R5 0; have f1 := lb_frz R5 1; have f2 := lb_frz R5 2; have f3 := lb_frz R5 3)
          refine bodyPost_ret (v := .tuple #[.agg #[.string (mapL (shiftP d1 d2 d3) (shiftE d1 d2 d3) l).name, .slice A1 (mapL (shiftP d1 d2 d3) (shiftE d1 d2 d3) l).pieces.length c1, .slice A2 (mapL (shiftP d1 d2 d3) (shiftE d1 d2 d3) l).eyes.length c2, .int .i64 (mapL (shiftP d1 d2 d3) (shiftE d1 d2 d3) l).friction], .int .i64 0]) (by simp [results, Try.results11, go_sem, y0, y1, y2, y3]) rfl ?_
          have hz := H.out.1.size
          have hlt' := lb_lt H.out.2.1
          refine .inr (.inr ⟨(by trivial), HSH.out, (((e5.set (by simp; omega) _).set (by simp; omega) _).set (by simp; omega) _).set (by simp; omega) _, .inl ⟨H9.out, _, _, rfl, OwnLoad.down (base := wr.heap.size) ⟨?_, ?_, o5.ne⟩ hz⟩⟩)
          · exact (((o5.pieces.other (by omega) _).other (by omega) _).other (by omega) _).other (by omega) _
          · exact (((o5.eyes.other (by omega) _).other (by omega) _).other (by omega) _).other (by omega) _
        · have H9 := Lib.hid h9
          clear h9
          go_wp2_with (go_at_call 29; refine HG.out.mono ?_; rintro e w5 ⟨h5, ⟨h0, _⟩ | ⟨_, rfl⟩⟩; exact absurd h0 H9.out; unfold zeroV; have e5 := Ext.trans H.out.1 h5; have R5 := lb_ext H.out.2.1 h5; have y0 := lb_cell R5 0 _ rfl; have y1 := lb_cell R5 1 _ rfl; have y2 := lb_cell R5 2 _ rfl; have y3 := lb_cell R5 3 _ rfl; have f0 := lb_frz R5 0; have f1 := lb_frz R5 1; have f2 := lb_frz R5 2; have f3 := lb_frz R5 3)
          refine bodyPost_ret (v := .tuple #[zeroV, .int .i64 4]) (by simp [results, Try.results11, go_sem, y0, y1, y2, y3, zeroV]) rfl ?_
          exact .inr (.inr ⟨(by trivial), HSH.out, (((e5.set (by simp; omega) _).set (by simp; omega) _).set (by simp; omega) _).set (by simp; omega) _, .inr ⟨H9.out, rfl⟩⟩)
  · clear hok
    go_enter Try.func11, Try.ntmps11
    go_wp2_with (go_at_call 21; refine (C.out _ ((((((Ext.refl w).alloc _).alloc _).alloc _).alloc _).alloc _)).mono ?_; rintro e w3 ⟨rfl, h3⟩; have e3 := Ext.trans ((((((Ext.refl w).alloc _).alloc _).alloc _).alloc _).alloc _) h3; have R3 := lb_ext (lb_new _ _) h3; simp only [size_alloc] at R3; have y0 := lb_cell R3 0 _ rfl; have y1 := lb_cell R3 1 _ rfl; have y2 := lb_cell R3 2 _ rfl; have y3 := lb_cell R3 3 _ rfl; have f0 := lb_frz R3 0; have f1 := lb_frz R3 1; have f2 := lb_frz R3 2; have f3 := lb_frz R3 3; clear h3)
    refine bodyPost_ret (v := .tuple #[zeroV, .int .i64 E]) (by simp [results, Try.results11, go_sem, y0, y1, y2, y3, zeroV]) rfl ?_
    exact .inl ⟨hE, rfl, (((e3.set (by simp; omega) _).set (by simp; omega) _).set (by simp; omega) _).set (by simp; omega) _⟩
end Go.Proofs.Ytkkeblgahbpmmaa
