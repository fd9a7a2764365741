
/- LOutAll: several texts in one. -/
import Derived.Test.YtkkeblgahbpmmaaHCornAll
import Derived.Test.YtkkeblgahbpmmaaPlaneB
import Derived.Test.YtkkeblgahbpmmaaLCornAll
import Derived.Test.YtkkeblgahbpmmaaLRow
import Derived.Test.YtkkeblgahbpmmaaLMass
/- Contract: plane.Hull, where all is well. -/
namespace Go.Proofs.Ytkkeblgahbpmmaa
open Go.RowKit Go.Shelf

set_option maxRecDepth 100000 in
set_option maxHeartbeats 1600000 in
theorem hull_ok (v : Value) (l : List HPt) (w : World) (hp : Pts w v l) (he : errPts l = 0) (h0 : 0 < l.length) (hw : ∀ p ∈ l, wideB p) (hn : l.length ≤ 256) :
    Calls Try.prog 82 #[v] w fun e w' => ∃ v', e = .returned (.tuple #[v', .int .i64 0]) ∧ Pts w' v' (cornersP l) ∧ Ext w w' ∧ OwnIf l w.heap.size w' v' := by
  rcases hp with ⟨a0, c0, rfl, rfl⟩ | ⟨b, off, cap, rfl, hl, hcap, hc⟩
  · simp at h0
  · have HP := Lib.hid (show Pts w (.slice (some ⟨b, off, none⟩) l.length cap) l from .inr ⟨b, off, cap, rfl, hl, hcap, hc⟩)
    have HC := Lib.hid hc
    clear hc
    have CP := Lib.hid (fun W (h : Ext w W) (bb : Nat) (h1 : W.cell? ⟨bb, 0, none⟩ = some (.slice (some ⟨b, off, none⟩) l.length cap)) => checkPoints_c bb 1 _ l W (HP.out.ext h) h1)
    have CC := Lib.hid (fun W (h : Ext w W) => corners_c b off cap l W (fun i hi => ⟨h.cell (HC.out i hi).1, h.cell (HC.out i hi).2⟩) h0 hw (by omega))
    rw [he] at CP
    have hz : ¬ l = [] := by intro e; subst e; simp at h0
    have hz2 : ¬ l.length = 0 := by omega
    generalize cornersP l = K at *
    clear he hw
    go_enter Try.func82, Try.ntmps82
    go_wp2_with (first
      | (go_at_call 95; refine (CP.out _ (by (repeat' (first | exact Ext.refl _ | assumption | refine Ext.alloc ?_ _ | refine Ext.drew ?_ | refine Ext.drewN ?_ _ | refine Ext.set ?_ (by first | exact Nat.le_refl _ | exact le1 _ | exact le2 _ | exact le3 _ | exact le4 _ | exact le5 _ | exact le6 _) _ | refine Ext.trans ?_ (by assumption)))) _ (by go_simp)).mono ?_; rintro e w1 ⟨rfl, hb1⟩)
      | (go_at_call 96; refine (CC.out _ (by (repeat' (first | exact Ext.refl _ | assumption | refine Ext.alloc ?_ _ | refine Ext.drew ?_ | refine Ext.drewN ?_ _ | refine Ext.set ?_ (by first | exact Nat.le_refl _ | exact le1 _ | exact le2 _ | exact le3 _ | exact le4 _ | exact le5 _ | exact le6 _) _ | refine Ext.trans ?_ (by assumption))))).mono ?_; rintro e w2 ⟨v2, rfl, hp2, hb2, hi2⟩; obtain ⟨A2, c2, rfl, _⟩ := hp2.shapeH; replace hp2 := Lib.hid hp2; have HI2 := Lib.hid hi2; clear hi2))
    exact bodyPost_ret (v := .tuple #[.slice A2 K.length c2, .int .i64 0]) (by simp [results, Try.results82, go_sem]) rfl ⟨_, rfl, hp2.out, by (repeat' (first | exact Ext.refl _ | assumption | refine Ext.alloc ?_ _ | refine Ext.drew ?_ | refine Ext.drewN ?_ _ | refine Ext.set ?_ (by first | exact Nat.le_refl _ | exact le1 _ | exact le2 _ | exact le3 _ | exact le4 _ | exact le5 _ | exact le6 _) _ | refine Ext.trans ?_ (by assumption))), fun h => (HI2.out h).down (Ext.sz (by (repeat' (first | exact Ext.refl _ | assumption | refine Ext.alloc ?_ _ | refine Ext.drew ?_ | refine Ext.drewN ?_ _ | refine Ext.set ?_ (by first | exact Nat.le_refl _ | exact le1 _ | exact le2 _ | exact le3 _ | exact le4 _ | exact le5 _ | exact le6 _) _ | refine Ext.trans ?_ (by assumption)))))⟩
end Go.Proofs.Ytkkeblgahbpmmaa
/- load.outline: the hull of the corners of some boxes. -/
namespace Go.Proofs.Ytkkeblgahbpmmaa
open Go.RowKit Go.Shelf Go.Lib

/-- a box: its least and its greatest coordinates -/
structure LBx where
  a : Int
  b : Int
  c : Int
  d : Int
  e : Int
  f : Int
def bxCs (b : LBx) : List Value := [.int .i64 b.a, .int .i64 b.b, .int .i64 b.c, .int .i64 b.d, .int .i64 b.e, .int .i64 b.f]
theorem bxCs_len : ∀ b : LBx, (bxCs b).length = 6 := fun _ => rfl
def RBx (_ : World) (cs : List Value) (b : LBx) : Prop := cs = bxCs b
theorem RBx.stable : Stable RBx := fun _ _ _ _ _ h => h
def outP (l : List LBx) : List HPt := l.flatMap fun b => rectP b.a b.b b.d b.e
theorem outP_snoc {l : List LBx} {k : Nat} {x : LBx} (h : l[k]? = some x) : outP (l.take (k + 1)) = outP (l.take k) ++ rectP x.a x.b x.d x.e := by
  rw [List.take_add_one, h]
  simp [outP]
theorem outP_len (l : List LBx) : (outP l).length = l.length * 4 := by
  induction l with
  | nil => rfl
  | cons b l ih =>
    have : outP (b :: l) = rectP b.a b.b b.d b.e ++ outP l := by simp [outP]
    rw [this, List.length_append, ih, List.length_cons]
    show 4 + _ = _
    omega
def okBx (b : LBx) : Prop := (-16777216 ≤ b.a ∧ b.a ≤ 16777216) ∧ (-16777216 ≤ b.b ∧ b.b ≤ 16777216) ∧ (-16777216 ≤ b.d ∧ b.d ≤ 16777216) ∧ (-16777216 ≤ b.e ∧ b.e ≤ 16777216)
theorem outP_ok {l : List LBx} (h : ∀ b ∈ l, okBx b) : ∀ p ∈ outP l, okPt p = true := by
  intro p hp
  unfold outP at hp
  obtain ⟨b, hb, hp⟩ := List.mem_flatMap.1 hp
  have := h b hb
  unfold okBx at this
  unfold rectP at hp
  simp only [List.mem_cons, List.not_mem_nil, or_false] at hp
  unfold okPt inB
  simp only [Bool.and_eq_true, decide_eq_true_eq]
  rcases hp with rfl | rfl | rfl | rfl <;> simp only <;> omega
/-- what outline answers -/
def OutR (l : List LBx) (w : World) (e : Ending) (w' : World) : Prop :=
  (l = [] ∧ e = .returned (.tuple #[.slice none 0 0, .int .i64 5]) ∧ Ext w w') ∨ (l ≠ [] ∧ ∃ v', e = .returned (.tuple #[v', .int .i64 0]) ∧ Pts w' v' (cornersP (outP l)) ∧ Ext w w' ∧ OwnIf (outP l) w.heap.size w' v')
set_option maxRecDepth 100000 in
set_option maxHeartbeats 800000 in
theorem cornersF_c (b : LBx) (w : World) : Calls Try.prog 81 #[.agg (bxCs b).toArray] w fun e w' => e = .returned (.func (.func 94) #[] #[.pointer (some ⟨w.heap.size, 0, none⟩)]) ∧ w' = w.alloc (.cells (bxCs b).toArray 83) := by
  unfold bxCs
  go_enter Try.func81, Try.ntmps81
  go_wp2
  go_ret
  exact ⟨rfl, rfl⟩
set_option maxRecDepth 100000 in
set_option maxHeartbeats 1600000 in
theorem hull_none (a : Option Addr) (c : Nat) (w : World) : Calls Try.prog 82 #[.slice a 0 c] w fun e w' => e = .returned (.tuple #[.slice none 0 0, .int .i64 5]) ∧ Ext w w' := by
  have CP := Lib.hid (fun W (h : Ext w W) (bb : Nat) (h1 : W.cell? ⟨bb, 0, none⟩ = some (.slice a 0 c)) => checkPoints_c bb 1 _ [] W (.inl ⟨a, c, rfl, rfl⟩) h1)
  rw [show errPts [] = 0 from rfl] at CP
  go_enter Try.func82, Try.ntmps82
  go_wp2_with (go_at_call 95; refine (CP.out _ (by (repeat' (first | exact Ext.refl _ | assumption | refine Ext.alloc ?_ _ | refine Ext.drew ?_ | refine Ext.drewN ?_ _ | refine Ext.set ?_ (by first | exact Nat.le_refl _ | exact le1 _ | exact le2 _ | exact le3 _ | exact le4 _ | exact le5 _ | exact le6 _) _ | refine Ext.trans ?_ (by assumption)))) _ (by go_simp)).mono ?_; rintro e w1 ⟨rfl, hb1⟩)
  exact bodyPost_ret (v := .tuple #[.slice none 0 0, .int .i64 5]) (by simp [results, Try.results82, go_sem]) rfl ⟨rfl, by (repeat' (first | exact Ext.refl _ | assumption | refine Ext.alloc ?_ _ | refine Ext.drew ?_ | refine Ext.drewN ?_ _ | refine Ext.set ?_ (by first | exact Nat.le_refl _ | exact le1 _ | exact le2 _ | exact le3 _ | exact le4 _ | exact le5 _ | exact le6 _) _ | refine Ext.trans ?_ (by assumption)))⟩
set_option maxRecDepth 100000 in
set_option maxHeartbeats 3200000 in
theorem outline_c (v : Value) (l : List LBx) (w : World) (hs : Sl 6 RBx w v l) (hn : l.length ≤ 60) (hv : ∀ b ∈ l, okBx b) :
    Calls Try.prog 71 #[v] w (OutR l w) := by
  have HS := Lib.hid hs
  have HV := Lib.hid hv
  obtain ⟨A, cap, rfl, hl1, hl2⟩ := hs.shape
  clear hs hv
  go_enter Try.func71, Try.ntmps71
  go_wp2
  go_loopw [4, 9] (fun p i wr => ∃ k : Nat, k ≤ l.length ∧ i = .int .i64 k ∧ Ext w wr ∧ OwnP w.heap.size wr p (outP (l.take k))) (fun _ i _ => l.length - (intOf i).toNat)
  case atStart => exact ⟨0, by omega, rfl, Ext.refl _, OwnP.none0⟩
  case round =>
    obtain ⟨k, hk, rfl, hE, ho⟩ := hrel
    have HE := Lib.hid hE
    have HO := Lib.hid ho
    obtain ⟨Ap, cp, rfl, hmp⟩ := ho.shape
    clear hE ho
    by_cases hlt : k < l.length
    · obtain ⟨x, hx⟩ := some_of_lt hlt
      obtain ⟨b, off, cs, rfl, _, hr, hc⟩ := (HS.out.ext RBx.stable HE.out).at hx
      obtain rfl : cs = bxCs x := hr
      have c0 := hc 0 _ rfl
      have c1 := hc 1 _ rfl
      have c2 := hc 2 _ rfl
      have c3 := hc 3 _ rfl
      have c4 := hc 4 _ rfl
      have c5 := hc 5 _ rfl
      simp only [Nat.add_zero] at c0
      have hbl := lt_of_cell c0
      have HX := Lib.hid hx
      clear hc hx
      obtain ⟨wA, hwA⟩ : ∃ z : World, z = wr := ⟨_, rfl⟩
      subst hwA
      have hlt1 : (k : Int) < (l.length : Int) := by omega
      have CF := Lib.hid (fun W => cornersF_c x W)
      unfold bxCs at CF
      have hnl : (outP (l.take k)).length ≤ 10000 := by rw [outP_len, List.length_take]; omega
      have HNL := Lib.hid hnl
      have AP := Lib.hid (fun (W : World) (Bl : Nat) (hb : W.heap[Bl]? = some (.cells (bxCs x).toArray 83 (0, 0))) (h2 : w.heap.size ≤ Bl) (hW : Ext wA W) => apSeq_c Bl x.a x.b x.c x.d x.e x.f (.slice Ap (outP (l.take k)).length cp) (outP (l.take k)) w W (HE.out.trans hW) hb h2 (HO.out.ext hW) HNL.out)
      have hws := HE.out.size
      clear hnl
      obtain ⟨NN, hNN⟩ : ∃ NN, (outP (l.take k)).length = NN := ⟨_, rfl⟩
      simp only [hNN] at AP ⊢
      clear hNN
      go_wp2_with (first
        | (go_at_call 81; refine (CF.out _).mono ?_; rintro e w2 ⟨rfl, hw2⟩; have hbB : w2.heap[wA.heap.size + 1]? = some (.cells (bxCs x).toArray 83 (0, 0)) := (by rw [hw2]; exact heap2_second _ _ _); have hE2 : Ext wA w2 := (by rw [hw2]; exact ((Ext.refl _).alloc _).alloc _); clear hw2)
        | (go_at_call 80; refine (AP.out _ _ hbB (by omega) hE2).mono ?_; rintro e w3 ⟨v3, rfl, ho3, hE3⟩))
      go_roundw
      case rel => exact ⟨k + 1, by omega, by go_num, hE3, by rw [outP_snoc HX.out]; exact ho3⟩
      case measure => simp [intOf]; omega
    · obtain rfl : k = l.length := by omega
      rw [List.take_length] at HO
      have hml : (outP l).length ≤ 256 := by rw [outP_len]; omega
      by_cases h0 : l = []
      · have HN := Lib.hid h0
        have hlen : (outP (l.take l.length)).length = 0 := by rw [h0]; rfl
        have hll : l.length = 0 := by rw [h0]; rfl
        rw [hlen] at *
        have HU := Lib.hid (fun W => hull_none Ap cp W)
        generalize hLL : l.length = LL at *
        clear hLL h0 hlen
        subst hll
        go_wp2_with (go_at_call 82; refine (HU.out _).mono ?_; rintro e w4 ⟨rfl, h4⟩)
        exact bodyPost_ret (v := .tuple #[.slice none 0 0, .int .i64 5]) (by simp [results, Try.results71, go_sem]) rfl (.inl ⟨HN.out, rfl, HE.out.trans h4⟩)
      · have HN := Lib.hid h0
        rw [List.take_length]
        have hp0 : 0 < (outP l).length := by
          rw [outP_len]
          have := List.length_pos_iff.2 h0
          omega
        have hok : (outP l).all okPt = true := List.all_eq_true.2 (outP_ok HV.out)
        have hwd : ∀ p ∈ outP l, wideB p := by
          intro p hp
          have := outP_ok HV.out p hp
          unfold okPt inB at this
          simp only [Bool.and_eq_true, decide_eq_true_eq] at this
          unfold wideB
          omega
        have HU := Lib.hid (fun W (h : Ext wr W) => hull_ok (.slice Ap (outP l).length cp) (outP l) W (HO.out.ext h).pts (errPts_ok (by omega) hok) hp0 hwd hml)
        clear h0 hok hwd hp0 hml
        go_wp2_with (go_at_call 82; refine (HU.out _ (by (repeat' (first | exact Ext.refl _ | assumption | refine Ext.alloc ?_ _ | refine Ext.drew ?_ | refine Ext.drewN ?_ _ | refine Ext.set ?_ (by first | exact Nat.le_refl _ | exact le1 _ | exact le2 _ | exact le3 _ | exact le4 _ | exact le5 _ | exact le6 _) _ | refine Ext.trans ?_ (by assumption))))).mono ?_; rintro e w4 ⟨v4, rfl, hp4, h4, hi4⟩)
        exact bodyPost_ret (v := .tuple #[v4, .int .i64 0]) (by simp [results, Try.results71, go_sem]) rfl (.inr ⟨HN.out, _, rfl, hp4, HE.out.trans h4, fun h => (hi4 h).down HE.out.size⟩)
end Go.Proofs.Ytkkeblgahbpmmaa
/- Contracts: Above and Outline, by the program. -/
namespace Go.Proofs.Ytkkeblgahbpmmaa
open Go.RowKit Go.Shelf Go.Lib

def bxOf (p : LPiece) : LBx := ⟨p.x, p.y, p.z, p.x + p.l, p.y + p.w, p.z + p.h⟩
/-- the boxes of the pieces that reach above z -/
def highL (z : Int) (l : List LPiece) : List LBx := (l.filter fun p => decide (z < p.z + p.h)).map bxOf
theorem highL_snoc {z : Int} {l : List LPiece} {k : Nat} {x : LPiece} (h : l[k]? = some x) : highL z (l.take (k + 1)) = if z < x.z + x.h then highL z (l.take k) ++ [bxOf x] else highL z (l.take k) := by
  rw [List.take_add_one, h]
  unfold highL
  by_cases hz : z < x.z + x.h <;> simp [hz]
theorem highL_len (z : Int) (l : List LPiece) : (highL z l).length ≤ l.length := by
  unfold highL
  rw [List.length_map]
  exact List.length_filter_le _ _
theorem highL_ok {z : Int} {l : List LPiece} (hv : ∀ p ∈ l, pieceB p = true) : ∀ b ∈ highL z l, okBx b := by
  intro b hb
  unfold highL at hb
  obtain ⟨p, hp, rfl⟩ := List.mem_map.1 hb
  obtain ⟨ha, hb, hc, hl, hw, hh, hm⟩ := piece_bds (hv p (List.mem_filter.1 hp).1)
  unfold okBx bxOf
  simp only
  omega
theorem infoBx : (Try.prog.info? 83).map (fun i => (i.zero, i.size, i.bytes)) = some (some (.agg #[.int .i64 0, .int .i64 0, .int .i64 0, .int .i64 0, .int .i64 0, .int .i64 0]), 6, 48) := by kernel_rfl
/-- what Above answers -/
def AboveR (l : LLoad) (z : Int) (w : World) (e : Ending) (w' : World) : Prop :=
  (¬ loadE l = 0 ∧ e = .returned (.tuple #[.slice none 0 0, .int .i64 (loadE l)]) ∧ Ext w w') ∨ (loadE l = 0 ∧ OutR (highL z l.pieces) w e w')
theorem OutR.ext {l : List LBx} {w w1 w' : World} {e : Ending} (h : OutR l w1 e w') (he : Ext w w1) : OutR l w e w' := by
  rcases h with ⟨h1, h2, h3⟩ | ⟨h1, v, h2, h3, h4, h5⟩
  · exact .inl ⟨h1, h2, he.trans h3⟩
  · exact .inr ⟨h1, v, h2, h3, he.trans h4, fun h => (h5 h).down he.size⟩
set_option maxRecDepth 100000 in
set_option maxHeartbeats 6400000 in
theorem Above_c (l : LLoad) (vp ve : Value) (z : Int) (w : World) (hl : IsLoad w l vp ve) :
    Calls Try.prog 48 #[loadV l vp ve, .int .i64 z] w (AboveR l z w) := by
  have C := Lib.hid (fun W (h : Ext w W) => LCheck_c l vp ve W (hl.ext h))
  have hok := @load_ok l
  have HS := Lib.hid hl.pieces
  obtain ⟨A, cap, rfl, hl1, hl2⟩ := hl.pieces.shape
  obtain ⟨B, cbp, rfl, hm1, hm2⟩ := hl.eyes.shape
  clear hl
  unfold AboveR
  unfold loadV at *
  generalize hEE : loadE l = E at *
  by_cases hE : E = 0
  · subst hE
    have K := hok rfl
    have HV := Lib.hid K.pieces
    have hn := K.n2
    clear hok K
    obtain ⟨ib, hb0, hb1, hb2, hb3⟩ := info_partsL infoBx
    generalize l.pieces = ps at *
    go_enter Try.func48, Try.ntmps48
    go_upto_region 4 with (go_at_call 21; refine (C.out _ (by (repeat' (first | exact Ext.refl _ | assumption | refine Ext.alloc ?_ _ | refine Ext.drew ?_ | refine Ext.drewN ?_ _ | refine Ext.set ?_ (by first | exact Nat.le_refl _ | exact le1 _ | exact le2 _ | exact le3 _ | exact le4 _ | exact le5 _ | exact le6 _) _ | refine Ext.trans ?_ (by assumption))))).mono ?_; rintro e w1 ⟨rfl, h1⟩; have bb := lb_ext (lb_new w (.cells #[.string l.name, .slice A ps.length cap, .slice B l.eyes.length cbp, .int .i64 l.friction] 25)) h1; have y1 := lb_cell bb 1 _ rfl; have hlt := lb_lt bb; clear bb)
    have e1 : Ext w w1 := Ext.trans ((Ext.refl w).alloc _) h1
    clear h1 C
    go_wp2_with fail
    go_loopw [7, 19] (fun v i wr => ∃ k : Nat, k ≤ ps.length ∧ i = .int .i64 k ∧ Ext w wr ∧ OwnR bxCs 6 83 w.heap.size wr v (highL z (ps.take k))) (fun _ i _ => ps.length - (intOf i).toNat)
    case atStart => exact ⟨0, by omega, rfl, e1, OwnR.nil⟩
    case round =>
      obtain ⟨k, hk, rfl, hE, ho⟩ := hrel
      have HE := Lib.hid hE
      have HO := Lib.hid ho
      obtain ⟨Ap, cp, rfl, hmp, hmq⟩ := ho.shape
      have hhl := highL_len z (ps.take k)
      rw [List.length_take] at hhl
      clear hE ho e1
      obtain ⟨wA, hwA⟩ : ∃ z : World, z = wr := ⟨_, rfl⟩
      subst hwA
      by_cases hlt : k < ps.length
      · obtain ⟨x, hx⟩ := some_of_lt hlt
        obtain ⟨b, off, cs, rfl, _, hr, hc⟩ := (HS.out.ext RPiece.stable HE.out).at hx
        obtain rfl : cs = pieceCs x := hr
        have c0 := hc 0 _ rfl
        have c1 := hc 1 _ rfl
        have c2 := hc 2 _ rfl
        have c3 := hc 3 _ rfl
        have c4 := hc 4 _ rfl
        have c5 := hc 5 _ rfl
        have c6 := hc 6 _ rfl
        simp only [Nat.add_zero] at c0
        have hbl := lt_of_cell c0
        have hpx := HV.out x (mem_of_some hx)
        have HX := Lib.hid hx
        have BX := Lib.hid (fun W => boxOf_c x W hpx)
        have hlt1 : (k : Int) < (ps.length : Int) := by omega
        have hws := HE.out.size
        clear hc hx hpx
        unfold pieceV boxV at BX
        go_upto_region 9 with (go_at_call 44; refine (BX.out _).mono ?_; rintro e w2 ⟨rfl, h2⟩; have e2 : Ext wA w2 := Ext.trans ((Ext.refl wA).alloc _) h2; clear h2)
        have bb := lb_new w2 (.cells #[.int .i64 x.x, .int .i64 x.y, .int .i64 x.z, .int .i64 (x.x + x.l), .int .i64 (x.y + x.w), .int .i64 (x.z + x.h)] 83)
        have e3 : Ext wA (w2.alloc (.cells #[.int .i64 x.x, .int .i64 x.y, .int .i64 x.z, .int .i64 (x.x + x.l), .int .i64 (x.y + x.w), .int .i64 (x.z + x.h)] 83)) := e2.alloc _
        generalize (w2.alloc (.cells #[.int .i64 x.x, .int .i64 x.y, .int .i64 x.z, .int .i64 (x.x + x.l), .int .i64 (x.y + x.w), .int .i64 (x.z + x.h)] 83)) = w3 at *
        have d0 := lb_cell bb 0 _ rfl
        have d1 := lb_cell bb 1 _ rfl
        have d2 := lb_cell bb 2 _ rfl
        have d3 := lb_cell bb 3 _ rfl
        have d4 := lb_cell bb 4 _ rfl
        have d5 := lb_cell bb 5 _ rfl
        have hbl3 := lb_lt bb
        have E3 := Lib.hid (HE.out.trans e3)
        have HO3 := HO.out.ext e3
        have hsn := highL_snoc (z := z) HX.out
        clear e2 e3 bb c0 c1 c2 c3 c4 c5 c6
        by_cases hz : z < x.z + x.h
        · rw [if_pos hz] at hsn
          have HSN := Lib.hid hsn
          unfold OwnR at HO3
          have HOW := Lib.hid HO3
          have hs3 := E3.out.size
          obtain ⟨N, hN⟩ : ∃ N, (highL z (ps.take k)).length = N := ⟨_, rfl⟩
          rw [hN] at HOW hhl ⊢
          have HN := Lib.hid hN
          clear HO3 hsn hN hmp hmq
          go_wp2_with (at_builtin; refine wpList_append_own _ rfl _ _ 115 rfl w.heap.size 83 ib _ 6 48 Try.underlying115 hb0 hb1 hb2 hb3 rfl (by decide) _ _ _ rfl (HOW.out.alloc _) ⟨w3.heap.size, 0, none⟩ 1 1 [.int .i64 x.x, .int .i64 x.y, .int .i64 x.z, .int .i64 (x.x + x.l), .int .i64 (x.y + x.w), .int .i64 (x.z + x.h)] rfl rfl (World.news_of_block (cs := #[.int .i64 x.x, .int .i64 x.y, .int .i64 x.z, .int .i64 (x.x + x.l), .int .i64 (x.y + x.w), .int .i64 (x.z + x.h)]) (t := 83) (fr := (0, 0)) (lb_new w3 _)) (by simp [Value.oneCell']) (by unfold maxLen; omega) (by omega) (by simp; omega) ?_; intro v' w4 hown' hg3 _)
          go_roundw
          case rel =>
            refine ⟨k + 1, by omega, by go_num, Ext.grown (E3.out.alloc _) hg3 (fun k hk => own_ge HOW.out k hk), ?_⟩
            rw [HSN.out]
            unfold OwnR
            rw [List.length_append, HN.out, List.map_append, List.flatten_append]
            exact hown'
          case measure => simp [intOf]; omega
        · rw [if_neg hz] at hsn
          have HSN := Lib.hid hsn
          have HO3' := Lib.hid HO3
          clear hsn HO3
          go_wp2_with fail
          go_roundw
          case rel => exact ⟨k + 1, by omega, by go_num, E3.out, by rw [HSN.out]; exact HO3'.out⟩
          case measure => simp [intOf]; omega
      · obtain rfl : k = ps.length := by omega
        rw [List.take_length] at HO hhl ⊢
        have OC := Lib.hid (outline_c _ (highL z ps) wA (HO.out.sl bxCs_len (fun _ _ => rfl)) (by omega) (highL_ok HV.out))
        go_wp2_with (go_at_call 71; refine OC.out.mono ?_; rintro e w4 (⟨hq1, rfl, hq2⟩ | ⟨hq1, v4, rfl, hq2, hq3, hq4⟩))
        · exact bodyPost_ret (v := .tuple #[.slice none 0 0, .int .i64 5]) (by simp [results, Try.results48, go_sem]) rfl (.inr ⟨trivial, .inl ⟨hq1, rfl, HE.out.trans hq2⟩⟩)
        · exact bodyPost_ret (v := .tuple #[v4, .int .i64 0]) (by simp [results, Try.results48, go_sem]) rfl (.inr ⟨trivial, .inr ⟨hq1, _, rfl, hq2, HE.out.trans hq3, fun h => (hq4 h).down HE.out.size⟩⟩)
  · have HEN := Lib.hid hE
    clear hok
    go_enter Try.func48, Try.ntmps48
    go_wp2_with (go_at_call 21; refine (C.out _ (by (repeat' (first | exact Ext.refl _ | assumption | refine Ext.alloc ?_ _ | refine Ext.drew ?_ | refine Ext.drewN ?_ _ | refine Ext.set ?_ (by first | exact Nat.le_refl _ | exact le1 _ | exact le2 _ | exact le3 _ | exact le4 _ | exact le5 _ | exact le6 _) _ | refine Ext.trans ?_ (by assumption))))).mono ?_; rintro e w1 ⟨rfl, h1⟩; have e1 : Ext w w1 := Ext.trans ((Ext.refl w).alloc _) h1)
    exact bodyPost_ret (v := .tuple #[.slice none 0 0, .int .i64 E]) (by simp [results, Try.results48, go_sem]) rfl (.inl ⟨HEN.out, rfl, e1⟩)
set_option maxRecDepth 100000 in
set_option maxHeartbeats 1600000 in
theorem Outline_c (l : LLoad) (vp ve : Value) (w : World) (hl : IsLoad w l vp ve) :
    Calls Try.prog 22 #[loadV l vp ve] w (AboveR l (-1) w) := by
  have C := Lib.hid (fun W (h : Ext w W) => Above_c l vp ve (-1) W (hl.ext h))
  obtain ⟨A, cap, rfl, hl1, hl2⟩ := hl.pieces.shape
  obtain ⟨B, cbp, rfl, hm1, hm2⟩ := hl.eyes.shape
  clear hl
  unfold loadV at *
  unfold AboveR at C
  unfold OutR at C
  unfold AboveR
  unfold OutR
  go_enter Try.func22, Try.ntmps22
  go_wp2_with (go_at_call 48; refine (C.out _ (by (repeat' (first | exact Ext.refl _ | assumption | refine Ext.alloc ?_ _ | refine Ext.drew ?_ | refine Ext.drewN ?_ _ | refine Ext.set ?_ (by first | exact Nat.le_refl _ | exact le1 _ | exact le2 _ | exact le3 _ | exact le4 _ | exact le5 _ | exact le6 _) _ | refine Ext.trans ?_ (by assumption))))).mono ?_; rintro e w1 (⟨q0, rfl, h1⟩ | ⟨q0, ⟨q1, rfl, h1⟩ | ⟨q1, v1, rfl, q2, h1, h2⟩⟩))
  · exact bodyPost_ret (v := .tuple #[.slice none 0 0, .int .i64 (loadE l)]) (by simp [results, Try.results22, go_sem]) rfl (.inl ⟨q0, rfl, Ext.trans ((Ext.refl w).alloc _) h1⟩)
  · exact bodyPost_ret (v := .tuple #[.slice none 0 0, .int .i64 5]) (by simp [results, Try.results22, go_sem]) rfl (.inr ⟨q0, .inl ⟨q1, rfl, Ext.trans ((Ext.refl w).alloc _) h1⟩⟩)
  · exact bodyPost_ret (v := .tuple #[v1, .int .i64 0]) (by simp [results, Try.results22, go_sem]) rfl (.inr ⟨q0, .inr ⟨q1, v1, rfl, q2, Ext.trans ((Ext.refl w).alloc _) h1, fun h => (h2 h).down (Ext.sz ((Ext.refl w).alloc _))⟩⟩)
end Go.Proofs.Ytkkeblgahbpmmaa
