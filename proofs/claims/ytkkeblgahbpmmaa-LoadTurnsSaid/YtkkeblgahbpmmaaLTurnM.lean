
/- LTurnM: several texts in one. -/
import Derived.Test.YtkkeblgahbpmmaaLGeoAll
import Derived.Test.YtkkeblgahbpmmaaLTurn
import Derived.Test.YtkkeblgahbpmmaaLOutAll
import Derived.Test.YtkkeblgahbpmmaaHCornAll
import Derived.Test.YtkkeblgahbpmmaaLExAll
import Derived.Test.YtkkeblgahbpmmaaLBlk
import Derived.Test.YtkkeblgahbpmmaaHull1
import Derived.Test.YtkkeblgahbpmmaaHOwn
import Derived.Test.YtkkeblgahbpmmaaHApp
import Derived.Test.YtkkeblgahbpmmaaHull3
import Derived.Test.YtkkeblgahbpmmaaHStack
/- The plain law of LoadTurns: turns add up, four of them are none; the outline of a turned load is the turned outline. -/
namespace Go.Proofs.Ytkkeblgahbpmmaa
open Go.RowKit

theorem corners_memL {l m : List HPt} (h : ∀ p, p ∈ l ↔ p ∈ m) : cornersP l = cornersP m := by
  have hs : sortP l = sortP m := srt_unique (sort_srt l) (sort_srt m) (fun y => by rw [sort_mem, sort_mem, h])
  unfold cornersP
  rw [hs]
/-- a list between the corners and the points has the same hull -/
theorem corners_between {l m : List HPt} (h1 : ∀ p ∈ cornersP l, p ∈ m) (h2 : ∀ p ∈ m, p ∈ l) : cornersP m = cornersP l := by
  by_cases h : (sortP l).length < 2
  · have e : cornersP l = sortP l := by unfold cornersP; rw [if_pos h]
    exact corners_memL (fun p => ⟨h2 p, fun hp => h1 p (by rw [e]; exact (sort_mem l p).2 hp)⟩)
  · obtain ⟨mn, mx, A, B, H⟩ := hull_of (l := l) (by omega)
    exact (corners_keep H h1 (fun p hp => H.inP (h2 p hp))).1
def rotQ (p : HPt) : HPt := (-p.2, p.1)
theorem rotQ_inj {p q : HPt} (h : rotQ p = rotQ q) : p = q := by
  unfold rotQ at h
  obtain ⟨a, b⟩ := p
  obtain ⟨c, d⟩ := q
  simp only [Prod.mk.injEq] at h ⊢
  omega
theorem rot_dot (d x : HPt) : dotP d (rotQ x) = dotP (d.2, -d.1) x := by unfold dotP rotQ; simp only; grind
theorem corners_rot {Q : List HPt} (h0 : Q ≠ []) : cornersP ((cornersP Q).map rotQ) = cornersP (Q.map rotQ) := by
  refine corners_between (fun p hp => ?_) (fun p hp => ?_)
  · have H := least_of (p := Q.map rotQ) (by simpa using h0)
    obtain ⟨q, hq, rfl⟩ := List.mem_map.1 (corners_sub hp)
    obtain ⟨d, hd⟩ := H.far _ hp
    obtain ⟨s, hs, k⟩ := support h0 (d.2, -d.1)
    by_cases e : rotQ s = rotQ q
    · rw [← e]; exact List.mem_map_of_mem hs
    · have h1 := hd _ (List.mem_map_of_mem (corners_sub hs)) e
      have h2 := k q hq
      rw [rot_dot, rot_dot] at h1
      omega
  · obtain ⟨q, hq, rfl⟩ := List.mem_map.1 hp
    exact List.mem_map_of_mem (corners_sub hq)
theorem quarter_four (p : LPiece) : quarterP (quarterP (quarterP (quarterP p))) = p := by
  obtain ⟨x, y, z, l, w, h, m⟩ := p
  unfold quarterP
  simp only [LPiece.mk.injEq, and_true]
  omega
theorem quarterE_four (p : LEye) : quarterE (quarterE (quarterE (quarterE p))) = p := by
  obtain ⟨x, y, z, s⟩ := p
  unfold quarterE
  simp only [LEye.mk.injEq, and_true]
  omega
theorem turnL_add (p : LPiece) (n : Nat) : ∀ m, turnL (m + n) p = turnL m (turnL n p)
  | 0 => by rw [Nat.zero_add]; rfl
  | m + 1 => by rw [show m + 1 + n = (m + n) + 1 by omega]; show quarterP _ = quarterP _; rw [turnL_add p n m]
theorem turnM_add (p : LEye) (n : Nat) : ∀ m, turnM (m + n) p = turnM m (turnM n p)
  | 0 => by rw [Nat.zero_add]; rfl
  | m + 1 => by rw [show m + 1 + n = (m + n) + 1 by omega]; show quarterE _ = quarterE _; rw [turnM_add p n m]
theorem turnL_mod (p : LPiece) (n : Nat) : turnL (n % 4) p = turnL n p := by
  have key : ∀ k r, turnL (r + 4 * k) p = turnL r p := by
    intro k
    induction k with
    | zero => intro r; rfl
    | succ k ih =>
      intro r
      rw [show r + 4 * (k + 1) = (r + 4 * k) + 4 by omega, turnL_add]
      have : turnL 4 p = p := quarter_four p
      rw [this, ih]
  rw [← key (n / 4) (n % 4), Nat.mod_add_div]
theorem turnM_mod (p : LEye) (n : Nat) : turnM (n % 4) p = turnM n p := by
  have key : ∀ k r, turnM (r + 4 * k) p = turnM r p := by
    intro k
    induction k with
    | zero => intro r; rfl
    | succ k ih =>
      intro r
      rw [show r + 4 * (k + 1) = (r + 4 * k) + 4 by omega, turnM_add]
      have : turnM 4 p = p := quarterE_four p
      rw [this, ih]
  rw [← key (n / 4) (n % 4), Nat.mod_add_div]
theorem turned_add (a b : Int) (l : LLoad) : turnedL b (turnedL a l) = turnedL (a + b) l := by
  have e : ((a + b) % 4).toNat = ((b % 4).toNat + (a % 4).toNat) % 4 := by omega
  unfold turnedL mapL
  simp only [List.map_map]
  rw [e]
  congr 1
  · refine List.map_congr_left (fun p _ => ?_)
    show turnL _ (turnL _ p) = _
    rw [← turnL_add, turnL_mod]
  · refine List.map_congr_left (fun p _ => ?_)
    show turnM _ (turnM _ p) = _
    rw [← turnM_add, turnM_mod]
theorem turned_none (b : Int) (l : LLoad) : turnedL (4 * b) l = l := by
  have e : ((4 * b) % 4).toNat = 0 := by omega
  unfold turnedL mapL
  rw [e]
  have h1 : l.pieces.map (turnL 0) = l.pieces := by rw [show turnL 0 = (fun p => p) from rfl]; simp
  have h2 : l.eyes.map (turnM 0) = l.eyes := by rw [show turnM 0 = (fun p => p) from rfl]; simp
  rw [h1, h2]
/-- the outline of a turned load, as a list of points: turned -/
theorem out_turn (ps : List LPiece) : cornersP (outP (highL (-1) (ps.map quarterP))) = cornersP ((outP (highL (-1) ps)).map rotQ) := by
  refine corners_memL (fun q => ?_)
  unfold outP highL
  simp only [List.mem_flatMap, List.mem_map, List.mem_filter, decide_eq_true_eq]
  constructor
  · rintro ⟨b, ⟨p', ⟨⟨p, hp, rfl⟩, hz⟩, rfl⟩, hq⟩
    unfold rectP bxOf quarterP at hq
    simp only [List.mem_cons, List.not_mem_nil, or_false] at hq
    have hz' : -1 < p.z + p.h := hz
    rcases hq with rfl | rfl | rfl | rfl
    · exact ⟨(p.x, p.y + p.w), ⟨bxOf p, ⟨p, ⟨hp, hz'⟩, rfl⟩, by simp [rectP, bxOf]⟩, by unfold rotQ; simp only [Prod.mk.injEq, and_true]; omega⟩
    · exact ⟨(p.x + p.l, p.y + p.w), ⟨bxOf p, ⟨p, ⟨hp, hz'⟩, rfl⟩, by simp [rectP, bxOf]⟩, by unfold rotQ; simp only [Prod.mk.injEq, and_true]; omega⟩
    · exact ⟨(p.x, p.y), ⟨bxOf p, ⟨p, ⟨hp, hz'⟩, rfl⟩, by simp [rectP, bxOf]⟩, by unfold rotQ; simp only [Prod.mk.injEq, and_true]; omega⟩
    · exact ⟨(p.x + p.l, p.y), ⟨bxOf p, ⟨p, ⟨hp, hz'⟩, rfl⟩, by simp [rectP, bxOf]⟩, by unfold rotQ; simp only [Prod.mk.injEq, and_true]; omega⟩
  · rintro ⟨x, ⟨b, ⟨p, ⟨hp, hz⟩, rfl⟩, hx⟩, rfl⟩
    unfold rectP bxOf at hx
    simp only [List.mem_cons, List.not_mem_nil, or_false] at hx
    refine ⟨bxOf (quarterP p), ⟨quarterP p, ⟨⟨p, hp, rfl⟩, hz⟩, rfl⟩, ?_⟩
    unfold rectP bxOf quarterP rotQ
    simp only [List.mem_cons, List.not_mem_nil, or_false]
    rcases hx with rfl | rfl | rfl | rfl
    · refine .inr (.inr (.inl ?_)); simp only [Prod.mk.injEq, and_true]; omega
    · refine .inl ?_; simp only [Prod.mk.injEq, and_true]; omega
    · refine .inr (.inr (.inr ?_)); simp only [Prod.mk.injEq, and_true]; omega
    · refine .inr (.inl ?_); simp only [Prod.mk.injEq, and_true]; omega
/-- of a valid load: its outline has two points at least -/
theorem out_two {l : LLoad} (K : LoadOk l) : 2 ≤ (sortP (outP (highL (-1) l.pieces))).length ∧ highL (-1) l.pieces ≠ [] := by
  obtain ⟨p, hp⟩ : ∃ p, p ∈ l.pieces := List.exists_mem_of_length_pos K.n1
  obtain ⟨ha, hb, hc, hl, hw, hh, hm⟩ := piece_bds (K.pieces p hp)
  have hin : bxOf p ∈ highL (-1) l.pieces := by
    unfold highL
    exact List.mem_map_of_mem (List.mem_filter.2 ⟨hp, by simp; omega⟩)
  refine ⟨?_, fun e => by rw [e] at hin; simp at hin⟩
  have m1 : (p.x, p.y) ∈ sortP (outP (highL (-1) l.pieces)) := (sort_mem _ _).2 (by unfold outP; exact List.mem_flatMap.2 ⟨_, hin, by simp [rectP, bxOf]⟩)
  have m2 : (p.x + p.l, p.y) ∈ sortP (outP (highL (-1) l.pieces)) := (sort_mem _ _).2 (by unfold outP; exact List.mem_flatMap.2 ⟨_, hin, by simp [rectP, bxOf]⟩)
  rcases hS : sortP (outP (highL (-1) l.pieces)) with _ | ⟨a, _ | ⟨b, r⟩⟩
  · rw [hS] at m1; simp at m1
  · rw [hS] at m1 m2
    simp only [List.mem_singleton] at m1 m2
    rw [← m2] at m1
    simp only [Prod.mk.injEq] at m1
    omega
  · simp
end Go.Proofs.Ytkkeblgahbpmmaa
/- Contracts: samePoints; sameLoad at equal loads. -/
namespace Go.Proofs.Ytkkeblgahbpmmaa
open Go.RowKit Go.Shelf Instr

theorem pts_atH {w : World} {A : Option Addr} {n c : Nat} {l : List HPt} (h : Pts w (.slice A n c) l) (_ : l.length = n) {i : Nat} {p : HPt} (hi : l[i]? = some p) :
    ∃ b off, A = some ⟨b, off, none⟩ ∧ w.cell? ⟨b, off + i * 2, none⟩ = some (.int .i64 p.1) ∧ w.cell? ⟨b, off + i * 2 + 1, none⟩ = some (.int .i64 p.2) := by
  rcases h with ⟨_, _, _, h2⟩ | ⟨b, off, cap, h1, _, _, hc⟩
  · rw [h2] at hi; simp at hi
  · simp only [Value.slice.injEq] at h1
    have hg : l.getD i (0, 0) = p := by simp [List.getD, hi]
    have := hc i (List.getElem?_eq_some_iff.1 hi).1
    rw [hg] at this
    exact ⟨b, off, h1.1, this.1, this.2⟩
set_option maxRecDepth 100000 in
set_option maxHeartbeats 1600000 in
theorem samePts_c (va vb : Value) (l m : List HPt) (w : World) (ha : Pts w va l) (hb : Pts w vb m) :
    Calls Try.prog 23 #[va, vb] w fun e w' => e = .returned (.bool (decide (l = m))) ∧ Ext w w' := by
  have HN := Lib.hid neqP_c
  obtain ⟨A, c, rfl, hl⟩ := ha.shapeH
  obtain ⟨A2, c2, rfl, hm⟩ := hb.shapeH
  have HA := Lib.hid ha
  have HB := Lib.hid hb
  clear ha hb
  by_cases hlm : l.length = m.length
  · have HL := Lib.hid hlm
    rw [← hlm] at HB hm ⊢
    clear hlm
    go_enter Try.func23, Try.ntmps23
    go_wp2
    go_loopw [5] (fun i wr => ∃ k : Nat, k ≤ l.length ∧ i = .int .i64 k ∧ l.take k = m.take k ∧ Ext w wr) (fun i _ => l.length - (intOf i).toNat)
    case atStart => exact ⟨0, by omega, rfl, rfl, Ext.refl _⟩
    case round =>
      obtain ⟨k, hk, rfl, htk, hE⟩ := hrel
      have HTK := Lib.hid htk
      clear htk
      by_cases hlt : k < l.length
      · have hp : l[k]? = some l[k] := List.getElem?_eq_getElem hlt
        have hq : m[k]? = some (m[k]'(by have := HL.out; omega)) := List.getElem?_eq_getElem (by have := HL.out; omega)
        generalize l[k] = p at hp
        generalize (m[k]'(by have := HL.out; omega)) = q at hq
        obtain ⟨b, off, rfl, k0, k1⟩ := pts_atH HA.out rfl hp
        obtain ⟨b2, off2, rfl, m0, m1⟩ := pts_atH HB.out HL.out.symm hq
        obtain ⟨p1, p2⟩ := p
        obtain ⟨q1, q2⟩ := q
        simp only at k0 k1 m0 m1
        replace k0 := hE.cell k0
        replace k1 := hE.cell k1
        replace m0 := hE.cell m0
        replace m1 := hE.cell m1
        have HPQ := Lib.hid (And.intro hp hq)
        clear hp hq
        by_cases hpq : ((p1, p2) : HPt) = (q1, q2)
        · have hne : ∀ w, (binOp .neq 52 (.agg #[.int .i64 p1, .int .i64 p2]) (.agg #[.int .i64 q1, .int .i64 q2])).run Try.prog w = .ok (.bool false) w := fun w => by rw [HN.out, decide_eq_true hpq]; rfl
          have HQ := Lib.hid hpq
          clear hpq
          go_wp2
          (refine wp_region_ext (C := fun w' => Ext wr w') (by kernel_rfl) (by kernel_rfl) (by (repeat' (first | exact Ext.refl _ | assumption | refine Ext.alloc ?_ _ | refine Ext.drew ?_ | refine Ext.drewN ?_ _ | refine Ext.set ?_ (by first | exact Nat.le_refl _ | exact le1 _ | exact le2 _ | exact le3 _ | exact le4 _ | exact le5 _ | exact le6 _) _ | refine Ext.trans ?_ (by assumption)))) ?_; (repeat (with_reducible refine wpQuiet_step (fun K hK => ?_); go_simp; first | (refine hK _ ?_; clear hK K) | (apply Exists.intro; refine ⟨fun w' hC => ?_, hK _ ?_⟩; (focus first | with_reducible rfl | (have q0 := hC.cell k0; have q1 := hC.cell k1; have q2 := hC.cell m0; have q3 := hC.cell m1; go_simp; done) | (have q0 := hC.cell k0; have q1 := hC.cell k1; have q2 := hC.cell m0; have q3 := hC.cell m1; go_simp; exact ⟨rfl, rfl⟩) | (have q0 := hC.cell k0; have q1 := hC.cell k1; have q2 := hC.cell m0; have q3 := hC.cell m1; go_simp; with_reducible rfl)); clear hK K))); refine wpQuiet_nil ?_; intro wq hEq)
          have HE := Lib.hid (hE.trans hEq)
          clear hEq hE k0 k1 m0 m1
          go_wp2
          refine ⟨⟨k + 1, by omega, by go_num, ?_, HE.out⟩, by simp [intOf]; omega⟩
          rw [List.take_add_one, List.take_add_one, HPQ.out.1, HPQ.out.2, HTK.out, HQ.out]
        · have hne : ∀ w, (binOp .neq 52 (.agg #[.int .i64 p1, .int .i64 p2]) (.agg #[.int .i64 q1, .int .i64 q2])).run Try.prog w = .ok (.bool true) w := fun w => by rw [HN.out, decide_eq_false hpq]; rfl
          have HQ := Lib.hid hpq
          clear hpq
          go_wp2
          (refine wp_region_ext (C := fun w' => Ext wr w') (by kernel_rfl) (by kernel_rfl) (by (repeat' (first | exact Ext.refl _ | assumption | refine Ext.alloc ?_ _ | refine Ext.drew ?_ | refine Ext.drewN ?_ _ | refine Ext.set ?_ (by first | exact Nat.le_refl _ | exact le1 _ | exact le2 _ | exact le3 _ | exact le4 _ | exact le5 _ | exact le6 _) _ | refine Ext.trans ?_ (by assumption)))) ?_; (repeat (with_reducible refine wpQuiet_step (fun K hK => ?_); go_simp; first | (refine hK _ ?_; clear hK K) | (apply Exists.intro; refine ⟨fun w' hC => ?_, hK _ ?_⟩; (focus first | with_reducible rfl | (have q0 := hC.cell k0; have q1 := hC.cell k1; have q2 := hC.cell m0; have q3 := hC.cell m1; go_simp; done) | (have q0 := hC.cell k0; have q1 := hC.cell k1; have q2 := hC.cell m0; have q3 := hC.cell m1; go_simp; exact ⟨rfl, rfl⟩) | (have q0 := hC.cell k0; have q1 := hC.cell k1; have q2 := hC.cell m0; have q3 := hC.cell m1; go_simp; with_reducible rfl)); clear hK K))); refine wpQuiet_nil ?_; intro wq hEq)
          have HE := Lib.hid (hE.trans hEq)
          clear hEq hE k0 k1 m0 m1
          go_wp2
          go_ret
          refine ⟨ret_bool (Eq.symm (decide_eq_false fun e => HQ.out ?_)), HE.out⟩
          have h1 := HPQ.out.1
          have h2 := HPQ.out.2
          rw [← e, h1] at h2
          exact Option.some.inj h2
      · go_wp2
        go_ret
        refine ⟨ret_bool (Eq.symm (decide_eq_true ?_)), hE⟩
        have h := HTK.out
        rwa [List.take_of_length_le (by omega), List.take_of_length_le (by have := HL.out; omega)] at h
  · have HL := Lib.hid hlm
    have hne : ((l.length : Int) == (m.length : Int)) = false := by simp; omega
    have hne2 : ((l.length : Int) != (m.length : Int)) = true := by simp; omega
    clear hlm
    go_enter Try.func23, Try.ntmps23
    go_wp2
    go_ret
    exact ⟨ret_bool (Eq.symm (decide_eq_false fun e => HL.out (by rw [e]))), Ext.refl _⟩
theorem neqPiece_c (p : LPiece) (w : World) : (binOp .neq 64 (.agg (pieceCs p).toArray) (.agg (pieceCs p).toArray)).run Try.prog w = .ok (.bool false) w := by
  have u2 := Try.underlying2
  have a2 := Try.isAgg2
  have z2 := Try.sizeOf2
  have hS : Try.prog.underlying 64 = some (.struct (Try.prog.fieldsOf 64)) := by kernel_rfl
  have hp : Try.prog.stoodInHeld 64 = false := by kernel_rfl
  rw [run_neq_struct, show (10000 : Nat) = 9999 + 1 from rfl, run_equalIn_agg w 9999 64 _ _ hS hp]
  simp only [Program.fieldsOf, Try.underlying64, pieceCs]
  go_simp
theorem neqEye_c (p : LEye) (w : World) : (binOp .neq 66 (.agg (eyeCs p).toArray) (.agg (eyeCs p).toArray)).run Try.prog w = .ok (.bool false) w := by
  have u2 := Try.underlying2
  have a2 := Try.isAgg2
  have z2 := Try.sizeOf2
  have hS : Try.prog.underlying 66 = some (.struct (Try.prog.fieldsOf 66)) := by kernel_rfl
  have hp : Try.prog.stoodInHeld 66 = false := by kernel_rfl
  rw [run_neq_struct, show (10000 : Nat) = 9999 + 1 from rfl, run_equalIn_agg w 9999 66 _ _ hS hp]
  simp only [Program.fieldsOf, Try.underlying66, eyeCs]
  go_simp
set_option maxRecDepth 100000 in
set_option maxHeartbeats 6400000 in
theorem sameLoad_c (l : LLoad) (va wa vb wb : Value) (w : World) (ha : IsLoad w l va wa) (hb : IsLoad w l vb wb) :
    Calls Try.prog 15 #[loadV l va wa, loadV l vb wb] w fun e w' => e = .returned (.bool true) ∧ Ext w w' := by
  have hln1 : l.pieces.length ≤ 9223372036854775807 := by obtain ⟨_, _, _, h, _⟩ := ha.pieces.shape; exact h
  have hln2 : l.eyes.length ≤ 9223372036854775807 := by obtain ⟨_, _, _, h, _⟩ := ha.eyes.shape; exact h
  obtain ⟨A1, A2, c1, c2, rfl, rfl⟩ := is_shape ha
  obtain ⟨B1, B2, d1, d2, rfl, rfl⟩ := is_shape hb
  have HA := Lib.hid ha
  have HB := Lib.hid hb
  clear ha hb
  unfold loadV
  go_enter Try.func15, Try.ntmps15
  go_upto_region 1 with fail
  have ba := lb_alloc (lb_new w (.cells #[.string l.name, .slice A1 l.pieces.length c1, .slice A2 l.eyes.length c2, .int .i64 l.friction] 25)) (.cells #[.string l.name, .slice B1 l.pieces.length d1, .slice B2 l.eyes.length d2, .int .i64 l.friction] 25)
  have bb := lb_new (w.alloc (.cells #[.string l.name, .slice A1 l.pieces.length c1, .slice A2 l.eyes.length c2, .int .i64 l.friction] 25)) (.cells #[.string l.name, .slice B1 l.pieces.length d1, .slice B2 l.eyes.length d2, .int .i64 l.friction] 25)
  simp only [size_alloc] at bb
  have e0 : Ext w ((w.alloc (.cells #[.string l.name, .slice A1 l.pieces.length c1, .slice A2 l.eyes.length c2, .int .i64 l.friction] 25)).alloc (.cells #[.string l.name, .slice B1 l.pieces.length d1, .slice B2 l.eyes.length d2, .int .i64 l.friction] 25)) := ((Ext.refl w).alloc _).alloc _
  generalize ((w.alloc (.cells #[.string l.name, .slice A1 l.pieces.length c1, .slice A2 l.eyes.length c2, .int .i64 l.friction] 25)).alloc (.cells #[.string l.name, .slice B1 l.pieces.length d1, .slice B2 l.eyes.length d2, .int .i64 l.friction] 25)) = W0 at *
  have HBB := Lib.hid (And.intro ba bb)
  have y0 := lb_cell ba 0 _ rfl
  have y1 := lb_cell ba 1 _ rfl
  have y2 := lb_cell ba 2 _ rfl
  have y3 := lb_cell ba 3 _ rfl
  have t0 := lb_cell bb 0 _ rfl
  have t1 := lb_cell bb 1 _ rfl
  have t2 := lb_cell bb 2 _ rfl
  have t3 := lb_cell bb 3 _ rfl
  have l1 := lb_lt ba
  have l2 := lb_lt bb
  have HE0 := Lib.hid e0
  have HT := Lib.hid (And.intro y0 (And.intro y1 (And.intro y2 (And.intro y3 (And.intro t0 (And.intro t1 (And.intro t2 t3)))))))
  clear ba bb e0
  go_upto_region 4 with fail
  go_loopw [5] (fun i wr => ∃ k : Nat, k ≤ l.pieces.length ∧ i = .int .i64 k ∧ Ext W0 wr) (fun i _ => l.pieces.length - (intOf i).toNat)
  case atStart => exact ⟨0, by omega, rfl, Ext.refl _⟩
  case round =>
    obtain ⟨k, hk, rfl, hE⟩ := hrel
    obtain ⟨wA, hwA⟩ : ∃ z : World, z = wr := ⟨_, rfl⟩
    subst hwA
    have aa1 := hE.cell HT.out.2.1
    have bb1 := hE.cell HT.out.2.2.2.2.2.1
    have m1 := World.block_lt_of_cell? _ _ aa1
    have m2 := World.block_lt_of_cell? _ _ bb1
    simp only at m1 m2
    by_cases hlt : k < l.pieces.length
    · obtain ⟨x, hx⟩ := some_of_lt hlt
      obtain ⟨b, off, cs, rfl, _, hr, hc⟩ := ((HA.out.ext (HE0.out.trans hE)).pieces).at hx
      obtain rfl : cs = pieceCs x := hr
      obtain ⟨b', off', cs, rfl, _, hr, hc'⟩ := ((HB.out.ext (HE0.out.trans hE)).pieces).at hx
      obtain rfl : cs = pieceCs x := hr
      have p0 := hc 0 _ rfl
      have p1 := hc 1 _ rfl
      have p2 := hc 2 _ rfl
      have p3 := hc 3 _ rfl
      have p4 := hc 4 _ rfl
      have p5 := hc 5 _ rfl
      have p6 := hc 6 _ rfl
      have rr0 := hc' 0 _ rfl
      have rr1 := hc' 1 _ rfl
      have rr2 := hc' 2 _ rfl
      have rr3 := hc' 3 _ rfl
      have rr4 := hc' 4 _ rfl
      have rr5 := hc' 5 _ rfl
      have rr6 := hc' 6 _ rfl
      simp only [Nat.add_zero] at p0 rr0
      have n1 := lt_of_cell p0
      have n2 := lt_of_cell rr0
      have hne := fun W => neqPiece_c x W
      unfold pieceCs at hne
      have hlt1 : (k : Int) < (l.pieces.length : Int) := by omega
      have hwk := IntWalk.i64_in ((k : Int) + 1) (by omega)
      have hk0 : (0 : Int) ≤ (k : Int) := by omega
      have HE := Lib.hid hE
      clear hc hc' hx hE
      go_upto_region 6 with fail
      (refine wp_region_ext (C := fun w' => Ext wA w') (by kernel_rfl) (by kernel_rfl) (by (repeat' (first | exact Ext.refl _ | assumption | refine Ext.alloc ?_ _ | refine Ext.drew ?_ | refine Ext.drewN ?_ _ | refine Ext.set ?_ (by first | exact Nat.le_refl _ | exact le1 _ | exact le2 _ | exact le3 _ | exact le4 _ | exact le5 _ | exact le6 _) _ | refine Ext.trans ?_ (by assumption)))) ?_; (repeat (with_reducible refine wpQuiet_step (fun K hK => ?_); go_simp; first | (refine hK _ ?_; clear hK K) | (apply Exists.intro; refine ⟨fun w' hC => ?_, hK _ ?_⟩; (focus first | with_reducible rfl | (have q0 := hC.cell aa1; have q1 := hC.cell bb1; have q2 := hC.cell p0; have q3 := hC.cell p1; have q4 := hC.cell p2; have q5 := hC.cell p3; have q6 := hC.cell p4; have q7 := hC.cell p5; have q8 := hC.cell p6; have q9 := hC.cell rr0; have q10 := hC.cell rr1; have q11 := hC.cell rr2; have q12 := hC.cell rr3; have q13 := hC.cell rr4; have q14 := hC.cell rr5; have q15 := hC.cell rr6; go_simp; done) | (have q0 := hC.cell aa1; have q1 := hC.cell bb1; have q2 := hC.cell p0; have q3 := hC.cell p1; have q4 := hC.cell p2; have q5 := hC.cell p3; have q6 := hC.cell p4; have q7 := hC.cell p5; have q8 := hC.cell p6; have q9 := hC.cell rr0; have q10 := hC.cell rr1; have q11 := hC.cell rr2; have q12 := hC.cell rr3; have q13 := hC.cell rr4; have q14 := hC.cell rr5; have q15 := hC.cell rr6; go_simp; exact ⟨rfl, rfl⟩) | (have q0 := hC.cell aa1; have q1 := hC.cell bb1; have q2 := hC.cell p0; have q3 := hC.cell p1; have q4 := hC.cell p2; have q5 := hC.cell p3; have q6 := hC.cell p4; have q7 := hC.cell p5; have q8 := hC.cell p6; have q9 := hC.cell rr0; have q10 := hC.cell rr1; have q11 := hC.cell rr2; have q12 := hC.cell rr3; have q13 := hC.cell rr4; have q14 := hC.cell rr5; have q15 := hC.cell rr6; go_simp; with_reducible rfl)); clear hK K))); refine wpQuiet_nil ?_; intro wq hEq)
      go_wp2_with fail
      go_roundw
      case rel => exact ⟨k + 1, by omega, by go_num, HE.out.trans hEq⟩
      case measure => simp [intOf]; omega
    · obtain rfl : k = l.pieces.length := by omega
      have HEX := Lib.hid hE
      clear hE hk hlt
      have z2 := HEX.out.cell HT.out.2.2.1
      have z6 := HEX.out.cell HT.out.2.2.2.2.2.2.1
      go_upto_region 9 with fail
      go_loopw [6] (fun i wr => ∃ k : Nat, k ≤ l.eyes.length ∧ i = .int .i64 k ∧ Ext W0 wr) (fun i _ => l.eyes.length - (intOf i).toNat)
      case atStart => exact ⟨0, by omega, rfl, HEX.out⟩
      case round =>
        obtain ⟨k, hk, rfl, hE⟩ := hrel
        obtain ⟨wA, hwA⟩ : ∃ z : World, z = wr := ⟨_, rfl⟩
        subst hwA
        have aa1 := hE.cell HT.out.2.2.1
        have bb1 := hE.cell HT.out.2.2.2.2.2.2.1
        have m1 := World.block_lt_of_cell? _ _ aa1
        have m2 := World.block_lt_of_cell? _ _ bb1
        simp only at m1 m2
        by_cases hlt : k < l.eyes.length
        · obtain ⟨x, hx⟩ := some_of_lt hlt
          obtain ⟨b, off, cs, rfl, _, hr, hc⟩ := ((HA.out.ext (HE0.out.trans hE)).eyes).at hx
          obtain rfl : cs = eyeCs x := hr
          obtain ⟨b', off', cs, rfl, _, hr, hc'⟩ := ((HB.out.ext (HE0.out.trans hE)).eyes).at hx
          obtain rfl : cs = eyeCs x := hr
          have p0 := hc 0 _ rfl
          have p1 := hc 1 _ rfl
          have p2 := hc 2 _ rfl
          have p3 := hc 3 _ rfl
          have rr0 := hc' 0 _ rfl
          have rr1 := hc' 1 _ rfl
          have rr2 := hc' 2 _ rfl
          have rr3 := hc' 3 _ rfl
          simp only [Nat.add_zero] at p0 rr0
          have n1 := lt_of_cell p0
          have n2 := lt_of_cell rr0
          have hne := fun W => neqEye_c x W
          unfold eyeCs at hne
          have hlt1 : (k : Int) < (l.eyes.length : Int) := by omega
          have hwk := IntWalk.i64_in ((k : Int) + 1) (by omega)
          have hk0 : (0 : Int) ≤ (k : Int) := by omega
          have HE := Lib.hid hE
          clear hc hc' hx hE
          go_upto_region 11 with fail
          (refine wp_region_ext (C := fun w' => Ext wA w') (by kernel_rfl) (by kernel_rfl) (by (repeat' (first | exact Ext.refl _ | assumption | refine Ext.alloc ?_ _ | refine Ext.drew ?_ | refine Ext.drewN ?_ _ | refine Ext.set ?_ (by first | exact Nat.le_refl _ | exact le1 _ | exact le2 _ | exact le3 _ | exact le4 _ | exact le5 _ | exact le6 _) _ | refine Ext.trans ?_ (by assumption)))) ?_; (repeat (with_reducible refine wpQuiet_step (fun K hK => ?_); go_simp; first | (refine hK _ ?_; clear hK K) | (apply Exists.intro; refine ⟨fun w' hC => ?_, hK _ ?_⟩; (focus first | with_reducible rfl | (have q0 := hC.cell aa1; have q1 := hC.cell bb1; have q2 := hC.cell p0; have q3 := hC.cell p1; have q4 := hC.cell p2; have q5 := hC.cell p3; have q6 := hC.cell rr0; have q7 := hC.cell rr1; have q8 := hC.cell rr2; have q9 := hC.cell rr3; go_simp; done) | (have q0 := hC.cell aa1; have q1 := hC.cell bb1; have q2 := hC.cell p0; have q3 := hC.cell p1; have q4 := hC.cell p2; have q5 := hC.cell p3; have q6 := hC.cell rr0; have q7 := hC.cell rr1; have q8 := hC.cell rr2; have q9 := hC.cell rr3; go_simp; exact ⟨rfl, rfl⟩) | (have q0 := hC.cell aa1; have q1 := hC.cell bb1; have q2 := hC.cell p0; have q3 := hC.cell p1; have q4 := hC.cell p2; have q5 := hC.cell p3; have q6 := hC.cell rr0; have q7 := hC.cell rr1; have q8 := hC.cell rr2; have q9 := hC.cell rr3; go_simp; with_reducible rfl)); clear hK K))); refine wpQuiet_nil ?_; intro wq hEq)
          go_wp2_with fail
          go_roundw
          case rel => exact ⟨k + 1, by omega, by go_num, HE.out.trans hEq⟩
          case measure => simp [intOf]; omega
        · obtain rfl : k = l.eyes.length := by omega
          go_wp2_with fail
          go_ret
          exact ⟨rfl, HE0.out.trans hE⟩
end Go.Proofs.Ytkkeblgahbpmmaa
/- Contracts of the definition's before, cross and far. -/
namespace Go.Proofs.Ytkkeblgahbpmmaa
open Go.RowKit Go.Shelf

theorem ite_no {c : Prop} [Decidable c] {A B : Prop} (h : ¬ c) (hB : B) : if c then A else B := by rw [if_neg h]; exact hB
theorem dif_bd {a b : Int} (h1 : -536870912 ≤ a ∧ a ≤ 536870912) (h2 : -536870912 ≤ b ∧ b ≤ 536870912) : -1073741824 ≤ a - b ∧ a - b ≤ 1073741824 := by omega
theorem mul_bd30 {a b : Int} (h1 : -1073741824 ≤ a ∧ a ≤ 1073741824) (h2 : -1073741824 ≤ b ∧ b ≤ 1073741824) : -1152921504606846976 ≤ a * b ∧ a * b ≤ 1152921504606846976 := by
  have := Pl.mul_bd (a := a) (b := b) (A := 1073741824) (B := 1073741824) (by omega) (by omega) (by omega) (by omega)
  omega
set_option maxRecDepth 100000 in
set_option maxHeartbeats 1600000 in
theorem rcross_c (o a b : HPt) (w : World) (ho : wideB o) (ha : wideB a) (hb : wideB b) :
    Calls Try.prog 50 #[.agg #[.int .i64 o.1, .int .i64 o.2], .agg #[.int .i64 a.1, .int .i64 a.2], .agg #[.int .i64 b.1, .int .i64 b.2]] w fun e w' => e = .returned (.int .i64 (crossP o a b)) ∧ Ext w w' := by
  unfold wideB at ho ha hb
  have d1 := dif_bd ha.1 ho.1
  have d2 := dif_bd hb.2 ho.2
  have d3 := dif_bd ha.2 ho.2
  have d4 := dif_bd hb.1 ho.1
  have m1 := mul_bd30 d1 d2
  have m2 := mul_bd30 d3 d4
  have w1 := IntWalk.i64_in (a.1 - o.1) (by omega)
  have w2 := IntWalk.i64_in (b.2 - o.2) (by omega)
  have w3 := IntWalk.i64_in (a.2 - o.2) (by omega)
  have w4 := IntWalk.i64_in (b.1 - o.1) (by omega)
  have w5 := IntWalk.i64_in ((a.1 - o.1) * (b.2 - o.2)) (by omega)
  have w6 := IntWalk.i64_in ((a.2 - o.2) * (b.1 - o.1)) (by omega)
  have w7 := IntWalk.i64_in ((a.1 - o.1) * (b.2 - o.2) - (a.2 - o.2) * (b.1 - o.1)) (by omega)
  unfold crossP
  obtain ⟨o1, o2⟩ := o
  obtain ⟨a1, a2⟩ := a
  obtain ⟨b1, b2⟩ := b
  simp only at *
  clear ho ha hb d1 d2 d3 d4 m1 m2
  go_enter Try.func50, Try.ntmps50
  go_wp2
  go_ret
  exact ⟨rfl, (((Ext.refl w).alloc _).alloc _).alloc _⟩
set_option maxRecDepth 100000 in
set_option maxHeartbeats 1600000 in
theorem rfar_c (a b : HPt) (w : World) (ha : wideB a) (hb : wideB b) :
    Calls Try.prog 51 #[.agg #[.int .i64 a.1, .int .i64 a.2], .agg #[.int .i64 b.1, .int .i64 b.2]] w fun e w' => e = .returned (.int .i64 (farP a b)) ∧ Ext w w' := by
  unfold wideB at ha hb
  have d1 := dif_bd ha.1 hb.1
  have d2 := dif_bd ha.2 hb.2
  have m1 := mul_bd30 d1 d1
  have m2 := mul_bd30 d2 d2
  have w1 := IntWalk.i64_in (a.1 - b.1) (by omega)
  have w2 := IntWalk.i64_in (a.2 - b.2) (by omega)
  have w5 := IntWalk.i64_in ((a.1 - b.1) * (a.1 - b.1)) (by omega)
  have w6 := IntWalk.i64_in ((a.2 - b.2) * (a.2 - b.2)) (by omega)
  have w7 := IntWalk.i64_in ((a.1 - b.1) * (a.1 - b.1) + (a.2 - b.2) * (a.2 - b.2)) (by omega)
  unfold farP
  obtain ⟨a1, a2⟩ := a
  obtain ⟨b1, b2⟩ := b
  simp only at *
  clear ha hb d1 d2 m1 m2
  go_enter Try.func51, Try.ntmps51
  go_wp2
  go_ret
  exact ⟨rfl, ((Ext.refl w).alloc _).alloc _⟩
set_option maxRecDepth 100000 in
set_option maxHeartbeats 1600000 in
theorem rbefore_c (a b : HPt) (w : World) :
    Calls Try.prog 49 #[.agg #[.int .i64 a.1, .int .i64 a.2], .agg #[.int .i64 b.1, .int .i64 b.2]] w fun e w' => e = .returned (.bool (decide (ltP a b))) ∧ Ext w w' := by
  obtain ⟨a1, a2⟩ := a
  obtain ⟨b1, b2⟩ := b
  have hl : decide (ltP (a1, a2) (b1, b2)) = (decide (a1 < b1) || (decide (a1 = b1) && decide (a2 < b2))) := by
    rw [Bool.eq_iff_iff, decide_eq_true_iff]
    simp [ltP]
  rw [hl]
  clear hl
  by_cases h1 : a1 < b1
  · go_enter Try.func49, Try.ntmps49
    go_wp2
    go_ret
    exact ⟨by simp [h1], ((Ext.refl w).alloc _).alloc _⟩
  · by_cases h2 : a1 = b1
    · subst h2
      go_enter Try.func49, Try.ntmps49
      go_wp2
      go_ret
      exact ⟨by simp, ((Ext.refl w).alloc _).alloc _⟩
    · have h3 : (a1 == b1) = false := by simpa using h2
      go_enter Try.func49, Try.ntmps49
      go_wp2
      go_ret
      exact ⟨by simp [h1], ((Ext.refl w).alloc _).alloc _⟩
end Go.Proofs.Ytkkeblgahbpmmaa
/- Contract: the definition's Hull goes around the corners. -/
namespace Go.Proofs.Ytkkeblgahbpmmaa
open Go.RowKit Go.Shelf Go.Lib Instr

theorem load_ptR {w : World} {b off : Nat} {l : List HPt} (hc : PtCells w b off l) {i : Nat} {p : HPt} (hi : l[i]? = some p) : w.cell? ⟨b, off + i * 2, none⟩ = some (.int .i64 p.1) ∧ w.cell? ⟨b, off + i * 2 + 1, none⟩ = some (.int .i64 p.2) := by
  have hlt := lt_of_some hi
  have h := hc i hlt
  rw [getD_lt hlt] at h
  rw [List.getElem?_eq_getElem hlt] at hi
  rw [Option.some.inj hi] at h
  exact h
theorem step_or (p nx y : HPt) {P : HPt → Prop} (h1 : P nx) (h2 : P y) : P (nextStep p nx y) := by
  rcases nextStep_or p nx y with h | h <;> rw [h] <;> assumption
theorem fold_wide {l : List HPt} (hw : ∀ p ∈ l, wideB p) {p f : HPt} (hf : wideB f) : ∀ m : List HPt, (∀ x ∈ m, x ∈ l) → wideB (m.foldl (nextStep p) f)
  | [], _ => hf
  | x :: m, h => by
    rw [List.foldl_cons]
    exact fold_wide hw (step_or p f x hf (hw x (h x (by simp)))) m (fun y hy => h y (by simp [hy]))
theorem first_snoc {l : List HPt} {a x : HPt} {k : Nat} (h : l[k]? = some x) : (l.take (k + 1)).foldl firstStep a = firstStep ((l.take k).foldl firstStep a) x := by
  rw [List.take_add_one, h, List.foldl_append]; rfl
theorem next_snoc {l : List HPt} {p a x : HPt} {k : Nat} (h : l[k]? = some x) : (l.take (k + 1)).foldl (nextStep p) a = nextStep p ((l.take k).foldl (nextStep p) a) x := by
  rw [List.take_add_one, h, List.foldl_append]; rfl
theorem own_ltR {w : World} {base : Nat} {e : TypeId} {size n : Nat} {v : Value} {xs : List Value} (h : w.ownsRow base e size v n xs) {g : Nat} (hg : v.ownBlock = some g) : g < w.heap.size := by
  rcases h.2 with ⟨rfl, _⟩ | ⟨g', cap, cur, rfl, hb, hg', hr⟩
  · simp [Value.ownBlock] at hg
  · have : g' = g := by simpa [Value.ownBlock] using hg
    subst this
    exact (Array.getElem?_eq_some_iff.1 hg').1
theorem take_snocR {l : List HPt} {k : Nat} {x : HPt} (h : l[k]? = some x) : l.take (k + 1) = l.take k ++ [x] := by
  rw [List.take_add_one, h]; rfl
theorem kept_own {w w' : World} {v : Value} {B k : Nat} {o : Obj} (hg : w.grownBy w' v.ownBlock) (hv : ∀ j, v.ownBlock = some j → B ≤ j) (hk : w.heap[k]? = some o) (hlt : k < B) : w'.heap[k]? = some o :=
  (hg.block k (Array.getElem?_eq_some_iff.1 hk).1 (fun e => by have := hv k e.symm; omega)).trans hk
theorem corners_lenC (l : List HPt) : (cornersP l).length ≤ 2 * l.length := by
  have h0 := sort_len l
  unfold cornersP
  split
  · omega
  · have h1 := side_len (sortP l)
    have h2 := side_len (sortP l).reverse
    rw [List.length_reverse] at h2
    rw [List.length_append, List.length_dropLast, List.length_dropLast]
    omega
/-- a round: i corners are out, the block of 'at' holds the next one -/
def RndAt (C : List HPt) (z : HPt) (w : World) (ba B : Nat) (out : Value) (wr : World) : Prop :=
  ∃ i : Nat, i < C.length ∧ Ext w wr ∧ OwnP B wr out (C.take i) ∧ wr.heap[w.heap.size]? = some (.cells #[.int .i64 z.1, .int .i64 z.2] 52 (0, 0)) ∧
    wr.heap[ba]? = some (.cells #[.int .i64 (C.getD i (0, 0)).1, .int .i64 (C.getD i (0, 0)).2] 52 (0, 0)) ∧ B ≤ wr.heap.size
/-- the length of a slice -/
def lenOf (v : Value) : Nat := match v with | .slice _ n _ => n | _ => 0
/-- the search for the next corner, up to element k -/
def NxtAt (l C : List HPt) (z : HPt) (w : World) (ba bn B j : Nat) (out i : Value) (wr : World) : Prop :=
  ∃ k : Nat, k ≤ l.length ∧ i = .int .i64 k ∧ Ext w wr ∧ OwnP B wr out (C.take (j + 1)) ∧ wr.heap[w.heap.size]? = some (.cells #[.int .i64 z.1, .int .i64 z.2] 52 (0, 0)) ∧
    wr.heap[ba]? = some (.cells #[.int .i64 (C.getD j (0, 0)).1, .int .i64 (C.getD j (0, 0)).2] 52 (0, 0)) ∧
    ∃ g : HPt, wr.heap[bn]? = some (.cells #[.int .i64 g.1, .int .i64 g.2] 52 (0, 0)) ∧ g = (l.take k).foldl (nextStep (C.getD j (0, 0))) (C.getD j (0, 0))
/-- the search for the first corner, up to element k -/
def FstAt (l : List HPt) (f : HPt) (w : World) (i : Value) (wr : World) : Prop :=
  ∃ k : Nat, k ≤ l.length ∧ i = .int .i64 k ∧ Ext w wr ∧ ∃ g : HPt, wr.heap[w.heap.size]? = some (.cells #[.int .i64 g.1, .int .i64 g.2] 52 (0, 0)) ∧ g = (l.take k).foldl firstStep f
set_option maxRecDepth 100000 in
set_option maxHeartbeats 8000000 in
theorem RHull_c (v : Value) (l : List HPt) (w : World) (hs : Pts w v l) (hw : ∀ p ∈ l, wideB p) (hn : l.length ≤ 100000) :
    Calls Try.prog 24 #[v] w fun e w' => ∃ v', e = .returned v' ∧ OwnP w.heap.size w' v' (cornersP l) ∧ Ext w w' := by
  rcases hs with ⟨a0, c0, rfl, rfl⟩ | ⟨b, off, cap, rfl, hl, hcap, hc⟩
  · go_enter Try.func24, Try.ntmps24
    go_wp2
    go_ret
    exact ⟨_, rfl, OwnP.none0, Ext.refl _⟩
  · by_cases h0 : l = []
    · subst h0
      go_enter Try.func24, Try.ntmps24
      go_wp2
      go_ret
      exact ⟨_, rfl, OwnP.none0, Ext.refl _⟩
    · obtain ⟨f0, r, hlr⟩ : ∃ f0 r, l = f0 :: r := by
        cases l with
        | nil => exact absurd rfl h0
        | cons a r => exact ⟨a, r, rfl⟩
      have hFC := Lib.hid (first_corner hlr)
      have hx0 : l[0]? = some f0 := by rw [hlr]; rfl
      have HC := Lib.hid hc
      have HW := Lib.hid hw
      have HN0 := Lib.hid h0
      have hpos : 0 < l.length := List.length_pos_iff.2 h0
      obtain ⟨q0, q1⟩ := load_ptR hc hx0
      have hwf := hw f0 (by rw [hlr]; simp)
      have HWF := Lib.hid hwf
      clear hc hw hlr hx0 hwf
      have hbl := lt_of_cell q0
      have hz : ¬ l.length = 0 := by omega
      have hp1 : (0 : Int) < (l.length : Int) := by omega
      obtain ⟨f1, f2⟩ := f0
      simp only [Nat.zero_mul, Nat.add_zero] at q0 q1
      go_enter Try.func24, Try.ntmps24
      go_upto_region 4 with fail
      have bF := lb_new w (.cells #[.int .i64 f1, .int .i64 f2] 52)
      have e1 := (Ext.refl w).alloc (.cells #[.int .i64 f1, .int .i64 f2] 52)
      generalize (w.alloc (.cells #[.int .i64 f1, .int .i64 f2] 52)) = w1 at *
      have RB := Lib.hid (fun a b W => rbefore_c a b W)
      go_wp2_with fail
      go_loopw [4] (fun i wr => FstAt l (f1, f2) w i wr) (fun i _ => l.length - (intOf i).toNat)
      case atStart => exact ⟨0, by omega, rfl, e1, (f1, f2), bF, rfl⟩
      case round =>
        obtain ⟨k, hk, rfl, hE, g, hg, hgk⟩ := hrel
        obtain ⟨wA, hwA⟩ : ∃ z : World, z = wr := ⟨_, rfl⟩
        subst hwA
        have HE := Lib.hid hE
        have HG := Lib.hid hgk
        by_cases hlt : k < l.length
        · obtain ⟨x, hx⟩ := some_of_lt hlt
          obtain ⟨p0, p1⟩ := load_ptR HC.out hx
          replace p0 := hE.cell p0
          replace p1 := hE.cell p1
          have y0 := lb_cell hg 0 _ rfl
          have y1 := lb_cell hg 1 _ rfl
          have BG := Lib.hid hg
          have hlg := lb_lt hg
          have hb2 := lt_of_cell p0
          have HX := Lib.hid hx
          have hlt1 : (k : Int) < (l.length : Int) := by omega
          have hk0 : (0 : Int) ≤ (k : Int) := by omega
          obtain ⟨x1, x2⟩ := x
          obtain ⟨g1, g2⟩ := g
          simp only at p0 p1 y0 y1
          clear hx hE hgk hg e1 bF q0 q1
          have RBB := Lib.hid (fun W => RB.out (x1, x2) (g1, g2) W)
          obtain ⟨lt, hlt'⟩ : ∃ c, decide (ltP (x1, x2) (g1, g2)) = c := ⟨_, rfl⟩
          rw [hlt'] at RBB
          have HLT := Lib.hid hlt'
          clear hlt'
          go_upto_region 7 with fail
          (refine wp_region_ext (C := fun w' => Ext wA w') (by kernel_rfl) (by kernel_rfl) (by (repeat' (first | exact Ext.refl _ | assumption | refine Ext.alloc ?_ _ | refine Ext.drew ?_ | refine Ext.drewN ?_ _ | refine Ext.set ?_ (by first | exact Nat.le_refl _ | exact le1 _ | exact le2 _ | exact le3 _ | exact le4 _ | exact le5 _ | exact le6 _) _ | refine Ext.trans ?_ (by assumption)))) ?_; (repeat (with_reducible refine wpQuiet_step (fun K hK => ?_); go_simp; first | (refine hK _ ?_; clear hK K) | (apply Exists.intro; refine ⟨fun w' hC => ?_, hK _ ?_⟩; (focus first | with_reducible rfl | (have q0 := hC.cell p0; have q1 := hC.cell p1; have q2 := hC.cell y0; have q3 := hC.cell y1; go_simp; done) | (have q0 := hC.cell p0; have q1 := hC.cell p1; have q2 := hC.cell y0; have q3 := hC.cell y1; go_simp; exact ⟨rfl, rfl⟩) | (have q0 := hC.cell p0; have q1 := hC.cell p1; have q2 := hC.cell y0; have q3 := hC.cell y1; go_simp; with_reducible rfl) | ((exact (RBB.out _).mono fun e w'' ⟨he, hw''⟩ => ⟨he, hC.trans hw''⟩))); clear hK K))); refine wpQuiet_nil ?_; intro wq hEq)
          have bq := lb_ext BG.out hEq
          have p0' := hEq.cell p0
          have p1' := hEq.cell p1
          have hb3 := lt_of_cell p0'
          have f0 := lb_frz bq 0
          have f1' := lb_frz bq 1
          have y0' := lb_cell bq 0 _ rfl
          have y1' := lb_cell bq 1 _ rfl
          have hlg' := lb_lt bq
          have BQ := Lib.hid bq
          have EQ := Lib.hid (HE.out.trans hEq)
          have hsn := first_snoc (a := (f1, f2)) HX.out
          rw [← HG.out] at hsn
          have HSN := Lib.hid hsn
          clear bq hsn p0 p1 y0 y1 hlg hb2 hEq RBB
          cases lt
          · go_wp2_with fail
            go_roundw
            case rel =>
              refine ⟨k + 1, by omega, by go_num, EQ.out, (g1, g2), BQ.out, ?_⟩
              rw [HSN.out, firstStep, if_neg (by have := HLT.out; simpa using this)]
            case measure => simp [intOf]; omega
          · go_wp2_with fail
            go_roundw
            case rel =>
              refine ⟨k + 1, by omega, by go_num, (EQ.out.set (by simp; try omega) _).set (by simp; try omega) _, (x1, x2), ?_, ?_⟩
              · have h1 := lb_set 0 (.int .i64 x1) BQ.out
                have h2 := lb_set 1 (.int .i64 x2) h1
                exact h2
              · rw [HSN.out, firstStep, if_pos (by have := HLT.out; simpa using this)]
            case measure => simp [intOf]; omega
        · obtain rfl : k = l.length := by omega
          rw [List.take_length, hFC.out] at hgk
          have y0 := lb_cell hg 0 _ rfl
          have y1 := lb_cell hg 1 _ rfl
          have hlg := lb_lt hg
          have BG := Lib.hid hg
          have HCW := Lib.hid (show ∀ p ∈ cornersP l, wideB p from fun p hp => HW.out p (corners_sub hp))
          have HNX := Lib.hid (fun i (hi : i < (cornersP l).length) => next_corner HN0.out hi)
          have HNS := Lib.hid (fun i (hi : i < (cornersP l).length) => next_stop HN0.out hi)
          have hcl : 0 < (cornersP l).length := corners_pos hpos
          have HCN := Lib.hid (show (cornersP l).length ≤ 200000 from by have := corners_lenC l; omega)
          generalize hCC : cornersP l = C at *
          have HCC := Lib.hid hCC
          clear hCC
          obtain ⟨ip, hi0, hii⟩ := Option.map_eq_some_iff.1 infoPoint
          simp only [Prod.mk.injEq] at hii
          obtain ⟨hi1, hi2, hi3⟩ := hii
          obtain ⟨g1, g2⟩ := g
          simp only at y0 y1
          have HGK := Lib.hid hgk
          clear hgk
          clear hg hE e1 bF q0 q1 RB HG
          have bA := lb_new wA (.cells #[.int .i64 g1, .int .i64 g2] 52)
          have bF := lb_alloc BG.out (.cells #[.int .i64 g1, .int .i64 g2] 52)
          have eB : Ext w (wA.alloc (.cells #[.int .i64 g1, .int .i64 g2] 52)) := HE.out.alloc _
          have hsB : (wA.alloc (.cells #[.int .i64 g1, .int .i64 g2] 52)).heap.size = wA.heap.size + 1 := size_alloc _ _
          go_wp2_with fail
          generalize (wA.alloc (.cells #[.int .i64 g1, .int .i64 g2] 52)) = wB at *
          have HBB := Lib.hid (And.intro bA (And.intro bF eB))
          have hws := HE.out.size
          clear bA bF eB y0 y1
          generalize hba : wA.heap.size = ba at *
          clear hba BG HE
          have HSB := Lib.hid hsB
          have HGW := Lib.hid hlg
          go_loopw [5] (fun out wr => RndAt C (g1, g2) w ba (ba + 1) out wr) (fun out _ => C.length - lenOf out)
          case atStart => exact ⟨0, hcl, HBB.out.2.2, OwnP.none0, HBB.out.2.1, by rw [← HGK.out]; exact HBB.out.1, by have := HSB.out; omega⟩
          case round =>
            obtain ⟨i, hi, hE, ho, hF, hA, hB⟩ := hrel
            obtain ⟨Ao, co, rfl, hmo⟩ := ho.shape
            obtain ⟨p, hp⟩ := some_of_lt hi
            have hpd : C.getD i (0, 0) = p := by rw [getD_lt hi]; rw [List.getElem?_eq_getElem hi] at hp; exact Option.some.inj hp
            have hwp := HCW.out p (mem_of_some hp)
            have hnx := HNX.out i hi
            have hns := HNS.out i hi
            have htk := take_snocR hp
            have hlen : (C.take i).length = i := by rw [List.length_take]; omega
            have HI := Lib.hid (And.intro hnx (And.intro hns (And.intro htk (And.intro hpd (And.intro hwp hi)))))
            rw [hpd] at hA
            have how := ho
            unfold OwnP at how
            rw [hlen] at how ⊢
            have HOW := Lib.hid how
            have a0 := lb_cell hA 0 _ rfl
            have a1 := lb_cell hA 1 _ rfl
            have la := lb_lt hA
            have HFA := Lib.hid (And.intro hF (And.intro hA hE))
            have hil : i ≤ 200000 := by have := HCN.out; omega
            obtain ⟨p1, p2⟩ := p
            simp only at a0 a1
            obtain ⟨wR, hwR⟩ : ∃ z : World, z = wr := ⟨_, rfl⟩
            subst hwR
            clear hnx hns htk hpd hwp hp ho how hA hF hE hmo
            go_upto_region 12 with (at_builtin; refine wpList_append_own _ rfl _ _ 48 rfl (ba + 1) 52 ip _ 2 16 Try.underlying48 hi0 hi1 hi2 hi3 rfl (by decide) _ _ _ rfl (HOW.out.alloc _) ⟨wR.heap.size, 0, none⟩ 1 1 [.int .i64 p1, .int .i64 p2] rfl rfl (World.news_of_block (cs := #[.int .i64 p1, .int .i64 p2]) (t := 52) (fr := (0, 0)) (lb_new wR _)) (by simp [Value.oneCell']) (by unfold maxLen; omega) (by omega) (by simp; omega) ?_; intro v' w4 hown' hg3 _)
            obtain ⟨A4, c4, rfl⟩ : ∃ (A4 : Option Addr) (c4 : Nat), v' = .slice A4 (i + 1) c4 := by
              obtain ⟨g4, c4, rfl⟩ := ownsRow_succ hown'
              exact ⟨_, _, rfl⟩
            have E4 : Ext w w4 := Ext.grown (HFA.out.2.2.alloc _) hg3 (fun k hk => by have := own_ge HOW.out k hk; omega)
            have F4 := kept_own hg3 (own_ge HOW.out) (lb_alloc HFA.out.1 _) (by omega)
            have AA4 := kept_own hg3 (own_ge HOW.out) (lb_alloc HFA.out.2.1 _) (by omega)
            have O4 : OwnP (ba + 1) w4 (.slice A4 (i + 1) c4) (C.take (i + 1)) := by
              rw [HI.out.2.2.1]
              exact OwnP.snoc (by rw [show (C.take i).length = i from by rw [List.length_take]; have := HI.out.2.2.2.2.2; omega]; exact hown')
            have hnb : ∀ k, (Value.slice A4 (i + 1) c4).ownBlock = some k → k < w4.heap.size := fun k hk => own_ltR hown' hk
            have hB4 : ba + 1 ≤ w4.heap.size := by have := lb_lt AA4; omega
            have a0 := lb_cell AA4 0 _ rfl
            have a1 := lb_cell AA4 1 _ rfl
            clear hg3 hown' HOW la hlen
            have HO4 := Lib.hid (And.intro E4 (And.intro F4 (And.intro AA4 (And.intro O4 hnb))))
            clear E4 F4 AA4 O4 hnb
            go_upto_region 13 with fail
            have bN := lb_new w4 (.cells #[.int .i64 p1, .int .i64 p2] 52)
            have eN := (Ext.refl w4).alloc (.cells #[.int .i64 p1, .int .i64 p2] 52)
            generalize (w4.alloc (.cells #[.int .i64 p1, .int .i64 p2] 52)) = w5 at *
            have H5 : NxtAt l C (g1, g2) w ba w4.heap.size (ba + 1) i (.slice A4 (i + 1) c4) (.int .i64 0) w5 :=
              ⟨0, by omega, rfl, HO4.out.1.trans eN, HO4.out.2.2.2.1.ext eN, lb_ext HO4.out.2.1 eN, by rw [HI.out.2.2.2.1]; exact lb_ext HO4.out.2.2.1 eN, (p1, p2), bN, by rw [HI.out.2.2.2.1]; rfl⟩
            have HH5 := Lib.hid H5
            have HNB := Lib.hid HO4.out.2.2.2.2
            obtain ⟨bn, hbn⟩ : ∃ bn, w4.heap.size = bn := ⟨_, rfl⟩
            rw [hbn] at HH5 HNB hB4 ⊢
            clear H5 bN eN HO4 a0 a1
            go_wp2_with fail
            go_loopw [8] (fun x wr => NxtAt l C (g1, g2) w ba bn (ba + 1) i (.slice A4 (i + 1) c4) x wr) (fun x _ => l.length - (intOf x).toNat)
            case atStart => exact HH5.out
            case round =>
              obtain ⟨k, hk, rfl, hE, ho, hF, hA, g, hN, hgk⟩ := hrel
              rw [HI.out.2.2.2.1] at hA hgk
              obtain ⟨wS, hwS⟩ : ∃ z : World, z = wr := ⟨_, rfl⟩
              subst hwS
              have HO := Lib.hid (And.intro hE (And.intro ho (And.intro hF (And.intro hA hN))))
              have HGQ := Lib.hid hgk
              by_cases hlt : k < l.length
              · obtain ⟨x, hx⟩ := some_of_lt hlt
                obtain ⟨l0, l1⟩ := load_ptR HC.out hx
                replace l0 := hE.cell l0
                replace l1 := hE.cell l1
                have a0 := lb_cell hA 0 _ rfl
                have a1 := lb_cell hA 1 _ rfl
                have n0 := lb_cell hN 0 _ rfl
                have n1 := lb_cell hN 1 _ rfl
                have b1 := lt_of_cell l0
                have b2 := lb_lt hA
                have b3 := lb_lt hN
                have hwx := HW.out x (mem_of_some hx)
                have hwg : wideB g := by rw [hgk]; exact fold_wide HW.out HI.out.2.2.2.2.1 _ (fun y hy => List.mem_of_mem_take hy)
                have hwp := HI.out.2.2.2.2.1
                have HX := Lib.hid hx
                have RX := Lib.hid (fun W => rcross_c (p1, p2) g x W hwp hwg hwx)
                have RF1 := Lib.hid (fun W => rfar_c (p1, p2) x W hwp hwx)
                have RF2 := Lib.hid (fun W => rfar_c (p1, p2) g W hwp hwg)
                have QE := Lib.hid (fun W => eqlP_c g.1 g.2 p1 p2 W)
                obtain ⟨g1', g2'⟩ := g
                obtain ⟨x1, x2⟩ := x
                simp only at l0 l1 n0 n1
                have hlt1 : (k : Int) < (l.length : Int) := by omega
                have hk0 : (0 : Int) ≤ (k : Int) := by omega
                obtain ⟨cc, hcc⟩ : ∃ c, crossP (p1, p2) (g1', g2') (x1, x2) = c := ⟨_, rfl⟩
                obtain ⟨d1, hd1⟩ : ∃ c, farP (p1, p2) (x1, x2) = c := ⟨_, rfl⟩
                obtain ⟨d2, hd2⟩ : ∃ c, farP (p1, p2) (g1', g2') = c := ⟨_, rfl⟩
                rw [hcc] at RX
                rw [hd1] at RF1
                rw [hd2] at RF2
                have HST := Lib.hid (show nextStep (p1, p2) (g1', g2') (x1, x2) = if (g1', g2') = (p1, p2) ∨ cc < 0 ∨ (cc = 0 ∧ d2 < d1) then (x1, x2) else (g1', g2') from by unfold nextStep; rw [hcc, hd1, hd2])
                clear hx hE ho hF hA hN hgk hwx hwg hwp hcc hd1 hd2
                go_upto_region 16 with fail
                (refine wp_region_ext (C := fun w' => Ext wS w') (by kernel_rfl) (by kernel_rfl) (by (repeat' (first | exact Ext.refl _ | assumption | refine Ext.alloc ?_ _ | refine Ext.drew ?_ | refine Ext.drewN ?_ _ | refine Ext.set ?_ (by first | exact Nat.le_refl _ | exact le1 _ | exact le2 _ | exact le3 _ | exact le4 _ | exact le5 _ | exact le6 _) _ | refine Ext.trans ?_ (by assumption)))) ?_; (repeat (with_reducible refine wpQuiet_step (fun K hK => ?_); go_simp; first | (refine hK _ ?_; clear hK K) | (apply Exists.intro; refine ⟨fun w' hC => ?_, hK _ ?_⟩; (focus first | with_reducible rfl | (have q0 := hC.cell l0; have q1 := hC.cell l1; have q2 := hC.cell a0; have q3 := hC.cell a1; have q4 := hC.cell n0; have q5 := hC.cell n1; go_simp; done) | (have q0 := hC.cell l0; have q1 := hC.cell l1; have q2 := hC.cell a0; have q3 := hC.cell a1; have q4 := hC.cell n0; have q5 := hC.cell n1; go_simp; exact ⟨rfl, rfl⟩) | (have q0 := hC.cell l0; have q1 := hC.cell l1; have q2 := hC.cell a0; have q3 := hC.cell a1; have q4 := hC.cell n0; have q5 := hC.cell n1; go_simp; with_reducible rfl) | ((exact (RX.out _).mono fun e w'' ⟨he, hw''⟩ => ⟨he, hC.trans hw''⟩))); clear hK K))); refine wpQuiet_nil ?_; intro wq hEq)
                replace l0 := hEq.cell l0
                replace l1 := hEq.cell l1
                replace a0 := hEq.cell a0
                replace a1 := hEq.cell a1
                replace n0 := hEq.cell n0
                replace n1 := hEq.cell n1
                replace b1 := lt_of_cell l0
                replace b2 := lt_of_cell a0
                replace b3 := lt_of_cell n0
                have HEQ := Lib.hid hEq
                clear hEq
                go_upto_region 17 with fail
                go_cut [73] from 51 to 72 (fun s wc => s = .bool (decide ((g1', g2') = (p1, p2) ∨ cc < 0 ∨ (cc = 0 ∧ d2 < d1))) ∧ Ext wq wc)
                case first =>
                  by_cases h1 : (g1', g2') = (p1, p2)
                  · have q : ∀ W, (binOp .eql 52 (.agg #[.int .i64 g1', .int .i64 g2']) (.agg #[.int .i64 p1, .int .i64 p2])).run Try.prog W = .ok (.bool true) W := fun W => by rw [QE.out W, decide_eq_true h1]
                    have HH1 := Lib.hid h1
                    clear h1
                    (refine wp_region_ext (C := fun w' => Ext wq w') (by kernel_rfl) (by kernel_rfl) (by (repeat' (first | exact Ext.refl _ | assumption | refine Ext.alloc ?_ _ | refine Ext.drew ?_ | refine Ext.drewN ?_ _ | refine Ext.set ?_ (by first | exact Nat.le_refl _ | exact le1 _ | exact le2 _ | exact le3 _ | exact le4 _ | exact le5 _ | exact le6 _) _ | refine Ext.trans ?_ (by assumption)))) ?_; (repeat (with_reducible refine wpQuiet_step (fun K hK => ?_); go_simp; (try with_reducible refine ite_no (by decide) ?_); first | (refine hK _ ?_; clear hK K) | (apply Exists.intro; refine ⟨fun w' hC => ?_, hK _ ?_⟩; (focus first | with_reducible rfl | (have q0 := hC.cell l0; have q1 := hC.cell l1; have q2 := hC.cell a0; have q3 := hC.cell a1; have q4 := hC.cell n0; have q5 := hC.cell n1; go_simp; done) | (have q0 := hC.cell l0; have q1 := hC.cell l1; have q2 := hC.cell a0; have q3 := hC.cell a1; have q4 := hC.cell n0; have q5 := hC.cell n1; go_simp; exact ⟨rfl, rfl⟩) | (have q0 := hC.cell l0; have q1 := hC.cell l1; have q2 := hC.cell a0; have q3 := hC.cell a1; have q4 := hC.cell n0; have q5 := hC.cell n1; go_simp; with_reducible rfl)); clear hK K))); refine wpQuiet_nil ?_; intro wq hEq)
                    go_wp2_with fail
                    go_meet
                    exact ⟨congrArg Value.bool (decide_eq_true (.inl HH1.out)).symm, hEq⟩
                  · have q : ∀ W, (binOp .eql 52 (.agg #[.int .i64 g1', .int .i64 g2']) (.agg #[.int .i64 p1, .int .i64 p2])).run Try.prog W = .ok (.bool false) W := fun W => by rw [QE.out W, decide_eq_false h1]
                    have HH1 := Lib.hid h1
                    clear h1
                    by_cases h2 : cc < 0
                    · have z2 : decide (cc < 0) = true := decide_eq_true h2
                      have HH2 := Lib.hid h2
                      clear h2
                      (refine wp_region_ext (C := fun w' => Ext wq w') (by kernel_rfl) (by kernel_rfl) (by (repeat' (first | exact Ext.refl _ | assumption | refine Ext.alloc ?_ _ | refine Ext.drew ?_ | refine Ext.drewN ?_ _ | refine Ext.set ?_ (by first | exact Nat.le_refl _ | exact le1 _ | exact le2 _ | exact le3 _ | exact le4 _ | exact le5 _ | exact le6 _) _ | refine Ext.trans ?_ (by assumption)))) ?_; (repeat (with_reducible refine wpQuiet_step (fun K hK => ?_); go_simp; (try with_reducible refine ite_no (by decide) ?_); first | (refine hK _ ?_; clear hK K) | (apply Exists.intro; refine ⟨fun w' hC => ?_, hK _ ?_⟩; (focus first | with_reducible rfl | (have q0 := hC.cell l0; have q1 := hC.cell l1; have q2 := hC.cell a0; have q3 := hC.cell a1; have q4 := hC.cell n0; have q5 := hC.cell n1; go_simp; done) | (have q0 := hC.cell l0; have q1 := hC.cell l1; have q2 := hC.cell a0; have q3 := hC.cell a1; have q4 := hC.cell n0; have q5 := hC.cell n1; go_simp; exact ⟨rfl, rfl⟩) | (have q0 := hC.cell l0; have q1 := hC.cell l1; have q2 := hC.cell a0; have q3 := hC.cell a1; have q4 := hC.cell n0; have q5 := hC.cell n1; go_simp; with_reducible rfl)); clear hK K))); refine wpQuiet_nil ?_; intro wq hEq)
                      go_wp2_with fail
                      go_meet
                      exact ⟨congrArg Value.bool (decide_eq_true (.inr (.inl HH2.out))).symm, hEq⟩
                    · have z2 : decide (cc < 0) = false := decide_eq_false h2
                      have HH2 := Lib.hid h2
                      clear h2
                      by_cases h3 : cc = 0
                      · have z3 : (cc == 0) = true := by simpa using h3
                        have HH3 := Lib.hid h3
                        clear h3
                        (refine wp_region_ext (C := fun w' => Ext wq w') (by kernel_rfl) (by kernel_rfl) (by (repeat' (first | exact Ext.refl _ | assumption | refine Ext.alloc ?_ _ | refine Ext.drew ?_ | refine Ext.drewN ?_ _ | refine Ext.set ?_ (by first | exact Nat.le_refl _ | exact le1 _ | exact le2 _ | exact le3 _ | exact le4 _ | exact le5 _ | exact le6 _) _ | refine Ext.trans ?_ (by assumption)))) ?_; (repeat (with_reducible refine wpQuiet_step (fun K hK => ?_); go_simp; (try with_reducible refine ite_no (by decide) ?_); first | (refine hK _ ?_; clear hK K) | (apply Exists.intro; refine ⟨fun w' hC => ?_, hK _ ?_⟩; (focus first | with_reducible rfl | (have q0 := hC.cell l0; have q1 := hC.cell l1; have q2 := hC.cell a0; have q3 := hC.cell a1; have q4 := hC.cell n0; have q5 := hC.cell n1; go_simp; done) | (have q0 := hC.cell l0; have q1 := hC.cell l1; have q2 := hC.cell a0; have q3 := hC.cell a1; have q4 := hC.cell n0; have q5 := hC.cell n1; go_simp; exact ⟨rfl, rfl⟩) | (have q0 := hC.cell l0; have q1 := hC.cell l1; have q2 := hC.cell a0; have q3 := hC.cell a1; have q4 := hC.cell n0; have q5 := hC.cell n1; go_simp; with_reducible rfl) | ((with_reducible exact (RF1.out _).mono fun e w'' ⟨he, hw''⟩ => ⟨he, hC.trans hw''⟩)) | ((with_reducible exact (RF2.out _).mono fun e w'' ⟨he, hw''⟩ => ⟨he, hC.trans hw''⟩))); clear hK K))); refine wpQuiet_nil ?_; intro wq hEq)
                        go_wp2_with fail
                        go_meet
                        exact ⟨congrArg Value.bool (by rw [Bool.eq_iff_iff]; simp [HH1.out, HH3.out]), hEq⟩
                      · have z3 : (cc == 0) = false := by simpa using h3
                        have HH3 := Lib.hid h3
                        clear h3
                        (refine wp_region_ext (C := fun w' => Ext wq w') (by kernel_rfl) (by kernel_rfl) (by (repeat' (first | exact Ext.refl _ | assumption | refine Ext.alloc ?_ _ | refine Ext.drew ?_ | refine Ext.drewN ?_ _ | refine Ext.set ?_ (by first | exact Nat.le_refl _ | exact le1 _ | exact le2 _ | exact le3 _ | exact le4 _ | exact le5 _ | exact le6 _) _ | refine Ext.trans ?_ (by assumption)))) ?_; (repeat (with_reducible refine wpQuiet_step (fun K hK => ?_); go_simp; (try with_reducible refine ite_no (by decide) ?_); first | (refine hK _ ?_; clear hK K) | (apply Exists.intro; refine ⟨fun w' hC => ?_, hK _ ?_⟩; (focus first | with_reducible rfl | (have q0 := hC.cell l0; have q1 := hC.cell l1; have q2 := hC.cell a0; have q3 := hC.cell a1; have q4 := hC.cell n0; have q5 := hC.cell n1; go_simp; done) | (have q0 := hC.cell l0; have q1 := hC.cell l1; have q2 := hC.cell a0; have q3 := hC.cell a1; have q4 := hC.cell n0; have q5 := hC.cell n1; go_simp; exact ⟨rfl, rfl⟩) | (have q0 := hC.cell l0; have q1 := hC.cell l1; have q2 := hC.cell a0; have q3 := hC.cell a1; have q4 := hC.cell n0; have q5 := hC.cell n1; go_simp; with_reducible rfl)); clear hK K))); refine wpQuiet_nil ?_; intro wq hEq)
                        go_wp2_with fail
                        go_meet
                        exact ⟨congrArg Value.bool (decide_eq_false (fun h => h.elim HH1.out (fun h => h.elim (fun h => by have := HH2.out; omega) (fun h => HH3.out h.1)))).symm, hEq⟩
                case rest =>
                  obtain ⟨rfl, hE2⟩ := hcut
                  have eC := HEQ.out.trans hE2
                  replace l0 := hE2.cell l0
                  replace l1 := hE2.cell l1
                  replace b1 := lt_of_cell l0
                  have bN := lb_ext HO.out.2.2.2.2 eC
                  have hfN0 := lb_frz bN 0
                  have hfN1 := lb_frz bN 1
                  have n0' := lb_cell bN 0 _ rfl
                  have n1' := lb_cell bN 1 _ rfl
                  have b4 := lb_lt bN
                  have HBN := Lib.hid bN
                  have HEC := Lib.hid eC
                  have hsn := next_snoc (p := (p1, p2)) (a := (p1, p2)) HX.out
                  rw [← HGQ.out, HST.out] at hsn
                  have HSN := Lib.hid hsn
                  clear bN eC hE2 hsn a0 a1 n0 n1 b2 b3 HEQ
                  by_cases hD : (g1', g2') = (p1, p2) ∨ cc < 0 ∨ (cc = 0 ∧ d2 < d1)
                  · rw [decide_eq_true hD]
                    have HD := Lib.hid hD
                    clear hD
                    go_wp2_with fail
                    go_roundw
                    case rel =>
                      refine ⟨k + 1, by omega, by go_num, (((HO.out.1.trans HEC.out).set (by simp; try omega) _).set (by simp; try omega) _), ?_, ?_, ?_, (x1, x2), ?_, ?_⟩
                      · exact ownsRow_setP (ownsRow_setP (HO.out.2.1.ext HEC.out) (fun e => by have := HNB.out _ e; simp only at this; omega) _) (fun e => by have := HNB.out _ e; simp only at this; omega) _
                      · exact lb_old (lb_old (lb_ext HO.out.2.2.1 HEC.out) (by omega)) (by omega)
                      · rw [HI.out.2.2.2.1]; exact lb_old (lb_old (lb_ext HO.out.2.2.2.1 HEC.out) (by omega)) (by omega)
                      · exact lb_set 1 (.int .i64 x2) (lb_set 0 (.int .i64 x1) HBN.out)
                      · rw [HI.out.2.2.2.1, HSN.out, if_pos HD.out]
                    case measure => simp [intOf]; omega
                  · rw [decide_eq_false hD]
                    have HD := Lib.hid hD
                    clear hD
                    go_wp2_with fail
                    go_roundw
                    case rel =>
                      refine ⟨k + 1, by omega, by go_num, HO.out.1.trans HEC.out, HO.out.2.1.ext HEC.out, lb_ext HO.out.2.2.1 HEC.out, by rw [HI.out.2.2.2.1]; exact lb_ext HO.out.2.2.2.1 HEC.out, (g1', g2'), HBN.out, ?_⟩
                      rw [HI.out.2.2.2.1, HSN.out, if_neg HD.out]
                    case measure => simp [intOf]; omega
              · obtain rfl : k = l.length := by omega
                rw [List.take_length] at hgk
                have hnx := HI.out.1
                rw [HI.out.2.2.2.1] at hnx
                have hgn : g = C.getD ((i + 1) % C.length) (0, 0) := hgk.trans hnx
                have n0 := lb_cell hN 0 _ rfl
                have n1 := lb_cell hN 1 _ rfl
                have a0 := lb_cell hA 0 _ rfl
                have a1 := lb_cell hA 1 _ rfl
                have fA0 := lb_frz hA 0
                have fA1 := lb_frz hA 1
                have b2 := lb_lt hA
                have b3 := lb_lt hN
                obtain ⟨q1, q2⟩ := g
                simp only at n0 n1
                have HGN := Lib.hid hgn
                clear hgn hgk hnx hE ho hF hA hN HGQ
                go_upto_region 20 with fail
                have bA := lb_set 1 (.int .i64 q2) (lb_set 0 (.int .i64 q1) HO.out.2.2.2.1)
                have bF := lb_old (i := 1) (u := .int .i64 q2) (lb_old (i := 0) (u := .int .i64 q1) HO.out.2.2.1 (show w.heap.size ≠ ba by omega)) (show w.heap.size ≠ ba by omega)
                have oo := ownsRow_setP (ownsRow_setP HO.out.2.1 (p := ⟨ba, 0, none⟩) (fun e => by have := own_ge HO.out.2.1 _ e; simp only at this; omega) (.int .i64 q1)) (p := ⟨ba, 1, none⟩) (fun e => by have := own_ge HO.out.2.1 _ e; simp only at this; omega) (.int .i64 q2)
                have eo := (HO.out.1.set (p := ⟨ba, 0, none⟩) (by simp; omega) (.int .i64 q1)).set (p := ⟨ba, 1, none⟩) (by simp; omega) (.int .i64 q2)
                have so : ((wS.setCell ⟨ba, 0, none⟩ (.int .i64 q1)).setCell ⟨ba, 1, none⟩ (.int .i64 q2)).heap.size = wS.heap.size := by simp only [size_setCell]
                generalize ((wS.setCell ⟨ba, 0, none⟩ (.int .i64 q1)).setCell ⟨ba, 1, none⟩ (.int .i64 q2)) = wX at *
                simp only [List.setIfInBounds_toArray, List.set_cons_zero, List.set_cons_succ] at bA
                replace a0 := lb_cell bA 0 _ rfl
                replace a1 := lb_cell bA 1 _ rfl
                have y0 := lb_cell bF 0 _ rfl
                have y1 := lb_cell bF 1 _ rfl
                have HX := Lib.hid (And.intro bA (And.intro bF (And.intro oo eo)))
                have HSO := Lib.hid so
                have hns := HI.out.2.1
                rw [← HGN.out, ← HGK.out] at hns
                clear bA bF oo eo so n0 n1 fA0 fA1 b2 b3
                have b2 := lt_of_cell a0
                have b3 := lt_of_cell y0
                by_cases hq : (q1, q2) = (g1, g2)
                · have q : ∀ W, (binOp .eql 52 (.agg #[.int .i64 q1, .int .i64 q2]) (.agg #[.int .i64 g1, .int .i64 g2])).run Try.prog W = .ok (.bool true) W := fun W => by rw [eqlP_c q1 q2 g1 g2 W, decide_eq_true hq]
                  have HIC := Lib.hid (hns.1 hq)
                  clear hq hns
                  go_wp2_with fail
                  go_ret
                  refine ⟨.slice A4 (i + 1) c4, rfl, ?_, HX.out.2.2.2⟩
                  have := HX.out.2.2.1
                  rw [HIC.out, List.take_length] at this
                  rw [HIC.out]
                  have h5 : w.heap.size ≤ ba + 1 := by have := HGW.out; omega
                  rw [HCC.out]
                  exact this.down h5
                · have q : ∀ W, (binOp .eql 52 (.agg #[.int .i64 q1, .int .i64 q2]) (.agg #[.int .i64 g1, .int .i64 g2])).run Try.prog W = .ok (.bool false) W := fun W => by rw [eqlP_c q1 q2 g1 g2 W, decide_eq_false hq]
                  have hic : ¬ i + 1 = C.length := fun e => hq (hns.2 e)
                  have HIC := Lib.hid hic
                  clear hq hns hic
                  go_wp2_with fail
                  go_roundw
                  case rel =>
                    have hi := HI.out.2.2.2.2.2
                    have hne := HIC.out
                    refine ⟨i + 1, by omega, HX.out.2.2.2, HX.out.2.2.1, HX.out.2.1, ?_, by have := lb_lt HX.out.1; omega⟩
                    have := HGN.out
                    rw [Nat.mod_eq_of_lt (by omega)] at this
                    rw [← this]
                    exact HX.out.1
                  case measure =>
                    have hi := HI.out.2.2.2.2.2
                    simp [lenOf]
                    omega
end Go.Proofs.Ytkkeblgahbpmmaa
