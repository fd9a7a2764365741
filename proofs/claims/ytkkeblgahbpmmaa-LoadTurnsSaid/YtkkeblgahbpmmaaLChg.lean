
/- Contract: changed: a load whose pieces and eyes are changed, in rows of the call's own. -/
import Derived.Test.YtkkeblgahbpmmaaLFun
import Derived.Shelf.Abstract
namespace Go.Proofs.Ytkkeblgahbpmmaa
open Go.RowKit

def zeroLoad : LLoad := ⟨⟨#[]⟩, [], [], 0⟩
def zeroV : Value := .agg #[.string ⟨#[]⟩, .slice none 0 0, .slice none 0 0, .int .i64 0]
def mapL (fP : LPiece → LPiece) (fE : LEye → LEye) (l : LLoad) : LLoad := { l with pieces := l.pieces.map fP, eyes := l.eyes.map fE }
/-- a load in rows of the call's own -/
structure OwnLoad (base : Nat) (w : World) (l : LLoad) (vp ve : Value) : Prop where
  pieces : OwnR pieceCs 7 64 base w vp l.pieces
  eyes : OwnR eyeCs 4 66 base w ve l.eyes
  ne : ∀ g, vp.ownBlock = some g → ve.ownBlock ≠ some g
theorem OwnLoad.is {base : Nat} {w : World} {l : LLoad} {vp ve : Value} (h : OwnLoad base w l vp ve) : IsLoad w l vp ve := ⟨h.pieces.sl pieceCs_len (fun _ _ => rfl), h.eyes.sl eyeCs_len (fun _ _ => rfl)⟩
theorem OwnLoad.ext {base : Nat} {w w' : World} {l : LLoad} {vp ve : Value} (h : OwnLoad base w l vp ve) (he : Ext w w') : OwnLoad base w' l vp ve := ⟨h.pieces.ext he, h.eyes.ext he, h.ne⟩
theorem OwnLoad.down {base base' : Nat} {w : World} {l : LLoad} {vp ve : Value} (h : OwnLoad base w l vp ve) (hb : base' ≤ base) : OwnLoad base' w l vp ve := ⟨h.pieces.down hb, h.eyes.down hb, h.ne⟩
theorem own_lt {w : World} {base : Nat} {e : TypeId} {size n : Nat} {v : Value} {xs : List Value} (h : w.ownsRow base e size v n xs) {g : Nat} (hg : v.ownBlock = some g) : base ≤ g ∧ g < w.heap.size := by
  rcases h.2 with ⟨rfl, _⟩ | ⟨g', cap, cur, rfl, hb, hk, _⟩
  · simp [Value.ownBlock] at hg
  · simp [Value.ownBlock] at hg; subst hg; exact ⟨hb, (Array.getElem?_eq_some_iff.1 hk).1⟩
theorem OwnR.other {α : Type} {enc : α → List Value} {k : Nat} {e : TypeId} {base : Nat} {w : World} {v : Value} {l : List α} (h : OwnR enc k e base w v l) {b o : Nat} (hb : b < base) (u : Value) : OwnR enc k e base (w.setCell ⟨b, o, none⟩ u) v l :=
  h.kept (grown_set (grown_refl w (some b)) u) (.inr (own_ne h hb))
/-- the first ones changed -/
def mapTo {α : Type} (f : α → α) (k : Nat) (l : List α) : List α := (l.take k).map f ++ l.drop k
theorem mapTo_zero {α : Type} (f : α → α) (l : List α) : mapTo f 0 l = l := by simp [mapTo]
theorem mapTo_len {α : Type} (f : α → α) (k : Nat) (l : List α) : (mapTo f k l).length = l.length := by simp [mapTo]; omega
theorem mapTo_all {α : Type} (f : α → α) {k : Nat} {l : List α} (h : l.length ≤ k) : mapTo f k l = l.map f := by simp [mapTo, List.take_of_length_le h, List.drop_of_length_le h]
theorem mapTo_get {α : Type} (f : α → α) {k : Nat} {l : List α} {x : α} (h : l[k]? = some x) : (mapTo f k l)[k]? = some x := by
  have hk := lt_of_some h
  unfold mapTo
  rw [List.getElem?_append_right (by simp; omega), List.length_map, List.length_take, Nat.min_eq_left (by omega), Nat.sub_self, List.getElem?_drop, Nat.add_zero]
  exact h
theorem mapTo_step {α : Type} (f : α → α) {k : Nat} {l : List α} {x : α} (h : l[k]? = some x) : (mapTo f k l).set k (f x) = mapTo f (k + 1) l := by
  have hk := lt_of_some h
  have hd : l.drop k = x :: l.drop (k + 1) := by
    obtain ⟨_, rfl⟩ := List.getElem?_eq_some_iff.1 h
    exact List.drop_eq_getElem_cons hk
  have e : k - ((l.take k).map f).length = 0 := by simp; omega
  unfold mapTo
  rw [take_some h, List.map_append, List.set_append_right _ _ (by simp; omega), e, hd, List.set_cons_zero]
  simp
/-- what a change answers -/
def ChgR (l' : LLoad) (base : Nat) (w : World) (e : Ending) (w' : World) : Prop :=
  Ext w w' ∧ ((loadE l' = 0 ∧ ∃ vp ve, e = .returned (.tuple #[loadV l' vp ve, .int .i64 0]) ∧ OwnLoad base w' l' vp ve) ∨ (¬ loadE l' = 0 ∧ e = .returned (.tuple #[zeroV, .int .i64 4])))
set_option maxRecDepth 100000 in
set_option maxHeartbeats 6400000 in
theorem changed_c (l : LLoad) (vp ve : Value) (w : World) (hl : IsLoad w l vp ve) (fp fe : Nat) (cp ce : Array Value) (fP : LPiece → LPiece) (fE : LEye → LEye) (okP : LPiece → Prop) (okE : LEye → Prop)
    (HP : Chg pieceCs 7 64 fp cp fP w okP) (HE : Chg eyeCs 4 66 fe ce fE w okE) (h1 : ∀ p ∈ l.pieces, okP p) (h2 : ∀ p ∈ l.eyes, okE p) (hn : l.pieces.length ≤ 1000) (hm : l.eyes.length ≤ 1000)
    (eP : ∀ args w, (callFunc fp args).run Try.prog w = .ok (.enter fp args) w) (eE : ∀ args w, (callFunc fe args).run Try.prog w = .ok (.enter fe args) w) :
    Calls Try.prog 29 #[loadV l vp ve, .func (.func fp) #[] cp, .func (.func fe) #[] ce] w (ChgR (mapL fP fE l) w.heap.size w) := by
  have CP := Lib.hid (fun W (h : Ext w W) => clonePiece_c vp l.pieces W (hl.pieces.ext RPiece.stable h) hn)
  have CE := Lib.hid (fun W (h : Ext w W) => cloneEye_c ve l.eyes W (hl.eyes.ext REye.stable h) hm)
  obtain ⟨A, cap, rfl, hl1, hl2⟩ := hl.pieces.shape
  obtain ⟨B, cbp, rfl, hm1, hm2⟩ := hl.eyes.shape
  clear hl
  unfold loadV
  go_enter Try.func29, Try.ntmps29
  go_upto_region 1 with fail
  have b0 := lb_alloc (lb_new w (.cells #[.string l.name, .slice A l.pieces.length cap, .slice B l.eyes.length cbp, .int .i64 l.friction] 25)) (.cells #[.string ⟨#[]⟩, .slice none 0 0, .slice none 0 0, .int .i64 0] 25)
  have r0 := lb_new (w.alloc (.cells #[.string l.name, .slice A l.pieces.length cap, .slice B l.eyes.length cbp, .int .i64 l.friction] 25)) (.cells #[.string ⟨#[]⟩, .slice none 0 0, .slice none 0 0, .int .i64 0] 25)
  rw [size_alloc] at r0
  have hz : w.heap.size + 2 = ((w.alloc (.cells #[.string l.name, .slice A l.pieces.length cap, .slice B l.eyes.length cbp, .int .i64 l.friction] 25)).alloc (.cells #[.string ⟨#[]⟩, .slice none 0 0, .slice none 0 0, .int .i64 0] 25)).heap.size := by rw [size_alloc, size_alloc]
  have e0 : Ext w ((w.alloc (.cells #[.string l.name, .slice A l.pieces.length cap, .slice B l.eyes.length cbp, .int .i64 l.friction] 25)).alloc (.cells #[.string ⟨#[]⟩, .slice none 0 0, .slice none 0 0, .int .i64 0] 25)) := ((Ext.refl w).alloc _).alloc _
  generalize ((w.alloc (.cells #[.string l.name, .slice A l.pieces.length cap, .slice B l.eyes.length cbp, .int .i64 l.friction] 25)).alloc (.cells #[.string ⟨#[]⟩, .slice none 0 0, .slice none 0 0, .int .i64 0] 25)) = W0 at *
  have H0 := Lib.hid (And.intro b0 (And.intro r0 (And.intro e0 hz)))
  have k1 := lb_cell b0 1 _ rfl
  have k2 := lb_cell b0 2 _ rfl
  have z1 := lb_frz b0 1
  have z2 := lb_frz b0 2
  clear b0 r0 e0 hz
  go_cut [] from 10 to 17 (fun wc => ∃ (A1 A2 : Option Addr) (c1 c2 : Nat), wc.heap[w.heap.size]? = some (.cells #[.string l.name, .slice A1 l.pieces.length c1, .slice A2 l.eyes.length c2, .int .i64 l.friction] 25 (0, 0)) ∧ wc.heap[w.heap.size + 1]? = some (.cells #[.string ⟨#[]⟩, .slice none 0 0, .slice none 0 0, .int .i64 0] 25 (0, 0)) ∧ Ext w wc ∧ OwnLoad (w.heap.size + 2) wc l (.slice A1 l.pieces.length c1) (.slice A2 l.eyes.length c2))
  case first =>
    go_region_with (first
      | (go_at_call 66; refine (CP.out _ (Ext.trans H0.out.2.2.1 (by (repeat' (first | exact Ext.refl _ | assumption | refine Ext.alloc ?_ _ | refine Ext.drew ?_ | refine Ext.drewN ?_ _ | refine Ext.set ?_ (by first | exact Nat.le_refl _ | exact le1 _ | exact le2 _ | exact le3 _ | exact le4 _ | exact le5 _ | exact le6 _) _ | refine Ext.trans ?_ (by assumption)))))).mono ?_; rintro e w1 ⟨v1, rfl, o1, h1⟩; obtain ⟨A1, c1, rfl, _, _⟩ := o1.shape; have x1 : Ext W0 w1 := Ext.trans (by (repeat' (first | exact Ext.refl _ | assumption | refine Ext.alloc ?_ _ | refine Ext.drew ?_ | refine Ext.drewN ?_ _ | refine Ext.set ?_ (by first | exact Nat.le_refl _ | exact le1 _ | exact le2 _ | exact le3 _ | exact le4 _ | exact le5 _ | exact le6 _) _ | refine Ext.trans ?_ (by assumption)))) h1; clear h1; have k1 := lb_cell (lb_ext H0.out.1 x1) 1 _ rfl; have k2 := lb_cell (lb_ext H0.out.1 x1) 2 _ rfl)
      | (go_at_call 67; refine (CE.out _ (Ext.trans H0.out.2.2.1 (by (repeat' (first | exact Ext.refl _ | assumption | refine Ext.alloc ?_ _ | refine Ext.drew ?_ | refine Ext.drewN ?_ _ | refine Ext.set ?_ (by first | exact Nat.le_refl _ | exact le1 _ | exact le2 _ | exact le3 _ | exact le4 _ | exact le5 _ | exact le6 _) _ | refine Ext.trans ?_ (by assumption)))))).mono ?_; rintro e w2 ⟨v2, rfl, o2, h2⟩; obtain ⟨A2, c2, rfl, _, _⟩ := o2.shape; have x2 : Ext w1 w2 := Ext.trans (by (repeat' (first | exact Ext.refl _ | assumption | refine Ext.alloc ?_ _ | refine Ext.drew ?_ | refine Ext.drewN ?_ _ | refine Ext.set ?_ (by first | exact Nat.le_refl _ | exact le1 _ | exact le2 _ | exact le3 _ | exact le4 _ | exact le5 _ | exact le6 _) _ | refine Ext.trans ?_ (by assumption)))) h2; clear h2; have b2 := lb_ext (lb_ext H0.out.1 x1) x2; have k1 := lb_cell b2 1 _ rfl; have k2 := lb_cell b2 2 _ rfl; have z1 := lb_frz b2 1; have z2 := lb_frz b2 2))
    all_goals
      have hz0 : W0.drew.heap.size = w.heap.size + 2 := by rw [size_drew]; exact H0.out.2.2.2.symm
      rw [hz0] at o1
      have B3 := lb_set 2 (.slice A2 l.eyes.length c2) (lb_set 1 (.slice A1 l.pieces.length c1) b2)
      simp only [List.setIfInBounds_toArray, List.set_cons_zero, List.set_cons_succ] at B3
      have hz1 : w.heap.size + 2 ≤ w1.heap.size := by rw [H0.out.2.2.2]; exact x1.size
      go_wp2_with fail
      go_meet
      exact ⟨A1, A2, c1, c2, B3, lb_old (lb_old (lb_ext (lb_ext H0.out.2.1 x1) x2) (by omega)) (by omega), ((H0.out.2.2.1.trans (x1.trans x2)).set (Nat.le_refl _) _).set (Nat.le_refl _) _, ((o1.ext x2).other (by omega) _).other (by omega) _, ((o2.down hz1).other (by omega) _).other (by omega) _, fun g hg hg2 => by have := own_lt o1 hg; have := own_lt o2 hg2; omega⟩
  case rest =>
    obtain ⟨A1, A2, c1, c2, b3, r3, e3, o3⟩ := hcut
    clear k1 k2 z1 z2 CP CE H0
    have HC := Lib.hid (fun W (vp ve : Value) (h : IsLoad W (mapL fP fE l) vp ve) => LCheck_c (mapL fP fE l) vp ve W h)
    generalize hn' : l.pieces.length = n at *
    generalize hm' : l.eyes.length = m at *
    have HL := Lib.hid (And.intro hn' hm')
    clear hn' hm'
    have k1 := lb_cell b3 1 _ rfl
    have H := Lib.hid (And.intro b3 (And.intro r3 (And.intro e3 o3)))
    have HPc := Lib.hid (And.intro HP h1)
    have HEc := Lib.hid (And.intro HE h2)
    clear b3 r3 e3 o3 HP h1 HE h2
    go_wp2
    clear k1
    go_loopw [21] (fun i wr => ∃ k : Nat, k ≤ n ∧ i = .int .i64 k ∧ wr.heap[w.heap.size]? = some (.cells #[.string l.name, .slice A1 n c1, .slice A2 m c2, .int .i64 l.friction] 25 (0, 0)) ∧ wr.heap[w.heap.size + 1]? = some (.cells #[.string ⟨#[]⟩, .slice none 0 0, .slice none 0 0, .int .i64 0] 25 (0, 0)) ∧ Ext w wr ∧ OwnLoad (w.heap.size + 2) wr { l with pieces := mapTo fP k l.pieces } (.slice A1 n c1) (.slice A2 m c2)) (fun i _ => n - (intOf i).toNat)
    case atStart => exact ⟨0, by omega, rfl, H.out.1, H.out.2.1, H.out.2.2.1, by rw [mapTo_zero]; exact H.out.2.2.2⟩
    case round =>
      obtain ⟨k, hk, rfl, r1, r2, r3, r4⟩ := hrel
      obtain ⟨wA, hwA⟩ : ∃ z : World, z = wr := ⟨_, rfl⟩
      subst hwA
      have k1 := lb_cell r1 1 _ rfl
      have k2 := lb_cell r1 2 _ rfl
      have R := Lib.hid (And.intro r1 (And.intro r2 (And.intro r3 r4)))
      clear r1 r2 r3 r4
      by_cases hlt : k < n
      · obtain ⟨x, hx⟩ := some_of_lt (l := l.pieces) (k := k) (by rw [HL.out.1]; exact hlt)
        obtain ⟨g, cg, hv, hg1, hg2⟩ := R.out.2.2.2.pieces.form (by show 0 < (mapTo fP k l.pieces).length; rw [mapTo_len, HL.out.1]; omega)
        simp only [Value.slice.injEq] at hv
        obtain ⟨rfl, -, rfl⟩ := hv
        have HX := Lib.hid hx
        have hOld := Lib.hid (R.out.2.2.2.ne g rfl)
        have CALL := Lib.hid (HPc.out.1 wA _ g c1 n k _ x R.out.2.2.1 (by omega) R.out.2.2.2.pieces (mapTo_get fP hx) (HPc.out.2 x (mem_of_some hx)))
        have hG := Lib.hid hg1
        clear hx hg1 hg2 k2
        go_wp2_with (go_at_fn fp; refine CALL.out.mono ?_; rintro e w1 ⟨rfl, h1, h2⟩)
        go_roundw
        case rel =>
          have hgk := hG.out
          refine ⟨k + 1, by omega, by go_num, ?_, ?_, R.out.2.2.1.grow h1 (by omega), ?_, ?_, ?_⟩
          · exact (h1.block _ (lb_lt R.out.1) (fun e => by cases e; omega)).trans R.out.1
          · exact (h1.block _ (lb_lt R.out.2.1) (fun e => by cases e; omega)).trans R.out.2.1
          · show OwnR _ _ _ _ _ _ (mapTo fP (k + 1) l.pieces)
            rw [← mapTo_step fP HX.out]
            exact h2
          · exact R.out.2.2.2.eyes.kept h1 (.inr hOld.out)
          · exact R.out.2.2.2.ne
        case measure => simp [intOf]; omega
      · have hall : mapTo fP k l.pieces = l.pieces.map fP := mapTo_all fP (by rw [HL.out.1]; omega)
        have o4 := R.out.2.2.2
        rw [hall] at o4
        have H := Lib.hid (And.intro R.out.1 (And.intro R.out.2.1 (And.intro R.out.2.2.1 o4)))
        clear R hall o4 k1
        go_wp2
        clear k2
        generalize wA = W2 at *
        go_loopw [34] (fun i wr => ∃ k : Nat, k ≤ m ∧ i = .int .i64 k ∧ wr.heap[w.heap.size]? = some (.cells #[.string l.name, .slice A1 n c1, .slice A2 m c2, .int .i64 l.friction] 25 (0, 0)) ∧ wr.heap[w.heap.size + 1]? = some (.cells #[.string ⟨#[]⟩, .slice none 0 0, .slice none 0 0, .int .i64 0] 25 (0, 0)) ∧ Ext w wr ∧ OwnLoad (w.heap.size + 2) wr { l with pieces := l.pieces.map fP, eyes := mapTo fE k l.eyes } (.slice A1 n c1) (.slice A2 m c2)) (fun i _ => m - (intOf i).toNat)
        case atStart => exact ⟨0, by omega, rfl, H.out.1, H.out.2.1, H.out.2.2.1, by rw [mapTo_zero]; exact H.out.2.2.2⟩
        case round =>
          obtain ⟨k, hk, rfl, r1, r2, r3, r4⟩ := hrel
          obtain ⟨wB, hwB⟩ : ∃ z : World, z = wr := ⟨_, rfl⟩
          subst hwB
          have k2 := lb_cell r1 2 _ rfl
          have R := Lib.hid (And.intro r1 (And.intro r2 (And.intro r3 r4)))
          clear r1 r2 r3 r4
          by_cases hlt : k < m
          · obtain ⟨x, hx⟩ := some_of_lt (l := l.eyes) (k := k) (by rw [HL.out.2]; exact hlt)
            obtain ⟨g, cg, hv, hg1, hg2⟩ := R.out.2.2.2.eyes.form (by show 0 < (mapTo fE k l.eyes).length; rw [mapTo_len, HL.out.2]; omega)
            simp only [Value.slice.injEq] at hv
            obtain ⟨rfl, -, rfl⟩ := hv
            have HX := Lib.hid hx
            have hOld := Lib.hid (fun e => R.out.2.2.2.ne g e rfl)
            have CALL := Lib.hid (HEc.out.1 wB _ g c2 m k _ x R.out.2.2.1 (by omega) R.out.2.2.2.eyes (mapTo_get fE hx) (HEc.out.2 x (mem_of_some hx)))
            have hG := Lib.hid hg1
            clear hx hg1 hg2
            go_wp2_with (go_at_fn fe; refine CALL.out.mono ?_; rintro e w1 ⟨rfl, h1, h2⟩)
            go_roundw
            case rel =>
              have hgk := hG.out
              refine ⟨k + 1, by omega, by go_num, ?_, ?_, R.out.2.2.1.grow h1 (by omega), ?_, ?_, ?_⟩
              · exact (h1.block _ (lb_lt R.out.1) (fun e => by cases e; omega)).trans R.out.1
              · exact (h1.block _ (lb_lt R.out.2.1) (fun e => by cases e; omega)).trans R.out.2.1
              · exact R.out.2.2.2.pieces.kept h1 (.inr hOld.out)
              · show OwnR _ _ _ _ _ _ (mapTo fE (k + 1) l.eyes)
                rw [← mapTo_step fE HX.out]
                exact h2
              · exact R.out.2.2.2.ne
            case measure => simp [intOf]; omega
          · have hall : mapTo fE k l.eyes = l.eyes.map fE := mapTo_all fE (by rw [HL.out.2]; omega)
            have o4 := R.out.2.2.2
            rw [hall] at o4
            have o5 : OwnLoad (w.heap.size + 2) wB (mapL fP fE l) (.slice A1 n c1) (.slice A2 m c2) := o4
            have b5 := R.out.1
            have r5 := R.out.2.1
            have e5 := R.out.2.2.1
            clear R hall o4 k2 H HPc HEc
            have C := HC.out wB _ _ o5.is
            have hP : (loadE (mapL fP fE l) = 0 ∧ ∃ vp ve, Ending.returned (.tuple #[loadV (mapL fP fE l) (.slice A1 n c1) (.slice A2 m c2), .int .i64 0]) = .returned (.tuple #[loadV (mapL fP fE l) vp ve, .int .i64 0]) ∧ True) ∨ ¬ loadE (mapL fP fE l) = 0 := by
              by_cases h : loadE (mapL fP fE l) = 0
              · exact .inl ⟨h, _, _, rfl, trivial⟩
              · exact .inr h
            have HO := Lib.hid o5
            have s0 := lb_cell b5 0 _ rfl
            have s1 := lb_cell b5 1 _ rfl
            have s2 := lb_cell b5 2 _ rfl
            have s3 := lb_cell b5 3 _ rfl
            have HB := Lib.hid (And.intro b5 (And.intro r5 e5))
            obtain ⟨E, hE⟩ : ∃ E, loadE (mapL fP fE l) = E := ⟨_, rfl⟩
            have HEE := Lib.hid hE
            unfold loadV mapL at C
            simp only at C
            rw [show loadE { l with pieces := l.pieces.map fP, eyes := l.eyes.map fE } = E from hE] at C
            replace C := Lib.hid C
            clear hP b5 r5 e5 o5 hE HC
            by_cases h0 : E = 0
            · subst h0
              go_wp2_with (go_at_call 21; refine C.out.mono ?_; rintro e w3 ⟨rfl, h3⟩; have t0 := h3.cell s0; have t1 := h3.cell s1; have t2 := h3.cell s2; have t3 := h3.cell s3; have R3 := lb_ext HB.out.2.1 h3; have y0 := lb_cell R3 0 _ rfl; have y1 := lb_cell R3 1 _ rfl; have y2 := lb_cell R3 2 _ rfl; have y3 := lb_cell R3 3 _ rfl; have f0 := lb_frz R3 0; have f1 := lb_frz R3 1; have f2 := lb_frz R3 2; have f3 := lb_frz R3 3)
              refine bodyPost_ret (v := .tuple #[.agg #[.string l.name, .slice A1 n c1, .slice A2 m c2, .int .i64 l.friction], .int .i64 0]) (by simp [results, Try.results29, go_sem, y0, y1, y2, y3]) rfl ?_
              have e6 := HB.out.2.2.trans h3
              refine ⟨(((e6.set (by simp) _).set (by simp) _).set (by simp) _).set (by simp) _, .inl ⟨HEE.out, _, _, rfl, ?_⟩⟩
              have o6 := HO.out.ext h3
              refine (OwnLoad.down (base := w.heap.size + 2) ⟨?_, ?_, o6.ne⟩ (by omega))
              · exact (((o6.pieces.other (by omega) _).other (by omega) _).other (by omega) _).other (by omega) _
              · exact (((o6.eyes.other (by omega) _).other (by omega) _).other (by omega) _).other (by omega) _
            · go_wp2_with (go_at_call 21; refine C.out.mono ?_; rintro e w3 ⟨rfl, h3⟩; have R3 := lb_ext HB.out.2.1 h3; have y0 := lb_cell R3 0 _ rfl; have y1 := lb_cell R3 1 _ rfl; have y2 := lb_cell R3 2 _ rfl; have y3 := lb_cell R3 3 _ rfl; have f0 := lb_frz R3 0; have f1 := lb_frz R3 1; have f2 := lb_frz R3 2; have f3 := lb_frz R3 3)
              refine bodyPost_ret (v := .tuple #[zeroV, .int .i64 4]) (by simp [results, Try.results29, go_sem, y0, y1, y2, y3, zeroV]) rfl ?_
              have e6 := HB.out.2.2.trans h3
              exact ⟨(((e6.set (by simp) _).set (by simp) _).set (by simp) _).set (by simp) _, .inr ⟨by rw [HEE.out]; exact h0, rfl⟩⟩
end Go.Proofs.Ytkkeblgahbpmmaa
