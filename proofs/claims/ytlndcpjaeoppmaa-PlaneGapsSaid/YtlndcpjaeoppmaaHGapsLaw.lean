
/- The law PlaneGaps, walked. -/
import Derived.Test.YtlndcpjaeoppmaaHFewC
namespace Go.Proofs.Ytlndcpjaeoppmaa
open Go.RowKit Go.Shelf

def mx2 (x y : Int) : Int := if y > x then y else x
def mx4 (x y z u : Int) : Int := mx2 (mx2 (mx2 x y) z) u
theorem run_mx4 (x y z u : Int) (W : World) : (Builtin.max_ #[2, 2, 2, 2] 2 #[.int .i64 x, .int .i64 y, .int .i64 z, .int .i64 u]).run Try.prog W = .ok (.int .i64 (mx4 x y z u)) W := rfl
theorem mx4_abs {p q : Int} (h1 : -128 ≤ p ∧ p ≤ 127) (h2 : -128 ≤ q ∧ q ≤ 127) : (-(mx4 p (-p) q (-q)) ≤ p ∧ p ≤ mx4 p (-p) q (-q)) ∧ (-(mx4 p (-p) q (-q)) ≤ q ∧ q ≤ mx4 p (-p) q (-q)) ∧ 0 ≤ mx4 p (-p) q (-q) ∧ mx4 p (-p) q (-q) ≤ 128 := by
  unfold mx4 mx2
  omega
theorem gap_small {a b : List HPt} (T : TwoH a b) (ha : ∀ p ∈ a, (-128 ≤ p.1 ∧ p.1 ≤ 127) ∧ (-128 ≤ p.2 ∧ p.2 ≤ 127)) (hb : ∀ p ∈ b, (-128 ≤ p.1 ∧ p.1 ≤ 127) ∧ (-128 ≤ p.2 ∧ p.2 ≤ 127)) : gapP a b ≤ 255 := by
  obtain ⟨p, hp⟩ := List.exists_mem_of_ne_nil a T.a0
  obtain ⟨q, hq⟩ := List.exists_mem_of_ne_nil b T.b0
  have h1 := ha p hp
  have h2 := hb q hq
  exact gap_le T (by omega) (near_of hp hq (by omega) (by omega))
theorem grow_small {a : List HPt} {t : Int} (ht : 0 ≤ t ∧ t ≤ 2000) (ha : ∀ p ∈ a, (-128 ≤ p.1 ∧ p.1 ≤ 127) ∧ (-128 ≤ p.2 ∧ p.2 ≤ 127)) : ∀ p ∈ growP t a, okPt p = true := by
  intro p hp
  obtain ⟨o, ho, hr⟩ := List.mem_flatMap.1 hp
  have h := ha o ho
  obtain ⟨p1, p2⟩ := p
  rw [okPt_iff]
  simp only [rgP, List.mem_cons, List.not_mem_nil, or_false, Prod.mk.injEq] at hr
  omega
theorem growE_good {a : List HPt} {t : Int} (ht : 0 ≤ t ∧ t ≤ 2000) (hh : isHullB a = true) (hl : a.length ≤ 16) (ha : ∀ p ∈ a, (-128 ≤ p.1 ∧ p.1 ≤ 127) ∧ (-128 ≤ p.2 ∧ p.2 ≤ 127)) : growE a t = (cornersP (growP t a), 0) := by
  have h1 := corners_len (growP t a)
  rw [grow_len] at h1
  rw [growE_in (errHs_good hh hh) (inB_iff.2 (by omega)), if_neg (by omega), if_pos]
  exact List.all_eq_true.2 (fun p hp => grow_small ht ha p (corners_sub hp))
theorem grown_hull {a : List HPt} {t : Int} (ht : 0 ≤ t ∧ t ≤ 2000) (ha0 : a ≠ []) (hl : a.length ≤ 16) (ha : ∀ p ∈ a, (-128 ≤ p.1 ∧ p.1 ≤ 127) ∧ (-128 ≤ p.2 ∧ p.2 ≤ 127)) : isHullB (cornersP (growP t a)) = true :=
  isHull_good (grow_ne t ha0) (grow_small ht ha) (by rw [grow_len]; omega)
theorem grown_meet {a b : List HPt} (T : TwoH a b) {t : Int} (ht : 0 ≤ t) : meetB (cornersP (growP t a)) b = decide (gapP a b ≤ t) := by
  rw [Bool.eq_iff_iff, grow_near ht T.cb T.a0 T.b0, decide_eq_true_eq]
  exact gap_iff T ht
theorem mov_hull {b : List HPt} {v : HPt} (hb : isHullB b = true) (hs : ∀ p ∈ b, (-128 ≤ p.1 ∧ p.1 ≤ 127) ∧ (-128 ≤ p.2 ∧ p.2 ≤ 127)) (h1 : -128 ≤ v.1 ∧ v.1 ≤ 127) (h2 : -128 ≤ v.2 ∧ v.2 ≤ 127) : isHullB (b.map (movP v)) = true := by
  obtain ⟨h0, hl, _, _, hc⟩ := isHull_facts hb
  have hok : ∀ p ∈ b.map (movP v), okPt p = true := by
    intro p hp
    obtain ⟨q, hq, rfl⟩ := List.mem_map.1 hp
    have := hs q hq
    obtain ⟨q1, q2⟩ := q
    unfold movP
    rw [okPt_iff]
    simp only at *
    omega
  unfold isHullB
  rw [corners_mov, hc, decide_eq_true (by rw [List.length_map]; exact h0), decide_eq_true (errPts_good hok (by rw [List.length_map]; exact hl)), decide_eq_true rfl]
  rfl
theorem mov_take {b : List HPt} {v : HPt} {k : Nat} (hk : k < b.length) : (b.take (k + 1)).map (movP v) = (b.take k).map (movP v) ++ [((b.getD k (0, 0)).1 + v.1, (b.getD k (0, 0)).2 + v.2)] := by
  rw [getD_lt hk, List.take_succ_eq_append_getElem hk, List.map_append]
  rfl
set_option maxRecDepth 100000 in
set_option maxHeartbeats 3200000 in
theorem gaps_none (va vb : Value) (l m : List HPt) (p1 p2 : Int) (w : World) (ha : Pairs .i8 w va l) (wa : ∀ q ∈ l, (Lit.int .i8 q.1).wf = true ∧ (Lit.int .i8 q.2).wf = true) (hb : Pairs .i8 w vb m) (wb : ∀ q ∈ m, (Lit.int .i8 q.1).wf = true ∧ (Lit.int .i8 q.2).wf = true) (h0 : l = [] ∨ (¬ l = [] ∧ m = [])) :
    Calls Try.prog 6 #[va, vb, .int .i8 p1, .int .i8 p2] w fun e w' => e = .returned (.bool true) ∧ Ext w w' := by
  have FA : ∀ W, Ext w W → Calls Try.prog 8 #[va, .int .i64 8] W fun e w' => ∃ A c, e = .returned (.slice A (l.take 8).length c) ∧ Pts w' (.slice A (l.take 8).length c) (l.take 8) ∧ Ext W w' := fun W h => few_at va l 8 w W h ha wa (by omega)
  have FB : ∀ W, Ext w W → Calls Try.prog 8 #[vb, .int .i64 8] W fun e w' => ∃ A c, e = .returned (.slice A (m.take 8).length c) ∧ Pts w' (.slice A (m.take 8).length c) (m.take 8) ∧ Ext W w' := fun W h => few_at vb m 8 w W h hb wb (by omega)
  obtain ⟨AA, ca, rfl, la⟩ := pairs_shape ha
  obtain ⟨AB, cb, rfl, lb⟩ := pairs_shape hb
  obtain ⟨a, ea, hSa, hea⟩ : ∃ a ea, hullS (l.take 8) = (a, ea) ∧ (l = [] → ea = 5) ∧ (¬ l = [] → ea = 0) := by
    by_cases k : l = []
    · subst k
      exact ⟨_, _, rfl, fun _ => rfl, fun h => absurd rfl h⟩
    · refine ⟨_, _, hullS_good (L := l.take 8) (by simpa using k) (fun p hp => ok_small (few_ok wa 8 p hp)) (by rw [List.length_take]; omega), fun h => absurd h k, fun _ => rfl⟩
  have hSb : m = [] → hullS (m.take 8) = ([], 5) := by rintro rfl; rfl
  obtain ⟨b, eb, hSb, heb⟩ : ∃ b eb, hullS (m.take 8) = (b, eb) ∧ (m = [] → eb = 5) := by
    refine ⟨(hullS (m.take 8)).1, (hullS (m.take 8)).2, rfl, fun h => ?_⟩
    rw [hSb h]
  have HA := Lib.hid (fun v W => hull_at hSa v W)
  have HB := Lib.hid (fun v W => hull_at hSb v W)
  replace FA := Lib.hid FA
  replace FB := Lib.hid FB
  have cs : (ea = 5 ∧ l.length = 0) ∨ (ea = 0 ∧ eb = 5 ∧ ¬ l.length = 0 ∧ m.length = 0) := by
    rcases h0 with h | ⟨h, h2⟩
    · exact .inl ⟨hea.1 h, by rw [h]; rfl⟩
    · exact .inr ⟨hea.2 h, heb h2, fun e => h (List.eq_nil_of_length_eq_zero e), by rw [h2]; rfl⟩
  clear hSa hSb hea heb ha hb wa wb h0
  generalize l.take 8 = L at *
  generalize m.take 8 = M at *
  generalize l.length = n at *
  generalize m.length = k at *
  rcases cs with ⟨rfl, rfl⟩ | ⟨rfl, rfl, hn, rfl⟩
  all_goals
    go_enter Try.func6, Try.ntmps6
    go_wp2_with (first
      | (go_at_call 8; refine (FA.out _ (by (repeat' (first | exact Ext.refl _ | assumption | refine Ext.alloc ?_ _ | refine Ext.drew ?_ | refine Ext.drewN ?_ _ | refine Ext.set ?_ (by first | exact Nat.le_refl _ | exact le1 _ | exact le2 _ | exact le3 _ | exact le4 _ | exact le5 _ | exact le6 _) _ | refine Ext.trans ?_ (by assumption))))).mono ?_; rintro e w1 ⟨A1, c1, rfl, hp1, hb1⟩; replace hp1 := Lib.hid hp1; clear FA)
      | (go_at_call 9; refine (HA.out _ _ hp1.out).mono ?_; rintro e w2 ⟨A2, c2, rfl, hp2, hb2⟩; replace hp2 := Lib.hid hp2; clear HA)
      | (go_at_call 8; refine (FB.out _ (by (repeat' (first | exact Ext.refl _ | assumption | refine Ext.alloc ?_ _ | refine Ext.drew ?_ | refine Ext.drewN ?_ _ | refine Ext.set ?_ (by first | exact Nat.le_refl _ | exact le1 _ | exact le2 _ | exact le3 _ | exact le4 _ | exact le5 _ | exact le6 _) _ | refine Ext.trans ?_ (by assumption))))).mono ?_; rintro e w3 ⟨A3, c3, rfl, hp3, hb3⟩; replace hp3 := Lib.hid hp3; clear FB)
      | (go_at_call 9; refine (HB.out _ _ hp3.out).mono ?_; rintro e w4 ⟨A4, c4, rfl, hp4, hb4⟩; replace hp4 := Lib.hid hp4; clear HB)
      | (go_at_call 10; refine (works_c _).mono ?_; rintro e w5 ⟨rfl, hb5⟩))
    go_ret
    exact ⟨rfl, by (repeat' (first | exact Ext.refl _ | assumption | refine Ext.alloc ?_ _ | refine Ext.drew ?_ | refine Ext.drewN ?_ _ | refine Ext.set ?_ (by first | exact Nat.le_refl _ | exact le1 _ | exact le2 _ | exact le3 _ | exact le4 _ | exact le5 _ | exact le6 _) _ | refine Ext.trans ?_ (by assumption)))⟩
set_option maxRecDepth 100000 in
set_option maxHeartbeats 6400000 in
theorem gaps_full (va vb : Value) (l m : List HPt) (p1 p2 : Int) (w : World) (ha : Pairs .i8 w va l) (wa : ∀ q ∈ l, (Lit.int .i8 q.1).wf = true ∧ (Lit.int .i8 q.2).wf = true) (hb : Pairs .i8 w vb m) (wb : ∀ q ∈ m, (Lit.int .i8 q.1).wf = true ∧ (Lit.int .i8 q.2).wf = true)
    (b1 : -128 ≤ p1 ∧ p1 ≤ 127) (b2 : -128 ≤ p2 ∧ p2 ≤ 127) (h1 : ¬ l = []) (h2 : ¬ m = []) :
    Calls Try.prog 6 #[va, vb, .int .i8 p1, .int .i8 p2] w fun e w' => e = .returned (.bool true) ∧ Ext w w' := by
  have FA : ∀ W, Ext w W → Calls Try.prog 8 #[va, .int .i64 8] W fun e w' => ∃ A c, e = .returned (.slice A (l.take 8).length c) ∧ Pts w' (.slice A (l.take 8).length c) (l.take 8) ∧ Ext W w' := fun W h => few_at va l 8 w W h ha wa (by omega)
  have FB : ∀ W, Ext w W → Calls Try.prog 8 #[vb, .int .i64 8] W fun e w' => ∃ A c, e = .returned (.slice A (m.take 8).length c) ∧ Pts w' (.slice A (m.take 8).length c) (m.take 8) ∧ Ext W w' := fun W h => few_at vb m 8 w W h hb wb (by omega)
  obtain ⟨AA, ca, rfl, la⟩ := pairs_shape ha
  obtain ⟨AB, cb, rfl, lb⟩ := pairs_shape hb
  have ga0 : l.take 8 ≠ [] := by simpa using h1
  have gb0 : m.take 8 ≠ [] := by simpa using h2
  have gas := few_ok wa 8
  have gbs := few_ok wb 8
  have gao : ∀ p ∈ l.take 8, okPt p = true := fun p hp => ok_small (gas p hp)
  have gbo : ∀ p ∈ m.take 8, okPt p = true := fun p hp => ok_small (gbs p hp)
  have gal : (l.take 8).length ≤ 8 := by rw [List.length_take]; omega
  have gbl : (m.take 8).length ≤ 8 := by rw [List.length_take]; omega
  have hSa := hullS_good ga0 gao (by omega)
  have hSb := hullS_good gb0 gbo (by omega)
  have ia := isHull_good ga0 gao (by omega)
  have ib := isHull_good gb0 gbo (by omega)
  have HA := Lib.hid (fun v W => hull_at hSa v W)
  have HB := Lib.hid (fun v W => hull_at hSb v W)
  have sa : ∀ p ∈ cornersP (l.take 8), (-128 ≤ p.1 ∧ p.1 ≤ 127) ∧ (-128 ≤ p.2 ∧ p.2 ≤ 127) := fun p hp => gas p (corners_sub hp)
  have sb : ∀ p ∈ cornersP (m.take 8), (-128 ≤ p.1 ∧ p.1 ≤ 127) ∧ (-128 ≤ p.2 ∧ p.2 ≤ 127) := fun p hp => gbs p (corners_sub hp)
  have na : (cornersP (l.take 8)).length ≤ 16 := by have := corners_len (l.take 8); omega
  have nb : (cornersP (m.take 8)).length ≤ 16 := by have := corners_len (m.take 8); omega
  generalize cornersP (l.take 8) = a at *
  generalize cornersP (m.take 8) = b at *
  replace FA := Lib.hid FA
  replace FB := Lib.hid FB
  clear hSa hSb ha hb wa wb ga0 gb0 gao gbo gal gbl h1 h2 gas gbs
  generalize l.take 8 = L at *
  generalize m.take 8 = M at *
  have T := twoH_good ia ib
  have GC := fun v u W (h1 : Pts W v a) (h2 : Pts W u b) => Gap_c v u a b W h1 h2
  rw [gapE_good ia ib] at GC
  have G0 := (gap_spec T).1
  have G1 := gap_small T sa sb
  have RC := fun t (ht : 0 ≤ t ∧ t ≤ 2000) v W (h1 : Pts W v a) => (by have h := Grow_c v a t W h1; rw [growE_good ht ia na sa] at h; exact h : Calls Try.prog 20 #[v, .int .i64 t] W fun e w' => ∃ v', e = .returned (.tuple #[v', .int .i64 0]) ∧ Pts w' v' (cornersP (growP t a)) ∧ Ext W w')
  have MC := fun t (ht : 0 ≤ t ∧ t ≤ 2000) v u W (h1 : Pts W v (cornersP (growP t a))) (h2 : Pts W u b) => (by have h := Meet_c v u (cornersP (growP t a)) b W h1 h2; rw [meetE_good (grown_hull ht T.a0 na sa) ib, grown_meet T ht.1] at h; exact h : Calls Try.prog 22 #[v, u] W fun e w' => e = .returned (.tuple #[.bool (decide (gapP a b ≤ t)), .int .i64 0]) ∧ Ext W w')
  have im := mov_hull (v := (p1, p2)) ib sb b1 b2
  have GM := fun v u W (h1 : Pts W v a) (h2 : Pts W u (b.map (movP (p1, p2)))) => Gap_c v u a (b.map (movP (p1, p2))) W h1 h2
  rw [gapE_good ia im] at GM
  simp only at GC GM
  have gm := fun t h1 h2 => gap_mov (t := t) (v := (p1, p2)) T (twoH_good ia im) h1 h2
  have gz := (gap_spec (twoH_good ia im)).1
  have gy := (gap_spec (twoH_good ia im)).2.1
  simp only at gm
  obtain ⟨m1, m2, m3, m4⟩ := mx4_abs b1 b2
  have hmx := run_mx4 p1 (-p1) p2 (-p2)
  have hx := gm _ m1 m2
  generalize mx4 p1 (-p1) p2 (-p2) = X at *
  clear m1 m2
  generalize gapP a (b.map (movP (p1, p2))) = H at *
  generalize gapP a b = G at *
  have mt := fun k (hk : k < b.length) => mov_take (v := (p1, p2)) hk
  have e1 := IntWalk.i64_in p1 (by omega)
  have e2 := IntWalk.i64_in p2 (by omega)
  have e3 := IntWalk.i64_in (-p1) (by omega)
  have e4 := IntWalk.i64_in (-p2) (by omega)
  have e5 := IntWalk.i64_in (G - 2) (by omega)
  have e6 := IntWalk.i64_in (G + 1) (by omega)
  have e7 := IntWalk.i64_in (G + X) (by omega)
  have e8 := IntWalk.i64_in (H + X) (by omega)
  have f1 : ¬ G < 0 := by omega
  have f2 : ¬ 1000 < G := by omega
  have HSB := Lib.hid sb
  replace GC := Lib.hid GC
  replace GM := Lib.hid GM
  replace RC := Lib.hid RC
  replace MC := Lib.hid MC
  obtain ⟨hx1, hx2⟩ := hx
  replace mt := Lib.hid mt
  clear T ia ib im sa sb gm
  go_enter Try.func6, Try.ntmps6
  go_wp2_with (first
    | (go_at_call 8; refine (FA.out _ (by (repeat' (first | exact Ext.refl _ | assumption | refine Ext.alloc ?_ _ | refine Ext.drew ?_ | refine Ext.drewN ?_ _ | refine Ext.set ?_ (by first | exact Nat.le_refl _ | exact le1 _ | exact le2 _ | exact le3 _ | exact le4 _ | exact le5 _ | exact le6 _) _ | refine Ext.trans ?_ (by assumption))))).mono ?_; rintro e w1 ⟨A1, c1, rfl, hp1, hb1⟩; replace hp1 := Lib.hid hp1; clear FA)
    | (go_at_call 9; refine (HA.out _ _ hp1.out).mono ?_; rintro e w2 ⟨A2, c2, rfl, hp2, hb2⟩; replace hp2 := Lib.hid hp2; clear HA)
    | (go_at_call 8; refine (FB.out _ (by (repeat' (first | exact Ext.refl _ | assumption | refine Ext.alloc ?_ _ | refine Ext.drew ?_ | refine Ext.drewN ?_ _ | refine Ext.set ?_ (by first | exact Nat.le_refl _ | exact le1 _ | exact le2 _ | exact le3 _ | exact le4 _ | exact le5 _ | exact le6 _) _ | refine Ext.trans ?_ (by assumption))))).mono ?_; rintro e w3 ⟨A3, c3, rfl, hp3, hb3⟩; replace hp3 := Lib.hid hp3; clear FB)
    | (go_at_call 9; refine (HB.out _ _ hp3.out).mono ?_; rintro e w4 ⟨A4, c4, rfl, hp4, hb4⟩; replace hp4 := Lib.hid hp4; clear HB)
    | (go_at_call 24; refine (GC.out _ _ _ (hp2.out.ext (by (repeat' (first | exact Ext.refl _ | assumption | refine Ext.alloc ?_ _ | refine Ext.drew ?_ | refine Ext.drewN ?_ _ | refine Ext.set ?_ (by first | exact Nat.le_refl _ | exact le1 _ | exact le2 _ | exact le3 _ | exact le4 _ | exact le5 _ | exact le6 _) _ | refine Ext.trans ?_ (by assumption))))) (hp4.out.ext (by (repeat' (first | exact Ext.refl _ | assumption | refine Ext.alloc ?_ _ | refine Ext.drew ?_ | refine Ext.drewN ?_ _ | refine Ext.set ?_ (by first | exact Nat.le_refl _ | exact le1 _ | exact le2 _ | exact le3 _ | exact le4 _ | exact le5 _ | exact le6 _) _ | refine Ext.trans ?_ (by assumption)))))).mono ?_; rintro e w5 ⟨rfl, hb5⟩; clear GC))
  have e45 : Ext w4 w5 := by (repeat' (first | exact Ext.refl _ | assumption | refine Ext.alloc ?_ _ | refine Ext.drew ?_ | refine Ext.drewN ?_ _ | refine Ext.set ?_ (by first | exact Nat.le_refl _ | exact le1 _ | exact le2 _ | exact le3 _ | exact le4 _ | exact le5 _ | exact le6 _) _ | refine Ext.trans ?_ (by assumption)))
  have e25 : Ext w2 w5 := by (repeat' (first | exact Ext.refl _ | assumption | refine Ext.alloc ?_ _ | refine Ext.drew ?_ | refine Ext.drewN ?_ _ | refine Ext.set ?_ (by first | exact Nat.le_refl _ | exact le1 _ | exact le2 _ | exact le3 _ | exact le4 _ | exact le5 _ | exact le6 _) _ | refine Ext.trans ?_ (by assumption)))
  have HPA := Lib.hid (hp2.out.ext e25)
  have HPB := Lib.hid (hp4.out.ext e45)
  have EV : Ext w w5 := ((hb1.trans hb2).trans e25)
  clear hp1 hp2 hp3 hp4 hb1 hb2 hb3 hb4 hb5 e25 e45
  go_loopw [14] (fun t wr => ∃ T : Int, t = .int .i64 T ∧ 0 ≤ T ∧ G - 2 ≤ T ∧ T ≤ G + 2 ∧ Ext w5 wr) (fun t _ => (G + 2 - intOf t).toNat)
  case atStart => exact ⟨max 0 (G - 2), rfl, by omega, by omega, by omega, Ext.refl _⟩
  case round =>
    obtain ⟨T, rfl, t0, t1, t2, hE⟩ := hrel
    by_cases hlt : T ≤ G + 1
    · have R1 := Lib.hid (fun W (h : Ext wr W) => RC.out T ⟨t0, by omega⟩ _ W (HPA.out.ext (hE.trans h)))
      have M1 := Lib.hid (fun W (h : Ext wr W) u (hu : Pts W u (cornersP (growP T a))) => MC.out T ⟨t0, by omega⟩ u _ W hu (HPB.out.ext (hE.trans h)))
      have et := IntWalk.i64_in (T + 1) (by omega)
      go_wp2_with (first
        | (go_at_call 20; refine (R1.out _ (by (repeat' (first | exact Ext.refl _ | assumption | refine Ext.alloc ?_ _ | refine Ext.drew ?_ | refine Ext.drewN ?_ _ | refine Ext.set ?_ (by first | exact Nat.le_refl _ | exact le1 _ | exact le2 _ | exact le3 _ | exact le4 _ | exact le5 _ | exact le6 _) _ | refine Ext.trans ?_ (by assumption))))).mono ?_; rintro e w6 ⟨v6, rfl, hp6, hb6⟩; obtain ⟨A6, c6, rfl, _⟩ := hp6.shapeH; replace hp6 := Lib.hid hp6)
        | (go_at_call 22; refine (M1.out _ hb6 _ hp6.out).mono ?_; rintro e w7 ⟨rfl, hb7⟩))
      exact ⟨⟨T + 1, rfl, by omega, by omega, by omega, (hE.trans hb6).trans hb7⟩, by simp [intOf]; omega⟩
    · clear RC MC
      go_wp2
      obtain ⟨wA, hwA⟩ : ∃ z : World, z = wr := ⟨_, rfl⟩
      subst hwA
      have HEA := Lib.hid (EV.trans hE)
      have zA := HEA.out.sz
      have PA := Lib.hid (HPA.out.ext hE)
      have PB := Lib.hid (HPB.out.ext hE)
      clear HPA HPB EV hE
      go_loopw [19, 20] (fun o i wr => ∃ (k : Nat) (A : Option Addr) (c : Nat), k ≤ b.length ∧ i = .int .i64 k ∧ o = .slice A k c ∧ OwnP wA.heap.size wr (.slice A k c) ((b.take k).map (movP (p1, p2))) ∧ Ext wA wr) (fun _ i _ => b.length - (intOf i).toNat)
      case atStart => exact ⟨0, none, 0, by omega, rfl, rfl, OwnP.none0, Ext.refl _⟩
      case round =>
        obtain ⟨k, A, c, hk, rfl, rfl, ho, hE⟩ := hrel
        by_cases hk2 : k < b.length
        · have hq : b[k]? = some (b.getD k (0, 0)) := by rw [getD_lt hk2]; exact List.getElem?_eq_getElem hk2
          obtain ⟨bb, off, eb, x0', x1'⟩ := pts_atH PB.out rfl hq
          have hbb := World.block_lt_of_cell? wA _ x0'
          simp only at hbb
          subst eb
          have x0 := hE.cell x0'
          have x1 := hE.cell x1'
          clear x0' x1'
          have hsb := HSB.out _ (get_mem hk2)
          have htk := mt.out k hk2
          generalize b.getD k (0, 0) = p at *
          obtain ⟨q1, q2⟩ := p
          simp only at x0 x1 hsb htk
          have g1 := IntWalk.i64_in (q1 + p1) (by omega)
          have g2 := IntWalk.i64_in (q2 + p2) (by omega)
          have hNl : ((b.take k).map (movP (p1, p2))).length = k := by rw [List.length_map, List.length_take, Nat.min_eq_left hk]
          have HBB := Lib.hid (show (Value.slice A k c).ownBlock ≠ some bb from own_ne ho hbb)
          have HO := Lib.hid (And.intro ho hNl)
          have HE := Lib.hid hE
          have zE := hE.sz
          have HTK := Lib.hid htk
          clear ho hNl hE htk hq hsb
          go_wp2
          have hown : wr.ownsRow wA.heap.size 31 2 (.slice A k c) k (flatP ((b.take k).map (movP (p1, p2)))) := by
            have h9 := HO.out.1
            unfold OwnP at h9
            rw [HO.out.2] at h9
            exact h9
          obtain ⟨i0, hi0, hz0, hz1, hz2⟩ := info_parts infoPoint
          have lb := World.block_lt_of_cell? wr _ x0
          have i1 : (0 : Int) ≤ (k : Int) := by omega
          have i2 : (k : Int) < (b.length : Int) := by omega
          have hneb := HBB.out
          go_region_held3 (fun w' => w'.cell? ⟨bb, off + k * 2, none⟩ = some (.int .i64 q1) ∧ w'.cell? ⟨bb, off + k * 2 + 1, none⟩ = some (.int .i64 q2))
            (first | go_keep | (refine ⟨?_, ?_⟩ <;> (rw [hgrow.cell_far _ (by simp; omega) (Ne.symm hneb)]; go_simp)))
            ((refine step_append_lies _ (by rfl) _ _ _ (by rfl) wA.heap.size 31 i0 _ 2 16 Try.underlying23 hi0 hz0 hz1 hz2 rfl (by omega) _ k (flatP ((b.take k).map (movP (p1, p2)))) (by rfl) ((hown.alloc _).drew)
                ⟨wr.heap.size, 0, none⟩ 1 1 [.int .i64 (q1 + p1), .int .i64 (q2 + p2)] (by rfl) (by rfl) (World.news_of_block (cs := #[.int .i64 (q1 + p1), .int .i64 (q2 + p2)]) (t := 31) (fr := (0, 0)) (heap_alloc_new wr _)) (by simp [Value.oneCell'])
                (by omega) (by unfold maxLen; omega) (by omega) (by simp; omega) (wr.heap.size + 1) (by simp) ?_; intro gg cap w1 hown1 hgrow hat hlt))
          have E4 : Ext wA w1 := ((HE.out.alloc _).drew).grown hgrow (own_ge hown)
          have ho4 : OwnP wA.heap.size w1 (.slice (some ⟨gg, 0, none⟩) (k + 1) cap) ((b.take (k + 1)).map (movP (p1, p2))) := by
            rw [HTK.out]
            refine OwnP.snoc ?_
            rw [HO.out.2]
            exact hown1
          have HO4 := Lib.hid ho4
          have HE4 := Lib.hid E4
          clear hown hown1 hgrow hat ho4 E4 x0 x1
          go_wp2
          exact ⟨⟨k + 1, some ⟨gg, 0, none⟩, cap, by omega, by go_num, rfl, HO4.out, HE4.out⟩, by simp [intOf]; omega⟩
        · have hkk : k = b.length := by omega
          rw [List.take_of_length_le (by omega)] at ho
          have GF := Lib.hid (GM.out _ _ wr (PA.out.ext hE) ho.pts)
          have HE := Lib.hid hE
          clear ho hE GM hkk
          go_wp2_with (first
            | (go_at_call 24; refine GF.out.mono ?_; rintro e w8 ⟨rfl, hb8⟩)
            | (go_at_call 10; refine (works_c _).mono ?_; rintro e w9 ⟨rfl, hb9⟩))
          go_ret
          exact ⟨rfl, ((HEA.out.trans HE.out).trans hb8).trans hb9⟩
theorem gaps_law (va : Value) (l : List HPt) (vb : Value) (m : List HPt) (p1 p2 : Int) (w : World) (ha : Pairs .i8 w va l) (wa : ∀ q ∈ l, (Lit.int .i8 q.1).wf = true ∧ (Lit.int .i8 q.2).wf = true) (hb : Pairs .i8 w vb m) (wb : ∀ q ∈ m, (Lit.int .i8 q.1).wf = true ∧ (Lit.int .i8 q.2).wf = true)
    (w1 : (Lit.int .i8 p1).wf = true) (w2 : (Lit.int .i8 p2).wf = true) :
    Calls Try.prog 6 #[va, vb, .int .i8 p1, .int .i8 p2] w fun e w' => e = .returned (.bool true) ∧ Ext w w' := by
  by_cases h1 : l = []
  · exact gaps_none va vb l m p1 p2 w ha wa hb wb (.inl h1)
  · by_cases h2 : m = []
    · exact gaps_none va vb l m p1 p2 w ha wa hb wb (.inr ⟨h1, h2⟩)
    · exact gaps_full va vb l m p1 p2 w ha wa hb wb (bounds_i8 w1) (bounds_i8 w2) h1 h2
end Go.Proofs.Ytlndcpjaeoppmaa
