
/- The law PlaneParts, walked. -/
import Derived.Test.YtlndcpjaeoppmaaHFewC
import Derived.Test.YtlndcpjaeoppmaaHChkMath
namespace Go.Proofs.Ytlndcpjaeoppmaa
open Go.RowKit Go.Shelf

set_option maxRecDepth 100000 in
set_option maxHeartbeats 3200000 in
theorem parts_none (va vb : Value) (l m : List HPt) (X Y K p1 p2 : Int) (w : World) (ha : Pairs .i8 w va l) (wa : ∀ q ∈ l, (Lit.int .i8 q.1).wf = true ∧ (Lit.int .i8 q.2).wf = true) (hb : Pairs .i8 w vb m) (wb : ∀ q ∈ m, (Lit.int .i8 q.1).wf = true ∧ (Lit.int .i8 q.2).wf = true) (h0 : l = [] ∨ (¬ l = [] ∧ m = [])) :
    Calls Try.prog 7 #[va, vb, .agg #[.int .i64 X, .int .i64 Y, .int .i64 K], .agg #[.int .i8 p1, .int .i8 p2]] w fun e w' => e = .returned (.bool true) ∧ Ext w w' := by
  have FA : ∀ W, Ext w W → Calls Try.prog 8 #[va, .int .i64 8] W fun e w' => ∃ A c, e = .returned (.slice A (l.take 8).length c) ∧ Pts w' (.slice A (l.take 8).length c) (l.take 8) ∧ Ext W w' := fun W h => few_at va l 8 w W h ha wa (by omega)
  have FB : ∀ W, Ext w W → Calls Try.prog 8 #[vb, .int .i64 8] W fun e w' => ∃ A c, e = .returned (.slice A (m.take 8).length c) ∧ Pts w' (.slice A (m.take 8).length c) (m.take 8) ∧ Ext W w' := fun W h => few_at vb m 8 w W h hb wb (by omega)
  obtain ⟨AA, ca, rfl, la⟩ := pairs_shape ha
  obtain ⟨AB, cb, rfl, lb⟩ := pairs_shape hb
  obtain ⟨a, ea, hSa, hea⟩ : ∃ a ea, hullS (l.take 8) = (a, ea) ∧ (l = [] → ea = 5) ∧ (¬ l = [] → ea = 0) := by
    by_cases k : l = []
    · subst k
      exact ⟨_, _, rfl, fun _ => rfl, fun h => absurd rfl h⟩
    · refine ⟨_, _, hullS_good (L := l.take 8) (by simpa using k) (fun p hp => ok_small (few_ok wa 8 p hp)) (by rw [List.length_take]; omega), fun h => absurd h k, fun _ => rfl⟩
  have hSb : m = [] → hullS (m.take 8) = ([], 5) := by rintro rfl; rfl
  obtain ⟨b, eb, hSb, heb⟩ : ∃ b eb, hullS (m.take 8) = (b, eb) ∧ (m = [] → eb = 5) := by
    refine ⟨(hullS (m.take 8)).1, (hullS (m.take 8)).2, rfl, fun h => ?_⟩
    rw [hSb h]
  have HA := Lib.hid (fun v W => hull_at hSa v W)
  have HB := Lib.hid (fun v W => hull_at hSb v W)
  replace FA := Lib.hid FA
  replace FB := Lib.hid FB
  have cs : (ea = 5 ∧ l.length = 0) ∨ (ea = 0 ∧ eb = 5 ∧ ¬ l.length = 0 ∧ m.length = 0) := by
    rcases h0 with h | ⟨h, h2⟩
    · exact .inl ⟨hea.1 h, by rw [h]; rfl⟩
    · exact .inr ⟨hea.2 h, heb h2, fun e => h (List.eq_nil_of_length_eq_zero e), by rw [h2]; rfl⟩
  clear hSa hSb hea heb ha hb wa wb h0
  generalize l.take 8 = L at *
  generalize m.take 8 = M at *
  generalize l.length = n at *
  generalize m.length = k at *
  rcases cs with ⟨rfl, rfl⟩ | ⟨rfl, rfl, hn, rfl⟩
  all_goals
    go_enter Try.func7, Try.ntmps7
    go_wp2_with (first
      | (go_at_call 8; refine (FA.out _ (by (repeat' (first | exact Ext.refl _ | assumption | refine Ext.alloc ?_ _ | refine Ext.drew ?_ | refine Ext.drewN ?_ _ | refine Ext.set ?_ (by first | exact Nat.le_refl _ | exact le1 _ | exact le2 _ | exact le3 _ | exact le4 _ | exact le5 _ | exact le6 _) _ | refine Ext.trans ?_ (by assumption))))).mono ?_; rintro e w1 ⟨A1, c1, rfl, hp1, hb1⟩; replace hp1 := Lib.hid hp1; clear FA)
      | (go_at_call 9; refine (HA.out _ _ hp1.out).mono ?_; rintro e w2 ⟨A2, c2, rfl, hp2, hb2⟩; replace hp2 := Lib.hid hp2; clear HA)
      | (go_at_call 8; refine (FB.out _ (by (repeat' (first | exact Ext.refl _ | assumption | refine Ext.alloc ?_ _ | refine Ext.drew ?_ | refine Ext.drewN ?_ _ | refine Ext.set ?_ (by first | exact Nat.le_refl _ | exact le1 _ | exact le2 _ | exact le3 _ | exact le4 _ | exact le5 _ | exact le6 _) _ | refine Ext.trans ?_ (by assumption))))).mono ?_; rintro e w3 ⟨A3, c3, rfl, hp3, hb3⟩; replace hp3 := Lib.hid hp3; clear FB)
      | (go_at_call 9; refine (HB.out _ _ hp3.out).mono ?_; rintro e w4 ⟨A4, c4, rfl, hp4, hb4⟩; replace hp4 := Lib.hid hp4; clear HB)
      | (go_at_call 10; refine (works_c _).mono ?_; rintro e w5 ⟨rfl, hb5⟩))
    go_ret
    exact ⟨rfl, by (repeat' (first | exact Ext.refl _ | assumption | refine Ext.alloc ?_ _ | refine Ext.drew ?_ | refine Ext.drewN ?_ _ | refine Ext.set ?_ (by first | exact Nat.le_refl _ | exact le1 _ | exact le2 _ | exact le3 _ | exact le4 _ | exact le5 _ | exact le6 _) _ | refine Ext.trans ?_ (by assumption)))⟩
set_option maxRecDepth 100000 in
set_option maxHeartbeats 6400000 in
theorem parts_full (va vb : Value) (l m : List HPt) (X Y K p1 p2 : Int) (w : World) (ha : Pairs .i8 w va l) (wa : ∀ q ∈ l, (Lit.int .i8 q.1).wf = true ∧ (Lit.int .i8 q.2).wf = true) (hb : Pairs .i8 w vb m) (wb : ∀ q ∈ m, (Lit.int .i8 q.1).wf = true ∧ (Lit.int .i8 q.2).wf = true)
    (b1 : -128 ≤ p1 ∧ p1 ≤ 127) (b2 : -128 ≤ p2 ∧ p2 ≤ 127) (h1 : ¬ l = []) (h2 : ¬ m = []) :
    Calls Try.prog 7 #[va, vb, .agg #[.int .i64 X, .int .i64 Y, .int .i64 K], .agg #[.int .i8 p1, .int .i8 p2]] w fun e w' => e = .returned (.bool true) ∧ Ext w w' := by
  have FA : ∀ W, Ext w W → Calls Try.prog 8 #[va, .int .i64 8] W fun e w' => ∃ A c, e = .returned (.slice A (l.take 8).length c) ∧ Pts w' (.slice A (l.take 8).length c) (l.take 8) ∧ Ext W w' := fun W h => few_at va l 8 w W h ha wa (by omega)
  have FB : ∀ W, Ext w W → Calls Try.prog 8 #[vb, .int .i64 8] W fun e w' => ∃ A c, e = .returned (.slice A (m.take 8).length c) ∧ Pts w' (.slice A (m.take 8).length c) (m.take 8) ∧ Ext W w' := fun W h => few_at vb m 8 w W h hb wb (by omega)
  obtain ⟨AA, ca, rfl, la⟩ := pairs_shape ha
  obtain ⟨AB, cb, rfl, lb⟩ := pairs_shape hb
  have ga0 : l.take 8 ≠ [] := by simpa using h1
  have gb0 : m.take 8 ≠ [] := by simpa using h2
  have gao : ∀ p ∈ l.take 8, okPt p = true := fun p hp => ok_small (few_ok wa 8 p hp)
  have gbo : ∀ p ∈ m.take 8, okPt p = true := fun p hp => ok_small (few_ok wb 8 p hp)
  have gal : (l.take 8).length ≤ 8 := by rw [List.length_take]; omega
  have gbl : (m.take 8).length ≤ 8 := by rw [List.length_take]; omega
  have hSa := hullS_good ga0 gao (by omega)
  have hSb := hullS_good gb0 gbo (by omega)
  have ia := isHull_good ga0 gao (by omega)
  have ib := isHull_good gb0 gbo (by omega)
  have HA := Lib.hid (fun v W => hull_at hSa v W)
  have HB := Lib.hid (fun v W => hull_at hSb v W)
  generalize cornersP (l.take 8) = a at *
  generalize cornersP (m.take 8) = b at *
  replace FA := Lib.hid FA
  replace FB := Lib.hid FB
  clear hSa hSb ha hb wa wb ga0 gb0 gao gbo gal gbl h1 h2
  generalize l.take 8 = L at *
  generalize m.take 8 = M at *
  have T := twoH_good ia ib
  have hq : okPt (p1, p2) = true := ok_small ⟨b1, b2⟩
  have MC := fun v u W (h1 : Pts W v a) (h2 : Pts W u b) => Meet_c v u a b W h1 h2
  have MC2 := fun v u W (h1 : Pts W v b) (h2 : Pts W u a) => Meet_c v u b a W h1 h2
  have GC := fun v u W (h1 : Pts W v a) (h2 : Pts W u b) => Gap_c v u a b W h1 h2
  have GC2 := fun v u W (h1 : Pts W v b) (h2 : Pts W u a) => Gap_c v u b a W h1 h2
  have PC := fun v u W (h1 : Pts W v a) (h2 : Pts W u b) => Part_c v u a b W h1 h2
  have KC := fun x y k v u W (h1 : Pts W v a) (h2 : Pts W u b) => CheckPart_c v u a b x y k W h1 h2
  have IA := fun v W (h1 : Pts W v a) => Inside_c v a p1 p2 W h1
  have IB := fun v W (h1 : Pts W v b) => Inside_c v b p1 p2 W h1
  rw [meetE_good ia ib] at MC
  rw [meetE_good ib ia, ← meet_symm T] at MC2
  rw [gapE_good ia ib] at GC
  rw [gapE_good ib ia, ← gap_symm T] at GC2
  rw [insideS_good ia hq] at IA
  rw [insideS_good ib hq] at IB
  rw [partE_good ia ib] at PC
  simp only at MC MC2 GC GC2 IA IB
  have hK := check_meet T (errHs_good ia ib)
  have hK2 := fun x y => check_part (a := a) (b := b) (x := x) (y := y) (errHs_good ia ib)
  have hbo := both_meet T (p1, p2)
  have hgz := gap_zero T
  unfold lnV at KC
  obtain ⟨CE, hCE⟩ : ∃ CE : Int → Int → Int → Int, (fun x y k => checkE a b x y k) = CE := ⟨_, rfl⟩
  have hCE2 : ∀ x y k, checkE a b x y k = CE x y k := fun x y k => by rw [← hCE]
  simp only [hCE2] at KC hK hK2
  have e1 := IntWalk.i64_in p1 (by omega)
  have e2 := IntWalk.i64_in p2 (by omega)
  clear hCE hCE2 hq b1 b2
  generalize meetB a b = B at *
  generalize gapP a b = G at *
  generalize meetB a [(p1, p2)] = I1 at *
  generalize meetB b [(p1, p2)] = I2 at *
  replace MC := Lib.hid MC
  replace MC2 := Lib.hid MC2
  replace GC := Lib.hid GC
  replace GC2 := Lib.hid GC2
  replace KC := Lib.hid KC
  replace IA := Lib.hid IA
  replace IB := Lib.hid IB
  replace hK2 := Lib.hid hK2
  clear T ia ib
  by_cases hG : G = 0
  · subst hG
    have hB : B = true := by rw [hgz]; simp
    subst hB
    have hk := hK rfl X Y K
    have hk2 : (CE X Y K == 0) = false := by simpa using hk
    rw [if_pos rfl] at PC
    replace PC := Lib.hid PC
    clear hK hbo hgz hk
    go_enter Try.func7, Try.ntmps7
    have EW : Ext w ((w.alloc (.cells #[.int .i64 X, .int .i64 Y, .int .i64 K] 43)).alloc (.cells #[.int .i8 p1, .int .i8 p2] 54)) := ((Ext.refl w).alloc _).alloc _
    go_upto_region 12 with (first
      | (go_at_call 8; refine (FA.out _ (by (repeat' (first | exact Ext.refl _ | assumption | refine Ext.alloc ?_ _ | refine Ext.drew ?_ | refine Ext.drewN ?_ _ | refine Ext.set ?_ (by first | exact Nat.le_refl _ | exact le1 _ | exact le2 _ | exact le3 _ | exact le4 _ | exact le5 _ | exact le6 _) _ | refine Ext.trans ?_ (by assumption))))).mono ?_; rintro e w1 ⟨A1, c1, rfl, hp1, hb1⟩; replace hp1 := Lib.hid hp1; clear FA)
      | (go_at_call 9; refine (HA.out _ _ hp1.out).mono ?_; rintro e w2 ⟨A2, c2, rfl, hp2, hb2⟩; replace hp2 := Lib.hid hp2; clear HA)
      | (go_at_call 8; refine (FB.out _ (by (repeat' (first | exact Ext.refl _ | assumption | refine Ext.alloc ?_ _ | refine Ext.drew ?_ | refine Ext.drewN ?_ _ | refine Ext.set ?_ (by first | exact Nat.le_refl _ | exact le1 _ | exact le2 _ | exact le3 _ | exact le4 _ | exact le5 _ | exact le6 _) _ | refine Ext.trans ?_ (by assumption))))).mono ?_; rintro e w3 ⟨A3, c3, rfl, hp3, hb3⟩; replace hp3 := Lib.hid hp3; clear FB)
      | (go_at_call 9; refine (HB.out _ _ hp3.out).mono ?_; rintro e w4 ⟨A4, c4, rfl, hp4, hb4⟩; replace hp4 := Lib.hid hp4; clear HB)
      | (go_at_call 22; refine (MC.out _ _ _ (hp2.out.ext (by (repeat' (first | exact Ext.refl _ | assumption | refine Ext.alloc ?_ _ | refine Ext.drew ?_ | refine Ext.drewN ?_ _ | refine Ext.set ?_ (by first | exact Nat.le_refl _ | exact le1 _ | exact le2 _ | exact le3 _ | exact le4 _ | exact le5 _ | exact le6 _) _ | refine Ext.trans ?_ (by assumption))))) (hp4.out.ext (by (repeat' (first | exact Ext.refl _ | assumption | refine Ext.alloc ?_ _ | refine Ext.drew ?_ | refine Ext.drewN ?_ _ | refine Ext.set ?_ (by first | exact Nat.le_refl _ | exact le1 _ | exact le2 _ | exact le3 _ | exact le4 _ | exact le5 _ | exact le6 _) _ | refine Ext.trans ?_ (by assumption)))))).mono ?_; rintro e w5 ⟨rfl, hb5⟩; clear MC)
      | (go_at_call 22; refine (MC2.out _ _ _ (hp4.out.ext (by (repeat' (first | exact Ext.refl _ | assumption | refine Ext.alloc ?_ _ | refine Ext.drew ?_ | refine Ext.drewN ?_ _ | refine Ext.set ?_ (by first | exact Nat.le_refl _ | exact le1 _ | exact le2 _ | exact le3 _ | exact le4 _ | exact le5 _ | exact le6 _) _ | refine Ext.trans ?_ (by assumption))))) (hp2.out.ext (by (repeat' (first | exact Ext.refl _ | assumption | refine Ext.alloc ?_ _ | refine Ext.drew ?_ | refine Ext.drewN ?_ _ | refine Ext.set ?_ (by first | exact Nat.le_refl _ | exact le1 _ | exact le2 _ | exact le3 _ | exact le4 _ | exact le5 _ | exact le6 _) _ | refine Ext.trans ?_ (by assumption)))))).mono ?_; rintro e w6 ⟨rfl, hb6⟩; clear MC2)
      | (go_at_call 24; refine (GC.out _ _ _ (hp2.out.ext (by (repeat' (first | exact Ext.refl _ | assumption | refine Ext.alloc ?_ _ | refine Ext.drew ?_ | refine Ext.drewN ?_ _ | refine Ext.set ?_ (by first | exact Nat.le_refl _ | exact le1 _ | exact le2 _ | exact le3 _ | exact le4 _ | exact le5 _ | exact le6 _) _ | refine Ext.trans ?_ (by assumption))))) (hp4.out.ext (by (repeat' (first | exact Ext.refl _ | assumption | refine Ext.alloc ?_ _ | refine Ext.drew ?_ | refine Ext.drewN ?_ _ | refine Ext.set ?_ (by first | exact Nat.le_refl _ | exact le1 _ | exact le2 _ | exact le3 _ | exact le4 _ | exact le5 _ | exact le6 _) _ | refine Ext.trans ?_ (by assumption)))))).mono ?_; rintro e w7 ⟨rfl, hb7⟩; clear GC)
      | (go_at_call 24; refine (GC2.out _ _ _ (hp4.out.ext (by (repeat' (first | exact Ext.refl _ | assumption | refine Ext.alloc ?_ _ | refine Ext.drew ?_ | refine Ext.drewN ?_ _ | refine Ext.set ?_ (by first | exact Nat.le_refl _ | exact le1 _ | exact le2 _ | exact le3 _ | exact le4 _ | exact le5 _ | exact le6 _) _ | refine Ext.trans ?_ (by assumption))))) (hp2.out.ext (by (repeat' (first | exact Ext.refl _ | assumption | refine Ext.alloc ?_ _ | refine Ext.drew ?_ | refine Ext.drewN ?_ _ | refine Ext.set ?_ (by first | exact Nat.le_refl _ | exact le1 _ | exact le2 _ | exact le3 _ | exact le4 _ | exact le5 _ | exact le6 _) _ | refine Ext.trans ?_ (by assumption)))))).mono ?_; rintro e w8 ⟨rfl, hb8⟩; clear GC2)
      | (go_at_call 28; refine (PC.out _ _ _ (hp2.out.ext (by (repeat' (first | exact Ext.refl _ | assumption | refine Ext.alloc ?_ _ | refine Ext.drew ?_ | refine Ext.drewN ?_ _ | refine Ext.set ?_ (by first | exact Nat.le_refl _ | exact le1 _ | exact le2 _ | exact le3 _ | exact le4 _ | exact le5 _ | exact le6 _) _ | refine Ext.trans ?_ (by assumption))))) (hp4.out.ext (by (repeat' (first | exact Ext.refl _ | assumption | refine Ext.alloc ?_ _ | refine Ext.drew ?_ | refine Ext.drewN ?_ _ | refine Ext.set ?_ (by first | exact Nat.le_refl _ | exact le1 _ | exact le2 _ | exact le3 _ | exact le4 _ | exact le5 _ | exact le6 _) _ | refine Ext.trans ?_ (by assumption)))))).mono ?_; rintro e w9 ⟨X', Y', K', rfl, _, _, hb9⟩; clear PC))
    have e49 : Ext w4 w9 := by (repeat' (first | exact Ext.refl _ | assumption | refine Ext.alloc ?_ _ | refine Ext.drew ?_ | refine Ext.drewN ?_ _ | refine Ext.set ?_ (by first | exact Nat.le_refl _ | exact le1 _ | exact le2 _ | exact le3 _ | exact le4 _ | exact le5 _ | exact le6 _) _ | refine Ext.trans ?_ (by assumption)))
    have e29 : Ext w2 w9 := by (repeat' (first | exact Ext.refl _ | assumption | refine Ext.alloc ?_ _ | refine Ext.drew ?_ | refine Ext.drewN ?_ _ | refine Ext.set ?_ (by first | exact Nat.le_refl _ | exact le1 _ | exact le2 _ | exact le3 _ | exact le4 _ | exact le5 _ | exact le6 _) _ | refine Ext.trans ?_ (by assumption)))
    have E9 : Ext ((w.alloc (.cells #[.int .i64 X, .int .i64 Y, .int .i64 K] 43)).alloc (.cells #[.int .i8 p1, .int .i8 p2] 54)) w9 := by (repeat' (first | exact Ext.refl _ | assumption | refine Ext.alloc ?_ _ | refine Ext.drew ?_ | refine Ext.drewN ?_ _ | refine Ext.set ?_ (by first | exact Nat.le_refl _ | exact le1 _ | exact le2 _ | exact le3 _ | exact le4 _ | exact le5 _ | exact le6 _) _ | refine Ext.trans ?_ (by assumption)))
    have EX : Ext w9 (w9.alloc (.cells #[.int .i64 0, .int .i64 0, .int .i64 0] 43)) := (Ext.refl w9).alloc _
    have y0 := (E9.trans EX).cell (p := ⟨w.heap.size, 0, none⟩) (v := .int .i64 X) (by go_simp)
    have y1 := (E9.trans EX).cell (p := ⟨w.heap.size, 1, none⟩) (v := .int .i64 Y) (by go_simp)
    have y2 := (E9.trans EX).cell (p := ⟨w.heap.size, 2, none⟩) (v := .int .i64 K) (by go_simp)
    have z0 := (E9.trans EX).cell (p := ⟨w.heap.size + 1, 0, none⟩) (v := .int .i8 p1) (by go_simp)
    have z1 := (E9.trans EX).cell (p := ⟨w.heap.size + 1, 1, none⟩) (v := .int .i8 p2) (by go_simp)
    have hpa := Lib.hid (hp2.out.ext (e29.trans EX))
    have hpb := Lib.hid (hp4.out.ext (e49.trans EX))
    have EV := Lib.hid (EW.trans (E9.trans EX))
    clear hp1 hp2 hp3 hp4 hb1 hb2 hb3 hb4 hb5 hb6 hb7 hb8 hb9 E9 e29 e49 EX EW
    generalize (w9.alloc (.cells #[.int .i64 0, .int .i64 0, .int .i64 0] 43)) = V9 at *
    go_wp2_with (first
      | (go_at_call 26; refine (KC.out _ _ _ _ _ _ hpa.out hpb.out).mono ?_; rintro e w10 ⟨he, hb10⟩; subst he; have z0n := hb10.cell z0; have z1n := hb10.cell z1; clear KC)
      | (go_at_call 13; refine (IA.out _ _ (hpa.out.ext (by (repeat' (first | exact Ext.refl _ | assumption | refine Ext.alloc ?_ _ | refine Ext.drew ?_ | refine Ext.drewN ?_ _ | refine Ext.set ?_ (by first | exact Nat.le_refl _ | exact le1 _ | exact le2 _ | exact le3 _ | exact le4 _ | exact le5 _ | exact le6 _) _ | refine Ext.trans ?_ (by assumption)))))).mono ?_; rintro e w11 ⟨rfl, hb11⟩; have p0 := hb11.cell (p := ⟨w10.heap.size, 0, none⟩) (v := .int .i64 p1) (by go_simp); have p1n := hb11.cell (p := ⟨w10.heap.size, 1, none⟩) (v := .int .i64 p2) (by go_simp); clear IA)
      | (go_at_call 13; refine (IB.out _ _ (hpb.out.ext (by (repeat' (first | exact Ext.refl _ | assumption | refine Ext.alloc ?_ _ | refine Ext.drew ?_ | refine Ext.drewN ?_ _ | refine Ext.set ?_ (by first | exact Nat.le_refl _ | exact le1 _ | exact le2 _ | exact le3 _ | exact le4 _ | exact le5 _ | exact le6 _) _ | refine Ext.trans ?_ (by assumption)))))).mono ?_; rintro e w12 ⟨rfl, hb12⟩; clear IB)
      | (go_at_call 10; refine (works_c _).mono ?_; rintro e w13 ⟨rfl, hb13⟩))
    have EZ : Ext V9 w13 := by (repeat' (first | exact Ext.refl _ | assumption | refine Ext.alloc ?_ _ | refine Ext.drew ?_ | refine Ext.drewN ?_ _ | refine Ext.set ?_ (by first | exact Nat.le_refl _ | exact le1 _ | exact le2 _ | exact le3 _ | exact le4 _ | exact le5 _ | exact le6 _) _ | refine Ext.trans ?_ (by assumption)))
    go_ret
    exact ⟨rfl, EV.out.trans EZ⟩
  · have hB : B = false := by rw [hgz]; simpa using hG
    subst hB
    have hG2 : (G == 0) = false := by simpa using hG
    rw [if_neg (by simp)] at PC
    replace PC := Lib.hid PC
    have hI : (I1 = false ∧ True) ∨ (I1 = true ∧ I2 = false) := by
      cases I1
      · exact .inl ⟨rfl, trivial⟩
      · cases I2
        · exact .inr ⟨rfl, rfl⟩
        · exact absurd (hbo rfl rfl) (by simp)
    clear hK hbo hgz hG
    go_enter Try.func7, Try.ntmps7
    have EW : Ext w ((w.alloc (.cells #[.int .i64 X, .int .i64 Y, .int .i64 K] 43)).alloc (.cells #[.int .i8 p1, .int .i8 p2] 54)) := ((Ext.refl w).alloc _).alloc _
    go_upto_region 12 with (first
      | (go_at_call 8; refine (FA.out _ (by (repeat' (first | exact Ext.refl _ | assumption | refine Ext.alloc ?_ _ | refine Ext.drew ?_ | refine Ext.drewN ?_ _ | refine Ext.set ?_ (by first | exact Nat.le_refl _ | exact le1 _ | exact le2 _ | exact le3 _ | exact le4 _ | exact le5 _ | exact le6 _) _ | refine Ext.trans ?_ (by assumption))))).mono ?_; rintro e w1 ⟨A1, c1, rfl, hp1, hb1⟩; replace hp1 := Lib.hid hp1; clear FA)
      | (go_at_call 9; refine (HA.out _ _ hp1.out).mono ?_; rintro e w2 ⟨A2, c2, rfl, hp2, hb2⟩; replace hp2 := Lib.hid hp2; clear HA)
      | (go_at_call 8; refine (FB.out _ (by (repeat' (first | exact Ext.refl _ | assumption | refine Ext.alloc ?_ _ | refine Ext.drew ?_ | refine Ext.drewN ?_ _ | refine Ext.set ?_ (by first | exact Nat.le_refl _ | exact le1 _ | exact le2 _ | exact le3 _ | exact le4 _ | exact le5 _ | exact le6 _) _ | refine Ext.trans ?_ (by assumption))))).mono ?_; rintro e w3 ⟨A3, c3, rfl, hp3, hb3⟩; replace hp3 := Lib.hid hp3; clear FB)
      | (go_at_call 9; refine (HB.out _ _ hp3.out).mono ?_; rintro e w4 ⟨A4, c4, rfl, hp4, hb4⟩; replace hp4 := Lib.hid hp4; clear HB)
      | (go_at_call 22; refine (MC.out _ _ _ (hp2.out.ext (by (repeat' (first | exact Ext.refl _ | assumption | refine Ext.alloc ?_ _ | refine Ext.drew ?_ | refine Ext.drewN ?_ _ | refine Ext.set ?_ (by first | exact Nat.le_refl _ | exact le1 _ | exact le2 _ | exact le3 _ | exact le4 _ | exact le5 _ | exact le6 _) _ | refine Ext.trans ?_ (by assumption))))) (hp4.out.ext (by (repeat' (first | exact Ext.refl _ | assumption | refine Ext.alloc ?_ _ | refine Ext.drew ?_ | refine Ext.drewN ?_ _ | refine Ext.set ?_ (by first | exact Nat.le_refl _ | exact le1 _ | exact le2 _ | exact le3 _ | exact le4 _ | exact le5 _ | exact le6 _) _ | refine Ext.trans ?_ (by assumption)))))).mono ?_; rintro e w5 ⟨rfl, hb5⟩; clear MC)
      | (go_at_call 22; refine (MC2.out _ _ _ (hp4.out.ext (by (repeat' (first | exact Ext.refl _ | assumption | refine Ext.alloc ?_ _ | refine Ext.drew ?_ | refine Ext.drewN ?_ _ | refine Ext.set ?_ (by first | exact Nat.le_refl _ | exact le1 _ | exact le2 _ | exact le3 _ | exact le4 _ | exact le5 _ | exact le6 _) _ | refine Ext.trans ?_ (by assumption))))) (hp2.out.ext (by (repeat' (first | exact Ext.refl _ | assumption | refine Ext.alloc ?_ _ | refine Ext.drew ?_ | refine Ext.drewN ?_ _ | refine Ext.set ?_ (by first | exact Nat.le_refl _ | exact le1 _ | exact le2 _ | exact le3 _ | exact le4 _ | exact le5 _ | exact le6 _) _ | refine Ext.trans ?_ (by assumption)))))).mono ?_; rintro e w6 ⟨rfl, hb6⟩; clear MC2)
      | (go_at_call 24; refine (GC.out _ _ _ (hp2.out.ext (by (repeat' (first | exact Ext.refl _ | assumption | refine Ext.alloc ?_ _ | refine Ext.drew ?_ | refine Ext.drewN ?_ _ | refine Ext.set ?_ (by first | exact Nat.le_refl _ | exact le1 _ | exact le2 _ | exact le3 _ | exact le4 _ | exact le5 _ | exact le6 _) _ | refine Ext.trans ?_ (by assumption))))) (hp4.out.ext (by (repeat' (first | exact Ext.refl _ | assumption | refine Ext.alloc ?_ _ | refine Ext.drew ?_ | refine Ext.drewN ?_ _ | refine Ext.set ?_ (by first | exact Nat.le_refl _ | exact le1 _ | exact le2 _ | exact le3 _ | exact le4 _ | exact le5 _ | exact le6 _) _ | refine Ext.trans ?_ (by assumption)))))).mono ?_; rintro e w7 ⟨rfl, hb7⟩; clear GC)
      | (go_at_call 24; refine (GC2.out _ _ _ (hp4.out.ext (by (repeat' (first | exact Ext.refl _ | assumption | refine Ext.alloc ?_ _ | refine Ext.drew ?_ | refine Ext.drewN ?_ _ | refine Ext.set ?_ (by first | exact Nat.le_refl _ | exact le1 _ | exact le2 _ | exact le3 _ | exact le4 _ | exact le5 _ | exact le6 _) _ | refine Ext.trans ?_ (by assumption))))) (hp2.out.ext (by (repeat' (first | exact Ext.refl _ | assumption | refine Ext.alloc ?_ _ | refine Ext.drew ?_ | refine Ext.drewN ?_ _ | refine Ext.set ?_ (by first | exact Nat.le_refl _ | exact le1 _ | exact le2 _ | exact le3 _ | exact le4 _ | exact le5 _ | exact le6 _) _ | refine Ext.trans ?_ (by assumption)))))).mono ?_; rintro e w8 ⟨rfl, hb8⟩; clear GC2)
      | (go_at_call 28; refine (PC.out _ _ _ (hp2.out.ext (by (repeat' (first | exact Ext.refl _ | assumption | refine Ext.alloc ?_ _ | refine Ext.drew ?_ | refine Ext.drewN ?_ _ | refine Ext.set ?_ (by first | exact Nat.le_refl _ | exact le1 _ | exact le2 _ | exact le3 _ | exact le4 _ | exact le5 _ | exact le6 _) _ | refine Ext.trans ?_ (by assumption))))) (hp4.out.ext (by (repeat' (first | exact Ext.refl _ | assumption | refine Ext.alloc ?_ _ | refine Ext.drew ?_ | refine Ext.drewN ?_ _ | refine Ext.set ?_ (by first | exact Nat.le_refl _ | exact le1 _ | exact le2 _ | exact le3 _ | exact le4 _ | exact le5 _ | exact le6 _) _ | refine Ext.trans ?_ (by assumption)))))).mono ?_; rintro e w9 ⟨X', Y', K', rfl, _, hz9, hb9⟩; replace hz9 := Lib.hid hz9; clear PC))
    have e49 : Ext w4 w9 := by (repeat' (first | exact Ext.refl _ | assumption | refine Ext.alloc ?_ _ | refine Ext.drew ?_ | refine Ext.drewN ?_ _ | refine Ext.set ?_ (by first | exact Nat.le_refl _ | exact le1 _ | exact le2 _ | exact le3 _ | exact le4 _ | exact le5 _ | exact le6 _) _ | refine Ext.trans ?_ (by assumption)))
    have e29 : Ext w2 w9 := by (repeat' (first | exact Ext.refl _ | assumption | refine Ext.alloc ?_ _ | refine Ext.drew ?_ | refine Ext.drewN ?_ _ | refine Ext.set ?_ (by first | exact Nat.le_refl _ | exact le1 _ | exact le2 _ | exact le3 _ | exact le4 _ | exact le5 _ | exact le6 _) _ | refine Ext.trans ?_ (by assumption)))
    have E9 : Ext ((w.alloc (.cells #[.int .i64 X, .int .i64 Y, .int .i64 K] 43)).alloc (.cells #[.int .i8 p1, .int .i8 p2] 54)) w9 := by (repeat' (first | exact Ext.refl _ | assumption | refine Ext.alloc ?_ _ | refine Ext.drew ?_ | refine Ext.drewN ?_ _ | refine Ext.set ?_ (by first | exact Nat.le_refl _ | exact le1 _ | exact le2 _ | exact le3 _ | exact le4 _ | exact le5 _ | exact le6 _) _ | refine Ext.trans ?_ (by assumption)))
    have EX : Ext w9 (w9.alloc (.cells #[.int .i64 X', .int .i64 Y', .int .i64 K'] 43)) := (Ext.refl w9).alloc _
    have y0 := (E9.trans EX).cell (p := ⟨w.heap.size, 0, none⟩) (v := .int .i64 X) (by go_simp)
    have y1 := (E9.trans EX).cell (p := ⟨w.heap.size, 1, none⟩) (v := .int .i64 Y) (by go_simp)
    have y2 := (E9.trans EX).cell (p := ⟨w.heap.size, 2, none⟩) (v := .int .i64 K) (by go_simp)
    have z0 := (E9.trans EX).cell (p := ⟨w.heap.size + 1, 0, none⟩) (v := .int .i8 p1) (by go_simp)
    have z1 := (E9.trans EX).cell (p := ⟨w.heap.size + 1, 1, none⟩) (v := .int .i8 p2) (by go_simp)
    have hl0 : (w9.alloc (.cells #[.int .i64 X', .int .i64 Y', .int .i64 K'] 43)).cell? ⟨w9.heap.size, 0, none⟩ = some (.int .i64 X') := World.news_of_block (World.alloc_heap_new w9 _) 0 _ rfl
    have hl1 : (w9.alloc (.cells #[.int .i64 X', .int .i64 Y', .int .i64 K'] 43)).cell? ⟨w9.heap.size, 1, none⟩ = some (.int .i64 Y') := World.news_of_block (World.alloc_heap_new w9 _) 1 _ rfl
    have hl2 : (w9.alloc (.cells #[.int .i64 X', .int .i64 Y', .int .i64 K'] 43)).cell? ⟨w9.heap.size, 2, none⟩ = some (.int .i64 K') := World.news_of_block (World.alloc_heap_new w9 _) 2 _ rfl
    obtain ⟨hz3, hz4, hz5⟩ := hz9.out trivial
    have hck : CE X' Y' K' = 0 := by rw [hz5]; exact hK2.out _ _ hz3 hz4
    replace hck := Lib.hid hck
    clear hz3 hz4 hz5 hz9 hK2
    have hpa := Lib.hid (hp2.out.ext (e29.trans EX))
    have hpb := Lib.hid (hp4.out.ext (e49.trans EX))
    have EV := Lib.hid (EW.trans (E9.trans EX))
    clear hp1 hp2 hp3 hp4 hb1 hb2 hb3 hb4 hb5 hb6 hb7 hb8 hb9 E9 e29 e49 EX EW
    generalize (w9.alloc (.cells #[.int .i64 X', .int .i64 Y', .int .i64 K'] 43)) = V9 at *
    rcases hI with ⟨rfl, hIx⟩ | ⟨rfl, rfl⟩
    all_goals
      go_wp2_with (first
        | (go_at_call 26; refine (KC.out _ _ _ _ _ _ hpa.out hpb.out).mono ?_; rintro e w10 ⟨he, hb10⟩; rw [hck.out] at he; subst he; have z0n := hb10.cell z0; have z1n := hb10.cell z1; clear KC)
        | (go_at_call 13; refine (IA.out _ _ (hpa.out.ext (by (repeat' (first | exact Ext.refl _ | assumption | refine Ext.alloc ?_ _ | refine Ext.drew ?_ | refine Ext.drewN ?_ _ | refine Ext.set ?_ (by first | exact Nat.le_refl _ | exact le1 _ | exact le2 _ | exact le3 _ | exact le4 _ | exact le5 _ | exact le6 _) _ | refine Ext.trans ?_ (by assumption)))))).mono ?_; rintro e w11 ⟨rfl, hb11⟩; have p0 := hb11.cell (p := ⟨w10.heap.size, 0, none⟩) (v := .int .i64 p1) (by go_simp); have p1n := hb11.cell (p := ⟨w10.heap.size, 1, none⟩) (v := .int .i64 p2) (by go_simp); clear IA)
        | (go_at_call 13; refine (IB.out _ _ (hpb.out.ext (by (repeat' (first | exact Ext.refl _ | assumption | refine Ext.alloc ?_ _ | refine Ext.drew ?_ | refine Ext.drewN ?_ _ | refine Ext.set ?_ (by first | exact Nat.le_refl _ | exact le1 _ | exact le2 _ | exact le3 _ | exact le4 _ | exact le5 _ | exact le6 _) _ | refine Ext.trans ?_ (by assumption)))))).mono ?_; rintro e w12 ⟨rfl, hb12⟩; clear IB)
        | (go_at_call 10; refine (works_c _).mono ?_; rintro e w13 ⟨rfl, hb13⟩))
      have EZ : Ext V9 w13 := by (repeat' (first | exact Ext.refl _ | assumption | refine Ext.alloc ?_ _ | refine Ext.drew ?_ | refine Ext.drewN ?_ _ | refine Ext.set ?_ (by first | exact Nat.le_refl _ | exact le1 _ | exact le2 _ | exact le3 _ | exact le4 _ | exact le5 _ | exact le6 _) _ | refine Ext.trans ?_ (by assumption)))
      go_ret
      exact ⟨rfl, EV.out.trans EZ⟩
theorem parts_law (va : Value) (l : List HPt) (vb : Value) (m : List HPt) (X Y K p1 p2 : Int) (w : World) (ha : Pairs .i8 w va l) (wa : ∀ q ∈ l, (Lit.int .i8 q.1).wf = true ∧ (Lit.int .i8 q.2).wf = true) (hb : Pairs .i8 w vb m) (wb : ∀ q ∈ m, (Lit.int .i8 q.1).wf = true ∧ (Lit.int .i8 q.2).wf = true)
    (_ : (Lit.int .i64 X).wf = true) (_ : (Lit.int .i64 Y).wf = true) (_ : (Lit.int .i64 K).wf = true) (w1 : (Lit.int .i8 p1).wf = true) (w2 : (Lit.int .i8 p2).wf = true) :
    Calls Try.prog 7 #[va, vb, .agg #[.int .i64 X, .int .i64 Y, .int .i64 K], .agg #[.int .i8 p1, .int .i8 p2]] w fun e w' => e = .returned (.bool true) ∧ Ext w w' := by
  by_cases h1 : l = []
  · exact parts_none va vb l m X Y K p1 p2 w ha wa hb wb (.inl h1)
  · by_cases h2 : m = []
    · exact parts_none va vb l m X Y K p1 p2 w ha wa hb wb (.inr ⟨h1, h2⟩)
    · exact parts_full va vb l m X Y K p1 p2 w ha wa hb wb (bounds_i8 w1) (bounds_i8 w2) h1 h2
end Go.Proofs.Ytlndcpjaeoppmaa
