
/- The law PlaneMeets, walked. -/
import Derived.Test.YtlndcpjaeoppmaaHTops2
import Derived.Test.YtlndcpjaeoppmaaHWorks
import Derived.Test.YtlndcpjaeoppmaaOpenPts
namespace Go.Proofs.Ytlndcpjaeoppmaa
open Go.RowKit Go.Shelf

theorem diff_ok {p q : HPt} (hp : okPt p = true) (hq : okPt q = true) : (-33554432 ≤ q.1 - p.1 ∧ q.1 - p.1 ≤ 33554432) ∧ (-33554432 ≤ q.2 - p.2 ∧ q.2 - p.2 ≤ 33554432) := by
  obtain ⟨p1, p2⟩ := p
  obtain ⟨q1, q2⟩ := q
  rw [okPt_iff] at hp hq
  simp only
  omega
theorem rdirs_ok {h : List HPt} (hw : ∀ p ∈ h, okPt p = true) : ∀ d ∈ rdirs h, (-33554432 ≤ d.1 ∧ d.1 ≤ 33554432) ∧ (-33554432 ≤ d.2 ∧ d.2 ≤ 33554432) := by
  intro d hd
  unfold rdirs at hd
  obtain ⟨i, hi, hd⟩ := List.mem_flatMap.1 hd
  have hi' := List.mem_range.1 hi
  have h1 := diff_ok (hw _ (get_mem hi')) (hw _ (nxt_mem (by omega) i))
  have h2 : sdP h i = ((nxtP h i).1 - (h.getD i (0, 0)).1, (nxtP h i).2 - (h.getD i (0, 0)).2) := rfl
  obtain ⟨X, hX⟩ : ∃ X, (nxtP h i).1 - (h.getD i (0, 0)).1 = X := ⟨_, rfl⟩
  obtain ⟨Y, hY⟩ : ∃ Y, (nxtP h i).2 - (h.getD i (0, 0)).2 = Y := ⟨_, rfl⟩
  rw [hX, hY] at h1 h2
  rw [h2] at hd
  simp only [rdP, List.mem_cons, List.not_mem_nil, or_false] at hd
  rcases hd with rfl | rfl | rfl | rfl <;> simp only <;> omega
theorem adirs_ok {a b : List HPt} (ha0 : 0 < a.length) (hb0 : 0 < b.length) (hwa : ∀ p ∈ a, okPt p = true) (hwb : ∀ p ∈ b, okPt p = true) : ∀ d ∈ adirs a b, (-33554432 ≤ d.1 ∧ d.1 ≤ 33554432) ∧ (-33554432 ≤ d.2 ∧ d.2 ≤ 33554432) := by
  intro d hd
  unfold adirs at hd
  rcases List.mem_append.1 hd with hd | hd
  · rcases List.mem_append.1 hd with hd | hd
    · have : d = fdP a b := by simpa using hd
      subst this
      exact diff_ok (hwa _ (get_mem ha0)) (hwb _ (get_mem hb0))
    · exact rdirs_ok hwa d hd
  · exact rdirs_ok hwb d hd
theorem dot_ok {d p : HPt} (hd : (-33554432 ≤ d.1 ∧ d.1 ≤ 33554432) ∧ (-33554432 ≤ d.2 ∧ d.2 ≤ 33554432)) (hp : okPt p = true) : -4503599627370496 ≤ dotP d p ∧ dotP d p ≤ 4503599627370496 := by
  obtain ⟨d1, d2⟩ := d
  obtain ⟨p1, p2⟩ := p
  rw [okPt_iff] at hp
  simp only at hd
  obtain ⟨m1, m2⟩ := Pl.mul_bd (a := d1) (b := p1) (A := 33554432) (B := 16777216) (by omega) (by omega) (by omega) (by omega)
  obtain ⟨m3, m4⟩ := Pl.mul_bd (a := d2) (b := p2) (A := 33554432) (B := 16777216) (by omega) (by omega) (by omega) (by omega)
  show -4503599627370496 ≤ d1 * p1 + d2 * p2 ∧ d1 * p1 + d2 * p2 ≤ 4503599627370496
  omega
theorem check_part {a b : List HPt} {x y : Int} (he : errHs [a, b] = 0) (hd : (x, y) ∈ adirs a b) (hs : sepB a b (x, y) = true) : checkE a b x y (hiP (x, y) a) = 0 := by
  obtain ⟨h1, h2⟩ := errHs_ok he
  obtain ⟨ha0, hal, hoa, hwa, _⟩ := isHull_facts h1
  obtain ⟨hb0, hbl, hob, hwb, _⟩ := isHull_facts h2
  have hdd := adirs_ok ha0 hb0 hoa hob _ hd
  have hm := get_mem ha0
  have k1 := hi_ge (d := (x, y)) hm
  have k2 := (dot_ok hdd (hoa _ hm)).1
  have k3 : hiP (x, y) a ≤ 4503599627370496 := (hi_le (List.ne_nil_of_length_pos ha0) _).2 (fun p hp => (dot_ok hdd (hoa p hp)).2)
  simp only at hdd
  unfold checkE
  rw [if_pos he, if_pos, if_pos]
  · rw [parts_sep (List.ne_nil_of_length_pos hb0)]; exact hs
  · unfold lineB inB
    simp only [Bool.and_eq_true, decide_eq_true_eq]
    omega
theorem partE_ok {a b : List HPt} (h : partE a b = 0) : errHs [a, b] = 0 := by
  unfold partE at h
  by_cases he : errHs [a, b] = 0
  · exact he
  · rw [if_neg he] at h; exact h
set_option maxRecDepth 100000 in
set_option maxHeartbeats 3200000 in
theorem meets_big (va vb : Value) (a b : List HPt) (x y k : Int) (w : World) (ha : Pts w va a) (hb : Pts w vb b) (hbig : (20 < a.length ∧ a.length ≤ 256) ∨ (20 < b.length ∧ b.length ≤ 256) ∨ 400 < a.length ∨ 400 < b.length) :
    Calls Try.prog 5 #[va, vb, .agg #[.int .i64 x, .int .i64 y, .int .i64 k]] w fun e w' => e = .returned (.bool true) ∧ Ext w w' := by
  obtain ⟨A, ca, rfl, _⟩ := ha.shapeH
  obtain ⟨B, cb, rfl, _⟩ := hb.shapeH
  clear ha hb
  generalize a.length = n at *
  generalize b.length = m at *
  rcases (show (20 < n ∧ n ≤ 256) ∨ (¬ 20 < n ∧ 20 < m ∧ m ≤ 256) ∨ (20 < n ∧ ¬ n ≤ 256 ∧ 20 < m ∧ m ≤ 256) ∨ (20 < n ∧ ¬ n ≤ 256 ∧ ¬ 20 < m ∧ 400 < n) ∨ (20 < n ∧ ¬ n ≤ 256 ∧ 20 < m ∧ ¬ m ≤ 256 ∧ 400 < n) ∨ (¬ 20 < n ∧ ¬ 400 < n ∧ 20 < m ∧ ¬ m ≤ 256 ∧ 400 < m) ∨ (20 < n ∧ ¬ n ≤ 256 ∧ ¬ 400 < n ∧ 20 < m ∧ ¬ m ≤ 256 ∧ 400 < m) by omega) with
    ⟨c1, c2⟩ | ⟨c1, c2, c3⟩ | ⟨c1, c2, c3, c4⟩ | ⟨c1, c2, c3, c4⟩ | ⟨c1, c2, c3, c4, c5⟩ | ⟨c1, c2, c3, c4, c5⟩ | ⟨c1, c2, c3, c4, c5, c6⟩
  all_goals
    clear hbig
    go_enter Try.func5, Try.ntmps5
    go_wp2_with (go_at_call 10; refine (works_c _).mono ?_; rintro e w5 ⟨rfl, hb5⟩)
    go_ret
    exact ⟨rfl, by (repeat' (first | exact Ext.refl _ | assumption | refine Ext.alloc ?_ _ | refine Ext.drew ?_ | refine Ext.drewN ?_ _ | refine Ext.set ?_ (by first | exact Nat.le_refl _ | exact le1 _ | exact le2 _ | exact le3 _ | exact le4 _ | exact le5 _ | exact le6 _) _ | refine Ext.trans ?_ (by assumption)))⟩
set_option maxRecDepth 100000 in
set_option maxHeartbeats 3200000 in
theorem meets_small (va vb : Value) (a b : List HPt) (x y k : Int) (w : World) (ha : Pts w va a) (hb : Pts w vb b) (hbig : ¬ ((20 < a.length ∧ a.length ≤ 256) ∨ (20 < b.length ∧ b.length ≤ 256) ∨ 400 < a.length ∨ 400 < b.length)) :
    Calls Try.prog 5 #[va, vb, .agg #[.int .i64 x, .int .i64 y, .int .i64 k]] w fun e w' => e = .returned (.bool true) ∧ Ext w w' := by
  have P1 := fun W (h : Ext w W) => Meet_c va vb a b W (ha.ext h) (hb.ext h)
  have P2 := fun W (h : Ext w W) => RMeet_c va vb a b W (ha.ext h) (hb.ext h)
  have P3 := fun W (h : Ext w W) => Gap_c va vb a b W (ha.ext h) (hb.ext h)
  have P4 := fun W (h : Ext w W) => RGap_c va vb a b W (ha.ext h) (hb.ext h)
  have P5 := fun x y k W (h : Ext w W) => CheckPart_c va vb a b x y k W (ha.ext h) (hb.ext h)
  have P6 := fun x y k W (h : Ext w W) => RCheckPart_c va vb a b x y k W (ha.ext h) (hb.ext h)
  have P7 := fun W (h : Ext w W) => Part_c va vb a b W (ha.ext h) (hb.ext h)
  have P8 := fun W (h : Ext w W) => RPart_c va vb a b W (ha.ext h) (hb.ext h)
  have HCP := Lib.hid (fun (h : partE a b = 0) x y hd hs => check_part (a := a) (b := b) (x := x) (y := y) (partE_ok h) hd hs)
  obtain ⟨A, ca, rfl, _⟩ := ha.shapeH
  obtain ⟨B, cb, rfl, _⟩ := hb.shapeH
  clear ha hb
  unfold lnV at P5 P6
  generalize meetE a b = M at *
  obtain ⟨M1, M2⟩ := M
  generalize gapE a b = G at *
  obtain ⟨G1, G2⟩ := G
  simp only at P1 P2 P3 P4
  obtain ⟨CE, hCE⟩ : ∃ CE : Int → Int → Int → Int, (fun x y k => checkE a b x y k) = CE := ⟨_, rfl⟩
  have hCE2 : ∀ x y k, checkE a b x y k = CE x y k := fun x y k => by rw [← hCE]
  simp only [hCE2] at P5 P6 HCP
  clear hCE hCE2
  generalize partE a b = PE at *
  replace P1 := Lib.hid P1
  replace P2 := Lib.hid P2
  replace P3 := Lib.hid P3
  replace P4 := Lib.hid P4
  replace P5 := Lib.hid P5
  replace P6 := Lib.hid P6
  replace P7 := Lib.hid P7
  replace P8 := Lib.hid P8
  generalize a.length = n at *
  generalize b.length = m at *
  rcases (show (¬ 20 < n ∧ ¬ 400 < n ∧ ¬ 20 < m ∧ ¬ 400 < m) ∨ (¬ 20 < n ∧ ¬ 400 < n ∧ 20 < m ∧ ¬ m ≤ 256 ∧ ¬ 400 < m) ∨ (20 < n ∧ ¬ n ≤ 256 ∧ ¬ 400 < n ∧ ¬ 20 < m ∧ ¬ 400 < m) ∨ (20 < n ∧ ¬ n ≤ 256 ∧ ¬ 400 < n ∧ 20 < m ∧ ¬ m ≤ 256 ∧ ¬ 400 < m) by omega) with
    ⟨c1, c2, c3, c4⟩ | ⟨c1, c2, c3, c4, c5⟩ | ⟨c1, c2, c3, c4, c5⟩ | ⟨c1, c2, c3, c4, c5, c6⟩
  all_goals
    clear hbig
    go_enter Try.func5, Try.ntmps5
    go_upto_region 7 with (first
      | (go_at_call 22; refine (P1.out _ (by (repeat' (first | exact Ext.refl _ | assumption | refine Ext.alloc ?_ _ | refine Ext.drew ?_ | refine Ext.drewN ?_ _ | refine Ext.set ?_ (by first | exact Nat.le_refl _ | exact le1 _ | exact le2 _ | exact le3 _ | exact le4 _ | exact le5 _ | exact le6 _) _ | refine Ext.trans ?_ (by assumption))))).mono ?_; rintro e w1 ⟨rfl, hb1⟩; have y0 := Ext.cell hb1 (p := ⟨w.heap.size, 0, none⟩) (v := .int .i64 x) (by go_simp); have y1 := Ext.cell hb1 (p := ⟨w.heap.size, 1, none⟩) (v := .int .i64 y) (by go_simp); have y2 := Ext.cell hb1 (p := ⟨w.heap.size, 2, none⟩) (v := .int .i64 k) (by go_simp))
      | (go_at_call 23; refine (P2.out _ (by (repeat' (first | exact Ext.refl _ | assumption | refine Ext.alloc ?_ _ | refine Ext.drew ?_ | refine Ext.drewN ?_ _ | refine Ext.set ?_ (by first | exact Nat.le_refl _ | exact le1 _ | exact le2 _ | exact le3 _ | exact le4 _ | exact le5 _ | exact le6 _) _ | refine Ext.trans ?_ (by assumption))))).mono ?_; rintro e w2 ⟨rfl, hb2⟩; replace y0 := Ext.cell hb2 y0; replace y1 := Ext.cell hb2 y1; replace y2 := Ext.cell hb2 y2)
      | (go_at_call 24; refine (P3.out _ (by (repeat' (first | exact Ext.refl _ | assumption | refine Ext.alloc ?_ _ | refine Ext.drew ?_ | refine Ext.drewN ?_ _ | refine Ext.set ?_ (by first | exact Nat.le_refl _ | exact le1 _ | exact le2 _ | exact le3 _ | exact le4 _ | exact le5 _ | exact le6 _) _ | refine Ext.trans ?_ (by assumption))))).mono ?_; rintro e w3 ⟨rfl, hb3⟩; replace y0 := Ext.cell hb3 y0; replace y1 := Ext.cell hb3 y1; replace y2 := Ext.cell hb3 y2)
      | (go_at_call 25; refine (P4.out _ (by (repeat' (first | exact Ext.refl _ | assumption | refine Ext.alloc ?_ _ | refine Ext.drew ?_ | refine Ext.drewN ?_ _ | refine Ext.set ?_ (by first | exact Nat.le_refl _ | exact le1 _ | exact le2 _ | exact le3 _ | exact le4 _ | exact le5 _ | exact le6 _) _ | refine Ext.trans ?_ (by assumption))))).mono ?_; rintro e w4 ⟨rfl, hb4⟩; replace y0 := Ext.cell hb4 y0; replace y1 := Ext.cell hb4 y1; replace y2 := Ext.cell hb4 y2))
    have EW4 : Ext w w4 := by (repeat' (first | exact Ext.refl _ | assumption | refine Ext.alloc ?_ _ | refine Ext.drew ?_ | refine Ext.drewN ?_ _ | refine Ext.set ?_ (by first | exact Nat.le_refl _ | exact le1 _ | exact le2 _ | exact le3 _ | exact le4 _ | exact le5 _ | exact le6 _) _ | refine Ext.trans ?_ (by assumption)))
    (refine wp_region_ext (C := fun w' => Ext w4 w') (by kernel_rfl) (by kernel_rfl) (by (repeat' (first | exact Ext.refl _ | assumption | refine Ext.alloc ?_ _ | refine Ext.drew ?_ | refine Ext.drewN ?_ _ | refine Ext.set ?_ (by first | exact Nat.le_refl _ | exact le1 _ | exact le2 _ | exact le3 _ | exact le4 _ | exact le5 _ | exact le6 _) _ | refine Ext.trans ?_ (by assumption)))) ?_; (repeat (with_reducible refine wpQuiet_step (fun K hK => ?_); go_simp; first | (refine hK _ ?_; clear hK K) | (apply Exists.intro; refine ⟨fun w' hC => ?_, hK _ ?_⟩; (focus first | with_reducible rfl | (have q0 := hC.cell y0; have q1 := hC.cell y1; have q2 := hC.cell y2; go_simp; done) | (have q0 := hC.cell y0; have q1 := hC.cell y1; have q2 := hC.cell y2; go_simp; exact ⟨rfl, rfl⟩) | (have q0 := hC.cell y0; have q1 := hC.cell y1; have q2 := hC.cell y2; go_simp; with_reducible rfl) | (exact (P5.out x y k _ (EW4.trans hC)).mono fun e w'' ⟨he, hw''⟩ => ⟨he, hC.trans hw''⟩) | (exact (P6.out x y k _ (EW4.trans hC)).mono fun e w'' ⟨he, hw''⟩ => ⟨he, hC.trans hw''⟩)); clear hK K))); refine wpQuiet_nil ?_; intro wq hEq)
    have E5 := EW4.trans hEq
    clear hb1 hb2 hb3 hb4 EW4 hEq y0 y1 y2 P1 P2 P3 P4
    by_cases hpe : PE = 0
    · subst hpe
      go_wp2_with fail
      refine (P7.out _ (by (repeat' (first | exact Ext.refl _ | assumption | refine Ext.alloc ?_ _ | refine Ext.drew ?_ | refine Ext.drewN ?_ _ | refine Ext.set ?_ (by first | exact Nat.le_refl _ | exact le1 _ | exact le2 _ | exact le3 _ | exact le4 _ | exact le5 _ | exact le6 _) _ | refine Ext.trans ?_ (by assumption))))).mono ?_
      rintro e w7 ⟨X, Y, K, rfl, _, hz2, hb7⟩
      obtain ⟨hz3, hz4, hz5⟩ := hz2 (by trivial)
      have hck : CE X Y K = 0 := by rw [hz5]; exact HCP.out (by trivial) X Y hz3 hz4
      replace hck := Lib.hid hck
      clear hz2 hz3 hz4 hz5
      replace P5 := Lib.hid (P5.out X Y K)
      replace P6 := Lib.hid (P6.out X Y K)
      go_wp2_with fail
      refine (P8.out _ (by (repeat' (first | exact Ext.refl _ | assumption | refine Ext.alloc ?_ _ | refine Ext.drew ?_ | refine Ext.drewN ?_ _ | refine Ext.set ?_ (by first | exact Nat.le_refl _ | exact le1 _ | exact le2 _ | exact le3 _ | exact le4 _ | exact le5 _ | exact le6 _) _ | refine Ext.trans ?_ (by assumption))))).mono ?_
      rintro e w8 ⟨rfl, hb8⟩
      have k0 := Ext.cell hb8 (p := ⟨w7.heap.size, 0, none⟩) (v := .int .i64 X) (by go_simp)
      have k1 := Ext.cell hb8 (p := ⟨w7.heap.size, 1, none⟩) (v := .int .i64 Y) (by go_simp)
      have k2 := Ext.cell hb8 (p := ⟨w7.heap.size, 2, none⟩) (v := .int .i64 K) (by go_simp)
      go_wp2_with (first
        | (go_at_call 27; refine (P6.out _ (by (repeat' (first | exact Ext.refl _ | assumption | refine Ext.alloc ?_ _ | refine Ext.drew ?_ | refine Ext.drewN ?_ _ | refine Ext.set ?_ (by first | exact Nat.le_refl _ | exact le1 _ | exact le2 _ | exact le3 _ | exact le4 _ | exact le5 _ | exact le6 _) _ | refine Ext.trans ?_ (by assumption))))).mono ?_; rintro e w9 ⟨he, hb9⟩; rw [hck.out] at he; subst he; replace k0 := Ext.cell hb9 k0; replace k1 := Ext.cell hb9 k1; replace k2 := Ext.cell hb9 k2)
        | (go_at_call 26; refine (P5.out _ (by (repeat' (first | exact Ext.refl _ | assumption | refine Ext.alloc ?_ _ | refine Ext.drew ?_ | refine Ext.drewN ?_ _ | refine Ext.set ?_ (by first | exact Nat.le_refl _ | exact le1 _ | exact le2 _ | exact le3 _ | exact le4 _ | exact le5 _ | exact le6 _) _ | refine Ext.trans ?_ (by assumption))))).mono ?_; rintro e w10 ⟨he, hb10⟩; rw [hck.out] at he; subst he)
        | (go_at_call 10; refine (works_c _).mono ?_; rintro e w11 ⟨rfl, hb11⟩))
      go_ret
      exact ⟨rfl, by (repeat' (first | exact Ext.refl _ | assumption | refine Ext.alloc ?_ _ | refine Ext.drew ?_ | refine Ext.drewN ?_ _ | refine Ext.set ?_ (by first | exact Nat.le_refl _ | exact le1 _ | exact le2 _ | exact le3 _ | exact le4 _ | exact le5 _ | exact le6 _) _ | refine Ext.trans ?_ (by assumption)))⟩
    · have hp2 : (PE != 0) = true := by simpa using hpe
      have hp3 : (PE == 0) = false := by simpa using hpe
      have HPE := Lib.hid hpe
      clear hpe
      go_wp2_with fail
      refine (P7.out _ (by (repeat' (first | exact Ext.refl _ | assumption | refine Ext.alloc ?_ _ | refine Ext.drew ?_ | refine Ext.drewN ?_ _ | refine Ext.set ?_ (by first | exact Nat.le_refl _ | exact le1 _ | exact le2 _ | exact le3 _ | exact le4 _ | exact le5 _ | exact le6 _) _ | refine Ext.trans ?_ (by assumption))))).mono ?_
      rintro e w7 ⟨X, Y, K, rfl, hz1, _, hb7⟩
      obtain ⟨rfl, rfl, rfl⟩ := hz1 HPE.out
      clear hz1
      go_wp2_with fail
      refine (P8.out _ (by (repeat' (first | exact Ext.refl _ | assumption | refine Ext.alloc ?_ _ | refine Ext.drew ?_ | refine Ext.drewN ?_ _ | refine Ext.set ?_ (by first | exact Nat.le_refl _ | exact le1 _ | exact le2 _ | exact le3 _ | exact le4 _ | exact le5 _ | exact le6 _) _ | refine Ext.trans ?_ (by assumption))))).mono ?_
      rintro e w8 ⟨rfl, hb8⟩
      have k0 := Ext.cell hb8 (p := ⟨w7.heap.size, 0, none⟩) (v := .int .i64 0) (by go_simp)
      have k1 := Ext.cell hb8 (p := ⟨w7.heap.size, 1, none⟩) (v := .int .i64 0) (by go_simp)
      have k2 := Ext.cell hb8 (p := ⟨w7.heap.size, 2, none⟩) (v := .int .i64 0) (by go_simp)
      go_wp2_with (go_at_call 10; refine (works_c _).mono ?_; rintro e w11 ⟨rfl, hb11⟩)
      go_ret
      exact ⟨rfl, by (repeat' (first | exact Ext.refl _ | assumption | refine Ext.alloc ?_ _ | refine Ext.drew ?_ | refine Ext.drewN ?_ _ | refine Ext.set ?_ (by first | exact Nat.le_refl _ | exact le1 _ | exact le2 _ | exact le3 _ | exact le4 _ | exact le5 _ | exact le6 _) _ | refine Ext.trans ?_ (by assumption)))⟩
theorem meets_law (va vb : Value) (a b : List HPt) (x y k : Int) (w : World) (ha : Pts w va a) (hb : Pts w vb b) :
    Calls Try.prog 5 #[va, vb, .agg #[.int .i64 x, .int .i64 y, .int .i64 k]] w fun e w' => e = .returned (.bool true) ∧ Ext w w' := by
  by_cases h : (20 < a.length ∧ a.length ≤ 256) ∨ (20 < b.length ∧ b.length ≤ 256) ∨ 400 < a.length ∨ 400 < b.length
  · exact meets_big va vb a b x y k w ha hb h
  · exact meets_small va vb a b x y k w ha hb h
theorem meets_law2 (va : Value) (a : List HPt) (vb : Value) (b : List HPt) (x y k : Int) (w : World) (ha : Pts w va a) (hb : Pts w vb b) :
    Calls Try.prog 5 #[va, vb, .agg #[.int .i64 x, .int .i64 y, .int .i64 k]] w fun e w' => e = .returned (.bool true) ∧ Ext w w' := meets_law va vb a b x y k w ha hb
end Go.Proofs.Ytlndcpjaeoppmaa
