
/- Contract: plane.CheckPart. -/
import Derived.Test.YtlndcpjaeoppmaaHTops
namespace Go.Proofs.Ytlndcpjaeoppmaa
open Go.RowKit Go.Shelf

theorem Lists.two {w : World} {b : Nat} {t : TypeId} {va vb : Value} {l m : List HPt} (h : w.heap[b]? = some (.cells #[va, vb] t (0, 0))) (ha : Pts w va l) (hb : Pts w vb m) : Lists w b [va, vb] [l, m] := by
  refine ⟨rfl, fun i v hi => ?_, fun i v q hi hq => ?_⟩
  · have := World.news_of_block h i v (by simpa using hi)
    rwa [add_noneH, Nat.zero_add] at this
  · rcases i with _ | _ | i
    · simp at hi hq; subst hi hq; exact ha
    · simp at hi hq; subst hi hq; exact hb
    · simp at hi
theorem Lists.one {w : World} {b : Nat} {t : TypeId} {va : Value} {l : List HPt} (h : w.heap[b]? = some (.cells #[va] t (0, 0))) (ha : Pts w va l) : Lists w b [va] [l] := by
  refine ⟨rfl, fun i v hi => ?_, fun i v q hi hq => ?_⟩
  · have := World.news_of_block h i v (by simpa using hi)
    rwa [add_noneH, Nat.zero_add] at this
  · rcases i with _ | i
    · simp at hi hq; subst hi hq; exact ha
    · simp at hi
theorem fold_max_le (d : HPt) (K : Int) : ∀ (l : List HPt) (m : Int), l.foldl (fun m q => max m (dotP d q)) m ≤ K ↔ m ≤ K ∧ ∀ p ∈ l, dotP d p ≤ K
  | [], m => by simp
  | a :: l, m => by
    rw [List.foldl_cons, fold_max_le d K l (max m (dotP d a))]
    constructor
    · rintro ⟨h1, h2⟩
      exact ⟨by omega, fun p hp => by
        rcases List.mem_cons.1 hp with rfl | hp
        · omega
        · exact h2 p hp⟩
    · rintro ⟨h1, h2⟩
      have := h2 a (by simp)
      exact ⟨by omega, fun p hp => h2 p (List.mem_cons_of_mem _ hp)⟩
theorem hi_le {d : HPt} {l : List HPt} (h0 : l ≠ []) (K : Int) : hiP d l ≤ K ↔ ∀ p ∈ l, dotP d p ≤ K := by
  rcases l with _ | ⟨a, l⟩
  · exact absurd rfl h0
  · show l.foldl _ _ ≤ K ↔ _
    rw [fold_max_le]
    simp
theorem parts_span {a b : List HPt} (ha : a ≠ []) (hb : b ≠ []) (d : HPt) (K : Int) : partsB a b d K = (decide (hiP d a ≤ K) && decide (K < loP d b)) := by
  unfold partsB
  rw [Bool.eq_iff_iff]
  simp only [Bool.and_eq_true, List.all_eq_true, decide_eq_true_eq]
  rw [hi_le ha, lo_lt hb]
set_option maxRecDepth 100000 in
set_option maxHeartbeats 3200000 in
theorem CheckPart_c (va vb : Value) (a b : List HPt) (x y k : Int) (w : World) (ha : Pts w va a) (hb : Pts w vb b) :
    Calls Try.prog 26 #[va, vb, lnV x y k] w fun e w' => e = .returned (.int .i64 (checkE a b x y k)) ∧ Ext w w' := by
  have HC := Lib.hid (fun W (h : Ext w W) (bb : Nat) (t : TypeId) (hblk : W.heap[bb]? = some (.cells #[va, vb] t (0, 0))) => checkHulls_c bb 2 [va, vb] [a, b] W (Lists.two hblk (ha.ext h) (hb.ext h)) (by simp))
  by_cases he : errHs [a, b] = 0
  · obtain ⟨h1, h2⟩ := errHs_ok he
    obtain ⟨ha0, hal, _, hwa, _⟩ := isHull_facts h1
    obtain ⟨hb0, hbl, _, hwb, _⟩ := isHull_facts h2
    have SA := fun (hl : lineB x y k = true) W (h : Ext w W) => span_c x y k va a W (ha.ext h) ha0 (line_wide hl) hwa
    have SB := fun (hl : lineB x y k = true) W (h : Ext w W) => span_c x y k vb b W (hb.ext h) hb0 (line_wide hl) hwb
    unfold checkE
    rw [if_pos he, parts_span (List.ne_nil_of_length_pos ha0) (List.ne_nil_of_length_pos hb0)]
    rw [he] at HC
    obtain ⟨A, ca, rfl, _⟩ := ha.shapeH
    obtain ⟨B, cb, rfl, _⟩ := hb.shapeH
    obtain ⟨hi, hhi⟩ : ∃ hi, hiP (x, y) a = hi := ⟨_, rfl⟩
    obtain ⟨lo, hlo⟩ : ∃ lo, loP (x, y) b = lo := ⟨_, rfl⟩
    rw [hhi] at SA ⊢
    rw [hlo] at SB ⊢
    generalize loP (x, y) a = l9 at SA
    generalize hiP (x, y) b = h9 at SB
    clear he h1 h2 ha hb hwa hwb hhi hlo
    have IX := fun w => within_c x (-67108864) 67108864 w
    have IY := fun w => within_c y (-67108864) 67108864 w
    have IK := fun w => within_c k (-4503599627370496) 4503599627370496 w
    unfold lineB at *
    unfold lnV at *
    generalize inB x (-67108864) 67108864 = bx at *
    generalize inB y (-67108864) 67108864 = by' at *
    generalize inB k (-4503599627370496) 4503599627370496 = bk at *
    replace SA := Lib.hid SA
    replace SB := Lib.hid SB
    replace IX := Lib.hid IX
    replace IY := Lib.hid IY
    replace IK := Lib.hid IK
    rcases (show (hi ≤ k ∧ k < lo) ∨ (hi ≤ k ∧ ¬ k < lo) ∨ ¬ hi ≤ k by omega) with ⟨c1, c2⟩ | ⟨c1, c2⟩ | c1
    · have hM : (decide (hi ≤ k) && decide (k < lo)) = true := by rw [decide_eq_true c1, decide_eq_true c2]; rfl
      rw [hM]
      clear hM
      have k1 : ¬ k < hi := by omega
      have k2 : ¬ lo ≤ k := by omega
      cases bx <;> cases by' <;> cases bk
      all_goals
        go_enter Try.func26, Try.ntmps26
        go_wp2_with (first
          | (go_at_call 36; refine (HC.out _ (by (repeat' (first | exact Ext.refl _ | assumption | refine Ext.alloc ?_ _ | refine Ext.drew ?_ | refine Ext.drewN ?_ _ | refine Ext.set ?_ (by first | exact Nat.le_refl _ | exact le1 _ | exact le2 _ | exact le3 _ | exact le4 _ | exact le5 _ | exact le6 _) _ | refine Ext.trans ?_ (by assumption)))) _ _ (heap2_second _ _ _)).mono ?_; rintro e w1 ⟨rfl, hb1⟩; have y0 := Ext.cell hb1 (p := ⟨w.heap.size, 0, none⟩) (v := .int .i64 x) (by go_simp); have y1 := Ext.cell hb1 (p := ⟨w.heap.size, 1, none⟩) (v := .int .i64 y) (by go_simp); have y2 := Ext.cell hb1 (p := ⟨w.heap.size, 2, none⟩) (v := .int .i64 k) (by go_simp))
          | (go_at_call 46; refine (IX.out _).mono ?_; rintro e w2 ⟨rfl, rfl⟩; clear IX)
          | (go_at_call 46; refine (IY.out _).mono ?_; rintro e w2 ⟨rfl, rfl⟩; clear IY)
          | (go_at_call 46; refine (IK.out _).mono ?_; rintro e w2 ⟨rfl, rfl⟩; clear IK)
          | (go_at_call 52; refine (SA.out rfl _ (by (repeat' (first | exact Ext.refl _ | assumption | refine Ext.alloc ?_ _ | refine Ext.drew ?_ | refine Ext.drewN ?_ _ | refine Ext.set ?_ (by first | exact Nat.le_refl _ | exact le1 _ | exact le2 _ | exact le3 _ | exact le4 _ | exact le5 _ | exact le6 _) _ | refine Ext.trans ?_ (by assumption))))).mono ?_; rintro e w3 ⟨rfl, hb3⟩; clear SA; have z2 := Ext.cell hb3 y2; have z1 := Ext.cell hb3 y1; have z0 := Ext.cell hb3 y0)
          | (go_at_call 52; refine (SB.out rfl _ (by (repeat' (first | exact Ext.refl _ | assumption | refine Ext.alloc ?_ _ | refine Ext.drew ?_ | refine Ext.drewN ?_ _ | refine Ext.set ?_ (by first | exact Nat.le_refl _ | exact le1 _ | exact le2 _ | exact le3 _ | exact le4 _ | exact le5 _ | exact le6 _) _ | refine Ext.trans ?_ (by assumption))))).mono ?_; rintro e w4 ⟨rfl, hb4⟩; clear SB; have x2 := Ext.cell hb4 z2))
        go_ret
        exact ⟨rfl, by (repeat' (first | exact Ext.refl _ | assumption | refine Ext.alloc ?_ _ | refine Ext.drew ?_ | refine Ext.drewN ?_ _ | refine Ext.set ?_ (by first | exact Nat.le_refl _ | exact le1 _ | exact le2 _ | exact le3 _ | exact le4 _ | exact le5 _ | exact le6 _) _ | refine Ext.trans ?_ (by assumption)))⟩
    · have hM : (decide (hi ≤ k) && decide (k < lo)) = false := by rw [decide_eq_true c1, decide_eq_false c2]; rfl
      rw [hM]
      clear hM
      have k1 : ¬ k < hi := by omega
      have k2 : lo ≤ k := by omega
      cases bx <;> cases by' <;> cases bk
      all_goals
        go_enter Try.func26, Try.ntmps26
        go_wp2_with (first
          | (go_at_call 36; refine (HC.out _ (by (repeat' (first | exact Ext.refl _ | assumption | refine Ext.alloc ?_ _ | refine Ext.drew ?_ | refine Ext.drewN ?_ _ | refine Ext.set ?_ (by first | exact Nat.le_refl _ | exact le1 _ | exact le2 _ | exact le3 _ | exact le4 _ | exact le5 _ | exact le6 _) _ | refine Ext.trans ?_ (by assumption)))) _ _ (heap2_second _ _ _)).mono ?_; rintro e w1 ⟨rfl, hb1⟩; have y0 := Ext.cell hb1 (p := ⟨w.heap.size, 0, none⟩) (v := .int .i64 x) (by go_simp); have y1 := Ext.cell hb1 (p := ⟨w.heap.size, 1, none⟩) (v := .int .i64 y) (by go_simp); have y2 := Ext.cell hb1 (p := ⟨w.heap.size, 2, none⟩) (v := .int .i64 k) (by go_simp))
          | (go_at_call 46; refine (IX.out _).mono ?_; rintro e w2 ⟨rfl, rfl⟩; clear IX)
          | (go_at_call 46; refine (IY.out _).mono ?_; rintro e w2 ⟨rfl, rfl⟩; clear IY)
          | (go_at_call 46; refine (IK.out _).mono ?_; rintro e w2 ⟨rfl, rfl⟩; clear IK)
          | (go_at_call 52; refine (SA.out rfl _ (by (repeat' (first | exact Ext.refl _ | assumption | refine Ext.alloc ?_ _ | refine Ext.drew ?_ | refine Ext.drewN ?_ _ | refine Ext.set ?_ (by first | exact Nat.le_refl _ | exact le1 _ | exact le2 _ | exact le3 _ | exact le4 _ | exact le5 _ | exact le6 _) _ | refine Ext.trans ?_ (by assumption))))).mono ?_; rintro e w3 ⟨rfl, hb3⟩; clear SA; have z2 := Ext.cell hb3 y2; have z1 := Ext.cell hb3 y1; have z0 := Ext.cell hb3 y0)
          | (go_at_call 52; refine (SB.out rfl _ (by (repeat' (first | exact Ext.refl _ | assumption | refine Ext.alloc ?_ _ | refine Ext.drew ?_ | refine Ext.drewN ?_ _ | refine Ext.set ?_ (by first | exact Nat.le_refl _ | exact le1 _ | exact le2 _ | exact le3 _ | exact le4 _ | exact le5 _ | exact le6 _) _ | refine Ext.trans ?_ (by assumption))))).mono ?_; rintro e w4 ⟨rfl, hb4⟩; clear SB; have x2 := Ext.cell hb4 z2))
        go_ret
        exact ⟨rfl, by (repeat' (first | exact Ext.refl _ | assumption | refine Ext.alloc ?_ _ | refine Ext.drew ?_ | refine Ext.drewN ?_ _ | refine Ext.set ?_ (by first | exact Nat.le_refl _ | exact le1 _ | exact le2 _ | exact le3 _ | exact le4 _ | exact le5 _ | exact le6 _) _ | refine Ext.trans ?_ (by assumption)))⟩
    · have hM : (decide (hi ≤ k) && decide (k < lo)) = false := by rw [decide_eq_false c1]; rfl
      rw [hM]
      clear hM
      have k1 : k < hi := by omega
      cases bx <;> cases by' <;> cases bk
      all_goals
        go_enter Try.func26, Try.ntmps26
        go_wp2_with (first
          | (go_at_call 36; refine (HC.out _ (by (repeat' (first | exact Ext.refl _ | assumption | refine Ext.alloc ?_ _ | refine Ext.drew ?_ | refine Ext.drewN ?_ _ | refine Ext.set ?_ (by first | exact Nat.le_refl _ | exact le1 _ | exact le2 _ | exact le3 _ | exact le4 _ | exact le5 _ | exact le6 _) _ | refine Ext.trans ?_ (by assumption)))) _ _ (heap2_second _ _ _)).mono ?_; rintro e w1 ⟨rfl, hb1⟩; have y0 := Ext.cell hb1 (p := ⟨w.heap.size, 0, none⟩) (v := .int .i64 x) (by go_simp); have y1 := Ext.cell hb1 (p := ⟨w.heap.size, 1, none⟩) (v := .int .i64 y) (by go_simp); have y2 := Ext.cell hb1 (p := ⟨w.heap.size, 2, none⟩) (v := .int .i64 k) (by go_simp))
          | (go_at_call 46; refine (IX.out _).mono ?_; rintro e w2 ⟨rfl, rfl⟩; clear IX)
          | (go_at_call 46; refine (IY.out _).mono ?_; rintro e w2 ⟨rfl, rfl⟩; clear IY)
          | (go_at_call 46; refine (IK.out _).mono ?_; rintro e w2 ⟨rfl, rfl⟩; clear IK)
          | (go_at_call 52; refine (SA.out rfl _ (by (repeat' (first | exact Ext.refl _ | assumption | refine Ext.alloc ?_ _ | refine Ext.drew ?_ | refine Ext.drewN ?_ _ | refine Ext.set ?_ (by first | exact Nat.le_refl _ | exact le1 _ | exact le2 _ | exact le3 _ | exact le4 _ | exact le5 _ | exact le6 _) _ | refine Ext.trans ?_ (by assumption))))).mono ?_; rintro e w3 ⟨rfl, hb3⟩; clear SA; have z2 := Ext.cell hb3 y2; have z1 := Ext.cell hb3 y1; have z0 := Ext.cell hb3 y0)
          | (go_at_call 52; refine (SB.out rfl _ (by (repeat' (first | exact Ext.refl _ | assumption | refine Ext.alloc ?_ _ | refine Ext.drew ?_ | refine Ext.drewN ?_ _ | refine Ext.set ?_ (by first | exact Nat.le_refl _ | exact le1 _ | exact le2 _ | exact le3 _ | exact le4 _ | exact le5 _ | exact le6 _) _ | refine Ext.trans ?_ (by assumption))))).mono ?_; rintro e w4 ⟨rfl, hb4⟩; clear SB; have x2 := Ext.cell hb4 z2))
        go_ret
        exact ⟨rfl, by (repeat' (first | exact Ext.refl _ | assumption | refine Ext.alloc ?_ _ | refine Ext.drew ?_ | refine Ext.drewN ?_ _ | refine Ext.set ?_ (by first | exact Nat.le_refl _ | exact le1 _ | exact le2 _ | exact le3 _ | exact le4 _ | exact le5 _ | exact le6 _) _ | refine Ext.trans ?_ (by assumption)))⟩
  · unfold checkE
    rw [if_neg he]
    have he2 : (errHs [a, b] != 0) = true := by simpa using he
    have he3 : (errHs [a, b] == 0) = false := by simpa using he
    obtain ⟨A, ca, rfl, _⟩ := ha.shapeH
    obtain ⟨B, cb, rfl, _⟩ := hb.shapeH
    generalize errHs [a, b] = E at *
    unfold lnV
    clear he ha hb
    go_enter Try.func26, Try.ntmps26
    go_wp2_with (go_at_call 36; refine (HC.out _ (by (repeat' (first | exact Ext.refl _ | assumption | refine Ext.alloc ?_ _ | refine Ext.drew ?_ | refine Ext.drewN ?_ _ | refine Ext.set ?_ (by first | exact Nat.le_refl _ | exact le1 _ | exact le2 _ | exact le3 _ | exact le4 _ | exact le5 _ | exact le6 _) _ | refine Ext.trans ?_ (by assumption)))) _ _ (heap2_second _ _ _)).mono ?_; rintro e w1 ⟨rfl, hb1⟩)
    go_ret
    exact ⟨rfl, by (repeat' (first | exact Ext.refl _ | assumption | refine Ext.alloc ?_ _ | refine Ext.drew ?_ | refine Ext.drewN ?_ _ | refine Ext.set ?_ (by first | exact Nat.le_refl _ | exact le1 _ | exact le2 _ | exact le3 _ | exact le4 _ | exact le5 _ | exact le6 _) _ | refine Ext.trans ?_ (by assumption)))⟩
end Go.Proofs.Ytlndcpjaeoppmaa
