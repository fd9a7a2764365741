
/- Contracts: apart, Meet, Part and Gap, the program. -/
import Derived.Test.YtlndcpjaeoppmaaHPart
import Derived.Test.YtlndcpjaeoppmaaHCheckP
import Derived.Test.YtlndcpjaeoppmaaHRGap
namespace Go.Proofs.Ytlndcpjaeoppmaa
open Go.RowKit Go.Shelf

theorem part_c2 (va vb : Value) (a b : List HPt) (w : World) (ha : Pts w va a) (hb : Pts w vb b) (ha0 : 0 < a.length) (hb0 : 0 < b.length) (hwa : ∀ p ∈ a, wideB p) (hwb : ∀ p ∈ b, wideB p) (hna : a.length ≤ 10000) (hnb : b.length ≤ 10000) :
    Calls Try.prog 54 #[va, vb] w fun e w' => ∃ x y k, e = .returned (.tuple #[.agg #[.int .i64 x, .int .i64 y, .int .i64 k], .bool (!meetB a b)]) ∧ (meetB a b = true → x = 0 ∧ y = 0 ∧ k = 0) ∧ (meetB a b = false → (x, y) ∈ adirs a b ∧ sepB a b (x, y) = true ∧ k = hiP (x, y) a) ∧ Ext w w' := by
  refine (part_c va vb a b w ha hb ha0 hb0 hwa hwb hna hnb).mono ?_
  rintro e w' ⟨⟨o, rfl, h1, h2⟩, h3⟩
  cases o with
  | none =>
    have hm : meetB a b = true := by unfold meetB; rw [h1 rfl]; rfl
    rw [hm]
    exact ⟨0, 0, 0, rfl, fun _ => ⟨rfl, rfl, rfl⟩, (fun h => by cases h), h3⟩
  | some d =>
    obtain ⟨d1, d2⟩ := d
    obtain ⟨h4, h5⟩ := h2 _ rfl
    have hm : meetB a b = false := by
      have : (adirs a b).any (sepB a b) = true := List.any_eq_true.2 ⟨_, h4, h5⟩
      unfold meetB; rw [this]; rfl
    rw [hm]
    exact ⟨d1, d2, hiP (d1, d2) a, rfl, (fun h => by cases h), fun _ => ⟨h4, h5, rfl⟩, h3⟩
set_option maxHeartbeats 1600000 in
theorem apart_c (va vb : Value) (a b : List HPt) (w : World) (ha : Pts w va a) (hb : Pts w vb b) (ha0 : 0 < a.length) (hb0 : 0 < b.length) (hwa : ∀ p ∈ a, wideB p) (hwb : ∀ p ∈ b, wideB p) (hna : a.length ≤ 10000) (hnb : b.length ≤ 10000) :
    Calls Try.prog 38 #[va, vb] w fun e w' => e = .returned (.bool (!meetB a b)) ∧ Ext w w' := by
  have PC := Lib.hid (fun W (h : Ext w W) => part_c2 va vb a b W (ha.ext h) (hb.ext h) ha0 hb0 hwa hwb hna hnb)
  obtain ⟨A, ca, rfl, _⟩ := ha.shapeH
  obtain ⟨B, cb, rfl, _⟩ := hb.shapeH
  generalize meetB a b = M at *
  clear ha hb hwa hwb
  go_enter Try.func38, Try.ntmps38
  go_wp2_with (go_at_call 54; refine (PC.out _ (by (repeat' (first | exact Ext.refl _ | assumption | refine Ext.alloc ?_ _ | refine Ext.drew ?_ | refine Ext.drewN ?_ _ | refine Ext.set ?_ (by first | exact Nat.le_refl _ | exact le1 _ | exact le2 _ | exact le3 _ | exact le4 _ | exact le5 _ | exact le6 _) _ | refine Ext.trans ?_ (by assumption))))).mono ?_; rintro e w1 ⟨x, y, k, rfl, _, _, hb1⟩)
  go_ret
  exact ⟨rfl, by (repeat' (first | exact Ext.refl _ | assumption | refine Ext.alloc ?_ _ | refine Ext.drew ?_ | refine Ext.drewN ?_ _ | refine Ext.set ?_ (by first | exact Nat.le_refl _ | exact le1 _ | exact le2 _ | exact le3 _ | exact le4 _ | exact le5 _ | exact le6 _) _ | refine Ext.trans ?_ (by assumption)))⟩
set_option maxRecDepth 100000 in
set_option maxHeartbeats 1600000 in
theorem Meet_c (va vb : Value) (a b : List HPt) (w : World) (ha : Pts w va a) (hb : Pts w vb b) :
    Calls Try.prog 22 #[va, vb] w fun e w' => e = .returned (.tuple #[.bool (meetE a b).1, .int .i64 (meetE a b).2]) ∧ Ext w w' := by
  have HC := Lib.hid (fun W (h : Ext w W) (bb : Nat) (t : TypeId) (hblk : W.heap[bb]? = some (.cells #[va, vb] t (0, 0))) => checkHulls_c bb 2 [va, vb] [a, b] W (Lists.two hblk (ha.ext h) (hb.ext h)) (by simp))
  by_cases he : errHs [a, b] = 0
  · obtain ⟨h1, h2⟩ := errHs_ok he
    obtain ⟨ha0, hal, _, hwa, _⟩ := isHull_facts h1
    obtain ⟨hb0, hbl, _, hwb, _⟩ := isHull_facts h2
    have MC := Lib.hid (fun W (h : Ext w W) => apart_c va vb a b W (ha.ext h) (hb.ext h) ha0 hb0 hwa hwb (by omega) (by omega))
    unfold meetE
    rw [if_pos he]
    rw [he] at HC
    obtain ⟨A, ca, rfl, _⟩ := ha.shapeH
    obtain ⟨B, cb, rfl, _⟩ := hb.shapeH
    generalize meetB a b = M at *
    clear he h1 h2 ha hb hwa hwb
    go_enter Try.func22, Try.ntmps22
    go_wp2_with (first
      | (go_at_call 36; refine (HC.out _ (by (repeat' (first | exact Ext.refl _ | assumption | refine Ext.alloc ?_ _ | refine Ext.drew ?_ | refine Ext.drewN ?_ _ | refine Ext.set ?_ (by first | exact Nat.le_refl _ | exact le1 _ | exact le2 _ | exact le3 _ | exact le4 _ | exact le5 _ | exact le6 _) _ | refine Ext.trans ?_ (by assumption)))) _ _ (World.alloc_heap_new _ _)).mono ?_; rintro e w1 ⟨rfl, hb1⟩)
      | (go_at_call 38; refine (MC.out _ (by (repeat' (first | exact Ext.refl _ | assumption | refine Ext.alloc ?_ _ | refine Ext.drew ?_ | refine Ext.drewN ?_ _ | refine Ext.set ?_ (by first | exact Nat.le_refl _ | exact le1 _ | exact le2 _ | exact le3 _ | exact le4 _ | exact le5 _ | exact le6 _) _ | refine Ext.trans ?_ (by assumption))))).mono ?_; rintro e w2 ⟨rfl, hb2⟩))
    exact bodyPost_ret (v := .tuple #[.bool M, .int .i64 0]) (by simp [results, Try.results22, go_sem]) rfl ⟨rfl, by (repeat' (first | exact Ext.refl _ | assumption | refine Ext.alloc ?_ _ | refine Ext.drew ?_ | refine Ext.drewN ?_ _ | refine Ext.set ?_ (by first | exact Nat.le_refl _ | exact le1 _ | exact le2 _ | exact le3 _ | exact le4 _ | exact le5 _ | exact le6 _) _ | refine Ext.trans ?_ (by assumption)))⟩
  · unfold meetE
    rw [if_neg he]
    have he2 : (errHs [a, b] != 0) = true := by simpa using he
    have he3 : (errHs [a, b] == 0) = false := by simpa using he
    obtain ⟨A, ca, rfl, _⟩ := ha.shapeH
    obtain ⟨B, cb, rfl, _⟩ := hb.shapeH
    generalize errHs [a, b] = E at *
    clear he ha hb
    go_enter Try.func22, Try.ntmps22
    go_wp2_with (go_at_call 36; refine (HC.out _ (by (repeat' (first | exact Ext.refl _ | assumption | refine Ext.alloc ?_ _ | refine Ext.drew ?_ | refine Ext.drewN ?_ _ | refine Ext.set ?_ (by first | exact Nat.le_refl _ | exact le1 _ | exact le2 _ | exact le3 _ | exact le4 _ | exact le5 _ | exact le6 _) _ | refine Ext.trans ?_ (by assumption)))) _ _ (World.alloc_heap_new _ _)).mono ?_; rintro e w1 ⟨rfl, hb1⟩)
    exact bodyPost_ret (v := .tuple #[.bool false, .int .i64 E]) (by simp [results, Try.results22, go_sem]) rfl ⟨rfl, by (repeat' (first | exact Ext.refl _ | assumption | refine Ext.alloc ?_ _ | refine Ext.drew ?_ | refine Ext.drewN ?_ _ | refine Ext.set ?_ (by first | exact Nat.le_refl _ | exact le1 _ | exact le2 _ | exact le3 _ | exact le4 _ | exact le5 _ | exact le6 _) _ | refine Ext.trans ?_ (by assumption)))⟩
set_option maxRecDepth 100000 in
set_option maxHeartbeats 8000000 in
theorem Part_c (va vb : Value) (a b : List HPt) (w : World) (ha : Pts w va a) (hb : Pts w vb b) :
    Calls Try.prog 28 #[va, vb] w fun e w' => ∃ x y k, e = .returned (.tuple #[.agg #[.int .i64 x, .int .i64 y, .int .i64 k], .int .i64 (partE a b)]) ∧ (partE a b ≠ 0 → x = 0 ∧ y = 0 ∧ k = 0) ∧ (partE a b = 0 → (x, y) ∈ adirs a b ∧ sepB a b (x, y) = true ∧ k = hiP (x, y) a) ∧ Ext w w' := by
  have HC := Lib.hid (fun W (h : Ext w W) (bb : Nat) (t : TypeId) (hblk : W.heap[bb]? = some (.cells #[va, vb] t (0, 0))) => checkHulls_c bb 2 [va, vb] [a, b] W (Lists.two hblk (ha.ext h) (hb.ext h)) (by simp))
  by_cases he : errHs [a, b] = 0
  · obtain ⟨h1, h2⟩ := errHs_ok he
    obtain ⟨ha0, hal, _, hwa, _⟩ := isHull_facts h1
    obtain ⟨hb0, hbl, _, hwb, _⟩ := isHull_facts h2
    have MC := Lib.hid (fun W (h : Ext w W) => part_c2 va vb a b W (ha.ext h) (hb.ext h) ha0 hb0 hwa hwb (by omega) (by omega))
    unfold partE
    rw [if_pos he]
    rw [he] at HC
    obtain ⟨A, ca, rfl, _⟩ := ha.shapeH
    obtain ⟨B, cb, rfl, _⟩ := hb.shapeH
    obtain ⟨D, hD⟩ : ∃ D : Int → Int → Int → Prop, (fun x y k => (x, y) ∈ adirs a b ∧ sepB a b (x, y) = true ∧ k = hiP (x, y) a) = D := ⟨_, rfl⟩
    have hD2 : ∀ x y k, ((x, y) ∈ adirs a b ∧ sepB a b (x, y) = true ∧ k = hiP (x, y) a) = D x y k := fun x y k => by rw [← hD]
    simp only [hD2] at MC ⊢
    generalize meetB a b = M at *
    clear he h1 h2 ha hb hwa hwb hD hD2
    cases M
    · skip
      go_enter Try.func28, Try.ntmps28
      go_wp2_with (first
        | (go_at_call 36; refine (HC.out _ (by (repeat' (first | exact Ext.refl _ | assumption | refine Ext.alloc ?_ _ | refine Ext.drew ?_ | refine Ext.drewN ?_ _ | refine Ext.set ?_ (by first | exact Nat.le_refl _ | exact le1 _ | exact le2 _ | exact le3 _ | exact le4 _ | exact le5 _ | exact le6 _) _ | refine Ext.trans ?_ (by assumption)))) _ _ (heap2_second _ _ _)).mono ?_; rintro e w1 ⟨rfl, hb1⟩; have bR := blk_ext (heap2_first w _ _) hb1; have r0 : w1.cell? ⟨w.heap.size, 0, none⟩ = some (.int .i64 0) := World.news_of_block bR 0 _ rfl; have r1 : w1.cell? ⟨w.heap.size, 1, none⟩ = some (.int .i64 0) := World.news_of_block bR 1 _ rfl; have r2 : w1.cell? ⟨w.heap.size, 2, none⟩ = some (.int .i64 0) := World.news_of_block bR 2 _ rfl; have f0 := blk_frzH bR 0; have f1 := blk_frzH bR 1; have f2 := blk_frzH bR 2; have lR := (Array.getElem?_eq_some_iff.1 bR).1; have HR1 := Lib.hid bR; clear bR)
        | (go_at_call 54; refine (MC.out _ (by (repeat' (first | exact Ext.refl _ | assumption | refine Ext.alloc ?_ _ | refine Ext.drew ?_ | refine Ext.drewN ?_ _ | refine Ext.set ?_ (by first | exact Nat.le_refl _ | exact le1 _ | exact le2 _ | exact le3 _ | exact le4 _ | exact le5 _ | exact le6 _) _ | refine Ext.trans ?_ (by assumption))))).mono ?_; rintro e w2 ⟨x, y, k, rfl, hz1, hz2, hb2⟩; have bS := blk_ext HR1.out hb2; clear r0 r1 r2 f0 f1 f2 lR; have r0 : w2.cell? ⟨w.heap.size, 0, none⟩ = some (.int .i64 0) := World.news_of_block bS 0 _ rfl; have r1 : w2.cell? ⟨w.heap.size, 1, none⟩ = some (.int .i64 0) := World.news_of_block bS 1 _ rfl; have r2 : w2.cell? ⟨w.heap.size, 2, none⟩ = some (.int .i64 0) := World.news_of_block bS 2 _ rfl; have f0 := blk_frzH bS 0; have f1 := blk_frzH bS 1; have f2 := blk_frzH bS 2; have lR := (Array.getElem?_eq_some_iff.1 bS).1; have HR2 := Lib.hid bS; clear bS))
      have hE9 : Ext w w2 := by (repeat' (first | exact Ext.refl _ | assumption | refine Ext.alloc ?_ _ | refine Ext.drew ?_ | refine Ext.drewN ?_ _ | refine Ext.set ?_ (by first | exact Nat.le_refl _ | exact le1 _ | exact le2 _ | exact le3 _ | exact le4 _ | exact le5 _ | exact le6 _) _ | refine Ext.trans ?_ (by assumption)))
      have b5 := blk_ext (blk_setH 2 (.int .i64 k) (blk_setH 1 (.int .i64 y) (blk_setH 0 (.int .i64 x) HR2.out))) ((Ext.refl _).alloc (.cells #[.int .i64 x, .int .i64 y, .int .i64 k] 43))
      have e5 : Ext w ((((w2.setCell ⟨w.heap.size, 0, none⟩ (.int .i64 x)).setCell ⟨w.heap.size, 1, none⟩ (.int .i64 y)).setCell ⟨w.heap.size, 2, none⟩ (.int .i64 k)).alloc (.cells #[.int .i64 x, .int .i64 y, .int .i64 k] 43)) := ((((hE9).set (p := ⟨w.heap.size, 0, none⟩) (Nat.le_refl _) (.int .i64 x)).set (p := ⟨w.heap.size, 1, none⟩) (Nat.le_refl _) (.int .i64 y)).set (p := ⟨w.heap.size, 2, none⟩) (Nat.le_refl _) (.int .i64 k)).alloc (.cells #[.int .i64 x, .int .i64 y, .int .i64 k] 43)
      generalize ((((w2.setCell ⟨w.heap.size, 0, none⟩ (.int .i64 x)).setCell ⟨w.heap.size, 1, none⟩ (.int .i64 y)).setCell ⟨w.heap.size, 2, none⟩ (.int .i64 k)).alloc (.cells #[.int .i64 x, .int .i64 y, .int .i64 k] 43)) = V5 at *
      have n0 : V5.cell? ⟨w.heap.size, 0, none⟩ = some (.int .i64 x) := World.news_of_block b5 0 _ rfl
      have n1 : V5.cell? ⟨w.heap.size, 1, none⟩ = some (.int .i64 y) := World.news_of_block b5 1 _ rfl
      have n2 : V5.cell? ⟨w.heap.size, 2, none⟩ = some (.int .i64 k) := World.news_of_block b5 2 _ rfl
      exact bodyPost_ret (v := .tuple #[.agg #[.int .i64 x, .int .i64 y, .int .i64 k], .int .i64 0]) (by simp [results, Try.results28, go_sem, n0, n1, n2]) rfl ⟨x, y, k, rfl, hz2 trivial, e5⟩
    · skip
      go_enter Try.func28, Try.ntmps28
      go_wp2_with (first
        | (go_at_call 36; refine (HC.out _ (by (repeat' (first | exact Ext.refl _ | assumption | refine Ext.alloc ?_ _ | refine Ext.drew ?_ | refine Ext.drewN ?_ _ | refine Ext.set ?_ (by first | exact Nat.le_refl _ | exact le1 _ | exact le2 _ | exact le3 _ | exact le4 _ | exact le5 _ | exact le6 _) _ | refine Ext.trans ?_ (by assumption)))) _ _ (heap2_second _ _ _)).mono ?_; rintro e w1 ⟨rfl, hb1⟩; have bR := blk_ext (heap2_first w _ _) hb1; have r0 : w1.cell? ⟨w.heap.size, 0, none⟩ = some (.int .i64 0) := World.news_of_block bR 0 _ rfl; have r1 : w1.cell? ⟨w.heap.size, 1, none⟩ = some (.int .i64 0) := World.news_of_block bR 1 _ rfl; have r2 : w1.cell? ⟨w.heap.size, 2, none⟩ = some (.int .i64 0) := World.news_of_block bR 2 _ rfl; have f0 := blk_frzH bR 0; have f1 := blk_frzH bR 1; have f2 := blk_frzH bR 2; have lR := (Array.getElem?_eq_some_iff.1 bR).1; have HR1 := Lib.hid bR; clear bR)
        | (go_at_call 54; refine (MC.out _ (by (repeat' (first | exact Ext.refl _ | assumption | refine Ext.alloc ?_ _ | refine Ext.drew ?_ | refine Ext.drewN ?_ _ | refine Ext.set ?_ (by first | exact Nat.le_refl _ | exact le1 _ | exact le2 _ | exact le3 _ | exact le4 _ | exact le5 _ | exact le6 _) _ | refine Ext.trans ?_ (by assumption))))).mono ?_; rintro e w2 ⟨x, y, k, rfl, hz1, hz2, hb2⟩; have bS := blk_ext HR1.out hb2; clear r0 r1 r2 f0 f1 f2 lR; have r0 : w2.cell? ⟨w.heap.size, 0, none⟩ = some (.int .i64 0) := World.news_of_block bS 0 _ rfl; have r1 : w2.cell? ⟨w.heap.size, 1, none⟩ = some (.int .i64 0) := World.news_of_block bS 1 _ rfl; have r2 : w2.cell? ⟨w.heap.size, 2, none⟩ = some (.int .i64 0) := World.news_of_block bS 2 _ rfl; have f0 := blk_frzH bS 0; have f1 := blk_frzH bS 1; have f2 := blk_frzH bS 2; have lR := (Array.getElem?_eq_some_iff.1 bS).1; have HR2 := Lib.hid bS; clear bS))
      obtain ⟨rfl, rfl, rfl⟩ := hz1 trivial
      have hE9 : Ext w w2 := by (repeat' (first | exact Ext.refl _ | assumption | refine Ext.alloc ?_ _ | refine Ext.drew ?_ | refine Ext.drewN ?_ _ | refine Ext.set ?_ (by first | exact Nat.le_refl _ | exact le1 _ | exact le2 _ | exact le3 _ | exact le4 _ | exact le5 _ | exact le6 _) _ | refine Ext.trans ?_ (by assumption)))
      have b5 := blk_ext (blk_setH 2 (.int .i64 0) (blk_setH 1 (.int .i64 0) (blk_setH 0 (.int .i64 0) HR2.out))) ((Ext.refl _).alloc (.cells #[.int .i64 0, .int .i64 0, .int .i64 0] 43))
      have e5 : Ext w ((((w2.setCell ⟨w.heap.size, 0, none⟩ (.int .i64 0)).setCell ⟨w.heap.size, 1, none⟩ (.int .i64 0)).setCell ⟨w.heap.size, 2, none⟩ (.int .i64 0)).alloc (.cells #[.int .i64 0, .int .i64 0, .int .i64 0] 43)) := ((((hE9).set (p := ⟨w.heap.size, 0, none⟩) (Nat.le_refl _) (.int .i64 0)).set (p := ⟨w.heap.size, 1, none⟩) (Nat.le_refl _) (.int .i64 0)).set (p := ⟨w.heap.size, 2, none⟩) (Nat.le_refl _) (.int .i64 0)).alloc (.cells #[.int .i64 0, .int .i64 0, .int .i64 0] 43)
      generalize ((((w2.setCell ⟨w.heap.size, 0, none⟩ (.int .i64 0)).setCell ⟨w.heap.size, 1, none⟩ (.int .i64 0)).setCell ⟨w.heap.size, 2, none⟩ (.int .i64 0)).alloc (.cells #[.int .i64 0, .int .i64 0, .int .i64 0] 43)) = V5 at *
      have n0 : V5.cell? ⟨w.heap.size, 0, none⟩ = some (.int .i64 0) := World.news_of_block b5 0 _ rfl
      have n1 : V5.cell? ⟨w.heap.size, 1, none⟩ = some (.int .i64 0) := World.news_of_block b5 1 _ rfl
      have n2 : V5.cell? ⟨w.heap.size, 2, none⟩ = some (.int .i64 0) := World.news_of_block b5 2 _ rfl
      exact bodyPost_ret (v := .tuple #[.agg #[.int .i64 0, .int .i64 0, .int .i64 0], .int .i64 5]) (by simp [results, Try.results28, go_sem, n0, n1, n2]) rfl ⟨0, 0, 0, rfl, ⟨rfl, rfl, rfl⟩, e5⟩
  · unfold partE
    rw [if_neg he]
    have he2 : (errHs [a, b] != 0) = true := by simpa using he
    have he3 : (errHs [a, b] == 0) = false := by simpa using he
    obtain ⟨A, ca, rfl, _⟩ := ha.shapeH
    obtain ⟨B, cb, rfl, _⟩ := hb.shapeH
    have HE0 := Lib.hid he
    generalize errHs [a, b] = E at *
    clear he ha hb
    go_enter Try.func28, Try.ntmps28
    go_wp2_with (go_at_call 36; refine (HC.out _ (by (repeat' (first | exact Ext.refl _ | assumption | refine Ext.alloc ?_ _ | refine Ext.drew ?_ | refine Ext.drewN ?_ _ | refine Ext.set ?_ (by first | exact Nat.le_refl _ | exact le1 _ | exact le2 _ | exact le3 _ | exact le4 _ | exact le5 _ | exact le6 _) _ | refine Ext.trans ?_ (by assumption)))) _ _ (heap2_second _ _ _)).mono ?_; rintro e w1 ⟨rfl, hb1⟩; have bR := blk_ext (heap2_first w _ _) hb1; have r0 : w1.cell? ⟨w.heap.size, 0, none⟩ = some (.int .i64 0) := World.news_of_block bR 0 _ rfl; have r1 : w1.cell? ⟨w.heap.size, 1, none⟩ = some (.int .i64 0) := World.news_of_block bR 1 _ rfl; have r2 : w1.cell? ⟨w.heap.size, 2, none⟩ = some (.int .i64 0) := World.news_of_block bR 2 _ rfl; have f0 := blk_frzH bR 0; have f1 := blk_frzH bR 1; have f2 := blk_frzH bR 2; have lR := (Array.getElem?_eq_some_iff.1 bR).1; have HR1 := Lib.hid bR; clear bR)
    have hE9 : Ext w w1 := by (repeat' (first | exact Ext.refl _ | assumption | refine Ext.alloc ?_ _ | refine Ext.drew ?_ | refine Ext.drewN ?_ _ | refine Ext.set ?_ (by first | exact Nat.le_refl _ | exact le1 _ | exact le2 _ | exact le3 _ | exact le4 _ | exact le5 _ | exact le6 _) _ | refine Ext.trans ?_ (by assumption)))
    have b5 := blk_setH 2 (.int .i64 0) (blk_setH 1 (.int .i64 0) (blk_setH 0 (.int .i64 0) HR1.out))
    have e5 : Ext w (((w1.setCell ⟨w.heap.size, 0, none⟩ (.int .i64 0)).setCell ⟨w.heap.size, 1, none⟩ (.int .i64 0)).setCell ⟨w.heap.size, 2, none⟩ (.int .i64 0)) := (((hE9).set (p := ⟨w.heap.size, 0, none⟩) (Nat.le_refl _) (.int .i64 0)).set (p := ⟨w.heap.size, 1, none⟩) (Nat.le_refl _) (.int .i64 0)).set (p := ⟨w.heap.size, 2, none⟩) (Nat.le_refl _) (.int .i64 0)
    generalize (((w1.setCell ⟨w.heap.size, 0, none⟩ (.int .i64 0)).setCell ⟨w.heap.size, 1, none⟩ (.int .i64 0)).setCell ⟨w.heap.size, 2, none⟩ (.int .i64 0)) = V5 at *
    have n0 : V5.cell? ⟨w.heap.size, 0, none⟩ = some (.int .i64 0) := World.news_of_block b5 0 _ rfl
    have n1 : V5.cell? ⟨w.heap.size, 1, none⟩ = some (.int .i64 0) := World.news_of_block b5 1 _ rfl
    have n2 : V5.cell? ⟨w.heap.size, 2, none⟩ = some (.int .i64 0) := World.news_of_block b5 2 _ rfl
    exact bodyPost_ret (v := .tuple #[.agg #[.int .i64 0, .int .i64 0, .int .i64 0], .int .i64 E]) (by simp [results, Try.results28, go_sem, n0, n1, n2]) rfl ⟨0, 0, 0, rfl, (fun _ => ⟨rfl, rfl, rfl⟩), (fun h => absurd h HE0.out), e5⟩
set_option maxRecDepth 100000 in
set_option maxHeartbeats 1600000 in
theorem Gap_c (va vb : Value) (a b : List HPt) (w : World) (ha : Pts w va a) (hb : Pts w vb b) :
    Calls Try.prog 24 #[va, vb] w fun e w' => e = .returned (.tuple #[.int .i64 (gapE a b).1, .int .i64 (gapE a b).2]) ∧ Ext w w' := by
  have HC := Lib.hid (fun W (h : Ext w W) (bb : Nat) (t : TypeId) (hblk : W.heap[bb]? = some (.cells #[va, vb] t (0, 0))) => checkHulls_c bb 2 [va, vb] [a, b] W (Lists.two hblk (ha.ext h) (hb.ext h)) (by simp))
  by_cases he : errHs [a, b] = 0
  · obtain ⟨h1, h2⟩ := errHs_ok he
    obtain ⟨ha0, hal, hma, hwa, _⟩ := isHull_facts h1
    obtain ⟨hb0, hbl, _, hwb, _⟩ := isHull_facts h2
    have GC := Lib.hid (fun t (ht : 0 ≤ t ∧ t ≤ 33554432) W (h : Ext w W) => grown_c t va a W (ha.ext h) ha0 (by omega) (fun p hp => ok_mid (hma p hp)) (by omega))
    have MC := Lib.hid (fun t (ht : 0 ≤ t ∧ t ≤ 33554432) v W (h : Ext w W) (hp : Pts W v (cornersP (growP t a))) => apart_c v vb (cornersP (growP t a)) b W hp (hb.ext h) (corners_pos (by rw [grow_len]; omega)) hb0 (fun p hp => grow_wide (by omega) (fun p hp => ok_mid (hma p hp)) p (corners_sub hp)) hwb (by have h1 := corners_len (growP t a); rw [grow_len] at h1; omega) (by omega))
    unfold gapE
    rw [if_pos he]
    rw [he] at HC
    obtain ⟨A, ca, rfl, _⟩ := ha.shapeH
    obtain ⟨B, cb, rfl, _⟩ := hb.shapeH
    obtain ⟨G, hG⟩ : ∃ G, gapP a b = G := ⟨_, rfl⟩
    rw [hG]
    have hG2 : gapF (fun t => meetB (cornersP (growP t a)) b) 33554432 0 33554432 = G := hG
    have HG := Lib.hid hG2
    clear ha hb hma hwa hwb hG hG2 he h1 h2
    go_enter Try.func24, Try.ntmps24
    go_wp2_with (go_at_call 36; refine (HC.out _ (by (repeat' (first | exact Ext.refl _ | assumption | refine Ext.alloc ?_ _ | refine Ext.drew ?_ | refine Ext.drewN ?_ _ | refine Ext.set ?_ (by first | exact Nat.le_refl _ | exact le1 _ | exact le2 _ | exact le3 _ | exact le4 _ | exact le5 _ | exact le6 _) _ | refine Ext.trans ?_ (by assumption)))) _ _ (World.alloc_heap_new _ _)).mono ?_; rintro e w1 ⟨rfl, hb1⟩)
    have hE1 : Ext w w1 := by (repeat' (first | exact Ext.refl _ | assumption | refine Ext.alloc ?_ _ | refine Ext.drew ?_ | refine Ext.drewN ?_ _ | refine Ext.set ?_ (by first | exact Nat.le_refl _ | exact le1 _ | exact le2 _ | exact le3 _ | exact le4 _ | exact le5 _ | exact le6 _) _ | refine Ext.trans ?_ (by assumption)))
    go_loopw [7, 8] (fun l h wr => ∃ (lo hi : Int) (n : Nat), l = .int .i64 lo ∧ h = .int .i64 hi ∧ 0 ≤ lo ∧ hi ≤ 33554432 ∧ lo ≤ hi ∧ hi - lo ≤ n ∧ gapF (fun t => meetB (cornersP (growP t a)) b) n lo hi = G ∧ Ext w wr) (fun l h _ => (intOf h - intOf l).toNat)
    case atStart => exact ⟨0, 33554432, 33554432, rfl, rfl, by omega, by omega, by omega, by omega, HG.out, hE1⟩
    case round =>
      obtain ⟨lo, hi, n, rfl, rfl, h1, h2, h3, h4, hg, hE⟩ := hrel
      by_cases hlt : lo < hi
      · obtain ⟨m, rfl⟩ : ∃ m, n = m + 1 := ⟨n - 1, by omega⟩
        obtain ⟨T, hT⟩ : ∃ T, (lo + hi) / 2 = T := ⟨_, rfl⟩
        have hq : Int.tdiv (lo + hi) 2 = T := by rw [Int.tdiv_eq_ediv_of_nonneg (by omega), hT]
        have e1 := IntWalk.i64_in (lo + hi) (by omega)
        have e2 := IntWalk.i64_in T (by omega)
        have e3 := IntWalk.i64_in (T + 1) (by omega)
        have t1 : 0 ≤ T := by omega
        have t2 : T ≤ 33554432 := by omega
        have hb : lo ≤ T ∧ T < hi := by omega
        have G1 := Lib.hid (fun W (hh : Ext wr W) => GC.out T ⟨t1, t2⟩ W (hE.trans hh))
        have M0 := fun v W (hh : Ext wr W) hp => MC.out T ⟨t1, t2⟩ v W (hE.trans hh) hp
        have hstep := fun hp => gapF_meet (P := fun t => meetB (cornersP (growP t a)) b) (n := m) hlt hp
        have hstep2 := fun hp => gapF_part (P := fun t => meetB (cornersP (growP t a)) b) (n := m) hlt hp
        rw [hT] at hstep hstep2
        have HS1 := Lib.hid hstep
        have HS2 := Lib.hid hstep2
        have HG3 := Lib.hid hg
        have HE := Lib.hid hE
        have HB := Lib.hid (And.intro hb (And.intro h1 (And.intro h2 (And.intro h4 hT))))
        cases hP : meetB (cornersP (growP T a)) b
        · rw [hP] at M0
          have M1 := Lib.hid M0
          have HP := Lib.hid hP
          clear M0 hP hstep hstep2 hg hE hT hb h1 h2 h3 h4
          go_wp2_with (first
            | (go_at_call 47; refine (G1.out _ (by (repeat' (first | exact Ext.refl _ | assumption | refine Ext.alloc ?_ _ | refine Ext.drew ?_ | refine Ext.drewN ?_ _ | refine Ext.set ?_ (by first | exact Nat.le_refl _ | exact le1 _ | exact le2 _ | exact le3 _ | exact le4 _ | exact le5 _ | exact le6 _) _ | refine Ext.trans ?_ (by assumption))))).mono ?_; rintro e w1 ⟨v1, rfl, ho1, hb1⟩; obtain ⟨A1, c1, rfl, _⟩ := ho1.shapeH; replace ho1 := Lib.hid ho1)
            | (go_at_call 38; refine (M1.out _ _ (by (repeat' (first | exact Ext.refl _ | assumption | refine Ext.alloc ?_ _ | refine Ext.drew ?_ | refine Ext.drewN ?_ _ | refine Ext.set ?_ (by first | exact Nat.le_refl _ | exact le1 _ | exact le2 _ | exact le3 _ | exact le4 _ | exact le5 _ | exact le6 _) _ | refine Ext.trans ?_ (by assumption)))) ho1.out).mono ?_; rintro e w2 ⟨rfl, hb2⟩))
          have HBo := HB.out
          refine ⟨⟨T + 1, hi, m, rfl, rfl, by omega, by omega, by omega, by omega, by rw [← HS2.out HP.out]; exact HG3.out, HE.out.trans (Ext.trans hb1 hb2)⟩, by simp [intOf]; omega⟩
        · rw [hP] at M0
          have M1 := Lib.hid M0
          have HP := Lib.hid hP
          clear M0 hP hstep hstep2 hg hE hT hb h1 h2 h3 h4
          go_wp2_with (first
            | (go_at_call 47; refine (G1.out _ (by (repeat' (first | exact Ext.refl _ | assumption | refine Ext.alloc ?_ _ | refine Ext.drew ?_ | refine Ext.drewN ?_ _ | refine Ext.set ?_ (by first | exact Nat.le_refl _ | exact le1 _ | exact le2 _ | exact le3 _ | exact le4 _ | exact le5 _ | exact le6 _) _ | refine Ext.trans ?_ (by assumption))))).mono ?_; rintro e w1 ⟨v1, rfl, ho1, hb1⟩; obtain ⟨A1, c1, rfl, _⟩ := ho1.shapeH; replace ho1 := Lib.hid ho1)
            | (go_at_call 38; refine (M1.out _ _ (by (repeat' (first | exact Ext.refl _ | assumption | refine Ext.alloc ?_ _ | refine Ext.drew ?_ | refine Ext.drewN ?_ _ | refine Ext.set ?_ (by first | exact Nat.le_refl _ | exact le1 _ | exact le2 _ | exact le3 _ | exact le4 _ | exact le5 _ | exact le6 _) _ | refine Ext.trans ?_ (by assumption)))) ho1.out).mono ?_; rintro e w2 ⟨rfl, hb2⟩))
          have HBo := HB.out
          refine ⟨⟨lo, T, m, rfl, rfl, by omega, by omega, by omega, by omega, by rw [← HS1.out HP.out]; exact HG3.out, HE.out.trans (Ext.trans hb1 hb2)⟩, by simp [intOf]; omega⟩
      · rw [gapF_end hlt] at hg
        go_wp2
        exact bodyPost_ret (v := .tuple #[.int .i64 G, .int .i64 0]) (by simp [results, Try.results24, go_sem]) rfl ⟨rfl, hE⟩
  · unfold gapE
    rw [if_neg he]
    have he2 : (errHs [a, b] != 0) = true := by simpa using he
    have he3 : (errHs [a, b] == 0) = false := by simpa using he
    obtain ⟨A, ca, rfl, _⟩ := ha.shapeH
    obtain ⟨B, cb, rfl, _⟩ := hb.shapeH
    generalize errHs [a, b] = E at *
    clear he ha hb
    go_enter Try.func24, Try.ntmps24
    go_wp2_with (go_at_call 36; refine (HC.out _ (by (repeat' (first | exact Ext.refl _ | assumption | refine Ext.alloc ?_ _ | refine Ext.drew ?_ | refine Ext.drewN ?_ _ | refine Ext.set ?_ (by first | exact Nat.le_refl _ | exact le1 _ | exact le2 _ | exact le3 _ | exact le4 _ | exact le5 _ | exact le6 _) _ | refine Ext.trans ?_ (by assumption)))) _ _ (World.alloc_heap_new _ _)).mono ?_; rintro e w1 ⟨rfl, hb1⟩)
    exact bodyPost_ret (v := .tuple #[.int .i64 0, .int .i64 E]) (by simp [results, Try.results24, go_sem]) rfl ⟨rfl, by (repeat' (first | exact Ext.refl _ | assumption | refine Ext.alloc ?_ _ | refine Ext.drew ?_ | refine Ext.drewN ?_ _ | refine Ext.set ?_ (by first | exact Nat.le_refl _ | exact le1 _ | exact le2 _ | exact le3 _ | exact le4 _ | exact le5 _ | exact le6 _) _ | refine Ext.trans ?_ (by assumption)))⟩
end Go.Proofs.Ytlndcpjaeoppmaa
