
/- Contract: whether a line parts two lists, the definition. -/
import Derived.Test.YtlndcpjaeoppmaaHDot
namespace Go.Proofs.Ytlndcpjaeoppmaa
open Go.RowKit Go.Shelf

/-- whether a line parts two lists -/
def partsB (a b : List HPt) (d : HPt) (K : Int) : Bool := a.all (fun p => decide (dotP d p ≤ K)) && b.all (fun p => decide (K < dotP d p))
theorem all_of_getD {p : HPt → Bool} {l : List HPt} {k : Nat} (hk : k < l.length) (h : p (l.getD k (0, 0)) = false) : l.all p = false := by
  rw [getD_lt hk] at h
  rw [List.all_eq_false]
  exact ⟨_, List.getElem_mem hk, by simp [h]⟩
theorem all_take_getD {p : HPt → Bool} {l : List HPt} {k : Nat} (hk : k < l.length) (h0 : (l.take k).all p = true) (h : p (l.getD k (0, 0)) = true) : (l.take (k + 1)).all p = true := by
  rw [getD_lt hk] at h
  rw [List.take_succ_eq_append_getElem hk, List.all_append, h0]
  simp [h]
set_option maxRecDepth 100000 in
set_option maxHeartbeats 1600000 in
theorem parts_c (d1 d2 K : Int) (va vb : Value) (a b : List HPt) (w : World) (ha : Pts w va a) (hb : Pts w vb b) (hd : wideD (d1, d2)) (hwa : ∀ p ∈ a, wideB p) (hwb : ∀ p ∈ b, wideB p) :
    Calls Try.prog 53 #[va, vb, lnV d1 d2 K] w fun e w' => e = .returned (.bool (partsB a b (d1, d2) K)) ∧ Ext w w' := by
  have DC := Lib.hid (fun p1 p2 (h : wideB (p1, p2)) w => dot_c d1 d2 K p1 p2 w hd h)
  obtain ⟨A, ca, rfl, hal⟩ := ha.shapeH
  obtain ⟨B, cb, rfl, hbl⟩ := hb.shapeH
  have HA := Lib.hid ha
  have HB := Lib.hid hb
  have HWA := Lib.hid hwa
  have HWB := Lib.hid hwb
  clear ha hb hwa hwb
  unfold lnV at *
  go_enter Try.func53, Try.ntmps53
  go_wp2
  have b0 := World.alloc_heap_new w (.cells #[.int .i64 d1, .int .i64 d2, .int .i64 K] 43)
  have eW : Ext w (w.alloc (.cells #[.int .i64 d1, .int .i64 d2, .int .i64 K] 43)) := (Ext.refl w).alloc _
  generalize (w.alloc (.cells #[.int .i64 d1, .int .i64 d2, .int .i64 K] 43)) = W at *
  have HB0 := Lib.hid b0
  have HEW := Lib.hid eW
  clear b0 eW
  go_loopw [7] (fun i wr => ∃ k : Nat, k ≤ a.length ∧ i = .int .i64 k ∧ (a.take k).all (fun p => decide (dotP (d1, d2) p ≤ K)) = true ∧ Ext W wr) (fun i _ => a.length - (intOf i).toNat)
  case atStart => exact ⟨0, by omega, rfl, by simp, Ext.refl _⟩
  case round =>
    obtain ⟨k, hk, rfl, hal, hE⟩ := hrel
    have HAL := Lib.hid hal
    clear hal
    have hbl0 := blk_ext HB0.out hE
    have y0 : wr.cell? ⟨w.heap.size, 0, none⟩ = some (.int .i64 d1) := World.news_of_block hbl0 0 _ rfl
    have y1 : wr.cell? ⟨w.heap.size, 1, none⟩ = some (.int .i64 d2) := World.news_of_block hbl0 1 _ rfl
    have y2 : wr.cell? ⟨w.heap.size, 2, none⟩ = some (.int .i64 K) := World.news_of_block hbl0 2 _ rfl
    by_cases hlt : k < a.length
    · have hq : a[k]? = some (a.getD k (0, 0)) := by rw [getD_lt hlt]; exact List.getElem?_eq_getElem hlt
      have hwk := HWA.out (a.getD k (0, 0)) (by rw [getD_lt hlt]; exact List.getElem_mem hlt)
      obtain ⟨bb, off, rfl, x0, x1⟩ := pts_atH (HA.out.ext (HEW.out.trans hE)) rfl hq
      obtain ⟨q, hqd⟩ : ∃ q, a.getD k (0, 0) = q := ⟨_, rfl⟩
      rw [hqd] at hwk x0 x1
      obtain ⟨q1, q2⟩ := q
      simp only at x0 x1
      have D1 := fun w => DC.out q1 q2 hwk w
      have HQ := Lib.hid hqd
      obtain ⟨dd, hdd⟩ : ∃ dd, dotP (d1, d2) (q1, q2) = dd := ⟨_, rfl⟩
      rw [hdd] at D1
      have HDD := Lib.hid hdd
      replace D1 := Lib.hid D1
      have HE := Lib.hid hE
      clear hq hwk hqd hdd
      by_cases hc : dd ≤ K
      · have hc2 : ¬ K < dd := by omega
        go_wp2
        (refine wp_region_ext (C := fun w' => Ext wr w') (by kernel_rfl) (by kernel_rfl) (by (repeat' (first | exact Ext.refl _ | assumption | refine Ext.alloc ?_ _ | refine Ext.drew ?_ | refine Ext.drewN ?_ _ | refine Ext.set ?_ (by first | exact Nat.le_refl _ | exact le1 _ | exact le2 _ | exact le3 _ | exact le4 _ | exact le5 _ | exact le6 _) _ | refine Ext.trans ?_ (by assumption)))) ?_; (repeat (with_reducible refine wpQuiet_step (fun K hK => ?_); go_simp; first | (refine hK _ ?_; clear hK K) | (apply Exists.intro; refine ⟨fun w' hC => ?_, hK _ ?_⟩; (focus first | with_reducible rfl | (have q0 := hC.cell y0; have q1 := hC.cell y1; have q2 := hC.cell y2; have q3 := hC.cell x0; have q4 := hC.cell x1; go_simp; done) | (have q0 := hC.cell y0; have q1 := hC.cell y1; have q2 := hC.cell y2; have q3 := hC.cell x0; have q4 := hC.cell x1; go_simp; exact ⟨rfl, rfl⟩) | (have q0 := hC.cell y0; have q1 := hC.cell y1; have q2 := hC.cell y2; have q3 := hC.cell x0; have q4 := hC.cell x1; go_simp; with_reducible rfl) | (exact (D1.out _).mono fun e w'' ⟨he, hw''⟩ => ⟨he, hC.trans hw''⟩)); clear hK K))); refine wpQuiet_nil ?_; intro wq hEq)
        have HE2 := Lib.hid (hE.trans hEq)
        clear hEq hE y0 y1 y2 x0 x1 D1 hbl0
        go_wp2
        exact ⟨⟨k + 1, by omega, by go_num, all_take_getD hlt HAL.out (by rw [HQ.out]; show decide (dotP (d1, d2) (q1, q2) ≤ K) = true; rw [HDD.out]; exact decide_eq_true hc), HE2.out⟩, by simp [intOf]; omega⟩
      · have hc2 : K < dd := by omega
        go_wp2
        (refine wp_region_ext (C := fun w' => Ext wr w') (by kernel_rfl) (by kernel_rfl) (by (repeat' (first | exact Ext.refl _ | assumption | refine Ext.alloc ?_ _ | refine Ext.drew ?_ | refine Ext.drewN ?_ _ | refine Ext.set ?_ (by first | exact Nat.le_refl _ | exact le1 _ | exact le2 _ | exact le3 _ | exact le4 _ | exact le5 _ | exact le6 _) _ | refine Ext.trans ?_ (by assumption)))) ?_; (repeat (with_reducible refine wpQuiet_step (fun K hK => ?_); go_simp; first | (refine hK _ ?_; clear hK K) | (apply Exists.intro; refine ⟨fun w' hC => ?_, hK _ ?_⟩; (focus first | with_reducible rfl | (have q0 := hC.cell y0; have q1 := hC.cell y1; have q2 := hC.cell y2; have q3 := hC.cell x0; have q4 := hC.cell x1; go_simp; done) | (have q0 := hC.cell y0; have q1 := hC.cell y1; have q2 := hC.cell y2; have q3 := hC.cell x0; have q4 := hC.cell x1; go_simp; exact ⟨rfl, rfl⟩) | (have q0 := hC.cell y0; have q1 := hC.cell y1; have q2 := hC.cell y2; have q3 := hC.cell x0; have q4 := hC.cell x1; go_simp; with_reducible rfl) | (exact (D1.out _).mono fun e w'' ⟨he, hw''⟩ => ⟨he, hC.trans hw''⟩)); clear hK K))); refine wpQuiet_nil ?_; intro wq hEq)
        have HE2 := Lib.hid (hE.trans hEq)
        clear hEq hE y0 y1 y2 x0 x1 D1 hbl0
        go_wp2
        go_ret
        refine ⟨ret_bool (Eq.symm ?_), HEW.out.trans HE2.out⟩
        unfold partsB
        rw [all_of_getD hlt (by rw [HQ.out]; show decide (dotP (d1, d2) (q1, q2) ≤ K) = false; rw [HDD.out]; exact decide_eq_false (by omega))]
        rfl
    · have HAL2 := Lib.hid (show a.all (fun p => decide (dotP (d1, d2) p ≤ K)) = true by have h := HAL.out; rwa [List.take_of_length_le (by omega)] at h)
      clear HAL y0 y1 y2 hbl0
      go_wp2
      obtain ⟨wA, hwA⟩ : ∃ z : World, z = wr := ⟨_, rfl⟩
      subst hwA
      have hE0 := Lib.hid hE
      clear hE
      go_loopw [8] (fun i wr2 => ∃ k : Nat, k ≤ b.length ∧ i = .int .i64 k ∧ (b.take k).all (fun p => decide (K < dotP (d1, d2) p)) = true ∧ Ext W wr2) (fun i _ => b.length - (intOf i).toNat)
      case atStart => exact ⟨0, by omega, rfl, by simp, hE0.out⟩
      case round =>
        obtain ⟨j, hj, rfl, hal, hE⟩ := hrel
        have HAL := Lib.hid hal
        clear hal
        have hbl0 := blk_ext HB0.out hE
        have y0 : wr.cell? ⟨w.heap.size, 0, none⟩ = some (.int .i64 d1) := World.news_of_block hbl0 0 _ rfl
        have y1 : wr.cell? ⟨w.heap.size, 1, none⟩ = some (.int .i64 d2) := World.news_of_block hbl0 1 _ rfl
        have y2 : wr.cell? ⟨w.heap.size, 2, none⟩ = some (.int .i64 K) := World.news_of_block hbl0 2 _ rfl
        by_cases hlt2 : j < b.length
        · have hq : b[j]? = some (b.getD j (0, 0)) := by rw [getD_lt hlt2]; exact List.getElem?_eq_getElem hlt2
          have hwk := HWB.out (b.getD j (0, 0)) (by rw [getD_lt hlt2]; exact List.getElem_mem hlt2)
          obtain ⟨bb, off, rfl, x0, x1⟩ := pts_atH (HB.out.ext (HEW.out.trans hE)) rfl hq
          obtain ⟨q, hqd⟩ : ∃ q, b.getD j (0, 0) = q := ⟨_, rfl⟩
          rw [hqd] at hwk x0 x1
          obtain ⟨q1, q2⟩ := q
          simp only at x0 x1
          have D1 := fun w => DC.out q1 q2 hwk w
          have HQ := Lib.hid hqd
          obtain ⟨dd, hdd⟩ : ∃ dd, dotP (d1, d2) (q1, q2) = dd := ⟨_, rfl⟩
          rw [hdd] at D1
          have HDD := Lib.hid hdd
          replace D1 := Lib.hid D1
          have HE := Lib.hid hE
          clear hq hwk hqd hdd
          by_cases hc : K < dd
          · have hc2 : ¬ dd ≤ K := by omega
            go_wp2
            (refine wp_region_ext (C := fun w' => Ext wr w') (by kernel_rfl) (by kernel_rfl) (by (repeat' (first | exact Ext.refl _ | assumption | refine Ext.alloc ?_ _ | refine Ext.drew ?_ | refine Ext.drewN ?_ _ | refine Ext.set ?_ (by first | exact Nat.le_refl _ | exact le1 _ | exact le2 _ | exact le3 _ | exact le4 _ | exact le5 _ | exact le6 _) _ | refine Ext.trans ?_ (by assumption)))) ?_; (repeat (with_reducible refine wpQuiet_step (fun K hK => ?_); go_simp; first | (refine hK _ ?_; clear hK K) | (apply Exists.intro; refine ⟨fun w' hC => ?_, hK _ ?_⟩; (focus first | with_reducible rfl | (have q0 := hC.cell y0; have q1 := hC.cell y1; have q2 := hC.cell y2; have q3 := hC.cell x0; have q4 := hC.cell x1; go_simp; done) | (have q0 := hC.cell y0; have q1 := hC.cell y1; have q2 := hC.cell y2; have q3 := hC.cell x0; have q4 := hC.cell x1; go_simp; exact ⟨rfl, rfl⟩) | (have q0 := hC.cell y0; have q1 := hC.cell y1; have q2 := hC.cell y2; have q3 := hC.cell x0; have q4 := hC.cell x1; go_simp; with_reducible rfl) | (exact (D1.out _).mono fun e w'' ⟨he, hw''⟩ => ⟨he, hC.trans hw''⟩)); clear hK K))); refine wpQuiet_nil ?_; intro wq hEq)
            have HE2 := Lib.hid (hE.trans hEq)
            clear hEq hE y0 y1 y2 x0 x1 D1 hbl0
            go_wp2
            exact ⟨⟨j + 1, by omega, by go_num, all_take_getD hlt2 HAL.out (by rw [HQ.out]; show decide (K < dotP (d1, d2) (q1, q2)) = true; rw [HDD.out]; exact decide_eq_true hc), HE2.out⟩, by simp [intOf]; omega⟩
          · have hc2 : dd ≤ K := by omega
            go_wp2
            (refine wp_region_ext (C := fun w' => Ext wr w') (by kernel_rfl) (by kernel_rfl) (by (repeat' (first | exact Ext.refl _ | assumption | refine Ext.alloc ?_ _ | refine Ext.drew ?_ | refine Ext.drewN ?_ _ | refine Ext.set ?_ (by first | exact Nat.le_refl _ | exact le1 _ | exact le2 _ | exact le3 _ | exact le4 _ | exact le5 _ | exact le6 _) _ | refine Ext.trans ?_ (by assumption)))) ?_; (repeat (with_reducible refine wpQuiet_step (fun K hK => ?_); go_simp; first | (refine hK _ ?_; clear hK K) | (apply Exists.intro; refine ⟨fun w' hC => ?_, hK _ ?_⟩; (focus first | with_reducible rfl | (have q0 := hC.cell y0; have q1 := hC.cell y1; have q2 := hC.cell y2; have q3 := hC.cell x0; have q4 := hC.cell x1; go_simp; done) | (have q0 := hC.cell y0; have q1 := hC.cell y1; have q2 := hC.cell y2; have q3 := hC.cell x0; have q4 := hC.cell x1; go_simp; exact ⟨rfl, rfl⟩) | (have q0 := hC.cell y0; have q1 := hC.cell y1; have q2 := hC.cell y2; have q3 := hC.cell x0; have q4 := hC.cell x1; go_simp; with_reducible rfl) | (exact (D1.out _).mono fun e w'' ⟨he, hw''⟩ => ⟨he, hC.trans hw''⟩)); clear hK K))); refine wpQuiet_nil ?_; intro wq hEq)
            have HE2 := Lib.hid (hE.trans hEq)
            clear hEq hE y0 y1 y2 x0 x1 D1 hbl0
            go_wp2
            go_ret
            refine ⟨ret_bool (Eq.symm ?_), HEW.out.trans HE2.out⟩
            unfold partsB
            rw [HAL2.out, all_of_getD hlt2 (by rw [HQ.out]; show decide (K < dotP (d1, d2) (q1, q2)) = false; rw [HDD.out]; exact decide_eq_false (by omega))]
            rfl
        · have h := HAL.out
          rw [List.take_of_length_le (by omega)] at h
          have HAL3 := Lib.hid h
          clear h HAL
          go_wp2
          go_ret
          refine ⟨ret_bool (Eq.symm ?_), HEW.out.trans hE⟩
          unfold partsB
          rw [HAL2.out, HAL3.out]
          rfl
end Go.Proofs.Ytlndcpjaeoppmaa
