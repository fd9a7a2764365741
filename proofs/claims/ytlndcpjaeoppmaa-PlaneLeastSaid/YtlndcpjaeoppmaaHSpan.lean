
/- Contracts: the least and the greatest X x + Y y of points. -/
import Derived.Test.YtlndcpjaeoppmaaHRef
namespace Go.Proofs.Ytlndcpjaeoppmaa
open Go.RowKit Go.Shelf

def dotP (d p : HPt) : Int := d.1 * p.1 + d.2 * p.2
def hiP (d : HPt) : List HPt → Int
  | [] => 0
  | p :: l => l.foldl (fun m q => max m (dotP d q)) (dotP d p)
def loP (d : HPt) : List HPt → Int
  | [] => 0
  | p :: l => l.foldl (fun m q => min m (dotP d q)) (dotP d p)
/-- directions for which X x + Y y is right -/
def wideD (d : HPt) : Prop := (-1073741824 ≤ d.1 ∧ d.1 ≤ 1073741824) ∧ (-1073741824 ≤ d.2 ∧ d.2 ≤ 1073741824)
def inD (x : Int) : Prop := -1152921504606846976 ≤ x ∧ x ≤ 1152921504606846976
theorem mul_wide {u v : Int} (h1 : -1073741824 ≤ u ∧ u ≤ 1073741824) (h2 : -536870912 ≤ v ∧ v ≤ 536870912) : -576460752303423488 ≤ u * v ∧ u * v ≤ 576460752303423488 := by
  have a1 : (1073741824 - u) * (536870912 + v) ≥ 0 := Int.mul_nonneg (by omega) (by omega)
  have a2 : (1073741824 + u) * (536870912 - v) ≥ 0 := Int.mul_nonneg (by omega) (by omega)
  have a3 : (1073741824 - u) * (536870912 - v) ≥ 0 := Int.mul_nonneg (by omega) (by omega)
  have a4 : (1073741824 + u) * (536870912 + v) ≥ 0 := Int.mul_nonneg (by omega) (by omega)
  simp only [Int.sub_mul, Int.add_mul, Int.mul_sub, Int.mul_add] at a1 a2 a3 a4
  omega
theorem dot_wide {d p : HPt} (hd : wideD d) (hp : wideB p) : inD (dotP d p) := by
  have h1 := mul_wide hd.1 hp.1
  have h2 := mul_wide hd.2 hp.2
  unfold inD dotP
  omega
theorem dot_wraps {d p : HPt} (hd : wideD d) (hp : wideB p) : IntKind.i64.wrap (d.1 * p.1) = d.1 * p.1 ∧ IntKind.i64.wrap (d.2 * p.2) = d.2 * p.2 ∧ IntKind.i64.wrap (d.1 * p.1 + d.2 * p.2) = d.1 * p.1 + d.2 * p.2 := by
  have h1 := mul_wide hd.1 hp.1
  have h2 := mul_wide hd.2 hp.2
  exact ⟨IntWalk.i64_in _ (by omega), IntWalk.i64_in _ (by omega), IntWalk.i64_in _ (by omega)⟩
theorem hi_snoc (d : HPt) {l : List HPt} (h : l ≠ []) (x : HPt) : hiP d (l ++ [x]) = max (hiP d l) (dotP d x) := by
  rcases l with _ | ⟨a, l⟩
  · exact absurd rfl h
  · simp [hiP, List.foldl_append]
theorem lo_snoc (d : HPt) {l : List HPt} (h : l ≠ []) (x : HPt) : loP d (l ++ [x]) = min (loP d l) (dotP d x) := by
  rcases l with _ | ⟨a, l⟩
  · exact absurd rfl h
  · simp [loP, List.foldl_append]
set_option maxRecDepth 100000 in
set_option maxHeartbeats 1600000 in
theorem span_c (d1 d2 K : Int) (v : Value) (l : List HPt) (w : World) (hp : Pts w v l) (h0 : 0 < l.length) (hd : wideD (d1, d2)) (hw : ∀ p ∈ l, wideB p) :
    Calls Try.prog 52 #[.agg #[.int .i64 d1, .int .i64 d2, .int .i64 K], v] w fun e w' => e = .returned (.tuple #[.int .i64 (loP (d1, d2) l), .int .i64 (hiP (d1, d2) l)]) ∧ Ext w w' := by
  rcases hp with ⟨a0, c0, rfl, rfl⟩ | ⟨b, off, cap, rfl, hl, hcap, hc⟩
  · simp at h0
  · have HC := Lib.hid hc
    have HW := Lib.hid hw
    have c0 := (hc 0 h0).1
    have c1 := (hc 0 h0).2
    have hw0 := hw (l.getD 0 (0, 0)) (by rw [getD_lt h0]; exact List.getElem_mem h0)
    have hlo : loP (d1, d2) (l.take 1) = dotP (d1, d2) (l.getD 0 (0, 0)) := by
      rcases l with _ | ⟨a, l⟩
      · simp at h0
      · rfl
    have hhi : hiP (d1, d2) (l.take 1) = dotP (d1, d2) (l.getD 0 (0, 0)) := by
      rcases l with _ | ⟨a, l⟩
      · simp at h0
      · rfl
    generalize l.getD 0 (0, 0) = p at *
    obtain ⟨x, y⟩ := p
    simp only [Nat.zero_mul, Nat.add_zero] at c0 c1
    obtain ⟨e1, e2, e3⟩ := dot_wraps hd hw0
    simp only at e1 e2 e3
    have HLH := Lib.hid (And.intro hlo hhi)
    clear hc hw hlo hhi hw0
    have h0' : (0 : Int) < (l.length : Int) := by omega
    have lb := World.block_lt_of_cell? _ _ c0
    simp only at lb
    have hcb : (1 : Int) ≤ (cap : Int) := by omega
    obtain ⟨D, hD⟩ : ∃ D, d1 * x + d2 * y = D := ⟨_, rfl⟩
    have hD2 : dotP (d1, d2) (x, y) = D := hD
    rw [hD2] at HLH
    rw [hD] at e3
    clear hD2
    by_cases h1 : l.length = 1
    · have hlt : l.take 1 = l := List.take_of_length_le (by omega)
      rw [hlt] at HLH
      rw [HLH.out.1, HLH.out.2]
      clear hlt HLH HC HW
      have h1' := h1
      simp only [h1] at *
      go_enter Try.func52, Try.ntmps52
      go_wp2
      have b0 : (w.alloc (.cells #[.int .i64 d1, .int .i64 d2, .int .i64 K] 43)).cell? ⟨w.heap.size, 0, none⟩ = some (.int .i64 d1) := World.cell?_alloc_new _ _ _ _
      have b1 : (w.alloc (.cells #[.int .i64 d1, .int .i64 d2, .int .i64 K] 43)).cell? ⟨w.heap.size, 1, none⟩ = some (.int .i64 d2) := World.cell?_alloc_new _ _ _ _
      have eW : Ext w (w.alloc (.cells #[.int .i64 d1, .int .i64 d2, .int .i64 K] 43)) := (Ext.refl w).alloc _
      generalize (w.alloc (.cells #[.int .i64 d1, .int .i64 d2, .int .i64 K] 43)) = W at *
      have c0W := eW.cell c0
      have c1W := eW.cell c1
      (refine wp_region_ext (C := fun w' => Ext W w') (by kernel_rfl) (by kernel_rfl) (by (repeat' (first | exact Ext.refl _ | assumption | refine Ext.alloc ?_ _ | refine Ext.drew ?_ | refine Ext.drewN ?_ _ | refine Ext.set ?_ (by first | exact Nat.le_refl _ | exact le1 _ | exact le2 _ | exact le3 _ | exact le4 _ | exact le5 _ | exact le6 _) _ | refine Ext.trans ?_ (by assumption)))) ?_; (repeat (with_reducible refine wpQuiet_step (fun K hK => ?_); go_simp; first | (refine hK _ ?_; clear hK K) | (apply Exists.intro; refine ⟨fun w' hC => ?_, hK _ ?_⟩; (focus first | with_reducible rfl | (have q0 := hC.cell b0; have q1 := hC.cell b1; have q2 := hC.cell c0W; have q3 := hC.cell c1W; go_simp; done) | (have q0 := hC.cell b0; have q1 := hC.cell b1; have q2 := hC.cell c0W; have q3 := hC.cell c1W; go_simp; exact ⟨rfl, rfl⟩) | (have q0 := hC.cell b0; have q1 := hC.cell b1; have q2 := hC.cell c0W; have q3 := hC.cell c1W; go_simp; with_reducible rfl)); clear hK K))); refine wpQuiet_nil ?_; intro wq hEq)
      have b0q := hEq.cell b0
      have b1q := hEq.cell b1
      have HEQ := Lib.hid (eW.trans hEq)
      clear b0 b1 c0W c1W hEq eW c0 c1
      go_wp2
      all_goals
        have hD9 := Lib.hid hD
        clear hD
        go_loopw [44, 6, 7] (fun i lo hi wr => i = .int .i64 0 ∧ lo = .int .i64 D ∧ hi = .int .i64 D ∧ wr = wq) (fun _ _ _ _ => 0)
        case atStart => exact ⟨rfl, rfl, rfl, rfl⟩
        case round =>
          obtain ⟨rfl, rfl, rfl, rfl⟩ := hrel
          go_wp2
          exact bodyPost_ret (v := .tuple #[.int .i64 D, .int .i64 D]) (by simp [results, Try.results52, go_sem]) rfl ⟨rfl, HEQ.out⟩
    · have hl2 : 2 ≤ l.length := by omega
      have hcc : ¬ cap = 1 := by omega
      have hcc2 : ¬ (cap : Int) = 1 := by omega
      go_enter Try.func52, Try.ntmps52
      go_wp2
      have b0 : (w.alloc (.cells #[.int .i64 d1, .int .i64 d2, .int .i64 K] 43)).cell? ⟨w.heap.size, 0, none⟩ = some (.int .i64 d1) := World.cell?_alloc_new _ _ _ _
      have b1 : (w.alloc (.cells #[.int .i64 d1, .int .i64 d2, .int .i64 K] 43)).cell? ⟨w.heap.size, 1, none⟩ = some (.int .i64 d2) := World.cell?_alloc_new _ _ _ _
      have eW : Ext w (w.alloc (.cells #[.int .i64 d1, .int .i64 d2, .int .i64 K] 43)) := (Ext.refl w).alloc _
      generalize (w.alloc (.cells #[.int .i64 d1, .int .i64 d2, .int .i64 K] 43)) = W at *
      have c0W := eW.cell c0
      have c1W := eW.cell c1
      (refine wp_region_ext (C := fun w' => Ext W w') (by kernel_rfl) (by kernel_rfl) (by (repeat' (first | exact Ext.refl _ | assumption | refine Ext.alloc ?_ _ | refine Ext.drew ?_ | refine Ext.drewN ?_ _ | refine Ext.set ?_ (by first | exact Nat.le_refl _ | exact le1 _ | exact le2 _ | exact le3 _ | exact le4 _ | exact le5 _ | exact le6 _) _ | refine Ext.trans ?_ (by assumption)))) ?_; (repeat (with_reducible refine wpQuiet_step (fun K hK => ?_); go_simp; first | (refine hK _ ?_; clear hK K) | (apply Exists.intro; refine ⟨fun w' hC => ?_, hK _ ?_⟩; (focus first | with_reducible rfl | (have q0 := hC.cell b0; have q1 := hC.cell b1; have q2 := hC.cell c0W; have q3 := hC.cell c1W; go_simp; done) | (have q0 := hC.cell b0; have q1 := hC.cell b1; have q2 := hC.cell c0W; have q3 := hC.cell c1W; go_simp; exact ⟨rfl, rfl⟩) | (have q0 := hC.cell b0; have q1 := hC.cell b1; have q2 := hC.cell c0W; have q3 := hC.cell c1W; go_simp; with_reducible rfl)); clear hK K))); refine wpQuiet_nil ?_; intro wq hEq)
      have b0q := hEq.cell b0
      have b1q := hEq.cell b1
      have HEQ := Lib.hid (eW.trans hEq)
      clear b0 b1 c0W c1W hEq eW c0 c1
      go_wp2
      have hD9 := Lib.hid hD
      clear hD
      have hlN : ((l.length - 1 : Nat) : Int) = (l.length : Int) - 1 := by omega
      go_loopw [44, 6, 7] (fun i lo hi wr => ∃ k : Nat, k + 1 ≤ l.length ∧ i = .int .i64 k ∧ lo = .int .i64 (loP (d1, d2) (l.take (k + 1))) ∧ hi = .int .i64 (hiP (d1, d2) (l.take (k + 1))) ∧ Ext wq wr) (fun i _ _ _ => l.length - (intOf i).toNat)
      case atStart => exact ⟨0, by omega, rfl, by rw [HLH.out.1], by rw [HLH.out.2], Ext.refl _⟩
      case round =>
        obtain ⟨k, hk, rfl, rfl, rfl, hE⟩ := hrel
        have HE := Lib.hid (HEQ.out.trans hE)
        have HE2 := Lib.hid hE
        have d0 := hE.cell b0q
        have d1' := hE.cell b1q
        clear hE
        by_cases hlt : k + 1 < l.length
        · have x0 := HE.out.cell (HC.out (k + 1) hlt).1
          have x1 := HE.out.cell (HC.out (k + 1) hlt).2
          have hwk := HW.out (l.getD (k + 1) (0, 0)) (by rw [getD_lt hlt]; exact List.getElem_mem hlt)
          have htk : l.take (k + 1 + 1) = l.take (k + 1) ++ [l.getD (k + 1) (0, 0)] := by rw [getD_lt hlt]; exact List.take_succ_eq_append_getElem hlt
          have hlo := lo_snoc (d1, d2) (l := l.take (k + 1)) (List.ne_nil_of_length_pos (by rw [List.length_take]; omega)) (l.getD (k + 1) (0, 0))
          have hhi := hi_snoc (d1, d2) (l := l.take (k + 1)) (List.ne_nil_of_length_pos (by rw [List.length_take]; omega)) (l.getD (k + 1) (0, 0))
          rw [← htk] at hlo hhi
          generalize l.getD (k + 1) (0, 0) = q at *
          obtain ⟨q1, q2⟩ := q
          simp only at x0 x1
          obtain ⟨f1, f2, f3⟩ := dot_wraps hd hwk
          simp only at f1 f2 f3
          have HLO := Lib.hid (And.intro hlo hhi)
          have hk1 : k < l.length - 1 := by omega
          have hofs : off + (k + 1) * 2 = off + 2 + k * 2 := by omega
          rw [hofs] at x0 x1
          have ld := World.block_lt_of_cell? _ _ d0
          simp only at ld
          clear hlo hhi htk hwk hofs
          go_wp2
          refine ⟨⟨k + 1, by omega, by go_num, ?_, ?_, by (repeat' (first | exact Ext.refl _ | assumption | refine Ext.alloc ?_ _ | refine Ext.drew ?_ | refine Ext.drewN ?_ _ | refine Ext.set ?_ (by first | exact Nat.le_refl _ | exact le1 _ | exact le2 _ | exact le3 _ | exact le4 _ | exact le5 _ | exact le6 _) _ | refine Ext.trans ?_ (by assumption)))⟩, by simp [intOf]; omega⟩
          · rw [HLO.out.1]
            rfl
          · rw [HLO.out.2]
            rfl
        · have hk2 : k = l.length - 1 := by omega
          have hkk : l.take (k + 1) = l := List.take_of_length_le (by omega)
          rw [hkk]
          subst hk2
          go_wp2
          exact bodyPost_ret (v := .tuple #[.int .i64 (loP (d1, d2) l), .int .i64 (hiP (d1, d2) l)]) (by simp [results, Try.results52, go_sem]) rfl ⟨rfl, HE.out⟩
end Go.Proofs.Ytlndcpjaeoppmaa
