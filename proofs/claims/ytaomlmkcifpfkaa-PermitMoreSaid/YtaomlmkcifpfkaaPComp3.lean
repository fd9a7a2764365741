/- Contracts: 'Compile' and 'find', from newDesk's. -/
import Derived.Test.YtaomlmkcifpfkaaPDesk3
namespace Go.Proofs.Ytaomlmkcifpfkaa
open Go.RowKit Go.Maps
attribute [local go_sem ↓] Go.wp_at_zero Go.wp_at_succ

def CompR (l : List PAuth) (t : PTrip) (w : World) (e : Ending) (w' : World) : Prop :=
  Ext w w' ∧ ((beginE l t ≠ 0 ∧ e = .returned (.tuple #[.agg #[.slice none 0 0, .int .i64 0, .int .i64 0], .int .i64 (beginE l t)])) ∨
    (beginE l t = 0 ∧ ∃ vc, e = .returned (.tuple #[.agg #[vc, .int .i64 (feeS l t), .int .i64 (noticeS l t)], .int .i64 0]) ∧ Sl 3 RCond w' vc (conds l t)))

theorem RRow.set {w0 : World} {B : Nat} {W : World} {cs : List Value} {x : PRules} {p : Addr} {u : Value} (h : RRow w0 B W cs x) (hp : p.block < B) : RRow w0 B (W.setCell p u) cs x := by
  obtain ⟨vl, vn, e, h1, h2⟩ := h
  exact ⟨vl, vn, e, h1.set (fun _ _ h => h) hp, h2.set (fun _ _ h => h) hp⟩

set_option maxHeartbeats 1600000 in
theorem Compile_c (v vp : Value) (l : List PAuth) (t : PTrip) (w : World) (hs : Sl 4 RAuth w v l) (hp : Sl 3 RPass w vp t.passages) :
    Calls Try.prog 14 #[v, tripV t vp] w (CompR l t w) := by
  have C1 := fun w' (h : Ext w w') => newDesk_c v vp l t w' (hs.ext RAuth.stable h) (hp.ext RPass.stable h)
  unfold tripV at *
  obtain ⟨A, cap, rfl, hl, hcap⟩ := hs.shape
  obtain ⟨Ap, capp, rfl, hpl, hcapp⟩ := hp.shape
  clear hs hp
  replace C1 := Lib.hid C1
  obtain ⟨Post, hPost⟩ : ∃ Post, CompR l t w = Post := ⟨_, rfl⟩
  rw [hPost]
  replace hPost := Lib.hid hPost
  go_enter Try.func14, Try.ntmps14
  go_wp2_with fail
  refine (C1.out _ (by (repeat' (first | exact Ext.refl _ | assumption | refine Ext.alloc ?_ _ | refine Ext.drew ?_ | refine Ext.drewN ?_ _ | refine Ext.set ?_ (by first | exact Nat.le_refl _ | exact le1 _ | exact le2 _ | exact le3 _ | exact le4 _ | exact le5 _ | exact le6 _) _ | refine Ext.trans ?_ (by assumption))))).mono ?_
  rintro e w1 ⟨hb1, ⟨hne, rfl⟩ | ⟨h0, D, vc, vd, rfl, d0, d1, d2, d3, hC, hR, hD⟩⟩ <;> obtain ⟨hc1, hf1⟩ := bcell hb1
  · have hne' : (beginE l t != 0) = true := by simp [hne]
    have E1 : Ext w w1 := by (repeat' (first | exact Ext.refl _ | assumption | refine Ext.alloc ?_ _ | refine Ext.drew ?_ | refine Ext.drewN ?_ _ | refine Ext.set ?_ (by first | exact Nat.le_refl _ | exact le1 _ | exact le2 _ | exact le3 _ | exact le4 _ | exact le5 _ | exact le6 _) _ | refine Ext.trans ?_ (by assumption)))
    go_wp2_with fail
    have r0 : (((w1.setCell ⟨w.heap.size + 1, 0, none⟩ (.slice none 0 0)).setCell ⟨w.heap.size + 1, 1, none⟩ (.int .i64 0)).setCell ⟨w.heap.size + 1, 2, none⟩ (.int .i64 0)).cell? ⟨w.heap.size + 1, 0, none⟩ = some (.slice none 0 0) := by go_simp
    have r1 : (((w1.setCell ⟨w.heap.size + 1, 0, none⟩ (.slice none 0 0)).setCell ⟨w.heap.size + 1, 1, none⟩ (.int .i64 0)).setCell ⟨w.heap.size + 1, 2, none⟩ (.int .i64 0)).cell? ⟨w.heap.size + 1, 1, none⟩ = some (.int .i64 0) := by go_simp
    have r2 : (((w1.setCell ⟨w.heap.size + 1, 0, none⟩ (.slice none 0 0)).setCell ⟨w.heap.size + 1, 1, none⟩ (.int .i64 0)).setCell ⟨w.heap.size + 1, 2, none⟩ (.int .i64 0)).cell? ⟨w.heap.size + 1, 2, none⟩ = some (.int .i64 0) := by go_simp
    refine bodyPost_ret (v := .tuple #[.agg #[.slice none 0 0, .int .i64 0, .int .i64 0], .int .i64 (beginE l t)]) (by simp [results, Try.results14, go_sem, r0, r1, r2]) rfl ?_
    rw [← hPost.out]
    exact ⟨by (repeat' (first | exact Ext.refl _ | assumption | refine Ext.alloc ?_ _ | refine Ext.drew ?_ | refine Ext.drewN ?_ _ | refine Ext.set ?_ (by first | exact Nat.le_refl _ | exact le1 _ | exact le2 _ | exact le3 _ | exact le4 _ | exact le5 _ | exact le6 _) _ | refine Ext.trans ?_ (by assumption))), .inl ⟨hne, rfl⟩⟩
  · have E1 : Ext w w1 := by (repeat' (first | exact Ext.refl _ | assumption | refine Ext.alloc ?_ _ | refine Ext.drew ?_ | refine Ext.drewN ?_ _ | refine Ext.set ?_ (by first | exact Nat.le_refl _ | exact le1 _ | exact le2 _ | exact le3 _ | exact le4 _ | exact le5 _ | exact le6 _) _ | refine Ext.trans ?_ (by assumption)))
    have hDD := hD
    rw [size_alloc, size_alloc] at hDD
    obtain ⟨vA, vcap, rfl, hvl, hvcap⟩ := hC.sl.shape
    have hCC := Lib.hid hC
    clear hC hR
    go_wp2_with fail
    have r0 : (((w1.setCell ⟨w.heap.size + 1, 0, none⟩ (.slice vA (conds l t).length vcap)).setCell ⟨w.heap.size + 1, 1, none⟩ (.int .i64 (feeS l t))).setCell ⟨w.heap.size + 1, 2, none⟩ (.int .i64 (noticeS l t))).cell? ⟨w.heap.size + 1, 0, none⟩ = some (.slice vA (conds l t).length vcap) := by go_simp
    have r1 : (((w1.setCell ⟨w.heap.size + 1, 0, none⟩ (.slice vA (conds l t).length vcap)).setCell ⟨w.heap.size + 1, 1, none⟩ (.int .i64 (feeS l t))).setCell ⟨w.heap.size + 1, 2, none⟩ (.int .i64 (noticeS l t))).cell? ⟨w.heap.size + 1, 1, none⟩ = some (.int .i64 (feeS l t)) := by go_simp
    have r2 : (((w1.setCell ⟨w.heap.size + 1, 0, none⟩ (.slice vA (conds l t).length vcap)).setCell ⟨w.heap.size + 1, 1, none⟩ (.int .i64 (feeS l t))).setCell ⟨w.heap.size + 1, 2, none⟩ (.int .i64 (noticeS l t))).cell? ⟨w.heap.size + 1, 2, none⟩ = some (.int .i64 (noticeS l t)) := by go_simp
    refine bodyPost_ret (v := .tuple #[.agg #[(.slice vA (conds l t).length vcap), .int .i64 (feeS l t), .int .i64 (noticeS l t)], .int .i64 0]) (by simp [results, Try.results14, go_sem, r0, r1, r2]) rfl ?_
    rw [← hPost.out]
    exact ⟨by (repeat' (first | exact Ext.refl _ | assumption | refine Ext.alloc ?_ _ | refine Ext.drew ?_ | refine Ext.drewN ?_ _ | refine Ext.set ?_ (by first | exact Nat.le_refl _ | exact le1 _ | exact le2 _ | exact le3 _ | exact le4 _ | exact le5 _ | exact le6 _) _ | refine Ext.trans ?_ (by assumption))), .inr ⟨h0, _, rfl, (((hCC.out.set (fun _ _ h => h) (by simp; omega)).set (fun _ _ h => h) (by simp; omega)).set (fun _ _ h => h) (by simp; omega)).sl⟩⟩
end Go.Proofs.Ytaomlmkcifpfkaa
