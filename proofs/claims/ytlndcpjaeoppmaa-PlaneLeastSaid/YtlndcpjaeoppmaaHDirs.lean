
/- Contract: the directions in which a line is looked for, the definition. -/
import Derived.Test.YtlndcpjaeoppmaaHParts
import Derived.Test.YtlndcpjaeoppmaaHLns
namespace Go.Proofs.Ytlndcpjaeoppmaa
open Go.RowKit Go.Shelf

/-- the corner behind the i-th one -/
def nxtP (h : List HPt) (i : Nat) : HPt := h.getD ((i + 1) % h.length) (0, 0)
/-- the side behind the i-th corner -/
def sdP (h : List HPt) (i : Nat) : HPt := ((nxtP h i).1 - (h.getD i (0, 0)).1, (nxtP h i).2 - (h.getD i (0, 0)).2)
def rdP (s : HPt) : List HPt := [(s.1, s.2), (-s.1, -s.2), (s.2, -s.1), (-s.2, s.1)]
/-- the directions of the definition -/
def rdirs (h : List HPt) : List HPt := (List.range h.length).flatMap (fun i => rdP (sdP h i))
def rdirsK (h : List HPt) (k : Nat) : List HPt := (List.range k).flatMap (fun i => rdP (sdP h i))
theorem rdirsK_succ (h : List HPt) (k : Nat) : rdirsK h (k + 1) = rdirsK h k ++ rdP (sdP h k) := by
  unfold rdirsK
  rw [List.range_succ, List.flatMap_append]
  simp
theorem rdirsK_len (h : List HPt) (k : Nat) : (rdirsK h k).length = k * 4 := by
  induction k with
  | zero => rfl
  | succ k ih => rw [rdirsK_succ, List.length_append, ih]; simp [rdP]; omega
theorem rd_blk (X Y : Int) (W : World) : Dirs (W.alloc (.cells #[.int .i64 X, .int .i64 Y, .int .i64 0, .int .i64 (-X), .int .i64 (-Y), .int .i64 0, .int .i64 Y, .int .i64 (-X), .int .i64 0, .int .i64 (-Y), .int .i64 X, .int .i64 0] 43)) (.slice (some ⟨W.heap.size, 0, none⟩) 4 4) (rdP (X, Y)) :=
  Dirs.blk (l := rdP (X, Y)) (c := 4) (World.alloc_heap_new W _)
set_option maxRecDepth 100000 in
set_option maxHeartbeats 1600000 in
theorem directions_c (v : Value) (h : List HPt) (w : World) (hp : Pts w v h) (hw : ∀ p ∈ h, wideB p) (hn : h.length ≤ 100000) :
    Calls Try.prog 83 #[v] w fun e w' => ∃ v', e = .returned v' ∧ OwnD w.heap.size w' v' (rdirs h) ∧ Ext w w' := by
  rcases hp with ⟨a0, c0, rfl, rfl⟩ | ⟨b, off, cap, rfl, hl, hcap, hc⟩
  · go_enter Try.func83, Try.ntmps83
    go_wp2
    go_loopw [3, 4] (fun o i wr => o = .slice none 0 0 ∧ i = .int .i64 0 ∧ wr = w) (fun _ i _ => 0)
    case atStart => exact ⟨rfl, rfl, rfl⟩
    case round =>
      obtain ⟨rfl, rfl, rfl⟩ := hrel
      go_wp2
      go_ret
      exact ⟨_, rfl, OwnD.none0, Ext.refl _⟩
  · have HC := Lib.hid hc
    have HW := Lib.hid hw
    clear hc hw
    go_enter Try.func83, Try.ntmps83
    go_wp2
    go_loopw [3, 4] (fun o i wr => ∃ (k N : Nat) (A : Option Addr) (c : Nat), k ≤ h.length ∧ i = .int .i64 k ∧ o = .slice A N c ∧ N = k * 4 ∧ OwnD w.heap.size wr (.slice A N c) (rdirsK h k) ∧ Ext w wr) (fun _ i _ => h.length - (intOf i).toNat)
    case atStart => exact ⟨0, 0, none, 0, by omega, rfl, rfl, rfl, OwnD.none0, Ext.refl _⟩
    case round =>
      obtain ⟨k, N, A, c, hk, rfl, rfl, hN, ho, hE⟩ := hrel
      by_cases hlt : k < h.length
      · obtain ⟨M, hM⟩ : ∃ M, (k + 1) % h.length = M := ⟨_, rfl⟩
        have hMl : M < h.length := by rw [← hM]; exact Nat.mod_lt _ (by omega)
        have x0 := hE.cell (HC.out k hlt).1
        have x1 := hE.cell (HC.out k hlt).2
        have z0 := hE.cell (HC.out M hMl).1
        have z1 := hE.cell (HC.out M hMl).2
        have hwk := HW.out (h.getD k (0, 0)) (by rw [getD_lt hlt]; exact List.getElem_mem hlt)
        have hwm := HW.out (h.getD M (0, 0)) (by rw [getD_lt hMl]; exact List.getElem_mem hMl)
        have hsd : sdP h k = ((h.getD M (0, 0)).1 - (h.getD k (0, 0)).1, (h.getD M (0, 0)).2 - (h.getD k (0, 0)).2) := by unfold sdP nxtP; rw [hM]
        generalize h.getD k (0, 0) = p at *
        generalize h.getD M (0, 0) = q at *
        obtain ⟨p1, p2⟩ := p
        obtain ⟨q1, q2⟩ := q
        simp only at x0 x1 z0 z1 hsd
        unfold wideB at hwk hwm
        simp only at hwk hwm
        have e1 := IntWalk.i64_in (q1 - p1) (by omega)
        have e2 := IntWalk.i64_in (q2 - p2) (by omega)
        have e3 := IntWalk.i64_in (-(q1 - p1)) (by omega)
        have e4 := IntWalk.i64_in (-(q2 - p2)) (by omega)
        have hrem : Int.tmod ((k : Int) + 1) (h.length : Int) = (M : Int) := by rw [← hM]; norm_cast
        have hl0 : ¬ (h.length : Int) = 0 := by omega
        have e5 := IntWalk.i64_in ((k : Int) + 1) (by omega)
        have e6 := IntWalk.i64_in (M : Int) (by omega)
        have HO := Lib.hid (And.intro ho hN)
        have HE := Lib.hid hE
        have HSD := Lib.hid hsd
        clear ho hN hwk hwm hsd hM
        go_wp2
        (refine wp_region_ext (C := fun w' => Ext wr w') (by kernel_rfl) (by kernel_rfl) (by (repeat' (first | exact Ext.refl _ | assumption | refine Ext.alloc ?_ _ | refine Ext.drew ?_ | refine Ext.drewN ?_ _ | refine Ext.set ?_ (by first | exact Nat.le_refl _ | exact le1 _ | exact le2 _ | exact le3 _ | exact le4 _ | exact le5 _ | exact le6 _) _ | refine Ext.trans ?_ (by assumption)))) ?_; (repeat (with_reducible refine wpQuiet_step (fun K hK => ?_); go_simp; first | (refine hK _ ?_; clear hK K) | (apply Exists.intro; refine ⟨fun w' hC => ?_, hK _ ?_⟩; (focus first | with_reducible rfl | (have q0 := hC.cell x0; have q1 := hC.cell x1; have q2 := hC.cell z0; have q3 := hC.cell z1; go_simp; done) | (have q0 := hC.cell x0; have q1 := hC.cell x1; have q2 := hC.cell z0; have q3 := hC.cell z1; go_simp; exact ⟨rfl, rfl⟩) | (have q0 := hC.cell x0; have q1 := hC.cell x1; have q2 := hC.cell z0; have q3 := hC.cell z1; go_simp; with_reducible rfl)); clear hK K))); refine wpQuiet_nil ?_; intro wq hEq)
        have x0q := hEq.cell x0
        have x1q := hEq.cell x1
        have z0q := hEq.cell z0
        have z1q := hEq.cell z1
        have HE1 := Lib.hid hEq
        obtain ⟨wB, hwB⟩ : ∃ z : World, z = wq := ⟨_, rfl⟩
        subst hwB
        clear x0 x1 z0 z1 hEq
        go_wp2
        (refine wp_region_ext (C := fun w' => Ext wB w') (by kernel_rfl) (by kernel_rfl) (by (repeat' (first | exact Ext.refl _ | assumption | refine Ext.alloc ?_ _ | refine Ext.drew ?_ | refine Ext.drewN ?_ _ | refine Ext.set ?_ (by first | exact Nat.le_refl _ | exact le1 _ | exact le2 _ | exact le3 _ | exact le4 _ | exact le5 _ | exact le6 _) _ | refine Ext.trans ?_ (by assumption)))) ?_; (repeat (with_reducible refine wpQuiet_step (fun K hK => ?_); go_simp; first | (refine hK _ ?_; clear hK K) | (apply Exists.intro; refine ⟨fun w' hC => ?_, hK _ ?_⟩; (focus first | with_reducible rfl | (have q0 := hC.cell x0q; have q1 := hC.cell x1q; have q2 := hC.cell z0q; have q3 := hC.cell z1q; go_simp; done) | (have q0 := hC.cell x0q; have q1 := hC.cell x1q; have q2 := hC.cell z0q; have q3 := hC.cell z1q; go_simp; exact ⟨rfl, rfl⟩) | (have q0 := hC.cell x0q; have q1 := hC.cell x1q; have q2 := hC.cell z0q; have q3 := hC.cell z1q; go_simp; with_reducible rfl)); clear hK K))); refine wpQuiet_nil ?_; intro wq hEq)
        have HE2 := Lib.hid (HE1.out.trans hEq)
        clear x0q x1q z0q z1q hEq HE1
        have hN := HO.out.2
        have HOQ := HO.out.1.ext HE2.out
        have HEQ := HE.out.trans HE2.out
        have zq := HEQ.sz
        have hNl : (rdirsK h k).length = N := by rw [rdirsK_len, hN]
        have hkb : N ≤ 400000 := by omega
        replace HOQ := Lib.hid HOQ
        replace HEQ := Lib.hid HEQ
        have hR := rdirsK_succ h k
        rw [HSD.out] at hR
        have HR := Lib.hid hR
        clear hR
        obtain ⟨X, hX⟩ : ∃ X, q1 - p1 = X := ⟨_, rfl⟩
        obtain ⟨Y, hY⟩ : ∃ Y, q2 - p2 = Y := ⟨_, rfl⟩
        rw [hX] at e1 e3 HR
        rw [hY] at e2 e4 HR
        go_wp2_with (at_builtin; refine wpList_append_dirs (by rfl) _ _ (by rfl) w.heap.size (.slice A N c) (.slice (some ⟨wq.heap.size, 0, none⟩) 4 4) (rdirsK h k) (rdP (X, Y)) (by rfl) (HOQ.out.ext ((Ext.refl _).alloc _)) (by rfl) (rd_blk X Y _) (by rw [hNl]; simp [rdP]; omega) (by simp; omega) ?_; intro v4 w4 ho4 hg4; have E4 : Ext w w4 := Ext.trans' (w := w) (HEQ.out.alloc _) hg4 (own_ge' HOQ.out); obtain ⟨A4, c4, rfl, _⟩ := ho4.shape; rw [← HR.out, rdirsK_len] at ho4 ⊢; replace ho4 := Lib.hid ho4; replace hg4 := Lib.hid hg4; replace E4 := Lib.hid E4)
        exact ⟨⟨k + 1, (k + 1) * 4, A4, c4, by omega, by go_num, rfl, rfl, ho4.out, E4.out⟩, by simp [intOf]; omega⟩
      · go_wp2
        go_ret
        have hk2 : k = h.length := by omega
        subst hk2
        exact ⟨_, rfl, ho, hE⟩
end Go.Proofs.Ytlndcpjaeoppmaa
