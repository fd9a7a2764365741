
/- Contracts: X x + Y y, the least line, and whether a line parts, the definition. -/
import Derived.Test.YtlndcpjaeoppmaaHTry
import Derived.Test.YtlndcpjaeoppmaaQTail
namespace Go.Proofs.Ytlndcpjaeoppmaa
open Go.RowKit Go.Shelf

set_option maxHeartbeats 1600000 in
theorem dot_c (d1 d2 K x y : Int) (w : World) (hd : wideD (d1, d2)) (hp : wideB (x, y)) :
    Calls Try.prog 71 #[lnV d1 d2 K, .agg #[.int .i64 x, .int .i64 y]] w fun e w' => e = .returned (.int .i64 (dotP (d1, d2) (x, y))) ∧ Ext w w' := by
  obtain ⟨e1, e2, e3⟩ := dot_wraps hd hp
  simp only at e1 e2 e3
  unfold lnV dotP
  clear hd hp
  go_enter Try.func71, Try.ntmps71
  go_wp2
  go_ret
  exact ⟨rfl, by (repeat' (first | exact Ext.refl _ | assumption | refine Ext.alloc ?_ _ | refine Ext.drew ?_ | refine Ext.drewN ?_ _ | refine Ext.set ?_ (by first | exact Nat.le_refl _ | exact le1 _ | exact le2 _ | exact le3 _ | exact le4 _ | exact le5 _ | exact le6 _) _ | refine Ext.trans ?_ (by assumption)))⟩
theorem hi_in {d : HPt} {l : List HPt} (h0 : l ≠ []) (hd : wideD d) (hw : ∀ p ∈ l, wideB p) : inD (hiP d l) := by
  have key : ∀ (l : List HPt) (m : Int), inD m → (∀ p ∈ l, wideB p) → inD (l.foldl (fun m q => max m (dotP d q)) m) := by
    intro l
    induction l with
    | nil => intro m h _; exact h
    | cons a l ih =>
      intro m h hw
      refine ih _ ?_ (fun p hp => hw p (List.mem_cons_of_mem _ hp))
      have h2 := dot_wide hd (hw a (by simp))
      show inD (max m (dotP d a))
      unfold inD at *
      omega
  rcases l with _ | ⟨a, l⟩
  · exact absurd rfl h0
  · exact key l _ (dot_wide hd (hw a (by simp))) (fun p hp => hw p (List.mem_cons_of_mem _ hp))
theorem blk_setH {W : World} {b : Nat} {t : TypeId} {cs : Array Value} (i : Nat) (u : Value) (h : W.heap[b]? = some (.cells cs t (0, 0))) : (W.setCell ⟨b, i, none⟩ u).heap[b]? = some (.cells (cs.setIfInBounds i u) t (0, 0)) := by
  obtain ⟨hlt, hk⟩ := Array.getElem?_eq_some_iff.1 h
  show (W.heap.modify b _)[b]? = _
  rw [Array.getElem?_eq_getElem (by rw [Array.size_modify]; exact hlt), Array.getElem_modify_self, hk]
  rfl
theorem blk_old {W : World} {b c : Nat} {i : Nat} {u : Value} {o : Obj} (h : W.heap[b]? = some o) (hne : b ≠ c) : (W.setCell ⟨c, i, none⟩ u).heap[b]? = some o := (Below.heap_setCell W ⟨c, i, none⟩ u b hne).trans h
theorem blk_ext {W W' : World} {b : Nat} {o : Obj} (h : W.heap[b]? = some o) (he : Ext W W') : W'.heap[b]? = some o := (he.block b (Array.getElem?_eq_some_iff.1 h).1).trans h
set_option maxRecDepth 100000 in
set_option maxHeartbeats 1600000 in
theorem level_c (d1 d2 : Int) (v : Value) (l : List HPt) (w : World) (hp : Pts w v l) (h0 : 0 < l.length) (hd : wideD (d1, d2)) (hw : ∀ p ∈ l, wideB p) :
    Calls Try.prog 84 #[lnV d1 d2 0, v] w fun e w' => e = .returned (lnV d1 d2 (hiP (d1, d2) l)) ∧ Ext w w' := by
  have DC := Lib.hid (fun K p1 p2 w (h : wideB (p1, p2)) => dot_c d1 d2 K p1 p2 w hd h)
  rcases hp with ⟨a0, c0, rfl, rfl⟩ | ⟨b, off, cap, rfl, hl, hcap, hc⟩
  · simp at h0
  · have HC := Lib.hid hc
    have HW := Lib.hid hw
    have c0 := (hc 0 h0).1
    have c1 := (hc 0 h0).2
    have hw0 := hw (l.getD 0 (0, 0)) (by rw [getD_lt h0]; exact List.getElem_mem h0)
    have hhi : hiP (d1, d2) (l.take 1) = dotP (d1, d2) (l.getD 0 (0, 0)) := by
      rcases l with _ | ⟨a, l⟩
      · simp at h0
      · rfl
    generalize l.getD 0 (0, 0) = p at *
    obtain ⟨x, y⟩ := p
    simp only [Nat.zero_mul, Nat.add_zero] at c0 c1
    have D0 := Lib.hid (fun K w => DC.out K x y w hw0)
    have HLH := Lib.hid hhi
    clear hc hw hhi hw0
    have h0' : (0 : Int) < (l.length : Int) := by omega
    have lb := World.block_lt_of_cell? _ _ c0
    simp only at lb
    unfold lnV at *
    go_enter Try.func84, Try.ntmps84
    go_wp2
    have b0 : ((w.alloc (.cells #[.int .i64 d1, .int .i64 d2, .int .i64 0] 43)).alloc (.cells #[.int .i64 0, .int .i64 0, .int .i64 0] 43)).heap[w.heap.size]? = some (.cells #[.int .i64 d1, .int .i64 d2, .int .i64 0] 43 (0, 0)) := heap2_first _ _ _
    have r0 : ((w.alloc (.cells #[.int .i64 d1, .int .i64 d2, .int .i64 0] 43)).alloc (.cells #[.int .i64 0, .int .i64 0, .int .i64 0] 43)).heap[w.heap.size + 1]? = some (.cells #[.int .i64 0, .int .i64 0, .int .i64 0] 43 (0, 0)) := heap2_second _ _ _
    have eW : Ext w ((w.alloc (.cells #[.int .i64 d1, .int .i64 d2, .int .i64 0] 43)).alloc (.cells #[.int .i64 0, .int .i64 0, .int .i64 0] 43)) := ((Ext.refl w).alloc _).alloc _
    generalize ((w.alloc (.cells #[.int .i64 d1, .int .i64 d2, .int .i64 0] 43)).alloc (.cells #[.int .i64 0, .int .i64 0, .int .i64 0] 43)) = W at *
    have y0 : W.cell? ⟨w.heap.size, 0, none⟩ = some (.int .i64 d1) := World.news_of_block b0 0 _ rfl
    have y1 : W.cell? ⟨w.heap.size, 1, none⟩ = some (.int .i64 d2) := World.news_of_block b0 1 _ rfl
    have y2 : W.cell? ⟨w.heap.size, 2, none⟩ = some (.int .i64 0) := World.news_of_block b0 2 _ rfl
    have c0W := eW.cell c0
    have c1W := eW.cell c1
    have f2 := blk_frzH b0 2
    (refine Tail.wp_region_qtail (C := fun w' => Ext W w') 6 (by kernel_rfl) (by kernel_rfl) (fun _ _ _ _ _ h => h) (by (repeat' (first | exact Ext.refl _ | assumption | refine Ext.alloc ?_ _ | refine Ext.drew ?_ | refine Ext.drewN ?_ _ | refine Ext.set ?_ (by first | exact Nat.le_refl _ | exact le1 _ | exact le2 _ | exact le3 _ | exact le4 _ | exact le5 _ | exact le6 _) _ | refine Ext.trans ?_ (by assumption)))) ?_; simp only [List.take_succ_cons, List.take_zero, List.drop_succ_cons, List.drop_zero]; (repeat (with_reducible refine wpQuiet_step (fun K hK => ?_); go_simp; first | (refine hK _ ?_; clear hK K) | (apply Exists.intro; refine ⟨fun w' hC => ?_, hK _ ?_⟩; (focus first | with_reducible rfl | (have q0 := hC.cell y0; have q1 := hC.cell y1; have q2 := hC.cell y2; have q3 := hC.cell c0W; have q4 := hC.cell c1W; go_simp; done) | (have q0 := hC.cell y0; have q1 := hC.cell y1; have q2 := hC.cell y2; have q3 := hC.cell c0W; have q4 := hC.cell c1W; go_simp; exact ⟨rfl, rfl⟩) | (have q0 := hC.cell y0; have q1 := hC.cell y1; have q2 := hC.cell y2; have q3 := hC.cell c0W; have q4 := hC.cell c1W; go_simp; with_reducible rfl) | (exact (D0.out _ _).mono fun e w'' ⟨he, hw''⟩ => ⟨he, hC.trans hw''⟩)); clear hK K))); refine wpQuiet_nil ?_; intro wq hEq)
    have b1 := blk_ext b0 hEq
    have r1 := blk_ext r0 hEq
    have f2q := blk_frzH b1 2
    have y2q : wq.cell? ⟨w.heap.size, 2, none⟩ = some (.int .i64 0) := World.news_of_block b1 2 _ rfl
    have b2 := blk_setH 2 (.int .i64 (dotP (d1, d2) (x, y))) b1
    have r2 := blk_old (c := w.heap.size) (i := 2) (u := .int .i64 (dotP (d1, d2) (x, y))) r1 (Nat.succ_ne_self _)
    have E2 := Lib.hid ((eW.trans hEq).set (p := ⟨w.heap.size, 2, none⟩) (Nat.le_refl _) (.int .i64 (dotP (d1, d2) (x, y))))
    have HB2 := Lib.hid (And.intro b2 r2)
    clear b0 r0 y0 y1 y2 c0W c1W f2 b1 r1 b2 r2 hEq eW D0
    go_wp2
    go_loopw [5] (fun i wr => ∃ k : Nat, 1 ≤ k ∧ k ≤ l.length ∧ i = .int .i64 k ∧ wr.heap[w.heap.size]? = some (.cells #[.int .i64 d1, .int .i64 d2, .int .i64 (hiP (d1, d2) (l.take k))] 43 (0, 0)) ∧ wr.heap[w.heap.size + 1]? = some (.cells #[.int .i64 0, .int .i64 0, .int .i64 0] 43 (0, 0)) ∧ Ext w wr) (fun i _ => l.length - (intOf i).toNat)
    case atStart => exact ⟨1, by omega, h0, rfl, by rw [HLH.out]; exact HB2.out.1, HB2.out.2, E2.out⟩
    case round =>
      obtain ⟨k, hk1, hk, rfl, hb, hr, hE⟩ := hrel
      have y0 : wr.cell? ⟨w.heap.size, 0, none⟩ = some (.int .i64 d1) := World.news_of_block hb 0 _ rfl
      have y1 : wr.cell? ⟨w.heap.size, 1, none⟩ = some (.int .i64 d2) := World.news_of_block hb 1 _ rfl
      have y2 : wr.cell? ⟨w.heap.size, 2, none⟩ = some (.int .i64 (hiP (d1, d2) (l.take k))) := World.news_of_block hb 2 _ rfl
      by_cases hlt : k < l.length
      · have x0 := hE.cell (HC.out k hlt).1
        have x1 := hE.cell (HC.out k hlt).2
        have hwk := HW.out (l.getD k (0, 0)) (by rw [getD_lt hlt]; exact List.getElem_mem hlt)
        have htk : l.take (k + 1) = l.take k ++ [l.getD k (0, 0)] := by rw [getD_lt hlt]; exact List.take_succ_eq_append_getElem hlt
        have hhi := hi_snoc (d1, d2) (l := l.take k) (List.ne_nil_of_length_pos (by rw [List.length_take]; omega)) (l.getD k (0, 0))
        rw [← htk] at hhi
        generalize l.getD k (0, 0) = q at *
        obtain ⟨q1, q2⟩ := q
        simp only at x0 x1
        have D1 := Lib.hid (fun K w => DC.out K q1 q2 w hwk)
        have HHI := Lib.hid hhi
        obtain ⟨M, hM⟩ : ∃ M, hiP (d1, d2) (l.take k) = M := ⟨_, rfl⟩
        rw [hM] at y2 hb hhi
        obtain ⟨dd, hdd⟩ : ∃ dd, dotP (d1, d2) (q1, q2) = dd := ⟨_, rfl⟩
        rw [hdd] at D1 hhi
        have HM := Lib.hid hhi
        clear hhi htk hwk hM hdd HHI
        go_wp2
        (refine Tail.wp_region_qtail (C := fun w' => Ext wr w') 10 (by kernel_rfl) (by kernel_rfl) (fun _ _ _ _ _ h => h) (by (repeat' (first | exact Ext.refl _ | assumption | refine Ext.alloc ?_ _ | refine Ext.drew ?_ | refine Ext.drewN ?_ _ | refine Ext.set ?_ (by first | exact Nat.le_refl _ | exact le1 _ | exact le2 _ | exact le3 _ | exact le4 _ | exact le5 _ | exact le6 _) _ | refine Ext.trans ?_ (by assumption)))) ?_; simp only [List.take_succ_cons, List.take_zero, List.drop_succ_cons, List.drop_zero]; (repeat (with_reducible refine wpQuiet_step (fun K hK => ?_); go_simp; first | (refine hK _ ?_; clear hK K) | (apply Exists.intro; refine ⟨fun w' hC => ?_, hK _ ?_⟩; (focus first | with_reducible rfl | (have q0 := hC.cell y0; have q1 := hC.cell y1; have q2 := hC.cell y2; have q3 := hC.cell x0; have q4 := hC.cell x1; go_simp; done) | (have q0 := hC.cell y0; have q1 := hC.cell y1; have q2 := hC.cell y2; have q3 := hC.cell x0; have q4 := hC.cell x1; go_simp; exact ⟨rfl, rfl⟩) | (have q0 := hC.cell y0; have q1 := hC.cell y1; have q2 := hC.cell y2; have q3 := hC.cell x0; have q4 := hC.cell x1; go_simp; with_reducible rfl) | (exact (D1.out _ _).mono fun e w'' ⟨he, hw''⟩ => ⟨he, hC.trans hw''⟩)); clear hK K))); refine wpQuiet_nil ?_; intro wq hEq)
        have b1 := blk_ext hb hEq
        have r1 := blk_ext hr hEq
        have f2q := blk_frzH b1 2
        have y2q : wq.cell? ⟨w.heap.size, 2, none⟩ = some (.int .i64 M) := World.news_of_block b1 2 _ rfl
        have b2 := blk_setH 2 (.int .i64 (max M dd)) b1
        have r2 := blk_old (c := w.heap.size) (i := 2) (u := .int .i64 (max M dd)) r1 (Nat.succ_ne_self _)
        have E2 := Lib.hid ((hE.trans hEq).set (p := ⟨w.heap.size, 2, none⟩) (Nat.le_refl _) (.int .i64 (max M dd)))
        have HB2 := Lib.hid (And.intro b2 r2)
        clear b1 r1 b2 r2 hEq hE hb hr y0 y1 y2 x0 x1 D1
        go_wp2
        exact ⟨⟨k + 1, by omega, by omega, by go_num, by rw [HM.out]; exact HB2.out.1, HB2.out.2, E2.out⟩, by simp [intOf]; omega⟩
      · have hkk : l.take k = l := List.take_of_length_le (by omega)
        rw [hkk] at y2 hb
        have fr0 := blk_frzH hr 0
        have fr1 := blk_frzH hr 1
        have fr2 := blk_frzH hr 2
        have s0 : wr.cell? ⟨w.heap.size + 1, 0, none⟩ = some (.int .i64 0) := World.news_of_block hr 0 _ rfl
        have s1 : wr.cell? ⟨w.heap.size + 1, 1, none⟩ = some (.int .i64 0) := World.news_of_block hr 1 _ rfl
        have s2 : wr.cell? ⟨w.heap.size + 1, 2, none⟩ = some (.int .i64 0) := World.news_of_block hr 2 _ rfl
        obtain ⟨M, hM⟩ : ∃ M, hiP (d1, d2) l = M := ⟨_, rfl⟩
        rw [hM] at y2
        have HMM := Lib.hid hM
        clear hM hkk hb
        go_wp2
        have hF := blk_setH 2 (.int .i64 M) (blk_setH 1 (.int .i64 d2) (blk_setH 0 (.int .i64 d1) hr))
        simp only [List.setIfInBounds_toArray, List.set_cons_zero, List.set_cons_succ] at hF
        have EF := ((hE.set (p := ⟨w.heap.size + 1, 0, none⟩) (Nat.le_succ _) (.int .i64 d1)).set (p := ⟨w.heap.size + 1, 1, none⟩) (Nat.le_succ _) (.int .i64 d2)).set (p := ⟨w.heap.size + 1, 2, none⟩) (Nat.le_succ _) (.int .i64 M)
        generalize (((wr.setCell ⟨w.heap.size + 1, 0, none⟩ (.int .i64 d1)).setCell ⟨w.heap.size + 1, 1, none⟩ (.int .i64 d2)).setCell ⟨w.heap.size + 1, 2, none⟩ (.int .i64 M)) = WF at *
        have q0 : WF.cell? ⟨w.heap.size + 1, 0, none⟩ = some (.int .i64 d1) := World.news_of_block hF 0 _ rfl
        have q1 : WF.cell? ⟨w.heap.size + 1, 1, none⟩ = some (.int .i64 d2) := World.news_of_block hF 1 _ rfl
        have q2 : WF.cell? ⟨w.heap.size + 1, 2, none⟩ = some (.int .i64 M) := World.news_of_block hF 2 _ rfl
        exact bodyPost_ret (v := .agg #[.int .i64 d1, .int .i64 d2, .int .i64 M]) (by simp [results, Try.results84, go_sem, q0, q1, q2]) rfl ⟨by rw [HMM.out], EF⟩
end Go.Proofs.Ytlndcpjaeoppmaa
