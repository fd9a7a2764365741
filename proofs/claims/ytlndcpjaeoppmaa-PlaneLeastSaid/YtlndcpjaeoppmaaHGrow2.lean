
/- Contract: plane.grown. -/
import Derived.Test.YtlndcpjaeoppmaaHGrown
namespace Go.Proofs.Ytlndcpjaeoppmaa
open Go.RowKit Go.Shelf

def growS (t : Int) (h : List HPt) : List HPt := h.flatMap (pgP t)
theorem growS_len (t : Int) (h : List HPt) : (growS t h).length = h.length * 4 := by
  induction h with
  | nil => rfl
  | cons a h ih => rw [show growS t (a :: h) = pgP t a ++ growS t h from rfl, List.length_append, ih]; simp [pgP]; omega
theorem growS_take {t : Int} {h : List HPt} {k : Nat} (hk : k < h.length) : growS t (h.take (k + 1)) = growS t (h.take k) ++ pgP t (h.getD k (0, 0)) := by
  unfold growS
  rw [getD_lt hk, List.take_succ_eq_append_getElem hk, List.flatMap_append]
  simp
theorem growS_corners (t : Int) (h : List HPt) : cornersP (growS t h) = cornersP (growP t h) := corners_mem (pgrow_mem t h)
theorem growS_wide {t : Int} {h : List HPt} (ht : -134217728 ≤ t ∧ t ≤ 134217728) (hm : ∀ p ∈ h, midB p) : ∀ p ∈ growS t h, wideB p := fun p hp => grow_wide ht hm p ((pgrow_mem t h p).1 hp)
/-- an append of one point: where the row lies behind it -/
theorem wpList_append_pt1 {w : World} {ops : Array Oper} {rest : List Oper} {o : Oper} {a : Act} {Q : Exit → Act → World → Prop} (hgd : o.guard = none) (s x : Operand)
    (ho : o.op = .call { callee := .builtin .append, args := #[s, x], argTypes := #[23, 23] })
    (base : Nat) (v : Value) (l : List HPt) (n b px py : _) (hs : a.eval s = v) (hown : OwnP base w v l) (hnl : l.length = n) (hx : a.eval x = .slice (some ⟨b, 0, none⟩) 1 1) (hb : w.heap[b]? = some (.cells #[.int .i64 px, .int .i64 py] 31 (0, 0))) (hn : n + 1 ≤ 8000000) (hbase : base ≤ w.heap.size)
    (h : ∀ g cap w', OwnP base w' (.slice (some ⟨g, 0, none⟩) (n + 1) cap) (l ++ [(px, py)]) → w.grownBy w' v.ownBlock → (v.ownBlock = some g ∨ g = w.heap.size) → wpList Try.prog ops Q rest (a.put o.dst (.slice (some ⟨g, 0, none⟩) (n + 1) cap)) w') : wpList Try.prog ops Q (o :: rest) a w := by
  subst hnl
  obtain ⟨ip, hi0, hii⟩ := Option.map_eq_some_iff.1 infoPoint
  simp only [Prod.mk.injEq] at hii
  obtain ⟨hi1, hi2, hi3⟩ := hii
  have hown' : w.ownsRow base 31 2 v l.length (flatP l) := hown
  refine wpList_append_lies w hgd s x 23 ho base 31 ip _ 2 16 Try.underlying23 hi0 hi1 hi2 hi3 rfl (by decide) v l.length (flatP l) hs hown' ⟨b, 0, none⟩ 1 1 [.int .i64 px, .int .i64 py] hx rfl (World.news_of_block hb) (by simp [Value.oneCell']) (by omega) (by unfold maxLen; omega) (by omega) hbase w.heap.size rfl ?_
  intro g cap w' h1 h2 h3 _
  exact h g cap w' (OwnP.snoc h1) h2 h3
theorem own_lt {w : World} {base : Nat} {e : TypeId} {n m k : Nat} {v : Value} {xs : List Value} (h : w.ownsRow base e n v m xs) (hk : v.ownBlock = some k) : k < w.heap.size := by
  rcases h.2 with ⟨rfl, _⟩ | ⟨g, cap, cur, rfl, _, hg, _⟩
  · simp [Value.ownBlock] at hk
  · have : g = k := by simpa [Value.ownBlock] using hk
    subst this
    exact (Array.getElem?_eq_some_iff.1 hg).1
theorem kept_ne {w w' : World} {v : Value} {k : Nat} {o : Obj} (hg : w.grownBy w' v.ownBlock) (hne : v.ownBlock ≠ some k) (hk : w.heap[k]? = some o) : w'.heap[k]? = some o :=
  (hg.block k (Array.getElem?_eq_some_iff.1 hk).1 hne.symm).trans hk
theorem heap2_old {W : World} {k : Nat} {o o1 o2 : Obj} (h : W.heap[k]? = some o) : ((W.alloc o1).alloc o2).heap[k]? = some o := by
  have hk := (Array.getElem?_eq_some_iff.1 h).1
  exact (Below.heap_alloc (W.alloc o1) o2 k (by rw [size_alloc]; omega)).trans ((Below.heap_alloc W o1 k hk).trans h)
set_option maxRecDepth 100000 in
set_option maxHeartbeats 3200000 in
theorem grown_c (t : Int) (v : Value) (h : List HPt) (w : World) (hp : Pts w v h) (h0 : 0 < h.length) (ht : -134217728 ≤ t ∧ t ≤ 134217728) (hm : ∀ p ∈ h, midB p) (hn : h.length ≤ 10000) :
    Calls Try.prog 47 #[v, .int .i64 t] w fun e w' => ∃ v', e = .returned v' ∧ Pts w' v' (cornersP (growP t h)) ∧ Ext w w' := by
  have HW := Lib.hid (growS_wide ht hm)
  obtain ⟨A0, c0, rfl, hl⟩ := hp.shapeH
  have HP := Lib.hid hp
  have HM := Lib.hid hm
  have et := IntWalk.i64_in (-t) (by omega)
  clear hp hm
  have ix0 : ∀ w, (Instr.index 91 (.agg #[.int .i64 (-t), .int .i64 (-t), .int .i64 (-t), .int .i64 t, .int .i64 t, .int .i64 (-t), .int .i64 t, .int .i64 t]) (.int .i64 0)).run Try.prog w = .ok (.agg #[.int .i64 (-t), .int .i64 (-t)]) w := fun _ => by rfl
  have ix1 : ∀ w, (Instr.index 91 (.agg #[.int .i64 (-t), .int .i64 (-t), .int .i64 (-t), .int .i64 t, .int .i64 t, .int .i64 (-t), .int .i64 t, .int .i64 t]) (.int .i64 1)).run Try.prog w = .ok (.agg #[.int .i64 (-t), .int .i64 t]) w := fun _ => by rfl
  have ix2 : ∀ w, (Instr.index 91 (.agg #[.int .i64 (-t), .int .i64 (-t), .int .i64 (-t), .int .i64 t, .int .i64 t, .int .i64 (-t), .int .i64 t, .int .i64 t]) (.int .i64 2)).run Try.prog w = .ok (.agg #[.int .i64 t, .int .i64 (-t)]) w := fun _ => by rfl
  have ix3 : ∀ w, (Instr.index 91 (.agg #[.int .i64 (-t), .int .i64 (-t), .int .i64 (-t), .int .i64 t, .int .i64 t, .int .i64 (-t), .int .i64 t, .int .i64 t]) (.int .i64 3)).run Try.prog w = .ok (.agg #[.int .i64 t, .int .i64 t]) w := fun _ => by rfl
  go_enter Try.func47, Try.ntmps47
  go_wp2
  go_loopw [5, 12] (fun o i wr => ∃ (k N : Nat) (A : Option Addr) (c : Nat), k ≤ h.length ∧ i = .int .i64 k ∧ o = .slice A N c ∧ N = k * 4 ∧ OwnP w.heap.size wr (.slice A N c) (growS t (h.take k)) ∧ Ext w wr) (fun _ i _ => h.length - (intOf i).toNat)
  case atStart => exact ⟨0, 0, none, 0, by omega, rfl, rfl, rfl, OwnP.none0, Ext.refl _⟩
  case round =>
    obtain ⟨k, N, A, c, hk, rfl, rfl, hN, ho, hE⟩ := hrel
    obtain ⟨wA, hwA⟩ : ∃ z : World, z = wr := ⟨_, rfl⟩
    subst hwA
    by_cases hlt : k < h.length
    · have hq : h[k]? = some (h.getD k (0, 0)) := by rw [getD_lt hlt]; exact List.getElem?_eq_getElem hlt
      obtain ⟨b, off, rfl, x0, x1⟩ := pts_atH (HP.out.ext hE) rfl hq
      have hmm := HM.out _ (get_mem hlt)
      have htk := growS_take (t := t) hlt
      generalize h.getD k (0, 0) = p at *
      obtain ⟨p1, p2⟩ := p
      simp only at x0 x1
      unfold midB at hmm
      simp only at hmm
      have e1 := IntWalk.i64_in (p1 + -t) (by omega)
      have e2 := IntWalk.i64_in (p2 + -t) (by omega)
      have e3 := IntWalk.i64_in (p1 + t) (by omega)
      have e4 := IntWalk.i64_in (p2 + t) (by omega)
      have hNl : (growS t (h.take k)).length = N := by rw [growS_len, List.length_take, hN, Nat.min_eq_left hk]
      have hNb : N ≤ 40000 := by omega
      have HO := Lib.hid (And.intro ho (And.intro hN hNl))
      have HE := Lib.hid hE
      have zE := hE.sz
      have HTK := Lib.hid htk
      clear ho hN hNl hE htk hq hmm
      go_wp2
      have b0 := World.alloc_heap_new wA (.cells #[.int .i64 p1, .int .i64 p2] 31)
      have eW : Ext wA (wA.alloc (.cells #[.int .i64 p1, .int .i64 p2] 31)) := (Ext.refl wA).alloc _
      generalize (wA.alloc (.cells #[.int .i64 p1, .int .i64 p2] 31)) = W at *
      have HB0 := Lib.hid b0
      have HEW := Lib.hid eW
      clear b0 eW x0 x1
      go_loopw [5, 33] (fun o i wr => ∃ (j M : Nat) (A : Option Addr) (c : Nat), j ≤ 4 ∧ i = .int .i64 j ∧ o = .slice A M c ∧ M = N + j ∧ OwnP w.heap.size wr (.slice A M c) (growS t (h.take k) ++ (pgP t (p1, p2)).take j) ∧ (Value.slice A M c).ownBlock ≠ some wA.heap.size ∧ wr.heap[wA.heap.size]? = some (.cells #[.int .i64 p1, .int .i64 p2] 31 (0, 0)) ∧ Ext w wr) (fun _ i _ => 4 - (intOf i).toNat)
      case atStart => exact ⟨0, N, A, c, by omega, rfl, rfl, rfl, by rw [List.take_zero, List.append_nil]; exact HO.out.1.ext HEW.out, fun e => by have h9 := own_lt HO.out.1 e; omega, HB0.out, HE.out.trans HEW.out⟩
      case round =>
        obtain ⟨j, M, A, c, hj, rfl, rfl, hM, ho, hnb, hbl, hE⟩ := hrel
        have HBL := Lib.hid hbl
        have HNB := Lib.hid hnb
        have lbl := (Array.getElem?_eq_some_iff.1 hbl).1
        have y0 : wr.cell? ⟨wA.heap.size, 0, none⟩ = some (.int .i64 p1) := World.news_of_block hbl 0 _ rfl
        have y1 : wr.cell? ⟨wA.heap.size, 1, none⟩ = some (.int .i64 p2) := World.news_of_block hbl 1 _ rfl
        have ly := World.block_lt_of_cell? _ _ y0
        simp only at ly
        have hMl : (growS t (h.take k) ++ (pgP t (p1, p2)).take j).length = M := by rw [List.length_append, HO.out.2.2, List.length_take, hM]; simp [pgP]; omega
        have hMb : M ≤ 50000 := by omega
        have HO2 := Lib.hid (And.intro ho (And.intro hM hMl))
        have HE2 := Lib.hid hE
        have zE2 := HE2.out.sz
        clear ho hM hMl hE hbl hnb
        rcases (show j = 0 ∨ j = 1 ∨ j = 2 ∨ j = 3 ∨ j = 4 by omega) with rfl | rfl | rfl | rfl | rfl
        · go_wp2_with (at_builtin; refine wpList_append_pt1 (by rfl) _ _ (by rfl) w.heap.size (.slice A M c) (growS t (h.take k) ++ (pgP t (p1, p2)).take 0) M (wr.heap.size + 1) (p1 + -t) (p2 + -t) (by rfl) (HO2.out.1.ext (((Ext.refl wr).alloc _).alloc _)) HO2.out.2.2 (by rfl) (heap2_second wr _ _) (by omega) (by simp; omega) ?_; intro g4 c4 w4 ho4 hg4 hat4; have E4 : Ext w w4 := Ext.trans' (w := w) ((HE2.out.alloc _).alloc _) hg4 (own_ge' HO2.out.1); have B4 := kept_ne hg4 HNB.out (heap2_old HBL.out); have N4 : g4 ≠ wA.heap.size := (by rcases hat4 with h9 | h9 <;> intro e9 <;> subst e9 <;> first | exact HNB.out h9 | (simp at h9; omega)); replace ho4 := Lib.hid ho4; replace hg4 := Lib.hid hg4; replace E4 := Lib.hid E4; replace B4 := Lib.hid B4; clear hat4)
          refine ⟨⟨1, M + 1, some ⟨g4, 0, none⟩, c4, by omega, by go_num, rfl, by have h9 := HO2.out.2.1; omega, ?_, fun e => N4 (Option.some.inj e), B4.out, E4.out⟩, by simp [intOf]⟩
          have h9 := ho4.out
          rw [List.append_assoc] at h9
          exact h9
        · go_wp2_with (at_builtin; refine wpList_append_pt1 (by rfl) _ _ (by rfl) w.heap.size (.slice A M c) (growS t (h.take k) ++ (pgP t (p1, p2)).take 1) M (wr.heap.size + 1) (p1 + -t) (p2 + t) (by rfl) (HO2.out.1.ext (((Ext.refl wr).alloc _).alloc _)) HO2.out.2.2 (by rfl) (heap2_second wr _ _) (by omega) (by simp; omega) ?_; intro g4 c4 w4 ho4 hg4 hat4; have E4 : Ext w w4 := Ext.trans' (w := w) ((HE2.out.alloc _).alloc _) hg4 (own_ge' HO2.out.1); have B4 := kept_ne hg4 HNB.out (heap2_old HBL.out); have N4 : g4 ≠ wA.heap.size := (by rcases hat4 with h9 | h9 <;> intro e9 <;> subst e9 <;> first | exact HNB.out h9 | (simp at h9; omega)); replace ho4 := Lib.hid ho4; replace hg4 := Lib.hid hg4; replace E4 := Lib.hid E4; replace B4 := Lib.hid B4; clear hat4)
          refine ⟨⟨2, M + 1, some ⟨g4, 0, none⟩, c4, by omega, by go_num, rfl, by have h9 := HO2.out.2.1; omega, ?_, fun e => N4 (Option.some.inj e), B4.out, E4.out⟩, by simp [intOf]⟩
          have h9 := ho4.out
          rw [List.append_assoc] at h9
          exact h9
        · go_wp2_with (at_builtin; refine wpList_append_pt1 (by rfl) _ _ (by rfl) w.heap.size (.slice A M c) (growS t (h.take k) ++ (pgP t (p1, p2)).take 2) M (wr.heap.size + 1) (p1 + t) (p2 + -t) (by rfl) (HO2.out.1.ext (((Ext.refl wr).alloc _).alloc _)) HO2.out.2.2 (by rfl) (heap2_second wr _ _) (by omega) (by simp; omega) ?_; intro g4 c4 w4 ho4 hg4 hat4; have E4 : Ext w w4 := Ext.trans' (w := w) ((HE2.out.alloc _).alloc _) hg4 (own_ge' HO2.out.1); have B4 := kept_ne hg4 HNB.out (heap2_old HBL.out); have N4 : g4 ≠ wA.heap.size := (by rcases hat4 with h9 | h9 <;> intro e9 <;> subst e9 <;> first | exact HNB.out h9 | (simp at h9; omega)); replace ho4 := Lib.hid ho4; replace hg4 := Lib.hid hg4; replace E4 := Lib.hid E4; replace B4 := Lib.hid B4; clear hat4)
          refine ⟨⟨3, M + 1, some ⟨g4, 0, none⟩, c4, by omega, by go_num, rfl, by have h9 := HO2.out.2.1; omega, ?_, fun e => N4 (Option.some.inj e), B4.out, E4.out⟩, by simp [intOf]⟩
          have h9 := ho4.out
          rw [List.append_assoc] at h9
          exact h9
        · go_wp2_with (at_builtin; refine wpList_append_pt1 (by rfl) _ _ (by rfl) w.heap.size (.slice A M c) (growS t (h.take k) ++ (pgP t (p1, p2)).take 3) M (wr.heap.size + 1) (p1 + t) (p2 + t) (by rfl) (HO2.out.1.ext (((Ext.refl wr).alloc _).alloc _)) HO2.out.2.2 (by rfl) (heap2_second wr _ _) (by omega) (by simp; omega) ?_; intro g4 c4 w4 ho4 hg4 hat4; have E4 : Ext w w4 := Ext.trans' (w := w) ((HE2.out.alloc _).alloc _) hg4 (own_ge' HO2.out.1); have B4 := kept_ne hg4 HNB.out (heap2_old HBL.out); have N4 : g4 ≠ wA.heap.size := (by rcases hat4 with h9 | h9 <;> intro e9 <;> subst e9 <;> first | exact HNB.out h9 | (simp at h9; omega)); replace ho4 := Lib.hid ho4; replace hg4 := Lib.hid hg4; replace E4 := Lib.hid E4; replace B4 := Lib.hid B4; clear hat4)
          refine ⟨⟨4, M + 1, some ⟨g4, 0, none⟩, c4, by omega, by go_num, rfl, by have h9 := HO2.out.2.1; omega, ?_, fun e => N4 (Option.some.inj e), B4.out, E4.out⟩, by simp [intOf]⟩
          have h9 := ho4.out
          rw [List.append_assoc] at h9
          exact h9
        · have h9 := HO2.out.1
          have hp4 : (pgP t (p1, p2)).take 4 = pgP t (p1, p2) := rfl
          rw [hp4, ← HTK.out] at h9
          have hM4 : M = (k + 1) * 4 := by have h8 := HO2.out.2.1; have h7 := HO.out.2.1; omega
          have H9 := Lib.hid h9
          have HM4 := Lib.hid hM4
          clear h9 hM4
          go_wp2
          exact ⟨⟨k + 1, M, A, c, by omega, by go_num, rfl, HM4.out, H9.out, HE2.out⟩, by simp [intOf]; omega⟩
    · have hkk : k = h.length := by omega
      rw [List.take_of_length_le (by omega)] at ho
      have hgl := growS_len t h
      have hgl2 : (growS t h).length = N := by rw [hgl, hN, hkk]
      obtain ⟨g, cg, eg, _, _, _, _⟩ := ho.form (by omega)
      rw [hgl2] at eg
      simp only [Value.slice.injEq] at eg
      obtain ⟨rfl, -, rfl⟩ := eg
      have hpc : PtCells wA g 0 (growS t h) := by
        rcases ho.pts with ⟨_, _, _, h9⟩ | ⟨b9, o9, c9, e9, _, _, h9⟩
        · rw [h9] at hgl; simp at hgl; omega
        · simp only [Value.slice.injEq, Option.some.injEq, Addr.mk.injEq, and_true] at e9
          obtain ⟨⟨rfl, rfl⟩, _, _⟩ := e9
          exact h9
      have CC := fun W' (hh : Ext wA W') => corners_c g 0 c (growS t h) W' (PtCells.ext hpc hh) (by omega) HW.out (by omega)
      rw [hgl2, growS_corners] at CC
      replace CC := Lib.hid CC
      have HE := Lib.hid hE
      have zE := hE.sz
      clear ho hE hgl hN hkk hgl2 hpc
      go_wp2_with (go_at_call 31; refine (CC.out _ (by (repeat' (first | exact Ext.refl _ | assumption | refine Ext.alloc ?_ _ | refine Ext.drew ?_ | refine Ext.drewN ?_ _ | refine Ext.set ?_ (by first | exact Nat.le_refl _ | exact le1 _ | exact le2 _ | exact le3 _ | exact le4 _ | exact le5 _ | exact le6 _) _ | refine Ext.trans ?_ (by assumption))))).mono ?_; rintro e w2 ⟨v2, rfl, ho2, hE2⟩; replace ho2 := Lib.hid ho2; replace hE2 := Lib.hid hE2)
      go_ret
      exact ⟨_, rfl, ho2.out, HE.out.trans hE2.out⟩
end Go.Proofs.Ytlndcpjaeoppmaa
