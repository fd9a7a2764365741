
/- HAreaAll: several texts in one. -/
import Derived.Test.YtlndcpjaeoppmaaHTopsB
import Derived.Test.YtlndcpjaeoppmaaHPart
/- Contract: Area, the definition. -/
namespace Go.Proofs.Ytlndcpjaeoppmaa
open Go.RowKit Go.Shelf

/-- twice the area over the first sides of a hull -/
def areaK (h : List HPt) : Nat → Int
  | 0 => 0
  | k + 1 => areaK h k + crossP (h.getD 0 (0, 0)) (h.getD k (0, 0)) (nxtP h k)
def areaE (h : List HPt) : Int × Int := if errHs [h, h] = 0 then (areaK h h.length, 0) else (0, errHs [h, h])
theorem cross_fst (a b : HPt) : crossP a a b = 0 := by unfold crossP; grind
theorem areaK_one (h : List HPt) : areaK h 1 = 0 := by
  show (0 : Int) + crossP _ _ _ = 0
  rw [cross_fst]; rfl
theorem areaK_last {h : List HPt} {n : Nat} (hn : h.length = n + 1) : areaK h (n + 1) = areaK h n := by
  show areaK h n + crossP _ _ (nxtP h n) = _
  have : nxtP h n = h.getD 0 (0, 0) := by unfold nxtP; rw [hn, Nat.mod_self]
  rw [this, cross_self]
  omega
theorem areaK_next {h : List HPt} {k : Nat} (hk : k + 1 < h.length) : areaK h (k + 1) = areaK h k + crossP (h.getD 0 (0, 0)) (h.getD k (0, 0)) (h.getD (k + 1) (0, 0)) := by
  show areaK h k + crossP _ _ (nxtP h k) = _
  have : nxtP h k = h.getD (k + 1) (0, 0) := by unfold nxtP; rw [Nat.mod_eq_of_lt hk]
  rw [this]
theorem ok_diffs {p q : HPt} (hp : okPt p = true) (hq : okPt q = true) : (-33554432 ≤ q.1 - p.1 ∧ q.1 - p.1 ≤ 33554432) ∧ (-33554432 ≤ q.2 - p.2 ∧ q.2 - p.2 ≤ 33554432) := by
  obtain ⟨p1, p2⟩ := p
  obtain ⟨q1, q2⟩ := q
  rw [okPt_iff] at hp hq
  simp only
  omega
theorem cross_bd {a b c : HPt} (ha : okPt a = true) (hb : okPt b = true) (hc : okPt c = true) : -2251799813685248 ≤ crossP a b c ∧ crossP a b c ≤ 2251799813685248 := by
  have h1 := ok_diffs ha hb
  have h2 := ok_diffs ha hc
  obtain ⟨m1, m2⟩ := Pl.mul_bd (a := b.1 - a.1) (b := c.2 - a.2) (A := 33554432) (B := 33554432) (by omega) (by omega) (by omega) (by omega)
  obtain ⟨m3, m4⟩ := Pl.mul_bd (a := b.2 - a.2) (b := c.1 - a.1) (A := 33554432) (B := 33554432) (by omega) (by omega) (by omega) (by omega)
  unfold crossP
  omega
theorem areaK_bd {h : List HPt} (h0 : 0 < h.length) (hok : ∀ p ∈ h, okPt p = true) : ∀ k, k ≤ h.length → -((k : Int) * 2251799813685248) ≤ areaK h k ∧ areaK h k ≤ (k : Int) * 2251799813685248
  | 0, _ => by unfold areaK; omega
  | k + 1, hk => by
    have ih := areaK_bd h0 hok k (by omega)
    have hc := cross_bd (hok _ (get_mem h0)) (hok _ (get_mem (show k < h.length by omega))) (hok _ (nxt_mem h0 k))
    show _ ≤ areaK h k + crossP _ _ _ ∧ areaK h k + crossP _ _ _ ≤ _
    have e : ((k + 1 : Nat) : Int) = (k : Int) + 1 := by omega
    rw [e]
    omega
set_option maxRecDepth 100000 in
set_option maxHeartbeats 3200000 in
theorem RArea_c (v : Value) (h : List HPt) (w : World) (hp : Pts w v h) :
    Calls Try.prog 19 #[v] w fun e w' => e = .returned (.tuple #[.int .i64 (areaE h).1, .int .i64 (areaE h).2]) ∧ Ext w w' := by
  have HC := Lib.hid (fun W (hh : Ext w W) => Rhulls_c v v h h W (hp.ext hh) (hp.ext hh))
  by_cases he : errHs [h, h] = 0
  · obtain ⟨h1, _⟩ := errHs_ok he
    obtain ⟨h0, hl, hok, hw, _⟩ := isHull_facts h1
    have hS : areaE h = (areaK h h.length, 0) := by unfold areaE; rw [if_pos he]
    rw [hS]
    rw [he] at HC
    have hq0 : h[0]? = some (h.getD 0 (0, 0)) := by rw [getD_lt h0]; exact List.getElem?_eq_getElem h0
    have HP := Lib.hid hp
    obtain ⟨A, ca, rfl, _⟩ := hp.shapeH
    obtain ⟨ba, oa, rfl, z0, z1⟩ := pts_atH HP.out rfl hq0
    have HZ := Lib.hid (And.intro z0 z1)
    have HOK := Lib.hid hok
    obtain ⟨G, hG⟩ : ∃ G, areaK h h.length = G := ⟨_, rfl⟩
    rw [hG]
    have HG := Lib.hid hG
    have i0 : (0 : Int) < (h.length : Int) := by omega
    clear he h1 hp hw hok hS hq0 z0 z1 hG
    go_enter Try.func19, Try.ntmps19
    go_wp2_with (go_at_call 41; refine (HC.out _ (by (repeat' (first | exact Ext.refl _ | assumption | refine Ext.alloc ?_ _ | refine Ext.drew ?_ | refine Ext.drewN ?_ _ | refine Ext.set ?_ (by first | exact Nat.le_refl _ | exact le1 _ | exact le2 _ | exact le3 _ | exact le4 _ | exact le5 _ | exact le6 _) _ | refine Ext.trans ?_ (by assumption))))).mono ?_; rintro e w1 ⟨rfl, hb1⟩)
    have E1 : Ext w w1 := by (repeat' (first | exact Ext.refl _ | assumption | refine Ext.alloc ?_ _ | refine Ext.drew ?_ | refine Ext.drewN ?_ _ | refine Ext.set ?_ (by first | exact Nat.le_refl _ | exact le1 _ | exact le2 _ | exact le3 _ | exact le4 _ | exact le5 _ | exact le6 _) _ | refine Ext.trans ?_ (by assumption)))
    have HE1 := Lib.hid E1
    clear E1 hb1
    go_loopw [5, 6] (fun n i wr => ∃ k : Nat, 1 ≤ k ∧ (k < h.length ∨ k = 1) ∧ i = .int .i64 k ∧ n = .int .i64 (areaK h k) ∧ Ext w1 wr) (fun n i _ => h.length - (intOf i).toNat)
    case atStart => exact ⟨1, by omega, .inr rfl, rfl, by rw [areaK_one], Ext.refl _⟩
    case round =>
      obtain ⟨k, hk1, hk2, rfl, rfl, hE⟩ := hrel
      have ewk := IntWalk.i64_in ((k : Int) + 1) (by omega)
      by_cases hlt : k + 1 < h.length
      · have hqk : h[k]? = some (h.getD k (0, 0)) := by rw [getD_lt (by omega)]; exact List.getElem?_eq_getElem (by omega)
        have hqn : h[k + 1]? = some (h.getD (k + 1) (0, 0)) := by rw [getD_lt hlt]; exact List.getElem?_eq_getElem hlt
        obtain ⟨b1, o1, e1, x0, x1⟩ := pts_atH HP.out rfl hqk
        simp only [Option.some.injEq, Addr.mk.injEq, and_true] at e1
        obtain ⟨rfl, rfl⟩ := e1
        obtain ⟨b1, o1, e1, y0, y1⟩ := pts_atH HP.out rfl hqn
        simp only [Option.some.injEq, Addr.mk.injEq, and_true] at e1
        obtain ⟨rfl, rfl⟩ := e1
        obtain ⟨z0, z1⟩ := HZ.out
        have hnx := areaK_next hlt
        have o0 := HOK.out _ (get_mem h0)
        have ok1 := HOK.out _ (get_mem (show k < h.length by omega))
        have ok2 := HOK.out _ (get_mem hlt)
        have d1 := ok_diffs o0 ok1
        have d2 := ok_diffs o0 ok2
        have bd := areaK_bd h0 HOK.out k (by omega)
        have cb := cross_bd o0 ok1 ok2
        generalize h.getD 0 (0, 0) = p at *
        generalize h.getD k (0, 0) = q at *
        generalize h.getD (k + 1) (0, 0) = r at *
        obtain ⟨p1, p2⟩ := p
        obtain ⟨q1, q2⟩ := q
        obtain ⟨r1, r2⟩ := r
        simp only [Nat.zero_mul, Nat.add_zero] at x0 x1 y0 y1 z0 z1 d1 d2
        have EE := HE1.out.trans hE
        replace x0 := EE.cell x0
        replace x1 := EE.cell x1
        replace y0 := EE.cell y0
        replace y1 := EE.cell y1
        replace z0 := EE.cell z0
        replace z1 := EE.cell z1
        obtain ⟨m1, m2⟩ := Pl.mul_bd (a := q1 - p1) (b := r2 - p2) (A := 33554432) (B := 33554432) (by omega) (by omega) (by omega) (by omega)
        obtain ⟨m3, m4⟩ := Pl.mul_bd (a := q2 - p2) (b := r1 - p1) (A := 33554432) (B := 33554432) (by omega) (by omega) (by omega) (by omega)
        have hkk : (k : Int) ≤ 256 := by omega
        generalize areaK h k = S at *
        have w1' := IntWalk.i64_in (q1 - p1) (by omega)
        have w2' := IntWalk.i64_in (r2 - p2) (by omega)
        have w3' := IntWalk.i64_in (q2 - p2) (by omega)
        have w4' := IntWalk.i64_in (r1 - p1) (by omega)
        have w5' := IntWalk.i64_in ((q1 - p1) * (r2 - p2)) (by omega)
        have w6' := IntWalk.i64_in ((q2 - p2) * (r1 - p1)) (by omega)
        have w7' := IntWalk.i64_in (S + (q1 - p1) * (r2 - p2)) (by omega)
        have w8' := IntWalk.i64_in (S + (q1 - p1) * (r2 - p2) - (q2 - p2) * (r1 - p1)) (by omega)
        have i1 : (0 : Int) ≤ (k : Int) := by omega
        have i2 : (k : Int) < (h.length : Int) := by omega
        have i3 : (k : Int) + 1 < (h.length : Int) := by omega
        have i4 : (0 : Int) ≤ (k : Int) + 1 := by omega
        have HNX := Lib.hid hnx
        have HLT := Lib.hid hlt
        clear hqk hqn o0 ok1 ok2 d1 d2 bd cb m1 m2 m3 m4 hnx EE hlt hkk
        go_upto_region 8 with fail
        (refine wp_region_ext (C := fun w' => Ext wr w') (by kernel_rfl) (by kernel_rfl) (by (repeat' (first | exact Ext.refl _ | assumption | refine Ext.alloc ?_ _ | refine Ext.drew ?_ | refine Ext.drewN ?_ _ | refine Ext.set ?_ (by first | exact Nat.le_refl _ | exact le1 _ | exact le2 _ | exact le3 _ | exact le4 _ | exact le5 _ | exact le6 _) _ | refine Ext.trans ?_ (by assumption)))) ?_; (repeat (with_reducible refine wpQuiet_step (fun K hK => ?_); go_simp; first | (refine hK _ ?_; clear hK K) | (apply Exists.intro; refine ⟨fun w' hC => ?_, hK _ ?_⟩; (focus first | with_reducible rfl | (have q0 := hC.cell x0; have q1 := hC.cell x1; have q2 := hC.cell y0; have q3 := hC.cell y1; have q4 := hC.cell z0; have q5 := hC.cell z1; go_simp; done) | (have q0 := hC.cell x0; have q1 := hC.cell x1; have q2 := hC.cell y0; have q3 := hC.cell y1; have q4 := hC.cell z0; have q5 := hC.cell z1; go_simp; exact ⟨rfl, rfl⟩) | (have q0 := hC.cell x0; have q1 := hC.cell x1; have q2 := hC.cell y0; have q3 := hC.cell y1; have q4 := hC.cell z0; have q5 := hC.cell z1; go_simp; with_reducible rfl)); clear hK K))); refine wpQuiet_nil ?_; intro wq hEq)
        go_wp2_with fail
        go_roundw
        case rel => exact ⟨k + 1, by omega, .inl HLT.out, by go_num, by rw [HNX.out]; congr 1; unfold crossP; simp only; omega, hE.trans hEq⟩
        case measure => have := HLT.out; simp [intOf]; omega
      · have hni : ¬ ((k : Int) + 1 < (h.length : Int)) := by omega
        have hval : areaK h k = G := by
          rcases hk2 with k2 | k2
          · have : h.length = k + 1 := by omega
            rw [← HG.out, this, areaK_last this]
          · subst k2
            by_cases h2 : h.length = 1
            · rw [← HG.out, h2]
            · have : h.length = 1 + 1 := by omega
              rw [← HG.out, this, areaK_last this]
        rw [hval]
        clear hval
        go_wp2_with fail
        exact bodyPost_ret (v := .tuple #[.int .i64 G, .int .i64 0]) (by simp [results, Try.results19, go_sem]) rfl ⟨rfl, HE1.out.trans hE⟩
  · have hS : areaE h = (0, errHs [h, h]) := by unfold areaE; rw [if_neg he]
    rw [hS]
    have he2 : (errHs [h, h] != 0) = true := by simpa using he
    obtain ⟨A, ca, rfl, _⟩ := hp.shapeH
    generalize errHs [h, h] = E at *
    clear hp he hS
    go_enter Try.func19, Try.ntmps19
    go_wp2_with (go_at_call 41; refine (HC.out _ (by (repeat' (first | exact Ext.refl _ | assumption | refine Ext.alloc ?_ _ | refine Ext.drew ?_ | refine Ext.drewN ?_ _ | refine Ext.set ?_ (by first | exact Nat.le_refl _ | exact le1 _ | exact le2 _ | exact le3 _ | exact le4 _ | exact le5 _ | exact le6 _) _ | refine Ext.trans ?_ (by assumption))))).mono ?_; rintro e w1 ⟨rfl, hb1⟩)
    exact bodyPost_ret (v := .tuple #[.int .i64 0, .int .i64 E]) (by simp [results, Try.results19, go_sem]) rfl ⟨rfl, by (repeat' (first | exact Ext.refl _ | assumption | refine Ext.alloc ?_ _ | refine Ext.drew ?_ | refine Ext.drewN ?_ _ | refine Ext.set ?_ (by first | exact Nat.le_refl _ | exact le1 _ | exact le2 _ | exact le3 _ | exact le4 _ | exact le5 _ | exact le6 _) _ | refine Ext.trans ?_ (by assumption)))⟩
end Go.Proofs.Ytlndcpjaeoppmaa
/- Contract: Area, the program. -/
namespace Go.Proofs.Ytlndcpjaeoppmaa
open Go.RowKit Go.Shelf Go.Lib Go.Maps
attribute [local go_sem] Oper.semAt_some

namespace Tail
theorem wpIn_region_qtail_round {F : Fence} {r lr : Nat} {P : Program} {C : World → Prop} {id : Nat} {Q : Exit → Act → World → Prop} {a : Act} {w : World} {l : List Oper} (n : Nat) (hro : F.round = none) (hm : P.follows .mixedOrders = true) (hnd : noDefer l = true) (hB : lexTail0 .any l.toArray n = true) (hC : C w.drew)
    (h : wpQuietIn F r P l.toArray C (fun a' => ∀ w', C w' → wpListIn F r P l.toArray Q (l.drop n) a' w') (l.take n) a) : (Code.region id l.toArray true).wpIn (F.inRound lr) r P Q a w := by
  simp only [lexTail0, Bool.and_eq_true, decide_eq_true_eq] at hB
  obtain ⟨⟨⟨⟨hsel, hn⟩, hs⟩, hc⟩, hlex⟩ := hB
  have hn' : n < l.length := by simpa using hn
  have htl : (l.take n).length = n := by simp; omega
  have hdl : (l.drop n).length = l.toArray.size - n := by simp
  have inv0 : HeadInv .any l.toArray n (Array.replicate l.toArray.size false) :=
    ⟨by simp, fun j oj _ hl => (by rw [getD_replicate_false] at hl; cases hl), fun t _ ht => getD_in (by simpa using ht) (getD_replicate_false _ _)⟩
  have H := wpAnyLQIn_lex (F := F) (r := r) (C := C) (md := .any) (g := l.toArray.size - n) hsel hs hc hn (l.take n) 0 _ a (fun j hj => by
    have hj' : j < n := by rw [htl] at hj; exact hj
    simp [hj']) (by simpa using htl) inv0 (by rw [htl]; exact hlex) h
  refine wpIn_region_any hm (anyIn_round hro (noDefer_spec hnd) _ _ _ _ ?_)
  have := wpAnyIn_of_headQ (C := C) (Q' := Q) (g := l.toArray.size - n) hro (fun listed a' w' hw' hL => by
    have := wpAnyIn_of_chain (F := F) (r := r) (md := .any) (Q' := Q) (l.drop n) n listed a' w' (fun j => by simp [List.getElem?_drop]) (by rw [hdl]; exact hL.1.1) (hL.2 w' hw')
    rwa [hdl] at this) _ _ _ _ hC H
  rw [htl, show n + (l.toArray.size - n) = l.toArray.size by omega] at this
  exact this
end Tail
set_option maxRecDepth 100000 in
set_option maxHeartbeats 4000000 in
theorem Area_go (v : Value) (h : List HPt) (w : World) (hp : Pts w v h) (he : errHs [h, h] = 0) :
    Calls Try.prog 18 #[v] w fun e w' => e = .returned (.tuple #[.int .i64 (areaK h h.length), .int .i64 0]) ∧ Ext w w' := by
  have HC := Lib.hid (fun W (hh : Ext w W) (bb : Nat) (t : TypeId) (hblk : W.heap[bb]? = some (.cells #[v] t (0, 0))) => checkHulls_c bb 1 [v] [h] W (Lists.one hblk (hp.ext hh)) (by simp))
  rw [errHs_one, he] at HC
  obtain ⟨h1, _⟩ := errHs_ok he
  obtain ⟨h0, hl, hok, hw, _⟩ := isHull_facts h1
  have HP := Lib.hid hp
  obtain ⟨A, ca, rfl, _⟩ := hp.shapeH
  have hq0 : h[0]? = some (h.getD 0 (0, 0)) := by rw [getD_lt h0]; exact List.getElem?_eq_getElem h0
  obtain ⟨ba, oa, rfl, z0, z1⟩ := pts_atH HP.out rfl hq0
  have HOK := Lib.hid hok
  have HZ := Lib.hid (And.intro z0 z1)
  have i0 : (0 : Int) < (h.length : Int) := by omega
  clear he h1 hok hw hq0 z0 z1 hp
  refine (callsIn_wide (n := 5)).1 ?_
  refine callsIn_of_wp_marks Try.func18 rfl trivial ?_ rfl
  simp only [Try.ntmps18, List.size_toArray, List.length_cons, List.length_nil, Nat.reduceAdd, Nat.reduceSub, Array.replicate_succ, Array.replicate_zero, List.push_toArray, List.append_toArray, List.nil_append, List.cons_append]
  refine wpIn_wide.2 ?_
  go_upto_region 5 with (go_at_call 36; refine (HC.out _ (by (repeat' (first | exact Ext.refl _ | assumption | refine Ext.alloc ?_ _ | refine Ext.drew ?_ | refine Ext.drewN ?_ _ | refine Ext.set ?_ (by first | exact Nat.le_refl _ | exact le1 _ | exact le2 _ | exact le3 _ | exact le4 _ | exact le5 _ | exact le6 _) _ | refine Ext.trans ?_ (by assumption)))) _ _ (heap2_second _ _ _)).mono ?_; rintro e w1 ⟨rfl, hb1⟩; have E1 : Ext w w1 := (((Ext.refl w).alloc _).alloc _).trans hb1; have y0 := Ext.cell hb1 (p := ⟨w.heap.size, 0, none⟩) (v := .slice (some ⟨ba, oa, none⟩) h.length ca) (by go_simp); clear hb1)
  have hS := World.alloc_heap_new w1 (.cells #[.int .i64 0] 2)
  have E15 : Ext w1 (w1.alloc (.cells #[.int .i64 0] 2)) := (Ext.refl _).alloc _
  have z15 : (w1.alloc (.cells #[.int .i64 0] 2)).heap.size = w1.heap.size + 1 := by simp
  generalize (w1.alloc (.cells #[.int .i64 0] 2)) = W5 at *
  have y5 := E15.cell y0
  have HE1 := Lib.hid E1
  have HP5 := Lib.hid (HP.out.ext E1)
  have SQ := sides_seq W5.heap.size (.slice (some ⟨ba, oa, none⟩) h.length ca) h w1 (W5.alloc (.cells #[.slice (some ⟨ba, oa, none⟩) h.length ca] 23)) (E15.alloc _) HP5.out h0 (Boxed.new W5 _ _) (fun t => t = 23) 2 (by omega) rfl (by omega)
  clear E1
  go_wp2_with (go_at_call 44; refine (sides_c _ _ _ _).mono ?_; rintro e w2 ⟨rfl, rfl⟩)
  have E2 : Ext w1 (W5.alloc (.cells #[.slice (some ⟨ba, oa, none⟩) h.length ca] 23)) := E15.alloc _
  have hS2 : (W5.alloc (.cells #[.slice (some ⟨ba, oa, none⟩) h.length ca] 23)).heap[w1.heap.size]? = some (.cells #[.int .i64 0] 2 (0, 0)) := blk_ext hS ((Ext.refl _).alloc _)
  have zz : (W5.alloc (.cells #[.slice (some ⟨ba, oa, none⟩) h.length ca] 23)).heap.size = w1.heap.size + 2 := by simp; omega
  rw [z15] at SQ
  refine (wpIn_wide (n := 5)).1 ?_
  refine wpIn_rangeFunc_T2 (α := HPt × HPt) (n := 5) rfl (by omega) (gf := 69) rfl trivial (enters_of Try.func69 (by kernel_rfl) rfl) SQ (Ext.refl _) (fun _ => rfl)
    (fun pre W' => Ext w1 W' ∧ W'.heap[w1.heap.size]? = some (.cells #[.int .i64 (areaK h pre.length)] 2 (0, 0)))
    (fun _ _ _ => False)
    (fun _ _ h => h.1) ?_ ?_ ?_ (fun _ _ _ _ _ _ h => h.elim) ⟨E2, hS2⟩
    (fun x a' W' => ∃ H1 H2, W'.cell? ⟨H1, 0, none⟩ = some (.int .i64 x.1.1) ∧ W'.cell? ⟨H1, 1, none⟩ = some (.int .i64 x.1.2) ∧ W'.cell? ⟨H2, 0, none⟩ = some (.int .i64 x.2.1) ∧ W'.cell? ⟨H2, 1, none⟩ = some (.int .i64 x.2.2) ∧ a' = ({ tmps := #[.slice (some ⟨ba, oa, none⟩) h.length ca, .pointer (some ⟨w.heap.size, 0, none⟩), .int .i64 0, .int .i64 0, .int .i64 0, .pointer (some ⟨w1.heap.size, 0, none⟩), .pointer (some ⟨H1, 0, none⟩), .pointer (some ⟨H2, 0, none⟩), .slice (some ⟨ba, oa, none⟩) h.length ca, .slice (some ⟨w.heap.size + 1, 0, none⟩) 1 1, .int .i64 0, .int .i64 0, .bool false, undef, .slice (some ⟨ba, oa, none⟩) h.length ca, .func (.func 69) #[] #[.pointer (some ⟨w1.heap.size + 1, 0, none⟩)], .agg #[.int .i64 x.1.1, .int .i64 x.1.2], .agg #[.int .i64 x.2.1, .int .i64 x.2.2], undef, undef, undef, undef, undef, undef, undef, undef, undef], defers := [] } : Act)) ?_ ?_ ?_ ?_ ?_
  · exact fun s V V' ⟨g1, g2⟩ he => ⟨g1.trans he, blk_ext g2 he⟩
  · exact fun s V p u cs fr ⟨g1, g2⟩ hp hge => ⟨g1.set (by omega) u, (Below.heap_setCell V p u _ (by omega)).trans g2⟩
  · exact fun s V l o o' ⟨g1, g2⟩ hl hW ho => ⟨g1.put (by omega) o', (World.putObj_heap_other (fun e => by rw [e] at g2; rw [hW] at g2; cases g2; cases ho)).trans g2⟩
  · exact fun x a' V l1 o1 o' ⟨H1, H2, g1, g2, g3, g4, g5⟩ _ hW ho => ⟨H1, H2, cell_put g1 o' hW ho, cell_put g2 o' hW ho, cell_put g3 o' hW ho, cell_put g4 o' hW ho, g5⟩
  · intro l1 x V K hz hK
    obtain ⟨⟨xa, xb⟩, ⟨ya, yb⟩⟩ := x
    simp only [encPP, vPt] at hK ⊢
    gi_wp2
    exact hK _ _ (((Ext.refl V).alloc _).alloc _) ⟨V.heap.size, V.heap.size + 1, by go_simp, by go_simp, by go_simp, by go_simp, rfl⟩
  · rintro l1 pre x suf a' Wr ⟨j1, jS⟩ ⟨H1, H2, k1, k2, k3, k4, rfl⟩ hsp hz
    have hk : pre.length < h.length := by
      have := congrArg List.length hsp
      rw [sidesP_len, List.length_append, List.length_cons] at this
      omega
    have hx : x = (h.getD pre.length (0, 0), nxtP h pre.length) := by
      have e1 := sidesP_at hk
      rw [hsp, List.getElem?_append_right (Nat.le_refl _), Nat.sub_self] at e1
      exact Option.some.inj e1
    subst hx
    have hst : areaK h (pre.length + 1) = areaK h pre.length + crossP (h.getD 0 (0, 0)) (h.getD pre.length (0, 0)) (nxtP h pre.length) := rfl
    have o0 := HOK.out _ (get_mem h0)
    have ok1 := HOK.out _ (get_mem hk)
    have ok2 := HOK.out _ (nxt_mem h0 pre.length)
    have bd := areaK_bd h0 HOK.out pre.length (by omega)
    have cb := cross_bd o0 ok1 ok2
    have hkk : (pre.length : Int) ≤ 256 := by omega
    obtain ⟨z0, z1⟩ := HZ.out
    simp only at k1 k2 k3 k4
    generalize h.getD 0 (0, 0) = p at *
    generalize h.getD pre.length (0, 0) = q at *
    generalize nxtP h pre.length = r at *
    obtain ⟨p1, p2⟩ := p
    obtain ⟨q1, q2⟩ := q
    obtain ⟨r1, r2⟩ := r
    simp only [Nat.zero_mul, Nat.add_zero] at z0 z1 k1 k2 k3 k4
    have CC := Lib.hid (fun W => crossW_c p1 p2 q1 q2 r1 r2 W (ok_wide o0) (ok_wide ok1) (ok_wide ok2))
    generalize crossP (p1, p2) (q1, q2) (r1, r2) = CR at *
    have s0 : Wr.cell? ⟨w1.heap.size, 0, none⟩ = some (.int .i64 (areaK h pre.length)) := World.news_of_block jS 0 _ rfl
    have HST := Lib.hid hst
    have HJ := Lib.hid (And.intro j1 jS)
    generalize areaK h pre.length = S at *
    have w8 := IntWalk.i64_in (S + CR) (by omega)
    replace z0 := (HE1.out.trans j1).cell z0
    replace z1 := (HE1.out.trans j1).cell z1
    have yr := j1.cell y0
    clear hst o0 ok1 ok2 bd cb hsp hk j1 jS
    gi_wp2
    refine Tail.wpIn_region_qtail_round (F := Fence.wide) (C := fun w' => Ext Wr w') 8 rfl (by kernel_rfl) (by rfl) (by kernel_rfl) ((Ext.refl _).drew) ?_
    simp only [List.take_succ_cons, List.take_zero, List.drop_succ_cons, List.drop_zero]
    repeat
      with_reducible refine quietW_step (fun K hK => ?_)
      go_simp
      first
        | (refine hK _ ?_; clear hK K)
        | (apply Exists.intro
           refine ⟨fun w' hC => ?_, hK _ ?_⟩
           · first
               | with_reducible rfl
               | (refine (callsIn_wide).2 ?_; exact (CC.out _).mono fun e w'' ⟨he, hw''⟩ => ⟨he, hC.trans hw''⟩)
               | (have c0 := hC.cell s0; have c1 := hC.cell yr; have c2 := hC.cell z0; have c3 := hC.cell z1; have c4 := hC.cell k1; have c5 := hC.cell k2; have c6 := hC.cell k3; have c7 := hC.cell k4; go_simp; done)
               | (have c0 := hC.cell s0; have c1 := hC.cell yr; have c2 := hC.cell z0; have c3 := hC.cell z1; have c4 := hC.cell k1; have c5 := hC.cell k2; have c6 := hC.cell k3; have c7 := hC.cell k4; go_simp; exact ⟨rfl, rfl⟩)
               | (have c0 := hC.cell s0; have c1 := hC.cell yr; have c2 := hC.cell z0; have c3 := hC.cell z1; have c4 := hC.cell k1; have c5 := hC.cell k2; have c6 := hC.cell k3; have c7 := hC.cell k4; go_simp; with_reducible rfl)
           clear hK K)
    refine wpQuietIn_nil ?_
    intro wq hEq
    have hSq := blk_ext HJ.out.2 hEq
    have s0q : wq.cell? ⟨w1.heap.size, 0, none⟩ = some (.int .i64 S) := World.news_of_block hSq 0 _ rfl
    have fSq := blk_frzH hSq 0
    have HSQ := Lib.hid hSq
    clear hSq s0 yr z0 z1 k1 k2 k3 k4
    gi_wp2
    refine ⟨(keeps_ext hEq).trans (KeepsOthers.setCell _ _ _), (KpT.ext hEq).trans ⟨by simp, fun b cs t fr ht hb h1 => ?_⟩, (HJ.out.1.trans hEq).set (p := ⟨w1.heap.size, 0, none⟩) (Nat.le_refl _) _, ?_⟩
    · refine (Below.heap_setCell wq ⟨w1.heap.size, 0, none⟩ _ b (fun e => ?_)).trans h1
      have e' : b = w1.heap.size := e
      subst ht
      rw [e', HSQ.out] at h1
      simp at h1
    · have e1 : (pre ++ [((q1, q2), (r1, r2))]).length = pre.length + 1 := by simp
      rw [e1, HST.out]
      exact blk_setH 0 (.int .i64 (S + CR)) HSQ.out
  · rintro D V hD ⟨g1, g2⟩ hDD
    rw [sidesP_len] at g2
    have n0 : V.cell? ⟨w1.heap.size, 0, none⟩ = some (.int .i64 (areaK h h.length)) := World.news_of_block g2 0 _ rfl
    refine (‹∀ (a : Act) (w : World), Code.wp Try.prog _ _ a w → _›) _ _ ?_
    go_wp2_with fail
    refine ⟨by simp, .inl ⟨_, _, rfl, run_takeDeferred hDD, ?_⟩⟩
    refine ⟨.tuple #[.int .i64 (areaK h h.length), .int .i64 0], by simp [results, Try.results18, go_sem], ?_⟩
    have zE1 := HE1.out.sz
    exact ⟨rfl, (HE1.out.trans g1).put (by omega) _⟩
  · exact fun D c pre V _ h _ => h.elim
set_option maxRecDepth 100000 in
set_option maxHeartbeats 1600000 in
theorem Area_c (v : Value) (h : List HPt) (w : World) (hp : Pts w v h) :
    Calls Try.prog 18 #[v] w fun e w' => e = .returned (.tuple #[.int .i64 (areaE h).1, .int .i64 (areaE h).2]) ∧ Ext w w' := by
  by_cases he : errHs [h, h] = 0
  · have hS : areaE h = (areaK h h.length, 0) := by unfold areaE; rw [if_pos he]
    rw [hS]
    exact Area_go v h w hp he
  · have HC := Lib.hid (fun W (hh : Ext w W) (bb : Nat) (t : TypeId) (hblk : W.heap[bb]? = some (.cells #[v] t (0, 0))) => checkHulls_c bb 1 [v] [h] W (Lists.one hblk (hp.ext hh)) (by simp))
    rw [errHs_one] at HC
    have hS : areaE h = (0, errHs [h, h]) := by unfold areaE; rw [if_neg he]
    rw [hS]
    have he2 : (errHs [h, h] != 0) = true := by simpa using he
    obtain ⟨A, ca, rfl, _⟩ := hp.shapeH
    generalize errHs [h, h] = E at *
    clear hp he hS
    go_enter Try.func18, Try.ntmps18
    go_wp2_with (go_at_call 36; refine (HC.out _ (by (repeat' (first | exact Ext.refl _ | assumption | refine Ext.alloc ?_ _ | refine Ext.drew ?_ | refine Ext.drewN ?_ _ | refine Ext.set ?_ (by first | exact Nat.le_refl _ | exact le1 _ | exact le2 _ | exact le3 _ | exact le4 _ | exact le5 _ | exact le6 _) _ | refine Ext.trans ?_ (by assumption)))) _ _ (heap2_second _ _ _)).mono ?_; rintro e w1 ⟨rfl, hb1⟩)
    exact bodyPost_ret (v := .tuple #[.int .i64 0, .int .i64 E]) (by simp [results, Try.results18, go_sem]) rfl ⟨rfl, by (repeat' (first | exact Ext.refl _ | assumption | refine Ext.alloc ?_ _ | refine Ext.drew ?_ | refine Ext.drewN ?_ _ | refine Ext.set ?_ (by first | exact Nat.le_refl _ | exact le1 _ | exact le2 _ | exact le3 _ | exact le4 _ | exact le5 _ | exact le6 _) _ | refine Ext.trans ?_ (by assumption)))⟩
end Go.Proofs.Ytlndcpjaeoppmaa
