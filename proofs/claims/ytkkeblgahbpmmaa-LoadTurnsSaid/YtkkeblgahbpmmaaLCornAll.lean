
/- LCornAll: several texts in one. -/
import Derived.Test.YtkkeblgahbpmmaaHVals
import Derived.Test.YtkkeblgahbpmmaaLBox
import Derived.Test.YtkkeblgahbpmmaaHStack
/- The iterator over the corners of a box in the plan, walked: it yields four points. -/
namespace Go.Proofs.Ytkkeblgahbpmmaa
open Go.RowKit Go.Shelf

def rectP (a b d e : Int) : List HPt := [(a, b), (a, e), (d, b), (d, e)]
set_option maxRecDepth 100000 in
set_option maxHeartbeats 4000000 in
theorem rect_seq (Bl : Nat) (a b c d e f : Int) (w0 w : World) (hw : Ext w0 w) (hb : w.heap[Bl]? = some (.cells #[.int .i64 a, .int .i64 b, .int .i64 c, .int .i64 d, .int .i64 e, .int .i64 f] 83 (0, 0))) (hBl : w0.heap.size ≤ Bl) (t : TypeId) :
    SeqT Fence.wide 4 Try.prog 94 #[.pointer (some ⟨Bl, 0, none⟩)] vPt (fun u => u = 83) t (rectP a b d e) w0 w := by
  intro L J Jx W hE hJb hJ hY hJ0
  refine callsIn_wide.2 ?_
  have HY := Lib.hid hY
  have HW := Lib.hid hw
  have HJb := Lib.hid hJb
  have ix0 : ∀ u v W, (Instr.index 136 (.agg #[.int .i64 u, .int .i64 v]) (.int .i64 0)).run Try.prog W = .ok (.int .i64 u) W := fun _ _ _ => by rfl
  have ix1 : ∀ u v W, (Instr.index 136 (.agg #[.int .i64 u, .int .i64 v]) (.int .i64 1)).run Try.prog W = .ok (.int .i64 v) W := fun _ _ _ => by rfl
  have bW := lb_ext hb hE
  have a0 := lb_cell bW 0 _ rfl
  have a3 := lb_cell bW 3 _ rfl
  have HE := Lib.hid hE
  have HBW := Lib.hid bW
  clear hb hY hJ hw hJb bW hE
  have HJ0 := Lib.hid hJ0
  clear hJ0
  go_enter Try.func94, Try.ntmps94
  go_wp2
  go_loopw [14] (fun i wr => ∃ k : Nat, k ≤ 2 ∧ i = .int .i64 k ∧ J ((rectP a b d e).take (2 * k)) wr ∧ wr.heap[Bl]? = some (.cells #[.int .i64 a, .int .i64 b, .int .i64 c, .int .i64 d, .int .i64 e, .int .i64 f] 83 (0, 0))) (fun i _ => 2 - (intOf i).toNat)
  case atStart => exact ⟨0, by omega, rfl, HJ0.out, HBW.out⟩
  case round =>
    obtain ⟨k, hk, rfl, hJk, b1⟩ := hrel
    rcases (show k = 0 ∨ k = 1 ∨ k = 2 by omega) with rfl | rfl | rfl
    · rw [show ((0 : Nat) : Int) = 0 from rfl]
      have HJK := Lib.hid hJk
      clear hJk
      obtain ⟨w1, hw1⟩ : ∃ z : World, z = wr := ⟨_, rfl⟩
      subst hw1
      have HB1 := Lib.hid b1
      have a1 := lb_cell b1 1 _ rfl
      have a4 := lb_cell b1 4 _ rfl
      have l1 := lb_lt b1
      clear b1
      go_wp2_with fail
      go_loopw [24] (fun i wr => ∃ m : Nat, m ≤ 2 ∧ i = .int .i64 m ∧ J ((rectP a b d e).take (0 + m)) wr ∧ wr.heap[Bl]? = some (.cells #[.int .i64 a, .int .i64 b, .int .i64 c, .int .i64 d, .int .i64 e, .int .i64 f] 83 (0, 0))) (fun i _ => 2 - (intOf i).toNat)
      case atStart => exact ⟨0, by omega, rfl, HJK.out, HB1.out⟩
      case round =>
        obtain ⟨m, hm, rfl, hJm, b2⟩ := hrel
        have HB2 := Lib.hid b2
        clear b2
        obtain ⟨w2, hw2⟩ : ∃ z : World, z = wr := ⟨_, rfl⟩
        subst hw2
        rcases (show m = 0 ∨ m = 1 ∨ m = 2 by omega) with rfl | rfl | rfl
        · rw [show ((0 : Nat) : Int) = 0 from rfl]
          go_upto_region 6 with fail
          obtain ⟨fn', tmps', asg', bod', hy, hR⟩ := HY.out ((rectP a b d e).take 0) (a, b) [(a, e), (d, b), (d, e)] w2 hJm rfl
          dsimp only [vPt] at hy
          refine (wpIn_wide (n := 4)).1 ?_
          gi_wp2
          refine hR.mono ?_
          rintro e4 W4 (⟨rfl, hA4, hK4⟩ | ⟨rfl, hx4⟩)
          rotate_left
          · gi_wp2
            go_wp2_with fail
            refine bodyPost_ret (results_none rfl _ _ _) rfl ?_
            exact ⟨⟨_, rfl⟩, .inr ⟨_, hx4⟩⟩
          have hB4 := hK4.2 Bl _ _ _ rfl hBl HB2.out
          clear hK4 hR hy
          gi_wp2
          go_wp2_with fail
          go_roundw
          case rel => exact ⟨1, by omega, by go_num, hA4, hB4⟩
          case measure => simp [intOf]
        · rw [show ((1 : Nat) : Int) = 1 from rfl]
          go_upto_region 6 with fail
          obtain ⟨fn', tmps', asg', bod', hy, hR⟩ := HY.out ((rectP a b d e).take 1) (a, e) [(d, b), (d, e)] w2 hJm rfl
          dsimp only [vPt] at hy
          refine (wpIn_wide (n := 4)).1 ?_
          gi_wp2
          refine hR.mono ?_
          rintro e4 W4 (⟨rfl, hA4, hK4⟩ | ⟨rfl, hx4⟩)
          rotate_left
          · gi_wp2
            go_wp2_with fail
            refine bodyPost_ret (results_none rfl _ _ _) rfl ?_
            exact ⟨⟨_, rfl⟩, .inr ⟨_, hx4⟩⟩
          have hB4 := hK4.2 Bl _ _ _ rfl hBl HB2.out
          clear hK4 hR hy
          gi_wp2
          go_wp2_with fail
          go_roundw
          case rel => exact ⟨2, by omega, by go_num, hA4, hB4⟩
          case measure => simp [intOf]
        · rw [show ((2 : Nat) : Int) = 2 from rfl]
          go_wp2_with fail
          go_roundw
          case rel => exact ⟨1, by omega, by go_num, hJm, HB2.out⟩
          case measure => simp [intOf]
    · rw [show ((1 : Nat) : Int) = 1 from rfl]
      have HJK := Lib.hid hJk
      clear hJk
      obtain ⟨w1, hw1⟩ : ∃ z : World, z = wr := ⟨_, rfl⟩
      subst hw1
      have HB1 := Lib.hid b1
      have a1 := lb_cell b1 1 _ rfl
      have a4 := lb_cell b1 4 _ rfl
      have l1 := lb_lt b1
      clear b1
      go_wp2_with fail
      go_loopw [24] (fun i wr => ∃ m : Nat, m ≤ 2 ∧ i = .int .i64 m ∧ J ((rectP a b d e).take (2 + m)) wr ∧ wr.heap[Bl]? = some (.cells #[.int .i64 a, .int .i64 b, .int .i64 c, .int .i64 d, .int .i64 e, .int .i64 f] 83 (0, 0))) (fun i _ => 2 - (intOf i).toNat)
      case atStart => exact ⟨0, by omega, rfl, HJK.out, HB1.out⟩
      case round =>
        obtain ⟨m, hm, rfl, hJm, b2⟩ := hrel
        have HB2 := Lib.hid b2
        clear b2
        obtain ⟨w2, hw2⟩ : ∃ z : World, z = wr := ⟨_, rfl⟩
        subst hw2
        rcases (show m = 0 ∨ m = 1 ∨ m = 2 by omega) with rfl | rfl | rfl
        · rw [show ((0 : Nat) : Int) = 0 from rfl]
          go_upto_region 6 with fail
          obtain ⟨fn', tmps', asg', bod', hy, hR⟩ := HY.out ((rectP a b d e).take 2) (d, b) [(d, e)] w2 hJm rfl
          dsimp only [vPt] at hy
          refine (wpIn_wide (n := 4)).1 ?_
          gi_wp2
          refine hR.mono ?_
          rintro e4 W4 (⟨rfl, hA4, hK4⟩ | ⟨rfl, hx4⟩)
          rotate_left
          · gi_wp2
            go_wp2_with fail
            refine bodyPost_ret (results_none rfl _ _ _) rfl ?_
            exact ⟨⟨_, rfl⟩, .inr ⟨_, hx4⟩⟩
          have hB4 := hK4.2 Bl _ _ _ rfl hBl HB2.out
          clear hK4 hR hy
          gi_wp2
          go_wp2_with fail
          go_roundw
          case rel => exact ⟨1, by omega, by go_num, hA4, hB4⟩
          case measure => simp [intOf]
        · rw [show ((1 : Nat) : Int) = 1 from rfl]
          go_upto_region 6 with fail
          obtain ⟨fn', tmps', asg', bod', hy, hR⟩ := HY.out ((rectP a b d e).take 3) (d, e) [] w2 hJm rfl
          dsimp only [vPt] at hy
          refine (wpIn_wide (n := 4)).1 ?_
          gi_wp2
          refine hR.mono ?_
          rintro e4 W4 (⟨rfl, hA4, hK4⟩ | ⟨rfl, hx4⟩)
          rotate_left
          · gi_wp2
            go_wp2_with fail
            refine bodyPost_ret (results_none rfl _ _ _) rfl ?_
            exact ⟨⟨_, rfl⟩, .inr ⟨_, hx4⟩⟩
          have hB4 := hK4.2 Bl _ _ _ rfl hBl HB2.out
          clear hK4 hR hy
          gi_wp2
          go_wp2_with fail
          go_roundw
          case rel => exact ⟨2, by omega, by go_num, hA4, hB4⟩
          case measure => simp [intOf]
        · rw [show ((2 : Nat) : Int) = 2 from rfl]
          go_wp2_with fail
          go_roundw
          case rel => exact ⟨2, by omega, by go_num, hJm, HB2.out⟩
          case measure => simp [intOf]
    · go_wp2
      go_end0
      exact ⟨⟨_, rfl⟩, .inl hJk⟩
end Go.Proofs.Ytkkeblgahbpmmaa
/- slices.AppendSeq at points, over the corners of a box. -/
namespace Go.Proofs.Ytkkeblgahbpmmaa
open Go.RowKit Go.Shelf Go.Lib Go.Maps
attribute [local go_sem] Oper.semAt_some

theorem kept_neA {w w' : World} {v : Value} {k : Nat} {o : Obj} (hg : w.grownBy w' v.ownBlock) (hne : v.ownBlock ≠ some k) (hk : w.heap[k]? = some o) : w'.heap[k]? = some o :=
  (hg.block k (Array.getElem?_eq_some_iff.1 hk).1 hne.symm).trans hk
set_option maxRecDepth 100000 in
set_option maxHeartbeats 8000000 in
theorem apSeq_c (Bl : Nat) (a b c d e f : Int) (v : Value) (l : List HPt) (w0 w : World) (hw : Ext w0 w) (hb : w.heap[Bl]? = some (.cells #[.int .i64 a, .int .i64 b, .int .i64 c, .int .i64 d, .int .i64 e, .int .i64 f] 83 (0, 0))) (hBl : w0.heap.size ≤ Bl)
    (ho : OwnP w0.heap.size w v l) (hn : l.length ≤ 10000) :
    Calls Try.prog 80 #[v, .func (.func 94) #[] #[.pointer (some ⟨Bl, 0, none⟩)]] w fun e' w' => ∃ v', e' = .returned v' ∧ OwnP w0.heap.size w' v' (l ++ rectP a b d e) ∧ Ext w0 w' := by
  obtain ⟨ip, hi0, hii⟩ := Option.map_eq_some_iff.1 infoPoint
  simp only [Prod.mk.injEq] at hii
  obtain ⟨hi1, hi2, hi3⟩ := hii
  obtain ⟨A, cp, rfl, hml⟩ := ho.shape
  refine (callsIn_wide (n := 5)).1 ?_
  refine callsIn_of_wp_marks Try.func80 rfl trivial ?_ rfl
  simp only [Try.ntmps80, List.size_toArray, List.length_cons, List.length_nil, Nat.reduceAdd, Nat.reduceSub, Array.replicate_succ, Array.replicate_zero, List.push_toArray, List.append_toArray, List.nil_append, List.cons_append]
  refine wpIn_wide.2 ?_
  go_upto_region 1 with fail
  have E2 : Ext w (w.alloc (.cells #[.slice A l.length cp] 48)) := (Ext.refl w).alloc _
  have b0 := Boxed.new w 48 (.slice A l.length cp)
  have hb2 := lb_ext hb E2
  have ho2 := ho.ext E2
  have hs2 : (w.alloc (.cells #[.slice A l.length cp] 48)).heap.size = w.heap.size + 1 := size_alloc _ _
  have hws := hw.size
  have E02 := hw.trans E2
  have SQ := rect_seq Bl a b c d e f w0 (w.alloc (.cells #[.slice A l.length cp] 48)) E02 hb2 hBl 48
  generalize (w.alloc (.cells #[.slice A l.length cp] 48)) = W2 at *
  have zb := (Array.getElem?_eq_some_iff.1 b0).1
  go_wp2_with fail
  refine (wpIn_wide (n := 5)).1 ?_
  refine wpIn_rangeFunc_T (α := HPt) (n := 5) rfl (by omega) (gf := 94) rfl trivial (enters_of Try.func94 (by kernel_rfl) rfl) SQ (Ext.refl _) rfl
    (fun pre W => Ext w0 W ∧ ∃ vo, Boxed W w.heap.size 48 vo ∧ OwnP w0.heap.size W vo (l ++ pre))
    (fun _ _ _ => False)
    (fun _ _ h => h.1) ?_ ?_ ?_ (fun _ _ _ _ _ _ h => h.elim) ⟨E02, _, b0, by simpa using ho2⟩
    (fun x a' W => ∃ H, W.cell? ⟨H, 0, none⟩ = some (.int .i64 x.1) ∧ W.cell? ⟨H, 1, none⟩ = some (.int .i64 x.2) ∧ a' = ({ tmps := #[.slice A l.length cp, .func (.func 94) #[] #[.pointer (some ⟨Bl, 0, none⟩)], .pointer (some ⟨w.heap.size, 0, none⟩), undef, .slice none 0 0, .pointer (some ⟨H, 0, none⟩), .func (.func 94) #[] #[.pointer (some ⟨Bl, 0, none⟩)], .agg #[.int .i64 x.1, .int .i64 x.2], undef, undef, undef, undef, undef], defers := [] } : Act)) ?_ ?_ ?_ ?_ ?_
  · exact fun s W W' ⟨h1, vo, h3, h4⟩ he => ⟨h1.trans he, vo, box_ext h3 he, h4.ext he⟩
  · exact fun s W p u cs fr ⟨h1, vo, h3, h4⟩ hp hge => ⟨h1.set (by omega) u, vo, (Below.heap_setCell W p u _ (by omega)).trans h3, ownsRow_setP h4 (h4.ne_obj hp (by rintro cs e; cases e)) u⟩
  · exact fun s W l o o' ⟨h1, vo, h3, h4⟩ hl hW ho => ⟨h1.put (by omega) o', vo, (World.putObj_heap_other (by omega)).trans h3, h4.grown (grownBy_putObj' W l o') (.inr (h4.ne_obj hW (by rintro cs rfl; cases ho)))⟩
  · exact fun x a' W l1 o1 o' ⟨H, h1, h2, h3⟩ _ hW ho => ⟨H, cell_put h1 o' hW ho, cell_put h2 o' hW ho, h3⟩
  · intro l1 x W K hz hK
    obtain ⟨xa, xb⟩ := x
    simp only [vPt] at hK ⊢
    gi_wp2
    exact hK _ _ ((Ext.refl W).alloc _) ⟨W.heap.size, by go_simp, by go_simp, rfl⟩
  · rintro l1 pre x suf a' W ⟨i1, vo, i3, i4⟩ ⟨H, x0, x1, rfl⟩ hsp hz
    obtain ⟨xa, xb⟩ := x
    simp only at *
    obtain ⟨Ao, co, rfl, hmo⟩ := i4.shape
    have y2 := i3.cell
    have f2 := i3.frozen
    have how := i4
    unfold OwnP at how
    have hlen : (l ++ pre).length ≤ 10004 := by have := congrArg List.length hsp; simp [rectP] at this; rw [List.length_append]; omega
    have HI := Lib.hid (And.intro i1 (And.intro i3 i4))
    obtain ⟨N, hN⟩ : ∃ N, (l ++ pre).length = N := ⟨_, rfl⟩
    rw [hN] at how y2 hlen
    have HN := Lib.hid hN
    have HOW := Lib.hid how
    have hWs := i1.size
    clear i1 i3 i4 how hsp hN hmo
    gi_wp2_with (gi_at_builtin; refine wpListIn_append_own _ rfl _ _ 48 rfl w0.heap.size 52 ip _ 2 16 Try.underlying48 hi0 hi1 hi2 hi3 rfl (by decide) _ _ _ rfl (HOW.out.alloc _) ⟨W.heap.size, 0, none⟩ 1 1 [.int .i64 xa, .int .i64 xb] rfl rfl (World.news_of_block (cs := #[.int .i64 xa, .int .i64 xb]) (t := 52) (fr := (0, 0)) (World.alloc_heap_new W _)) (by simp [Value.oneCell']) (by unfold maxLen; omega) (by omega) (by simp; omega) ?_; intro v' w4 hown' hg3 _; obtain ⟨g', cap', rfl⟩ := ownsRow_succ hown'; have hap := Boxed.appended (HN.out ▸ HI.out.2.1) (by decide) HOW.out (by omega) (by omega) hown' hg3; have hc3 := hap.1.cell; have hf3 := hap.1.frozen; replace hap := Lib.hid hap; replace hg3 := Lib.hid hg3)
    obtain ⟨p1, p2, p3, p4, p5⟩ := hap.out
    have hsz := p5.size
    have i3 := HI.out.2.1
    have i4 := HI.out.2.2
    refine ⟨p4, ⟨hsz, fun k cs t fr ht hB hk => ?_⟩, Below.trans HI.out.1 p5, _, p2, ?_⟩
    · have hne : k ≠ w.heap.size := fun e => by
        rw [e] at hk
        rw [i3] at hk
        simp only [Option.some.injEq, Obj.cells.injEq] at hk
        obtain ⟨-, ht2, -⟩ := hk
        rw [ht] at ht2
        cases ht2
      have hno := i4.ne_obj hk (by rintro cs2 e2; simp only [Obj.cells.injEq] at e2; rw [ht] at e2; cases e2.2.1)
      rw [HN.out] at hno
      exact (Below.heap_setCell _ _ _ _ hne).trans (kept_neA hg3.out hno (lb_alloc hk _))
    · have e : l ++ (pre ++ [(xa, xb)]) = (l ++ pre) ++ [(xa, xb)] := by simp
      rw [e]
      exact OwnP.snoc (by rw [HN.out]; exact p3)
  · rintro D W hD ⟨i1, vo, i3, i4⟩ hDD
    have y2 := i3.cell
    obtain ⟨Ao, co, rfl, hmo⟩ := i4.shape
    refine (‹∀ (a : Act) (w : World), Code.wp Try.prog _ _ a w → _›) _ _ ?_
    go_wp2_with fail
    refine ⟨by simp, .inl ⟨_, _, rfl, run_takeDeferred hDD, ?_⟩⟩
    refine ⟨.slice Ao (l ++ rectP a b d e).length co, by simp [results, Try.results80, go_sem], ?_⟩
    exact ⟨_, rfl, i4.grown (grownBy_putObj' W D _) (.inr (i4.ne_obj hDD (by rintro cs e2; cases e2))), i1.put (by omega) _⟩
  · exact fun D c pre W hD h => h.elim
end Go.Proofs.Ytkkeblgahbpmmaa
