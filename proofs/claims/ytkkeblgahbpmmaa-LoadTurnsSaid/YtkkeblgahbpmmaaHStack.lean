
/- plane.stack over the points of a slice. -/
import Derived.Test.YtkkeblgahbpmmaaHVals
import Derived.Test.YtkkeblgahbpmmaaHOwn
import Derived.Test.YtkkeblgahbpmmaaHRound
namespace Go.Proofs.Ytkkeblgahbpmmaa
open Go.RowKit Go.Shelf Go.Lib Go.Maps
attribute [local go_sem] Oper.semAt_some

theorem Ext.put {w W : World} (h : Ext w W) {l : Nat} (hl : w.heap.size ≤ l) (o : Obj) : Ext w (W.putObj l o) := Below.grown h (grownBy_putObj' W l o) (Below.size h) (fun k e => by cases e; exact hl)
theorem cell_put {W : World} {a : Addr} {v : Value} {l : Nat} {o : Obj} (h : W.cell? a = some v) (o' : Obj) (hl : W.heap[l]? = some o) (ho : o.isCells = false) : (W.putObj l o').cell? a = some v :=
  cell_kept h (grownBy_putObj' W l o') (fun r e => by cases e; exact ⟨o, hl, ho⟩)
theorem OwnP.ne_obj {base j : Nat} {W : World} {v : Value} {l : List HPt} {o : Obj} (h : OwnP base W v l) (hj : W.heap[j]? = some o) (hne : ∀ cs, o ≠ .cells cs 52 (0, 0)) : v.ownBlock ≠ some j := by
  intro hv
  rcases h.2 with ⟨rfl, _⟩ | ⟨g, cap, cur, rfl, hb, hg, hr⟩
  · simp [Value.ownBlock] at hv
  · have : g = j := by simpa [Value.ownBlock] using hv
    subst this
    rw [hg] at hj
    exact hne _ (Option.some.inj hj).symm
theorem OwnP.grown {base : Nat} {W W' : World} {v : Value} {l : List HPt} {row : Option Nat} (h : OwnP base W v l) (hg : W.grownBy W' row) (hne : v.ownBlock = none ∨ v.ownBlock ≠ row) : OwnP base W' v l := World.ownsRow.kept h hg hne
theorem ownsRow_setP {base : Nat} {W : World} {v : Value} {l : List HPt} {p : Addr} (h : OwnP base W v l) (hp : v.ownBlock ≠ some p.block) (u : Value) : OwnP base (W.setCell p u) v l := by
  refine ⟨h.1, ?_⟩
  rcases h.2 with h0 | ⟨g, cap, cur, rfl, hb, hg, hr⟩
  · exact .inl h0
  · exact .inr ⟨g, cap, cur, rfl, hb, (Below.heap_setCell W p u g (fun e => hp (by simp [Value.ownBlock, e]))).trans hg, hr⟩
theorem pbox_new (W : World) (o : Obj) (t : TypeId) (v : Value) : Boxed ((W.alloc o).alloc (.cells #[v] t)) (W.heap.size + 1) t v := by
  have := Boxed.new (W.alloc o) t v
  rw [size_alloc] at this
  exact this

theorem keeps_ext {W W' : World} (h : Ext W W') : KeepsOthers W W' := ⟨h.size, fun j _ hj _ => (h.block j (Array.getElem?_eq_some_iff.1 hj).1).trans hj⟩
/-- the length of the slice in a box -/
def lenAt (w : World) (b : Nat) : Nat := match w.cell? ⟨b, 0, none⟩ with | some (.slice _ n _) => n | _ => 0
set_option maxRecDepth 100000 in
set_option maxHeartbeats 8000000 in
theorem stack_c (Bl : Nat) (v : Value) (l : List HPt) (w : World) (hs : Pts w v l) (hw : ∀ p ∈ l, wideB p) (cl : Boxed w Bl 48 v) (hn : l.length ≤ 100000) :
    Calls Try.prog 104 #[.func (.func 119) #[] #[.pointer (some ⟨Bl, 0, none⟩)], .func (.func 102) #[] #[]] w fun e w' =>
      ∃ v', e = .returned v' ∧ OwnP w.heap.size w' v' (sideP l) ∧ Ext w w' := by
  refine (callsIn_wide (n := 5)).1 ?_
  refine callsIn_of_wp_marks Try.func104 rfl trivial ?_ rfl
  simp only [Try.ntmps104, List.size_toArray, List.length_cons, List.length_nil, Nat.reduceAdd, Nat.reduceSub, Array.replicate_succ, Array.replicate_zero, List.push_toArray, List.append_toArray, List.nil_append, List.cons_append]
  refine wpIn_wide.2 ?_
  go_upto_region 2 with fail
  have E2 : Ext w ((w.alloc (.cells #[.func (.func 102) #[] #[]] 148)).alloc (.cells #[.slice none 0 0] 48)) := ((Ext.refl w).alloc _).alloc _
  have b0 : Boxed ((w.alloc (.cells #[.func (.func 102) #[] #[]] 148)).alloc (.cells #[.slice none 0 0] 48)) w.heap.size 148 (.func (.func 102) #[] #[]) := (Boxed.new w _ _).alloc _
  have b1 : Boxed ((w.alloc (.cells #[.func (.func 102) #[] #[]] 148)).alloc (.cells #[.slice none 0 0] 48)) (w.heap.size + 1) 48 (.slice none 0 0) := pbox_new _ _ _ _
  generalize ((w.alloc (.cells #[.func (.func 102) #[] #[]] 148)).alloc (.cells #[.slice none 0 0] 48)) = W2 at *
  have zb1 := (Array.getElem?_eq_some_iff.1 b1).1
  have HB := Lib.hid (And.intro b0 b1)
  have SQ := values_seq Bl v l w W2 E2 hs (box_ext cl E2) (fun _ => False) 2
  go_wp2_with fail
  refine (wpIn_wide (n := 5)).1 ?_
  refine wpIn_rangeFunc_T (α := HPt) (n := 5) rfl (by omega) (gf := 119) rfl trivial (enters_of Try.func119 (by kernel_rfl) rfl) SQ (Ext.refl _) rfl
    (fun pre W => Ext w W ∧ Boxed W w.heap.size 148 (.func (.func 102) #[] #[]) ∧ ∃ vo, Boxed W (w.heap.size + 1) 48 vo ∧ OwnP w.heap.size W vo (pre.foldl pushP []).reverse)
    (fun _ _ _ => False)
    (fun _ _ h => h.1) ?_ ?_ ?_ (fun _ _ _ _ _ _ h => h.elim) ⟨E2, b0, _, b1, OwnP.none0⟩
    (fun x a' W => ∃ H, W.cell? ⟨H, 0, none⟩ = some (.int .i64 x.1) ∧ W.cell? ⟨H, 1, none⟩ = some (.int .i64 x.2) ∧ a' = ({ tmps := #[.func (.func 119) #[] #[.pointer (some ⟨Bl, 0, none⟩)], .func (.func 102) #[] #[], undef, .pointer (some ⟨w.heap.size, 0, none⟩), .slice none 0 0, .pointer (some ⟨w.heap.size + 1, 0, none⟩), .pointer (some ⟨H, 0, none⟩), .func (.func 119) #[] #[.pointer (some ⟨Bl, 0, none⟩)], .agg #[.int .i64 x.1, .int .i64 x.2], undef, undef, undef, undef, undef, undef, undef, undef, undef, undef, undef, undef, undef, undef, undef, undef, undef, undef, undef, undef, undef, undef, undef, undef, undef, undef, undef, undef, undef, undef], defers := [] } : Act)) ?_ ?_ ?_ ?_ ?_
  · exact fun s W W' ⟨h1, h2, vo, h3, h4⟩ he => ⟨h1.trans he, box_ext h2 he, vo, box_ext h3 he, h4.ext he⟩
  · exact fun s W p u cs fr ⟨h1, h2, vo, h3, h4⟩ hp hge => ⟨h1.set (by omega) u, (Below.heap_setCell W p u _ (by omega)).trans h2, vo, (Below.heap_setCell W p u _ (by omega)).trans h3, ownsRow_setP h4 (h4.ne_obj hp (by rintro cs e; cases e)) u⟩
  · exact fun s W l o o' ⟨h1, h2, vo, h3, h4⟩ hl hW ho => ⟨h1.put (by omega) o', (World.putObj_heap_other (by omega)).trans h2, vo, (World.putObj_heap_other (by omega)).trans h3, h4.grown (grownBy_putObj' W l o') (.inr (h4.ne_obj hW (by rintro cs rfl; cases ho)))⟩
  · exact fun x a' W l1 o1 o' ⟨H, h1, h2, h3⟩ _ hW ho => ⟨H, cell_put h1 o' hW ho, cell_put h2 o' hW ho, h3⟩
  · intro l1 x W K hz hK
    obtain ⟨xa, xb⟩ := x
    simp only [vPt] at hK ⊢
    gi_wp2
    exact hK _ _ ((Ext.refl W).alloc _) ⟨W.heap.size, by go_simp, by go_simp, rfl⟩
  · rintro l1 pre x suf a' W ⟨i1, i2, vo, i3, i4⟩ ⟨H, x0, x1, rfl⟩ hsp hz
    obtain ⟨xa, xb⟩ := x
    simp only at *
    obtain ⟨X, hX⟩ : ∃ X, popP (pre.foldl pushP []) (xa, xb) = X := ⟨_, rfl⟩
    have HX := Lib.hid hX
    have HPL := Lib.hid (show (pre.foldl pushP []).length ≤ 100000 from Nat.le_trans (foldP_len pre []) (by have := congrArg List.length hsp; simp at this ⊢; omega))
    have HWD := Lib.hid (show ∀ p ∈ pre.foldl pushP [], wideB p from fun p hp => hw p (by
      rcases foldP_mem pre [] hp with h | h
      · simp at h
      · rw [hsp]; simp [h]))
    have HWX := Lib.hid (show wideB (xa, xb) from hw _ (by rw [hsp]; simp))
    clear hX
    obtain ⟨ip, hi0, hii⟩ := Option.map_eq_some_iff.1 infoPoint
    simp only [Prod.mk.injEq] at hii
    obtain ⟨hi1, hi2, hi3⟩ := hii
    gi_wp2
    gi_loopw [9] (fun s wr => ∃ (st : List HPt) (v2 : Value), Ext w wr ∧ KeepsOthers W wr ∧ W.heap.size ≤ wr.heap.size ∧ Boxed wr w.heap.size 148 (.func (.func 102) #[] #[]) ∧ wr.cell? ⟨H, 0, none⟩ = some (.int .i64 xa) ∧ wr.cell? ⟨H, 1, none⟩ = some (.int .i64 xb) ∧ (popP st (xa, xb) = X ∧ st.length ≤ 100000 ∧ ∀ p ∈ st, wideB p) ∧ Boxed wr (w.heap.size + 1) 48 v2 ∧ OwnP w.heap.size wr v2 st.reverse) (fun _ wr => lenAt wr (w.heap.size + 1))
    case atStart =>
      exact ⟨pre.foldl pushP [], vo, i1, KeepsOthers.refl _, Nat.le_refl _, i2, x0, x1, ⟨HX.out, HPL.out, HWD.out⟩, i3, i4⟩
    case round =>
      obtain ⟨st, v2, h1, h2, h3, h4, h5, h6, h7, h8, h9⟩ := hrel
      have y4 := h4.cell
      have y8 := h8.cell
      obtain ⟨Ao, co, rfl, _⟩ := h9.shape
      have hHne : H ≠ w.heap.size + 1 := fun e => by rw [e] at h5; rw [h5] at y8; simp at y8
      have HH := Lib.hid (And.intro h1 (And.intro h2 (And.intro h3 (And.intro h4 (And.intro h7 (And.intro h8 h9))))))
      have h7b := h7.2.1
      clear h1 h2 h3 h4 h7 h8 h9
      by_cases hst : st.length < 2
      · have hpop := popP_short hst xa xb
        have HP := Lib.hid hpop
        clear hpop
        simp only [List.length_reverse] at *
        generalize hN : st.length = N at y8 hst
        have HN := Lib.hid hN
        have hle : N ≤ 100000 := by omega
        clear hN
        have g0 : decide ((2 : Int) ≤ (N : Int)) = false := by simp; omega
        gi_wp2
        refine region_quiet_roundC (F := Fence.wide) (fun w' => Ext wr w') rfl (by kernel_rfl) (by rfl) (by kernel_rfl) ((Ext.refl _).drew) ?_
        repeat
          refine wpQuietIn_step (fun _ _ _ _ => trivial) (fun K hK => ?_)
          go_simp
          first
            | (refine hK _ ?_; clear hK K)
            | (apply Exists.intro
               refine ⟨fun w' hC => ?_, hK _ ?_⟩
               · first
                   | rfl
                   | (have c8 := hC.cell y8; skip; go_simp; done)
                   | (have c8 := hC.cell y8; skip; go_simp; exact ⟨rfl, rfl⟩)
                   | (have c8 := hC.cell y8; skip; go_simp; rfl)
               clear hK K)
        refine wpQuietIn_nil ?_
        intro w2 hE2
        have y8b := hE2.cell y8
        have x0b := hE2.cell h5
        have x1b := hE2.cell h6
        have HY := Lib.hid (And.intro y8 (And.intro y4 (And.intro h5 h6)))
        have hbx := box_ext HH.out.2.2.2.2.2.1 hE2
        simp only [HN.out] at hbx
        have HBX := Lib.hid hbx
        have f8b := hbx.frozen
        clear hbx
        have how := HH.out.2.2.2.2.2.2.ext hE2
        unfold OwnP at how
        simp only [List.length_reverse, HN.out] at how
        have HOW := Lib.hid how
        have zW : w.heap.size + 1 < w2.heap.size := (Array.getElem?_eq_some_iff.1 HBX.out).1
        clear y8 y4 h5 h6 how
        have hE2' := Lib.hid hE2
        clear hE2
        gi_wp2_with (gi_at_builtin; refine wpListIn_append_own _ rfl _ _ 48 rfl w.heap.size 52 ip _ 2 16 Try.underlying48 hi0 hi1 hi2 hi3 rfl (by decide) _ _ _ rfl (HOW.out.alloc _) ⟨w2.heap.size, 0, none⟩ 1 1 [.int .i64 xa, .int .i64 xb] rfl rfl (World.news_of_block (cs := #[.int .i64 xa, .int .i64 xb]) (t := 52) (fr := (0, 0)) (World.alloc_heap_new w2 _)) (by simp [Value.oneCell']) (by unfold maxLen; omega) (by omega) (by simp; omega) ?_; intro v' w4 hown' hg3 _; obtain ⟨g', cap', rfl⟩ := ownsRow_succ hown'; have hap := Boxed.appended HBX.out (by decide) HOW.out (by omega) (by omega) hown' hg3; have hc3 := hap.1.cell; have hf3 := hap.1.frozen; replace hap := Lib.hid hap; replace hg3 := Lib.hid hg3)
        obtain ⟨p1, p2, p3, p4, p5⟩ := hap.out
        have z5 := p5.size
        have hx9 := HH.out.2.2.2.2.1.1
        refine ⟨HH.out.2.1.trans ((keeps_ext hE2'.out).trans p4), ⟨Nat.le_trans HH.out.2.2.1 (Nat.le_trans hE2'.out.size z5), fun _ _ _ _ h => h.elim⟩, Below.trans (Ext.trans HH.out.1 hE2'.out) p5, ?_, _, p2, ?_⟩
        · have hb4 := box_ext HH.out.2.2.2.1 hE2'.out
          exact (Below.heap_setCell _ _ _ _ (by simp)).trans ((hb4.alloc _).kept hg3.out (hb4.not_row (by decide) HOW.out))
        · have e : (List.foldl pushP [] (pre ++ [(xa, xb)])).reverse = st.reverse ++ [(xa, xb)] := by
            rw [List.foldl_append]
            simp only [List.foldl_cons, List.foldl_nil, pushP]
            rw [HX.out, ← hx9, HP.out, List.reverse_cons]
          rw [e]
          exact OwnP.snoc (by rw [List.length_reverse, HN.out]; exact p3)
      · obtain ⟨b, a, r, hst3⟩ : ∃ b a r, st = b :: a :: r := by
          rcases st with _ | ⟨b, _ | ⟨a, r⟩⟩
          · exact absurd (by decide) hst
          · exact absurd (by simp) hst
          · exact ⟨b, a, r, rfl⟩
        have hA : st.reverse[r.length]? = some a := by rw [hst3]; simp
        have hB : st.reverse[r.length + 1]? = some b := by rw [hst3]; simp
        obtain ⟨g, c, e1, hc1, hc2, ca1, ca2⟩ := HH.out.2.2.2.2.2.2.at hA
        obtain ⟨g2, c2, e2, _, _, cb1, cb2⟩ := HH.out.2.2.2.2.2.2.at hB
        simp only [Value.slice.injEq] at e1 e2
        obtain ⟨rfl, -, rfl⟩ := e1
        obtain ⟨e3, -, -⟩ := e2
        simp only [Option.some.injEq, Addr.mk.injEq, and_true] at e3
        subst e3
        have hwa := HH.out.2.2.2.2.1.2.2 a (by rw [hst3]; simp)
        have hwb := HH.out.2.2.2.2.1.2.2 b (by rw [hst3]; simp)
        obtain ⟨a1, a2⟩ := a
        obtain ⟨b1, b2⟩ := b
        have hlen : st.length = r.length + 2 := by rw [hst3]; rfl
        simp only [List.length_reverse] at *
        generalize hN : st.length = N at y8 hst hlen h7b hc1 
        generalize hM : r.length = M at hlen ca1 ca2 cb1 cb2
        obtain ⟨M1, hM1⟩ : ∃ M1, M1 = M + 1 := ⟨_, rfl⟩
        rw [← hM1] at cb1 cb2
        have wm2 : IntKind.i64.wrap ((N : Int) - 2) = (M : Int) := by rw [IntWalk.i64_in _ (by omega)]; omega
        have wm1 : IntKind.i64.wrap ((N : Int) - 1) = (M1 : Int) := by rw [IntWalk.i64_in _ (by omega)]; omega
        have hMN : M < N := by omega
        have hM1N : M1 < N := by omega
        have hle : N ≤ 100000 := h7b
        have hco : co ≤ 9223372036854775807 := by unfold maxLen at hc2; omega
        have g0 : decide ((2 : Int) ≤ (N : Int)) = true := by simp; omega
        have HS := Lib.hid (And.intro hst3 (And.intro hlen (And.intro hM hM1)))
        have HN := Lib.hid hN
        have CR := fun w => right_c a1 a2 b1 b2 xa xb w hwa hwb HWX.out
        clear hA hB hst3 hlen hM hM1 hN hwa hwb h7b hst hc2
        by_cases hcr : crossP (a1, a2) (b1, b2) (xa, xb) ≤ 0
        · simp only [hcr, decide_true] at CR
          replace CR := Lib.hid CR
          have hcr := Lib.hid hcr
          gi_wp2
          refine region_quiet_roundC (F := Fence.wide) (fun w' => Ext wr w') rfl (by kernel_rfl) (by rfl) (by kernel_rfl) ((Ext.refl _).drew) ?_
          repeat
            refine wpQuietIn_step (fun _ _ _ _ => trivial) (fun K hK => ?_)
            go_simp
            first
              | (refine hK _ ?_; clear hK K)
              | (apply Exists.intro
                 refine ⟨fun w' hC => ?_, hK _ ?_⟩
                 · first
                     | rfl
                     | (have c8 := hC.cell y8; have c4 := hC.cell y4; have x0c := hC.cell h5; have x1c := hC.cell h6; have ca1c := hC.cell ca1; have ca2c := hC.cell ca2; have cb1c := hC.cell cb1; have cb2c := hC.cell cb2; go_simp; done)
                     | (have c8 := hC.cell y8; have c4 := hC.cell y4; have x0c := hC.cell h5; have x1c := hC.cell h6; have ca1c := hC.cell ca1; have ca2c := hC.cell ca2; have cb1c := hC.cell cb1; have cb2c := hC.cell cb2; go_simp; exact ⟨rfl, rfl⟩)
                     | (have c8 := hC.cell y8; have c4 := hC.cell y4; have x0c := hC.cell h5; have x1c := hC.cell h6; have ca1c := hC.cell ca1; have ca2c := hC.cell ca2; have cb1c := hC.cell cb1; have cb2c := hC.cell cb2; go_simp; rfl)
                     | (refine (callsIn_wide).2 ?_; exact (CR.out _).mono fun e w'' ⟨he, hw''⟩ => ⟨he, hC.trans hw''⟩)
                 clear hK K)
          refine wpQuietIn_nil ?_
          intro w2 hE2
          have y8b := hE2.cell y8
          have hbx := box_ext HH.out.2.2.2.2.2.1 hE2
          simp only [HN.out] at hbx
          have f8b := hbx.frozen
          have HBX := Lib.hid hbx
          have hE2' := Lib.hid hE2
          have HX0 := Lib.hid (And.intro h5 h6)
          have HY := Lib.hid y8
          clear hbx hE2 y8 CR ca1 ca2 cb1 cb2 h5 h6 y4 wm2
          gi_wp2
          have how := HH.out.2.2.2.2.2.2
          rw [HN.out] at how
          have hml : M1 ≤ st.reverse.length := by rw [List.length_reverse, HN.out]; omega
          have htk : ((a1, a2) :: r).reverse = st.reverse.take M1 := by
            rw [HS.out.1, HS.out.2.2.2, ← HS.out.2.2.1]
            rw [show ((b1, b2) :: (a1, a2) :: r).reverse = ((a1, a2) :: r).reverse ++ [(b1, b2)] from by simp, List.take_left' (by simp)]
          have hcut : OwnP w.heap.size w2 (.slice (some ⟨g, 0, none⟩) M1 co) ((a1, a2) :: r).reverse := by
            rw [htk]
            refine OwnP.cut (l := st.reverse) ?_ M1 hml
            rw [List.length_reverse, HN.out]
            exact how.ext hE2'.out
          have hbl := (HBX.out.not_row (by decide) (how.ext hE2'.out)).symm
          refine ⟨⟨(a1, a2) :: r, .slice (some ⟨g, 0, none⟩) M1 co, ?_, ?_, ?_, ?_, ?_, ?_, ⟨?_, ?_, ?_⟩, ?_, ?_⟩, ?_⟩
          · exact (HH.out.1.trans hE2'.out).set (by simp) _
          · exact HH.out.2.1.trans ((keeps_ext hE2'.out).trans (KeepsOthers.setCell _ _ _))
          · rw [size_setCell]; exact Nat.le_trans HH.out.2.2.1 hE2'.out.size
          · exact (Below.heap_setCell _ _ _ _ (by simp)).trans (box_ext HH.out.2.2.2.1 hE2'.out)
          · exact cell_set_ne hHne (hE2'.out.cell HX0.out.1)
          · exact cell_set_ne hHne (hE2'.out.cell HX0.out.2)
          · rw [← popP_drop hcr.out, ← HS.out.1]; exact HH.out.2.2.2.2.1.1
          · have := HS.out; simp only [List.length_cons]; omega
          · intro p hp
            exact HH.out.2.2.2.2.1.2.2 p (by rw [HS.out.1]; exact List.mem_cons_of_mem _ hp)
          · exact HBX.out.set _
          · exact ownsRow_setP hcut (by simpa [Value.ownBlock] using hbl) _
          · unfold lenAt
            rw [(HBX.out.set _).cell, HY.out]
            exact hM1N
        · simp only [hcr, decide_false] at CR
          replace CR := Lib.hid CR
          have hpop := popP_keep (r := r) hcr
          rw [← HS.out.1] at hpop
          have HP := Lib.hid hpop
          clear hcr hpop
          gi_wp2
          refine region_quiet_roundC (F := Fence.wide) (fun w' => Ext wr w') rfl (by kernel_rfl) (by rfl) (by kernel_rfl) ((Ext.refl _).drew) ?_
          repeat
            refine wpQuietIn_step (fun _ _ _ _ => trivial) (fun K hK => ?_)
            go_simp
            first
              | (refine hK _ ?_; clear hK K)
              | (apply Exists.intro
                 refine ⟨fun w' hC => ?_, hK _ ?_⟩
                 · first
                     | rfl
                     | (have c8 := hC.cell y8; have c4 := hC.cell y4; have x0c := hC.cell h5; have x1c := hC.cell h6; have ca1c := hC.cell ca1; have ca2c := hC.cell ca2; have cb1c := hC.cell cb1; have cb2c := hC.cell cb2; go_simp; done)
                     | (have c8 := hC.cell y8; have c4 := hC.cell y4; have x0c := hC.cell h5; have x1c := hC.cell h6; have ca1c := hC.cell ca1; have ca2c := hC.cell ca2; have cb1c := hC.cell cb1; have cb2c := hC.cell cb2; go_simp; exact ⟨rfl, rfl⟩)
                     | (have c8 := hC.cell y8; have c4 := hC.cell y4; have x0c := hC.cell h5; have x1c := hC.cell h6; have ca1c := hC.cell ca1; have ca2c := hC.cell ca2; have cb1c := hC.cell cb1; have cb2c := hC.cell cb2; go_simp; rfl)
                     | (refine (callsIn_wide).2 ?_; exact (CR.out _).mono fun e w'' ⟨he, hw''⟩ => ⟨he, hC.trans hw''⟩)
                 clear hK K)
          refine wpQuietIn_nil ?_
          intro w2 hE2
          clear ca1 ca2 cb1 cb2 wm2 wm1 CR
          have y8b := hE2.cell y8
          have x0b := hE2.cell h5
          have x1b := hE2.cell h6
          have HY := Lib.hid (And.intro y8 (And.intro y4 (And.intro h5 h6)))
          have hbx := box_ext HH.out.2.2.2.2.2.1 hE2
          simp only [HN.out] at hbx
          have HBX := Lib.hid hbx
          have f8b := hbx.frozen
          clear hbx
          have how := HH.out.2.2.2.2.2.2.ext hE2
          unfold OwnP at how
          simp only [List.length_reverse, HN.out] at how
          have HOW := Lib.hid how
          have zW : w.heap.size + 1 < w2.heap.size := (Array.getElem?_eq_some_iff.1 HBX.out).1
          clear y8 y4 h5 h6 how
          have hE2' := Lib.hid hE2
          clear hE2
          gi_wp2_with (gi_at_builtin; refine wpListIn_append_own _ rfl _ _ 48 rfl w.heap.size 52 ip _ 2 16 Try.underlying48 hi0 hi1 hi2 hi3 rfl (by decide) _ _ _ rfl (HOW.out.alloc _) ⟨w2.heap.size, 0, none⟩ 1 1 [.int .i64 xa, .int .i64 xb] rfl rfl (World.news_of_block (cs := #[.int .i64 xa, .int .i64 xb]) (t := 52) (fr := (0, 0)) (World.alloc_heap_new w2 _)) (by simp [Value.oneCell']) (by unfold maxLen; omega) (by omega) (by simp; omega) ?_; intro v' w4 hown' hg3 _; obtain ⟨g', cap', rfl⟩ := ownsRow_succ hown'; have hap := Boxed.appended HBX.out (by decide) HOW.out (by omega) (by omega) hown' hg3; have hc3 := hap.1.cell; have hf3 := hap.1.frozen; replace hap := Lib.hid hap; replace hg3 := Lib.hid hg3)
          obtain ⟨p1, p2, p3, p4, p5⟩ := hap.out
          have z5 := p5.size
          have hx9 := HH.out.2.2.2.2.1.1
          refine ⟨HH.out.2.1.trans ((keeps_ext hE2'.out).trans p4), ⟨Nat.le_trans HH.out.2.2.1 (Nat.le_trans hE2'.out.size z5), fun _ _ _ _ h => h.elim⟩, Below.trans (Ext.trans HH.out.1 hE2'.out) p5, ?_, _, p2, ?_⟩
          · have hb4 := box_ext HH.out.2.2.2.1 hE2'.out
            exact (Below.heap_setCell _ _ _ _ (by simp)).trans ((hb4.alloc _).kept hg3.out (hb4.not_row (by decide) HOW.out))
          · have e : (List.foldl pushP [] (pre ++ [(xa, xb)])).reverse = st.reverse ++ [(xa, xb)] := by
              rw [List.foldl_append]
              simp only [List.foldl_cons, List.foldl_nil, pushP]
              rw [HX.out, ← hx9, HP.out, List.reverse_cons]
            rw [e]
            exact OwnP.snoc (by rw [List.length_reverse, HN.out]; exact p3)

  · intro D W hD ⟨j1, j2, vo, j3, j4⟩ hDD
    have y3 := j3.cell
    have HJ := Lib.hid (And.intro j1 j4)
    have hDD' := Lib.hid hDD
    obtain ⟨Ao, co, rfl, _⟩ := j4.shape
    clear j1 j2 j3 j4
    refine (‹∀ (a : Act) (w : World), Code.wp Try.prog _ _ a w → _›) _ _ ?_
    go_wp2_with fail
    refine ⟨by simp, .inl ⟨_, _, rfl, run_takeDeferred hDD'.out, ?_⟩⟩
    refine ⟨.slice Ao (l.foldl pushP []).length co, by simp [results, Try.results104, go_sem], ?_⟩
    have hx := HJ.out.2.grown (grownBy_putObj' W D (.deferred none)) (.inr (HJ.out.2.ne_obj hDD'.out (by rintro cs e; cases e)))
    rw [List.length_reverse] at hx
    exact ⟨_, rfl, hx, HJ.out.1.put (by have := E2.size; omega) _⟩
  · exact fun _ _ _ _ _ h _ => h.elim
end Go.Proofs.Ytkkeblgahbpmmaa
