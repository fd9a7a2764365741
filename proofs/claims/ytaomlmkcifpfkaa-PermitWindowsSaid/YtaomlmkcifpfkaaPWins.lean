/- Contract: 'Windows' of the program. -/
import Derived.Test.YtaomlmkcifpfkaaPRWins
namespace Go.Proofs.Ytaomlmkcifpfkaa
open Go.RowKit Go.Shelf Go.Maps
attribute [local go_sem] Oper.semAt_some

theorem winsF_len (al : Int → Bool) : ∀ (n : Nat) (m s : Int), (winsF al n m s).length ≤ n + 1
  | 0, m, s => by simp only [winsF]; split <;> simp
  | n + 1, m, s => by
    simp only [winsF]
    split
    · have := winsF_len al n (m + 1) (if s < 0 then m else s); omega
    · have := winsF_len al n (m + 1) (-1)
      rw [List.length_append]
      split <;> simp <;> omega
theorem wbox_new (W : World) (o : Obj) (t : TypeId) (v : Value) : Boxed ((W.alloc o).alloc (.cells #[v] t)) (W.heap.size + 1) t v := by
  have := Boxed.new (W.alloc o) t v
  rw [size_alloc] at this
  exact this
theorem box_ext' {W W' : World} {B : Nat} {t : TypeId} {v : Value} (h : Boxed W B t v) (he : Ext W W') : Boxed W' B t v := (he.block B (Array.getElem?_eq_some_iff.1 h).1).trans h
theorem own_ne_obj' {α : Type} {n : Nat} {e t : TypeId} {R : World → List Value → α → Prop} {base j : Nat} {W : World} {v : Value} {l : List α} {cs : Array Value} {fr : Nat × Nat} (h : OwnL n e R base W v l) (hj : W.heap[j]? = some (.cells cs t fr)) (hne : t ≠ e) : v.ownBlock ≠ some j := by
  obtain ⟨css, hcl, hown, hcx⟩ := h
  intro hv
  rcases hown.2 with ⟨rfl, _⟩ | ⟨g, cap, cur, rfl, hb, hg, hr⟩
  · simp [Value.ownBlock] at hv
  · have : g = j := by simpa [Value.ownBlock] using hv
    subst this
    rw [hg] at hj
    cases hj
    exact hne rfl
theorem own_ne_other {α : Type} {n : Nat} {e : TypeId} {R : World → List Value → α → Prop} {base j : Nat} {W : World} {v : Value} {l : List α} {o : Obj} (h : OwnL n e R base W v l) (hj : W.heap[j]? = some o) (ho : o.isCells = false) : v.ownBlock ≠ some j := by
  obtain ⟨css, hcl, hown, hcx⟩ := h
  intro hv
  rcases hown.2 with ⟨rfl, _⟩ | ⟨g, cap, cur, rfl, hb, hg, hr⟩
  · simp [Value.ownBlock] at hv
  · have : g = j := by simpa [Value.ownBlock] using hv
    subst this
    rw [hg] at hj
    cases hj
    cases ho

set_option maxRecDepth 100000 in
set_option maxHeartbeats 4000000 in
theorem Windows_c (v vp : Value) (l : List PAuth) (t : PTrip) (k fr to' : Int) (w : World) (hk : -9223372036854775808 ≤ k) (hk2 : k ≤ 9223372036854775807) (hs : Sl 4 RAuth w v l) (hp : Sl 3 RPass w vp t.passages) :
    Calls Try.prog 36 #[v, tripV t vp, .int .i64 k, .int .i64 fr, .int .i64 to'] w (WinR l t k fr to' w) := by
  have C1 := fun w' (h : Ext w w') => findP_c v vp l t k w' hk hk2 (hs.ext RAuth.stable h) (hp.ext RPass.stable h)
  obtain ⟨A, cap, rfl, hl, hcap⟩ := hs.shape
  obtain ⟨Ap, capp, rfl, hpl, hpcap⟩ := hp.shape
  obtain ⟨i1, hi1, hi10, hi11, hi12⟩ := info_parts infoWin
  have C3 := fun w' => validMinute_c fr w'
  have C3' := fun w' => validMinute_c to' w'
  unfold tripV at *
  replace C1 := Lib.hid C1
  clear hs hp
  obtain ⟨Post, hPost⟩ : ∃ Post, WinR l t k fr to' w = Post := ⟨_, rfl⟩
  rw [hPost]
  replace hPost := Lib.hid hPost
  refine (callsIn_wide (n := 5)).1 ?_
  refine callsIn_of_wp_marks Try.func36 rfl trivial ?_ rfl
  simp only [Try.ntmps36, List.size_toArray, List.length_cons, List.length_nil, Nat.reduceAdd, Nat.reduceSub, Array.replicate_succ, Array.replicate_zero, List.push_toArray, List.append_toArray, List.nil_append, List.cons_append]
  refine wpIn_wide.2 ?_
  go_wp2_with fail
  refine (C1.out _ (by (repeat' (first | exact Ext.refl _ | assumption | refine Ext.alloc ?_ _ | refine Ext.drew ?_ | refine Ext.drewN ?_ _ | refine Ext.set ?_ (by first | exact Nat.le_refl _ | exact le1 _ | exact le2 _ | exact le3 _ | exact le4 _ | exact le5 _ | exact le6 _) _ | refine Ext.trans ?_ (by assumption))))).mono ?_
  rintro e w1 ⟨hb1, ⟨hne, rfl⟩ | ⟨h0, B, o, vl, vn, rfl, c0, c1, c2, hr1, hr2⟩⟩
  all_goals
    have E1 : Ext w w1 := by (repeat' (first | exact Ext.refl _ | assumption | refine Ext.alloc ?_ _ | refine Ext.drew ?_ | refine Ext.drewN ?_ _ | refine Ext.set ?_ (by first | exact Nat.le_refl _ | exact le1 _ | exact le2 _ | exact le3 _ | exact le4 _ | exact le5 _ | exact le6 _) _ | refine Ext.trans ?_ (by assumption)))
  · have hne' : (someE l t k != 0) = true := by simp [hne]
    have HA := Lib.hid (windowsS_bad (fr := fr) (to' := to') hne)
    generalize someE l t k = E at *
    go_wp2_with fail
    refine ⟨.tuple #[.slice none 0 0, .int .i64 E], by simp [results, Try.results36, go_sem], ?_⟩
    rw [← hPost.out]
    exact ⟨by (repeat' (first | exact Ext.refl _ | assumption | refine Ext.alloc ?_ _ | refine Ext.drew ?_ | refine Ext.drewN ?_ _ | refine Ext.set ?_ (by first | exact Nat.le_refl _ | exact le1 _ | exact le2 _ | exact le3 _ | exact le4 _ | exact le5 _ | exact le6 _) _ | refine Ext.trans ?_ (by assumption))), _, by rw [HA.out], by rw [HA.out]; exact sl_nil'⟩
  · have hPO := passOk h0
    cases hm : inB fr 0 1099511627776
    · have HA := Lib.hid (windowsS_range (fr := fr) (to' := to') h0 (by rw [hm]; simp))
      rw [hm] at C3
      clear hm h0 hr1 hr2 hPO C3'
      replace C3 := Lib.hid C3
      go_wp2_with (go_at_call 57; refine (C3.out _).mono ?_; rintro e w2 ⟨rfl, rfl⟩)
      refine ⟨.tuple #[.slice none 0 0, .int .i64 3], by simp [results, Try.results36, go_sem], ?_⟩
      rw [← hPost.out]
      exact ⟨by (repeat' (first | exact Ext.refl _ | assumption | refine Ext.alloc ?_ _ | refine Ext.drew ?_ | refine Ext.drewN ?_ _ | refine Ext.set ?_ (by first | exact Nat.le_refl _ | exact le1 _ | exact le2 _ | exact le3 _ | exact le4 _ | exact le5 _ | exact le6 _) _ | refine Ext.trans ?_ (by assumption))), _, by rw [HA.out], by rw [HA.out]; exact sl_nil'⟩
    · cases hm' : inB to' 0 1099511627776
      · have HA := Lib.hid (windowsS_range (fr := fr) (to' := to') h0 (by rw [hm']; simp))
        rw [hm] at C3
        rw [hm'] at C3'
        clear hm hm' h0 hr1 hr2 hPO
        replace C3 := Lib.hid C3
        replace C3' := Lib.hid C3'
        go_wp2_with (first | (go_at_call 57; refine (C3.out _).mono ?_; rintro e w2 ⟨rfl, rfl⟩; clear C3) | (go_at_call 57; refine (C3'.out _).mono ?_; rintro e w2 ⟨rfl, rfl⟩))
        refine ⟨.tuple #[.slice none 0 0, .int .i64 3], by simp [results, Try.results36, go_sem], ?_⟩
        rw [← hPost.out]
        exact ⟨by (repeat' (first | exact Ext.refl _ | assumption | refine Ext.alloc ?_ _ | refine Ext.drew ?_ | refine Ext.drewN ?_ _ | refine Ext.set ?_ (by first | exact Nat.le_refl _ | exact le1 _ | exact le2 _ | exact le3 _ | exact le4 _ | exact le5 _ | exact le6 _) _ | refine Ext.trans ?_ (by assumption))), _, by rw [HA.out], by rw [HA.out]; exact sl_nil'⟩
      · have hmm : inB fr 0 1099511627776 = true ∧ inB to' 0 1099511627776 = true := ⟨hm, hm'⟩
        obtain ⟨m1, m2⟩ := inB_iff.1 hm
        obtain ⟨m3, m4⟩ := inB_iff.1 hm'
        rw [hm] at C3
        rw [hm'] at C3'
        replace C3 := Lib.hid C3
        replace C3' := Lib.hid C3'
        clear hm hm'
        by_cases hft : fr < to' ∧ to' - fr ≤ 14400
        · have hwa : winsAt l t k fr to' = winsR (allowedB (rsAt l t k)) (minAt t k) (to' - fr).toNat fr fr := rfl
          have hmany := fun h4 => windowsS_many (k := k) h0 hmm hft h4
          have hok := fun h4 => windowsS_ok (k := k) h0 hmm hft h4
          obtain ⟨R, hR⟩ : ∃ R, winsAt l t k fr to' = R := ⟨_, rfl⟩
          rw [hR] at hwa hmany hok
          have hd1 := hPO.min1
          have hd2 := hPO.min2
          have hwf := (winsF_wide (allowedB (rsAt l t k)) (minAt t k) hd1 (to' - fr).toNat fr m1).1
          rw [← hwa] at hwf
          have HMO := Lib.hid (And.intro hmany hok)
          have HPO := Lib.hid hPO
          have HR1 := Lib.hid hr1
          have HWF := Lib.hid hwf
          generalize minAt t k = d at *
          obtain ⟨f1, f2⟩ := hft
          clear hmany hok hR hwa hwf hr1 hr2 hPO h0 hmm
          go_upto_region 9 with (first | (go_at_call 57; refine (C3.out _).mono ?_; rintro e w2 ⟨rfl, rfl⟩; clear C3) | (go_at_call 57; refine (C3'.out _).mono ?_; rintro e w2 ⟨rfl, rfl⟩))
          have E2 : Ext w1 ((w1.alloc (.cells #[.pointer (some ⟨B, o, none⟩)] 103)).alloc (.cells #[.slice none 0 0] 72)) := ((Ext.refl w1).alloc _).alloc _
          have b0 : Boxed ((w1.alloc (.cells #[.pointer (some ⟨B, o, none⟩)] 103)).alloc (.cells #[.slice none 0 0] 72)) w1.heap.size 103 (.pointer (some ⟨B, o, none⟩)) := (Boxed.new w1 _ _).alloc _
          have b1 : Boxed ((w1.alloc (.cells #[.pointer (some ⟨B, o, none⟩)] 103)).alloc (.cells #[.slice none 0 0] 72)) (w1.heap.size + 1) 72 (.slice none 0 0) := wbox_new _ _ _ _
          generalize ((w1.alloc (.cells #[.pointer (some ⟨B, o, none⟩)] 103)).alloc (.cells #[.slice none 0 0] 72)) = W2 at *
          have p0 := b0.cell
          have c2' := E2.cell c2
          have C4 := fun w' => windows_c B o fr to' w'
          replace C4 := Lib.hid C4
          have HB := Lib.hid (And.intro b0 b1)
          clear b0 b1
          go_upto_region 10 with (go_at_call 58; refine (C4.out _).mono ?_; rintro e w3 ⟨rfl, hb3, hx1, hx2, hx3⟩)
          generalize decide (to' ≤ fr) = q1
          generalize decide (14400 < to' - fr) = q2
          obtain ⟨X, hX⟩ : ∃ X, winsF (allowedB (rsAt l t k)) (to' - fr).toNat fr (-1) = X := ⟨_, rfl⟩
          have XB := winsF_bd (allowedB (rsAt l t k)) (to' - fr).toNat fr (-1) m1 (by omega)
          have XL := winsF_len (allowedB (rsAt l t k)) (to' - fr).toNat fr (-1)
          rw [hX] at XB XL HWF
          have HXB := Lib.hid XB
          clear XB
          have E3 : Ext w1 w3 := E2.trans hb3
          have hz2 := E2.size
          have hz3 : W2.heap.size ≤ w3.heap.size := hb3.size
          have zx := (Array.getElem?_eq_some_iff.1 hx3).1
          have SQ := windows_seq B o (W2.heap.size + 1) (W2.heap.size + 1 + 1) W2.heap.size vl (rsAt l t k) fr (to' - fr).toNat w1 w3 E3 HR1.out HPO.out.rules c0 m1 (by omega) hx2 (by rw [show fr + ((to' - fr).toNat : Int) = to' by omega]; exact hx3) hx1 (by omega) (by omega)
          rw [hX] at SQ
          obtain ⟨b0, b1⟩ := HB.out
          have b0' : Boxed w3 w1.heap.size 103 (.pointer (some ⟨B, o, none⟩)) := (hb3.block _ (Array.getElem?_eq_some_iff.1 b0).1).trans b0
          have b1' : Boxed w3 (w1.heap.size + 1) 72 (.slice none 0 0) := (hb3.block _ (Array.getElem?_eq_some_iff.1 b1).1).trans b1
          have zb1 := (Array.getElem?_eq_some_iff.1 b1').1
          refine (wpIn_wide (n := 5)).1 ?_
          refine wpIn_rangeFunc_T (α := Int × Int) (n := 5) rfl (by omega) (gf := 88) rfl trivial (enters_of Try.func88 (by kernel_rfl) rfl) SQ (Ext.refl _) rfl
            (fun pre W => Ext w1 W ∧ Boxed W w1.heap.size 103 (.pointer (some ⟨B, o, none⟩)) ∧ ∃ vo, Boxed W (w1.heap.size + 1) 72 vo ∧ OwnL 2 76 RWin w1.heap.size W vo (pre.filter (wide d)))
            (fun _ _ _ => False)
            (fun _ _ h => h.1) ?_ ?_ ?_ (fun _ _ _ _ _ _ h => h.elim) ⟨E3, b0', _, b1', OwnL.nil⟩
            (fun x a' W => ∃ H, W.cell? ⟨H, 0, none⟩ = some (.int .i64 x.1) ∧ W.cell? ⟨H, 1, none⟩ = some (.int .i64 x.2) ∧ a' = ({ tmps := #[.slice A l.length cap, .agg #[.int .i64 t.z0, .int .i64 t.z1, .int .i64 t.z2, .int .i64 t.z3, .int .i64 t.z4, .int .i64 t.z5, .slice Ap t.passages.length capp], .int .i64 k, .int .i64 fr, .int .i64 to', undef, .pointer (some ⟨w.heap.size, 0, none⟩), undef, undef, undef, .slice none 0 0, .int .i64 0, .pointer (some ⟨w1.heap.size, 0, none⟩), .int .i64 0, .pointer (some ⟨w1.heap.size + 1, 0, none⟩), .pointer (some ⟨H, 0, none⟩), .tuple #[.pointer (some ⟨B, o, none⟩), .int .i64 0], .slice A l.length cap, .agg #[.int .i64 t.z0, .int .i64 t.z1, .int .i64 t.z2, .int .i64 t.z3, .int .i64 t.z4, .int .i64 t.z5, .slice Ap t.passages.length capp], .int .i64 k, .tuple #[.pointer (some ⟨B, o, none⟩), .int .i64 0], .pointer (some ⟨B, o, none⟩), .int .i64 0, .int .i64 0, .bool false, undef, .int .i64 fr, .bool true, .bool false, .bool false, .int .i64 to', .bool true, .bool false, .bool false, .int .i64 fr, .int .i64 to', .bool q1, .bool q1, .int .i64 to', .int .i64 fr, .int .i64 (to' - fr), .bool q2, .bool (q1 || q2), .pointer (some ⟨B, o, none⟩), .int .i64 fr, .int .i64 to', .func (.func 88) #[] #[.pointer (some ⟨W2.heap.size + 1, 0, none⟩), .pointer (some ⟨W2.heap.size + 1 + 1, 0, none⟩), .pointer (some ⟨W2.heap.size, 0, none⟩)], winV x, undef, undef, undef, undef, undef, undef, undef, undef, undef, undef, undef, undef, undef, undef, undef, undef, undef, undef], defers := [] } : Act)) ?_ ?_ ?_ ?_ (fun _ _ _ _ _ h => h.elim)
          · exact fun s W W' ⟨h1, h2, vo, h3, h4⟩ he => ⟨h1.trans he, box_ext' h2 he, vo, box_ext' h3 he, h4.ext RWin.stable he⟩
          · exact fun s W p u cs fr ⟨h1, h2, vo, h3, h4⟩ hp hge => ⟨h1.set (by omega) u, (Below.heap_setCell W p u _ (by omega)).trans h2, vo, (Below.heap_setCell W p u _ (by omega)).trans h3, h4.set' (fun _ _ h => h) (own_ne_obj' h4 hp (by decide))⟩
          · exact fun s W l o o' ⟨h1, h2, vo, h3, h4⟩ hl hW ho => ⟨h1.put (by omega) o', (World.putObj_heap_other (by omega)).trans h2, vo, (World.putObj_heap_other (by omega)).trans h3, h4.grown (fun _ _ h => h) (grownBy_putObj' W l o') (fun g hg => by have h2 := Option.some.inj hg; subst h2; exact own_ne_other h4 hW ho)⟩
          · exact fun x a' W l1 o1 o' ⟨H, h1, h2, h3⟩ _ hW ho => ⟨H, cell_put h1 o' hW ho, cell_put h2 o' hW ho, h3⟩
          · intro l1 x W K hz hK
            obtain ⟨xa, xb⟩ := x
            simp only [winV] at hK ⊢
            gi_wp2
            exact hK _ _ ((Ext.refl W).alloc _) ⟨W.heap.size, by go_simp, by go_simp, rfl⟩
          · rintro l1 pre x suf a' W ⟨i1', i2, vo, i3, i4⟩ ⟨H, x0, x1, rfl⟩ hsp hz
            obtain ⟨xa, xb⟩ := x
            simp only [winV] at *
            have y0 := i2.cell
            have y2 := i1'.cell c2
            have y3 := i3.cell
            have f3 := i3.frozen
            have xbd := HXB.out (xa, xb) (by rw [hsp]; simp)
            simp only at xbd
            obtain ⟨xb1, xb2, xb3⟩ := xbd
            have hpl9 : pre.length ≤ 20000 := by
              have := congrArg List.length hsp
              simp at this
              omega
            have hfl9 : (pre.filter (wide d)).length ≤ 20000 := Nat.le_trans (List.length_filter_le _ _) hpl9
            have hwx := IntWalk.i64_in (xb - xa) (by omega)
            have hmix : Try.prog.follows .mixedOrders = true := by kernel_rfl
            obtain ⟨Ao, co, rfl, _, _⟩ := i4.sl.shape
            have HI := Lib.hid (And.intro i1' (And.intro i2 (And.intro i3 i4)))
            clear i1' i2 i3 i4
            by_cases r2 : d ≤ xb - xa
            · have hfi : (pre ++ [(xa, xb)]).filter (wide d) = pre.filter (wide d) ++ [(xa, xb)] := by rw [List.filter_append]; simp [wide, r2]
              have HFI := Lib.hid hfi
              clear hfi
              gi_wp2
              refine region_quiet_round (F := Fence.wide) rfl (by kernel_rfl) (by rfl) (by kernel_rfl) ?_
              repeat (quiet_step_in (fail))
              refine wpQuietIn_nil ?_
              intro _ hw'
              obtain ⟨nq, hw''⟩ := hw'
              subst hw''
              have hOD := HI.out.2.2.2.ext RWin.stable ((Ext.refl W).drewN nq)
              have bD : Boxed (W.drewN nq) (w1.heap.size + 1) 72 _ := HI.out.2.2.1
              obtain ⟨css, hcl, hown, hcx⟩ := hOD
              have HCX := Lib.hid (And.intro hcl hcx)
              have HOW := Lib.hid hown
              have HBD := Lib.hid bD
              clear hown hcx bD hcl
              have zW : w1.heap.size + 1 < W.heap.size := (Array.getElem?_eq_some_iff.1 HI.out.2.2.1).1
              gi_wp2_with (gi_at_builtin; refine wpListIn_append_own _ rfl _ _ 72 rfl w1.heap.size 76 i1 _ 2 16 Try.underlying72 hi1 hi10 hi11 hi12 rfl (by decide) _ _ _ rfl (HOW.out.alloc _) ⟨(W.drewN nq).heap.size, 0, none⟩ 1 1 [.int .i64 xa, .int .i64 xb] rfl rfl (World.news_of_block (cs := #[.int .i64 xa, .int .i64 xb]) (t := 76) (fr := (0, 0)) (World.alloc_heap_new (W.drewN nq) _)) (by simp [Value.oneCell']) (by unfold maxLen; omega) (by omega) (by simp; omega) ?_; intro v' w4 hown' hg3 _; obtain ⟨g', cap', rfl⟩ := ownsRow_succ hown'; have hap := Boxed.appended HBD.out (by decide) HOW.out (by simp; omega) (by omega) hown' hg3; have hc3 := hap.1.cell; have hf3 := hap.1.frozen; replace hap := Lib.hid hap; replace hg3 := Lib.hid hg3)
              obtain ⟨p1, p2, p3, p4, p5⟩ := hap.out
              have z5 := hg3.out.size
              have kp : KpT keptT w1.heap.size W (w4.setCell ⟨w1.heap.size + 1, 0, none⟩ (.slice (some ⟨g', 0, none⟩) ((pre.filter (wide d)).length + 1) cap')) := by
                refine ⟨by rw [size_setCell]; rw [size_alloc] at z5; exact Nat.le_trans (Nat.le_succ _) z5, fun b cs ty fr2 ht hb h1 => ?_⟩
                have hbl : b < W.heap.size := (Array.getElem?_eq_some_iff.1 h1).1
                have hb2 : b ≠ w1.heap.size + 1 := by
                  rintro rfl
                  rw [HI.out.2.2.1] at h1
                  cases h1
                  rcases ht with ht | ht <;> cases ht
                have hb3 := own_ne_obj' HI.out.2.2.2 h1 (by rintro rfl; rcases ht with ht | ht <;> cases ht)
                exact (Below.heap_setCell _ _ _ b hb2).trans ((hg3.out.block b (by rw [size_alloc]; exact Nat.lt_succ_of_lt hbl) (Ne.symm hb3)).trans ((Below.heap_alloc _ _ b hbl).trans h1))
              refine ⟨(KeepsOthers.drewN W nq).trans p4, kp, Below.trans (HI.out.1.drewN nq) p5, kp.2 _ _ _ _ (.inr rfl) (Nat.le_refl _) HI.out.2.1, _, p2, ?_⟩
              rw [HFI.out]
              exact OwnL.snoc HCX.out.1 HCX.out.2 p3 rfl rfl
            · have hfi : (pre ++ [(xa, xb)]).filter (wide d) = pre.filter (wide d) := by rw [List.filter_append]; simp [wide, r2]
              gi_wp2
              refine region_quiet_round (F := Fence.wide) rfl (by kernel_rfl) (by rfl) (by kernel_rfl) ?_
              repeat (quiet_step_in (fail))
              refine wpQuietIn_nil ?_
              intro _ hw'
              obtain ⟨nq, hw''⟩ := hw'
              subst hw''
              gi_wp2
              refine ⟨KeepsOthers.drewN W nq, KpT.ext ((Ext.refl W).drewN nq), HI.out.1.drewN nq, HI.out.2.1, _, HI.out.2.2.1, ?_⟩
              rw [hfi]
              exact HI.out.2.2.2.ext RWin.stable ((Ext.refl W).drewN nq)
          · intro D W hD ⟨j1, j2, vo, j3, j4⟩ hDD
            have hwf := HWF.out
            rw [hwf] at j4
            have y3 := j3.cell
            have f3 := j3.frozen
            have HJ := Lib.hid (And.intro j1 (And.intro j3 j4))
            obtain ⟨Ao, co, rfl, hco, _⟩ := j4.sl.shape
            have hDD' := Lib.hid hDD
            clear j1 j2 j3 j4 hwf
            refine (‹∀ (a : Act) (w : World), Code.wp Try.prog _ _ a w → _›) _ _ ?_
            by_cases r4 : R.length ≤ 32
            · have HA := Lib.hid (HMO.out.2 (by omega))
              go_wp2_with fail
              refine ⟨by simp, .inl ⟨_, _, rfl, run_takeDeferred hDD'.out, ?_⟩⟩
              refine ⟨.tuple #[.slice Ao R.length co, .int .i64 0], by simp [results, Try.results36, go_sem], ?_⟩
              rw [← hPost.out]
              refine ⟨(E1.trans HJ.out.1).put (by have := E1.size; have := E3.size; omega) _, _, by rw [HA.out], ?_⟩
              rw [HA.out]
              exact (HJ.out.2.2.grown (w' := W.putObj D (.deferred none)) (row := some D) (fun _ _ h => h) (grownBy_putObj' W D (.deferred none)) (fun g hg => by have h2 := Option.some.inj hg; subst h2; exact own_ne_other HJ.out.2.2 hDD'.out rfl)).sl
            · have HA := Lib.hid (HMO.out.1 (by omega))
              go_wp2_with fail
              refine ⟨by simp, .inl ⟨_, _, rfl, run_takeDeferred hDD'.out, ?_⟩⟩
              refine ⟨.tuple #[.slice none 0 0, .int .i64 6], by simp [results, Try.results36, go_sem], ?_⟩
              rw [← hPost.out]
              refine ⟨(E1.trans HJ.out.1).put (by have := E1.size; have := E3.size; omega) _, _, by rw [HA.out], ?_⟩
              rw [HA.out]
              exact sl_nil'
        · have HA := Lib.hid (windowsS_arg (k := k) h0 hmm hft)
          clear h0 hmm hr1 hr2 hPO
          by_cases hge : to' ≤ fr
          · clear hft
            go_wp2_with (first | (go_at_call 57; refine (C3.out _).mono ?_; rintro e w2 ⟨rfl, rfl⟩; clear C3) | (go_at_call 57; refine (C3'.out _).mono ?_; rintro e w2 ⟨rfl, rfl⟩))
            refine ⟨.tuple #[.slice none 0 0, .int .i64 2], by simp [results, Try.results36, go_sem], ?_⟩
            rw [← hPost.out]
            exact ⟨by (repeat' (first | exact Ext.refl _ | assumption | refine Ext.alloc ?_ _ | refine Ext.drew ?_ | refine Ext.drewN ?_ _ | refine Ext.set ?_ (by first | exact Nat.le_refl _ | exact le1 _ | exact le2 _ | exact le3 _ | exact le4 _ | exact le5 _ | exact le6 _) _ | refine Ext.trans ?_ (by assumption))), _, by rw [HA.out], by rw [HA.out]; exact sl_nil'⟩
          · have hfar : 14400 < to' - fr := by omega
            clear hft
            go_wp2_with (first | (go_at_call 57; refine (C3.out _).mono ?_; rintro e w2 ⟨rfl, rfl⟩; clear C3) | (go_at_call 57; refine (C3'.out _).mono ?_; rintro e w2 ⟨rfl, rfl⟩))
            refine ⟨.tuple #[.slice none 0 0, .int .i64 2], by simp [results, Try.results36, go_sem], ?_⟩
            rw [← hPost.out]
            exact ⟨by (repeat' (first | exact Ext.refl _ | assumption | refine Ext.alloc ?_ _ | refine Ext.drew ?_ | refine Ext.drewN ?_ _ | refine Ext.set ?_ (by first | exact Nat.le_refl _ | exact le1 _ | exact le2 _ | exact le3 _ | exact le4 _ | exact le5 _ | exact le6 _) _ | refine Ext.trans ?_ (by assumption))), _, by rw [HA.out], by rw [HA.out]; exact sl_nil'⟩
end Go.Proofs.Ytaomlmkcifpfkaa
