/- Contract: 'Next' of the program. -/
import Derived.Test.YtaomlmkcifpfkaaPWin
import Derived.Test.YtaomlmkcifpfkaaPAllow
import Derived.Test.YtaomlmkcifpfkaaPTools
import Derived.Deep.DeepCutAuto
namespace Go.Proofs.Ytaomlmkcifpfkaa
open Go.RowKit Go.Shelf Go.Maps
attribute [local go_sem] Oper.semAt_some

theorem KeepsOthers.drewN (W : World) (n : Nat) : KeepsOthers W (W.drewN n) := ⟨Nat.le_refl _, fun _ _ h _ => h⟩
theorem Ext.put {w W : World} (h : Ext w W) {l : Nat} (hl : w.heap.size ≤ l) (o : Obj) : Ext w (W.putObj l o) := Below.grown h (grownBy_putObj' W l o) (Below.size h) (fun k e => by cases e; exact hl)
theorem cell_put {W : World} {a : Addr} {v : Value} {l : Nat} {o : Obj} (h : W.cell? a = some v) (o' : Obj) (hl : W.heap[l]? = some o) (ho : o.isCells = false) : (W.putObj l o').cell? a = some v :=
  cell_kept h (grownBy_putObj' W l o') (fun r e => by cases e; exact ⟨o, hl, ho⟩)
/-- the iterator's value, and where its captives lie -/
theorem windows_c (B o : Nat) (fr to' : Int) (w : World) :
    Calls Try.prog 58 #[.pointer (some ⟨B, o, none⟩), .int .i64 fr, .int .i64 to'] w fun e w' => e = .returned (.func (.func 88) #[] #[.pointer (some ⟨w.heap.size + 1, 0, none⟩), .pointer (some ⟨w.heap.size + 1 + 1, 0, none⟩), .pointer (some ⟨w.heap.size, 0, none⟩)]) ∧
      Ext w w' ∧ Boxed w' w.heap.size 103 (.pointer (some ⟨B, o, none⟩)) ∧ Boxed w' (w.heap.size + 1) 2 (.int .i64 fr) ∧ Boxed w' (w.heap.size + 1 + 1) 2 (.int .i64 to') := by
  go_enter Try.func58, Try.ntmps58
  go_wp2_with fail
  go_ret
  refine ⟨by simp, by (repeat' (first | exact Ext.refl _ | assumption | refine Ext.alloc ?_ _ | refine Ext.drew ?_ | refine Ext.drewN ?_ _ | refine Ext.set ?_ (by first | exact Nat.le_refl _ | exact le1 _ | exact le2 _ | exact le3 _ | exact le4 _ | exact le5 _ | exact le6 _) _ | refine Ext.trans ?_ (by assumption))), ?_, ?_, ?_⟩
  · exact ((Boxed.new w _ _).alloc _).alloc _
  · have := (Boxed.new (w.alloc (.cells #[.pointer (some ⟨B, o, none⟩)] 103)) 2 (.int .i64 fr)).alloc (.cells #[.int .i64 to'] 2)
    rw [size_alloc] at this
    exact this
  · have := Boxed.new ((w.alloc (.cells #[.pointer (some ⟨B, o, none⟩)] 103)).alloc (.cells #[.int .i64 fr] 2)) 2 (.int .i64 to')
    rw [size_alloc, size_alloc] at this
    exact this

/-- the next start -/
def lastM (fr : Int) : Int := (fr / 1440 + 400) * 1440
def nextO (rs : List PRule) (fr d : Int) : Option Int := nextP (lastM fr) d (winsF (allowedB rs) (lastM fr + d - fr).toNat fr (-1))
def nextS (l : List PAuth) (t : PTrip) (k fr : Int) : Int × Int := if someE l t k = 0 then (if inB fr 0 1099511627776 = true then (match nextO (rsAt l t k) fr (minAt t k) with | some s => (s, 0) | none => (0, 22)) else (0, 3)) else (0, someE l t k)
theorem nextS_bad {l : List PAuth} {t : PTrip} {k m : Int} (h : someE l t k ≠ 0) : nextS l t k m = (0, someE l t k) := by unfold nextS; rw [if_neg h]
theorem nextS_range {l : List PAuth} {t : PTrip} {k m : Int} (h : someE l t k = 0) (h2 : inB m 0 1099511627776 = false) : nextS l t k m = (0, 3) := by unfold nextS; rw [if_pos h, if_neg (by rw [h2]; simp)]
theorem nextS_ok {l : List PAuth} {t : PTrip} {k m : Int} (h : someE l t k = 0) (h2 : inB m 0 1099511627776 = true) : nextS l t k m = (match nextO (rsAt l t k) m (minAt t k) with | some s => (s, 0) | none => (0, 22)) := by unfold nextS; rw [if_pos h, if_pos h2]
def NextR (l : List PAuth) (t : PTrip) (k fr : Int) (w : World) (e : Ending) (w' : World) : Prop := Ext w w' ∧ e = .returned (.tuple #[.int .i64 (nextS l t k fr).1, .int .i64 (nextS l t k fr).2])

set_option maxRecDepth 100000 in
set_option maxHeartbeats 4000000 in
theorem Next_c (v vp : Value) (l : List PAuth) (t : PTrip) (k fr : Int) (w : World) (hk : -9223372036854775808 ≤ k) (hk2 : k ≤ 9223372036854775807) (hs : Sl 4 RAuth w v l) (hp : Sl 3 RPass w vp t.passages) :
    Calls Try.prog 21 #[v, tripV t vp, .int .i64 k, .int .i64 fr] w (NextR l t k fr w) := by
  have C1 := fun w' (h : Ext w w') => findP_c v vp l t k w' hk hk2 (hs.ext RAuth.stable h) (hp.ext RPass.stable h)
  obtain ⟨A, cap, rfl, hl, hcap⟩ := hs.shape
  obtain ⟨Ap, capp, rfl, hpl, hpcap⟩ := hp.shape
  have C2 := fun w' => validMinute_c fr w'
  unfold tripV at *
  replace C1 := Lib.hid C1
  clear hs hp
  obtain ⟨Post, hPost⟩ : ∃ Post, NextR l t k fr w = Post := ⟨_, rfl⟩
  rw [hPost]
  replace hPost := Lib.hid hPost
  refine (callsIn_wide (n := 5)).1 ?_
  refine callsIn_of_wp_marks Try.func21 rfl trivial ?_ rfl
  simp only [Try.ntmps21, List.size_toArray, List.length_cons, List.length_nil, Nat.reduceAdd, Nat.reduceSub, Array.replicate_succ, Array.replicate_zero, List.push_toArray, List.append_toArray, List.nil_append, List.cons_append]
  refine wpIn_wide.2 ?_
  go_wp2_with fail
  refine (C1.out _ (by (repeat' (first | exact Ext.refl _ | assumption | refine Ext.alloc ?_ _ | refine Ext.drew ?_ | refine Ext.drewN ?_ _ | refine Ext.set ?_ (by first | exact Nat.le_refl _ | exact le1 _ | exact le2 _ | exact le3 _ | exact le4 _ | exact le5 _ | exact le6 _) _ | refine Ext.trans ?_ (by assumption))))).mono ?_
  rintro e w1 ⟨hb1, ⟨hne, rfl⟩ | ⟨h0, B, o, vl, vn, rfl, c0, c1, c2, hr1, hr2⟩⟩
  all_goals
    have d0 := Ext.cell hb1 (p := ⟨w.heap.size + 1, 0, none⟩) (v := .int .i64 0) (by go_simp)
    have d1 := Ext.cell hb1 (p := ⟨w.heap.size + 1 + 1, 0, none⟩) (v := .int .i64 0) (by go_simp)
    have g0 := Ext.frz hb1 (p := ⟨w.heap.size + 1, 0, none⟩) (by simp) (by go_simp)
    have g1 := Ext.frz hb1 (p := ⟨w.heap.size + 1 + 1, 0, none⟩) (by simp) (by go_simp)
    have E1 : Ext w w1 := by (repeat' (first | exact Ext.refl _ | assumption | refine Ext.alloc ?_ _ | refine Ext.drew ?_ | refine Ext.drewN ?_ _ | refine Ext.set ?_ (by first | exact Nat.le_refl _ | exact le1 _ | exact le2 _ | exact le3 _ | exact le4 _ | exact le5 _ | exact le6 _) _ | refine Ext.trans ?_ (by assumption)))
    have hl0 := lt_of_cell d0
    have hl1 := lt_of_cell d1
  · have hne' : (someE l t k != 0) = true := by simp [hne]
    have HA := Lib.hid (nextS_bad (m := fr) hne)
    generalize someE l t k = E at *
    go_wp2_with fail
    refine ⟨.tuple #[.int .i64 0, .int .i64 E], by simp [results, Try.results21, go_sem, d0, d1, hl0, hl1], ?_⟩
    rw [← hPost.out]
    exact ⟨by (repeat' (first | exact Ext.refl _ | assumption | refine Ext.alloc ?_ _ | refine Ext.drew ?_ | refine Ext.drewN ?_ _ | refine Ext.set ?_ (by first | exact Nat.le_refl _ | exact le1 _ | exact le2 _ | exact le3 _ | exact le4 _ | exact le5 _ | exact le6 _) _ | refine Ext.trans ?_ (by assumption))), by rw [HA.out]⟩
  · have hPO := passOk h0
    cases hm : inB fr 0 1099511627776
    · have HA := Lib.hid (nextS_range h0 hm)
      rw [hm] at C2
      clear hm h0 hr1 hr2 hPO
      replace C2 := Lib.hid C2
      go_wp2_with (go_at_call 57; refine (C2.out _).mono ?_; rintro e w2 ⟨rfl, rfl⟩)
      refine ⟨.tuple #[.int .i64 0, .int .i64 3], by simp [results, Try.results21, go_sem, d0, d1, hl0, hl1], ?_⟩
      rw [← hPost.out]
      exact ⟨by (repeat' (first | exact Ext.refl _ | assumption | refine Ext.alloc ?_ _ | refine Ext.drew ?_ | refine Ext.drewN ?_ _ | refine Ext.set ?_ (by first | exact Nat.le_refl _ | exact le1 _ | exact le2 _ | exact le3 _ | exact le4 _ | exact le5 _ | exact le6 _) _ | refine Ext.trans ?_ (by assumption))), by rw [HA.out]⟩
    · have HA := Lib.hid (nextS_ok h0 hm)
      rw [inB_iff] at hm
      rw [show inB fr 0 1099511627776 = true from inB_iff.2 hm] at C2
      obtain ⟨m1, m2⟩ := hm
      have hd1 := hPO.min1
      have hd2 := hPO.min2
      have HPO := Lib.hid hPO
      have HR1 := Lib.hid hr1
      have hno : nextO (rsAt l t k) fr (minAt t k) = nextP (lastM fr) (minAt t k) (winsF (allowedB (rsAt l t k)) (lastM fr + minAt t k - fr).toNat fr (-1)) := rfl
      generalize minAt t k = d at *
      have q1 : fr.tdiv 1440 = fr / 1440 := Int.tdiv_eq_ediv_of_nonneg m1
      have q2 : (fr / 1440 + 400) * 1440 = lastM fr := rfl
      have q3 : fr < lastM fr := by unfold lastM; omega
      have q4 : lastM fr ≤ fr + 576000 := by unfold lastM; omega
      have q5 : 0 ≤ fr / 1440 := by omega
      have q6 : fr / 1440 ≤ fr := by omega
      generalize lastM fr = L at *
      have hwr := IntWalk.i64_in (L + d) (by omega)
      generalize fr / 1440 = fd at *
      replace C2 := Lib.hid C2
      clear hr1 hr2 hPO h0
      go_upto_region 7 with (go_at_call 57; refine (C2.out _).mono ?_; rintro e w2 ⟨rfl, rfl⟩)
      have E2 : Ext w1 ((w1.alloc (.cells #[.pointer (some ⟨B, o, none⟩)] 103)).alloc (.cells #[.int .i64 L] 2)) := ((Ext.refl w1).alloc _).alloc _
      have b0 : Boxed ((w1.alloc (.cells #[.pointer (some ⟨B, o, none⟩)] 103)).alloc (.cells #[.int .i64 L] 2)) w1.heap.size 103 (.pointer (some ⟨B, o, none⟩)) := (Boxed.new w1 _ _).alloc _
      have b1 : Boxed ((w1.alloc (.cells #[.pointer (some ⟨B, o, none⟩)] 103)).alloc (.cells #[.int .i64 L] 2)) (w1.heap.size + 1) 2 (.int .i64 L) := by
        have := Boxed.new (w1.alloc (.cells #[.pointer (some ⟨B, o, none⟩)] 103)) 2 (.int .i64 L)
        rw [size_alloc] at this
        exact this
      generalize ((w1.alloc (.cells #[.pointer (some ⟨B, o, none⟩)] 103)).alloc (.cells #[.int .i64 L] 2)) = W2 at *
      have p0 := b0.cell
      have p1 := b1.cell
      have c2' := E2.cell c2
      have C3 := fun w' => windows_c B o fr (L + d) w'
      replace C3 := Lib.hid C3
      have HB := Lib.hid (And.intro b0 b1)
      clear b0 b1
      go_still_tail 8, (by kernel_rfl)
      go_upto_region 8 with (go_at_call 58; refine (C3.out _).mono ?_; rintro e w3 ⟨rfl, hb3, hx1, hx2, hx3⟩)
      obtain ⟨X, hX⟩ : ∃ X, winsF (allowedB (rsAt l t k)) (L + d - fr).toNat fr (-1) = X := ⟨_, rfl⟩
      have XB := winsF_bd (allowedB (rsAt l t k)) (L + d - fr).toNat fr (-1) m1 (by omega)
      rw [hX] at XB
      have HXB := Lib.hid XB
      rw [hX] at hno
      have HNO := Lib.hid hno
      clear hno
      clear XB
      have E3 : Ext w1 w3 := E2.drew.trans hb3
      have hz2 := E2.size
      have hz3 : W2.heap.size ≤ w3.heap.size := hb3.size
      have zx := (Array.getElem?_eq_some_iff.1 hx3).1
      have SQ := windows_seq B o (W2.heap.size + 1) (W2.heap.size + 1 + 1) W2.heap.size vl (rsAt l t k) fr (L + d - fr).toNat w1 w3 E3 HR1.out HPO.out.rules c0 m1 (by omega) hx2 (by rw [show fr + ((L + d - fr).toNat : Int) = L + d by omega]; exact hx3) hx1 (by omega) (by omega)
      rw [hX] at SQ
      obtain ⟨b0, b1⟩ := HB.out
      have b0' : Boxed w3 w1.heap.size 103 (.pointer (some ⟨B, o, none⟩)) := (hb3.block _ (Array.getElem?_eq_some_iff.1 b0).1).trans b0
      have b1' : Boxed w3 (w1.heap.size + 1) 2 (.int .i64 L) := (hb3.block _ (Array.getElem?_eq_some_iff.1 b1).1).trans b1
      have zb1 := (Array.getElem?_eq_some_iff.1 b1').1
      refine (wpIn_wide (n := 5)).1 ?_
      refine wpIn_rangeFunc_T (α := Int × Int) (n := 5) rfl (by omega) (gf := 88) rfl trivial (enters_of Try.func88 (by kernel_rfl) rfl) SQ (Ext.refl _) rfl
        (fun pre W => Ext w1 W ∧ Boxed W w1.heap.size 103 (.pointer (some ⟨B, o, none⟩)) ∧ Boxed W (w1.heap.size + 1) 2 (.int .i64 L) ∧ ∀ suf, X = pre ++ suf → nextP L d X = nextP L d suf)
        (fun c _ W => match c with
          | .ret => Ext w W ∧ ∃ s, nextP L d X = some s ∧ W.cell? ⟨w.heap.size + 1, 0, none⟩ = some (.int .i64 s) ∧ W.cell? ⟨w.heap.size + 1 + 1, 0, none⟩ = some (.int .i64 0)
          | .exit id => Ext w1 W ∧ id = 0 ∧ nextP L d X = none
          | _ => False)
        (fun _ _ h => h.1) ?_ ?_ ?_ ?_ ⟨E3, b0', b1', fun suf h => by rw [h]; rfl⟩
        (fun x a' W => ∃ H, W.cell? ⟨H, 0, none⟩ = some (.int .i64 x.1) ∧ W.cell? ⟨H, 1, none⟩ = some (.int .i64 x.2) ∧ a' = ({ tmps := #[.slice A l.length cap, .agg #[.int .i64 t.z0, .int .i64 t.z1, .int .i64 t.z2, .int .i64 t.z3, .int .i64 t.z4, .int .i64 t.z5, .slice Ap t.passages.length capp], .int .i64 k, .int .i64 fr, undef, .pointer (some ⟨w.heap.size, 0, none⟩), undef, undef, .pointer (some ⟨w.heap.size + 1, 0, none⟩), .pointer (some ⟨w.heap.size + 1 + 1, 0, none⟩), .pointer (some ⟨w1.heap.size, 0, none⟩), .int .i64 0, .pointer (some ⟨w1.heap.size + 1, 0, none⟩), .pointer (some ⟨H, 0, none⟩), .tuple #[.pointer (some ⟨B, o, none⟩), .int .i64 0], .slice A l.length cap, .agg #[.int .i64 t.z0, .int .i64 t.z1, .int .i64 t.z2, .int .i64 t.z3, .int .i64 t.z4, .int .i64 t.z5, .slice Ap t.passages.length capp], .int .i64 k, .tuple #[.pointer (some ⟨B, o, none⟩), .int .i64 0], .pointer (some ⟨B, o, none⟩), .int .i64 0, .int .i64 0, .bool false, undef, .int .i64 fr, .bool true, .bool false, .int .i64 fr, .int .i64 fd, .int .i64 (fd + 400), .int .i64 L, .pointer (some ⟨B, o, none⟩), .int .i64 fr, .int .i64 L, .pointer (some ⟨B, o, none⟩), .pointer (some ⟨B, o, none⟩), .pointer (some ⟨B, o + 2, none⟩), .int .i64 d, .int .i64 (L + d), .func (.func 88) #[] #[.pointer (some ⟨W2.heap.size + 1, 0, none⟩), .pointer (some ⟨W2.heap.size + 1 + 1, 0, none⟩), .pointer (some ⟨W2.heap.size, 0, none⟩)], winV x, undef, undef, undef, undef, undef, undef, undef, undef, undef, undef, undef, undef, undef, undef, undef, undef], defers := [] } : Act)) ?_ ?_ ?_ ?_ ?_
      · exact fun s W W' ⟨h1, h2, h3, h4⟩ he => ⟨h1.trans he, (he.block _ (Array.getElem?_eq_some_iff.1 h2).1).trans h2, (he.block _ (Array.getElem?_eq_some_iff.1 h3).1).trans h3, h4⟩
      · exact fun s W p u cs fr ⟨h1, h2, h3, h4⟩ _ hge => ⟨h1.set (by omega) u, (Below.heap_setCell W p u _ (by omega)).trans h2, (Below.heap_setCell W p u _ (by omega)).trans h3, h4⟩
      · exact fun s W l o o' ⟨h1, h2, h3, h4⟩ hl _ _ => ⟨h1.put (by omega) o', (World.putObj_heap_other (by omega)).trans h2, (World.putObj_heap_other (by omega)).trans h3, h4⟩
      · intro c s W l1 o1 o' hi hl1 hW ho
        cases c
        case ret =>
          obtain ⟨h1, sv, h2, h3, h4⟩ := hi
          exact ⟨h1.put (by omega) o', sv, h2, cell_put h3 o' hW ho, cell_put h4 o' hW ho⟩
        case exit id => exact ⟨hi.1.put (by omega) o', hi.2⟩
        all_goals exact hi.elim
      · exact fun x a' W l1 o1 o' ⟨H, h1, h2, h3⟩ _ hW ho => ⟨H, cell_put h1 o' hW ho, cell_put h2 o' hW ho, h3⟩
      · intro l1 x W K hz hK
        obtain ⟨xa, xb⟩ := x
        simp only [winV] at hK ⊢
        gi_wp2
        exact hK _ _ ((Ext.refl W).alloc _) ⟨W.heap.size, by go_simp, by go_simp, rfl⟩
      · rintro l1 pre x suf a' W ⟨i1, i2, i3, i4⟩ ⟨H, x0, x1, rfl⟩ hsp hz
        obtain ⟨xa, xb⟩ := x
        simp only [winV] at *
        have y0 := i2.cell
        have y1 := i3.cell
        have y2 := i1.cell c2
        have e0 := i1.cell d0
        have e1 := i1.cell d1
        have f0 := Ext.frz i1 (p := ⟨w.heap.size + 1, 0, none⟩) hl0 g0
        have f1 := Ext.frz i1 (p := ⟨w.heap.size + 1 + 1, 0, none⟩) hl1 g1
        have n1 := i4 _ hsp
        have n2 : nextP L d ((xa, xb) :: suf) = if L ≤ xa then none else if d ≤ xb - xa then some xa else nextP L d suf := rfl
        rw [n2] at n1
        have HN := Lib.hid n1
        have HI := Lib.hid (And.intro i1 (And.intro i2 (And.intro i3 i4)))
        clear n1 n2 i1 i2 i3 i4
        have xbd := HXB.out (xa, xb) (by rw [hsp]; simp)
        simp only at xbd
        obtain ⟨xb1, xb2, xb3⟩ := xbd
        have hwx := IntWalk.i64_in (xb - xa) (by omega)
        have hmix : Try.prog.follows .mixedOrders = true := by kernel_rfl
        by_cases r1 : L ≤ xa
        · gi_wp2
          exact ⟨KeepsOthers.refl _, HI.out.1, rfl, by rw [HN.out, if_pos r1]⟩
        · by_cases r2 : d ≤ xb - xa
          · gi_wp2
            refine region_quiet_round (F := Fence.wide) rfl (by kernel_rfl) (by rfl) (by kernel_rfl) ?_
            repeat (quiet_step_in (fail))
            refine wpQuietIn_nil ?_
            intro _ hw'
            obtain ⟨nq, hw''⟩ := hw'
            subst hw''
            gi_wp2
            exact ⟨((KeepsOthers.drewN W nq).trans (KeepsOthers.setCell _ _ _)).trans (KeepsOthers.setCell _ _ _), ((E1.trans HI.out.1).drewN nq |>.set (by simp only; omega) _).set (by simp only; omega) _, xa, by rw [HN.out, if_neg (by omega), if_pos (by omega)], by go_simp, by go_simp⟩
          · gi_wp2
            refine region_quiet_round (F := Fence.wide) rfl (by kernel_rfl) (by rfl) (by kernel_rfl) ?_
            repeat (quiet_step_in (fail))
            refine wpQuietIn_nil ?_
            intro _ hw'
            obtain ⟨nq, hw''⟩ := hw'
            subst hw''
            gi_wp2
            exact ⟨KeepsOthers.drewN W nq, KpT.ext ((Ext.refl W).drewN nq), HI.out.1.drewN nq, HI.out.2.1, HI.out.2.2.1, fun suf' h => by
              have h2 : suf = suf' := by
                have := hsp.symm.trans h
                simpa using this
              rw [HN.out, if_neg (by omega), if_neg (by omega), h2]⟩
      · intro D W hD ⟨i1, i2, i3, i4⟩ hDD
        have n1 : nextP L d X = none := by rw [i4 [] (by simp)]; rfl
        have e0 := i1.cell d0
        have e1 := i1.cell d1
        have f0 := Ext.frz i1 (p := ⟨w.heap.size + 1, 0, none⟩) hl0 g0
        have f1 := Ext.frz i1 (p := ⟨w.heap.size + 1 + 1, 0, none⟩) hl1 g1
        have hDl := (Array.getElem?_eq_some_iff.1 hDD).1
        refine (‹∀ (a : Act) (w : World), Code.wp Try.prog _ _ a w → _›) _ _ ?_
        go_wp2_with fail
        have hD2 : ((W.setCell ⟨w.heap.size + 1, 0, none⟩ (.int .i64 0)).setCell ⟨w.heap.size + 1 + 1, 0, none⟩ (.int .i64 22)).heap[D]? = some (.deferred (some [])) := (Below.heap_setCell _ _ _ _ (by simp only; omega)).trans ((Below.heap_setCell _ _ _ _ (by simp only; omega)).trans hDD)
        refine ⟨by simp, .inl ⟨_, _, rfl, run_takeDeferred hD2, ?_⟩⟩
        have r0 : ((W.setCell ⟨w.heap.size + 1, 0, none⟩ (.int .i64 0)).setCell ⟨w.heap.size + 1 + 1, 0, none⟩ (.int .i64 22)).cell? ⟨w.heap.size + 1, 0, none⟩ = some (.int .i64 0) := by go_simp
        have r1 : ((W.setCell ⟨w.heap.size + 1, 0, none⟩ (.int .i64 0)).setCell ⟨w.heap.size + 1 + 1, 0, none⟩ (.int .i64 22)).cell? ⟨w.heap.size + 1 + 1, 0, none⟩ = some (.int .i64 22) := by go_simp
        have r0' := cell_put r0 (.deferred none) hD2 rfl
        have r1' := cell_put r1 (.deferred none) hD2 rfl
        refine ⟨.tuple #[.int .i64 0, .int .i64 22], by simp [results, Try.results21, go_sem, r0', r1'], ?_⟩
        rw [← hPost.out]
        refine ⟨(((E1.trans i1).set (by simp only; omega) _).set (by simp only; omega) _).put (by omega) _, ?_⟩
        rw [HA.out, HNO.out, n1]
      · intro D c pre W hD hc hDD
        cases c
        case ret =>
          obtain ⟨i1, sv, n1, r0, r1⟩ := hc
          have r0' := cell_put r0 (.deferred none) hDD rfl
          have r1' := cell_put r1 (.deferred none) hDD rfl
          refine wpIn_wide.2 ?_
          go_wp2_with fail
          refine ⟨by simp, .inl ⟨_, _, rfl, run_takeDeferred hDD, ?_⟩⟩
          refine ⟨.tuple #[.int .i64 sv, .int .i64 0], by simp [results, Try.results21, go_sem, r0', r1'], ?_⟩
          rw [← hPost.out]
          refine ⟨i1.put (by omega) _, ?_⟩
          rw [HA.out, HNO.out, n1]
        case exit id =>
          obtain ⟨i1, rfl, n1⟩ := hc
          have e0 := i1.cell d0
          have e1 := i1.cell d1
          have f0 := Ext.frz i1 (p := ⟨w.heap.size + 1, 0, none⟩) hl0 g0
          have f1 := Ext.frz i1 (p := ⟨w.heap.size + 1 + 1, 0, none⟩) hl1 g1
          refine wpIn_wide.2 ?_
          go_wp2_with fail
          have hDl := (Array.getElem?_eq_some_iff.1 hDD).1
          have hD2 : ((W.setCell ⟨w.heap.size + 1, 0, none⟩ (.int .i64 0)).setCell ⟨w.heap.size + 1 + 1, 0, none⟩ (.int .i64 22)).heap[D]? = some (.deferred (some [])) := (Below.heap_setCell _ _ _ _ (by simp only; omega)).trans ((Below.heap_setCell _ _ _ _ (by simp only; omega)).trans hDD)
          refine ⟨by simp, .inl ⟨_, _, rfl, run_takeDeferred hD2, ?_⟩⟩
          have r0 : ((W.setCell ⟨w.heap.size + 1, 0, none⟩ (.int .i64 0)).setCell ⟨w.heap.size + 1 + 1, 0, none⟩ (.int .i64 22)).cell? ⟨w.heap.size + 1, 0, none⟩ = some (.int .i64 0) := by go_simp
          have r1 : ((W.setCell ⟨w.heap.size + 1, 0, none⟩ (.int .i64 0)).setCell ⟨w.heap.size + 1 + 1, 0, none⟩ (.int .i64 22)).cell? ⟨w.heap.size + 1 + 1, 0, none⟩ = some (.int .i64 22) := by go_simp
          have r0' := cell_put r0 (.deferred none) hD2 rfl
          have r1' := cell_put r1 (.deferred none) hD2 rfl
          refine ⟨.tuple #[.int .i64 0, .int .i64 22], by simp [results, Try.results21, go_sem, r0', r1'], ?_⟩
          rw [← hPost.out]
          refine ⟨(((E1.trans i1).set (by simp only; omega) _).set (by simp only; omega) _).put (by omega) _, ?_⟩
          rw [HA.out, HNO.out, n1]
        all_goals exact hc.elim
end Go.Proofs.Ytaomlmkcifpfkaa
